import Derived.Laws.StructEq
import Derived.Laws.BytesString
import Derived.Laws.Tables
import Derived.Great.BuildSlice
import Derived.Laws.Append
import Derived.Room.Entries
import Derived.Test.YtpmimbgkiindbaaGreatAV0
set_option linter.unusedVariables false
set_option linter.unusedSimpArgs false
set_option linter.unusedSectionVars false
namespace Go.V
noncomputable section
open Go
structure ny (A:bV) (S:St) (d:Option Nat) (site:Nat):Prop where
 w_:A.w_=true->∀d',d=some d'->∀u,(S.get u).roots.contains d'=false
 pl:A.pl=true->∀d',d=some d'->∀u,(S.get u).gB d'=true
 fr:A.fr=true->site<1048576/\∀u,(S.get u).aR site (site+1)=true
theorem Mk.dP(s:Nat):∀{m:Mk},m.ak=true->(m.stamp s).fresh s (s+1)
 | .no,_=>trivial
 | .gone,_=>trivial
 | .own s0 m,h=>by
  simp only[Mk.ak,bC,nU]at h;simp only[Mk.stamp,aj h.1];exact⟨b7 _,Nat.lt_succ_self _⟩
 | .pr a b,h=>by
  simp only[Mk.ak,bC]at h;exact⟨Mk.dP s h.1,Mk.dP s h.2⟩
theorem Kv(t:Ty)(m:Mk)(x:t.den):focus t m x []=some ⟨t,m,x⟩:=by cases t<;>rfl
theorem DQ(h:Array Obj)(t:Ty)(c:List Value)(base:fy):b8 h t c base []=some (base,c):=by cases t<;>rfl
theorem xI(t:Ty)(x:t.den):bq t x []:=by cases t<;>trivial
theorem aaP{h:Array Obj}{S:St}{g:ay}{r:Nat}{R:aB}(hR:S.root r=some R){c:List Value}{F:BS}(hC:g.C r=c)
  (rep:aq h g.Pr R.ty R.ms R.x c F):qe h S g (cW r R.ty R.ms R.x []) (cU R.ty c):=by
 by_cases hu:R.ty=.unit
 .obtain⟨t,m,x,mem⟩:=R;simp only at hu rep⊢;subst hu;simp only[aq]at rep;subst rep;simp only[cW,qe,cU,Ty.agg];rfl
 .refine dc.rel rep (DR hR _ _ _ [] (g.base r) c F (Kv _ _ _) (xI _ _) ?_ rep) hu;rw[hC];exact DQ _ _ _ _
theorem BO{h:Array Obj}{S:St}{d5:aO}{g1:ay}{tmps:Array Value}{H:BS}(st:az h ⟨S.sl,d5⟩ g1 tmps H){t:Ty}{m:Mk}{x:t.den}{c:List Value}{F:BS}
  (rep:aq h g1.Pr t m x c F) (tg:aK g1.hd t m c) (hF:Sub F H) {A:bV} {d:Option Nat} {site:Nat} (ok:ny A S d site) {β:Bool} {v:AV} {rt':aO}
  (e:(dR A d5 d site t m x false).dec β=some (v,rt')) :
  ∃g',az h ⟨S.sl,rt'⟩ g' tmps Nil/\qe h ⟨S.sl,rt'⟩ g' v (cU t c)/\g'.cM g1:=by
 cases d with
 | none=>simp only[dR,Tr.dec,aI,a_]at e;obtain⟨rfl,rfl⟩:=e;exact⟨g1,st.bx (Sub.nil _),by simp only[qe],.refl _⟩
 | some d=>
  simp only[dR,e7,dX]at e;split at e
  .simp[Tr.dec]at e
  .rename_i hn;simp only[jg,jV,nT,GS,nU]at hn;split at e
   .rename_i hs;simp only[Tr.dec,aI,a_]at e;obtain⟨rfl,rfl⟩:=e;exact⟨g1,st.bx (Sub.nil _),by simp only[qe];exact⟨c,aq.eH t hs rep,rfl⟩,.refl _⟩
   .split at e
    .rename_i hc;simp only[Tr.dec,aI,a_]at e;obtain⟨rfl,rfl⟩:=e;have nY:=(aq.stamp (h:=h) (Pr:=g1.Pr) site t).1 rep;have key:∀u,((⟨S.sl,d5⟩:St).get u).roots.contains d=false\/(∃lo hi,((⟨S.sl,d5⟩:St).get u).aR lo hi=true/\((⟨S.sl,d5⟩:St).get u).gB d=true/\(m.stamp site).fresh lo hi/\(none:Option Nat)=none):=by
      intro u;simp only[jg,bC]at hc;rcases hc with hc | ⟨⟨jq,gS⟩,qV⟩
      .exact .inl (ok.w_ hc d rfl u)
      .exact .inr ⟨site,site+1,(ok.fr jq).2 u,ok.pl qV d rfl u,Mk.dP site gS,rfl⟩
     obtain⟨g',s1,s2,s3,s4,s5,s6⟩:=st.ko hn.1 nY (aK.stamp hn.2 t tg) hF none (fun b hb=>by simp at hb) key;refine⟨g',s1.bx (Sub.nil _),?_,s3⟩;have hR:(⟨S.sl,d5.aD d (some ⟨t,m.stamp site,x,false⟩)⟩:St).root d=some ⟨t,m.stamp site,x,false⟩:=by have:=St.bY (⟨S.sl,d5⟩:St) d (some ⟨t,m.stamp site,x,false⟩) d;rw[aj ⟨rfl,hn.1⟩]at this;exact this
     exact aaP (R:=⟨t,m.stamp site,x,false⟩) hR s4 (by rw[s2];exact nY)
    .simp[Tr.dec]at e
theorem Ii{h:Array Obj}{S:St}{d5:aO}{g1:ay}{tmps:Array Value}{H:BS}(st:az h ⟨S.sl,d5⟩ g1 tmps H){t:Ty}{m:Mk}{x:t.den}{c:List Value}{F:BS}
  (rep:aq h g1.Pr t m x c F) (tg:aK g1.hd t m c) (hF:Sub F H) {b:Nat} (hb:H b) (oh:¬ F b) (ho:iS h b c.toArray)
  {A:bV} {d:Option Nat} {site:Nat} (ok:ny A S d site) {β:Bool} {v:AV} {rt':aO}
  (e:(dR A d5 d site t m x true).dec β=some (v,rt')) :
  ∃g',az h ⟨S.sl,rt'⟩ g' tmps Nil/\qe h ⟨S.sl,rt'⟩ g' v (.pointer (some ⟨b,0,none⟩))/\g'.cM g1:=by
 cases d with
 | none=>simp only[dR,Tr.dec,aI,a_]at e;obtain⟨rfl,rfl⟩:=e;exact⟨g1,st.bx (Sub.nil _),by simp only[qe],.refl _⟩
 | some d=>
  simp only[dR,aX]at e;split at e
  .simp[Tr.dec]at e
  .rename_i hn;simp only[jg,jV,nT,GS,nU]at hn;split at e
   .rename_i hc;simp only[Tr.dec,aI,a_]at e;obtain⟨rfl,rfl⟩:=e;have nY:=(aq.stamp (h:=h) (Pr:=g1.Pr) site t).1 rep;obtain⟨g',s1,s2,s3,s4,s5,s6⟩:=st.ko hn.1 nY (aK.stamp hn.2 t tg) hF (some b)
     (fun b' hb'=>by simp only[aI]at hb';subst hb';exact⟨hb,oh,ho⟩) (fun u=>.inl (ok.w_ hc d rfl u))
    refine⟨g',s1.bx (Sub.nil _),?_,s3⟩;simp only[qe];intro R hR d' hf';have cg:(⟨S.sl,d5.aD d (some ⟨t,m.stamp site,x,true⟩)⟩:St).root d=some ⟨t,m.stamp site,x,true⟩:=by have:=St.bY (⟨S.sl,d5⟩:St) d (some ⟨t,m.stamp site,x,true⟩) d;rw[aj ⟨rfl,hn.1⟩]at this;exact this
    rw[cg]at hR;simp only[aI]at hR;subst hR;refine⟨xI _ _,b,0,c,?_,rfl⟩;rw[DQ];simp only[ay.base,s5,s4,dV]
   .simp[Tr.dec]at e
def Post(S:St)(g:ay)(w:World)(tmps:Array Value)(v:AV)(rt':aO)(val:Value)(w':World):Prop:=
 ∃g',az w'.heap ⟨S.sl,rt'⟩ g' tmps Nil/\qe w'.heap ⟨S.sl,rt'⟩ g' v val/\g'.cM g/\jW g.L w w'
theorem Post.same{S:St}{g:ay}{w:World}{tmps:Array Value}{v:AV}{val:Value}(st:az w.heap S g tmps Nil)(x:qe w.heap S g v val):Post S g w tmps v S.rt val w:=
 ⟨g,st,x,.refl g,.refl _ _⟩
end
end Go.V
namespace Go.V
noncomputable section
open Go
def rG(S:St)(g:ay)(w:World)(tmps:Array Value)(T:Tr (AV×aO))(val:Value)(w':World):Prop:=
 ∃β v rt',T.dec β=some (v,rt')/\Post S g w tmps v rt' val w'
def e8(P:Program)(S:St)(g:ay)(w:World)(tmps:Array Value)(T:Tr (AV×aO)):Result Next->Prop
 | .ok (.value val) w'=>rG S g w tmps T val w'
 | .ok .skip w'=>rG S g w tmps T undef w'
 | .ok (.enter f args) w'=>Calls P f args w' fun
   | .returned val,w''=>rG S g w tmps T val w''
   | _,_=>False
 | _=>False
def bS(T:Tr (AV×aO)):Prop:=∀β,∃x,T.dec β=some x
theorem bS.fail:¬ bS .fail:=fun h=>by obtain⟨x,hx⟩:=h true;simp[Tr.dec]at hx
abbrev Goal(P:Program)(C:Ctx)(D:Den C)(S:St)(g:ay)(w:World)(tmps:Array Value)(a:Act)(ρ:Operand->AV)(A:bV)(site:Nat)(hint:Bool)(o:Oper):Prop:=
 bS (aY C D A ρ S.rt site hint o)->e8 P S g w tmps (aY C D A ρ S.rt site hint o) ((execOp a.eval o).run P w)
section
variable {P:Program} {C:Ctx} {D:Den C} {S:St} {g:ay} {w:World} {tmps:Array Value} {a:Act} {ρ:Operand->AV}
theorem e8.value{T:Tr (AV×aO)}{r:Result Next}{val:Value}{w':World}(hr:r=.ok (.value val) w')(h:rG S g w tmps T val w'):e8 P S g w tmps T r:=by subst hr;exact h
theorem e8.ret{r:Result Next}{val:Value}{v:AV}(hr:r=.ok (.value val) w)(st:az w.heap S g tmps Nil)(x:qe w.heap S g v val) :
  e8 P S g w tmps (.ret (v,S.rt)) r:=
 e8.value hr ⟨true,v,S.rt,rfl,Post.same st x⟩
theorem Pd{v:AV}{b:Bool}{val:Value}(h:asBool v=some b)(x:qe w.heap S g v val):val=.bool b:=by
 cases v with
 | val t y=>cases t<;>simp[asBool]at h;subst h;simp only[qe,aq]at x;obtain⟨c,rfl,rfl⟩:=x;rfl
 | cF y=>simp[asBool]at h;subst h;simpa only [qe] using x
 | _=>simp[asBool]at h
theorem BQ{k:IntKind}{n:Int}{val:Value}(x:qe w.heap S g (.val (.int k) n) val):val=.int k n:=by simp only[qe,aq]at x;obtain⟨c,rfl,rfl⟩:=x;rfl
theorem Ax{b:Bool}{val:Value}(x:qe w.heap S g (.val .bool b) val):val=.bool b:=by simp only[qe,aq]at x;obtain⟨c,rfl,rfl⟩:=x;rfl
theorem Iu{s:ByteArray}{val:Value}(x:qe w.heap S g (.val .str s) val):val=.string s:=by simp only[qe,aq]at x;obtain⟨c,rfl,rfl⟩:=x;rfl
theorem uV(k:IntKind)(n:Int):qe w.heap S g (.val (.int k) n) (.int k n):=by simp only[qe,aq];exact⟨_,rfl,rfl⟩
theorem CT(b:Bool):qe w.heap S g (.val .bool b) (.bool b):=by simp only[qe,aq];exact⟨_,rfl,rfl⟩
theorem A3(s:ByteArray):qe w.heap S g (.val .str s) (.string s):=by simp only[qe,aq];exact⟨_,rfl,rfl⟩
theorem Ie{v:AV}{k:IntKind}{n:Int}{val:Value}(h:vT v=some (k,n))(x:qe w.heap S g v val):val=.int k n:=by
 cases v with
 | val t y=>cases t<;>simp[vT]at h;obtain⟨rfl,rfl⟩:=h;exact BQ x
 | _=>simp[vT]at h
variable {A:bV} {site:Nat} {hint:Bool} (bn:hY P C) (st:az w.heap S g tmps Nil) (hρ:∀x,qe w.heap S g (ρ x) (a.eval x))
include st hρ
theorem ajB{o:Oper}{x:Operand}(ho:o.op=.move x):Goal P C D S g w tmps a ρ A site hint o:=by intro _;simp only[aY,ho];exact e8.ret (by simp[execOp,ho]) st (hρ x)
theorem ajI{o:Oper}{c x y:Operand}(ho:o.op=.pick c x y):Goal P C D S g w tmps a ρ A site hint o:=by
 intro ht;simp only[aY,ho]at ht⊢;cases hb:V.asBool (ρ c) with
 | none=>rw[hb]at ht;exact absurd ht bS.fail
 | some b=>
  have hv:=Pd hb (hρ c);cases b with
  | true=>exact e8.value (val:=a.eval x) (w':=w) (by simp[execOp,ho,hv,Go.asBool]) ⟨true,_,_,rfl,Post.same st (hρ x)⟩
  | false=>exact e8.value (val:=a.eval y) (w':=w) (by simp[execOp,ho,hv,Go.asBool]) ⟨true,_,_,rfl,Post.same st (hρ y)⟩
omit hρ in
theorem GB{r:Nat}{p:Path}{d:Dy}{v:Value}(hf:S.rt.focus r p=some d)(x:qe w.heap S g (.addr r p) v) :
  ∃R b off c F,S.root r=some R/\focus R.ty R.ms R.x p=some d/\bq R.ty R.x p/\b8 w.heap R.ty (g.C r) (g.base r) p=some (some (b,off),c)/\v=.pointer (some ⟨b,off,none⟩)/\
   aq w.heap g.Pr d.ty d.ms d.x c F/\yx w.heap (some (b,off)) c F/\g.G r b:=by
 simp only[aO.focus]at hf;split at hf
 .rename_i R hR;simp only[qe]at x;obtain⟨h1,b,off,c,h2,h3⟩:=x R hR d hf;obtain⟨base,c',F,q1,q2,q3,q4,q5,_⟩:=st.update hR hf h1;rw[h2]at q1;simp only[aI,a_]at q1;obtain⟨rfl,rfl⟩:=q1;exact⟨R,b,off,c,F,hR,hf,h1,h2,h3,q2,q4,q5 b off rfl⟩
 .simp at hf
theorem aj4{o:Oper}{x:Operand}(ho:o.op=.nilCheck x):Goal P C D S g w tmps a ρ A site hint o:=by
 intro ht;simp only[aY,ho]at ht⊢;have hx:=hρ x;cases hv:ρ x with
 | addr r p=>
  rw[hv]at hx ht;simp only at ht⊢;cases hf:S.rt.focus r p with
  | none=>rw[hf]at ht;exact absurd ht bS.fail
  | some d=>obtain⟨R,b,off,c,F,_,_,_,_,e,_⟩:=GB st hf hx;exact e8.ret (val:=a.eval x) (by simp[execOp,ho,e]) st hx
 | b_ t y=>rw[hv]at hx;have hx':=hx;simp only[qe]at hx';obtain⟨b,off,cs,e,_⟩:=hx';exact e8.ret (val:=a.eval x) (by simp[execOp,ho,e]) st hx
 | gz f c=>rw[hv]at hx;have hx':=hx;simp only[qe]at hx';obtain⟨vs,e,_⟩:=hx';exact e8.ret (val:=a.eval x) (by simp[execOp,ho,e]) st hx
 | _=>rw[hv]at ht;exact absurd ht bS.fail
theorem aji{o:Oper}{op:UnOp}{t:TypeId}{x:Operand}(ho:o.op=.unOp op t x):Goal P C D S g w tmps a ρ A site hint o:=by
 intro ht;simp only[aY,ho]at ht⊢;have hx:=hρ x;cases op with
 | not=>
  split at ht
  .rename_i b _ hv;rw[hv]at hx;exact e8.ret (val:=.bool (!b)) (by simp[execOp,ho,Ax hx,Op.unary]) st (CT _)
  .rename_i _ _ hc _;simp at hc
  .exact absurd ht bS.fail
 | neg=>
  split at ht
  .rename_i _ _ hc _;simp at hc
  .rename_i kd n _ hv;rw[hv]at hx;exact e8.ret (val:=.int kd (kd.wrap (0-n))) (by simp[execOp,ho,BQ hx,Op.unary,Op.intArith]) st (uV _ _)
  .exact absurd ht bS.fail
 | _=>exact absurd ht bS.fail
omit st hρ in
theorem Up:∀(p:Path){t:Ty}{x:t.den}{d:Dy},focus t .no x p=some d->d.ms=.no/\qx p=false
 | [],t,x,d,h=>by rw[Kv]at h;simp only[aI]at h;subst h;exact⟨rfl,rfl⟩
 | .fst::p,t,x,d,h=>by
  cases t with
  | pair a b=>simp only[focus,Mk.fst]at h;exact Up p h
  | _=>simp[focus]at h
 | .snd::p,t,x,d,h=>by
  cases t with
  | pair a b=>simp only[focus,Mk.snd]at h;exact Up p h
  | _=>simp[focus]at h
 | .idx i s::p,t,x,d,h=>by cases t<;>simp[focus]at h
end
end
theorem Uq{C:Ctx}:∀(f:Nat){fs:List Field}{off:Nat}{T:Ty}{m:Mk}{x:T.den}{d:Dy},mF C fs off T->focus T m x (g6 f)=some d->
  ∃fd,fs[f]? = some fd/\d.ty=C.ty fd.type/\fd.offset=off+ew T (g6 f)/\(C.ty fd.type).nz=true/\qx (g6 f)=false
 | 0,fs,off,T,m,x,d,hs,hf=>by
  cases fs with
  | nil=>simp only[mF]at hs;subst hs;simp[g6,focus]at hf
  | cons fd fs=>
   simp only[mF]at hs;obtain⟨b,rfl,h1,_,h2,h3⟩:=hs;simp only[g6,focus,aI]at hf;subst hf;refine⟨fd,rfl,rfl,?_,h2,rfl⟩;have:ew (Ty.pair (C.ty fd.type) b) (g6 0)=ew (C.ty fd.type) []:=rfl;rw[this];have:ew (C.ty fd.type) []=0:=by cases C.ty fd.type<;>rfl
   omega
 | f+1,fs,off,T,m,x,d,hs,hf=>by
  cases fs with
  | nil=>simp only[mF]at hs;subst hs;simp[g6,focus]at hf
  | cons fd fs=>simp only[mF]at hs;obtain⟨b,rfl,h1,_,h2,h3⟩:=hs;simp only[g6,focus]at hf;obtain⟨fd',q1,q2,q3,q4,q5⟩:=Uq f h3 hf;refine⟨fd',by simpa using q1,q2,?_,q4,by simpa [g6,qx] using q5⟩;have:ew (Ty.pair (C.ty fd.type) b) (g6 (f+1))=(C.ty fd.type).width+ew b (g6 f):=rfl;omega
theorem Ty.kr{t:Ty}(h:t.nz=true):t≠.unit:=by rintro rfl;simp[Ty.nz]at h
theorem Fv{t:Ty}(h:t.nz=true)(ha:t.agg=false):t.width=1:=by cases t<;>simp_all [Ty.nz,Ty.agg,Ty.width]
section
variable {P:Program} {C:Ctx} {D:Den C} {S:St} {g:ay} {w:World} {tmps:Array Value} {a:Act} {ρ:Operand->AV}
variable {A:bV} {site:Nat} {hint:Bool} (bn:hY P C) (st:az w.heap S g tmps Nil) (hρ:∀x,qe w.heap S g (ρ x) (a.eval x))
theorem FN{t:TypeId}(k:lW P C t)(hz:(C.ty t).nz=true){b o:Nat}{c:List Value}(hr:w.rangeAt b o c)(hl:c.length=(C.ty t).width) :
  (Instr.loadAt t (.pointer (some ⟨b,o,none⟩))).run P w=.ok (cU (C.ty t) c) w:=by
 simp only[Instr.loadAt,Instr.sureAddr,loadVar,Sem.run_bind,Sem.run_pure,Result.andThen_ok,k.oU];by_cases ha:(C.ty t).agg=true
 .have h1:(loadCells ⟨b,o,none⟩ c.length).run P w=.ok c.toArray w:=run_loadCells_list (P:=P) w ⟨b,o,none⟩ c (fun j v hv=>by rw[Addr.add_mid];exact hr j v hv);rw[hl]at h1;simp only[ha,aX,Sem.run_bind,k.fI,Result.andThen_ok,h1,Sem.run_pure,cU]
 .have vq:(C.ty t).agg=false:=by simpa using ha
  have hw:=Fv hz vq;have:∃v,c=[v]:=by
   rw[hw]at hl
   match c,hl with
   | [v],_=>exact⟨v,rfl⟩
  obtain⟨v,rfl⟩:=this;have:=hr 0 v rfl;simp only[nS]at this;simp[vq,Go.load,Go.run_load,this,cU,Sem.run]
include bn st hρ
theorem ajy{o:Oper}{t:TypeId}{x:Operand}(ho:o.op=.load t x):Goal P C D S g w tmps a ρ A site hint o:=by
 intro ht;simp only[aY,ho]at ht⊢;have hx:=hρ x;by_cases hz:(C.ty t).nz=true
 .have k:=bn t hz;simp only[hz,aX]at ht⊢;cases hv:ρ x with
  | b_ t' y=>
   rw[hv]at hx ht;simp only[uY]at ht⊢;cases hc:qbv t' (C.ty t) y with
   | none=>rw[hc]at ht;exact absurd ht bS.fail
   | some z=>simp only[qe]at hx;obtain⟨b,off,cs,e,hp,hb,hs,rep⟩:=hx;have hw:=aq.width t' rep;obtain⟨e1,h_⟩:=aq.cast hc rep;subst e1;have hrun:=FN (w:=w) k hz (BD hb hs) hw;refine e8.ret (v:=.val (C.ty t) z) (val:=cU (C.ty t) (sub cs off (C.ty t).width)) ?_ st (by simp only[qe];exact⟨_,h_,rfl⟩);simp[execOp,ho,e,hrun]
  | addr r p=>
   rw[hv]at hx ht;simp only[uY]at ht⊢;cases hf:S.rt.focus r p with
   | none=>rw[hf]at ht;exact absurd ht bS.fail
   | some d=>
    rw[hf]at ht;simp only at ht⊢;by_cases hd:d.ty=C.ty t
    .simp only[hd,aX]at ht⊢;obtain⟨R,b,off,c,F,hR,yT,hin,eg,e,rep,sS,_⟩:=GB st hf hx;obtain⟨_,cs,zT,hs,hsub⟩:=sS b off rfl;have hw:=aq.width d.ty rep;have mT:w.rangeAt b off c:=by have:=BD (w:=w) zT.zA hs;rw[hsub]at this;exact this
     have hrun:=FN (w:=w) k hz mT (by rw[hw,hd]);obtain⟨dt,dm,dx⟩:=d;simp only at hd;subst hd;refine e8.ret (val:=cU (C.ty t) c) ?_ st ?_
     .simp[execOp,ho,e,hrun]
     .exact dc.rel rep (DR hR _ _ _ p (some (b,off)) c F yT hin eg rep) (Ty.kr hz)
    .rw[af hd]at ht;exact absurd ht bS.fail
  | _=>rw[hv]at ht;exact absurd ht bS.fail
 .rw[af hz]at ht;exact absurd ht bS.fail
end
theorem bS.of{x:Option (AV×aO)}(h:bS (.of x)):∃y,x=some y:=by
 cases x with
 | none=>exact absurd h bS.fail
 | some y=>exact⟨y,rfl⟩
theorem hY.desc{P:Program}{C:Ctx}(h:hY P C){t:TypeId}{e:Ty}(ht:C.ty t=.sl e):∃u,P.underlying t=some (.slice u)/\C.ty u=e/\(C.ty u).nz=true:=by
 have k:=h t (by rw[ht];rfl);obtain⟨d,h1,h2⟩:=k.desc;rw[ht]at h2;cases d<;>simp only[oA]at h2<;>try (simp at h2)
 case slice u=>exact⟨u,h1,h2.1.symm,h2.2⟩
 case struct fs=>cases hl:fs.toList<;>rw[hl]at h2<;>simp[mF]at h2
theorem hY.str{P:Program}{C:Ctx}(h:hY P C){t:TypeId}(ht:C.ty t=.str):P.underlying t=some .string:=by
 have k:=h t (by rw[ht];rfl);obtain⟨d,h1,h2⟩:=k.desc;rw[ht]at h2;cases d<;>simp only[oA]at h2<;>try (simp at h2)
 case string=>exact h1
 case struct fs=>cases hl:fs.toList<;>rw[hl]at h2<;>simp[mF]at h2
theorem hY.bool{P:Program}{C:Ctx}(h:hY P C){t:TypeId}(ht:C.ty t=.bool):P.underlying t=some .bool:=by
 have k:=h t (by rw[ht];rfl);obtain⟨d,h1,h2⟩:=k.desc;rw[ht]at h2;cases d<;>simp only[oA]at h2<;>try (simp at h2)
 case bool=>exact h1
 case struct fs=>cases hl:fs.toList<;>rw[hl]at h2<;>simp[mF]at h2
theorem hY.int{P:Program}{C:Ctx}(h:hY P C){t:TypeId}{k:IntKind}(ht:C.ty t=.int k):P.underlying t=some (.int k):=by
 have kk:=h t (by rw[ht];rfl);obtain⟨d,h1,h2⟩:=kk.desc;rw[ht]at h2;cases d<;>simp only[oA]at h2<;>try (simp at h2)
 case int=>subst h2;exact h1
 case struct fs=>cases hl:fs.toList<;>rw[hl]at h2<;>simp[mF]at h2
theorem hY.pair{P:Program}{C:Ctx}(h:hY P C){t:TypeId}{a b:Ty}(ht:C.ty t=.pair a b):∃fs,P.underlying t=some (.struct fs)/\mF C fs.toList 0 (.pair a b):=by
 have kk:=h t (by rw[ht];rfl);obtain⟨d,h1,h2⟩:=kk.desc;rw[ht]at h2;cases d<;>simp only[oA]at h2<;>try (simp at h2)
 case struct fs=>exact⟨fs,h1,h2⟩
section
variable {P:Program} {C:Ctx} {D:Den C} {S:St} {g:ay} {w:World} {tmps:Array Value} {a:Act} {ρ:Operand->AV}
variable {A:bV} {site:Nat} {hint:Bool} (bn:hY P C) (st:az w.heap S g tmps Nil) (hρ:∀x,qe w.heap S g (ρ x) (a.eval x))
include bn st hρ
theorem aiy{o:Oper}{s:TypeId}{x:Operand}{f:Nat}(ho:o.op=.fieldAddr s x f):Goal P C D S g w tmps a ρ A site hint o:=by
 intro ht;simp only[aY,ho]at ht⊢;have hx:=hρ x;obtain⟨y,hy⟩:=bS.of ht;rw[hy];simp only[fj]at hy;obtain⟨v,hv,rfl⟩:=hy;have hsome:∀(T:Ty),C.ty s=T->∀(m:Mk)(z:T.den)(d:Dy),focus T m z (g6 f)=some d->∃fs fd,P.underlying s=some (.struct fs)/\fs[f]? = some fd/\d.ty=C.ty fd.type/\
   fd.offset=ew T (g6 f)/\(C.ty fd.type).nz=true/\qx (g6 f)=false:=by
  intro T hT m z d hf;cases T with
  | pair a b=>obtain⟨fs,h1,h2⟩:=bn.pair hT;obtain⟨fd,q1,q2,q3,q4,q5⟩:=Uq f h2 hf;exact⟨fs,fd,h1,by simpa using q1,q2,by omega,q4,q5⟩
  | _=>cases f<;>simp[g6,focus]at hf
 have hrun:∀(fs:Array Field)(fd:Field)(b off:Nat),P.underlying s=some (.struct fs)->fs[f]? = some fd->(C.ty fd.type).nz=true->
   (Instr.fieldAt s (.pointer (some ⟨b,off,none⟩)) f).run P w=.ok (.pointer (some ⟨b,off+fd.offset,none⟩)) w:=by
  intro fs fd b off h1 h2 h3;have k:=bn fd.type h3;have hp:=k.pos;have hne:(C.ty fd.type).width≠0:=by omega
  simp only[Instr.fieldAt,Instr.sureAddr,fieldPlace,Sem.run_bind,run_underlying h1,Result.andThen_ok,h2,Sem.run_pure,k.fI,af hne,Addr.add_mid]
 cases hρx:ρ x with
 | addr r p=>
  rw[hρx]at hx hv;simp only[Bz]at hv;split at hv
  .rename_i d hf;split at hv
   .rename_i hc;simp only[aI]at hv;subst hv;obtain⟨d',hf'⟩:=xQ.1 hc.2;obtain⟨R,b,off,c,F,hR,yT,hin,eg,e,rep,sS,_⟩:=GB st hf hx;obtain⟨fs,fd,h1,h2,h3,h4,h5,h6⟩:=hsome d.ty hc.1.symm _ _ _ hf';refine e8.ret (val:=.pointer (some ⟨b,off+fd.offset,none⟩)) (by simp[execOp,ho,e,hrun fs fd b off h1 h2 h5]) st ?_;simp only[qe];intro R' cg d2 tY;rw[hR]at cg;simp only[aI]at cg;subst cg;have Jx:bq d.ty d.x (g6 f):=yh _ _ h6 (uU _ hf');obtain⟨base',c',F2,Fr,z⟩:=zip (g6 f) _ _ _ c F (some (b,off)) d' rep hf' Jx sS;refine⟨(yq p _ yT).2 ⟨hin,Jx⟩,b,off+fd.offset,c',?_,rfl⟩;rw[uT p _ yT eg,z.at_];obtain⟨q1,_,_⟩:=z.plain h6;rw[q1,h4];rfl
   .simp at hv
  .simp at hv
 | b_ t y=>
  rw[hρx]at hx hv;simp only[Bz]at hv;split at hv
  .rename_i hT;cases hf:focus t .no y (g6 f) with
   | none=>rw[hf]at hv;simp at hv
   | some d=>
    rw[hf]at hv;simp only[dn,aI]at hv;subst hv;simp only[qe]at hx;obtain⟨b,off,cs,e,hp,hb,hs,rep⟩:=hx;obtain⟨fs,fd,h1,h2,h3,h4,h5,h6⟩:=hsome t hT.symm _ _ _ hf;obtain⟨hm,_⟩:=Up _ hf;obtain⟨base',c',F2,Fr,z⟩:=zip (g6 f) _ _ _ _ Nil none d rep hf (yh _ _ h6 (uU _ hf)) (fun b o e=>by simp at e);obtain⟨q1,q2,q3⟩:=z.plain h6;have hl:=aq.width t rep;refine e8.ret (val:=.pointer (some ⟨b,off+fd.offset,none⟩)) (by simp[execOp,ho,e,hrun fs fd b off h1 h2 h5]) st ?_;simp only[qe];refine⟨b,off+fd.offset,cs,rfl,hp,hb,by rw[h4];omega,?_⟩;have r2:=z.rep;rw[hm]at r2;have r3:=aq.eH (F':=Nil) d.ty rfl r2;have e3:c'=sub cs (off+fd.offset) d.ty.width:=by rw[q2,h4];simp only[sub,si,oS,oQ];congr 1;omega
    rw[<-e3];exact r3
  .simp at hv
 | _=>rw[hρx]at hv;simp[Bz]at hv
theorem aiK{o:Oper}{t:TypeId}{x i:Operand}(ho:o.op=.indexAddr t x i):Goal P C D S g w tmps a ρ A site hint o:=by
 intro ht;simp only[aY,ho]at ht⊢;have hx:=hρ x;have hi:=hρ i;simp only[xO]at ht⊢;cases hn:vT (ρ i) with
 | none=>rw[hn]at ht;exact absurd ht bS.fail
 | some kn=>
  obtain⟨k,n⟩:=kn;rw[hn]at ht;have ei:=Ie hn hi;simp only at ht⊢;have hrun:∀(u:TypeId)(b off len cap:Nat),P.underlying t=some (.slice u)->(C.ty u).nz=true->0<=n->n<(len:Int)->a.eval x=.slice (some ⟨b,off,none⟩) len cap->
    (execOp a.eval o).run P w=.ok (.value (.pointer (some ⟨b,off+n.toNat * (C.ty u).width,none⟩))) w:=by
   intro u b off len cap h1 h2 h3 h4 h5;simp[execOp,ho,ei,h5,Instr.indexAt,asIntOf,run_underlying h1,(bn u h2).fI,h3,h4,Addr.add_mid,Sem.run_bind]
  cases hv:ρ x with
  | val t' xs=>
   cases t' with
   | sl e=>
    rw[hv]at hx ht;simp only at ht⊢;by_cases hT:C.ty t=.sl e
    .simp only[hT,aX]at ht⊢;obtain⟨u,h1,h2,h3⟩:=bn.desc hT;obtain⟨⟨v,rt'⟩,hd⟩:=ht true;simp only[Tr.dec]at hd;by_cases hc:0<=n/\n<(xs.length:Int)
     .simp only[qe,aq]at hx;obtain⟨c,⟨ad,cap,rfl,hl,hr⟩,e0⟩:=hx;have hne:xs≠[]:=by rintro rfl;simp at hc;omega
      obtain⟨b,off,cs,rfl,hp,hb,hs,re⟩:=hr hne;refine e8.value (hrun u b off _ cap h1 h3 hc.1 hc.2 (by rw[e0];rfl)) ⟨true,.b_ e (xs.getD n.toNat e.zero),S.rt,by simp[Tr.dec,hc.1,hc.2],Post.same st ?_⟩;simp only[qe];have hlt:n.toNat<xs.length:=by omega
      refine⟨b,off+n.toNat * (C.ty u).width,cs,rfl,hp,hb,?_,?_⟩
      .rw[h2];have:n.toNat * e.width+e.width<=xs.length * e.width:=by have:=dz e.width (show n.toNat+1<=xs.length by omega);rw[jh]at this;exact this
       omega
      .rw[h2];exact re n.toNat hlt
     .have:(decide (0<=n)&&decide (n<(xs.length:Int)))=false:=by simp only[n4,nw];omega
      rw[this]at hd;simp[Tr.dec]at hd
    .rw[af hT]at ht;exact absurd ht bS.fail
   | _=>rw[hv]at ht;exact absurd ht bS.fail
  | b5 r p s=>
   rw[hv]at hx ht;simp only at ht⊢;cases hf:S.rt.focus r p with
   | none=>rw[hf]at ht;exact absurd ht bS.fail
   | some d=>
    obtain⟨dt,dm,dx⟩:=d;cases dt with
    | sl e=>
     cases dm with
     | own s' m=>
      rw[hf]at ht;simp only at ht⊢;by_cases hT:s=s'/\C.ty t=.sl e
      .simp only[aj hT]at ht⊢;obtain⟨rfl,hT⟩:=hT;obtain⟨u,h1,h2,h3⟩:=bn.desc hT;obtain⟨⟨v,rt'⟩,hd⟩:=ht true;simp only[Tr.dec]at hd;by_cases hc:0<=n/\n<((dx:List e.den).length:Int)
       .simp only[qe]at hx;obtain⟨R,base,F,hR,yT,hin,eg,rep,hF⟩:=Ky st hf rfl hx;simp only[aq]at rep;obtain⟨ad,cap,e0,hl,hr⟩:=rep;simp only[eL,gM]at e0;rcases hr with hr | ⟨b,cs,rfl,fb,hb,hs,Fs,oe,vr,re⟩
        .omega
        .refine e8.value (hrun u b 0 _ cap h1 h3 hc.1 hc.2 e0) ⟨true,.addr r (p++[.idx n.toNat s]),S.rt,by simp[Tr.dec,hc.1,hc.2],Post.same st ?_⟩;have hlt:n.toNat<(dx:List e.den).length:=by omega
         simp only[qe];intro R' cg d2 tY;rw[hR]at cg;simp only[aI]at cg;subst cg;refine⟨(yq p _ yT).2 ⟨hin,?_⟩,b,0+n.toNat * (C.ty u).width,?_⟩
         .simp only[bq];exact⟨hlt,trivial⟩
         .refine⟨sub cs (n.toNat * e.width) e.width,?_,rfl⟩;rw[uT p _ yT eg];obtain⟨ty,lo,hi',he,_⟩:=hb;simp only[e0,b8,he,DQ,h2,jx]
       .have:(decide (0<=n)&&decide (n<((dx:List e.den).length:Int)))=false:=by simp only[n4,nw];omega
        rw[this]at hd;simp[Tr.dec]at hd
      .rw[af hT]at ht;exact absurd ht bS.fail
     | _=>rw[hf]at ht;exact absurd ht bS.fail
    | _=>rw[hf]at ht;exact absurd ht bS.fail
  | _=>rw[hv]at ht;exact absurd ht bS.fail
end
theorem aq.len{h:Array Obj}{Pr:BS}{t:Ty}{m:Mk}{xs:(Ty.sl t).den}{c:List Value}{F:BS}(hm:m≠.gone)(r:aq h Pr (.sl t) m xs c F):∃a cap,c=[.slice a xs.length cap]/\(xs.length≠0->a.isSome):=by
 cases m with
 | gone=>exact absurd rfl hm
 | no=>simp only[aq]at r;obtain⟨a,cap,rfl,_,h2⟩:=r;refine⟨a,cap,rfl,fun hl=>?_⟩;obtain⟨b,o,cs,e,_⟩:=h2 (by rintro rfl;simp at hl);rw[e];rfl
 | pr _ _=>simp only[aq]at r;obtain⟨a,cap,rfl,_,h2⟩:=r;refine⟨a,cap,rfl,fun hl=>?_⟩;obtain⟨b,o,cs,e,_⟩:=h2 (by rintro rfl;simp at hl);rw[e];rfl
 | own s mi=>
  simp only[aq]at r;obtain⟨a,cap,rfl,h1,h2⟩:=r;refine⟨a,cap,rfl,fun hl=>?_⟩;rcases h2 with h2 | ⟨b,cs,e,_⟩
  .omega
  .rw[e];rfl
section
variable {P:Program} {C:Ctx} {D:Den C} {S:St} {g:ay} {w:World} {tmps:Array Value} {a:Act} {ρ:Operand->AV}
variable {A:bV} {site:Nat} {hint:Bool} (bn:hY P C) (st:az w.heap S g tmps Nil) (hρ:∀x,qe w.heap S g (ρ x) (a.eval x))
include st in
theorem Gd{v:AV}{n:Int}{val:Value}(h:yB S.rt v=some n)(x:qe w.heap S g v val):∃ad len cap,val=.slice ad len cap/\n=(len:Int)/\(len≠0->ad.isSome):=by
 cases v with
 | val t xs=>
  cases t with
  | sl e=>simp only[yB,aI]at h;simp only[qe]at x;obtain⟨c,r,rfl⟩:=x;obtain⟨ad,cap,rfl,hs⟩:=aq.len (by simp) r;exact⟨ad,_,cap,rfl,h.symm,hs⟩
  | _=>simp[yB]at h
 | fe=>simp only[yB,aI]at h;simp only[qe]at x;exact⟨none,0,0,x,by rw[<-h];rfl,by simp⟩
 | b5 r p s=>
  simp only[yB]at h;split at h
  .rename_i e s' m xs hf;split at h
   .rename_i hs;simp only[aI]at h;simp only[qe]at x;obtain⟨R,base,F,_,_,_,_,rep,_⟩:=Ky st hf hs x;obtain⟨ad,cap,e0,lZ⟩:=aq.len (by simp) rep;simp only[eL,gM]at e0;exact⟨ad,_,cap,e0,h.symm,lZ⟩
   .simp at h
  .simp at h
 | _=>simp[yB]at h
include bn st hρ
theorem aj2{o:Oper}{c:Call}(ho:o.op=.call c)(hc:c.callee=.builtin .len):Goal P C D S g w tmps a ρ A site hint o:=by
 intro ht;simp only[aY,ho,hc]at ht⊢;split at ht<;>try (rename_i hb _ _;simp at hb;done)
 .rename_i s _ _ hargs i7;have:∃x,c.args.toList=[x]/\ρ x=.val .str s:=by
   match ji:c.args.toList with
   | []=>rw[ji]at hargs;simp at hargs
   | [x]=>rw[ji]at hargs;simp only[cm,fO,eL,gM]at hargs;exact⟨x,rfl,hargs⟩
   | _::_::_=>rw[ji]at hargs;simp at hargs
  obtain⟨x,hx1,V5⟩:=this;obtain⟨t,l,HX,VW⟩:∃t l,c.argTypes.toList=t::l/\C.ty t=.str:=by
   match ji:c.argTypes.toList with
   | []=>rw[ji]at i7;simp at i7
   | t::l=>rw[ji]at i7;simp only[cm,eL]at i7;exact⟨t,l,rfl,i7.1⟩
  have hv:=hρ x;rw[V5]at hv;have e1:c.args = #[x]:=by rw[<-n6 (xs:=c.args),hx1]
  have e2:c.argTypes[0]? = some t:=by rw[<-qR,HX];rfl
  refine e8.ret (val:=.int .i64 (s.size:Nat)) ?_ st (uV _ _);simp[execOp,ho,resolve,hc,invoke,builtin,Builtin.len_,e1,e2,Iu hv,run_underlying (bn.str VW),goInt,Sem.run_bind]
 .rename_i x0 e _ _ hargs i7;have:∃x,c.args.toList=[x]/\ρ x=x0:=by
   match ji:c.args.toList with
   | []=>rw[ji]at hargs;simp at hargs
   | [x]=>rw[ji]at hargs;simp only[cm,fO,eL,gM]at hargs;exact⟨x,rfl,hargs⟩
   | _::_::_=>rw[ji]at hargs;simp at hargs
  obtain⟨x,hx1,V5⟩:=this;obtain⟨t,l,HX,VW⟩:∃t l,c.argTypes.toList=t::l/\C.ty t=.sl e:=by
   match ji:c.argTypes.toList with
   | []=>rw[ji]at i7;simp at i7
   | t::l=>rw[ji]at i7;simp only[cm,eL]at i7;exact⟨t,l,rfl,i7.1⟩
  have hv:=hρ x;rw[V5]at hv;obtain⟨y,hy⟩:=bS.of ht;rw[hy];simp only[fj]at hy;obtain⟨n,hn,rfl⟩:=hy;obtain⟨ad,len,cap,ev,en,_⟩:=Gd st hn hv;obtain⟨u,h1,_,_⟩:=bn.desc VW;have e1:c.args = #[x]:=by rw[<-n6 (xs:=c.args),hx1]
  have e2:c.argTypes[0]? = some t:=by rw[<-qR,HX];rfl
  subst en;refine e8.ret (val:=.int .i64 (len:Nat)) ?_ st (uV _ _);simp[execOp,ho,resolve,hc,invoke,builtin,Builtin.len_,e1,e2,ev,run_underlying h1,goInt,Sem.run_bind]
 all_goals (first | exact absurd ht bS.fail | (exfalso;contradiction) | trace_state)
end
section
variable {P:Program} {C:Ctx} {D:Den C} {S:St} {g:ay} {w:World} {tmps:Array Value} {a:Act} {ρ:Operand->AV}
variable {A:bV} {site:Nat} {hint:Bool} (bn:hY P C) (st:az w.heap S g tmps Nil) (hρ:∀x,qe w.heap S g (ρ x) (a.eval x))
include bn st hρ
theorem abo{o:Oper}{s:TypeId}{x:Operand}{f:Nat}(ho:o.op=.field s x f):Goal P C D S g w tmps a ρ A site hint o:=by
 intro ht;simp only[aY,ho]at ht⊢;have hx:=hρ x;cases hv:ρ x with
 | val t y=>
  rw[hv]at hx ht;simp only at ht⊢;by_cases hT:t=C.ty s
  .subst hT;simp only[aX]at ht⊢;cases hf:focus (C.ty s) .no y (g6 f) with
   | none=>rw[hf]at ht;exact absurd ht bS.fail
   | some d=>
    obtain⟨ta,tb,UU⟩:∃ta tb,C.ty s=.pair ta tb:=by
     cases hs:C.ty s with
     | pair ta tb=>exact⟨ta,tb,rfl⟩
     | _=>exfalso;revert y;rw[hs];intro y _ _ _ hf;cases f<;>simp[g6,focus]at hf
    obtain⟨fs,h1,h2⟩:=bn.pair UU;rw[<-UU]at h2;obtain⟨fd,q1,q2,q3,q4,q5⟩:=Uq f h2 hf;simp only[qe]at hx;obtain⟨c,rep,e⟩:=hx;have hm:=(Up _ hf).1;obtain⟨base',c',F2,Fr,z⟩:=zip (g6 f) _ _ _ _ Nil none d rep hf (yh _ _ q5 (uU _ hf)) (fun b o e=>by simp at e);obtain⟨_,e2,e3⟩:=z.plain q5;have r2:=z.rep;rw[hm]at r2;have r3:=aq.eH (F':=Nil) d.ty rfl r2;have k:=bn fd.type q4;have q1':fs[f]? = some fd:=by simpa using q1
    have UX:(C.ty s).agg=true:=by rw[UU];rfl
    have hoff:fd.offset=ew (C.ty s) (g6 f):=by omega
    have hrun:(part fd.type c.toArray fd.offset).run P w=.ok (cU d.ty c') w:=by
     rw[e2];simp only[part,Sem.run_bind,k.oU,Result.andThen_ok];rw[<-q2];by_cases ha:d.ty.agg=true
     .have hsz:=k.fI w;rw[<-q2]at hsz;simp only[ha,aX,Sem.run_bind,hsz,Result.andThen_ok,Sem.run_pure,cU];congr 2;apply m8;simp only[Array.toList_extract,QL];rw[hoff];congr 2;omega
     .have vq:d.ty.agg=false:=by simpa using ha
      have hw:=Fv (by rw[q2];exact q4) vq;rw[hw]at e3⊢;have hlt:ew (C.ty s) (g6 f)<c.length:=by omega
      have:(c.drop (ew (C.ty s) (g6 f))).take 1=[c[ew (C.ty s) (g6 f)]]:=by rw[Gm hlt];rfl
      simp[vq,hoff,cU,this,fN hlt]
    refine e8.ret (v:=.val d.ty d.x) (val:=cU d.ty c') ?_ st (by simp only[qe];exact⟨c',r3,rfl⟩);have:cU (C.ty s) c=.agg c.toArray:=by simp[cU,UX]
    simp[execOp,ho,e,this,Instr.field,run_underlying h1,q1',asAgg,hrun,Sem.run_bind]
  .rw[af hT]at ht;exact absurd ht bS.fail
 | _=>rw[hv]at ht;exact absurd ht bS.fail
theorem abt{o:Oper}{t:TypeId}{x i:Operand}(ho:o.op=.index t x i):Goal P C D S g w tmps a ρ A site hint o:=by
 intro ht;simp only[aY,ho]at ht⊢;have hx:=hρ x;have hi:=hρ i;split at ht
 .rename_i s k n hT hv hn;rw[hv]at hx;have ei:=Ie hn hi;have ex:=Iu hx;obtain⟨⟨v,rt'⟩,hd⟩:=ht true;simp only[Tr.dec]at hd;by_cases hc:0<=n/\n<(s.size:Int)
  .have hlt:n.toNat<s.size:=by omega
   have e1:s[n.toNat]? = some (s.data.getD n.toNat 0):=by
    have:s[n.toNat]? = some s[n.toNat]:=by simp[hlt]
    rw[this];congr 1;have h2:n.toNat<s.data.size:=hlt;show s[n.toNat]=s.data.getD n.toNat 0;rw[oX,qP h2];rfl
   refine e8.value (val:=.int .u8 ((s.data.getD n.toNat 0).toNat:Int)) (w':=w) ?_ ⟨true,_,S.rt,by simp[Tr.dec,hc.1,hc.2],Post.same st (uV _ _)⟩;simp[execOp,ho,ei,ex,Instr.index,asIntOf,run_underlying (bn.str hT),hc.1,e1,Sem.run_bind]
  .have:(decide (0<=n)&&decide (n<(s.size:Int)))=false:=by simp only[n4,nw];omega
   rw[this]at hd;simp[Tr.dec]at hd
 .exact absurd ht bS.fail
theorem aix:∀{i:Nat}{v y:AV}{val:Value},Ku v i=some y->qe w.heap S g v val->∃vs u,val=.tuple vs/\vs[i]? = some u/\qe w.heap S g y u:=by
 intro i
 induction i with
 | zero=>
  intro v y val h x;unfold Ku at h;split at h
  .simp only[aI]at h;subst h;simp only[qe,aL]at x;obtain⟨vs,rfl,u,vs',rfl,h1,h2⟩:=x;exact⟨_,u,rfl,by simp,h1⟩
  .rename_i h0;simp at h0
  .simp at h
 | succ i ih=>
  intro v y val h x;unfold Ku at h;split at h
  .rename_i h0;simp at h0
  .rename_i a b n he;simp only[Nat.succ.injEq]at he;subst he;simp only[qe,aL]at x;obtain⟨vs,rfl,u,vs',rfl,h1,h2⟩:=x;obtain⟨vs2,u2,e1,e2,e3⟩:=ih h (val:=.tuple vs'.toArray) (by simp only[qe];exact⟨vs',rfl,h2⟩);simp only[Value.tuple.injEq]at e1;subst e1;exact⟨_,u2,rfl,by simpa using e2,e3⟩
  .simp at h
theorem Z9{o:Oper}{x:Operand}{i:Nat}(ho:o.op=.extract x i):Goal P C D S g w tmps a ρ A site hint o:=by intro ht;simp only[aY,ho]at ht⊢;obtain⟨y,hy⟩:=bS.of ht;rw[hy];simp only[fj]at hy;obtain⟨v,hv,rfl⟩:=hy;obtain⟨vs,u,e1,e2,e3⟩:=aix bn st hρ hv (hρ x);exact e8.ret (val:=u) (by simp[execOp,ho,e1,Instr.extract,e2]) st e3
theorem ZH{o:Oper}{f:Fn}{first caps:Array Operand}(ho:o.op=.makeFunc f first caps):Goal P C D S g w tmps a ρ A site hint o:=by
 intro ht;simp only[aY,ho]at ht⊢;cases f with
 | func f=>
  simp only at ht⊢;by_cases he:first.isEmpty=true
  .simp only[he,aX]at ht⊢;have e0:first = #[]:=by simpa using he
   refine e8.ret (val:=.func (.func f) #[] (caps.map a.eval)) (by simp only[execOp,ho,Instr.makeFunc,e0,Array.map_empty,Sem.run_bind,Sem.run_pure,Result.andThen_ok]) st ?_;simp only[qe];refine⟨(caps.map a.eval).toList,by rw[n6],?_⟩;rw[Array.toList_map];generalize caps.toList=l
   induction l with
   | nil=>simp only[List.foldr_nil,fO,aL]
   | cons x l ih=>simp only[He,cm,aL];exact⟨_,_,rfl,hρ x,ih⟩
  .rw[af he]at ht;exact absurd ht bS.fail
 | _=>exact absurd ht bS.fail
end
end Go.V
namespace Go.V
noncomputable section
open Go
section
variable {P:Program} {C:Ctx} {D:Den C} {S:St} {g:ay} {w:World} {tmps:Array Value} {a:Act} {ρ:Operand->AV}
variable {A:bV} {site:Nat} {hint:Bool} (bn:hY P C) (st:az w.heap S g tmps Nil) (hρ:∀x,qe w.heap S g (ρ x) (a.eval x))
include bn in
theorem L9:∀(n d:Nat)(t:TypeId)(T:Ty),C.ty t=T->T.deep<=n->n<d->T.comp=true->T.nz=true->
  ∀{h:Array Obj}{Pr:BS}{x y:T.den}{cx cy:List Value}{F F':BS},aq h Pr T .no x cx F->aq h Pr T .no y cy F'->
  (Op.equalIn d t (cU T cx) (cU T cy)).run P w=.ok (pe T x y) w
 | 0,d,t,T,hT,hn,_,_,_,_,_,_,_,_,_,_,_,_,_=>by cases T<;>simp[Ty.deep]at hn
 | n+1,d,t,T,hT,hn,hd,hc,hz,h,Pr,x,y,cx,cy,F,F',rx,ry=>by
  obtain⟨d,rfl⟩:∃d',d=d'+1:=⟨d-1,by omega⟩
  cases T with
  | unit=>simp[Ty.nz]at hz
  | sl _=>simp[Ty.comp]at hc
  | int k=>simp only[aq]at rx ry;subst rx;subst ry;exact run_equalIn_int w d t k k x y (bn.int hT)
  | bool=>simp only[aq]at rx ry;subst rx;subst ry;exact run_equalIn_bool' w d t x y (bn.bool hT)
  | str=>simp only[aq]at rx ry;subst rx;subst ry;exact run_equalIn_string w d t x y (bn.str hT)
  | pair ta tb=>
   obtain⟨fs,h1,h2⟩:=bn.pair hT;have k:=bn t (by rw[hT];rfl);obtain⟨hp,_⟩:=k.eq (by rw[hT];rfl) (by rw[hT];exact hc);have hfs:P.fieldsOf t=fs:=by simp[Program.fieldsOf,h1]
   have e1:cU (Ty.pair ta tb) cx=.agg cx.toArray:=rfl;have e2:cU (Ty.pair ta tb) cy=.agg cy.toArray:=rfl;rw[e1,e2,run_equalIn_struct w d t _ _ (by rw[hfs];exact h1) hp,hfs]
   -- zu fields,one behind zu other
   have key:∀(l:List Field)(off:Nat)(U:Ty),mF C l off U->U.comp=true->U.deep<=n+1->∀(px py:List Value){x y:U.den}{cx cy:List Value}{F F':BS},px.length=off->py.length=off->
     aq h Pr U .no x cx F->aq h Pr U .no y cy F'->(Op.eqFields d (px++cx).toArray (py++cy).toArray l).run P w=.ok (pe U x y) w:=by
    intro l
    induction l with
    | nil=>intro off U hs hc hdp px py x y cx cy F F' hpx VM rx ry;simp only[mF]at hs;subst hs;simp[Op.eqFields,pe]
    | cons fd l ih=>
     intro off U hs hc hdp px py x y cx cy F F' hpx VM rx ry;simp only[mF]at hs;obtain⟨b,rfl,q1,q2,q3,q4⟩:=hs;simp only[Ty.comp,bC]at hc;simp only[Ty.deep]at hdp;simp only[aq]at rx ry;obtain⟨ca,cb,Fa,Fb,rfl,ra,rb,_⟩:=rx;obtain⟨ca',cb',Fa',Fb',rfl,ra',rb',_⟩:=ry;have kf:=bn fd.type q3;have hwa:=aq.width _ ra;have J7:=aq.width _ ra';have hpart:∀(px ca cb:List Value),px.length=off->ca.length=(C.ty fd.type).width->(part fd.type (px++(ca++cb)).toArray fd.offset).run P w=.ok (cU (C.ty fd.type) ca) w:=by
      intro px ca cb hpx hca;simp only[part,Sem.run_bind,kf.oU,Result.andThen_ok];by_cases ha:(C.ty fd.type).agg=true
      .simp only[ha,aX,Sem.run_bind,kf.fI,Result.andThen_ok,Sem.run_pure,cU];congr 2;apply m8;simp only[Array.toList_extract,QL];rw[q1,<-hpx,List.drop_left,<-hca];have:px.length+ca.length-px.length=ca.length:=by omega
       rw[this,List.take_left]
      .have vq:(C.ty fd.type).agg=false:=by simpa using ha
       have hw:=Fv q3 vq;rw[hw]at hca
       match ca,hca with
       | [v],_=>simp[vq,cU,q1,<-hpx]
     have hne:fd.name≠ "_" := q2;simp only[Op.eqFields,hne,ne_eq,not_false_eq_true,aX,Sem.run_bind,hpart px ca cb hpx hwa,hpart py ca' cb' VM J7,Result.andThen_ok];have ih0:=L9 n d fd.type _ rfl (by omega) (by omega) hc.1 q3 ra ra';rw[ih0];simp only[Result.andThen_ok,pe];cases hq:pe (C.ty fd.type) x.1 y.1 with
     | false=>simp
     | true=>simp only[cE,e7,dX,nR];have:=ih (off+(C.ty fd.type).width) b q4 hc.2 (by omega) (px++ca) (py++ca') (by simp[hpx,hwa]) (by simp[VM,J7]) rb rb';simpa [eu] using this
   have:=key fs.toList 0 _ h2 hc hn [] [] rfl rfl rx ry;simpa using this
def Bv(S:aO):Tr AV->Tr (AV×aO)
 | .ret v=>.ret (v,S)
 | .br c (.ret v) .fail=>.br c (.ret (v,S)) .fail
 | .br c .fail (.ret v)=>.br c .fail (.ret (v,S))
 | _=>.fail
theorem Pu{S:aO}{T:Tr AV}{β:Bool}{v:AV}{rt:aO}(h:(Bv S T).dec β=some (v,rt)):T.dec β=some v/\rt=S:=by
 unfold Bv at h;split at h
 .simp only[Tr.dec,aI,a_]at h;simp[Tr.dec,h.1,h.2]
 .rename_i c v';cases c<;>simp only[Tr.dec,aI,a_]at h
  .simp at h
  .simp[Tr.dec,h.1,h.2]
 .rename_i c v';cases c<;>simp only[Tr.dec,aI,a_]at h
  .simp[Tr.dec,h.1,h.2]
  .simp at h
 .simp[Tr.dec]at h
theorem Kr{op:BinOp}{t:TypeId}{x y:Operand}{va vb:Value}(h:(∃xs ys,va=.agg xs/\vb=.agg ys/\P.eqGuardType P.depth t=false)\/(va≠.nilIface/\∀xs,va≠.agg xs)) :
  (eqGuard op t x y va vb).run P w=.ok () w:=by
 unfold eqGuard;rcases h with⟨xs,ys,rfl,rfl,h⟩ | ⟨h1,h2⟩
 .cases op<;>simp[Sem.run_bind,h]
 .cases op<;>cases va<;>simp_all [Sem.run_bind]<;>cases vb<;>simp[Sem.run_bind]
include bn in
theorem ai3{op:BinOp}{t:TypeId}{x y:Operand}{v1 v2:AV}{va vb:Value}{v:AV}(h:(j7 (C.ty t) op v1 v2).dec true=some v)
    (ha:qe w.heap S g v1 va) (hb:qe w.heap S g v2 vb) :
    ∃val,(do eqGuard op t x y va vb;binOp op t va vb:Sem Value).run P w=.ok val w/\qe w.heap S g v val:=by
  cases v1 with
  | val t1 x1=>
    cases v2 with
    | val t2 x2=>
      cases t1 with
      | int ka=>
        cases t2 with
        | int kb=>
          obtain rfl:=BQ ha;obtain rfl:=BQ hb;have hg:(eqGuard op t x y (.int ka x1) (.int kb x2)).run P w=.ok () w:=Kr (.inr ⟨by simp,by simp⟩);simp only[Sem.run_bind,hg,Result.andThen_ok];cases op<;>simp only[j7]at h
          case shl=>
            by_cases hc:x2<0
            . simp[hc,Tr.dec]at h
            . simp[hc,Tr.dec]at h
              subst h;exact⟨_,by simp[binOp,Op.shift,hc],uV _ _⟩
          case shr=>
            by_cases hc:x2<0
            . simp[hc,Tr.dec]at h
            . simp[hc,Tr.dec]at h
              subst h;exact⟨_,by simp[binOp,Op.shift,hc],uV _ _⟩
          case andNot=>simp[Tr.dec]at h
          all_goals
            by_cases hk:ka=kb
            . subst hk
              simp only[aX]at h
              first
              | (simp only[Tr.dec,aI]at h;subst h
                 first
                 | exact⟨_,by simp[binOp,Op.intArith,Op.intBits,Op.intCmp],uV _ _⟩
                 | exact⟨_,by simp[binOp,Op.intArith,Op.intBits,Op.intCmp];rfl,CT _⟩
                 | exact⟨_,by simp[binOp,Op.intArith,Op.intBits,Op.intCmp],CT _⟩)
              | (by_cases hc:x2=0
                 . simp[hc,Tr.dec]at h
                 . simp[hc,Tr.dec]at h
                   subst h;exact⟨_,by simp[binOp,Op.intDiv,hc],uV _ _⟩)
            . simp[hk,Tr.dec]at h
        | _=>simp[j7,Tr.dec]at h
      | str=>
        cases t2 with
        | str=>
          obtain rfl:=Iu ha;obtain rfl:=Iu hb;have hg:(eqGuard op t x y (.string x1) (.string x2)).run P w=.ok () w:=Kr (.inr ⟨by simp,by simp⟩);simp only[Sem.run_bind,hg,Result.andThen_ok];cases op<;>simp only[j7]at h
          case add=>
            by_cases hc:x1.size+x2.size<=2 ^ 47
            . simp only[hc,oP,Tr.dec,aI]at h
              subst h;refine⟨_,?_,A3 _⟩;have:¬ (((x1.size+x2.size:Nat):Int)>IntKind.i64.max):=by
                have:IntKind.i64.max=9223372036854775807:=by decide
                rw[this];omega
              simp only[binOp,Op.stringOp,this,dX];rfl
            . simp only[hc,decide_false,Tr.dec]at h
              simp at h
          all_goals first
            | (simp only[Tr.dec,aI]at h;subst h;exact⟨_,by simp[binOp,Op.stringOp],CT _⟩)
            | simp[Tr.dec]at h
        | _=>simp[j7,Tr.dec]at h
      | bool=>
        cases t2 with
        | bool=>
          obtain rfl:=Ax ha;obtain rfl:=Ax hb;have hg:(eqGuard op t x y (.bool x1) (.bool x2)).run P w=.ok () w:=Kr (.inr ⟨by simp,by simp⟩);simp only[Sem.run_bind,hg,Result.andThen_ok];simp only[j7]at h;by_cases hT:C.ty t=.bool
          . simp only[hT,aX]at h
            have hu:=bn.bool hT;cases op<;>first
              | (simp only[Tr.dec,aI]at h;subst h;exact⟨_,by simp[binOp,Op.equal,Op.maxDepth,run_equalIn_bool' w 9999 t x1 x2 hu,Sem.run_bind],CT _⟩)
              | simp[Tr.dec]at h
          . simp[hT,Tr.dec]at h
        | _=>simp[j7,Tr.dec]at h
      | pair ta tb=>
        have h':(Er (C.ty t) op (.pair ta tb) x1 t2 x2).dec true=some v:=by cases t2<;>simpa only [j7] using h
        unfold Er at h';by_cases hT:(Ty.pair ta tb).comp=true/\C.ty t=Ty.pair ta tb
        . rw[aj hT]at h'
          have kk:=bn t (by rw[hT.2];rfl);obtain⟨hp,hq⟩:=kk.eq (by rw[hT.2];rfl) (by rw[hT.2];exact hT.1);cases hc:qbv t2 (Ty.pair ta tb) x2 with
          | none=>rw[hc]at h';cases op<;>simp[Tr.dec]at h'
          | some z=>
            rw[hc]at h';simp only[qe]at ha hb;obtain⟨c1,r1,rfl⟩:=ha;obtain⟨c2,r2,rfl⟩:=hb;obtain⟨rfl,CY⟩:=aq.cast hc r2;have Jv:(Ty.pair ta tb).deep<10000:=by rw[<-hT.2];exact kk.deep
            . have he:=L9 (w:=w) bn _ 10000 t _ hT.2 (b7 _) Jv hT.1 rfl r1 CY
              have e1:cU (Ty.pair ta tb) c1=.agg c1.toArray:=rfl;have e2:cU (Ty.pair ta tb) c2=.agg c2.toArray:=rfl;rw[e1,e2]at he⊢;have hg:(eqGuard op t x y (.agg c1.toArray) (.agg c2.toArray)).run P w=.ok () w:=Kr (.inl ⟨_,_,rfl,rfl,hq⟩);simp only[Sem.run_bind,hg,Result.andThen_ok];cases op<;>first
                | (simp only[Tr.dec,aI]at h';subst h';exact⟨_,by simp only[binOp,Op.equal,Op.maxDepth,Sem.run_bind,he,Result.andThen_ok,Sem.run_pure],CT _⟩)
                | simp[Tr.dec]at h'
        . rw[af hT]at h';simp[Tr.dec]at h'
      | _=>simp[j7,Tr.dec]at h
    | _=>cases t1<;>simp[j7,Tr.dec]at h
  | _=>simp[j7,Tr.dec]at h
end
end
section
variable {P:Program} {C:Ctx} {D:Den C} {S:St} {g:ay} {w:World} {tmps:Array Value} {a:Act} {ρ:Operand->AV}
variable {A:bV} {site:Nat} {hint:Bool} (bn:hY P C) (st:az w.heap S g tmps Nil) (hρ:∀x,qe w.heap S g (ρ x) (a.eval x))
include bn st hρ
theorem aaS{o:Oper}{op:BinOp}{t t2:TypeId}{x y:Operand}(ho:o.op=.binOp op t x y t2):Goal P C D S g w tmps a ρ A site hint o:=by
 intro ht;have hx:=hρ x;have hy:=hρ y;have Vi:ρ y≠.fe->aY C D A ρ S.rt site hint o=Bv S.rt (j7 (C.ty t) op (ρ x) (ρ y)):=by
  intro hn;simp only[aY,ho];cases hv:ρ y with
  | fe=>exact absurd hv hn
  | _=>rfl
 by_cases hn:ρ y=.fe
 .simp only[aY,ho,hn]at ht⊢;rw[hn]at hy;simp only[qe]at hy;have hrun:∀(u:TypeId)(ad:Option Addr)(len cap:Nat),P.underlying t=some (.slice u)->a.eval x=.slice ad len cap->
    (Op.equal t (.slice ad len cap) (.slice none 0 0)).run P w=.ok ad.isNone w:=by
   intro u ad len cap h1 h2;have e0:Op.equal t (.slice ad len cap) (.slice none 0 0)=Op.equalIn (9999+1) t (.slice ad len cap) (.slice none 0 0):=rfl;rw[e0];unfold Op.equalIn;cases ad<;>simp only[Sem.run_bind,run_underlying h1,Result.andThen_ok,Sem.run_pure,Option.isNone_none,Option.isNone_some]
  have hg:∀ad len cap,(eqGuard op t x y (.slice ad len cap) (.slice none 0 0)).run P w=.ok () w:=fun ad len cap=>Kr (.inr ⟨by simp,by simp⟩);split at ht
  .rename_i e n hT hl;obtain⟨ad,len,cap,ev,en,hs⟩:=Gd st hl hx;obtain⟨u,h1,_,_⟩:=bn.desc hT;subst en;refine e8.value (val:=.bool ad.isNone) (w':=w) ?_ ⟨ad.isNone,.val .bool ad.isNone,S.rt,?_,Post.same st (CT _)⟩
   .have:=hg ad len cap;simp[execOp,ho,ev,hy,this,binOp,hrun u ad len cap h1 ev,Sem.run_bind]
   .simp only[Tr.dec,dQ];by_cases h0:len=0
    .simp[h0]
    .have:=hs h0;have h3:ad.isNone=false:=by simpa using this
     simp[h0,h3]
  .rename_i e n hT hl;obtain⟨ad,len,cap,ev,en,hs⟩:=Gd st hl hx;obtain⟨u,h1,_,_⟩:=bn.desc hT;subst en;refine e8.value (val:=.bool (!ad.isNone)) (w':=w) ?_ ⟨!ad.isNone,.val .bool (!ad.isNone),S.rt,?_,Post.same st (CT _)⟩
   .have:=hg ad len cap;simp[execOp,ho,ev,hy,this,binOp,hrun u ad len cap h1 ev,Sem.run_bind]
   .simp only[Tr.dec,dQ];by_cases h0:len=0
    .simp[h0]
    .have:=hs h0;have h3:ad.isNone=false:=by simpa using this
     simp[h0,h3]
  .exact absurd ht bS.fail
 .rw[Vi hn]at ht⊢;obtain⟨⟨v,rt'⟩,hd⟩:=ht true;obtain⟨h1,rfl⟩:=Pu hd;obtain⟨val,h2,h3⟩:=ai3 bn (x:=x) (y:=y) h1 hx hy;refine e8.value (val:=val) (w':=w) ?_ ⟨true,v,S.rt,hd,Post.same st h3⟩;have:execOp a.eval o=(do pure (.value (<- (do eqGuard op t x y (a.eval x) (a.eval y);binOp op t (a.eval x) (a.eval y))))):=by simp[execOp,ho]
  rw[this];rw[Sem.run_bind,h2];rfl
theorem GQ:∀(ns:List Int)(s:ByteArray),ns.foldl (fun r n=>r.push (UInt8.ofNat n.toNat)) s=⟨s.data++(ns.map fun n=>UInt8.ofNat n.toNat).toArray⟩
 | [],s=>by simp
 | n::ns,s=>by
  simp only[mA];rw[GQ ns];simp[ByteArray.push]
theorem ZR{o:Oper}{src dst:TypeId}{x:Operand}(ho:o.op=.convert src dst x):Goal P C D S g w tmps a ρ A site hint o:=by
 intro ht;simp only[aY,ho]at ht⊢;have hx:=hρ x;split at ht
 .rename_i k1 kd k2 n h1 h2 hv;rw[hv]at hx;exact e8.ret (val:=.int kd (kd.wrap n)) (by simp[execOp,ho,convert,run_underlying (bn.int h1),run_underlying (bn.int h2),BQ hx,Conv.intToInt,Sem.run_bind]) st (uV _ _)
 .rename_i s h1 h2 hv;rw[hv]at hx;exact e8.ret (val:=.string s) (by simp[execOp,ho,convert,run_underlying (bn.str h1),run_underlying (bn.str h2),Iu hx,Sem.run_bind]) st (A3 _)
 .rename_i _ h1 h2;cases hr:rd S.rt (.sl (.int .u8)) (ρ x) with
  | none=>rw[hr]at ht;exact absurd ht bS.fail
  | some xs=>
   obtain⟨c,ev,rep⟩:=pX st _ hr hx;simp only[aq]at rep;obtain⟨ad,cap,rfl,hl,re⟩:=rep;have ev':a.eval x=.slice ad xs.length cap:=by rw[ev];rfl
   obtain⟨u,q1,q2,_⟩:=bn.desc h1;have hu:=bn.int q2;simp only;refine e8.ret (val:=.string ⟨(xs.map fun n=>UInt8.ofNat n.toNat).toArray⟩) ?_ st (A3 _);have Jr:(Conv.bytesToString (.slice ad xs.length cap)).run P w=.ok (.string ⟨(xs.map fun n=>UInt8.ofNat n.toNat).toArray⟩) w:=by
    by_cases hne:xs=[]
    .subst hne;cases ad with
     | none=>simp[Conv.bytesToString];rfl
     | some ad=>have:=run_bytesToString (P:=P) w ad 0 cap [] (by simp[loadCells,loadCellsFrom]);simpa [GQ bn st hρ] using this
    .obtain⟨b,off,cs,rfl,hp,hb,hs,re⟩:=re hne;have d9:sub cs off xs.length=xs.map (Value.int .u8):=by
      apply o4;intro i;by_cases hi:i<xs.length
      .have:=re i hi;have m3:(Ty.int .u8).width=1:=rfl;simp only[m3,Nat.mul_one]at this hs;have e1:(sub cs (off+i) 1)[0]? = some (Value.int .u8 xs[i]):=by
        rw[this];have:xs.getD i (Ty.zero (.int .u8))=xs[i]:=by simp[List.getD,hi]
        rw[this];rfl
       simp only[sub,fk,f8]at e1⊢;simp only[hi,aX,GU,fN hi,dV];simpa using e1
      .rw[n5 (by simp[sub];omega),n5 (by simp;omega)]
     have m3:(Ty.int .u8).width=1:=rfl;simp only[m3,Nat.mul_one]at hs;have mT:=BD (w:=w) hb hs;have iw:=run_loadCells_list (P:=P) w ⟨b,off,none⟩ (sub cs off xs.length) (fun j v hv=>by rw[Addr.add_mid];exact mT j v hv);rw[Fl hs,d9]at iw;have:=run_bytesToString (P:=P) w ⟨b,off,none⟩ xs.length cap xs iw;rw[this,GQ bn st hρ];simp
   have:=run_convert_bytes_string (P:=P) w src dst u ad xs.length cap q1 hu (bn.str h2);simp[execOp,ho,ev',this,Jr,Sem.run_bind]
 .exact absurd ht bS.fail
end
section
variable {P:Program} {C:Ctx} {D:Den C} {S:St} {g:ay} {w:World} {tmps:Array Value} {a:Act} {ρ:Operand->AV}
variable {A:bV} {site:Nat} {hint:Bool} (bn:hY P C) (st:az w.heap S g tmps Nil) (hρ:∀x,qe w.heap S g (ρ x) (a.eval x))
theorem PJ{v:Value}{k:IntKind}{n:Int}{y:Nat}{code:BoundsCode}(hv:v=.int k n)(h0:0<=n)(h1:n<=(y:Int)) :
  (Instr.sliceBound v y code).run P w=.ok n.toNat w:=by
 subst hv;simp[Instr.sliceBound,asIntOf,h0,h1,Sem.run_bind]
include hρ in
theorem Am{lo hi:Option Operand}{len cap:Nat}{l h:Int}{H8:Bool}(hl:Ip (lo.map ρ)=some l)(hh:DO (len:Int) (hi.map ρ)=some h)(h0:0<=l)(h1:l<=h)(h2:h<=(len:Int))(h3:len<=cap) :
  (Instr.sliceBounds H8 len cap (lo.map a.eval) (hi.map a.eval) none).run P w=.ok (l.toNat,h.toNat,cap) w:=by
 have ehi:∀(code:BoundsCode),hi=none/\h=(len:Int)\/∃v,hi=some v/\(Instr.sliceBound (a.eval v) cap code).run P w=.ok h.toNat w:=by
  intro code;cases hi with
  | none=>simp only[EA,DO,aI]at hh;exact .inl ⟨rfl,hh.symm⟩
  | some v=>simp only[dV,DO,fj]at hh;obtain⟨⟨k,n⟩,hn,e⟩:=hh;simp only at e;subst e;exact .inr ⟨v,rfl,PJ (Ie hn (hρ v)) (by omega) (by omega)⟩
 have elo:lo=none/\l=0\/∃v,lo=some v/\(Instr.sliceBound (a.eval v) h.toNat .sliceB).run P w=.ok l.toNat w:=by
  cases lo with
  | none=>simp only[EA,Ip,aI]at hl;exact .inl ⟨rfl,hl.symm⟩
  | some v=>simp only[dV,Ip,fj]at hl;obtain⟨⟨k,n⟩,hn,e⟩:=hl;simp only at e;subst e;exact .inr ⟨v,rfl,PJ (Ie hn (hρ v)) h0 (by omega)⟩
 unfold Instr.sliceBounds;rcases ehi (if H8 then .sliceAcap else .sliceAlen) with⟨rfl,rfl⟩ | ⟨vh,rfl,eh⟩<;>rcases elo with⟨rfl,rfl⟩ | ⟨vl,rfl,el⟩
 .simp[Sem.run_bind]
 .simp only[dQ]at el;simp[Sem.run_bind,el]
 .simp[Sem.run_bind,eh]
 .simp[Sem.run_bind,eh,el]
include bn st hρ
theorem abP{o:Oper}{t:TypeId}{x lop:Operand}{hi:Option Operand}(ho:o.op=.slice t x (some lop) hi none){r:Nat}{p:Path}{s:Nat}{e:Ty}(hv:ρ x=.b5 r p s)(hT:C.ty t=.sl e)
  (ht:bS (uD S.rt e r p s (ρ lop) (hi.map ρ))):e8 P S g w tmps (uD S.rt e r p s (ρ lop) (hi.map ρ)) ((execOp a.eval o).run P w):=by
 have hx:=hρ x;rw[hv]at hx;unfold uD at ht⊢;cases hl:vT (ρ lop) with
 | none=>rw[hl]at ht;exact absurd ht bS.fail
 | some kl=>
  cases hhi:hi.map ρ with
  | some _=>rw[hl,hhi]at ht;exact absurd ht bS.fail
  | none=>
   rw[hl,hhi]at ht;simp only at ht⊢;cases hf:S.rt.focus r p with
   | none=>rw[hf]at ht;exact absurd ht bS.fail
   | some d=>
    obtain⟨dt,dm,dx⟩:=d;cases dt with
    | sl e'=>
     cases dm with
     | own s' m=>
      rw[hf]at ht;simp only at ht⊢;by_cases hs:s=s'/\e=e'
      .simp only[aj hs]at ht⊢;obtain⟨rfl,rfl⟩:=hs;obtain⟨⟨v,rt'⟩,hd⟩:=ht true;simp only[Tr.dec]at hd;by_cases hc:0<=kl.2/\kl.2<=((dx:List e.den).length:Int)
       .obtain⟨u,h1,h2,h3⟩:=bn.desc hT;simp only[qe]at hx;obtain⟨R,base,F,hR,yT,hin,eg,rep,hF⟩:=Ky st hf rfl hx;simp only[aq]at rep;obtain⟨ad,cap,e0,hlc,hr⟩:=rep;simp only[eL,gM]at e0;have hb:=Am (P:=P) (H8:=true) hρ (lo:=some lop) (hi:=hi) (l:=kl.2) (h:=((dx:List e.den).length:Int)) (len:=(dx:List e.den).length) (cap:=cap) (by simp[Ip,hl]) (by rw[hhi];rfl) hc.1 hc.2 (vA _) hlc;rw[dV,dQ]at hb;have ku:=bn u h3;refine e8.value (val:=.slice (if cap=kl.2.toNat then ad else ad.map (·.add (kl.2.toNat * (C.ty u).width))) ((dx:List e.den).length-kl.2.toNat) (cap-kl.2.toNat)) (w':=w) ?_
         ⟨true,.view r p s kl.2.toNat (dx:List e.den).length,S.rt,by simp[Tr.dec,hc.1,hc.2],Post.same st ?_⟩
        .simp[execOp,ho,e0,Instr.sliceAt,Instr.slice,run_underlying h1,Sem.run_bind,hb,ku.fI]
        .simp only[qe];intro R' cg t2 m2 xs2 tY;rw[hR]at cg;simp only[aI]at cg;subst cg;rw[yT]at tY;simp only[aI,Dy.mk.injEq,Ty.sl.injEq]at tY;obtain⟨rfl,_⟩:=tY;refine⟨hin,base,ad,(dx:List e.den).length,cap,by rw[eg,e0],by omega,b7 _,by rw[h2]⟩
       .have:(decide (0<=kl.2)&&decide (kl.2<=((dx:List e.den).length:Int)))=false:=by simp only[n4,nw];omega
        rw[this]at hd;simp[Tr.dec]at hd
      .rw[af hs]at ht;exact absurd ht bS.fail
     | _=>rw[hf]at ht;exact absurd ht bS.fail
    | _=>rw[hf]at ht;exact absurd ht bS.fail
theorem abI{o:Oper}{t:TypeId}{x:Operand}{lo hi:Option Operand}(ho:o.op=.slice t x lo hi none)(ok:ny A S o.dst site):Goal P C D S g w tmps a ρ A site hint o:=by
 intro ht;simp only[aY,ho]at ht⊢;have hx:=hρ x;unfold uB at ht⊢;split at ht
 . -- a string
  rename_i s hv hT;rw[hv]at hx;have ex:=Iu hx;split at ht
  .rename_i l h hl hh;obtain⟨⟨v,rt'⟩,hd⟩:=ht true;by_cases hc:0<=l/\l<=h/\h<=(s.size:Int)
   .have hb:=Am (P:=P) (H8:=false) hρ (cap:=s.size) hl hh hc.1 hc.2.1 hc.2.2 (b7 _);refine e8.value (val:=.string (s.extract l.toNat h.toNat)) (w':=w) ?_ ⟨true,.val .str (s.extract l.toNat h.toNat),S.rt,?_,Post.same st (A3 _)⟩
    .simp[execOp,ho,ex,Instr.sliceAt,Instr.slice,run_underlying (bn.str hT),Sem.run_bind,hb]
    .simp[Tr.dec,hc.1,hc.2.1,hc.2.2]
   .have:(decide (0<=l)&&decide (l<=h)&&decide (h<=(s.size:Int)))=false:=by simp only[n4,nw];omega
    rw[this]at hd;simp[Tr.dec]at hd
  .exact absurd ht bS.fail
 . -- a shared row
  rename_i e xs e' hv hT;rw[hv]at hx;split at ht
  .rename_i l h hl hh;by_cases hee:e=e'
   .subst hee;simp only[aX]at ht⊢;obtain⟨⟨v,rt'⟩,hd⟩:=ht true;by_cases hc:0<=l/\l<=h/\h<=(xs.length:Int)
    .obtain⟨u,h1,h2,h3⟩:=bn.desc hT;simp only[qe,aq]at hx;obtain⟨c,⟨ad,cap,rfl,hlc,re⟩,ev⟩:=hx;have ev':a.eval x=.slice ad xs.length cap:=ev;have hb:=Am (P:=P) (H8:=true) hρ (cap:=cap) hl hh hc.1 hc.2.1 hc.2.2 hlc;have ku:=bn u h3;refine e8.value (val:=.slice (if cap=l.toNat then ad else ad.map (·.add (l.toNat * (C.ty u).width))) (h.toNat-l.toNat) (cap-l.toNat)) (w':=w) ?_
      ⟨true,.val (.sl e) ((xs.take h.toNat).drop l.toNat),S.rt,?_,Post.same st ?_⟩
     .simp[execOp,ho,ev',Instr.sliceAt,Instr.slice,run_underlying h1,Sem.run_bind,hb,ku.fI]
     .simp[Tr.dec,hc.1,hc.2.1,hc.2.2]
     .simp only[qe,aq];have hlen:((xs.take h.toNat).drop l.toNat).length=h.toNat-l.toNat:=by rw[mz,cY];omega
      refine⟨_,⟨_,cap-l.toNat,rfl,by omega,?_⟩,by rw[hlen];rfl⟩;intro hne;have hpos:0<h.toNat-l.toNat:=by rw[<-hlen];exact qS.2 hne
      obtain⟨b,off,cs,rfl,hp,rN,hs,re⟩:=re (by rintro rfl;simp at hc;omega);have ji:¬ cap=l.toNat:=by omega
      refine⟨b,off+l.toNat * e.width,cs,by rw[af ji,h2];simp[Addr.add_mid],hp,rN,?_,fun i hi=>?_⟩
      .rw[hlen];have:l.toNat * e.width+(h.toNat-l.toNat) * e.width<=xs.length * e.width:=by rw[<-iE];exact dz _ (by omega)
       omega
      .rw[hlen]at hi;have:=re (l.toNat+i) (by omega);have e1:((xs.take h.toNat).drop l.toNat).getD i e.zero=xs.getD (l.toNat+i) e.zero:=by simp only[List.getD,f8,fk];rw[aj (by omega)]
       rw[e1];have e2:off+l.toNat * e.width+i * e.width=off+(l.toNat+i) * e.width:=by rw[iE];omega
       rw[e2];exact this
    .have:(decide (0<=l)&&decide (l<=h)&&decide (h<=(xs.length:Int)))=false:=by simp only[n4,nw];omega
     rw[this]at hd;simp[Tr.dec]at hd
   .rw[af hee]at ht;exact absurd ht bS.fail
  .exact absurd ht bS.fail
 . -- an own row,from its begin
  rename_i r p s e hv hT;rw[hv]at hx;cases hlo:lo.map ρ with
  | some v=>
   rw[hlo]at ht;simp only at ht⊢;cases lo with
   | none=>simp at hlo
   | some lop=>simp only[dV,aI]at hlo;subst hlo;exact abP bn st hρ ho hv hT ht
  | none=>
   rw[hlo]at ht;simp only at ht⊢;cases rU:tk S.rt (.sl e) (.b5 r p s) with
   | none=>rw[rU]at ht;exact absurd ht bS.fail
   | some z=>
    obtain⟨m,xs,d5⟩:=z;rw[rU]at ht;cases m with
    | own s1 m=>
     simp only at ht⊢;cases hh:DO (xs.length:Int) (hi.map ρ) with
     | none=>rw[hh]at ht;exact absurd ht bS.fail
     | some h=>
      rw[hh]at ht;simp only at ht⊢;by_cases mX:m.ak=true
      .simp only[mX,aX]at ht⊢;obtain⟨⟨v,rt'⟩,hd⟩:=ht true;by_cases hc:0<=h/\h<=(xs.length:Int)
       .have hd':(dR A d5 o.dst site (.sl e) (.own 0 m) (xs.take h.toNat) false).dec true=some (v,rt'):=by simpa only [hc.1,hc.2,oP,Bool.and_true,Tr.dec] using hd
        obtain⟨u,h1,h2,h3⟩:=bn.desc hT;have ku:=bn u h3;obtain⟨c,g1,F,ev,cG⟩:=yC _ st rU hx;have rep:=cG.rep;simp only[aq]at rep;obtain⟨ad,cap,rfl,hlc,re⟩:=rep;have ev':a.eval x=.slice ad xs.length cap:=ev;have hb:=Am (P:=P) (lo:=none) (H8:=true) hρ (cap:=cap) (l:=0) rfl hh (by omega) hc.1 hc.2 hlc;have Vs:lo=none:=by
         cases lo with
         | none=>rfl
         | some v=>simp at hlo
        subst Vs;have hlen:(xs.take h.toNat).length=h.toNat:=by rw[cY];omega
        have h_:aq w.heap g1.Pr (.sl e) (.own 0 m) (xs.take h.toNat) [.slice ad h.toNat cap] F:=by
         simp only[aq];refine⟨ad,cap,by rw[hlen],by rw[hlen];omega,?_⟩;rcases re with re | ⟨b,cs,rfl,fb,hbk,hs,Fs,oe,kT,re⟩
         .exact .inl re
         .refine .inr ⟨b,cs,rfl,fb,hbk,hs,Fs,oe,kT,fun i hi=>?_⟩;rw[hlen]at hi;have:=re i (by omega);have e1:(xs.take h.toNat).getD i e.zero=xs.getD i e.zero:=by simp only[List.getD,fk];rw[aj hi]
          rw[e1];exact this
        obtain⟨g2,s1',s2,s3⟩:=BO (st:=cG.st) h_ (aK.ak _ (by simp[Mk.ak,mX,nU])) (fun b hb=>.inr hb) ok hd';have ead:(if cap=0 then ad else ad.map (·.add (0 * (C.ty u).width)))=ad:=by
         split
         .rfl
         .cases ad<;>simp[Addr.add]
        refine e8.value (val:=.slice ad h.toNat cap) (w':=w) ?_ ⟨true,v,rt',hd,g2,s1',s2,cG.same.trans s3,.refl _ _⟩;simp only[EA]at hb;simp[execOp,ho,ev',Instr.sliceAt,Instr.slice,run_underlying h1,Sem.run_bind,hb,ku.fI];intro _;cases ad<;>simp[Addr.add]
       .have:(decide (0<=h)&&decide (h<=(xs.length:Int)))=false:=by simp only[n4,nw];omega
        rw[this]at hd;simp[Tr.dec]at hd
      .rw[af mX]at ht;exact absurd ht bS.fail
    | _=>exact absurd ht bS.fail
 .exact absurd ht bS.fail
end
theorem S7{h:Array Obj}{S:St}{g:ay}{tmps:Array Value}{H:BS}(st:az h S g tmps H){t:Ty}{m:Mk}{x:t.den}{c:List Value}{F:BS}
  (rep:aq h g.Pr t m x c F) (hF:Sub F H) (hm:m.whole=true) :
  ∃g',az h S g' tmps (fun b=>H b/\¬ F b)/\aq h g'.Pr t .no x c Nil/\g'.cM g/\Sub g.Pr g'.Pr:=
 ⟨_,st.cP F hF,aq.share t hm rep,⟨rfl,rfl,rfl⟩,fun b hb=>.inl hb⟩
theorem az.jj{h:Array Obj}{S:St}{g:ay}{tmps:Array Value}{H:BS}(st:az h S g tmps H)(cs:Array Value)(e:TypeId) :
  az (h.push (.cells cs e)) S g tmps (fun b=>H b\/b=h.size):=
 st.grow (fun b hb=>zl b hb) (by simp) _ (fun b hb=>by rcases hb with hb | rfl;exact .inl hb;exact .inr ⟨b7 _,by simp⟩)
theorem aq.push{h:Array Obj}{S:St}{g:ay}{tmps:Array Value}{H:BS}(st:az h S g tmps H){t:Ty}{m:Mk}{x:t.den}{c:List Value}{F:BS}(rep:aq h g.Pr t m x c F)(hF:Sub F H)
  {o:Obj}:aq (h.push o) g.Pr t m x c F:=
 aq.mono (Sub.refl _) (fun b hb=>zl b (st.bP b hb)) t rep (Sub.refl _) (fun b hb=>zl b (st.d_ b (hF b hb)))
section
variable {P:Program} {C:Ctx} {D:Den C} {S:St} {g:ay} {w:World} {tmps:Array Value} {a:Act} {ρ:Operand->AV}
variable {A:bV} {site:Nat} {hint:Bool} (bn:hY P C) (st:az w.heap S g tmps Nil) (hρ:∀x,qe w.heap S g (ρ x) (a.eval x))
include bn st hρ
theorem PM{o:Oper}{x:Operand}{u:AV}(hu:ρ x=u)(ok:ny A S o.dst site){r:Result Next}(hr:r=.ok (.value (a.eval x)) w)
  (ht:bS (Ec A S.rt o.dst site hint u)):e8 P S g w tmps (Ec A S.rt o.dst site hint u) r:=by
 have hx:=hρ x;rw[hu]at hx;unfold Ec at ht⊢;cases h1:Bi S.rt u with
 | none=>rw[h1]at ht;exact absurd ht bS.fail
 | some t=>
  rw[h1]at ht;simp only at ht⊢;cases h2:tk S.rt t u with
  | none=>rw[h2]at ht;exact absurd ht bS.fail
  | some z=>
   obtain⟨m,y,d5⟩:=z;rw[h2]at ht;simp only at ht⊢;obtain⟨c,g1,F,ev,cG⟩:=yC _ st h2 hx;by_cases hh:hint=true
   .simp only[hh,aX]at ht⊢;by_cases hm:m.whole=true
    .simp only[hm,aX]at ht⊢;obtain⟨g2,s1,s2,s3,_⟩:=S7 cG.st cG.rep (fun b hb=>.inr hb) hm;exact e8.value (val:=a.eval x) (w':=w) hr ⟨true,_,_,rfl,g2,s1.bx (Sub.nil _),by simp only[qe];exact⟨c,s2,ev⟩,cG.same.trans s3,.refl _ _⟩
    .rw[af hm]at ht;exact absurd ht bS.fail
   .rw[af hh]at ht⊢;obtain⟨⟨v,rt'⟩,hd⟩:=ht true;obtain⟨g2,s1,s2,s3⟩:=BO cG.st cG.rep (by rw[cG.same.1];exact cG.tag) (fun b hb=>.inr hb) ok hd;exact e8.value (val:=a.eval x) (w':=w) hr ⟨true,v,rt',hd,g2,s1,by rw[ev];exact s2,cG.same.trans s3,.refl _ _⟩
theorem aar{o:Oper}{x:Operand}(ho:o.op=.assign x)(ok:ny A S o.dst site):Goal P C D S g w tmps a ρ A site hint o:=by
 intro ht;simp only[aY,ho]at ht⊢;have hr:(execOp a.eval o).run P w=.ok (.value (a.eval x)) w:=by simp[execOp,ho]
 split at ht
 .rename_i r p s hv;by_cases hc:(qx p&&!hint)=true
  .simp only[hc,aX]at ht⊢;have:=hρ x;rw[hv]at this;exact e8.ret hr st this
  .simp only[hc,e7,dX]at ht⊢;exact PM bn st hρ hv ok hr ht
 .rename_i u v hv;exact PM bn st hρ hv ok hr ht
 .exact e8.ret hr st (hρ x)
theorem aa7{o:Oper}{t:TypeId}(ho:o.op=.alloc t)(ok:ny A S o.dst site):Goal P C D S g w tmps a ρ A site hint o:=by
 intro ht;simp only[aY,ho]at ht⊢;by_cases hz:(C.ty t).nz=true
 .simp only[hz,aX]at ht⊢;have k:=bn t hz;obtain⟨⟨v,rt'⟩,hd⟩:=ht true;have hc:(cU (C.ty t) (zc (C.ty t))).cells=(zc (C.ty t)).toArray:=by apply m8;rw[Bw]
  have s0:=st.jj (zc (C.ty t)).toArray t;obtain⟨g2,s1,s2,s3⟩:=Ii (h:=w.heap.push (.cells (zc (C.ty t)).toArray t)) (c:=zc (C.ty t)) (F:=Nil) s0 (aq.zero _ _) (aK.ak _ (Mk.cZ _)) (Sub.nil _)
   (b:=w.heap.size) (.inr rfl) (fun h=>h) iS.new ok hd
  refine e8.value (val:=.pointer (some ⟨w.heap.size,0,none⟩)) (w':={ w with heap:=w.heap.push (.cells (zc (C.ty t)).toArray t) }) ?_ ⟨true,v,rt',hd,g2,s1,s2,s3,jW.push _⟩;simp[execOp,ho,Instr.alloc,newVar,newRow,newObj,Sem.run_bind,k.nh,hc,Sem.run]
 .rw[af hz]at ht;exact absurd ht bS.fail
theorem ajT{o:Oper}{t:TypeId}{x:Operand}(ho:o.op=.box t x)(ok:ny A S o.dst site):Goal P C D S g w tmps a ρ A site hint o:=by
 intro ht;simp only[aY,ho]at ht⊢;by_cases hz:(C.ty t).nz=true
 .simp only[hz,aX]at ht⊢;cases h2:tk S.rt (C.ty t) (ρ x) with
  | none=>rw[h2]at ht;exact absurd ht bS.fail
  | some z=>
   obtain⟨m,y,d5⟩:=z;rw[h2]at ht;simp only at ht⊢;obtain⟨c,g1,F,ev,cG⟩:=yC _ st h2 (hρ x);have hc:(a.eval x).cells=c.toArray:=by apply m8;rw[ev,BG cG.rep]
   have hrun:(execOp a.eval o).run P w=.ok (.value (.pointer (some ⟨w.heap.size,0,none⟩))) { w with heap:=w.heap.push (.cells c.toArray t) }:=by simp[execOp,ho,Instr.box,newVar,newRow,newObj,Sem.run_bind,hc,Sem.run]
   by_cases hh:hint=true
   .simp only[hh,aX]at ht⊢;by_cases hm:m.whole=true
    .simp only[hm,aX]at ht⊢;obtain⟨⟨v,rt'⟩,hd⟩:=ht true;obtain⟨g2,s1,s2,s3,_⟩:=S7 cG.st cG.rep (fun b hb=>.inr hb) hm;have s4:=(s1.bx (Sub.nil _)).jj c.toArray t;have r4:aq (w.heap.push (.cells c.toArray t)) g2.Pr (C.ty t) .no y c Nil:=aq.push (s1.bx (Sub.nil _)) s2 (Sub.nil _);obtain⟨g3,q1,q2,q3⟩:=Ii s4 r4 (aK.no _ _) (Sub.nil _) (b:=w.heap.size) (.inr rfl) (fun h=>h) iS.new ok hd;exact e8.value (w':={ w with heap:=w.heap.push (.cells c.toArray t) }) hrun ⟨true,v,rt',hd,g3,q1,q2,(cG.same.trans s3).trans q3,jW.push _⟩
    .rw[af hm]at ht;exact absurd ht bS.fail
   .rw[af hh]at ht⊢;obtain⟨⟨v,rt'⟩,hd⟩:=ht true;have s4:=cG.st.jj c.toArray t;have r4:aq (w.heap.push (.cells c.toArray t)) g1.Pr (C.ty t) m y c F:=aq.push cG.st cG.rep (fun b hb=>.inr hb);obtain⟨g3,q1,q2,q3⟩:=Ii s4 r4 (by rw[cG.same.1];exact cG.tag) (fun b hb=>.inl (.inr hb)) (b:=w.heap.size) (.inr rfl)
     (fun hb=>Gt _ (cG.st.d_ _ (.inr hb))) iS.new ok hd
    exact e8.value (w':={ w with heap:=w.heap.push (.cells c.toArray t) }) hrun ⟨true,v,rt',hd,g3,q1,q2,cG.same.trans q3,jW.push _⟩
 .rw[af hz]at ht;exact absurd ht bS.fail
end
theorem FU{h:Array Obj}{S:St}{g:ay}{tmps:Array Value}{H:BS}(st:az h S g tmps H){r:Nat}{p:Path}{R:aB}{d:Dy}{v:Value}(hR:S.root r=some R)
  (hf:focus R.ty R.ms R.x p=some d) (x:qe h S g (.addr r p) v) :
  ∃b off c,bq R.ty R.x p/\b8 h R.ty (g.C r) (g.base r) p=some (some (b,off),c)/\v=.pointer (some ⟨b,off,none⟩):=by
 simp only[qe]at x;exact⟨_,_,_,(x R hR d hf).1,(x R hR d hf).2.choose_spec.choose_spec.choose_spec.1,(x R hR d hf).2.choose_spec.choose_spec.choose_spec.2⟩
theorem KH{h h':Array Obj}{S S':St}{g g1:ay}(Q:BS):∀(a:AV),a.dh h h' S S' g g1->a.dh h h' S S' g { g1 with Pr:=Q }
 | .b5 r p s,k=>k
 | .view r p s _ _,k=>k
 | .addr r p,k=>k
 | .pair a b,k=>⟨KH Q a k.1,KH Q b k.2⟩
 | .jn a,k=>KH Q a k
 | .gz _ a,k=>KH Q a k
 | .undef,_=>trivial
 | .skip,_=>trivial
 | .cF _,_=>trivial
 | .unit,_=>trivial
 | .fe,_=>trivial
 | .val _ _,_=>trivial
 | .b_ _ _,_=>trivial
 | .dZ _,_=>trivial
theorem ajK{h:Array Obj}{tmps:Array Value}(t:Ty){S:St}{rt':aO}{g:ay}{H:BS}{hint:Bool}{a:AV}{m:Mk}{x:t.den}{v:Value}(st:az h S g tmps H)
  (ht:Si S.rt hint t a=some (m,x,rt')) (y:qe h S g a v):∃c g' F,v=cU t c/\j6 h S ⟨S.sl,rt'⟩ g tmps H t m x c g' F:=by
 simp only[Si,cJ]at ht;obtain⟨⟨m1,x1,d5⟩,h1,ht⟩:=ht;obtain⟨c,g1,F,ev,cG⟩:=yC t st h1 y;by_cases hh:hint=true
 .rw[aj hh]at ht;by_cases hm:m1.whole=true
  .rw[aj hm]at ht;simp only[aI,a_]at ht;obtain⟨rfl,rfl,rfl⟩:=ht;have s1:=(cG.st.cP F (fun b hb=>.inr hb)).bx (H':=Un H Nil) (fun b hb=>by
    rcases hb with hb | hb
    .exact⟨.inl hb,fun hf=>cG.dG b hf hb⟩
    .exact hb.elim)
   exact⟨c,{ g1 with Pr:=Un g1.Pr F },Nil,ev,⟨s1,fun b hb=>.inl (cG.pr b hb),aq.share t hm cG.rep,cq.nil _,cq.nil _,fun a=>KH _ a (cG.keeps a),cG.sl,cG.rl,aK.ak _ rfl,ay.cM.trans ⟨rfl,rfl,rfl⟩ cG.same⟩⟩
  .rw[af hm]at ht;simp at ht
 .rw[af hh]at ht;simp only[aI,a_]at ht;obtain⟨rfl,rfl,rfl⟩:=ht;exact⟨c,g1,F,ev,cG⟩
section
variable {P:Program} {C:Ctx} {D:Den C} {S:St} {g:ay} {w:World} {tmps:Array Value} {a:Act} {ρ:Operand->AV}
variable {A:bV} {site:Nat} {hint:Bool} (bn:hY P C) (st:az w.heap S g tmps Nil) (hρ:∀x,qe w.heap S g (ρ x) (a.eval x))
include bn st hρ
theorem aa2{t:TypeId}(k:lW P C t){b off:Nat}{c:List Value}{v:Value}(hv:v.cells.toList=c)(hl:c.length=(C.ty t).width)(ht:w.there b off c.length)
  (h1:∀u∈c,u.oneCell'=true):(Instr.storeAt t (.pointer (some ⟨b,off,none⟩)) v).run P w=.ok () (w.setCells b off c):=by
 have hs:v.cells.size=(C.ty t).width:=by rw[<-eS,hv,hl]
 have:=run_storeCells_cells (P:=P) b off c 0 w (fun j hj=>by simpa using (ht j hj).1) (fun j hj=>by simpa using (ht j hj).2) h1;simp only[nS]at this;simp[Instr.storeAt,Instr.sureAddr,storeVar,Sem.run_bind,k.fI,hs,hv,this]
theorem abK{o:Oper}{t:TypeId}{x y:Operand}(ho:o.op=.store t x y)(ok:ny A S o.dst site):Goal P C D S g w tmps a ρ A site hint o:=by
 intro ht;simp only[aY,ho]at ht⊢;by_cases hz:(C.ty t).nz=true/\A.fr=true
 .have V8:((C.ty t).nz&&A.fr)=true:=by simp[hz.1,hz.2]
  simp only[V8,aX]at ht⊢;obtain⟨⟨v0,rt'⟩,hy⟩:=bS.of ht;rw[hy];simp only[fj]at hy;obtain⟨e_,hst,e0⟩:=hy;simp only[a_]at e0;obtain⟨rfl,rfl⟩:=e0;have k:=bn t hz.1;obtain⟨Co,Dq⟩:=ok.fr hz.2;have hx:=hρ x;unfold A0 at hst;split at hst
  .rename_i r p hv;rw[hv]at hx;simp only[cJ]at hst;obtain⟨⟨m,z,d5⟩,h2,hst⟩:=hst;split at hst
   .rename_i R hR;simp only[cJ]at hst;obtain⟨d,hf,hst⟩:=hst;split at hst
    .rename_i hd;obtain⟨hdt,wJ⟩:=hd;simp only[cJ,aI]at hst;obtain⟨⟨m',x'⟩,hput,rfl⟩:=hst;simp only at hR hf wJ hput;obtain⟨c,g1,F,ev,cG⟩:=ajK _ st h2 (hρ y);have hx1:=(qe.keep cG.pr (fun _ _=>rfl) (.addr r p)).1 _ hx (cG.keeps _);obtain⟨b,off,c0,hin,eg,e⟩:=FU cG.st hR hf hx1;obtain⟨base,c0',F0,q1,q2,q3,q4,q5,q6⟩:=cG.st.update hR hf hin;rw[eg]at q1;simp only[aI,a_]at q1;obtain⟨rfl,rfl⟩:=q1;obtain⟨dt,dm,dx⟩:=d;simp only at hdt;subst hdt;have hl:=aq.width _ cG.rep;have hl0:=aq.width _ q2;simp only at hl0;obtain⟨wM,cs,wO,hfit,hsub⟩:=q4 b off rfl;have zK:=q5 b off rfl;have bH:((⟨S.sl,d5⟩:St).root r).isSome:=by show(d5.root r).isSome=true;rw[hR];rfl
     have oh:¬ F b:=fun hb=>cG.st.hand r bH b zK (.inr hb);have HS:¬ g1.Pr b:=fun hb=>cG.st.dK r bH b zK hb;have bT:∀b',b'≠b->(w.setCells b off c).heap[b']? = w.heap[b']?:=fun b' hb'=>zj c off w b' hb';have Ch:off+c.length<=cs.size:=by omega
     have h_:aq (w.setCells b off c).heap g1.Pr (C.ty t) (m.stamp site) z c F:=
      (aq.stamp site _).1 (aq.mono (Sub.refl _) (fun b' hb'=>bT b' (fun e=>HS (e ▸ hb'))) _ cG.rep (Sub.refl _) (fun b' hb'=>bT b' (fun e=>oh (e ▸ hb'))))
     have j_:(m.stamp site).fresh site (site+1):=Mk.dP site wJ;obtain⟨g2,s1,s2,s3,s4,s5,s6⟩:=q6 site (site+1) (w.setCells b off c).heap (m.stamp site) z c F m' x' Dq
      (fun b' _ _ hb'=>bT b' (fun e=>hb' off (by rw[e]))) (by rw[qD];exact b7 _) (FO rfl wO Ch) h_
      (fun b' hb'=>.inr (.inl (.inr hb'))) (fun b' hb'=>by rw[qD];exact cG.st.d_ b' (.inr hb')) hput (Mk.eK _ j_)
      (aK.ak _ (Mk.cK Co wJ)) (fun _=>Mk.cK Co wJ)
      (by
       intro p' t1 n1 hp fX _;obtain⟨hi',t_⟩:=CI p' j_ hp fX;refine⟨yh _ _ hi' fX,fun bp cp ha=>?_⟩;obtain⟨ig,h3⟩:=CS (h':=(w.setCells b off c).heap) p' _ c _ hi' ha;refine⟨ig,h3,fun s a' e hs=>?_⟩;subst e;exact absurd t_ hs)
     have d9:(a.eval y).cells.toList=c:=by rw[ev,BG cG.rep]
     have hrun:=aa2 (w:=w) bn st hρ k d9 hl (rY wO Ch) (aq.one _ cG.rep);have eN:=CR (b:=b) c off w;have VQ:(execOp a.eval o).run P w=.ok .skip (w.setCells b off c):=by simp[execOp,ho,e,hrun,Sem.run_bind]
     rw[VQ];exact⟨true,.undef,_,rfl,g2,s1.bx (Sub.nil _),by simp only[qe],cG.same.trans s3,
       ⟨eN.1,eN.2.1,eN.2.2,by rw[qD];exact b7 _,fun b' _ hb'=>bT b' (fun e=>hb' (by
        have:=cG.st.own r b bH zK;rw[cG.same.2.1]at this;rw[e];exact this))⟩⟩
    .simp at hst
   .simp at hst
  .simp at hst
 .have V8:((C.ty t).nz&&A.fr)=false:=by
   simp only[n4];by_cases h1:(C.ty t).nz=true
   .exact .inr (by simpa using fun h2=>hz ⟨h1,h2⟩)
   .exact .inl (by simpa using h1)
  simp only[V8,e7,dX]at ht;exact absurd ht bS.fail
end
end Go.V
namespace Go.V
noncomputable section
open Go
theorem Mp{l:List Value}{o:Nat}{c:List Value}(h:o+c.length<=l.length)(k:Nat):(bM l o c)[k]? = if k<o then l[k]? else if k<o+c.length then c[k-o]? else l[k]?:=by
 unfold bM;by_cases h1:k<o
 .rw[aj h1,eu,jd (by rw[cY];omega),fk,aj h1]
 .rw[af h1];by_cases h2:k<o+c.length
  .rw[aj h2,jd (by rw[cw,cY];omega),jT (by rw[cY];omega),cY,SY (by omega)]
  .rw[af h2,jT (by rw[cw,cY];omega),cw,cY,SY (by omega),f8];congr 1;omega
def zs(t:Ty)(n:Nat):List Value:=(Builtin.zeroCells (cU t (zc t)).cells n).toList
theorem E_(t:Ty):(cU t (zc t)).cells.toList=zc t:=Bw t
theorem Km(t:Ty)(n:Nat):(zs t n).length=n * t.width:=by
 have:(cU t (zc t)).cells.size=t.width:=by rw[<-eS,E_,BT]
 simp[zs,Builtin.zeroCells,this]
theorem Gg(t:Ty)(n k:Nat)(hk:k<n * t.width):(zs t n)[k]? = (zc t)[k % t.width]?:=by
 have e:(cU t (zc t)).cells.size=t.width:=by rw[<-eS,E_,BT]
 have hw:0<t.width:=by
  rcases Nat.eq_zero_or_pos t.width with h | h
  .rw[h]at hk;omega
  .exact h
 have hm:k % t.width<(cU t (zc t)).cells.size:=by rw[e];exact xX _ hw
 have e2:(zc t)[k % t.width]? = some ((cU t (zc t)).cells[k % t.width]!):=by
  have h3:(cU t (zc t)).cells.toList[k % t.width]? = some ((cU t (zc t)).cells[k % t.width]!):=by rw[qR,qP hm];congr 1;exact(getElem!_pos (cU t (zc t)).cells (k % t.width) hm).symm
  rw[E_]at h3;exact h3
 rw[e2];unfold zs Builtin.zeroCells;rw[e,qR,Array.getElem?_map,qP (by rw[Array.size_range];exact hk),Array.getElem_range];rfl
theorem ag_{t:Ty}{cs fH:Array Value}{lo hi:Nat}(hlh:lo<=hi)(hfit:hi * t.width<=cs.size)(e:fH.toList=bM cs.toList (lo * t.width) (zs t (hi-lo)))(i:Nat) :
  sub fH (i * t.width) t.width=if lo<=i/\i<hi then zc t else sub cs (i * t.width) t.width:=by
 have hz:(zs t (hi-lo)).length=(hi-lo) * t.width:=Km _ _;have hs:lo * t.width+(hi-lo) * t.width=hi * t.width:=by rw[<-iE];congr 1;omega
 have hf:lo * t.width+(zs t (hi-lo)).length<=cs.toList.length:=by rw[hz,hs,eS];exact hfit
 unfold sub;apply o4;intro j;rw[fk,f8,e,Mp hf,hz,hs];by_cases hj:j<t.width
 .rw[aj hj];by_cases h1:lo<=i/\i<hi
  .have a1:=dz t.width h1.1;have a2:=dz t.width (show i+1<=hi by omega);rw[jh]at a2;rw[aj h1,af (by omega),aj (by omega)];have e3:i * t.width+j-lo * t.width=(i-lo) * t.width+j:=by rw[Nat.sub_mul];omega
   rw[e3,Gg]
   .rw[show(i-lo) * t.width+j=j+t.width * (i-lo) by rw[qB];omega,Nat.add_mul_mod_self_left,Nat.mod_eq_of_lt hj]
   .have:=dz t.width (show i-lo+1<=hi-lo by omega);rw[jh]at this;omega
  .rw[af h1,fk,aj hj,f8];by_cases h2:i<lo
   .have:=dz t.width (show i+1<=lo by omega);rw[jh]at this;rw[aj (by omega)]
   .have:=dz t.width (show hi<=i by omega);have:=dz t.width (show lo<=i by omega);rw[af (by omega),af (by omega)]
 .rw[af hj];split
  .rw[n5];rw[BT];omega
  .rw[fk,af hj]
theorem aft{t:Ty}{xs:List t.den}{lo hi:Nat}(h1:lo<=hi)(h2:hi<=xs.length):(vS t xs lo hi).length=xs.length:=by simp only[vS,cw,cY,kQ,mz];omega
theorem afo{t:Ty}{xs:List t.den}{lo hi:Nat}(h1:lo<=hi)(h2:hi<=xs.length)(i:Nat):(vS t xs lo hi).getD i t.zero=if lo<=i/\i<hi then t.zero else xs.getD i t.zero:=by
 unfold vS;simp only[List.getD];by_cases h:i<lo
 .rw[af (by omega),eu,jd (by rw[cY];omega),fk,aj h]
 .by_cases h3:i<hi
  .rw[aj ⟨by omega,h3⟩,jd (by simp only[cw,cY,kQ];omega),jT (by rw[cY];omega),cY,SY (by omega),sI,aj (by omega)];rfl
  .rw[af (by omega),jT (by simp only[cw,cY,kQ];omega),f8];simp only[cw,cY,kQ];congr 2;omega
theorem Aw:∀(p:Path){t:Ty}{m:Mk}{t':Ty}{m':Mk},m.still=true->q8 t m p=some (t',m')->qx p=false/\m'.still=true
 | [],t,m,t',m',hm,h=>by simp only[q8,aI,a_]at h;obtain⟨rfl,rfl⟩:=h;exact⟨rfl,hm⟩
 | .fst::p,t,m,t',m',hm,h=>by
  cases t with
  | pair a b=>
   simp only[q8]at h;have:m.fst.still=true:=by cases m<;>simp_all [Mk.still,Mk.fst]
   have:=Aw p this h;exact⟨by simpa [qx] using this.1,this.2⟩
  | _=>simp[q8]at h
 | .snd::p,t,m,t',m',hm,h=>by
  cases t with
  | pair a b=>
   simp only[q8]at h;have:m.snd.still=true:=by cases m<;>simp_all [Mk.still,Mk.snd]
   have:=Aw p this h;exact⟨by simpa [qx] using this.1,this.2⟩
  | _=>simp[q8]at h
 | .idx i s::p,t,m,t',m',hm,h=>by
  cases t with
  | sl a=>cases m<;>simp_all [q8,Mk.still]
  | _=>simp[q8]at h
theorem Hr:∀v:AV,v.aR 0 0=true
 | .addr r p=>BB p
 | .b5 r p s=>by simp only[AV.aR,bC];exact⟨by cases s<;>rfl,BB p⟩
 | .view r p s _ _=>by simp only[AV.aR,bC];exact⟨by cases s<;>rfl,BB p⟩
 | .pair a b=>by simp only[AV.aR,bC];exact⟨Hr a,Hr b⟩
 | .jn a=>Hr a
 | .gz _ a=>Hr a
 | .undef=>rfl
 | .skip=>rfl
 | .cF _=>rfl
 | .unit=>rfl
 | .fe=>rfl
 | .val _ _=>rfl
 | .b_ _ _=>rfl
 | .dZ _=>rfl
theorem agC{w:World}{S:St}{g:ay}{tmps:Array Value}(st:az w.heap S g tmps Nil){r:Nat}{p:Path}{R:aB}{t:Ty}{s:Nat}{m:Mk}{xs:(Ty.sl t).den}{oa:fy}{ad:Option Addr}{n cap:Nat}
  (hR:S.root r=some R) (hf:focus R.ty R.ms R.x p=some ⟨.sl t,.own s m,xs⟩) (hin:bq R.ty R.x p) (eg:b8 w.heap R.ty (g.C r) (g.base r) p=some (oa,[.slice ad n cap])) (hm:m.still=true) (hs:s<1048576)
  {lo hi:Nat} (h1:lo<hi) (h2:hi<=n) {m':Mk} {x':R.ty.den} (hput:put R.ty R.ms R.x p (.sl t) (.own s m) (vS t xs lo hi)=some (m',x')) :
  ∃b,ad=some ⟨b,0,none⟩/\g.L b/\w.there b (lo * t.width) ((hi-lo) * t.width)/\∃g',az (w.setCells b (lo * t.width) (zs t (hi-lo))).heap (S.aD r (some { R with ms:=m',x:=x' })) g' tmps Nil/\g'.cM g:=by
 obtain⟨base,c,F,q1,q2,q3,q4,q5,q6⟩:=st.update hR hf hin;rw[eg]at q1;simp only[aI,a_]at q1;obtain⟨rfl,rfl⟩:=q1;have q2':=q2;simp only[aq]at q2;obtain⟨ad',cap',e0,hl,hr⟩:=q2;simp only[eL,Value.slice.injEq,gM]at e0;obtain⟨rfl,rfl,rfl⟩:=e0;rcases hr with hr | ⟨b,cs,rfl,fb,hb,hsz,Fs,oe,hd,re⟩
 .omega
 have bH:(S.root r).isSome:=by rw[hR];rfl
 have zK:=q3 b fb;have J8:(zs t (hi-lo)).length=(hi-lo) * t.width:=Km _ _;have VU:lo * t.width+(hi-lo) * t.width=hi * t.width:=by rw[<-iE];congr 1;omega
 have sV:hi * t.width<=cs.size:=mB (dz _ (by omega)) hsz;have hfit:lo * t.width+(zs t (hi-lo)).length<=cs.size:=by rw[J8,VU];exact sV
 have bT:∀b',b'≠b->(w.setCells b (lo * t.width) (zs t (hi-lo))).heap[b']? = w.heap[b']?:=fun b' hb'=>zj _ _ w b' hb';obtain⟨fH,mS,wj⟩:=FO (w:=w) (base:=some (b,lo * t.width)) (c2:=zs t (hi-lo)) rfl hb hfit b (lo * t.width) rfl cs hb;have nL:fH.size=cs.size:=by rw[<-eS,wj,yj (by rw[eS];exact hfit),eS]
 have hsub:=ag_ (t:=t) (Gv h1) sV wj;have HS:¬ g.Pr b:=fun hb'=>st.dK r bH b zK hb';have mX:(Mk.own s m).ak=true:=by simp only[Mk.ak,bC];exact⟨oY hs,Mk.ia hm⟩
 have hlen:(vS t xs lo hi).length=xs.length:=aft (Gv h1) h2;have h_:aq (w.setCells b (lo * t.width) (zs t (hi-lo))).heap g.Pr (.sl t) (.own s m) (vS t xs lo hi) [.slice (some ⟨b,0,none⟩) xs.length cap] F:=by
  simp only[aq];refine⟨_,cap,by rw[hlen],by rw[hlen];exact hl,.inr ⟨b,fH,rfl,fb,mS,by rw[nL];exact hsz,Fs,oe,hd,fun i hi'=>?_⟩⟩;rw[afo (Gv h1) h2,hsub];by_cases hz:lo<=i/\i<hi
  .rw[aj hz,aj hz];exact aq.mono (Sub.refl _) (fun _ _=>rfl) _ (aq.zero t m) (Sub.nil _) (fun _ _=>rfl)
  .rw[af hz,af hz];exact aq.mono (Sub.refl _) (fun b' hb'=>bT b' (fun e=>HS (e ▸ hb'))) _ (re i (by rw[hlen]at hi';exact hi')) (Sub.refl _) (fun b' hb'=>bT b' (fun e=>(oe i).2 (e ▸ hb')))
 obtain⟨g2,s1,s2,s3,s4,s5,s6⟩:=q6 0 0 (w.setCells b (lo * t.width) (zs t (hi-lo))).heap (.own s m) (vS t xs lo hi) [.slice (some ⟨b,0,none⟩) xs.length cap] F m' x'
  (fun u=>Hr _) (fun b' _ hb' _=>bT b' (fun e=>hb' (e ▸ fb))) (by rw[qD];exact b7 _)
  (by
   intro b' o e cs' pJ;obtain⟨wM,cs3,wP,pH,pN⟩:=q4 b' o e;have hne:b'≠b:=fun e=>wM (e ▸ fb);refine⟨cs',pJ.congr (bT b' hne),?_⟩;have:=pJ.uniq wP;subst this;have hr:=AI (c:=cs'.toList) (n:=o) (k:=1) (by rw[eS];exact pH);have vu:(cs'.toList.drop o).take 1=[Value.slice (some ⟨b,0,none⟩) xs.length cap]:=pN;rw[vu]at hr;exact hr.symm)
  h_ (fun b' hb'=>.inl hb') (fun b' hb'=>by rw[qD];exact st.b6 r b' bH (q3 b' hb')) hput (Mk.eZ 0 0 _)
  (aK.ak _ mX) (fun _=>mX)
  (by
   intro p' t1 n1 _ fX hi';cases p' with
   | nil=>refine⟨trivial,fun bp cp ha=>⟨cp,?_,fun _ _ _ _=>rfl⟩⟩;simp only[b8]at ha⊢;exact ha
   | cons x p'=>
    cases x with
    | fst=>simp[q8]at fX
    | snd=>simp[q8]at fX
    | idx i s'=>
     simp only[q8]at fX;split at fX
     .obtain⟨Dv,t_⟩:=Aw p' hm fX;simp only[bq]at hi';refine⟨?_,fun bp cp ha=>?_⟩
      .simp only[bq];exact⟨by rw[hlen];exact hi'.1,yh p' _ Dv fX⟩
      .obtain⟨e1,l1,u1,Vb,_⟩:=hb;obtain⟨e2,l2,u2,HT,_⟩:=mS;simp only[b8,Vb]at ha;obtain⟨ig,h3⟩:=CS (h':=(w.setCells b (lo * t.width) (zs t (hi-lo))).heap) p' _ (sub fH (i * t.width) t.width) _ Dv ha;refine⟨ig,by simp only[b8,HT];exact h3,fun s4 a4 e4 _=>?_⟩;rw[e4]at t_;simp[Mk.still]at t_
     .simp at fX)
 exact⟨b,rfl,st.own r b bH zK,rY hb (by rw[<-J8];exact hfit),g2,s1.bx (Sub.nil _),s3⟩
section
variable {P:Program} {C:Ctx} {D:Den C} {S:St} {g:ay} {w:World} {tmps:Array Value} {a:Act} {ρ:Operand->AV}
variable {A:bV} {site:Nat} {hint:Bool} (bn:hY P C) (st:az w.heap S g tmps Nil) (hρ:∀x,qe w.heap S g (ρ x) (a.eval x))
include bn st hρ
theorem agr{t u:TypeId}{e:Ty}(h1:P.underlying t=some (.slice u))(h2:C.ty u=e)(h3:(C.ty u).nz=true){b o n k:Nat}(hn:0<n)(ht:w.there b o (n * e.width))(ty:TypeId)(more:List TypeId)(args:Array TypeId)(ha:args[0]? = some t) :
  (Builtin.clear_ args ty #[.slice (some ⟨b,o,none⟩) n k]).run P w=.ok (.tuple #[]) (w.setCells b o (zs e n)):=by
 subst h2;have ku:=bn u h3;have hl:=Km (C.ty u) n;have h1c:∀v∈zs (C.ty u) n,v.oneCell'=true:=by intro v hv;obtain⟨i,hi,rfl⟩:=kR.1 hv;have:=Gg (C.ty u) n i (by rw[<-hl];exact hi);rw[fN hi]at this;exact aq.one _ (aq.zero (h:=#[]) (Pr:=Nil) (C.ty u) .no) _ (List.mem_of_getElem? this.symm)
 have:=run_storeCells_cells (P:=P) b o (zs (C.ty u) n) 0 w (fun j hj=>by simpa using (ht j (by rw[<-hl];exact hj)).1) (fun j hj=>by simpa using (ht j (by rw[<-hl];exact hj)).2) h1c;simp only[nS]at this;obtain⟨n',rfl⟩:∃n',n=n'+1:=⟨n-1,by omega⟩
 have e0:(Builtin.zeroCells (cU (C.ty u) (zc (C.ty u))).cells (n'+1)).toList=zs (C.ty u) (n'+1):=rfl;simp[Builtin.clear_,ha,run_underlying h1,ku.nh,Sem.run_bind,e0,this]
theorem agm{o:Oper}{c:Call}{x:Operand}{t:TypeId}{e:Ty}(ho:o.op=.call c)(hc:c.callee=.builtin .clear)(hargs:c.args = #[x])
  (h0:c.argTypes[0]? = some t) (hT:C.ty t=.sl e) (ht:bS (xY S.rt e (ρ x))):e8 P S g w tmps (xY S.rt e (ρ x)) ((execOp a.eval o).run P w):=by
 have hx:=hρ x;unfold xY at ht⊢;cases hv:ρ x with
 | view r p s lo hi=>
  rw[hv]at hx ht;simp only at ht⊢;cases hR:S.rt.root r with
  | none=>rw[hR]at ht;exact absurd ht bS.fail
  | some R=>
   rw[hR]at ht;simp only at ht⊢;cases hf:focus R.ty R.ms R.x p with
   | none=>rw[hf]at ht;exact absurd ht bS.fail
   | some d=>
    obtain⟨dt,dm,dx⟩:=d;cases dt with
    | sl e'=>
     cases dm with
     | own s' m=>
      rw[hf]at ht;simp only at ht⊢;by_cases hs:s=s'/\e=e'/\m.still=true/\s'<1048576
      .simp only[aj hs]at ht⊢;obtain⟨rfl,rfl,hm,VR⟩:=hs;cases hput:put R.ty R.ms R.x p (.sl e) (.own s m) (vS e dx lo hi) with
       | none=>rw[hput]at ht;exact absurd ht bS.fail
       | some r'=>
        simp only;obtain⟨u,h1,h2,h3⟩:=bn.desc hT;simp only[qe]at hx;obtain⟨hin,base,ad,n,cap,eg,hlh,hhn,ev⟩:=hx R hR e m dx hf;by_cases hlt:lo<hi
        .obtain⟨b,rfl,Vh,ue,g',st',hsame⟩:=agC (m':=r'.1) (x':=r'.2) st hR hf hin eg hm VR hlt hhn hput;have V0:w.there b (lo * e.width) ((hi-lo) * e.width):=ue;have UG:(if cap=lo then (some ⟨b,0,none⟩:Option Addr) else (some ⟨b,0,none⟩:Option Addr).map (·.add (lo * e.width)))=some ⟨b,lo * e.width,none⟩:=by
          have:n<=cap:=by obtain⟨base',c',F,q1,q2,_⟩:=st.update hR hf hin;rw[eg]at q1;simp only[aI,a_]at q1;obtain⟨rfl,rfl⟩:=q1;simp only[aq]at q2;obtain⟨_,_,e0,hl,_⟩:=q2;simp only[eL,Value.slice.injEq,gM]at e0;omega
          rw[af (by omega)];simp[Addr.add_mid]
         rw[UG]at ev;have hrun:=agr (w:=w) bn st hρ h1 h2 h3 (k:=cap-lo) (show 0<hi-lo by omega) V0 o.type [] c.argTypes h0;have eN:=CR (b:=b) (zs e (hi-lo)) (lo * e.width) w;refine e8.value (val:=.tuple #[]) (w':=w.setCells b (lo * e.width) (zs e (hi-lo))) ?_ ⟨true,.undef,_,by simp only[Tr.dec,cT hlt],g',st',by simp only[qe],hsame,⟨eN.1,eN.2.1,eN.2.2,by rw[qD];exact b7 _,fun b' _ hb'=>zj _ _ w b' (fun e=>hb' (e ▸ Vh))⟩⟩;simp[execOp,ho,resolve,hc,invoke,builtin,hargs,ev,hrun,Sem.run_bind]
        .have Vr:hi-lo=0:=by omega
         rw[Vr]at ev;refine e8.value (val:=.tuple #[]) (w':=w) ?_ ⟨true,.undef,_,by simp only[Tr.dec,bJ hlt],Post.same st (by simp only[qe])⟩;have ji:(Builtin.clear_ c.argTypes o.type #[a.eval x]).run P w=.ok (.tuple #[]) w:=by rw[ev];cases hh:(if cap=lo then ad else ad.map (·.add (lo * e.width)))<;>simp[Builtin.clear_,h0,run_underlying h1,Sem.run_bind]
         simp[execOp,ho,resolve,hc,invoke,builtin,hargs,ji,Sem.run_bind]
      .rw[af hs]at ht;exact absurd ht bS.fail
     | _=>rw[hf]at ht;exact absurd ht bS.fail
    | _=>rw[hf]at ht;exact absurd ht bS.fail
 | _=>rw[hv]at ht;exact absurd ht bS.fail
end
end
end Go.V
namespace Go.V
noncomputable section
open Go
theorem O7(off:Nat):∀(l:List Value)(k:Nat)(cs:Array Value),off+k+l.length<=cs.size->
  ((l.zipIdx k).foldl (fun cs p=>cs.setIfInBounds (off+p.2) p.1) cs).toList=bM cs.toList (off+k) l
 | [],k,cs,_=>by simp[bM]
 | v::l,k,cs,h=>by
  simp only[ct]at h;rw[List.zipIdx_cons,mA,O7 off l (k+1) _ (by simp;omega),QK];exact PF (by simp;omega)
theorem O5{off:Nat}{v:Value}{cs:Array Value}(h:off+v.cells.size<=cs.size) :
  (v.cells.zipIdx.foldl (fun cs (c,j)=>cs.setIfInBounds (off+j) c) cs).toList=bM cs.toList off v.cells.toList:=by
 rw[<-Eo,Array.toList_zipIdx];exact O7 off v.cells.toList 0 cs (by simpa using h)
def Kp(h:Array Obj)(S:St)(g:ay)(S':St)(g':ay):Prop:=∀u v,qe h S g u v->qe h S' g' u v
theorem Kp.refl{h:Array Obj}{S:St}{g:ay}:Kp h S g S g:=fun _ _ x=>x
theorem Kp.trans{h:Array Obj}{S S' v8:St}{g g' tO:ay}(x:Kp h S g S' g')(y:Kp h S' g' v8 tO):Kp h S g v8 tO:=fun u v z=>y u v (x u v z)
theorem j6.kp{h:Array Obj}{S S':St}{g g':ay}{tmps:Array Value}{H F:BS}{t:Ty}{m:Mk}{x:t.den}{c:List Value}(k:j6 h S S' g tmps H t m x c g' F):Kp h S g S' g':=
 fun u v y=>(qe.keep k.pr (fun _ _=>rfl) u).1 v y (k.keeps u)
theorem Ih{h:Array Obj}{S:St}{g:ay}{tmps:Array Value}{H:BS}(st:az h S g tmps H)(D:BS):Kp h S g S { g with Pr:=Un g.Pr D }:=by
 intro u v y;refine(qe.keep (g':={ g with Pr:=Un g.Pr D }) (fun b hb=>Or.inl hb) (fun _ _=>rfl) u).1 v y (AV.d6 (fun r p=>?_) (fun r p s=>?_) u)
 .exact(nC (g':={ g with Pr:=Un g.Pr D }) st (.inl rfl) rfl rfl (fun _ _ _=>rfl)).1 p
 .exact(nC (g':={ g with Pr:=Un g.Pr D }) st (.inl rfl) rfl rfl (fun _ _ _=>rfl)).2 p s
theorem Np{C:Ctx}{h:Array Obj}{tmps:Array Value}{sl:List AV}{T:Ty}{fs:List Field}{place:Nat->Option (Nat×Nat)}
  (hs:mF C fs 0 T) (oK:∀i fd,fs[i]? = some fd->place i=some (fd.offset,(C.ty fd.type).width)) (ev:Operand->Value) :
  ∀(l:List (Nat×Operand))(rt:aO)(g:ay)(H F:BS)(m:Mk)(x:T.den)(cells:List Value)(ρ:Operand->AV)(m':Mk)(x':T.den)(rt':aO),
   az h ⟨sl,rt⟩ g tmps H->aq h g.Pr T m x cells F->Sub F H->aK g.hd T m cells->(∀x,qe h ⟨sl,rt⟩ g (ρ x) (ev x))->
   ow rt T (m,x) (l.map fun p=>(p.1,ρ p.2))=some (m',x',rt')->
   ∃g' H' F' cells',az h ⟨sl,rt'⟩ g' tmps H'/\aq h g'.Pr T m' x' cells' F'/\Sub F' H'/\aK g'.hd T m' cells'/\g'.cM g/\
    Instr.fill place cells.toArray (l.map fun p=>(p.1,ev p.2))=some cells'.toArray
 | [],rt,g,H,F,m,x,cells,ρ,m',x',rt',st,rep,hF,mY,hρ,hb=>by
  simp only[fO,ow,aI,a_]at hb;obtain⟨rfl,rfl,rfl⟩:=hb;exact⟨g,H,F,cells,st,rep,hF,mY,.refl _,rfl⟩
 | (i,op)::l,rt,g,H,F,m,x,cells,ρ,m',x',rt',st,rep,hF,mY,hρ,hb=>by
  simp only[cm,ow,cJ]at hb;obtain⟨d,hf,⟨m1,x1,d5⟩,h2,⟨m2,x2⟩,hput,hb⟩:=hb;obtain⟨fd,q1,q2,q3,q4,q5⟩:=Uq i hs hf;obtain⟨c1,g1,F1,e1,cG⟩:=yC (S:=⟨sl,rt⟩) _ st h2 (hρ op);have nc:aq h g1.Pr T m x cells F:=aq.mono cG.pr (fun _ _=>rfl) T rep (Sub.refl _) (fun _ _=>rfl);obtain⟨base',c',F2,Fr,z⟩:=zip (g6 i) _ _ _ cells F none d nc hf (yh _ _ q5 (uU _ hf)) (fun b o e=>by simp at e);obtain⟨eb,ec,UB⟩:=z.plain q5;have nB:=aq.width _ cG.rep;have oG:cq F1 Fr:=fun b hb fK=>cG.dG b hb (hF b (z.fr b fK));obtain⟨F3,D3,s3,sd,d3,r3⟩:=z.vf h g1.Pr m1 x1 c1 F1 m2 x2 (Sub.refl _) (fun _ _=>rfl) (fun _ _ _=>rfl) (by rw[eb];intro b o e;simp at e) cG.rep oG hput;have Vl:(if qx (g6 i)=true then cells else bM cells (ew T (g6 i)) c1)=bM cells (ew T (g6 i)) c1:=by rw[af (by simp[q5])]
  rw[Vl]at r3;have hin:∀b,Fr b\/F1 b->Un H F1 b:=by
   rintro b (hb | hb)
   .exact .inl (hF b (z.fr b hb))
   .exact .inr hb
  have oV:=cG.st.cP D3 (fun b hb=>hin b (sd b hb));have hoff:fd.offset=ew T (g6 i):=by omega
  have VY:aK g1.hd T m2 (bM cells (ew T (g6 i)) c1):=by
   have:=aK.put (hd:=g1.hd) (g6 i) hput (by rw[cG.same.1];exact mY) (by rw[cG.same.1];exact cG.tag) (fun h=>by rw[q5]at h;simp at h) (aq.width _ rep) nB
   rwa [af (by simp[q5])]at this
  obtain⟨g',H',F',cells',k1,k2,k3,k4,k5,k6⟩:=Np hs oK ev l d5 _ _ F3 m2 x2 _ ρ m' x' rt' oV r3
   (fun b hb=>⟨hin b (s3 b hb),fun fK=>d3 b hb fK⟩) VY (fun x=>Ih cG.st D3 _ _ (cG.kp _ _ (hρ x))) hb
  refine⟨g',H',F',cells',k1,k2,k3,k4,cG.same.trans (ay.cM.trans ⟨rfl,rfl,rfl⟩ k5),?_⟩;have d9:(ev op).cells.toList=c1:=by rw[e1,BG cG.rep]
  have hsize:(ev op).cells.size=(C.ty fd.type).width:=by rw[<-eS,d9,nB,q2]
  simp only[cm,Instr.fill,oK i fd q1];have mP:fd.offset+(ev op).cells.size<=cells.toArray.size:=by rw[hsize,<-q2,hoff];simpa using UB
  have gi:((decide ((ev op).cells.size≠(C.ty fd.type).width))||decide (fd.offset+(ev op).cells.size>cells.toArray.size))=false:=by simp only[Bool.or_eq_false_iff,nw];exact⟨fun h=>h hsize,by omega⟩
  have j9:(ev op).cells.zipIdx.foldl (fun cs (c,j)=>cs.setIfInBounds (fd.offset+j) c) cells.toArray=(bM cells (ew T (g6 i)) c1).toArray:=by apply m8;rw[O5 mP,d9,hoff]
  rw[j9];have:(if (decide ((ev op).cells.size≠(C.ty fd.type).width)||decide (fd.offset+(ev op).cells.size>cells.toArray.size))=true then (none:Option (Array Value))
    else Instr.fill place (bM cells (ew T (g6 i)) c1).toArray (l.map fun p=>(p.1,ev p.2)))=some cells'.toArray:=by
   rw[gi];exact k6
  exact this
theorem Oi{P:Program}{C:Ctx}(bn:hY P C):∀(fs:List Field)(off:Nat)(T:Ty),mF C fs off T->
  fs.mapM (fun f=>(P.info? f.type).map fun i=>(f.offset,i.size))=some (fs.map fun f=>(f.offset,(C.ty f.type).width))
 | [],_,_,_=>rfl
 | f::fs,off,T,h=>by
  simp only[mF]at h;obtain⟨b,rfl,h1,_,h2,h3⟩:=h;obtain⟨i,q1,q2,_⟩:=(bn f.type h2).info;simp only[List.mapM_cons,q1,dV,Option.bind_eq_bind,dn,Oi bn fs _ b h3,Option.pure_def,cm,q2]
section
variable {P:Program} {C:Ctx} {D:Den C} {S:St} {g:ay} {w:World} {tmps:Array Value} {a:Act} {ρ:Operand->AV}
variable {A:bV} {site:Nat} {hint:Bool} (bn:hY P C) (st:az w.heap S g tmps Nil) (hρ:∀x,qe w.heap S g (ρ x) (a.eval x))
include bn st hρ
theorem aaT{o:Oper}{t:TypeId}{parts:Array (Nat×Operand)}(ho:o.op=.build t parts)(ok:ny A S o.dst site):Goal P C D S g w tmps a ρ A site hint o:=by
 intro ht;simp only[aY,ho]at ht⊢;by_cases H7:((C.ty t).nz&&(C.ty t).agg)=true
 .have hz:(C.ty t).nz=true:=by simp only[bC]at H7;exact H7.1
  have hag:(C.ty t).agg=true:=by simp only[bC]at H7;exact H7.2
  simp only[H7,aX]at ht⊢;cases hb:ow S.rt (C.ty t) (Mk.zx hint (C.ty t),(C.ty t).zero) (parts.toList.map fun p=>(p.1,ρ p.2)) with
  | none=>rw[hb]at ht;exact absurd ht bS.fail
  | some z=>
   obtain⟨m,y,d5⟩:=z;rw[hb]at ht;simp only at ht⊢;obtain⟨⟨v,rt'⟩,hd⟩:=ht true;have hp:∃ta tb,C.ty t=.pair ta tb:=by
    cases hT:C.ty t with
    | pair ta tb=>exact⟨ta,tb,rfl⟩
    | unit=>rw[hT]at hz;simp[Ty.nz]at hz
    | _=>rw[hT]at hag;simp[Ty.agg]at hag
   .obtain⟨ta,tb,hT⟩:=hp;obtain⟨fs,h1,h2⟩:=bn.pair hT;rw[<-hT]at h2;have oK:∀(i:Nat)(fd:Field),fs.toList[i]? = some fd->((fs.toList.map fun f=>(f.offset,(C.ty f.type).width)).toArray[·]?) i=some (fd.offset,(C.ty fd.type).width):=by intro i fd h;simp only[List.getElem?_toArray,GU,h,dV]
    obtain⟨g',H',F',cells',k1,k2,k3,k4,k5,k6⟩:=Np (sl:=S.sl) h2 oK a.eval parts.toList S.rt g Nil Nil (Mk.zx hint (C.ty t)) (C.ty t).zero (zc (C.ty t)) ρ m y d5
     st (aq.zero _ _) (Sub.nil _) (aK.ak _ (Mk.qK _ _)) hρ hb
    obtain⟨g2,s1,s2,s3⟩:=BO k1 k2 k4 k3 ok hd;obtain⟨it,i1,i2,i3,_⟩:=(bn t hz).info;have Dh:P.built t (parts.toList.map fun p=>(p.1,a.eval p.2))=some cells'.toArray:=by
     unfold Program.built;simp only[i1,h1,i3,Oi bn fs.toList 0 _ h2];have:(cU (C.ty t) (zc (C.ty t))).cells=(zc (C.ty t)).toArray:=by apply m8;rw[Bw]
     rw[this];exact k6
    have hrun:=run_build (P:=P) w t (parts.map fun p=>(p.1,a.eval p.2)) cells'.toArray (by simpa using Dh);refine e8.value (val:=cU (C.ty t) cells') (w':=w) ?_ ⟨true,v,rt',hd,g2,s1,s2,k5.trans s3,.refl _ _⟩;have:cU (C.ty t) cells'=.agg cells'.toArray:=by rw[hT];rfl
    rw[this];simp[execOp,ho,hrun,Sem.run_bind]
 .rw[af H7]at ht;exact absurd ht bS.fail
end
end
structure El (h:Array Obj) (Pr:BS) (e:Ty) (mi:Mk) (xs:List e.den) (cells:List Value) (Fs:Nat->BS):Prop where
 rep:∀i,i<xs.length->aq h Pr e mi (xs.getD i e.zero) ((cells.drop (i * e.width)).take e.width) (Fs i)
 dG:∀i j,i≠j->cq (Fs i) (Fs j)
theorem El.mono{h h':Array Obj}{Pr fD:BS}{e:Ty}{mi:Mk}{xs:List e.den}{cells:List Value}{Fs:Nat->BS}(k:El h Pr e mi xs cells Fs)(hp:Sub Pr fD)
  (gN:∀b,Pr b->h'[b]? = h[b]?) (hk:∀i b,Fs i b->h'[b]? = h[b]?):El h' fD e mi xs cells Fs:=
 ⟨fun i hi=>aq.mono hp gN e (k.rep i hi) (Sub.refl _) (fun b hb=>hk i b hb),k.dG⟩
theorem El.aQ{h:Array Obj}{Pr:BS}{e:Ty}{w m:Mk}{xs:List e.den}{cells:List Value}{Fs:Nat->BS}(hw:w.aQ m=true)(k:El h Pr e m xs cells Fs) :
  ∃(vZ:Nat->BS)(D:BS),(∀i,Sub (vZ i) (Fs i))/\(∀b,D b->∃i,Fs i b)/\(∀i,cq (vZ i) D)/\El h (Un Pr D) e w xs cells vZ:=by
 have key:∀i,∃F1 F2:BS,Sub F1 (Fs i)/\Sub F2 (Fs i)/\cq F1 F2/\
   (i<xs.length->aq h (fun b=>Pr b\/F2 b) e w (xs.getD i e.zero) ((cells.drop (i * e.width)).take e.width) F1):=by
  intro i;by_cases hi:i<xs.length
  .obtain⟨F1,F2,s1,s2,dd,rr⟩:=aq.aQ e hw (k.rep i hi);exact⟨F1,F2,s1,s2,dd,fun _=>rr⟩
  .exact⟨Nil,Nil,Sub.nil _,Sub.nil _,cq.nil _,fun h=>absurd h hi⟩
 obtain⟨F1,key⟩:=sH key;obtain⟨F2,key⟩:=sH key;refine⟨F1,fun b=>∃i,F2 i b,fun i=>(key i).1,fun b ⟨i,hb⟩=>⟨i,(key i).2.1 b hb⟩,?_,?_,?_⟩
 .rintro i b hb ⟨j,hj⟩;by_cases e:i=j
  .subst e;exact(key i).2.2.1 b hb hj
  .exact k.dG i j e b ((key i).1 b hb) ((key j).2.1 b hj)
 .intro i hi;exact aq.mono (fun b hb=>hb.imp id fun hb=>⟨i,hb⟩) (fun _ _=>rfl) e ((key i).2.2.2 hi) (Sub.refl _) (fun _ _=>rfl)
 .intro i j e;exact(k.dG i j e).mono (key i).1 (key j).1
theorem El.row{h:Array Obj}{Pr:BS}{e:Ty}{mi:Mk}{xs:List e.den}{cells:List Value}{Fs:Nat->BS}(k:El h Pr e mi xs cells Fs){b:Nat}{cs:Array Value}(hb:iS h b cs)
  {cap:Nat} (hcap:cap * e.width<=cs.size) (hl:xs.length<=cap) (hcs:∀i,i<xs.length->sub cs (i * e.width) e.width=(cells.drop (i * e.width)).take e.width)
  (hF:∀i,¬ Fs i b) (s:Nat):aq h Pr (.sl e) (.own s mi) xs [.slice (some ⟨b,0,none⟩) xs.length cap] (fun z=>z=b\/∃i,Fs i z):=by
 simp only[aq];exact⟨_,cap,rfl,hl,.inr ⟨b,cs,rfl,.inl rfl,hb,hcap,Fs,fun i=>⟨fun z hz=>.inr ⟨i,hz⟩,hF i⟩,k.dG,fun i hi=>by rw[hcs i hi];exact k.rep i hi⟩⟩
theorem o7{α:Type}(l:List α)(k i:Nat)(x d:α)(hk:k<l.length):(l.set k x).getD i d=if i=k then x else l.getD i d:=by
 simp only[List.getD,jv];by_cases e:k=i
 .subst e;simp[hk]
 .have:¬ i=k:=fun h=>e h.symm;simp[e,this]
theorem Oh{h:Array Obj}{tmps:Array Value}{sl:List AV}{e:Ty}(ev:Operand->Value) :
  ∀(l:List (Nat×Operand))(rt:aO)(g:ay)(H:BS)(Fs:Nat->BS)(m:Mk)(xs:List e.den)(cells:List Value)(ρ:Operand->AV)(m':Mk)(xs':List e.den)(rt':aO),
   az h ⟨sl,rt⟩ g tmps H->El h g.Pr e m xs cells Fs->(∀i,Sub (Fs i) H)->cells.length=xs.length * e.width->(∀x,qe h ⟨sl,rt⟩ g (ρ x) (ev x))->
   tC rt e (m,xs) (l.map fun p=>(p.1,ρ p.2))=some (m',xs',rt')->
   ∃g' H' vZ cells',az h ⟨sl,rt'⟩ g' tmps H'/\El h g'.Pr e m' xs' cells' vZ/\(∀i,Sub (vZ i) H')/\cells'.length=xs'.length * e.width/\xs'.length=xs.length/\g'.cM g/\
    Instr.fill (fun i=>some (i * e.width,e.width)) cells.toArray (l.map fun p=>(p.1,ev p.2))=some cells'.toArray
 | [],rt,g,H,Fs,m,xs,cells,ρ,m',xs',rt',st,el,hF,hlen,hρ,hb=>by
  simp only[fO,tC,aI,a_]at hb;obtain⟨rfl,rfl,rfl⟩:=hb;exact⟨g,H,Fs,cells,st,el,hF,hlen,rfl,.refl _,rfl⟩
 | (k,op)::l,rt,g,H,Fs,m,xs,cells,ρ,m',xs',rt',st,el,hF,hlen,hρ,hb=>by
  simp only[cm,tC]at hb;split at hb
  .rename_i hk;simp only[cJ]at hb;obtain⟨⟨m1,x1,d5⟩,h2,hb⟩:=hb;obtain⟨c1,g1,F1,e1,cG⟩:=yC (S:=⟨sl,rt⟩) _ st h2 (hρ op);have nB:=aq.width _ cG.rep;obtain⟨sZ,lZ⟩:=Mk.fm m m1;obtain⟨vZ,D,q1,q2,q3,q4⟩:=(el.mono cG.pr (fun _ _=>rfl) (fun _ _ _=>rfl)).aQ sZ;obtain⟨Fa,Fb,p1,p2,p3,p4⟩:=aq.aQ e lZ cG.rep;have hin:∀b,(D b\/Fb b)->Un H F1 b:=by
    rintro b (hb' | hb')
    .obtain⟨i,hi⟩:=q2 b hb';exact .inl (hF i b hi)
    .exact .inr (p2 b hb')
   have oV:=cG.st.cP (fun b=>D b\/Fb b) hin;have hfit:k * e.width+c1.length<=cells.length:=by rw[nB,hlen];have:=dz e.width (show k+1<=xs.length by exact hk);rw[jh]at this;exact this
   let pn:Nat->BS:=fun i=>if i=k then Fa else vZ i
   have rO:∀i,cq F1 (Fs i):=fun i b bQ fK=>cG.dG b bQ (hF i b fK);have vj:El h (Un g1.Pr fun b=>D b\/Fb b) e (m.meet m1) (xs.set k x1) (bM cells (k * e.width) c1) pn:=by
    refine⟨fun i hi=>?_,fun i j hij=>?_⟩
    .rw[ck]at hi;rw[o7 _ _ _ _ _ hk];by_cases hik:i=k
     .subst hik;simp only[aX,pn];have hsame:=aa1 hfit;rw[nB]at hsame;rw[hsame];exact aq.mono (fun b hb'=>hb'.imp id .inr) (fun _ _=>rfl) e p4 (Sub.refl _) (fun _ _=>rfl)
     .simp only[af hik,pn];rw[Fj hfit (by
       rw[nB];rcases Ah i k with h3 | h3
       .left;have:=dz e.width (show i+1<=k by exact h3);rw[jh]at this;exact this
       .right;have:=dz e.width (show k+1<=i by omega);rw[jh]at this;exact this)]
      exact aq.mono (fun b hb'=>hb'.imp id .inl) (fun _ _=>rfl) e (q4.rep i hi) (Sub.refl _) (fun _ _=>rfl)
    .intro b bQ fK;simp only[pn]at bQ fK;by_cases h1:i=k
     .rw[aj h1]at bQ;rw[af (fun h=>hij (h1.trans h.symm))]at fK;exact rO j b (p1 b bQ) (q1 j b fK)
     .rw[af h1]at bQ;by_cases h2:j=k
      .rw[aj h2]at fK;exact rO i b (p1 b fK) (q1 i b bQ)
      .rw[af h2]at fK;exact q4.dG i j hij b bQ fK
   have tQ:∀i,Sub (pn i) (fun b=>Un H F1 b/\¬ (D b\/Fb b)):=by
    intro i b hb';simp only[pn]at hb';split at hb'
    .refine⟨.inr (p1 b hb'),?_⟩;rintro(h3 | h3)
     .obtain⟨j,hj⟩:=q2 b h3;exact rO j b (p1 b hb') hj
     .exact p3 b hb' h3
    .refine⟨.inl (hF i b (q1 i b hb')),?_⟩;rintro(h3 | h3)
     .exact q3 i b hb' h3
     .exact rO i b (p2 b h3) (q1 i b hb')
   obtain⟨g',H',Fs3,cells',k1,k2,k3,k4,k5,k6,k7⟩:=Oh ev l d5 _ _ pn (m.meet m1) (xs.set k x1) (bM cells (k * e.width) c1) ρ m' xs' rt' oV vj tQ
    (by rw[yj hfit,ck,hlen]) (fun x=>Ih cG.st _ _ _ (cG.kp _ _ (hρ x))) hb
   refine⟨g',H',Fs3,cells',k1,k2,k3,k4,by rw[k5,ck],cG.same.trans (ay.cM.trans ⟨rfl,rfl,rfl⟩ k6),?_⟩;have d9:(ev op).cells.toList=c1:=by rw[e1,BG cG.rep]
   have hsize:(ev op).cells.size=e.width:=by rw[<-eS,d9,nB]
   simp only[cm,Instr.fill];have mP:k * e.width+(ev op).cells.size<=cells.toArray.size:=by rw[hsize];have:=hfit;rw[nB]at this;simpa using this
   have gi:((decide ((ev op).cells.size≠e.width))||decide (k * e.width+(ev op).cells.size>cells.toArray.size))=false:=by simp only[Bool.or_eq_false_iff,nw];exact⟨fun h=>h hsize,by omega⟩
   have j9:(ev op).cells.zipIdx.foldl (fun cs (c,j)=>cs.setIfInBounds (k * e.width+j) c) cells.toArray=(bM cells (k * e.width) c1).toArray:=by apply m8;rw[O5 mP,d9]
   rw[j9];have:(if (decide ((ev op).cells.size≠e.width)||decide (k * e.width+(ev op).cells.size>cells.toArray.size))=true then (none:Option (Array Value))
     else Instr.fill (fun i=>some (i * e.width,e.width)) (bM cells (k * e.width) c1).toArray (l.map fun p=>(p.1,ev p.2)))=some cells'.toArray:=by
    rw[gi];exact k7
   exact this
  .simp at hb
theorem QG{e:Ty}(hp:0<e.width){n:Nat}{i:Nat}(hi:(i+1) * e.width<=n):sub (madeCells (zc e).toArray n) (i * e.width) e.width=zc e:=by
 rw[jh]at hi;apply o4;intro j;simp only[sub,fk,f8];by_cases hj:j<e.width
 .rw[aj hj];have h1:i * e.width+j<n:=by omega
  have h2:(i * e.width+j) % e.width=j:=by rw[qB,Nat.mul_add_mod,Nat.mod_eq_of_lt hj]
  have h3:j<(zc e).length:=by rw[BT];exact hj
  simp[madeCells,h1,BT,h2,h3];rw[fN h3];rfl
 .rw[af hj,n5 (by rw[BT];omega)]
theorem ajQ{h:Array Obj}{Pr:BS}{e:Ty}(hp:0<e.width)(mi:Mk)(n:Nat):El h Pr e mi (List.replicate n e.zero) (madeCells (zc e).toArray (n * e.width)).toList (fun _=>Nil):=by
 refine⟨fun i hi=>?_,fun i j _=>cq.nil _⟩;rw[kQ]at hi;have e1:(List.replicate n e.zero).getD i e.zero=e.zero:=by simp[List.getD,hi]
 have:=QG (e:=e) hp (n:=n * e.width) (i:=i) (dz _ hi);simp only[sub]at this;rw[e1,this];exact aq.zero e mi
section
variable {P:Program} {C:Ctx} {D:Den C} {S:St} {g:ay} {w:World} {tmps:Array Value} {a:Act} {ρ:Operand->AV}
variable {A:bV} {site:Nat} {hint:Bool} (bn:hY P C) (st:az w.heap S g tmps Nil) (hρ:∀x,qe w.heap S g (ρ x) (a.eval x))
include bn st hρ
theorem Gi{T:Ty}:(cU T (zc T)).cells=(zc T).toArray:=by apply m8;rw[Bw]
theorem aiN{o:Oper}{t:TypeId}{x y:Operand}(ho:o.op=.makeSlice t x y)(ok:ny A S o.dst site):Goal P C D S g w tmps a ρ A site hint o:=by
 intro ht;simp only[aY,ho]at ht⊢;split at ht
 .rename_i e l c hT hl hc;have el:=Ie hl (hρ x);have ec:=Ie hc (hρ y);obtain⟨u,h1,h2,h3⟩:=bn.desc hT;have ku:=bn u h3;obtain⟨i,i1,i2,i3,i4⟩:=ku.info;obtain⟨⟨v,rt'⟩,hd⟩:=ht true;by_cases hb:0<=l/\l<=c/\c<=(fY:Int)
  .have hd':(dR A S.rt o.dst site (.sl e) (.own 0 (Mk.top e)) (List.replicate l.toNat e.zero) false).dec true=some (v,rt'):=by
    have gi:(decide (0<=l)&&decide (l<=c)&&decide (c<=(fY:Int)))=true:=by rw[cT hb.1,cT hb.2.1,cT hb.2.2];rfl
    rw[gi]at hd;exact hd
   have hbn:(fY:Int)=274877906944:=rfl;have hbytes:(i.bytes:Int) * c<=281474976710656:=by
    have h5:(i.bytes:Int)<=255:=Int.ofNat_le.2 i4;have h6:c<=274877906944:=by rw[<-hbn];exact hb.2.2
    have h7:(i.bytes:Int) * c<=255 * c:=Int.mul_le_mul_of_nonneg_right h5 (by omega);omega
   have hrun:=run_make (P:=P) w t u i _ h1 i1 i3 .i64 .i64 l c hb.1 hb.2.1 hbytes (by rw[hbn]at hb;omega);rw[Gi bn st hρ,i2,h2]at hrun;have hp:=ku.pos;rw[h2]at hp;have UC:El (w.heap.push (.cells (madeCells (zc e).toArray (c.toNat * e.width)) u)) g.Pr e (Mk.top e) (List.replicate l.toNat e.zero) (madeCells (zc e).toArray (c.toNat * e.width)).toList (fun _=>Nil):=by
    refine⟨fun i hi=>?_,fun i j _=>cq.nil _⟩;rw[kQ]at hi;have e1:(List.replicate l.toNat e.zero).getD i e.zero=e.zero:=by simp[List.getD,hi]
    have:=QG (e:=e) hp (n:=c.toNat * e.width) (i:=i) (dz _ (by omega));simp only[sub]at this;rw[e1,this];exact aq.zero e _
   have s0:=st.jj (madeCells (zc e).toArray (c.toNat * e.width)) u;have rep:=UC.row (b:=w.heap.size) iS.new (cap:=c.toNat) (by rw[size_madeCells];exact b7 _) (by rw[kQ];omega) (fun i hi=>rfl) (fun i h=>h) 0;obtain⟨g2,s1,s2,s3⟩:=BO s0 rep (aK.ak _ (by simp[Mk.ak,nU,Mk.cZ])) (fun b hb=>by rcases hb with rfl | ⟨_,hb⟩;exact .inr rfl;exact hb.elim) ok hd';rw[kQ]at s2;refine e8.value (w':=w.alloc (.cells (madeCells (zc e).toArray (c.toNat * e.width)) u)) ?_ ⟨true,v,rt',hd,g2,s1,s2,s3,jW.push _⟩;simp[execOp,ho,el,ec,hrun,Sem.run_bind,cU,Ty.agg]
  .have:(decide (0<=l)&&decide (l<=c)&&decide (c<=(fY:Int)))=false:=by simp only[n4,nw];omega
   rw[this]at hd;simp[Tr.dec]at hd
 .exact absurd ht bS.fail
theorem ahk{o:Oper}{t:TypeId}{n:Nat}{parts:Array (Nat×Operand)}(ho:o.op=.buildSlice t n parts)(ok:ny A S o.dst site):Goal P C D S g w tmps a ρ A site hint o:=by
 intro ht;simp only[aY,ho]at ht⊢;split at ht
 .rename_i e hT;cases hb:tC S.rt e (Mk.top e,List.replicate n e.zero) (parts.toList.map fun p=>(p.1,ρ p.2)) with
  | none=>rw[hb]at ht;exact absurd ht bS.fail
  | some z=>
   obtain⟨m,xs,d5⟩:=z;rw[hb]at ht;simp only at ht⊢;by_cases mD:(m.ak&&Nat.ble (n * e.width) 16777216)=true
   .have hm:m.ak=true:=by simp only[bC]at mD;exact mD.1
    have iY:n * e.width<=2 ^ 24:=by simp only[bC]at mD;exact qQ mD.2
    simp only[mD,aX]at ht⊢;obtain⟨u,h1,h2,h3⟩:=bn.desc hT;have ku:=bn u h3;obtain⟨i,i1,i2,i3,i4⟩:=ku.info;have hp:=ku.pos;rw[h2]at hp i2;obtain⟨g',H',vZ,cells',k1,k2,k3,k4,k5,k6,k7⟩:=Oh (sl:=S.sl) a.eval parts.toList S.rt g Nil (fun _=>Nil) (Mk.top e) (List.replicate n e.zero)
     (madeCells (zc e).toArray (n * e.width)).toList ρ m xs d5 st (ajQ hp _ n) (fun _=>Sub.nil _) (by simp[size_madeCells]) hρ hb
    rw[kQ]at k5;have hrun:n * e.width<=2 ^ 24->(Instr.buildSlice t n (parts.map fun p=>(p.1,a.eval p.2))).run P w=.ok (.slice (some ⟨w.heap.size,0,none⟩) n n) { w with heap:=w.heap.push (.cells cells'.toArray u) }:=by
     intro iY;by_cases h0:n * i.size=0
     .have hn0:n=0:=by
       rw[i2]at h0;rcases Nat.mul_eq_zero.1 h0 with h | h
       .exact h
       .omega
      subst hn0;have k7':Instr.fill (fun i=>some (i * e.width,e.width)) #[] (parts.toList.map fun p=>(p.1,a.eval p.2))=some cells'.toArray:=by
       have:(madeCells (zc e).toArray (0 * e.width)).toList.toArray = #[]:=by simp[madeCells]
       rw[<-this];exact k7
      have e0:Array.range 0 = #[]:=rfl;simp[Instr.buildSlice,run_underlying h1,sizeOf,typeInfo,i1,i2,e0,k7',newRow,newObj,Sem.run_bind,Sem.run]
     .have:=run_buildSlice (P:=P) w t u n (parts.map fun p=>(p.1,a.eval p.2)) cells'.toArray i _ h1 i1 i3 (by rw[i2];omega) h0 (by
       rw[Gi bn st hρ,i2];have e2:((Array.range (n * e.width)).map fun x=>(zc e).toArray[x % (zc e).toArray.size]!)=(madeCells (zc e).toArray (n * e.width)).toList.toArray:=by rw[n6];rfl
       rw[h2,e2];simpa using k7)
      exact this
    have s0:=k1.jj cells'.toArray u;have JE:∀i b,vZ i b->b<w.heap.size:=fun i b hb=>k1.d_ b (k3 i b hb);have UC:El (w.heap.push (.cells cells'.toArray u)) g'.Pr e m xs cells' vZ:=
     k2.mono (Sub.refl _) (fun b hb=>zl b (k1.bP b hb)) (fun i b hb=>zl b (JE i b hb))
    have rep:=UC.row (b:=w.heap.size) iS.new (cap:=n) (by simp[k4,k5]) (by omega) (fun i hi=>by simp[sub])
     (fun i h=>Gt _ (JE i _ h)) 0
    by_cases hh:hint=true
    .simp only[hh,aX]at ht⊢;by_cases hw:m.whole=true
     .simp only[hw,aX]at ht⊢;obtain⟨g2,s1,s2,s3,_⟩:=S7 s0 rep (fun b hb=>by
       rcases hb with rfl | ⟨i,hb⟩
       .exact .inr rfl
       .exact .inl (k3 i b hb)) (by simpa [Mk.whole] using hw)
      refine e8.value (w':={ w with heap:=w.heap.push (.cells cells'.toArray u) }) ?_ ⟨true,_,_,rfl,g2,s1.bx (Sub.nil _),by simp only[qe];exact⟨_,s2,rfl⟩,k6.trans s3,jW.push _⟩;rw[k5];simp[execOp,ho,hrun iY,Sem.run_bind,cU,Ty.agg]
     .rw[af hw]at ht;exact absurd ht bS.fail
    .rw[af hh]at ht⊢;obtain⟨⟨v,rt'⟩,hd⟩:=ht true;obtain⟨g2,s1,s2,s3⟩:=BO s0 rep (aK.ak _ (by simp[Mk.ak,nU,hm])) (fun b hb=>by
      rcases hb with rfl | ⟨i,hb⟩
      .exact .inr rfl
      .exact .inl (k3 i b hb)) ok hd
     rw[k5]at s2;refine e8.value (w':={ w with heap:=w.heap.push (.cells cells'.toArray u) }) ?_ ⟨true,v,rt',hd,g2,s1,s2,k6.trans s3,jW.push _⟩;simp[execOp,ho,hrun iY,Sem.run_bind,cU,Ty.agg]
   .rw[af mD]at ht;exact absurd ht bS.fail
 .exact absurd ht bS.fail
end
end Go.V
namespace Go.V
noncomputable section
open Go
section
variable {P:Program} (w:World)
theorem Se{ats:Array TypeId}{t t' u u' ty:TypeId}{i:TypeInfo}(h0:ats[0]? = some t)(h1:ats[1]? = some t')(ht:P.underlying t=some (.slice u))(ht':P.underlying t'=some (.slice u'))
  (hi:P.info? u=some i) {xa:Option Addr} {n cap:Nat} {ya:Option Addr} {m c:Nat} {news:List Value}
  (hnews:(Builtin.firstCells i.size m (.slice ya m c)).run P w=.ok news.toArray w) (hroom:n+m<=cap)
  {w':World} (hst:∀ad,xa=some ad->(storeCells (ad.add (n * i.size)) news).run P w=.ok () w') (hno:xa=none->w'=w) :
  (Builtin.append_ ats ty #[.slice xa n cap,.slice ya m c]).run P w=.ok (.slice xa (n+m) cap) w':=by
 cases xa with
 | none=>obtain rfl:=hno rfl;simp[Builtin.append_,h0,h1,run_underlying ht,run_underlying ht',sizeOf,typeInfo,hi,Builtin.lenOf,hroom,hnews,Sem.run_bind]
 | some ad=>have:=hst ad rfl;simp[Builtin.append_,h0,h1,run_underlying ht,run_underlying ht',sizeOf,typeInfo,hi,Builtin.lenOf,hroom,hnews,this,Sem.run_bind]
theorem NP{ats:Array TypeId}{t t' u u' ty:TypeId}{i:TypeInfo}{z:Value}(h0:ats[0]? = some t)(h1:ats[1]? = some t')(ht:P.underlying t=some (.slice u))(ht':P.underlying t'=some (.slice u'))
  (hi:P.info? u=some i) (hz:i.zero=some z) {xa:Option Addr} {n cap:Nat} {ya:Option Addr} {m c:Nat} {olds news:List Value}
  (hnews:(Builtin.firstCells i.size m (.slice ya m c)).run P w.drew=.ok news.toArray w.drew)
  (holds:(Builtin.firstCells i.size n (.slice xa n cap)).run P w.drew=.ok olds.toArray w.drew) (hg:cap<n+m) (h63:((n+m:Nat):Int)<=9223372036854775807)
  (hfit:Builtin.nextslicecap (n+m) cap * i.bytes<=281474976710656) :
  (Builtin.append_ ats ty #[.slice xa n cap,.slice ya m c]).run P w =
   .ok (.slice (some ⟨w.heap.size,0,none⟩) (n+m) (grownCap w (n+m) cap u))
    (w.drew.alloc (.cells (olds.toArray++news.toArray++Builtin.zeroCells z.cells (grownCap w (n+m) cap u-(n+m))) u)):=by
 have hn:¬ (n+m<=cap):=by omega
 have h63':¬ (9223372036854775807<((n:Int)+(m:Int))):=by omega
 have UK:¬ (281474976710656<Builtin.nextslicecap (n+m) cap * i.bytes):=by omega
 simp[Builtin.append_,h0,h1,run_underlying ht,run_underlying ht',sizeOf,typeInfo,zeroValue,hi,hz,Builtin.lenOf,hn,h63',UK,Question.forced,hnews,holds,newRow,grownCap];congr 2;apply m8;simp[eu]
end
theorem BL{P:Program}{w:World}{size n len cap:Nat}{ad:Option Addr}{cs:List Value}(hl:cs.length=n * size)
  (h:(n=0/\cs=[])\/∃b o,ad=some ⟨b,o,none⟩/\w.rangeAt b o cs):(Builtin.firstCells size n (.slice ad len cap)).run P w=.ok cs.toArray w:=by
 rcases h with⟨rfl,rfl⟩ | ⟨b,o,rfl,hr⟩
 .cases ad with
  | none=>exact run_firstCells_none w size 0 len cap
  | some ad=>simp[Builtin.firstCells,loadCells,loadCellsFrom]
 .exact run_firstCells_some w size n ⟨b,o,none⟩ len cap cs hl (fun j v hv=>by rw[Addr.add_mid];exact hr j v hv)
theorem Sd{w:World}{b o:Nat}{cs:List Value}(h:w.rangeAt b o cs):w.drew.rangeAt b o cs:=by simpa using h
def J9:Mk->Mk
 | .own _ m=>m
 | _=>.no
theorem aiS{my m':Mk}(h:pE my=some m'):my≠.gone/\(∀a b,my≠.pr a b)/\J9 my=m':=by
 cases my with
 | no=>simp only[pE,aI]at h;exact⟨by simp,by simp,h⟩
 | own s m=>simp only[pE,aI]at h;exact⟨by simp,by simp,h⟩
 | gone=>simp[pE]at h
 | pr a b=>simp[pE]at h
theorem HF{h:Array Obj}{Pr:BS}{e:Ty}{m:Mk}{xs:(Ty.sl e).den}{c:List Value}{F:BS}(hm:m≠.gone)(hp:∀a b,m≠.pr a b)(rep:aq h Pr (.sl e) m xs c F) :
  ∃ad cap cells Fs,c=[.slice ad xs.length cap]/\cells.length=xs.length * e.width/\xs.length<=cap/\
   ((xs.length=0/\cells=[])\/∃b o cs,ad=some ⟨b,o,none⟩/\sJ h b cs/\o+xs.length * e.width<=cs.size/\cells=sub cs o (xs.length * e.width))/\
   El h Pr e (J9 m) xs cells Fs/\(∀i,Sub (Fs i) F)/\
   (∀s m',m=.own s m'->cap=0\/∃b cs,ad=some ⟨b,0,none⟩/\F b/\iS h b cs/\cap * e.width<=cs.size/\(∀i,¬ Fs i b)/\cells=sub cs 0 (xs.length * e.width)):=by
 have hsub:∀(cs:Array Value)(o i:Nat),i<xs.length->o+xs.length * e.width<=cs.size->((sub cs o (xs.length * e.width)).drop (i * e.width)).take e.width=sub cs (o+i * e.width) e.width:=by
  intro cs o i hi hs;have:i * e.width+e.width<=xs.length * e.width:=by have:=dz e.width (show i+1<=xs.length by exact hi);rw[jh]at this;exact this
  simp only[sub,si,oS,oQ];congr 1;omega
 cases m with
 | gone=>exact absurd rfl hm
 | pr a b=>exact absurd rfl (hp a b)
 | no=>
  simp only[aq]at rep;obtain⟨ad,cap,rfl,hl,re⟩:=rep;by_cases hne:xs=[]
  .subst hne;exact⟨ad,cap,[],fun _=>Nil,rfl,by simp,hl,.inl ⟨rfl,rfl⟩,⟨fun i hi=>by simp at hi,fun i j _=>cq.nil _⟩,fun i=>Sub.nil _,fun s m' e=>by simp at e⟩
  .obtain⟨b,o,cs,rfl,hp,hb,hs,re⟩:=re hne;refine⟨_,cap,sub cs o (xs.length * e.width),fun _=>Nil,rfl,Fl hs,hl,.inr ⟨b,o,cs,rfl,hb,hs,rfl⟩,⟨fun i hi=>?_,fun i j _=>cq.nil _⟩,fun i=>Sub.nil _,fun s m' e=>by simp at e⟩;rw[hsub cs o i hi hs];exact re i hi
 | own s m'=>
  simp only[aq]at rep;obtain⟨ad,cap,rfl,hl,re⟩:=rep;rcases re with rfl | ⟨b,cs,rfl,fb,hb,hs,Fs,oe,kT,re⟩
  .have hx:xs=[]:=jU.1 (by omega);subst hx;exact⟨ad,0,[],fun _=>Nil,rfl,by simp,hl,.inl ⟨rfl,rfl⟩,⟨fun i hi=>by simp at hi,fun i j _=>cq.nil _⟩,fun i=>Sub.nil _,fun s m' e=>.inl rfl⟩
  .have hfit:0+xs.length * e.width<=cs.size:=by have:=dz e.width hl;omega
   refine⟨_,cap,sub cs 0 (xs.length * e.width),Fs,rfl,Fl hfit,hl,.inr ⟨b,0,cs,rfl,hb.zA,hfit,rfl⟩,⟨fun i hi=>?_,kT⟩,fun i=>(oe i).1,
    fun s m' e=>.inr ⟨b,cs,rfl,fb,hb,hs,fun i=>(oe i).2,rfl⟩⟩
   rw[hsub cs 0 i hi hfit,jx];exact re i hi
end
theorem az.og{h h2:Array Obj}{S:St}{g:ay}{tmps:Array Value}{H:BS}(st:az h S g tmps H)(hk:∀b,b<h.size->¬ H b->h2[b]? = h[b]?)(hsz:h.size<=h2.size)
  (H2:BS) (zI:∀b,H2 b->H b\/(h.size<=b/\b<h2.size)):az h2 S g tmps H2:=by
 have kP:∀b,g.Pr b->h2[b]? = h[b]?:=fun b hb=>hk b (st.bP b hb) (fun hH=>st.bI b hH hb);have kG:∀r,(S.root r).isSome->∀b,g.G r b->h2[b]? = h[b]?:=fun r h1 b hb=>hk b (st.b6 r b h1 hb) (fun hH=>st.hand r h1 b hb hH);refine { len:=st.len,gq:=st.gq,slots:=?_,roots:=?_,dG:=st.dG,dK:=st.dK,hand:=?_,bI:=?_,bP:=?_,b6:=?_,d_:=?_,tag:=st.tag,own:=st.own,eY:=?_,fS:=fun b hb=>st.fS b (by omega),p0:=st.p0,jY:=st.jY }
 .intro t;refine(qe.keep (Sub.refl _) kP _).1 _ (st.slots t) (AV.d6 (fun r p=>?_) (fun r p s=>?_) _)
  .exact(nC st (.inl rfl) rfl rfl (fun h1 b hb=>kG r h1 b hb)).1 p
  .exact(nC st (.inl rfl) rfl rfl (fun h1 b hb=>kG r h1 b hb)).2 p s
 .intro r R hR;have h1:(S.root r).isSome:=by rw[hR];rfl
  obtain⟨F,q1,q2,q3,q4,q5⟩:=st.roots r R hR;refine⟨F,aq.mono (Sub.refl _) kP _ q1 (Sub.refl _) (fun b hb=>kG r h1 b (q2 b hb)),q2,q3,?_,q5⟩;intro hm;obtain⟨b,e1,e2,e3⟩:=q4 hm;exact⟨b,e1,e2,e3.congr (kG r h1 b e2)⟩
 .intro r h1 b hb hz;rcases zI b hz with h3 | h3
  .exact st.hand r h1 b hb h3
  .have:=st.b6 r b h1 hb;omega
 .intro b hz hb;rcases zI b hz with h3 | h3
  .exact st.bI b h3 hb
  .have:=st.bP b hb;omega
 .intro b hb;have:=st.bP b hb;omega
 .intro r b h1 hb;have:=st.b6 r b h1 hb;omega
 .intro b hz;rcases zI b hz with h3 | h3
  .have:=st.d_ b h3;omega
  .exact h3.2
 .intro b hz;rcases zI b hz with h3 | h3
  .exact st.eY b h3
  .exact st.fS b h3.1
theorem El.append{h:Array Obj}{Pr:BS}{e:Ty}{mi:Mk}{xs ys:List e.den}{c1 c2:List Value}{F1 F2:Nat->BS}(k1:El h Pr e mi xs c1 F1)(k2:El h Pr e mi ys c2 F2)
  (nB:c1.length=xs.length * e.width) (iw:c2.length=ys.length * e.width) (hd:∀i j,cq (F1 i) (F2 j)) :
  El h Pr e mi (xs++ys) (c1++c2) (fun i=>if i<xs.length then F1 i else F2 (i-xs.length)):=by
 refine⟨fun i hi=>?_,fun i j hij=>?_⟩
 .rw[cw]at hi;by_cases h1:i<xs.length
  .simp only[h1,aX];have e1:(xs++ys).getD i e.zero=xs.getD i e.zero:=by simp[List.getD,jd h1]
   have hw:i * e.width+e.width<=c1.length:=by rw[nB];have:=dz e.width (show i+1<=xs.length by exact h1);rw[jh]at this;exact this
   have e2:((c1++c2).drop (i * e.width)).take e.width=(c1.drop (i * e.width)).take e.width:=by rw[AH (by omega),nv (by rw[mz];omega)]
   rw[e1,e2];exact k1.rep i h1
  .simp only[h1,dX];have e1:(xs++ys).getD i e.zero=ys.getD (i-xs.length) e.zero:=by simp[List.getD,jT (by omega:xs.length<=i)]
   have e2:(c1++c2).drop (i * e.width)=c2.drop ((i-xs.length) * e.width):=by
    have h3:c1.length<=i * e.width:=by rw[nB];exact dz _ (by omega)
    rw[Ey,vi h3,gJ,nB,Nat.sub_mul]
   rw[e1,e2];exact k2.rep (i-xs.length) (by omega)
 .intro b bQ fK;by_cases h1:i<xs.length<;>by_cases h2:j<xs.length<;>simp only[h1,h2,aX,dX]at bQ fK
  .exact k1.dG i j hij b bQ fK
  .exact hd i _ b bQ fK
  .exact hd j _ b fK bQ
  .exact k2.dG _ _ (by omega) b bQ fK
theorem Ks{cs:Array Value}{l:List Value}{i w n:Nat}(h:cs.toList.take n=l)(hi:i * w+w<=n):sub cs (i * w) w=(l.drop (i * w)).take w:=by rw[<-h];simp only[sub,si,oQ];congr 1;omega
section
variable {P:Program} {C:Ctx} {D:Den C} {S:St} {g:ay} {w:World} {tmps:Array Value} {a:Act} {ρ:Operand->AV}
variable {A:bV} {site:Nat} {hint:Bool} (bn:hY P C) (st:az w.heap S g tmps Nil) (hρ:∀x,qe w.heap S g (ρ x) (a.eval x))
include bn st hρ
theorem aap{o:Oper}{c:Call}{x y:Operand}{t t':TypeId}{e:Ty}(ho:o.op=.call c)(hc:c.callee=.builtin .append)(hargs:c.args = #[x,y])
  (h0:c.argTypes[0]? = some t) (h1:c.argTypes[1]? = some t') (hT:C.ty t=.sl e) (Cc:C.ty t'=.sl e) (ok:ny A S o.dst site)
  (ht:bS (CW A S.rt o.dst site e (ρ x) (ρ y))):e8 P S g w tmps (CW A S.rt o.dst site e (ρ x) (ρ y)) ((execOp a.eval o).run P w):=by
 unfold CW at ht⊢;cases hx:tk S.rt (.sl e) (ρ x) with
 | none=>rw[hx]at ht;exact absurd ht bS.fail
 | some z=>
  obtain⟨mx,xs,d5⟩:=z;rw[hx]at ht;cases mx with
  | own s m=>
   simp only at ht⊢;cases hy:tk d5 (.sl e) (ρ y) with
   | none=>rw[hy]at ht;exact absurd ht bS.fail
   | some z=>
    obtain⟨my,ys,e_⟩:=z;rw[hy]at ht;simp only at ht⊢;cases hmk:pE my with
    | none=>rw[hmk]at ht;exact absurd ht bS.fail
    | some m'=>
     rw[hmk]at ht;simp only at ht⊢;by_cases mX:(m.meet m').ak=true
     .simp only[mX,aX]at ht⊢;obtain⟨⟨v,rt'⟩,hd⟩:=ht true;by_cases hbd:xs.length+ys.length<=fY
      .have gi:decide (xs.length+ys.length<=fY)=true:=cT hbd;rw[gi]at hd⊢;have hd':(dR A e_ o.dst site (.sl e) (.own 0 (m.meet m')) (xs++ys) false).dec true=some (v,rt'):=hd;obtain⟨c1,g1,F1,ev1,cG⟩:=yC _ st hx (hρ x);obtain⟨c2,g2,F2,C9,HI⟩:=yC (S:=⟨S.sl,d5⟩) _ cG.st hy (cG.kp _ _ (hρ y));have nc:aq w.heap g2.Pr (.sl e) (.own s m) xs c1 F1:=aq.mono HI.pr (fun _ _=>rfl) _ cG.rep (Sub.refl _) (fun _ _=>rfl);obtain⟨n_,eW,cX,Fs1,rfl,nB,Dt,wX,UD,tT,wS⟩:=HF (by simp) (by simp) nc;obtain⟨Vz,VA,em'⟩:=aiS hmk;obtain⟨sL,kX,aT,pn,rfl,iw,JD,mW,vj,nJ,_⟩:=HF Vz VA HI.rep;rw[em']at vj;obtain⟨sZ,lZ⟩:=Mk.fm m m';obtain⟨I9,D1,p1,p2,p3,p4⟩:=UD.aQ sZ;obtain⟨I_,D2,q1,q2,q3,q4⟩:=vj.aQ lZ;have h12:cq F1 F2:=fun b bQ fK=>HI.dG b fK (.inr bQ);have hD:∀b,(D1 b\/D2 b)->Un (Un Nil F1) F2 b:=by
        rintro b (hb | hb)
        .obtain⟨i,hi⟩:=p2 b hb;exact .inl (.inr (tT i b hi))
        .obtain⟨i,hi⟩:=q2 b hb;exact .inr (nJ i b hi)
       have rC:=HI.st.cP (fun b=>D1 b\/D2 b) hD
       let g3:ay:={ g2 with Pr:=Un g2.Pr fun b=>D1 b\/D2 b }
       have ela:El w.heap g3.Pr e (m.meet m') xs cX I9:=p4.mono (fun b hb=>hb.imp id .inl) (fun _ _=>rfl) (fun _ _ _=>rfl);have elb:El w.heap g3.Pr e (m.meet m') ys aT I_:=q4.mono (fun b hb=>hb.imp id .inr) (fun _ _=>rfl) (fun _ _ _=>rfl);have UE:=El.append ela elb nB iw (fun i j b bQ fK=>h12 b (tT i b (p1 i b bQ)) (nJ j b (q1 j b fK)));generalize Jg:(fun i=>if i<xs.length then I9 i else I_ (i-xs.length))=FF at UE;have Db:∀i b,FF i b->Un (Un Nil F1) F2 b/\¬ (D1 b\/D2 b):=by
        intro i b hb;rw[<-Jg]at hb;split at hb
        .refine⟨.inl (.inr (tT i b (p1 i b hb))),?_⟩;rintro(h3 | h3)
         .exact p3 i b hb h3
         .obtain⟨j,hj⟩:=q2 b h3;exact h12 b (tT i b (p1 i b hb)) (nJ j b hj)
        .refine⟨.inr (nJ _ b (q1 _ b hb)),?_⟩;rintro(h3 | h3)
         .obtain⟨j,hj⟩:=p2 b h3;exact h12 b (tT j b hj) (nJ _ b (q1 _ b hb))
         .exact q3 _ b hb h3
       obtain⟨u,vv,Cr,J4⟩:=bn.desc hT;obtain⟨u',rW,_,_⟩:=bn.desc Cc;have ku:=bn u J4;obtain⟨i,i1,i2,i3,i4⟩:=ku.info;have hp:=ku.pos;rw[Cr]at i2 hp;have Sq:a.eval x=.slice n_ xs.length eW:=ev1;have Jd:a.eval y=.slice sL ys.length kX:=C9;have hsame:g3.cM g:=cG.same.trans (HI.same.trans ⟨rfl,rfl,rfl⟩);have hsrc:∀{ad:Option Addr}{n:Nat}{cells:List Value},((n=0/\cells=[])\/∃b o cs,ad=some ⟨b,o,none⟩/\sJ w.heap b cs/\o+n * e.width<=cs.size/\cells=sub cs o (n * e.width))->
         (n=0/\cells=[])\/∃b o,ad=some ⟨b,o,none⟩/\w.rangeAt b o cells:=by
        rintro ad n cells (h | ⟨b,o,cs,h1,h2,h3,h4⟩)
        .exact .inl h
        .exact .inr ⟨b,o,h1,h4 ▸ BD h2 h3⟩
       have hex:(execOp a.eval o).run P w=((Builtin.append_ c.argTypes o.type #[.slice n_ xs.length eW,.slice sL ys.length kX]).run P w).andThen fun a w'=>.ok (.value a) w':=by simp[execOp,ho,resolve,hc,invoke,builtin,hargs,Sq,Jd,Sem.run_bind]
       have wR:∀u∈aT,u.oneCell'=true:=by
        intro u hu;obtain⟨k,hk,rfl⟩:=EF hu;have hk2:k / e.width<ys.length:=by rw[iw]at hk;exact Nat.div_lt_of_lt_mul (by rw[qB];exact hk)
        have r:=vj.rep (k / e.width) hk2;refine aq.one _ r _ ?_;have h3:k / e.width * e.width+k % e.width=k:=by rw[qB];exact Bo k e.width
        have h4:k % e.width<e.width:=xX _ hp;rw[lE];refine⟨k % e.width,?_⟩;rw[fk,aj h4,f8,h3,fN hk]
       have hlen:(xs++ys).length=xs.length+ys.length:=cw;have ji:(cX++aT).length=(xs.length+ys.length) * e.width:=by rw[cw,nB,iw,iE]
       have hn2:=BL (P:=P) (w:=w) (size:=e.width) (n:=ys.length) (len:=ys.length) (cap:=kX) (ad:=sL) iw (hsrc mW);rw[<-i2]at hn2;by_cases hroom:xs.length+ys.length<=eW
       .rcases wS s m rfl with hc0 | ⟨b,cs,Df,oh,sS,jz,Dc,jq⟩
        .have hx0:xs=[]:=jU.1 (by omega);have hy0:ys=[]:=jU.1 (by omega);subst hx0;subst hy0;have gS:aT=[]:=jU.1 (by rw[iw];simp);subst gS;have hr:=Se (P:=P) w (ty:=o.type) h0 h1 vv rW i1 hn2 hroom (w':=w) (xa:=n_) (fun ad _=>by simp[storeCells]) (fun _=>rfl);have yE:aq w.heap g3.Pr (.sl e) (.own 0 (m.meet m')) ([]++[]) [.slice n_ (([]:List e.den).length+([]:List e.den).length) eW] Nil:=by simp only[aq];exact⟨n_,eW,rfl,by simp,.inl hc0⟩
         obtain⟨g4,s1,s2,s3⟩:=BO (S:=S) (g1:=g3) rC yE (aK.ak _ (by simp[Mk.ak,mX,nU])) (Sub.nil _) ok hd';exact e8.value (w':=w) (by rw[hex,hr];rfl) ⟨true,v,rt',hd,g4,s1,s2,hsame.trans s3,.refl _ _⟩
        .subst Df;have hfit:xs.length * e.width+aT.length<=cs.size:=by rw[iw,<-iE];exact mB (dz _ hroom) jz
         have rT:(storeCells (⟨b,xs.length * e.width,none⟩:Addr) aT).run P w=.ok () (w.setCells b (xs.length * e.width) aT):=by have th:=rY (w:=w) sS hfit;have:=run_storeCells_cells (P:=P) b (xs.length * e.width) aT 0 w (fun j hj=>by simpa using (th j hj).1) (fun j hj=>by simpa using (th j hj).2) wR;simpa using this
         have hr:=Se (P:=P) w (ty:=o.type) h0 h1 vv rW i1 hn2 hroom (w':=w.setCells b (xs.length * e.width) aT) (xa:=some ⟨b,0,none⟩)
          (fun ad e0=>by simp only[aI]at e0;subst e0;rw[Addr.add_mid,jx,i2];exact rT) (fun h=>by simp at h)
         have bT:∀b',b'≠b->(w.setCells b (xs.length * e.width) aT).heap[b']? = w.heap[b']?:=fun b' hb'=>zj aT _ w b' hb';have Sx:Un (Un Nil F1) F2 b:=.inl (.inr oh);have VB:¬ (D1 b\/D2 b):=by
          rintro(h3 | h3)
          .obtain⟨j,hj⟩:=p2 b h3;exact Dc j hj
          .obtain⟨j,hj⟩:=q2 b h3;exact h12 b oh (nJ j b hj)
         have wo:∀i,¬ FF i b:=by
          intro i hb;rw[<-Jg]at hb;split at hb
          .exact Dc i (p1 i b hb)
          .exact h12 b oh (nJ _ b (q1 _ b hb))
         have UR:¬ g3.Pr b:=fun h=>rC.bI b ⟨Sx,VB⟩ h;have st4:=rC.og (h2:=(w.setCells b (xs.length * e.width) aT).heap) (fun b' _ hb'=>bT b' (fun e0=>hb' (e0 ▸ ⟨Sx,VB⟩))) (by rw[qD];exact b7 _)
          (fun b=>Un (Un Nil F1) F2 b/\¬ (D1 b\/D2 b)) (fun b' hb'=>.inl hb')
         obtain⟨ty,lo,hi,he,hfz⟩:=sS;obtain⟨fH,wD,lK⟩:=Il aT (xs.length * e.width) w cs he hfit;have nL:fH.size=cs.size:=by rw[<-eS,lK,yj (by simpa using hfit),eS]
         have mS:iS (w.setCells b (xs.length * e.width) aT).heap b fH:=⟨ty,lo,hi,wD,fun i hi'=>hfz i (by omega)⟩
         have pO:fH.toList.take ((xs.length+ys.length) * e.width)=cX++aT:=by
          have hmin:min (xs.length * e.width) cs.toList.length=xs.length * e.width:=by have h7:cs.toList.length=cs.size:=eS;omega
          rw[lK,jq];simp only[bM,sub,iD];rw[nv (by
           rw[cw,cY,iw,hmin,iE];exact b7 _)]
          rw[jf (by
           rw[cw,cY,iw,hmin,iE];exact b7 _)]
         have UF:El (w.setCells b (xs.length * e.width) aT).heap g3.Pr e (m.meet m') (xs++ys) (cX++aT) FF:=
          UE.mono (Sub.refl _) (fun b' hb'=>bT b' (fun e0=>UR (e0 ▸ hb'))) (fun i b' hb'=>bT b' (fun e0=>wo i (e0 ▸ hb')))
         have qI:=UF.row mS (cap:=eW) (by rw[nL];exact jz) (by rw[hlen];exact hroom)
          (fun i hi'=>Ks pO (by
           rw[hlen]at hi';have:=dz e.width (show i+1<=xs.length+ys.length by exact hi');rw[jh]at this;exact this)) wo 0
         rw[hlen]at qI;obtain⟨g4,s1,s2,s3⟩:=BO (S:=S) (g1:=g3) st4 qI (aK.ak _ (by simp[Mk.ak,mX,nU]))
          (fun b' hb'=>by rcases hb' with rfl | ⟨i,hb'⟩;exact⟨Sx,VB⟩;exact Db i b' hb') ok hd'
         have eN:=CR (b:=b) aT (xs.length * e.width) w;have U1:g.L b:=by have:=HI.st.eY b Sx;rw[(cG.same.trans HI.same).2.1]at this;exact this
         exact e8.value (w':=w.setCells b (xs.length * e.width) aT) (by rw[hex,hr];rfl) ⟨true,v,rt',hd,g4,s1,s2,hsame.trans s3,
          ⟨eN.1,eN.2.1,eN.2.2,by rw[qD];exact b7 _,fun b' _ hb'=>bT b' (fun e0=>hb' (e0 ▸ U1))⟩⟩
       .have U2:xs.length+ys.length<=274877906944:=hbd;have wL:=BL (P:=P) (w:=w.drew) (size:=e.width) (n:=ys.length) (len:=ys.length) (cap:=kX) (ad:=sL) iw (by
         rcases hsrc mW with h | ⟨b,o',h3,h4⟩
         .exact .inl h
         .exact .inr ⟨b,o',h3,Sd h4⟩)
        have wK:=BL (P:=P) (w:=w.drew) (size:=e.width) (n:=xs.length) (len:=xs.length) (cap:=eW) (ad:=n_) nB (by
         rcases hsrc wX with h | ⟨b,o',h3,h4⟩
         .exact .inl h
         .exact .inr ⟨b,o',h3,Sd h4⟩)
        rw[<-i2]at wL wK;have hg:eW<xs.length+ys.length:=by omega
        have vt:=Room.nextslicecap_le' (need:=xs.length+ys.length) (old:=eW) hg;have hfit:Builtin.nextslicecap (xs.length+ys.length) eW * i.bytes<=281474976710656:=by have h5:Builtin.nextslicecap (xs.length+ys.length) eW * i.bytes<=549755813888 * 255:=Nat.mul_le_mul (by omega) i4;omega
        have hr:=NP (P:=P) w (ty:=o.type) h0 h1 vv rW i1 i3 wL wK hg (by omega) hfit;have hge:=grownCap_ge w (xs.length+ys.length) eW u;generalize grownCap w (xs.length+ys.length) eW u=cap' at hr hge;generalize lJ:(cX.toArray++aT.toArray++Builtin.zeroCells (cU (C.ty u) (zc (C.ty u))).cells (cap'-(xs.length+ys.length)))=cs at hr;have Dj:cs.toList.take ((xs.length+ys.length) * e.width)=cX++aT:=by rw[<-lJ];simp only[Array.toList_append,eu];rw[<-eu,nv (by rw[ji];exact b7 _),jf (by rw[ji];exact b7 _)]
        have Dk:cs.size=cap' * e.width:=by
         rw[<-lJ];have hz:(cU (C.ty u) (zc (C.ty u))).cells.size=e.width:=by rw[Gi bn st hρ,Cr];simp[BT]
         have h9:cX.length+aT.length=(xs.length+ys.length) * e.width:=by rw[<-cw];exact ji
         simp only[Array.size_append,List.size_toArray,size_zeroCells,hz,h9];rw[<-iE];congr 1;omega
        have st4:=rC.jj cs u;have Jh:∀i b,FF i b->b<w.heap.size:=fun i b hb=>rC.d_ b (Db i b hb);have UF:El (w.heap.push (.cells cs u)) g3.Pr e (m.meet m') (xs++ys) (cX++aT) FF:=
         UE.mono (Sub.refl _) (fun b hb=>zl b (rC.bP b hb)) (fun i b hb=>zl b (Jh i b hb))
        have qI:=UF.row (b:=w.heap.size) iS.new (cap:=cap') (by rw[Dk];exact b7 _) (by rw[hlen];exact hge)
          (fun i hi'=>Ks Dj (by
           rw[hlen]at hi';have:=dz e.width (show i+1<=xs.length+ys.length by exact hi');rw[jh]at this;exact this)) (fun i hb=>Gt _ (Jh i _ hb)) 0
        rw[hlen]at qI;obtain⟨g4,s1,s2,s3⟩:=BO (S:=S) (g1:=g3) st4 qI (aK.ak _ (by simp[Mk.ak,mX,nU]))
          (fun b' hb'=>by rcases hb' with rfl | ⟨i,hb'⟩;exact .inr rfl;exact .inl (Db i b' hb')) ok hd'
        refine e8.value (w':=w.drew.alloc (.cells cs u)) (by rw[hex,hr];rfl) ⟨true,v,rt',hd,g4,s1,s2,hsame.trans s3,?_⟩;exact⟨rfl,rfl,rfl,by show w.heap.size<=(w.heap.push _).size;simp,fun b hb _=>zl b hb⟩
      .have gi:decide (xs.length+ys.length<=fY)=false:=bJ hbd;rw[gi]at hd;simp[Tr.dec]at hd
     .rw[af mX]at ht;exact absurd ht bS.fail
  | _=>exact absurd ht bS.fail
end
theorem abO{h h2:Array Obj}{base:fy}{v:Value}{F:BS}(hq:yx h base [v] F)(hk:∀b o,base=some (b,o)->h2[b]? = h[b]?):yP h h2 base [v]:=by intro b' o e cs' pJ;obtain⟨wM,cs3,wP,pH,pN⟩:=hq b' o e;refine⟨cs',pJ.congr (hk b' o e),?_⟩;have:=pJ.uniq wP;subst this;have hr:=AI (c:=cs'.toList) (n:=o) (k:=1) (by rw[eS];exact pH);have vu:(cs'.toList.drop o).take 1=[v]:=pN;rw[vu]at hr;exact hr.symm
theorem EO:∀{m:Mk},m.still=true->m.whole=true
 | .no,_=>rfl
 | .gone,h=>by simp[Mk.still]at h
 | .own _ _,h=>by simp[Mk.still]at h
 | .pr a b,h=>by
  simp only[Mk.still,bC]at h;simp only[Mk.whole,bC];exact⟨EO h.1,EO h.2⟩
theorem Ef{h:Array Obj}{Pr:BS}{e:Ty}{l:List e.den}{cells:List Value}{b cap:Nat}{cs:Array Value}(hp:Pr b)(hb:sJ h b cs)(hfit:l.length * e.width<=cs.size)(hcap:l.length<=cap)
  (rU:∀i,i<l.length->sub cs (i * e.width) e.width=(cells.drop (i * e.width)).take e.width) (el:∀i,i<l.length->aq h Pr e .no (l.getD i e.zero) ((cells.drop (i * e.width)).take e.width) Nil) :
  aq h Pr (.sl e) .no l [.slice (some ⟨b,0,none⟩) l.length cap] Nil:=by
 simp only[aq];exact⟨_,cap,rfl,hcap,fun _=>⟨b,0,cs,rfl,hp,hb,by omega,fun i hi=>by rw[jx,rU i hi];exact el i hi⟩⟩
section
variable {P:Program} {C:Ctx} {D:Den C} {S:St} {g:ay} {w:World} {tmps:Array Value} {a:Act} {ρ:Operand->AV}
variable {A:bV} {site:Nat} {hint:Bool} (bn:hY P C) (st:az w.heap S g tmps Nil) (hρ:∀x,qe w.heap S g (ρ x) (a.eval x))
include bn st hρ
theorem ajE{o:Oper}{c:Call}{x y:Operand}{t t':TypeId}{e:Ty}(ho:o.op=.call c)(hc:c.callee=.builtin .append)(hargs:c.args = #[x,y])
  (h0:c.argTypes[0]? = some t) (h1:c.argTypes[1]? = some t') (hT:C.ty t=.sl e) (Cc:C.ty t'=.sl e)
  {r:Nat} {p:Path} {R:aB} {s:Nat} {m:Mk} {xs ys:List e.den} (DB:ρ x=.b5 r p s) (y_:ρ y=.val (.sl e) ys) (hR:S.root r=some R) (hf:focus R.ty R.ms R.x p=some ⟨.sl e,.own s m,xs⟩)
  (hm:m.still=true) {m':Mk} {x':R.ty.den} (hput:put R.ty R.ms R.x p (.sl e) .no xs=some (m',x')) (hbd:xs.length+ys.length<=fY) :
  ∃val w',(execOp a.eval o).run P w=.ok (.value val) w'/\Post S g w tmps (.val (.sl e) (xs++ys)) (S.aD r (some { R with ms:=m',x:=x' })).rt val w':=by
 have hx:=hρ x;have hy:=hρ y;rw[DB]at hx;rw[y_]at hy;simp only[qe]at hx hy;obtain⟨c2,HG,Jd⟩:=hy;obtain⟨hin,oa,eg⟩:=hx R hR e m xs hf;obtain⟨base,c0,F,q1,nc,q3,q4,q5,q6⟩:=st.mL hR hf hin;rw[eg]at q1;simp only[aI,a_]at q1;obtain⟨rfl,rfl⟩:=q1;have bH:(S.root r).isSome:=by rw[hR];rfl
 obtain⟨n_,eW,cX,Fs1,C7,nB,Dt,wX,UD,tT,wS⟩:=HF (by simp) (by simp) nc;simp only[eL,gM]at C7;rw[C7]at q4 q6 nc;obtain⟨sL,kX,aT,pn,rfl,iw,JD,mW,vj,nJ,_⟩:=HF (by simp) (by simp) HG;obtain⟨u,vv,Cr,J4⟩:=bn.desc hT;obtain⟨u',rW,_,_⟩:=bn.desc Cc;have ku:=bn u J4;obtain⟨i,i1,i2,i3,i4⟩:=ku.info;have hp:=ku.pos;rw[Cr]at i2 hp;have zE:a.eval y=.slice sL ys.length kX:=Jd;have DC:(Mk.own s m).whole=true:=by show m.whole=true;exact EO hm
 have hsrc:∀{ad:Option Addr}{n:Nat}{cells:List Value},((n=0/\cells=[])\/∃b o cs,ad=some ⟨b,o,none⟩/\sJ w.heap b cs/\o+n * e.width<=cs.size/\cells=sub cs o (n * e.width))->
   (n=0/\cells=[])\/∃b o,ad=some ⟨b,o,none⟩/\w.rangeAt b o cells:=by
  rintro ad n cells (h | ⟨b,o,cs,h1,h2,h3,h4⟩)
  .exact .inl h
  .exact .inr ⟨b,o,h1,h4 ▸ BD h2 h3⟩
 have hex:(execOp a.eval o).run P w=((Builtin.append_ c.argTypes o.type #[.slice n_ xs.length eW,.slice sL ys.length kX]).run P w).andThen fun a w'=>.ok (.value a) w':=by simp[execOp,ho,resolve,hc,invoke,builtin,hargs,C7,zE,Sem.run_bind]
 have wR:∀u∈aT,u.oneCell'=true:=by
  intro u hu;obtain⟨k,hk,rfl⟩:=EF hu;have hk2:k / e.width<ys.length:=by rw[iw]at hk;exact Nat.div_lt_of_lt_mul (by rw[qB];exact hk)
  have r:=vj.rep (k / e.width) hk2;refine aq.one _ r _ ?_;have h3:k / e.width * e.width+k % e.width=k:=by rw[qB];exact Bo k e.width
  have h4:k % e.width<e.width:=xX _ hp;rw[lE];refine⟨k % e.width,?_⟩;rw[fk,aj h4,f8,h3,fN hk]
 have hlen:(xs++ys).length=xs.length+ys.length:=cw;have ji:(cX++aT).length=(xs.length+ys.length) * e.width:=by rw[cw,nB,iw,iE]
 have hn2:=BL (P:=P) (w:=w) (size:=e.width) (n:=ys.length) (len:=ys.length) (cap:=kX) (ad:=sL) iw (hsrc mW);rw[<-i2]at hn2;have Sf:aq w.heap (Un g.Pr F) (.sl e) .no xs [.slice n_ xs.length eW] Nil:=aq.share _ DC nc
 -- zu elements,shared
 have elx:∀k,k<xs.length->aq w.heap g.Pr e .no (xs.getD k e.zero) ((cX.drop (k * e.width)).take e.width) Nil:=fun k hk=>aq.eH e hm (UD.rep k hk);have ely:∀k,k<ys.length->aq w.heap g.Pr e .no (ys.getD k e.zero) ((aT.drop (k * e.width)).take e.width) Nil:=fun k hk=>aq.eH e rfl (vj.rep k hk);have C8:∀k,k<(xs++ys).length->aq w.heap g.Pr e .no ((xs++ys).getD k e.zero) (((cX++aT).drop (k * e.width)).take e.width) Nil:=by have h:=El.append (h:=w.heap) (Pr:=g.Pr) (e:=e) (mi:=.no) (xs:=xs) (ys:=ys) (c1:=cX) (c2:=aT) (F1:=fun _=>Nil) (F2:=fun _=>Nil) ⟨elx,fun _ _ _=>cq.nil _⟩ ⟨ely,fun _ _ _=>cq.nil _⟩ nB iw (fun _ _=>cq.nil _);intro k hk;have:=h.rep k hk;exact aq.mono (Sub.refl _) (fun _ _=>rfl) _ this (by intro b hb;split at hb<;>exact hb) (fun _ _=>rfl)
 have pF:∀b,F b->g.G r b:=q3;have hPF:∀b,g.Pr b->¬ F b:=fun b hb hF=>st.dK r bH b (q3 b hF) hb
 -- zu state behind
 have fin:∀(h2:Array Obj)(Dd:BS),(∀b,b<w.heap.size->¬ F b->h2[b]? = w.heap[b]?)->w.heap.size<=h2.size->(∀b,F b->Dd b)->(∀b,Dd b->F b\/w.heap.size<=b)->(∀b,Dd b->b<h2.size)->
   aq h2 (Un g.Pr Dd) (.sl e) .no xs [.slice n_ xs.length eW] Nil->∀val,(∃c3,aq h2 (Un g.Pr Dd) (.sl e) .no (xs++ys) c3 Nil/\val=cU (.sl e) c3)->
   ∃g',az h2 (S.aD r (some { R with ms:=m',x:=x' })) g' tmps Nil/\qe h2 (S.aD r (some { R with ms:=m',x:=x' })) g' (.val (.sl e) (xs++ys)) val/\g'.cM g:=by
  intro h2 Dd k1 k2 k3 k4 k5 k6 val hval;obtain⟨g2,s1,s2,s3,s4,s5,s6,s7⟩:=q6 0 0 h2 .no xs [.slice n_ xs.length eW] Nil Dd m' x' (fun u=>Hr _) (fun b hb hF _=>k1 b hb hF) k2
   (abO q4 fun b o e0=>k1 b (st.b6 r b bH (q5 b o e0)) (q4 b o e0).1) k6 (fun b _ h=>h.elim) (fun b hb=>by
    rcases hb with hb | hb
    .exact hb.elim
    .rcases k4 b hb with h | h
     .exact .inl h
     .exact .inr (.inr h)) (fun b hb=>hb.elim (fun h=>h.elim) (k5 b)) hput trivial (by simp only[aK]) (fun _=>rfl)
   (by
    intro p' t1 n1 _ fX _;cases p' with
    | nil=>simp only[q8,aI,a_]at fX;obtain⟨rfl,rfl⟩:=fX;exact⟨trivial,fun bp cp ha=>⟨cp,by simp only[b8]at ha⊢;exact ha,fun _ _ _ _=>rfl⟩⟩
    | cons z p'=>cases z<;>simp[q8]at fX)
  obtain⟨c3,r3,ev3⟩:=hval;refine⟨g2,s1.bx (Sub.nil _),?_,s4⟩;simp only[qe];exact⟨c3,aq.mono (fun b hb=>hb.elim (s2 b) (s3 b)) (fun _ _=>rfl) _ r3 (Sub.refl _) (fun _ _=>rfl),ev3⟩
 by_cases hroom:xs.length+ys.length<=eW
 .rcases wS s m rfl with hc0 | ⟨b,cs,Df,oh,sS,jz,Dc,jq⟩
  .have hx0:xs.length=0:=by omega
   have hy0:ys.length=0:=by omega
   have gS:aT=[]:=jU.1 (by rw[iw,hy0];simp);have hr:=Se (P:=P) w (ty:=o.type) h0 h1 vv rW i1 hn2 hroom (w':=w) (xa:=n_) (fun ad _=>by rw[gS];simp[storeCells]) (fun _=>rfl);obtain⟨g',z1,z2,z3⟩:=fin w.heap F (fun _ _ _=>rfl) (b7 _) (fun _ h=>h) (fun _ h=>.inl h) (fun b h=>st.b6 r b bH (q3 b h)) Sf (.slice n_ (xs.length+ys.length) eW)
    ⟨[.slice n_ (xs++ys).length eW],by
     simp only[aq];exact⟨n_,eW,rfl,by rw[hlen];exact hroom,fun hne=>absurd (jU.1 (by rw[hlen];omega)) hne⟩,by rw[hlen];rfl⟩
   exact⟨_,_,by rw[hex,hr];rfl,g',z1,z2,z3,.refl _ _⟩
  .subst Df;have hfit:xs.length * e.width+aT.length<=cs.size:=by rw[iw,<-iE];exact mB (dz _ hroom) jz
   have rT:(storeCells (⟨b,xs.length * e.width,none⟩:Addr) aT).run P w=.ok () (w.setCells b (xs.length * e.width) aT):=by have th:=rY (w:=w) sS hfit;have:=run_storeCells_cells (P:=P) b (xs.length * e.width) aT 0 w (fun j hj=>by simpa using (th j hj).1) (fun j hj=>by simpa using (th j hj).2) wR;simpa using this
   have hr:=Se (P:=P) w (ty:=o.type) h0 h1 vv rW i1 hn2 hroom (w':=w.setCells b (xs.length * e.width) aT) (xa:=some ⟨b,0,none⟩)
    (fun ad e0=>by simp only[aI]at e0;subst e0;rw[Addr.add_mid,jx,i2];exact rT) (fun h=>by simp at h)
   have bT:∀b',b'≠b->(w.setCells b (xs.length * e.width) aT).heap[b']? = w.heap[b']?:=fun b' hb'=>zj aT _ w b' hb';have akp:=sS;obtain⟨ty,lo,hi,he,hfz⟩:=sS;obtain⟨fH,wD,lK⟩:=Il aT (xs.length * e.width) w cs he hfit;have nL:fH.size=cs.size:=by rw[<-eS,lK,yj (by simpa using hfit),eS]
   have Cd:sJ (w.setCells b (xs.length * e.width) aT).heap b fH:=⟨ty,(lo,hi),wD⟩
   have pO:fH.toList.take ((xs.length+ys.length) * e.width)=cX++aT:=by
    have hmin:min (xs.length * e.width) cs.toList.length=xs.length * e.width:=by have h7:cs.toList.length=cs.size:=eS;omega
    rw[lK,jq];simp only[bM,sub,iD];rw[nv (by
     rw[cw,cY,iw,hmin,iE];exact b7 _)]
    rw[jf (by
     rw[cw,cY,iw,hmin,iE];exact b7 _)]
   have hmono:∀{t:Ty}{z:t.den}{c:List Value},aq w.heap g.Pr t .no z c Nil->aq (w.setCells b (xs.length * e.width) aT).heap (Un g.Pr F) t .no z c Nil:=fun h=>
    aq.mono (fun b' hb'=>.inl hb') (fun b' hb'=>bT b' (fun e0=>hPF b' hb' (e0 ▸ oh))) _ h (Sub.refl _) (fun _ h=>h.elim)
   have Cq:∀k,k<xs.length+ys.length->sub fH (k * e.width) e.width=((cX++aT).drop (k * e.width)).take e.width:=fun k hk=>Ks pO (by
    have:=dz e.width (show k+1<=xs.length+ys.length by exact hk);rw[jh]at this;exact this)
   obtain⟨g',z1,z2,z3⟩:=fin (w.setCells b (xs.length * e.width) aT).heap F (fun b' _ hb'=>bT b' (fun e0=>hb' (e0 ▸ oh))) (by rw[qD];exact b7 _) (fun _ h=>h) (fun _ h=>.inl h)
    (fun b h=>by rw[qD];exact st.b6 r b bH (q3 b h))
    (Ef (cells:=cX++aT) (.inr oh) Cd (by rw[nL];exact mB (dz _ Dt) jz) Dt (fun k hk=>Cq k (by omega)) (fun k hk=>by
     have:=C8 k (by rw[hlen];omega);have e1:(xs++ys).getD k e.zero=xs.getD k e.zero:=by simp[List.getD,jd hk]
     rw[e1]at this;exact hmono this)) (.slice (some ⟨b,0,none⟩) (xs.length+ys.length) eW)
    ⟨[.slice (some ⟨b,0,none⟩) (xs++ys).length eW],Ef (cells:=cX++aT) (.inr oh) Cd (by rw[nL,hlen];exact mB (dz _ hroom) jz) (by rw[hlen];exact hroom) (fun k hk=>Cq k (by rw[hlen]at hk;exact hk)) (fun k hk=>hmono (C8 k hk)),by rw[hlen];rfl⟩
   have eN:=CR (b:=b) aT (xs.length * e.width) w;have U1:g.L b:=st.own r b bH (q3 b oh);exact⟨_,_,by rw[hex,hr];rfl,g',z1,z2,z3,⟨eN.1,eN.2.1,eN.2.2,by rw[qD];exact b7 _,fun b' _ hb'=>bT b' (fun e0=>hb' (e0 ▸ U1))⟩⟩
 .have U2:xs.length+ys.length<=274877906944:=hbd;have wL:=BL (P:=P) (w:=w.drew) (size:=e.width) (n:=ys.length) (len:=ys.length) (cap:=kX) (ad:=sL) iw (by
   rcases hsrc mW with h | ⟨b,o',h3,h4⟩
   .exact .inl h
   .exact .inr ⟨b,o',h3,Sd h4⟩)
  have wK:=BL (P:=P) (w:=w.drew) (size:=e.width) (n:=xs.length) (len:=xs.length) (cap:=eW) (ad:=n_) nB (by
   rcases hsrc wX with h | ⟨b,o',h3,h4⟩
   .exact .inl h
   .exact .inr ⟨b,o',h3,Sd h4⟩)
  rw[<-i2]at wL wK;have hg:eW<xs.length+ys.length:=by omega
  have vt:=Room.nextslicecap_le' (need:=xs.length+ys.length) (old:=eW) hg;have hfit:Builtin.nextslicecap (xs.length+ys.length) eW * i.bytes<=281474976710656:=by have h5:Builtin.nextslicecap (xs.length+ys.length) eW * i.bytes<=549755813888 * 255:=Nat.mul_le_mul (by omega) i4;omega
  have hr:=NP (P:=P) w (ty:=o.type) h0 h1 vv rW i1 i3 wL wK hg (by omega) hfit;have hge:=grownCap_ge w (xs.length+ys.length) eW u;generalize grownCap w (xs.length+ys.length) eW u=cap' at hr hge;generalize lJ:(cX.toArray++aT.toArray++Builtin.zeroCells (cU (C.ty u) (zc (C.ty u))).cells (cap'-(xs.length+ys.length)))=cs at hr;have Dj:cs.toList.take ((xs.length+ys.length) * e.width)=cX++aT:=by rw[<-lJ];simp only[Array.toList_append,eu];rw[<-eu,nv (by rw[ji];exact b7 _),jf (by rw[ji];exact b7 _)]
  have Dk:(xs.length+ys.length) * e.width<=cs.size:=by
   rw[<-lJ];have h9:cX.length+aT.length=(xs.length+ys.length) * e.width:=by rw[<-cw];exact ji
   simp only[Array.size_append,List.size_toArray,h9];omega
  have hold:∀b,b<w.heap.size->(w.heap.push (.cells cs u))[b]? = w.heap[b]?:=fun b hb=>zl b hb;have rN:sJ (w.heap.push (.cells cs u)) w.heap.size cs:=(iS.new (h:=w.heap) (cs:=cs) (e:=u)).zA;have hmono:∀{t:Ty}{z:t.den}{c:List Value},aq w.heap g.Pr t .no z c Nil->aq (w.heap.push (.cells cs u)) (Un g.Pr fun b=>F b\/b=w.heap.size) t .no z c Nil:=fun h=>
   aq.mono (fun b' hb'=>.inl hb') (fun b' hb'=>hold b' (st.bP b' hb')) _ h (Sub.refl _) (fun _ h=>h.elim)
  obtain⟨g',z1,z2,z3⟩:=fin (w.heap.push (.cells cs u)) (fun b=>F b\/b=w.heap.size) (fun b hb _=>hold b hb) (by simp) (fun _ h=>.inl h) (fun b h=>h.imp id (fun h=>by omega))
   (fun b h=>by
    rw[Array.size_push];rcases h with h | h
    .have:=st.b6 r b bH (q3 b h);omega
    .omega)
   (aq.mono (fun b hb=>hb.imp id .inl) (fun b hb=>hold b (hb.elim (st.bP b) fun h=>st.b6 r b bH (q3 b h))) _ Sf (Sub.refl _) (fun _ h=>h.elim)) (.slice (some ⟨w.heap.size,0,none⟩) (xs.length+ys.length) cap')
   ⟨[.slice (some ⟨w.heap.size,0,none⟩) (xs++ys).length cap'],Ef (cells:=cX++aT) (.inr (.inr rfl)) rN (by rw[hlen];exact Dk) (by rw[hlen];exact hge) (fun k hk=>Ks Dj (by
    rw[hlen]at hk;have:=dz e.width (show k+1<=xs.length+ys.length by exact hk);rw[jh]at this;exact this)) (fun k hk=>hmono (C8 k hk)),by rw[hlen];rfl⟩
  refine⟨_,w.drew.alloc (.cells cs u),by rw[hex,hr];rfl,g',z1,z2,z3,?_⟩;exact⟨rfl,rfl,rfl,by show w.heap.size<=(w.heap.push _).size;simp,fun b hb _=>zl b hb⟩
theorem abB{o:Oper}{c:Call}{x y:Operand}{t t':TypeId}{e:Ty}(ho:o.op=.call c)(hc:c.callee=.builtin .append)(hargs:c.args = #[x,y])
  (h0:c.argTypes[0]? = some t) (h1:c.argTypes[1]? = some t') (hT:C.ty t=.sl e) (Cc:C.ty t'=.sl e)
  (ht:bS (qA S.rt e (ρ x) (ρ y))):e8 P S g w tmps (qA S.rt e (ρ x) (ρ y)) ((execOp a.eval o).run P w):=by
 cases DB:ρ x with
 | b5 r p s=>
  cases y_:ρ y with
  | val ty ys=>
   cases ty with
   | sl t2=>
    rw[DB,y_]at ht;unfold qA at ht⊢;simp only at ht⊢;cases hR:S.rt.root r with
    | none=>rw[hR]at ht;exact absurd ht bS.fail
    | some R=>
     rw[hR]at ht;simp only at ht⊢;cases hf:focus R.ty R.ms R.x p with
     | none=>rw[hf]at ht;exact absurd ht bS.fail
     | some d=>
      obtain⟨dt,dm,dx⟩:=d;cases dt with
      | sl e'=>
       cases dm with
       | own s' m=>
        rw[hf]at ht;simp only at ht⊢;by_cases hs:s=s'/\e'=e/\t2=e/\m.still=true
        .simp only[aj hs]at ht⊢;obtain⟨rfl,rfl,rfl,hm⟩:=hs;rw[R7,R7]at ht⊢;cases hput:put R.ty R.ms R.x p (.sl t2) .no dx with
         | none=>rw[hput]at ht;exact absurd ht bS.fail
         | some r'=>
          rw[hput]at ht;simp only at ht⊢;obtain⟨⟨v,rt'⟩,hd⟩:=ht true;simp only[Tr.dec]at hd;by_cases hbd:(dx:List t2.den).length+(ys:List t2.den).length<=fY
          .obtain⟨val,w',hrun,hpost⟩:=ajE (m':=r'.1) (x':=r'.2) bn st hρ ho hc hargs h0 h1 hT Cc DB y_ hR hf hm hput hbd;exact e8.value hrun ⟨true,_,_,by simp only[Tr.dec,cT hbd];rfl,hpost⟩
          .rw[bJ hbd]at hd;simp at hd
        .rw[af hs]at ht;exact absurd ht bS.fail
       | _=>rw[hf]at ht;exact absurd ht bS.fail
      | _=>rw[hf]at ht;exact absurd ht bS.fail
   | _=>rw[DB,y_]at ht;exact absurd ht bS.fail
  | _=>rw[DB,y_]at ht;exact absurd ht bS.fail
 | _=>rw[DB]at ht;exact absurd ht bS.fail
end
end Go.V
namespace Go.V
noncomputable section
open Go
theorem OE{t:Ty}{xs ys:List t.den}:(vQ t xs ys).length=xs.length:=by simp only[vQ,cw,cY,mz];omega
theorem OD{t:Ty}{xs ys:List t.den}(i:Nat)(hi:i<xs.length):(vQ t xs ys).getD i t.zero=if i<min ys.length xs.length then ys.getD i t.zero else xs.getD i t.zero:=by
 unfold vQ;simp only[List.getD];by_cases h:i<ys.length
 .rw[aj (by omega),jd (by rw[cY];omega),fk,aj hi]
 .rw[af (by omega),jT (by rw[cY];omega),f8,cY];congr 2;omega
theorem abL{w k:Nat}{cs fH:Array Value}{news:List Value}(hl:news.length=k * w)(hfit:k * w<=cs.size)(e:fH.toList=bM cs.toList 0 news)(i:Nat) :
  sub fH (i * w) w=if i<k then (news.drop (i * w)).take w else sub cs (i * w) w:=by
 have hf:0+news.length<=cs.toList.length:=by rw[hl,eS];omega
 unfold sub;apply o4;intro j;rw[fk,f8,e,Mp hf,hl];by_cases hj:j<w
 .rw[aj hj,af (by omega)];by_cases h1:i<k
  .have a2:=dz w (show i+1<=k by omega);rw[jh]at a2;rw[aj h1,aj (by omega),fk,aj hj,f8];congr 1
  .have:=dz w (show k<=i by omega);rw[af h1,af (by omega),fk,aj hj,f8]
 .rw[af hj];split
  .rw[fk,af hj]
  .rw[fk,af hj]
theorem aiQ{w:World}{S:St}{g:ay}{tmps:Array Value}(st:az w.heap S g tmps Nil){r:Nat}{p:Path}{R:aB}{t:Ty}{s:Nat}{xs ys:List t.den}{oa:fy}{ad:Option Addr}{n cap:Nat}
  (hR:S.root r=some R) (hf:focus R.ty R.ms R.x p=some ⟨.sl t,.own s .no,xs⟩) (hin:bq R.ty R.x p) (eg:b8 w.heap R.ty (g.C r) (g.base r) p=some (oa,[.slice ad n cap])) (hs:s<1048576)
  {k:Nat} (hk:k=min ys.length xs.length) (h1:0<k) {news:List Value} (HV:news.length=k * t.width)
  (hy:∀i,i<k->aq w.heap g.Pr t .no (ys.getD i t.zero) ((news.drop (i * t.width)).take t.width) Nil)
  {m':Mk} {x':R.ty.den} (hput:put R.ty R.ms R.x p (.sl t) (.own s .no) (vQ t xs ys)=some (m',x')) :
  n=xs.length/\∃b,ad=some ⟨b,0,none⟩/\g.L b/\w.there b 0 (k * t.width)/\∃g',az (w.setCells b 0 news).heap (S.aD r (some { R with ms:=m',x:=x' })) g' tmps Nil/\g'.cM g:=by
 have hm:Mk.still .no=true:=rfl;obtain⟨base,c,F,q1,q2,q3,q4,q5,q6⟩:=st.update hR hf hin;rw[eg]at q1;simp only[aI,a_]at q1;obtain⟨rfl,rfl⟩:=q1;have q2':=q2;simp only[aq]at q2;obtain⟨ad',cap',e0,hl,hr⟩:=q2;simp only[eL,Value.slice.injEq,gM]at e0;obtain⟨rfl,rfl,rfl⟩:=e0;refine⟨rfl,?_⟩;rcases hr with hr | ⟨b,cs,rfl,fb,hb,hsz,Fs,oe,hd,re⟩
 .omega
 have bH:(S.root r).isSome:=by rw[hR];rfl
 have zK:=q3 b fb;have sV:k * t.width<=cs.size:=mB (dz _ (by omega)) hsz;have hfit:0+news.length<=cs.size:=by omega
 have bT:∀b',b'≠b->(w.setCells b 0 news).heap[b']? = w.heap[b']?:=fun b' hb'=>zj _ _ w b' hb';obtain⟨fH,mS,wj⟩:=FO (w:=w) (base:=some (b,0)) (c2:=news) rfl hb hfit b 0 rfl cs hb;have nL:fH.size=cs.size:=by rw[<-eS,wj,yj (by rw[eS];exact hfit),eS]
 have hsub:=abL (w:=t.width) HV sV wj;have HS:¬ g.Pr b:=fun hb'=>st.dK r bH b zK hb';have mX:(Mk.own s .no).ak=true:=by simp only[Mk.ak,bC];exact⟨oY hs,trivial⟩
 have hlen:(vQ t xs ys).length=xs.length:=OE;have h_:aq (w.setCells b 0 news).heap g.Pr (.sl t) (.own s .no) (vQ t xs ys) [.slice (some ⟨b,0,none⟩) xs.length cap] F:=by
  simp only[aq];refine⟨_,cap,by rw[hlen],by rw[hlen];exact hl,.inr ⟨b,fH,rfl,fb,mS,by rw[nL];exact hsz,Fs,oe,hd,fun i hi'=>?_⟩⟩;rw[hlen]at hi';rw[OD i hi',hsub,<-hk];by_cases hz:i<k
  .rw[aj hz,aj hz];exact aq.mono (Sub.refl _) (fun b' hb'=>bT b' (fun e=>HS (e ▸ hb'))) _ (hy i hz) (Sub.nil _) (fun b' hb'=>hb'.elim)
  .rw[af hz,af hz];exact aq.mono (Sub.refl _) (fun b' hb'=>bT b' (fun e=>HS (e ▸ hb'))) _ (re i hi') (Sub.refl _) (fun b' hb'=>bT b' (fun e=>(oe i).2 (e ▸ hb')))
 obtain⟨g2,s1,s2,s3,s4,s5,s6⟩:=q6 0 0 (w.setCells b 0 news).heap (.own s .no) (vQ t xs ys) [.slice (some ⟨b,0,none⟩) xs.length cap] F m' x'
  (fun u=>Hr _) (fun b' _ hb' _=>bT b' (fun e=>hb' (e ▸ fb))) (by rw[qD];exact b7 _)
  (by
   intro b' o e cs' pJ;obtain⟨wM,cs3,wP,pH,pN⟩:=q4 b' o e;have hne:b'≠b:=fun e=>wM (e ▸ fb);refine⟨cs',pJ.congr (bT b' hne),?_⟩;have:=pJ.uniq wP;subst this;have hr:=AI (c:=cs'.toList) (n:=o) (k:=1) (by rw[eS];exact pH);have vu:(cs'.toList.drop o).take 1=[Value.slice (some ⟨b,0,none⟩) xs.length cap]:=pN;rw[vu]at hr;exact hr.symm)
  h_ (fun b' hb'=>.inl hb') (fun b' hb'=>by rw[qD];exact st.b6 r b' bH (q3 b' hb')) hput (Mk.eZ 0 0 _)
  (aK.ak _ mX) (fun _=>mX)
  (by
   intro p' t1 n1 _ fX hi';cases p' with
   | nil=>refine⟨trivial,fun bp cp ha=>⟨cp,?_,fun _ _ _ _=>rfl⟩⟩;simp only[b8]at ha⊢;exact ha
   | cons x p'=>
    cases x with
    | fst=>simp[q8]at fX
    | snd=>simp[q8]at fX
    | idx i s'=>
     simp only[q8]at fX;split at fX
     .obtain⟨Dv,t_⟩:=Aw p' hm fX;simp only[bq]at hi';refine⟨?_,fun bp cp ha=>?_⟩
      .simp only[bq];exact⟨by rw[hlen];exact hi'.1,yh p' _ Dv fX⟩
      .obtain⟨e1,l1,u1,Vb,_⟩:=hb;obtain⟨e2,l2,u2,HT,_⟩:=mS;simp only[b8,Vb]at ha;obtain⟨ig,h3⟩:=CS (h':=(w.setCells b 0 news).heap) p' _ (sub fH (i * t.width) t.width) _ Dv ha;refine⟨ig,by simp only[b8,HT];exact h3,fun s4 a4 e4 _=>?_⟩;rw[e4]at t_;simp[Mk.still]at t_
     .simp at fX)
 exact⟨b,rfl,st.own r b bH zK,rY hb (by omega),g2,s1.bx (Sub.nil _),s3⟩
section
variable {P:Program} {C:Ctx} {D:Den C} {S:St} {g:ay} {w:World} {tmps:Array Value} {a:Act} {ρ:Operand->AV}
variable {A:bV} {site:Nat} {hint:Bool} (bn:hY P C) (st:az w.heap S g tmps Nil) (hρ:∀x,qe w.heap S g (ρ x) (a.eval x))
include bn st hρ
theorem abk{o:Oper}{c:Call}{x y:Operand}{t:TypeId}{e:Ty}(ho:o.op=.call c)(hc:c.callee=.builtin .copy)(hargs:c.args = #[x,y])
  (h0:c.argTypes[0]? = some t) (hT:C.ty t=.sl e) (ht:bS (xT S.rt e (ρ x) (ρ y))):e8 P S g w tmps (xT S.rt e (ρ x) (ρ y)) ((execOp a.eval o).run P w):=by
 have hx:=hρ x;have V7:=hρ y;unfold xT at ht⊢;cases hv:ρ x with
 | b5 r p s=>
  cases y_:ρ y with
  | val ty nu=>
   rw[hv,y_]at ht;rw[hv]at hx;rw[y_]at V7;cases ty with
   | sl t2=>
    simp only at ht⊢;cases hR:S.rt.root r with
    | none=>rw[hR]at ht;exact absurd ht bS.fail
    | some R=>
     rw[hR]at ht;simp only at ht⊢;cases hf:focus R.ty R.ms R.x p with
     | none=>rw[hf]at ht;exact absurd ht bS.fail
     | some d=>
      obtain⟨dt,dm,dx⟩:=d;cases dt with
      | sl e'=>
       cases dm with
       | own s' m=>
        cases m with
        | no=>
         rw[hf]at ht;simp only at ht⊢;by_cases hs:s=s'/\e'=e/\t2=e/\s'<1048576
         .simp only[aj hs]at ht⊢;obtain⟨rfl,rfl,rfl,VR⟩:=hs;cases Dl:qbv (.sl t2) (.sl t2) nu with
          | none=>rw[Dl]at ht;exact absurd ht bS.fail
          | some ys=>
           rw[Dl]at ht;simp only at ht⊢;obtain⟨ee,hys⟩:=CN Dl;simp only at hys;subst hys;cases hput:put R.ty R.ms R.x p (.sl t2) (.own s .no) (vQ t2 dx nu) with
           | none=>rw[hput]at ht;exact absurd ht bS.fail
           | some r'=>
            simp only;obtain⟨u,vv,Cr,J4⟩:=bn.desc hT;have ku:=bn u J4;obtain⟨i,i1,i2,i3,i4⟩:=ku.info;rw[Cr]at i2;simp only[qe]at hx V7;obtain⟨hin,oa,eg⟩:=hx R hR t2 .no dx hf;obtain⟨c2,HG,Jd⟩:=V7;obtain⟨sL,kX,aT,pn,rfl,iw,JD,mW,vj,nJ,_⟩:=HF (by simp) (by simp) HG;have zE:a.eval y=.slice sL (List.length nu) kX:=Jd;obtain⟨base,c0,F,q1,nc,_⟩:=st.update hR hf hin;rw[eg]at q1;simp only[aI,a_]at q1;obtain⟨rfl,rfl⟩:=q1;obtain⟨n_,eW,cX,Fs1,C7,_⟩:=HF (by simp) (by simp) nc;simp only[eL,gM]at C7;have Sq:=C7;rw[C7]at eg;have hex:∀k news w',k=min (List.length nu) (List.length dx)->(Builtin.firstCells i.size k (.slice sL (List.length nu) kX)).run P w=.ok (List.toArray news) w->
              (∀ad,n_=some ad->(storeCells ad news).run P w=.ok () w')->(n_=none->w'=w)->
              (execOp a.eval o).run P w=.ok (.value (goInt k)) w':=by
             intro k news w' hk hn hst hno;have hk':Nat.min (List.length nu) (List.length dx)=k:=hk.symm;cases n_ with
             | none=>obtain rfl:=hno rfl;simp[execOp,ho,resolve,hc,invoke,builtin,hargs,Sq,zE,Sem.run_bind,Builtin.copy_,h0,run_underlying vv,Builtin.lenOf,sizeOf,typeInfo,i1,hk',hn]
             | some ad=>have:=hst ad rfl;simp[execOp,ho,resolve,hc,invoke,builtin,hargs,Sq,zE,Sem.run_bind,Builtin.copy_,h0,run_underlying vv,Builtin.lenOf,sizeOf,typeInfo,i1,hk',hn,this]
            by_cases hpos:0<List.length nu/\0<List.length dx
            .have s_:∃b o,sL=some ⟨b,o,none⟩/\w.rangeAt b o (aT.take (min (List.length nu) (List.length dx) * t2.width)):=by
              rcases mW with⟨h0,_⟩ | ⟨b,o,cs,h1,h2,h3,h4⟩
              .omega
              .refine⟨b,o,h1,?_⟩;have mD:min (List.length nu) (List.length dx) * t2.width<=List.length nu * t2.width:=dz _ (by omega);have:=BD (n:=min (List.length nu) (List.length dx) * t2.width) (o:=o) h2 (by omega);have e3:aT.take (min (List.length nu) (List.length dx) * t2.width)=sub cs o (min (List.length nu) (List.length dx) * t2.width):=by rw[h4];simp only[sub,oQ];congr 1;omega
               rw[e3];exact this
             have HV:(aT.take (min (List.length nu) (List.length dx) * t2.width)).length=min (List.length nu) (List.length dx) * t2.width:=by rw[cY,iw];have mD:min (List.length nu) (List.length dx) * t2.width<=List.length nu * t2.width:=dz _ (by omega);omega
             generalize hk:min (List.length nu) (List.length dx)=k at s_ HV;generalize hnews:aT.take (k * t2.width)=news at s_ HV;have uc:∀j,j<k->aq w.heap g.Pr t2 .no (List.getD nu j t2.zero) ((news.drop (j * t2.width)).take t2.width) Nil:=by
              intro j hj;have:=vj.rep j (by omega);have e4:(news.drop (j * t2.width)).take t2.width=(aT.drop (j * t2.width)).take t2.width:=by rw[<-hnews,si,oQ];congr 1;have:=dz t2.width (show j+1<=k by omega);rw[jh]at this;omega
              rw[e4];exact aq.room _ this (fun b hb=>(nJ j b hb).elim)
             obtain⟨_,b,hb,Vh,ue,g',st',hsame⟩:=aiQ (m':=r'.1) (x':=r'.2) (ys:=nu) st hR hf hin eg VR hk.symm (by omega) HV uc hput;have h1c:∀v∈news,v.oneCell'=true:=by
              obtain⟨b2,o2,_,yY⟩:=s_;intro v hv;obtain⟨j,hj,rfl⟩:=kR.1 hv;have hj2:j<k * t2.width:=by omega
              have hw:0<t2.width:=by
               rcases Nat.eq_zero_or_pos t2.width with h | h
               .rw[h]at hj2;omega
               .exact h
              have Va:=Bo j t2.width;have ot:j / t2.width<k:=(QW hw).2 hj2;have hmod:=xX j hw;refine aq.one _ (uc (j / t2.width) ot) _ ?_;apply lE.2;refine⟨j % t2.width,?_⟩;rw[fk,aj hmod,f8,show j / t2.width * t2.width+j % t2.width=j by rw[qB];exact Va,fN hj]
             have J3:=run_storeCells_cells (P:=P) b 0 news 0 w (fun j hj=>by have:=(ue j (by omega)).1;simpa using this) (fun j hj=>by have:=(ue j (by omega)).2;simpa using this) h1c;simp only[nS]at J3;have Dp:(Builtin.firstCells i.size k (.slice sL (List.length nu) kX)).run P w=.ok (List.toArray news) w:=
              BL (by rw[i2];exact HV) (.inr (by obtain⟨b2,o2,e2,yY⟩:=s_;exact⟨b2,o2,e2,yY⟩))
             have hrun:=hex k news (w.setCells b 0 news) hk.symm Dp (fun ad ha=>by rw[hb]at ha;injection ha with ha;rw[<-ha];exact J3) (fun ha=>by rw[hb]at ha;exact absurd ha (by simp));have eN:=CR (b:=b) news 0 w;refine e8.value (val:=goInt k) (w':=w.setCells b 0 news) hrun ⟨true,.val (.int .i64) ((k:Nat):Int),_,by simp only[Tr.dec,cT hpos.1,cT hpos.2,Gu],g',st',uV _ _,hsame,⟨eN.1,eN.2.1,eN.2.2,by rw[qD];exact b7 _,fun b' _ hb'=>zj _ _ w b' (fun e=>hb' (e ▸ Vh))⟩⟩
            .have hk0:0=min (List.length nu) (List.length dx):=by omega
             have hrun:=hex 0 [] w hk0 (BL (by simp) (.inl ⟨rfl,rfl⟩)) (fun ad _=>rfl) (fun _=>rfl);refine e8.value (val:=goInt 0) (w':=w) hrun ⟨true,.val (.int .i64) ((0:Nat):Int),_,?_,Post.same st (uV _ _)⟩;have:(decide (0<List.length nu)&&decide (0<List.length dx))=false:=by rw[<-Bool.not_eq_true,bC,decide_eq_true_iff,decide_eq_true_iff];exact hpos
             simp only[Tr.dec,this]
         .rw[af hs]at ht;exact absurd ht bS.fail
        | _=>rw[hf]at ht;exact absurd ht bS.fail
       | _=>rw[hf]at ht;exact absurd ht bS.fail
      | _=>rw[hf]at ht;exact absurd ht bS.fail
   | _=>exact absurd ht bS.fail
  | _=>rw[hv,y_]at ht;exact absurd ht bS.fail
 | _=>rw[hv]at ht;exact absurd ht bS.fail
end
end
section
variable {P:Program} {C:Ctx} {D:Den C} {S:St} {g:ay} {w:World} {tmps:Array Value} {a:Act} {ρ:Operand->AV}
variable {A:bV} {site:Nat} {hint:Bool} (bn:hY P C) (st:az w.heap S g tmps Nil) (hρ:∀x,qe w.heap S g (ρ x) (a.eval x))
theorem AW{α β:Type}{f:α->β}{l:List α}{x y:β}(h:l.map f=[x,y]):∃u v,l=[u,v]/\f u=x/\f v=y:=by
 match l,h with
 | [u,v],h=>simp only[cm,fO,eL,gM]at h;exact⟨u,v,rfl,h.1,h.2⟩
theorem aiO{α β:Type}{f:α->β}{l:List α}{x y:β}{r:List β}(h:l.map f=x::y::r):l[0]?.map f=some x/\l[1]?.map f=some y:=by
 match l,h with
 | u::v::l,h=>simp only[cm,eL]at h;simp[h.1,h.2.1]
include bn st hρ
theorem Pz{o:Oper}{c:Call}{b:Builtin}(ho:o.op=.call c)(hc:c.callee=.builtin b)(hb:b=.min\/b=.max):Goal P C D S g w tmps a ρ A site hint o:=by
 intro ht;rcases hb with rfl | rfl
 .simp only[aY,ho,hc]at ht⊢;split at ht<;>try (first | contradiction | exact absurd ht bS.fail)
  rename_i hargs;obtain⟨u,v,hl,hu,hv⟩:=AW hargs;have e1:c.args = #[u,v]:=by rw[<-n6 (xs:=c.args),hl]
  split at ht
  .rename_i ka x kb y;by_cases hk:ka=kb
   .subst hk;simp only[aX]at ht⊢;have hx:=hρ u;have hy:=hρ v;rw[hu]at hx;rw[hv]at hy;refine e8.ret (val:=.int ka (if y<x then y else x)) ?_ st (uV _ _);simp[execOp,ho,resolve,hc,invoke,builtin,Builtin.min_,Builtin.min2,e1,BQ hx,BQ hy,Sem.run_bind]
   .rw[af hk]at ht;exact absurd ht bS.fail
  .exact absurd ht bS.fail
 .simp only[aY,ho,hc]at ht⊢;split at ht<;>try (first | contradiction | exact absurd ht bS.fail)
  rename_i hargs;obtain⟨u,v,hl,hu,hv⟩:=AW hargs;have e1:c.args = #[u,v]:=by rw[<-n6 (xs:=c.args),hl]
  split at ht
  .rename_i ka x kb y;by_cases hk:ka=kb
   .subst hk;simp only[aX]at ht⊢;have hx:=hρ u;have hy:=hρ v;rw[hu]at hx;rw[hv]at hy;refine e8.ret (val:=.int ka (if y>x then y else x)) ?_ st (uV _ _);simp[execOp,ho,resolve,hc,invoke,builtin,Builtin.max_,Builtin.max2,e1,BQ hx,BQ hy,Sem.run_bind]
   .rw[af hk]at ht;exact absurd ht bS.fail
  .exact absurd ht bS.fail
theorem Z6{o:Oper}{c:Call}{b:Builtin}(ho:o.op=.call c)(hc:c.callee=.builtin b)(ok:ny A S o.dst site):Goal P C D S g w tmps a ρ A site hint o:=by
 cases b with
 | len=>exact aj2 bn st hρ ho hc
 | min=>exact Pz bn st hρ ho hc (.inl rfl)
 | max=>exact Pz bn st hρ ho hc (.inr rfl)
 | append=>
  intro ht;simp only[aY,ho,hc]at ht⊢;split at ht<;>try (first | contradiction | exact absurd ht bS.fail)
  rename_i x0 y0 e e' _ _ hargs i7;obtain⟨u,v,hl,hu,hv⟩:=AW hargs;obtain⟨q1,q2⟩:=aiO i7;simp only[fj,qR]at q1 q2;obtain⟨t,yZ,hT⟩:=q1;obtain⟨t',HX,Cc⟩:=q2;have e1:c.args = #[u,v]:=by rw[<-n6 (xs:=c.args),hl]
  by_cases hee:e=e'
  .subst hee;simp only[aX]at ht⊢;subst hu;subst hv;cases hint with
   | false=>simp only[e7,dX]at ht⊢;exact aap bn st hρ ho hc e1 yZ HX hT Cc ok ht
   | true=>simp only[aX]at ht⊢;exact abB bn st hρ ho hc e1 yZ HX hT Cc ht
  .rw[af hee]at ht;exact absurd ht bS.fail
 | clear=>
  intro ht;simp only[aY,ho,hc]at ht⊢;split at ht<;>try (first | contradiction | exact absurd ht bS.fail)
  rename_i x0 e _ _ hargs i7;obtain⟨u,hl,hu⟩:∃u,c.args.toList=[u]/\ρ u=x0:=by
   match hq:c.args.toList,hargs with
   | [u],h=>simp only[hq,cm,fO,eL,gM]at h;exact⟨u,rfl,h⟩
  obtain⟨t,yZ,hT⟩:∃t,c.argTypes[0]? = some t/\C.ty t=.sl e:=by
   match hq:c.argTypes.toList,i7 with
   | t::l,h=>simp only[hq,cm,eL]at h;exact⟨t,by rw[<-qR,hq];rfl,h.1⟩
  have e1:c.args = #[u]:=by rw[<-n6 (xs:=c.args),hl]
  subst hu;exact agm bn st hρ ho hc e1 yZ hT ht
 | copy=>
  intro ht;simp only[aY,ho,hc]at ht⊢;split at ht<;>try (first | contradiction | exact absurd ht bS.fail)
  rename_i x0 y0 e _ _ hargs i7;obtain⟨u,v,hl,hu,hv⟩:=AW hargs;obtain⟨t,yZ,hT⟩:∃t,c.argTypes[0]? = some t/\C.ty t=.sl e:=by
   match hq:c.argTypes.toList,i7 with
   | t::l,h=>simp only[hq,cm,eL]at h;exact⟨t,by rw[<-qR,hq];rfl,h.1⟩
  have e1:c.args = #[u,v]:=by rw[<-n6 (xs:=c.args),hl]
  subst hu;subst hv;exact abk bn st hρ ho hc e1 yZ hT ht
 | _=>intro ht;simp only[aY,ho,hc]at ht⊢;exact absurd ht bS.fail
theorem akc{o:Oper}(ok:ny A S o.dst site)(sU:∀c f,o.op=.call c->c.callee=.value f->Goal P C D S g w tmps a ρ A site hint o):Goal P C D S g w tmps a ρ A site hint o:=by
 cases ho:o.op with
 | move x=>exact ajB st hρ ho
 | assign x=>exact aar bn st hρ ho ok
 | pick c x y=>exact ajI st hρ ho
 | alloc t=>exact aa7 bn st hρ ho ok
 | box t x=>exact ajT bn st hρ ho ok
 | build t ps=>exact aaT bn st hρ ho ok
 | buildSlice t n ps=>exact ahk bn st hρ ho ok
 | load t x=>exact ajy bn st hρ ho
 | store t x y=>exact abK bn st hρ ho ok
 | nilCheck x=>exact aj4 st hρ ho
 | binOp op t x y t2=>exact aaS bn st hρ ho
 | unOp op t x=>exact aji st hρ ho
 | convert s d x=>exact ZR bn st hρ ho
 | makeFunc f x y=>exact ZH bn st hρ ho
 | makeSlice t x y=>exact aiN bn st hρ ho ok
 | slice t x lo hi mx=>
  cases mx with
  | none=>exact abI bn st hρ ho ok
  | some v=>intro ht;simp only[aY,ho]at ht;exact absurd ht bS.fail
 | fieldAddr t x f=>exact aiy bn st hρ ho
 | field t x f=>exact abo bn st hρ ho
 | indexAddr t x i=>exact aiK bn st hρ ho
 | index t x i=>exact abt bn st hρ ho
 | extract x i=>exact Z9 bn st hρ ho
 | call c=>
  cases hc:c.callee with
  | builtin b=>exact Z6 bn st hρ ho hc ok
  | value f=>exact sU c f ho hc
  | invoke r m=>intro ht;simp only[aY,ho,hc]at ht;exact absurd ht bS.fail
 | _=>intro ht;simp only[aY,ho]at ht;exact absurd ht bS.fail
end
end Go.V
namespace Go.V
noncomputable section
open Go
def PG(Pr:BS):ay:=⟨Pr,fun _=>[],fun _=>none,fun _=>Nil,fun _=>undef,Nil,Nil⟩
def vP(h:Array Obj)(Pr:BS)(t:Ty)(m:Mk)(x:t.den)(v:Value)(F:BS):Prop:=
 ∃b c F0,v=.pointer (some ⟨b,0,none⟩)/\aq h Pr t m x c F0/\iS h b c.toArray/\F b/\Sub F0 F/\¬ F0 b
def o_(h:Array Obj)(Pr:BS)(t:Ty)(m:Mk)(x:t.den)(v:Value)(F:BS):Prop:=
 ∃c,aq h Pr t m x c F/\v=cU t c
def Uv(h:Array Obj)(Pr:BS):(k:PK)->k.den->Value->BS->Prop
 | .val t,x,v,_=>o_ h Pr t .no x v Nil
 | .own t m,x,v,F=>o_ h Pr t m x v F
 | .cN t m _,x,v,F=>o_ h Pr t m x v F
 | .cA t m _,x,v,F=>vP h Pr t m x v F
 | .bZ t,x,v,_=>yo h (PG Pr) t x v
 | .fn,c,v,_=>∃vs,v=.func (.func c.f) #[] vs.toArray/\nF h (PG Pr) c.caps vs
def yA(h:Array Obj)(Pr:BS)(Fs:Nat->BS):Nat->(ks:List PK)->eV ks->List Value->Prop
 | _,[],_,vs=>vs=[]
 | i,k::ks,a,vs=>∃v vs',vs=v::vs'/\Uv h Pr k a.1 v (Fs i)/\yA h Pr Fs (i+1) ks a.2 vs'
def nX(h:Array Obj)(Pr:BS)(Fs:Nat->BS):Nat->(ks:List PK)->i5 ks->List Value->Prop
 | _,[],_,vs=>vs=[]
 | i,.own t m::ks,a,vs=>∃v vs',vs=v::vs'/\o_ h Pr t m a.1 v (Fs i)/\nX h Pr Fs (i+1) ks a.2 vs'
 | i,.val _::ks,a,vs=>∃v vs',vs=v::vs'/\nX h Pr Fs (i+1) ks a vs'
 | i,.cA _ _ _::ks,a,vs=>∃v vs',vs=v::vs'/\nX h Pr Fs (i+1) ks a vs'
 | i,.cN _ _ _::ks,a,vs=>∃v vs',vs=v::vs'/\nX h Pr Fs (i+1) ks a vs'
 | i,.bZ _::ks,a,vs=>∃v vs',vs=v::vs'/\nX h Pr Fs (i+1) ks a vs'
 | i,.fn::ks,a,vs=>∃v vs',vs=v::vs'/\nX h Pr Fs (i+1) ks a vs'
def mH(h:Array Obj)(Pr:BS)(Fs:Nat->BS):Nat->(ks:List PK)->cR ks->List Value->Prop
 | _,[],_,vs=>vs=[]
 | i,.cA t _ m::ks,o,vs=>∃v vs',vs=v::vs'/\vP h Pr t m o.1 v (Fs i)/\mH h Pr Fs (i+1) ks o.2 vs'
 | i,.cN t _ m::ks,o,vs=>∃v vs',vs=v::vs'/\o_ h Pr t m o.1 v (Fs i)/\mH h Pr Fs (i+1) ks o.2 vs'
 | i,.val _::ks,o,vs=>∃v vs',vs=v::vs'/\mH h Pr Fs (i+1) ks o vs'
 | i,.own _ _::ks,o,vs=>∃v vs',vs=v::vs'/\mH h Pr Fs (i+1) ks o vs'
 | i,.bZ _::ks,o,vs=>∃v vs',vs=v::vs'/\mH h Pr Fs (i+1) ks o vs'
 | i,.fn::ks,o,vs=>∃v vs',vs=v::vs'/\mH h Pr Fs (i+1) ks o vs'
def rH(h:Array Obj)(Pr:BS):(k:RK)->k.den->Value->BS->Prop
 | .val t m,x,v,F=>o_ h Pr t m x v F
 | .ptr t m,x,v,F=>vP h Pr t m x v F
def kH(h:Array Obj)(Pr:BS)(Fs:Nat->BS):Nat->(ks:List RK)->fc ks->List Value->Prop
 | _,[],_,vs=>vs=[]
 | i,k::ks,a,vs=>∃v vs',vs=v::vs'/\rH h Pr k a.1 v (Fs i)/\kH h Pr Fs (i+1) ks a.2 vs'
def tF:List Value->Value
 | [v]=>v
 | vs=>.tuple vs.toArray
structure Pre (h:Array Obj) (Pr:BS) (Fs:Nat->BS) (ks:List PK) (a:eV ks) (vs:List Value):Prop where
 rel:yA h Pr Fs 0 ks a vs
 dG:∀i j,i≠j->cq (Fs i) (Fs j)
 dK:∀i,cq (Fs i) Pr
 lim:∀i b,Fs i b->b<h.size
 bP:∀b,Pr b->b<h.size
def rE(n:Nat)(Fs:Nat->BS):BS:=fun b=>n<=b\/∃i,Fs i b
structure HP (w w':World) (Pr:BS) (Fs:Nat->BS) (ks:List PK) (rs:List RK) (r:fc rs) (o:cR ks) (vs:List Value) (val:Value) (fD:BS) (Gs Os:Nat->BS) (us:List Value):Prop where
 res:kH w'.heap fD Gs 0 rs r us
 val:val=tF us
 out:mH w'.heap fD Os 0 ks o vs
 pr:Sub Pr fD
 jY:∀b,fD b->Pr b\/rE w.heap.size Fs b
 gL:∀i b,Gs i b->rE w.heap.size Fs b
 oL:∀i b,Os i b->rE w.heap.size Fs b
 wk:∀i j,i≠j->cq (Gs i) (Gs j)
 Kb:∀i j,i≠j->cq (Os i) (Os j)
 go:∀i j,cq (Gs i) (Os j)
 gp:∀i,cq (Gs i) fD
 op:∀i,cq (Os i) fD
 tP:∀i b,Gs i b->b<w'.heap.size
 xb:∀i b,Os i b->b<w'.heap.size
 xo:∀b,fD b->b<w'.heap.size
 fr:jW (rE w.heap.size Fs) w w'
def vY(P:Program)(C:Ctx)(D:Den C)(f:FuncId):Prop:=
 ∀a r,D f a=some r->∀(w:World)(Pr:BS)(Fs:Nat->BS)(vs:List Value),Pre w.heap Pr Fs (C.sig f).params a vs->
  Calls P f vs.toArray w fun e w'=>∃val fD Gs Os us,e=.returned val/\HP w w' Pr Fs (C.sig f).params (C.sig f).res r.1 r.2 vs val fD Gs Os us
def DN (P:Program) (f:FuncId):Prop:=∃fn,P.funcs[f]? = some fn/\fn.name≠ "runtime.NumGoroutine" /\ fn.body.isSome
structure n8 (P:Program) (C:Ctx) (D:Den C):Prop where
 ok:∀f,vY P C D f
 call:∀f a r,D f a=some r->DN P f
theorem aq.kZ{h:Array Obj}{Pr f_:BS}:∀(t:Ty){m:Mk}{x:t.den}{c:List Value}{F:BS},m.full t=true->aq h Pr t m x c F->aq h f_ t m x c F
 | .unit,_,_,_,_,_,r=>by simpa only [aq] using r
 | .int k,_,_,_,_,_,r=>by simpa only [aq] using r
 | .bool,_,_,_,_,_,r=>by simpa only [aq] using r
 | .str,_,_,_,_,_,r=>by simpa only [aq] using r
 | .pair a b,m,_,_,_,hm,r=>by
  simp only[Mk.full,bC]at hm;simp only[aq]at r⊢;obtain⟨ca,cb,Fa,Fb,e,ra,rb,k⟩:=r;exact⟨ca,cb,Fa,Fb,e,aq.kZ a hm.1 ra,aq.kZ b hm.2 rb,k⟩
 | .sl t,m,_,_,_,hm,r=>by
  cases m with
  | own s mi=>simp only[Mk.full]at hm;simp only[aq]at r⊢;obtain⟨a,cap,e,hl,r⟩:=r;refine⟨a,cap,e,hl,r.imp id ?_⟩;rintro⟨b,cs,e,fb,hb,hs,Fs,hF,hd,re⟩;exact⟨b,cs,e,fb,hb,hs,Fs,hF,hd,fun i hi=>aq.kZ t hm (re i hi)⟩
  | _=>simp[Mk.full]at hm
theorem o_.mono{h:Array Obj}{Pr f_:BS}{t:Ty}{m:Mk}{x:t.den}{v:Value}{F:BS}(hp:Sub Pr f_)(r:o_ h Pr t m x v F):o_ h f_ t m x v F:=by obtain⟨c,r,e⟩:=r;exact⟨c,aq.mono hp (fun _ _=>rfl) t r (Sub.refl _) (fun _ _=>rfl),e⟩
theorem nX.mono{h:Array Obj}{Pr f_:BS}{Fs pn:Nat->BS}(hp:Sub Pr f_):∀(ks:List PK)(i:Nat){a:i5 ks}{vs:List Value},(∀j,i<=j->pn j=Fs j)->
  nX h Pr Fs i ks a vs->nX h f_ pn i ks a vs
 | [],_,_,_,_,r=>r
 | .own t m::ks,i,_,_,hj,r=>by
  obtain⟨v,vs',e,r1,r2⟩:=r;exact⟨v,vs',e,by rw[hj i (b7 _)];exact r1.mono hp,nX.mono hp ks (i+1) (fun j h=>hj j (by omega)) r2⟩
 | .val _::ks,i,_,_,hj,r=>by obtain⟨v,vs',e,r2⟩:=r;exact⟨v,vs',e,nX.mono hp ks (i+1) (fun j h=>hj j (by omega)) r2⟩
 | .cA _ _ _::ks,i,_,_,hj,r=>by obtain⟨v,vs',e,r2⟩:=r;exact⟨v,vs',e,nX.mono hp ks (i+1) (fun j h=>hj j (by omega)) r2⟩
 | .cN _ _ _::ks,i,_,_,hj,r=>by obtain⟨v,vs',e,r2⟩:=r;exact⟨v,vs',e,nX.mono hp ks (i+1) (fun j h=>hj j (by omega)) r2⟩
 | .bZ _::ks,i,_,_,hj,r=>by obtain⟨v,vs',e,r2⟩:=r;exact⟨v,vs',e,nX.mono hp ks (i+1) (fun j h=>hj j (by omega)) r2⟩
 | .fn::ks,i,_,_,hj,r=>by obtain⟨v,vs',e,r2⟩:=r;exact⟨v,vs',e,nX.mono hp ks (i+1) (fun j h=>hj j (by omega)) r2⟩
def lC(h:Array Obj)(S:St)(g:ay):List AV->List Value->Prop
 | [],vs=>vs=[]
 | a::aF,vs=>∃v vs',vs=v::vs'/\qe h S g a v/\lC h S g aF vs'
theorem lC.kp{h:Array Obj}{S S':St}{g g':ay}(k:Kp h S g S' g'):∀{aF:List AV}{vs:List Value},lC h S g aF vs->lC h S' g' aF vs
 | [],_,r=>r
 | a::aF,_,r=>by obtain⟨v,vs',e,r1,r2⟩:=r;exact⟨v,vs',e,k _ _ r1,lC.kp k r2⟩
theorem BE{h:Array Obj}{tmps:Array Value}{sl:List AV}:∀(ks:List PK)(aF:List AV)(vs:List Value)(rt:aO)(g:ay)(H:BS)(i:Nat)(gd:i5 ks)(d5:aO),
  lC h ⟨sl,rt⟩ g aF vs->az h ⟨sl,rt⟩ g tmps H->fV rt ks aF=some (gd,d5)->
  ∃g1 H1 Fs,az h ⟨sl,d5⟩ g1 tmps H1/\Kp h ⟨sl,rt⟩ g ⟨sl,d5⟩ g1/\g1.cM g/\Sub g.Pr g1.Pr/\nX h g1.Pr Fs i ks gd vs/\(∀j,j<i->Fs j=Nil)/\
   (∀j,Sub (Fs j) H1)/\(∀j k,j≠k->cq (Fs j) (Fs k))/\(∀j,cq (Fs j) H)/\Sub H H1
 | [],aF,vs,rt,g,H,i,gd,d5,ha,st,hb=>by
  cases aF with
  | nil=>simp only[fV,aI,a_]at hb;obtain⟨_,rfl⟩:=hb;exact⟨g,H,fun _=>Nil,st,Kp.refl,.refl _,Sub.refl _,ha,fun _ _=>rfl,fun _=>Sub.nil _,fun _ _ _=>cq.nil _,fun _=>cq.nil _,Sub.refl _⟩
  | cons a aF=>simp[fV]at hb
 | .own t m::ks,aF,vs,rt,g,H,i,gd,d5,ha,st,hb=>by
  cases aF with
  | nil=>simp[fV]at hb
  | cons a aF=>
   obtain⟨v,vs',rfl,r1,r2⟩:=ha;simp only[fV,cJ]at hb;obtain⟨⟨mx,x,e_⟩,rU,hb⟩:=hb;split at hb
   .rename_i hs;simp only[cJ,aI,a_]at hb;obtain⟨⟨gd2,yF⟩,hb,e1,e2⟩:=hb;subst e2;obtain⟨c,g2,F,ev,cG⟩:=yC (S:=⟨sl,rt⟩) _ st rU r1;obtain⟨F1,F2,q1,q2,q3,q4⟩:=aq.aQ t hs cG.rep;have oV:=cG.st.cP F2 (fun b hb=>.inr (q2 b hb));have zY:Kp h ⟨sl,rt⟩ g ⟨sl,e_⟩ { g2 with Pr:=Un g2.Pr F2 }:=Kp.trans cG.kp (Ih cG.st F2);obtain⟨g1,H1,Fs,k1,k2,k3,k4,k5,k6,k7,k8,k9,gO⟩:=BE ks aF vs' e_ _ _ (i+1) gd2 yF (r2.kp zY) oV hb;refine⟨g1,H1,fun j=>if j=i then F1 else Fs j,k1,zY.trans k2,cG.same.trans (ay.cM.trans ⟨rfl,rfl,rfl⟩ k3),cG.pr.trans (fun b hb=>k4 b (Or.inl hb)),?_,?_,?_,?_,?_,?_⟩
    .subst e1;refine⟨v,vs',rfl,?_,?_⟩
     .show o_ h g1.Pr t m x v (if i=i then F1 else Fs i);rw[aj rfl];exact⟨c,aq.mono k4 (fun _ _=>rfl) t q4 (Sub.refl _) (fun _ _=>rfl),ev⟩
     .exact nX.mono (Sub.refl _) ks (i+1) (fun j hj=>by show(if j=i then F1 else Fs j)=Fs j;rw[af (by omega)]) k5
    .intro j hj;show(if j=i then F1 else Fs j)=Nil;rw[af (by omega)];exact k6 j (by omega)
    .intro j b hb;split at hb
     .exact gO b ⟨.inr (q1 b hb),fun h2=>q3 b hb h2⟩
     .exact k7 j b hb
    .intro j k ot b h1 h2;split at h1<;>split at h2
     .omega
     .exact k9 k b h2 ⟨.inr (q1 b h1),fun h3=>q3 b h1 h3⟩
     .exact k9 j b h1 ⟨.inr (q1 b h2),fun h3=>q3 b h2 h3⟩
     .exact k8 j k ot b h1 h2
    .intro j b h1 h2;split at h1
     .exact cG.dG b (q1 b h1) h2
     .exact k9 j b h1 ⟨.inl h2,fun h3=>cG.dG b (q2 b h3) h2⟩
    .intro b hb;exact gO b ⟨.inl hb,fun h3=>cG.dG b (q2 b h3) hb⟩
   .simp at hb
 | .val t::ks,aF,vs,rt,g,H,i,gd,d5,ha,st,hb=>by
  cases aF with
  | nil=>simp[fV]at hb
  | cons a aF=>obtain⟨v,vs',rfl,r1,r2⟩:=ha;obtain⟨g1,H1,Fs,k1,k2,k3,k4,k5,k6,k⟩:=BE ks aF vs' rt g H (i+1) gd d5 r2 st hb;exact⟨g1,H1,Fs,k1,k2,k3,k4,⟨v,vs',rfl,k5⟩,fun j hj=>k6 j (by omega),k⟩
 | .cA _ _ _::ks,aF,vs,rt,g,H,i,gd,d5,ha,st,hb=>by
  cases aF with
  | nil=>simp[fV]at hb
  | cons a aF=>obtain⟨v,vs',rfl,r1,r2⟩:=ha;obtain⟨g1,H1,Fs,k1,k2,k3,k4,k5,k6,k⟩:=BE ks aF vs' rt g H (i+1) gd d5 r2 st hb;exact⟨g1,H1,Fs,k1,k2,k3,k4,⟨v,vs',rfl,k5⟩,fun j hj=>k6 j (by omega),k⟩
 | .cN _ _ _::ks,aF,vs,rt,g,H,i,gd,d5,ha,st,hb=>by
  cases aF with
  | nil=>simp[fV]at hb
  | cons a aF=>obtain⟨v,vs',rfl,r1,r2⟩:=ha;obtain⟨g1,H1,Fs,k1,k2,k3,k4,k5,k6,k⟩:=BE ks aF vs' rt g H (i+1) gd d5 r2 st hb;exact⟨g1,H1,Fs,k1,k2,k3,k4,⟨v,vs',rfl,k5⟩,fun j hj=>k6 j (by omega),k⟩
 | .bZ _::ks,aF,vs,rt,g,H,i,gd,d5,ha,st,hb=>by
  cases aF with
  | nil=>simp[fV]at hb
  | cons a aF=>obtain⟨v,vs',rfl,r1,r2⟩:=ha;obtain⟨g1,H1,Fs,k1,k2,k3,k4,k5,k6,k⟩:=BE ks aF vs' rt g H (i+1) gd d5 r2 st hb;exact⟨g1,H1,Fs,k1,k2,k3,k4,⟨v,vs',rfl,k5⟩,fun j hj=>k6 j (by omega),k⟩
 | .fn::ks,aF,vs,rt,g,H,i,gd,d5,ha,st,hb=>by
  cases aF with
  | nil=>simp[fV]at hb
  | cons a aF=>obtain⟨v,vs',rfl,r1,r2⟩:=ha;obtain⟨g1,H1,Fs,k1,k2,k3,k4,k5,k6,k⟩:=BE ks aF vs' rt g H (i+1) gd d5 r2 st hb;exact⟨g1,H1,Fs,k1,k2,k3,k4,⟨v,vs',rfl,k5⟩,fun j hj=>k6 j (by omega),k⟩
end
end Go.V
namespace Go.V
noncomputable section
open Go
def Seen(sh:Bool)(S:St)(g:ay):BS:=if sh then g.Pr else yQ S g
theorem D6(sh:Bool)(S:St)(g:ay):Sub g.Pr (Seen sh S g):=by
 intro b hb;unfold Seen;split
 .exact hb
 .exact .inl hb
section
variable {h:Array Obj} {S:St} {g:ay} {tmps:Array Value} {H:BS} (st:az h S g tmps H)
include st
theorem Ee:∀(t:Ty){a:AV}{x:t.den}{c:List Value},a.shared=true->rd S.rt t a=some x->dc h S g a c->aq h g.Pr t .no x c Nil
 | t,a,x,c,hs,hr,y=>by
  cases a with
  | val t' x'=>
   have hc:qbv t' t x'=some x:=by cases t<;>simpa only [rd] using hr
   simp only[dc]at y;exact(aq.cast hc y).2
  | unit=>
   cases t with
   | unit=>simp only[dc]at y;simp only[aq];exact y
   | _=>simp[rd]at hr
  | pair u v=>
   cases t with
   | pair a b=>simp only[AV.shared,bC]at hs;simp only[rd,cJ,aI]at hr;obtain⟨x1,h1,x2,h2,rfl⟩:=hr;simp only[dc]at y;obtain⟨ca,cb,rfl,y1,y2⟩:=y;simp only[aq];exact⟨ca,cb,Nil,Nil,rfl,Ee a hs.1 h1 y1,Ee b hs.2 h2 y2,Sub.nil _,Sub.nil _,cq.nil _⟩
   | _=>simp[rd]at hr
  | undef=>cases t<;>simp[rd]at hr
  | b5 r p s=>simp[AV.shared]at hs
  | _=>simp only[dc]at y
theorem akd(t:Ty){a:AV}{x:t.den}{v:Value}(hs:a.shared=true)(hr:rd S.rt t a=some x)(y:qe h S g a v):o_ h g.Pr t .no x v Nil:=by
 cases a with
 | val t' x'=>
  have hc:qbv t' t x'=some x:=by cases t<;>simpa only [rd] using hr
  simp only[qe]at y;obtain⟨c,r,rfl⟩:=y;obtain⟨rfl,r2⟩:=aq.cast hc r;exact⟨c,r2,rfl⟩
 | cF b=>
  cases t with
  | bool=>simp only[rd,aI]at hr;simp only[qe]at y;subst hr;subst y;exact⟨[.bool b],by simp only[aq],rfl⟩
  | _=>simp[rd]at hr
 | unit=>
  cases t with
  | unit=>simp only[qe]at y;exact⟨[],by simp only[aq],by rw[y];rfl⟩
  | _=>simp[rd]at hr
 | fe=>
  cases t with
  | sl e=>simp only[rd,aI]at hr;simp only[qe]at y;subst hr;subst y;exact⟨[.slice none 0 0],by simp only[aq];exact⟨none,0,by simp,by simp,by simp⟩,rfl⟩
  | _=>simp[rd]at hr
 | pair u w=>
  cases t with
  | pair a b=>simp only[qe]at y;obtain⟨ca,cb,rfl,y1,y2⟩:=y;exact⟨ca++cb,Ee st (.pair a b) (a:=.pair u w) hs hr (by simp only[dc];exact⟨ca,cb,rfl,y1,y2⟩),rfl⟩
  | _=>simp[rd]at hr
 | b5 r p s=>simp[AV.shared]at hs
 | _=>cases t<;>simp[rd]at hr
theorem ajc{sh:Bool}(t:Ty){a:AV}{x:t.den}{v:Value}(hs:sh=true->a.shared=true)(hr:rd S.rt t a=some x)(y:qe h S g a v) :
  o_ h (Seen sh S g) t .no x v Nil:=by
 cases sh with
 | true=>exact akd st t (hs rfl) hr y
 | false=>obtain⟨c,e,r⟩:=pX st t hr y;exact⟨c,r,e⟩
theorem FZ{Pr:BS}(hp:Sub g.Pr Pr){t:Ty}{x:t.den}{v:Value}(y:yo h g t x v):yo h (PG Pr) t x v:=by obtain⟨b,o,cs,e,pb,hb,hs,r⟩:=y;exact⟨b,o,cs,e,hp b pb,hb,hs,aq.mono hp (fun _ _=>rfl) t r (Sub.refl _) (fun _ _=>rfl)⟩
theorem Pb{r:Nat}{p:Path}{d:Dy}{v:Value}(hf:S.rt.focus r p=some d)(hw:d.ms.whole=true)(x:qe h S g (.addr r p) v):yo h (PG (yQ S g)) d.ty d.x v:=by
 simp only[aO.focus]at hf;split at hf
 .rename_i R hR;simp only[qe]at x;obtain⟨h1,b,off,c,h2,h3⟩:=x R hR d hf;obtain⟨base,c',F,q1,q2,q3,q4,q5,_⟩:=st.update hR hf h1;rw[h2]at q1;simp only[aI,a_]at q1;obtain⟨rfl,rfl⟩:=q1;have bH:(S.root r).isSome:=by show(S.rt.root r).isSome=true;rw[hR];rfl
  obtain⟨_,cs,wO,hs,hsub⟩:=q4 b off rfl;have hl:=aq.width _ q2;refine⟨b,off,cs,h3,.inr ⟨r,bH,q5 b off rfl⟩,wO.zA,by omega,?_⟩;rw[<-hl,hsub];exact aq.mono (fun b hb=>hb.elim .inl (fun hb=>.inr ⟨r,bH,q3 b hb⟩)) (fun _ _=>rfl) _ (aq.share _ hw q2) (Sub.refl _) (fun _ _=>rfl)
 .simp at hf
theorem Ao{sh:Bool}:∀{a:AV}{l:List bt}{vs:List Value},(sh=true->a.shared=true)->lB S.rt a=some l->aL h S g a vs->nF h (PG (Seen sh S g)) l vs
 | .unit,l,vs,_,hc,y=>by
  simp only[lB,aI]at hc;subst hc;simp only[aL]at y;exact y
 | .pair u w,l,vs,hs,hc,y=>by
  simp only[aL]at y;obtain⟨v,vs',rfl,y1,y2⟩:=y;have lZ:sh=true->w.shared=true:=fun h=>by have:=hs h;simp only[AV.shared,bC]at this;exact this.2
  have sZ:sh=true->u.shared=true:=fun h=>by have:=hs h;simp only[AV.shared,bC]at this;exact this.1
  cases u with
  | addr r p=>
   simp only[lB]at hc;split at hc
   .rename_i d hf;split at hc
    .rename_i hw;simp only[cJ,aI]at hc;obtain⟨l',hc,rfl⟩:=hc;refine⟨v,vs',rfl,?_,Ao lZ hc y2⟩;cases sh with
     | true=>have:=sZ rfl;simp[AV.shared]at this
     | false=>exact Pb st hf hw y1
    .simp at hc
   .simp at hc
  | b_ t x=>simp only[lB,cJ,aI]at hc;obtain⟨l',hc,rfl⟩:=hc;simp only[qe]at y1;exact⟨v,vs',rfl,FZ st (D6 sh S g) y1,Ao lZ hc y2⟩
  | val t x=>simp only[lB,cJ,aI]at hc;obtain⟨l',hc,rfl⟩:=hc;simp only[qe]at y1;obtain⟨c,r,e⟩:=y1;exact⟨v,vs',rfl,⟨c,aq.mono (D6 sh S g) (fun _ _=>rfl) t r (Sub.refl _) (fun _ _=>rfl),e⟩,Ao lZ hc y2⟩
  | _=>simp[lB]at hc
 | .undef,_,_,_,hc,_=>by simp[lB]at hc
 | .skip,_,_,_,hc,_=>by simp[lB]at hc
 | .cF _,_,_,_,hc,_=>by simp[lB]at hc
 | .fe,_,_,_,hc,_=>by simp[lB]at hc
 | .val _ _,_,_,_,hc,_=>by simp[lB]at hc
 | .b5 _ _ _,_,_,_,hc,_=>by simp[lB]at hc
 | .view _ _ _ _ _,_,_,_,hc,_=>by simp[lB]at hc
 | .addr _ _,_,_,_,hc,_=>by simp[lB]at hc
 | .b_ _ _,_,_,_,hc,_=>by simp[lB]at hc
 | .jn _,_,_,_,hc,_=>by simp[lB]at hc
 | .gz _ _,_,_,_,hc,_=>by simp[lB]at hc
 | .dZ _,_,_,_,hc,_=>by simp[lB]at hc
theorem GD{Pr:BS}(hp:Sub g.Pr Pr):∀{l:List bt}{vs:List Value},nF h g l vs->nF h (PG Pr) l vs
 | [],_,y=>y
 | c::l,_,y=>by
  obtain⟨v,vs',e,h1,h2⟩:=y;refine⟨v,vs',e,?_,GD hp h2⟩;cases c with
  | val t x=>obtain⟨c,r,e⟩:=h1;exact⟨c,aq.mono hp (fun _ _=>rfl) t r (Sub.refl _) (fun _ _=>rfl),e⟩
  | bZ t x=>exact FZ st hp h1
def u6(h:Array Obj)(Pr:BS)(Fs:Nat->BS):Nat->(ks:List PK)->cR ks->List Value->Prop
 | _,[],_,vs=>vs=[]
 | i,.cA t m _::ks,o,vs=>∃v vs',vs=v::vs'/\vP h Pr t m o.1 v (Fs i)/\u6 h Pr Fs (i+1) ks o.2 vs'
 | i,.cN t m _::ks,o,vs=>∃v vs',vs=v::vs'/\o_ h Pr t m o.1 v (Fs i)/\u6 h Pr Fs (i+1) ks o.2 vs'
 | i,.val _::ks,o,vs=>∃v vs',vs=v::vs'/\u6 h Pr Fs (i+1) ks o vs'
 | i,.own _ _::ks,o,vs=>∃v vs',vs=v::vs'/\u6 h Pr Fs (i+1) ks o vs'
 | i,.bZ _::ks,o,vs=>∃v vs',vs=v::vs'/\u6 h Pr Fs (i+1) ks o vs'
 | i,.fn::ks,o,vs=>∃v vs',vs=v::vs'/\u6 h Pr Fs (i+1) ks o vs'
theorem yf{sh:Bool}{Fs:Nat->BS}:∀(ks:List PK)(aF:List AV)(vs:List Value)(i:Nat)(gd:i5 ks)(od:cR ks)(a:eV ks),(sh=true->mb ks aF=true)->
  lC h S g aF vs->nX h g.Pr Fs i ks gd vs->u6 h g.Pr Fs i ks od vs->iR S.rt ks aF gd od=some a->yA h (Seen sh S g) Fs i ks a vs
 | [],aF,vs,i,gd,od,a,_,ha,hg,_,hd=>by
  simp only[nX]at hg;exact hg
 | k::ks,[],vs,i,gd,od,a,_,ha,hg,_,hd=>by cases k<;>simp[iR]at hd
 | k::ks,u::aF,vs,i,gd,od,a,hs,ha,hg,hl,hd=>by
  obtain⟨v,vs',rfl,r1,r2⟩:=ha;have lZ:sh=true->mb ks aF=true:=fun e=>by have:=hs e;simp only[mb,bC]at this;exact this.2
  have sZ:sh=true->k.plain=true->u.shared=true:=fun e e2=>by
   have:=hs e;simp only[mb,bC,jg,jV]at this;rcases this.1 with h3 | h3
   .rw[e2]at h3;simp at h3
   .exact h3
  cases k with
  | val t=>simp only[iR,cJ,aI]at hd;obtain⟨x,hx,r,hr,rfl⟩:=hd;obtain⟨_,_,e,hg⟩:=hg;obtain⟨_,_,e2,hl⟩:=hl;simp only[eL]at e e2;obtain⟨rfl,rfl⟩:=e;obtain⟨-,rfl⟩:=e2;exact⟨v,vs',rfl,ajc st t (fun e=>sZ e rfl) hx r1,yf ks aF vs' (i+1) gd od r lZ r2 hg hl hr⟩
  | own t m=>simp only[iR,cJ,aI]at hd;obtain⟨r,hr,rfl⟩:=hd;obtain⟨_,_,e,hv,hg⟩:=hg;obtain⟨_,_,e2,hl⟩:=hl;simp only[eL]at e e2;obtain⟨rfl,rfl⟩:=e;obtain⟨-,rfl⟩:=e2;exact⟨v,vs',rfl,hv.mono (D6 sh S g),yf ks aF vs' (i+1) gd.2 od r lZ r2 hg hl hr⟩
  | cA t m m'=>simp only[iR,cJ,aI]at hd;obtain⟨r,hr,rfl⟩:=hd;obtain⟨_,_,e,hg⟩:=hg;obtain⟨_,_,e2,hv,hl⟩:=hl;simp only[eL]at e e2;obtain⟨rfl,rfl⟩:=e;obtain⟨rfl,rfl⟩:=e2;refine⟨v,vs',rfl,?_,yf ks aF vs' (i+1) gd od.2 r lZ r2 hg hl hr⟩;obtain⟨b,c,F0,e,r,k⟩:=hv;exact⟨b,c,F0,e,aq.mono (D6 sh S g) (fun _ _=>rfl) t r (Sub.refl _) (fun _ _=>rfl),k⟩
  | cN t m m'=>simp only[iR,cJ,aI]at hd;obtain⟨r,hr,rfl⟩:=hd;obtain⟨_,_,e,hg⟩:=hg;obtain⟨_,_,e2,hv,hl⟩:=hl;simp only[eL]at e e2;obtain⟨rfl,rfl⟩:=e;obtain⟨rfl,rfl⟩:=e2;exact⟨v,vs',rfl,hv.mono (D6 sh S g),yf ks aF vs' (i+1) gd od.2 r lZ r2 hg hl hr⟩
  | bZ t=>
   obtain⟨_,_,e,hg⟩:=hg;obtain⟨_,_,e2,hl⟩:=hl;simp only[eL]at e e2;obtain⟨rfl,rfl⟩:=e;obtain⟨-,rfl⟩:=e2;cases u with
   | b_ t' x=>simp only[iR,cJ,aI]at hd;obtain⟨y,hc,r,hr,rfl⟩:=hd;simp only[qe]at r1;obtain⟨e1,e2⟩:=CN hc;subst e1;simp only at e2;subst e2;exact⟨v,vs',rfl,FZ st (D6 sh S g) r1,yf ks aF vs' (i+1) gd od r lZ r2 hg hl hr⟩
   | addr q p=>
    simp only[iR]at hd;split at hd
    .rename_i d hf;split at hd
     .rename_i hw;simp only[cJ,aI]at hd;obtain⟨y,hc,r,hr,rfl⟩:=hd;refine⟨v,vs',rfl,?_,yf ks aF vs' (i+1) gd od r lZ r2 hg hl hr⟩;obtain⟨dt,dm,dx⟩:=d;simp only at hc hw;obtain⟨e1,e2⟩:=CN hc;subst e1;simp only at e2;subst e2;cases sh with
      | true=>have:=sZ rfl rfl;simp[AV.shared]at this
      | false=>exact Pb st hf hw r1
     .simp at hd
    .simp at hd
   | _=>simp[iR]at hd
  | fn=>
   obtain⟨_,_,e,hg⟩:=hg;obtain⟨_,_,e2,hl⟩:=hl;simp only[eL]at e e2;obtain⟨rfl,rfl⟩:=e;obtain⟨-,rfl⟩:=e2;cases u with
   | gz f caps=>simp only[iR,cJ,aI]at hd;obtain⟨l,hc,r,hr,rfl⟩:=hd;simp only[qe]at r1;obtain⟨ws,e,ht⟩:=r1;exact⟨v,vs',rfl,⟨ws,e,Ao st (fun e=>by have:=sZ e rfl;simpa [AV.shared] using this) hc ht⟩,yf ks aF vs' (i+1) gd od r lZ r2 hg hl hr⟩
   | dZ c=>simp only[iR,cJ,aI]at hd;obtain⟨r,hr,rfl⟩:=hd;simp only[qe]at r1;obtain⟨ws,e,ht⟩:=r1;exact⟨v,vs',rfl,⟨ws,e,GD st (D6 sh S g) ht⟩,yf ks aF vs' (i+1) gd od r lZ r2 hg hl hr⟩
   | _=>simp[iR]at hd
end
end
end Go.V
namespace Go.V
noncomputable section
open Go
theorem kH.conv{h:Array Obj}{Pr f_:BS}{Gs:Nat->BS}:∀(rs:List RK)(i:Nat){r:fc rs}{us:List Value},(Sub Pr f_\/rs.all RK.full=true)->kH h Pr Gs i rs r us->kH h f_ Gs i rs r us
 | [],_,_,_,_,k=>k
 | q::rs,i,r,us,hc,k=>by
  obtain⟨v,vs',e,k1,k2⟩:=k;have gS:Sub Pr f_\/rs.all RK.full=true:=hc.imp id fun h=>by simp only[gK,bC]at h;exact h.2
  refine⟨v,vs',e,?_,kH.conv rs (i+1) gS k2⟩;have conv:∀(t:Ty)(m:Mk)(x:t.den)(c:List Value)(F:BS),(m.full t=true\/Sub Pr f_)->aq h Pr t m x c F->aq h f_ t m x c F:=fun t m x c F hh rr=>
   hh.elim (fun h=>aq.kZ t h rr) (fun h=>aq.mono h (fun _ _=>rfl) t rr (Sub.refl _) (fun _ _=>rfl))
  have hf:q.ms.full q.ty=true\/Sub Pr f_:=hc.symm.imp (fun h=>by simp only[gK,bC]at h;cases q<;>exact h.1) id;cases q with
  | val t m=>obtain⟨c,rr,e⟩:=k1;exact⟨c,conv t m _ c _ hf rr,e⟩
  | ptr t m=>obtain⟨b,c,F0,e,rr,k⟩:=k1;exact⟨b,c,F0,e,conv t m _ c _ hf rr,k⟩
theorem ai2{w w':World}{sl:List AV}{rt:aO}{g:ay}{tmps:Array Value}{H:BS}(st:az w.heap ⟨sl,rt⟩ g tmps H){Fs:Nat->BS}(hF:∀i,Sub (Fs i) H)
  {sh:Bool} {ks:List PK} {rs:List RK} {r:fc rs} {o:cR ks} {vs:List Value} {val:Value} {fD:BS} {Gs Os:Nat->BS} {us:List Value}
  (p:HP w w' (Seen sh ⟨sl,rt⟩ g) Fs ks rs r o vs val fD Gs Os us) (hfull:sh=false->rs.all RK.full=true) :
  ∃g3 H3,az w'.heap ⟨sl,rt⟩ g3 tmps H3/\kH w'.heap g3.Pr Gs 0 rs r us/\(∀i,Sub (Gs i) H3)/\g3.cM g:=by
 have hk:∀b,b<w.heap.size->¬ H b->w'.heap[b]? = w.heap[b]?:=fun b hb hn=>p.fr.block b hb (by
  rintro(h1 | ⟨i,h1⟩)
  .omega
  .exact hn (hF i b h1))
 have C1:=st.og hk p.fr.size (fun b=>H b\/(w.heap.size<=b/\b<w'.heap.size)) (fun b hb=>hb);have iP:∀b,rE w.heap.size Fs b->b<w'.heap.size->H b\/(w.heap.size<=b/\b<w'.heap.size):=by
  rintro b (h1 | ⟨i,h1⟩) h2
  .exact .inr ⟨h1,h2⟩
  .exact .inl (hF i b h1)
 cases sh with
 | false=>exact⟨g,_,C1,kH.conv rs 0 (.inr (hfull rfl)) p.res,fun i b hb=>iP b (p.gL i b hb) (p.tP i b hb),.refl _⟩
 | true=>
  have hD:Sub (fun b=>fD b/\¬ g.Pr b) (fun b=>H b\/(w.heap.size<=b/\b<w'.heap.size)):=by
   rintro b ⟨h1,h2⟩;rcases p.jY b h1 with h3 | h3
   .exact absurd h3 h2
   .exact iP b h3 (p.xo b h1)
  refine⟨_,_,C1.cP _ hD,kH.conv rs 0 (.inl ?_) p.res,fun i b hb=>⟨iP b (p.gL i b hb) (p.tP i b hb),fun h=>p.gp i b hb h.1⟩,⟨rfl,rfl,rfl⟩⟩;intro b hb;by_cases h1:g.Pr b
  .exact .inl h1
  .exact .inr ⟨hb,h1⟩
def mj:List RK->List Value->List Value
 | [],_=>[]
 | k::ks,c=>cU k.ty (c.take k.ty.width)::mj ks (c.drop k.ty.width)
theorem Lb{h:Array Obj}{Pr:BS}{Gs:Nat->BS}(hd:∀i j,i≠j->cq (Gs i) (Gs j)):∀(rs:List RK)(i:Nat){r:fc rs}{us:List Value},rs.all (fun k=>!k.kj&&k.ty.nz)=true->kH h Pr Gs i rs r us->
  ∃c F,aq h Pr (iZ rs) (pg rs) (jO rs r) c F/\(∀b,F b->∃j,i<=j/\Gs j b)/\us=mj rs c
 | [],i,r,us,_,k=>⟨[],Nil,by simp only[iZ,aq],fun b h=>h.elim,k⟩
 | .ptr t m::rs,i,r,us,hp,k=>by simp[RK.kj]at hp
 | .val t m::rs,i,r,us,hp,k=>by
  simp only[gK,bC]at hp;obtain⟨v,vs',rfl,⟨c1,r1,rfl⟩,k2⟩:=k;obtain⟨c2,F2,r2,tQ,rfl⟩:=Lb hd rs (i+1) hp.2 k2;refine⟨c1++c2,Un (Gs i) F2,?_,?_,?_⟩
  .simp only[iZ,pg,jO,aq,Mk.fst,Mk.snd];refine⟨c1,c2,Gs i,F2,rfl,r1,r2,fun b hb=>.inl hb,fun b hb=>.inr hb,?_⟩;intro b h1 h2;obtain⟨j,hj,h3⟩:=tQ b h2;exact hd i j (by omega) b h1 h3
  .rintro b (hb | hb)
   .exact⟨i,b7 _,hb⟩
   .obtain⟨j,hj,h3⟩:=tQ b hb;exact⟨j,by omega,h3⟩
  .have hl:=aq.width t r1;simp only[mj,RK.ty];rw[iX hl,iL hl]
theorem GP{h:Array Obj}{S:St}{g:ay}:∀(rs:List RK){x:(iZ rs).den}{c:List Value}{F:BS},aq h g.Pr (iZ rs) .no x c F->aL h S g (yL (iZ rs) x) (mj rs c)
 | [],x,c,F,r=>by simp only[iZ,yL,aL,mj]
 | k::rs,x,c,F,r=>by
  simp only[iZ,aq]at r;obtain⟨ca,cb,Fa,Fb,rfl,ra,rb,_⟩:=r;have hl:=aq.width _ ra;simp only[iZ,yL,aL,mj];rw[iX hl,iL hl];refine⟨_,_,rfl,?_,GP rs rb⟩;simp only[qe];exact⟨ca,aq.eH (m:=.no) _ rfl ra,rfl⟩
theorem Me{h:Array Obj}{S:St}{g:ay}{r:Nat}{R:aB}(hR:S.root r=some R):∀(rs:List RK)(p:Path)(m:Mk)(x:(iZ rs).den)(base:fy)(c:List Value)(F:BS),
  focus R.ty R.ms R.x p=some ⟨iZ rs,m,x⟩->bq R.ty R.x p->b8 h R.ty (g.C r) (g.base r) p=some (base,c)->aq h g.Pr (iZ rs) m x c F->rs.all (fun k=>!k.kj&&k.ty.nz)=true->
  aL h S g (xV (cW r (iZ rs) m x p)) (mj rs c)
 | [],p,m,x,base,c,F,_,_,_,_,_=>by simp only[iZ,cW,xV,aL,mj]
 | k::rs,p,m,x,base,c,F,hf,hin,eg,rep,hall=>by
  simp only[gK,bC]at hall;simp only[iZ,cW];by_cases hs:m.still=true
  .rw[aj hs];have:=GP (S:=S) (k::rs) (aq.eH (F':=Nil) _ hs rep);exact this
  .rw[af hs];have nY:=rep;simp only[iZ,aq]at nY;obtain⟨ca,cb,Fa,Fb,rfl,ra,rb,_⟩:=nY;have hl:=aq.width _ ra;have hfa:focus R.ty R.ms R.x (p++[.fst])=some ⟨k.ty,m.fst,x.1⟩:=by rw[uL p _ hf];simp only[iZ,focus]
   have Ve:focus R.ty R.ms R.x (p++[.snd])=some ⟨iZ rs,m.snd,x.2⟩:=by rw[uL p _ hf];simp only[iZ,focus]
   have hia:bq R.ty R.x (p++[.fst]):=(yq p _ hf).2 ⟨hin,by simp only[iZ,bq]⟩;have hib:bq R.ty R.x (p++[.snd]):=(yq p _ hf).2 ⟨hin,by simp only[iZ,bq]⟩;have haa:b8 h R.ty (g.C r) (g.base r) (p++[.fst])=some (base,ca):=by rw[uT p _ hf eg];simp only[iZ,b8];rw[iX hl]
   have hab:b8 h R.ty (g.C r) (g.base r) (p++[.snd])=some (base.map fun x=>(x.1,x.2+k.ty.width),cb):=by rw[uT p _ hf eg];simp only[iZ,b8];rw[iL hl]
   simp only[xV,aL,mj];rw[iX hl,iL hl];refine⟨_,_,rfl,dc.rel ra (DR hR _ _ _ _ _ _ _ hfa hia haa ra) (Ty.kr hall.1.2),?_⟩;exact Me hR rs (p++[.snd]) m.snd x.2 _ cb Fb Ve hib hab rb hall.2
theorem ZJ{a b:RK}{rs:List RK}{c:List Value}:tF (mj (a::b::rs) c)=.tuple (mj (a::b::rs) c).toArray:=by simp only[mj,tF]
theorem FE{h:Array Obj}{S:St}{d5:aO}{g:ay}{tmps:Array Value}{H:BS}(st:az h ⟨S.sl,d5⟩ g tmps H){Gs:Nat->BS}(hG:∀i,Sub (Gs i) H)(hd:∀i j,i≠j->cq (Gs i) (Gs j))
  {A:bV} {d:Option Nat} {site:Nat} (ok:ny A S d site):∀(rs:List RK){r:fc rs}{us:List Value}{β:Bool}{v:AV}{rt':aO},kH h g.Pr Gs 0 rs r us->
  (lP A d5 d site rs r).dec β=some (v,rt')->∃g',az h ⟨S.sl,rt'⟩ g' tmps Nil/\qe h ⟨S.sl,rt'⟩ g' v (tF us)/\g'.cM g
 | [],r,us,β,v,rt',k,e=>by
  simp only[kH]at k;subst k;simp only[lP,Tr.dec,aI,a_]at e;obtain⟨rfl,rfl⟩:=e;refine⟨g,st.bx (Sub.nil _),?_,.refl _⟩;simp only[qe,tF];exact⟨[],rfl,by simp only[aL]⟩
 | [.val t m],r,us,β,v,rt',k,e=>by
  obtain⟨u,vs',rfl,⟨c,rr,rfl⟩,k2⟩:=k;simp only[kH]at k2;subst k2;simp only[lP]at e;by_cases hsh:A.sh=true
  .rw[aj hsh]at e;by_cases hw:m.whole=true
   .rw[aj hw]at e;simp only[Tr.dec,aI,a_]at e;obtain⟨rfl,rfl⟩:=e;obtain⟨g',s1,s2,s3,_⟩:=S7 st rr (hG 0) hw;exact⟨g',s1.bx (Sub.nil _),by simp only[qe,tF];exact⟨c,s2,rfl⟩,s3⟩
   .rw[af hw]at e;simp[Tr.dec]at e
  rw[af hsh]at e;by_cases hm:m.ak=true
  .rw[aj hm]at e;obtain⟨g',s1,s2,s3⟩:=BO st rr (aK.ak _ hm) (hG 0) ok e;exact⟨g',s1,s2,s3⟩
  .rw[af hm]at e;simp[Tr.dec]at e
 | [.ptr t m],r,us,β,v,rt',k,e=>by
  obtain⟨u,vs',rfl,⟨b,c,F0,rfl,rr,ho,hb,hF0,hn⟩,k2⟩:=k;simp only[kH]at k2;subst k2;simp only[lP]at e;by_cases hm:m.ak=true
  .rw[aj hm]at e;obtain⟨g',s1,s2,s3⟩:=Ii st rr (aK.ak _ hm) (fun x hx=>hG 0 x (hF0 x hx)) (hG 0 b hb) hn ho ok e;exact⟨g',s1,s2,s3⟩
  .rw[af hm]at e;simp[Tr.dec]at e
 | q1::q2::rs,r,us,β,v,rt',k,e=>by
  have e':(BN A d5 d site (q1::q2::rs) r).dec β=some (v,rt'):=by cases q1<;>simpa only [lP] using e
  unfold BN at e';by_cases hc:((pg (q1::q2::rs)).ak&&(q1::q2::rs).all (fun k=>!k.kj&&k.ty.nz))=true
  .rw[aj hc]at e';simp only[bC]at hc;obtain⟨c,F,rep,hF,rfl⟩:=Lb hd _ 0 hc.2 k;have hFH:Sub F H:=fun b hb=>by obtain⟨j,_,h3⟩:=hF b hb;exact hG j b h3
   rw[ZJ];cases d with
   | none=>simp only[Tr.dec,aI,a_]at e';obtain⟨rfl,rfl⟩:=e';exact⟨g,st.bx (Sub.nil _),by simp only[qe],.refl _⟩
   | some d=>
    simp only at e';cases hl:dR A d5 (some d) site (iZ (q1::q2::rs)) (pg (q1::q2::rs)) (jO (q1::q2::rs) r) false with
    | ret z=>
     obtain⟨v1,e_⟩:=z;rw[hl]at e';simp only[Tr.dec,aI,a_]at e';obtain⟨rfl,rfl⟩:=e';simp only[dR,e7,dX]at hl;split at hl
     .simp at hl
     .rename_i hn;simp only[jg,jV,nT,GS,nU]at hn;split at hl
      .rename_i hs;simp only[Tr.ret.injEq,a_]at hl;obtain⟨rfl,rfl⟩:=hl;refine⟨g,st.bx (Sub.nil _),?_,.refl _⟩;simp only[qe];exact⟨_,rfl,GP _ (aq.eH (F':=Nil) _ hs rep)⟩
      .split at hl
       .rename_i lJ;simp only[Tr.ret.injEq,a_]at hl;obtain⟨rfl,rfl⟩:=hl;have nY:=(aq.stamp (h:=h) (Pr:=g.Pr) site _).1 rep;have key:∀u,((⟨S.sl,d5⟩:St).get u).roots.contains d=false\/(∃lo hi,((⟨S.sl,d5⟩:St).get u).aR lo hi=true/\((⟨S.sl,d5⟩:St).get u).gB d=true/\((pg (q1::q2::rs)).stamp site).fresh lo hi/\(none:Option Nat)=none):=by
         intro u;simp only[jg,bC]at lJ;rcases lJ with lJ | ⟨⟨jq,gS⟩,qV⟩
         .exact .inl (ok.w_ lJ d rfl u)
         .exact .inr ⟨site,site+1,(ok.fr jq).2 u,ok.pl qV d rfl u,Mk.dP site gS,rfl⟩
        obtain⟨g',s1,s2,s3,s4,s5,s6⟩:=st.ko hn.1 nY (aK.stamp hn.2 _ (aK.ak _ hc.1)) hFH none (fun b hb=>by simp at hb) key;refine⟨g',s1.bx (Sub.nil _),?_,s3⟩;have hR:(⟨S.sl,d5.aD d (some ⟨iZ (q1::q2::rs),(pg (q1::q2::rs)).stamp site,jO (q1::q2::rs) r,false⟩)⟩:St).root d=some ⟨iZ (q1::q2::rs),(pg (q1::q2::rs)).stamp site,jO (q1::q2::rs) r,false⟩:=by have:=St.bY (⟨S.sl,d5⟩:St) d (some ⟨iZ (q1::q2::rs),(pg (q1::q2::rs)).stamp site,jO (q1::q2::rs) r,false⟩) d;rw[aj ⟨rfl,hn.1⟩]at this;exact this
        simp only[qe];refine⟨_,rfl,?_⟩;refine Me hR (q1::q2::rs) [] _ _ (g'.base d) c F (Kv _ _ _) (xI _ _) ?_ (by rw[s2];exact nY) hc.2;rw[s4];exact DQ _ _ _ _
       .simp at hl
    | _=>rw[hl]at e';simp[Tr.dec]at e'
  .rw[af hc]at e';simp[Tr.dec]at e'
end
theorem IN{h:Array Obj}{Pr:BS}{Fs:Nat->BS}:∀(ks:List PK)(aF:List AV)(vs:List Value)(i:Nat)(rt e_:aO)(od:cR ks){S:St}{g:ay},ks.all (fun k=>!k.eA)=true->
  lC h S g aF vs->gw rt ks aF=some (od,e_)->e_=rt/\u6 h Pr Fs i ks od vs
 | [],aF,vs,i,rt,e_,od,S,g,_,ha,hb=>by
  cases aF with
  | nil=>simp only[gw,aI,a_]at hb;exact⟨hb.2.symm,ha⟩
  | cons a aF=>simp[gw]at hb
 | k::ks,[],vs,i,rt,e_,od,S,g,_,ha,hb=>by cases k<;>simp[gw]at hb
 | k::ks,a::aF,vs,i,rt,e_,od,S,g,hn,ha,hb=>by
  simp only[gK,bC]at hn;obtain⟨v,vs',rfl,r1,r2⟩:=ha;cases k with
  | cA t m m'=>simp[PK.eA]at hn
  | cN t m m'=>simp[PK.eA]at hn
  | val t=>obtain⟨e,k⟩:=IN (Fs:=Fs) ks aF vs' (i+1) rt e_ od hn.2 r2 (by simpa only [gw] using hb);exact⟨e,v,vs',rfl,k⟩
  | own t m=>obtain⟨e,k⟩:=IN (Fs:=Fs) ks aF vs' (i+1) rt e_ od hn.2 r2 (by simpa only [gw] using hb);exact⟨e,v,vs',rfl,k⟩
  | bZ t=>obtain⟨e,k⟩:=IN (Fs:=Fs) ks aF vs' (i+1) rt e_ od hn.2 r2 (by simpa only [gw] using hb);exact⟨e,v,vs',rfl,k⟩
  | fn=>obtain⟨e,k⟩:=IN (Fs:=Fs) ks aF vs' (i+1) rt e_ od hn.2 r2 (by simpa only [gw] using hb);exact⟨e,v,vs',rfl,k⟩
theorem AK{h:Array Obj}{S:St}{g:ay}{tmps:Array Value}{H:BS}(st:az h S g tmps H)(sh:Bool):∀b,Seen sh S g b->b<h.size:=by
 intro b hb;unfold Seen at hb;split at hb
 .exact st.bP b hb
 .rcases hb with hb | ⟨r,h1,h2⟩
  .exact st.bP b hb
  .exact st.b6 r b h1 h2
theorem AJ{h:Array Obj}{S:St}{g:ay}{tmps:Array Value}{H:BS}(st:az h S g tmps H)(sh:Bool):cq H (Seen sh S g):=by
 intro b hH hb;unfold Seen at hb;split at hb
 .exact st.bI b hH hb
 .rcases hb with hb | ⟨r,h1,h2⟩
  .exact st.bI b hH hb
  .exact st.hand r h1 b h2 hH
section
variable {P:Program} {C:Ctx} {D:Den C} {S:St} {g:ay} {w:World} {tmps:Array Value}
variable {A:bV} {site:Nat} (dI:n8 P C D) (st:az w.heap S g tmps Nil)
include dI st
theorem aiI{f:FuncId}{aF:List AV}{vs:List Value}{d:Option Nat}(ok:ny A S d site)(ha:lC w.heap S g aF vs){gd:i5 (C.sig f).params}{d5:aO}
  (h1:fV S.rt (C.sig f).params aF=some (gd,d5)) (hn:(C.sig f).params.all (fun k=>!k.eA)=true) {od:cR (C.sig f).params} {e_:aO}
  (h2:gw d5 (C.sig f).params aF=some (od,e_)) {a:eV (C.sig f).params} (h3:iR e_ (C.sig f).params aF gd od=some a)
  (hs:mb (C.sig f).params aF=true\/(C.sig f).full=true) {r:fc (C.sig f).res×cR (C.sig f).params} (hD:D f a=some r) {β:Bool} {v:AV} {rt':aO}
  (he:(lP A d5 d site (C.sig f).res r.1).dec β=some (v,rt')) :
  Calls P f vs.toArray w fun e w'=>∃val,e=.returned val/\Post S g w tmps v rt' val w':=by
 obtain⟨g1,H1,Fs,k1,k2,k3,k4,k5,k6,k7,k8,k9,gO⟩:=BE (sl:=S.sl) (C.sig f).params aF vs S.rt g Nil 0 gd d5 ha st h1;obtain⟨e2,hL⟩:=IN (h:=w.heap) (Pr:=g1.Pr) (Fs:=Fs) (C.sig f).params aF vs 0 d5 e_ od hn ha h2;subst e2;have hps:=yf (S:=⟨S.sl,e_⟩) k1 (sh:=mb (C.sig f).params aF) (Fs:=Fs) (C.sig f).params aF vs 0 gd od a (fun h=>h) (ha.kp k2) k5 hL h3;have pre:Pre w.heap (Seen (mb (C.sig f).params aF) ⟨S.sl,e_⟩ g1) Fs (C.sig f).params a vs:=
  ⟨hps,k8,fun i b hb=>AJ k1 _ b (k7 i b hb),fun i b hb=>k1.d_ b (k7 i b hb),AK k1 _⟩
 refine(dI.ok f a r hD w _ Fs vs pre).mono ?_;rintro e w' ⟨val,fD,Gs,Os,us,rfl,p⟩;obtain⟨g3,H3,q1,q2,q3,q4⟩:=ai2 k1 k7 p (fun h=>by
  rcases hs with h5 | h5
  .rw[h]at h5;simp at h5
  .simp only[rI.full,bC]at h5;exact h5.2)
 obtain⟨g4,s1,s2,s3⟩:=FE q1 q3 p.wk ok (C.sig f).res q2 he;refine⟨val,rfl,g4,s1,by rw[p.val];exact s2,(k3.trans q4).trans s3,p.fr.mono ?_⟩;rintro b hb (h | ⟨i,h⟩)
 .omega
 .have:=k1.eY b (k7 i b h);rw[k3.2.1]at this;exact this
end
end Go.V

import Derived.Laws.StructEq
import Derived.Laws.BytesString
import Derived.Laws.Tables
import Derived.Great.BuildSlice
import Derived.Laws.Append
import Derived.Room.Entries
import Derived.Test.YtpmimbgkiindbaaGreatAV0
set_option linter.unusedVariables false
set_option linter.unusedSimpArgs false
set_option linter.unusedSectionVars false
namespace Go.V
noncomputable section
open Go
structure nO (A:bY) (S:St) (d:Option Nat) (site:Nat):Prop where
 xG:A.xG=true->∀d',d=some d'->∀u,(S.get u).roots.contains d'=false
 pl:A.pl=true->∀d',d=some d'->∀u,(S.get u).gK d'=true
 fr:A.fr=true->site<1048576/\∀u,(S.get u).aR site (site+1)=true
theorem Mk.dP(s:Nat):∀{m:Mk},m.ax=true->(m.stamp s).fresh s (s+1)
 | .no,_=>trivial
 | .gone,_=>trivial
 | .own s0 m,h=>by
  simp only[Mk.ax,bI,oa]at h;simp only[Mk.stamp,ak h.1];exact⟨ct _,Nat.lt_succ_self _⟩
 | .pr a b,h=>by
  simp only[Mk.ax,bI]at h;exact⟨Mk.dP s h.1,Mk.dP s h.2⟩
theorem Mx(t:Ty)(m:Mk)(x:t.den):focus t m x []=some ⟨t,m,x⟩:=by cases t<;>rfl
theorem ET(h:Array Obj)(t:Ty)(c:List Value)(base:fI):cv h t c base []=some (base,c):=by cases t<;>rfl
theorem xW(t:Ty)(x:t.den):bw t x []:=by cases t<;>trivial
theorem ab8{h:Array Obj}{S:St}{g:aA}{r:Nat}{R:aC}(hR:S.root r=some R){c:List Value}{F:BS}(hC:g.C r=c)
  (rep:az h g.Pr R.ty R.ms R.x c F):qe h S g (cX r R.ty R.ms R.x []) (dK R.ty c):=by
 by_cases hu:R.ty=.unit
 .obtain⟨t,m,x,mem⟩:=R;simp only at hu rep⊢;subst hu;simp only[az]at rep;subst rep;simp only[cX,qe,dK,Ty.agg];rfl
 .refine dg.rel rep (EU hR _ _ _ [] (g.base r) c F (Mx _ _ _) (xW _ _) ?_ rep) hu;rw[hC];exact ET _ _ _ _
theorem Cv{h:Array Obj}{S:St}{d8:aP}{g1:aA}{tmps:Array Value}{H:BS}(st:aE h ⟨S.sl,d8⟩ g1 tmps H){t:Ty}{m:Mk}{x:t.den}{c:List Value}{F:BS}
  (rep:az h g1.Pr t m x c F) (tg:aL g1.hd t m c) (hF:Sub F H) {A:bY} {d:Option Nat} {site:Nat} (ok:nO A S d site) {β:Bool} {v:AV} {rt':aP}
  (e:(dR A d8 d site t m x false).dec β=some (v,rt')) :
  ∃g',aE h ⟨S.sl,rt'⟩ g' tmps Nil/\qe h ⟨S.sl,rt'⟩ g' v (dK t c)/\g'.cT g1:=by
 cases d with
 | none=>simp only[dR,Tr.dec,aK,aY]at e;obtain⟨rfl,rfl⟩:=e;exact⟨g1,st.bB (Sub.nil _),by simp only[qe],.refl _⟩
 | some d=>
  simp only[dR,fe,dX]at e;split at e
  .simp[Tr.dec]at e
  .rename_i hn;simp only[jC,kB,n9,FH,oa]at hn;split at e
   .rename_i hs;simp only[Tr.dec,aK,aY]at e;obtain⟨rfl,rfl⟩:=e;exact⟨g1,st.bB (Sub.nil _),by simp only[qe];exact⟨c,az.eM t hs rep,rfl⟩,.refl _⟩
   .split at e
    .rename_i hc;simp only[Tr.dec,aK,aY]at e;obtain⟨rfl,rfl⟩:=e;have oh:=(az.stamp (h:=h) (Pr:=g1.Pr) site t).1 rep;have key:∀u,((⟨S.sl,d8⟩:St).get u).roots.contains d=false\/(∃lo hi,((⟨S.sl,d8⟩:St).get u).aR lo hi=true/\((⟨S.sl,d8⟩:St).get u).gK d=true/\(m.stamp site).fresh lo hi/\(none:Option Nat)=none):=by
      intro u;simp only[jC,bI]at hc;rcases hc with hc | ⟨⟨jN,g_⟩,rO⟩
      .exact .inl (ok.xG hc d rfl u)
      .exact .inr ⟨site,site+1,(ok.fr jN).2 u,ok.pl rO d rfl u,Mk.dP site g_,rfl⟩
     obtain⟨g',s1,s2,s3,s4,s5,s6⟩:=st.kU hn.1 oh (aL.stamp hn.2 t tg) hF none (fun b hb=>by simp at hb) key;refine⟨g',s1.bB (Sub.nil _),?_,s3⟩;have hR:(⟨S.sl,d8.aI d (some ⟨t,m.stamp site,x,false⟩)⟩:St).root d=some ⟨t,m.stamp site,x,false⟩:=by have:=St.b7 (⟨S.sl,d8⟩:St) d (some ⟨t,m.stamp site,x,false⟩) d;rw[ak ⟨rfl,hn.1⟩]at this;exact this
     exact ab8 (R:=⟨t,m.stamp site,x,false⟩) hR s4 (by rw[s2];exact oh)
    .simp[Tr.dec]at e
theorem Fc{h:Array Obj}{S:St}{d8:aP}{g1:aA}{tmps:Array Value}{H:BS}(st:aE h ⟨S.sl,d8⟩ g1 tmps H){t:Ty}{m:Mk}{x:t.den}{c:List Value}{F:BS}
  (rep:az h g1.Pr t m x c F) (tg:aL g1.hd t m c) (hF:Sub F H) {b:Nat} (hb:H b) (rN:¬ F b) (ho:jy h b c.toArray)
  {A:bY} {d:Option Nat} {site:Nat} (ok:nO A S d site) {β:Bool} {v:AV} {rt':aP}
  (e:(dR A d8 d site t m x true).dec β=some (v,rt')) :
  ∃g',aE h ⟨S.sl,rt'⟩ g' tmps Nil/\qe h ⟨S.sl,rt'⟩ g' v (.pointer (some ⟨b,0,none⟩))/\g'.cT g1:=by
 cases d with
 | none=>simp only[dR,Tr.dec,aK,aY]at e;obtain⟨rfl,rfl⟩:=e;exact⟨g1,st.bB (Sub.nil _),by simp only[qe],.refl _⟩
 | some d=>
  simp only[dR,aX]at e;split at e
  .simp[Tr.dec]at e
  .rename_i hn;simp only[jC,kB,n9,FH,oa]at hn;split at e
   .rename_i hc;simp only[Tr.dec,aK,aY]at e;obtain⟨rfl,rfl⟩:=e;have oh:=(az.stamp (h:=h) (Pr:=g1.Pr) site t).1 rep;obtain⟨g',s1,s2,s3,s4,s5,s6⟩:=st.kU hn.1 oh (aL.stamp hn.2 t tg) hF (some b)
     (fun b' hb'=>by simp only[aK]at hb';subst hb';exact⟨hb,rN,ho⟩) (fun u=>.inl (ok.xG hc d rfl u))
    refine⟨g',s1.bB (Sub.nil _),?_,s3⟩;simp only[qe];intro R hR d' hf';have cm:(⟨S.sl,d8.aI d (some ⟨t,m.stamp site,x,true⟩)⟩:St).root d=some ⟨t,m.stamp site,x,true⟩:=by have:=St.b7 (⟨S.sl,d8⟩:St) d (some ⟨t,m.stamp site,x,true⟩) d;rw[ak ⟨rfl,hn.1⟩]at this;exact this
    rw[cm]at hR;simp only[aK]at hR;subst hR;refine⟨xW _ _,b,0,c,?_,rfl⟩;rw[ET];simp only[aA.base,s5,s4,ef]
   .simp[Tr.dec]at e
def Post(S:St)(g:aA)(w:World)(tmps:Array Value)(v:AV)(rt':aP)(val:Value)(w':World):Prop:=
 ∃g',aE w'.heap ⟨S.sl,rt'⟩ g' tmps Nil/\qe w'.heap ⟨S.sl,rt'⟩ g' v val/\g'.cT g/\kK g.L w w'
theorem Post.same{S:St}{g:aA}{w:World}{tmps:Array Value}{v:AV}{val:Value}(st:aE w.heap S g tmps Nil)(x:qe w.heap S g v val):Post S g w tmps v S.rt val w:=
 ⟨g,st,x,.refl g,.refl _ _⟩
end
end Go.V
namespace Go.V
noncomputable section
open Go
def r5(S:St)(g:aA)(w:World)(tmps:Array Value)(T:Tr (AV×aP))(val:Value)(w':World):Prop:=
 ∃β v rt',T.dec β=some (v,rt')/\Post S g w tmps v rt' val w'
def fB(P:Program)(S:St)(g:aA)(w:World)(tmps:Array Value)(T:Tr (AV×aP)):Result Next->Prop
 | .ok (.value val) w'=>r5 S g w tmps T val w'
 | .ok .skip w'=>r5 S g w tmps T undef w'
 | .ok (.enter f args) w'=>Calls P f args w' fun
   | .returned val,w''=>r5 S g w tmps T val w''
   | _,_=>False
 | _=>False
def b6(T:Tr (AV×aP)):Prop:=∀β,∃x,T.dec β=some x
theorem b6.fail:¬ b6 .fail:=fun h=>by obtain⟨x,hx⟩:=h true;simp[Tr.dec]at hx
abbrev Goal(P:Program)(C:Ctx)(D:Den C)(S:St)(g:aA)(w:World)(tmps:Array Value)(a:Act)(ρ:Operand->AV)(A:bY)(site:Nat)(hint:Bool)(o:Oper):Prop:=
 b6 (aW C D A ρ S.rt site hint o)->fB P S g w tmps (aW C D A ρ S.rt site hint o) ((execOp a.eval o).run P w)
section
variable {P:Program} {C:Ctx} {D:Den C} {S:St} {g:aA} {w:World} {tmps:Array Value} {a:Act} {ρ:Operand->AV}
theorem fB.value{T:Tr (AV×aP)}{r:Result Next}{val:Value}{w':World}(hr:r=.ok (.value val) w')(h:r5 S g w tmps T val w'):fB P S g w tmps T r:=by subst hr;exact h
theorem fB.ret{r:Result Next}{val:Value}{v:AV}(hr:r=.ok (.value val) w)(st:aE w.heap S g tmps Nil)(x:qe w.heap S g v val) :
  fB P S g w tmps (.ret (v,S.rt)) r:=
 fB.value hr ⟨true,v,S.rt,rfl,Post.same st x⟩
theorem RA{v:AV}{b:Bool}{val:Value}(h:asBool v=some b)(x:qe w.heap S g v val):val=.bool b:=by
 cases v with
 | val t y=>cases t<;>simp[asBool]at h;subst h;simp only[qe,az]at x;obtain⟨c,rfl,rfl⟩:=x;rfl
 | cH y=>simp[asBool]at h;subst h;simpa only [qe] using x
 | _=>simp[asBool]at h
theorem Cx{k:IntKind}{n:Int}{val:Value}(x:qe w.heap S g (.val (.int k) n) val):val=.int k n:=by simp only[qe,az]at x;obtain⟨c,rfl,rfl⟩:=x;rfl
theorem A6{b:Bool}{val:Value}(x:qe w.heap S g (.val .bool b) val):val=.bool b:=by simp only[qe,az]at x;obtain⟨c,rfl,rfl⟩:=x;rfl
theorem Kc{s:ByteArray}{val:Value}(x:qe w.heap S g (.val .str s) val):val=.string s:=by simp only[qe,az]at x;obtain⟨c,rfl,rfl⟩:=x;rfl
theorem vq(k:IntKind)(n:Int):qe w.heap S g (.val (.int k) n) (.int k n):=by simp only[qe,az];exact⟨_,rfl,rfl⟩
theorem DB(b:Bool):qe w.heap S g (.val .bool b) (.bool b):=by simp only[qe,az];exact⟨_,rfl,rfl⟩
theorem BB(s:ByteArray):qe w.heap S g (.val .str s) (.string s):=by simp only[qe,az];exact⟨_,rfl,rfl⟩
theorem JW{v:AV}{k:IntKind}{n:Int}{val:Value}(h:wz v=some (k,n))(x:qe w.heap S g v val):val=.int k n:=by
 cases v with
 | val t y=>cases t<;>simp[wz]at h;obtain⟨rfl,rfl⟩:=h;exact Cx x
 | _=>simp[wz]at h
variable {A:bY} {site:Nat} {hint:Bool} (bn:iD P C) (st:aE w.heap S g tmps Nil) (hρ:∀x,qe w.heap S g (ρ x) (a.eval x))
include st hρ
theorem akx{o:Oper}{x:Operand}(ho:o.op=.move x):Goal P C D S g w tmps a ρ A site hint o:=by intro _;simp only[aW,ho];exact fB.ret (by simp[execOp,ho]) st (hρ x)
theorem akE{o:Oper}{c x y:Operand}(ho:o.op=.pick c x y):Goal P C D S g w tmps a ρ A site hint o:=by
 intro ht;simp only[aW,ho]at ht⊢;cases hb:V.asBool (ρ c) with
 | none=>rw[hb]at ht;exact absurd ht b6.fail
 | some b=>
  have hv:=RA hb (hρ c);cases b with
  | true=>exact fB.value (val:=a.eval x) (w':=w) (by simp[execOp,ho,hv,Go.asBool]) ⟨true,_,_,rfl,Post.same st (hρ x)⟩
  | false=>exact fB.value (val:=a.eval y) (w':=w) (by simp[execOp,ho,hv,Go.asBool]) ⟨true,_,_,rfl,Post.same st (hρ y)⟩
omit hρ in
theorem Ib{r:Nat}{p:Path}{d:Dy}{v:Value}(hf:S.rt.focus r p=some d)(x:qe w.heap S g (.addr r p) v) :
  ∃R b off c F,S.root r=some R/\focus R.ty R.ms R.x p=some d/\bw R.ty R.x p/\cv w.heap R.ty (g.C r) (g.base r) p=some (some (b,off),c)/\v=.pointer (some ⟨b,off,none⟩)/\
   az w.heap g.Pr d.ty d.ms d.x c F/\yV w.heap (some (b,off)) c F/\g.G r b:=by
 simp only[aP.focus]at hf;split at hf
 .rename_i R hR;simp only[qe]at x;obtain⟨h1,b,off,c,h2,h3⟩:=x R hR d hf;obtain⟨base,c',F,q1,q2,q3,q4,q5,_⟩:=st.update hR hf h1;rw[h2]at q1;simp only[aK,aY]at q1;obtain⟨rfl,rfl⟩:=q1;exact⟨R,b,off,c,F,hR,hf,h1,h2,h3,q2,q4,q5 b off rfl⟩
 .simp at hf
theorem ald{o:Oper}{x:Operand}(ho:o.op=.nilCheck x):Goal P C D S g w tmps a ρ A site hint o:=by
 intro ht;simp only[aW,ho]at ht⊢;have hx:=hρ x;cases hv:ρ x with
 | addr r p=>
  rw[hv]at hx ht;simp only at ht⊢;cases hf:S.rt.focus r p with
  | none=>rw[hf]at ht;exact absurd ht b6.fail
  | some d=>obtain⟨R,b,off,c,F,_,_,_,_,e,_⟩:=Ib st hf hx;exact fB.ret (val:=a.eval x) (by simp[execOp,ho,e]) st hx
 | ck t y=>rw[hv]at hx;have hx':=hx;simp only[qe]at hx';obtain⟨b,off,cs,e,_⟩:=hx';exact fB.ret (val:=a.eval x) (by simp[execOp,ho,e]) st hx
 | gI f c=>rw[hv]at hx;have hx':=hx;simp only[qe]at hx';obtain⟨vs,e,_⟩:=hx';exact fB.ret (val:=a.eval x) (by simp[execOp,ho,e]) st hx
 | _=>rw[hv]at ht;exact absurd ht b6.fail
theorem akd{o:Oper}{op:UnOp}{t:TypeId}{x:Operand}(ho:o.op=.unOp op t x):Goal P C D S g w tmps a ρ A site hint o:=by
 intro ht;simp only[aW,ho]at ht⊢;have hx:=hρ x;cases op with
 | not=>
  split at ht
  .rename_i b _ hv;rw[hv]at hx;exact fB.ret (val:=.bool (!b)) (by simp[execOp,ho,A6 hx,Op.unary]) st (DB _)
  .rename_i _ _ hc _;simp at hc
  .exact absurd ht b6.fail
 | neg=>
  split at ht
  .rename_i _ _ hc _;simp at hc
  .rename_i kd n _ hv;rw[hv]at hx;exact fB.ret (val:=.int kd (kd.wrap (0-n))) (by simp[execOp,ho,Cx hx,Op.unary,Op.intArith]) st (vq _ _)
  .exact absurd ht b6.fail
 | _=>exact absurd ht b6.fail
omit st hρ in
theorem WT:∀(p:Path){t:Ty}{x:t.den}{d:Dy},focus t .no x p=some d->d.ms=.no/\qx p=false
 | [],t,x,d,h=>by rw[Mx]at h;simp only[aK]at h;subst h;exact⟨rfl,rfl⟩
 | .fst::p,t,x,d,h=>by
  cases t with
  | pair a b=>simp only[focus,Mk.fst]at h;exact WT p h
  | _=>simp[focus]at h
 | .snd::p,t,x,d,h=>by
  cases t with
  | pair a b=>simp only[focus,Mk.snd]at h;exact WT p h
  | _=>simp[focus]at h
 | .idx i s::p,t,x,d,h=>by cases t<;>simp[focus]at h
end
end
theorem WU{C:Ctx}:∀(f:Nat){fs:List Field}{off:Nat}{T:Ty}{m:Mk}{x:T.den}{d:Dy},mY C fs off T->focus T m x (ig f)=some d->
  ∃fd,fs[f]? = some fd/\d.ty=C.ty fd.type/\fd.offset=off+eD T (ig f)/\(C.ty fd.type).nz=true/\qx (ig f)=false
 | 0,fs,off,T,m,x,d,hs,hf=>by
  cases fs with
  | nil=>simp only[mY]at hs;subst hs;simp[ig,focus]at hf
  | cons fd fs=>
   simp only[mY]at hs;obtain⟨b,rfl,h1,_,h2,h3⟩:=hs;simp only[ig,focus,aK]at hf;subst hf;refine⟨fd,rfl,rfl,?_,h2,rfl⟩;have:eD (Ty.pair (C.ty fd.type) b) (ig 0)=eD (C.ty fd.type) []:=rfl;rw[this];have:eD (C.ty fd.type) []=0:=by cases C.ty fd.type<;>rfl
   omega
 | f+1,fs,off,T,m,x,d,hs,hf=>by
  cases fs with
  | nil=>simp only[mY]at hs;subst hs;simp[ig,focus]at hf
  | cons fd fs=>simp only[mY]at hs;obtain⟨b,rfl,h1,_,h2,h3⟩:=hs;simp only[ig,focus]at hf;obtain⟨fd',q1,q2,q3,q4,q5⟩:=WU f h3 hf;refine⟨fd',by simpa using q1,q2,?_,q4,by simpa [ig,qx] using q5⟩;have:eD (Ty.pair (C.ty fd.type) b) (ig (f+1))=(C.ty fd.type).width+eD b (ig f):=rfl;omega
theorem Ty.kV{t:Ty}(h:t.nz=true):t≠.unit:=by rintro rfl;simp[Ty.nz]at h
theorem GN{t:Ty}(h:t.nz=true)(ha:t.agg=false):t.width=1:=by cases t<;>simp_all [Ty.nz,Ty.agg,Ty.width]
section
variable {P:Program} {C:Ctx} {D:Den C} {S:St} {g:aA} {w:World} {tmps:Array Value} {a:Act} {ρ:Operand->AV}
variable {A:bY} {site:Nat} {hint:Bool} (bn:iD P C) (st:aE w.heap S g tmps Nil) (hρ:∀x,qe w.heap S g (ρ x) (a.eval x))
theorem Hj{t:TypeId}(k:mF P C t)(hz:(C.ty t).nz=true){b o:Nat}{c:List Value}(hr:w.rangeAt b o c)(hl:c.length=(C.ty t).width) :
  (Instr.loadAt t (.pointer (some ⟨b,o,none⟩))).run P w=.ok (dK (C.ty t) c) w:=by
 simp only[Instr.loadAt,Instr.sureAddr,loadVar,Sem.run_bind,Sem.run_pure,Result.andThen_ok,k.pe];by_cases ha:(C.ty t).agg=true
 .have h1:(loadCells ⟨b,o,none⟩ c.length).run P w=.ok c.toArray w:=run_loadCells_list (P:=P) w ⟨b,o,none⟩ c (fun j v hv=>by rw[Addr.add_mid];exact hr j v hv);rw[hl]at h1;simp only[ha,aX,Sem.run_bind,k.fL,Result.andThen_ok,h1,Sem.run_pure,dK]
 .have vR:(C.ty t).agg=false:=by simpa using ha
  have hw:=GN hz vR;have:∃v,c=[v]:=by
   rw[hw]at hl
   match c,hl with
   | [v],_=>exact⟨v,rfl⟩
  obtain⟨v,rfl⟩:=this;have:=hr 0 v rfl;simp only[qU]at this;simp[vR,Go.load,Go.run_load,this,dK,Sem.run]
include bn st hρ
theorem aku{o:Oper}{t:TypeId}{x:Operand}(ho:o.op=.load t x):Goal P C D S g w tmps a ρ A site hint o:=by
 intro ht;simp only[aW,ho]at ht⊢;have hx:=hρ x;by_cases hz:(C.ty t).nz=true
 .have k:=bn t hz;simp only[hz,aX]at ht⊢;cases hv:ρ x with
  | ck t' y=>
   rw[hv]at hx ht;simp only[vz]at ht⊢;cases hc:qbv t' (C.ty t) y with
   | none=>rw[hc]at ht;exact absurd ht b6.fail
   | some z=>simp only[qe]at hx;obtain⟨b,off,cs,e,hp,hb,hs,rep⟩:=hx;have hw:=az.width t' rep;obtain⟨e1,jU⟩:=az.cast hc rep;subst e1;have hrun:=Hj (w:=w) k hz (Du hb hs) hw;refine fB.ret (v:=.val (C.ty t) z) (val:=dK (C.ty t) (sub cs off (C.ty t).width)) ?_ st (by simp only[qe];exact⟨_,jU,rfl⟩);simp[execOp,ho,e,hrun]
  | addr r p=>
   rw[hv]at hx ht;simp only[vz]at ht⊢;cases hf:S.rt.focus r p with
   | none=>rw[hf]at ht;exact absurd ht b6.fail
   | some d=>
    rw[hf]at ht;simp only at ht⊢;by_cases hd:d.ty=C.ty t
    .simp only[hd,aX]at ht⊢;obtain⟨R,b,off,c,F,hR,zA,hin,eu,e,rep,zx,_⟩:=Ib st hf hx;obtain⟨_,cs,Ap,hs,hsub⟩:=zx b off rfl;have hw:=az.width d.ty rep;have ng:w.rangeAt b off c:=by have:=Du (w:=w) Ap.CL hs;rw[hsub]at this;exact this
     have hrun:=Hj (w:=w) k hz ng (by rw[hw,hd]);obtain⟨dt,dm,dx⟩:=d;simp only at hd;subst hd;refine fB.ret (val:=dK (C.ty t) c) ?_ st ?_
     .simp[execOp,ho,e,hrun]
     .exact dg.rel rep (EU hR _ _ _ p (some (b,off)) c F zA hin eu rep) (Ty.kV hz)
    .rw[af hd]at ht;exact absurd ht b6.fail
  | _=>rw[hv]at ht;exact absurd ht b6.fail
 .rw[af hz]at ht;exact absurd ht b6.fail
end
theorem b6.of{x:Option (AV×aP)}(h:b6 (.of x)):∃y,x=some y:=by
 cases x with
 | none=>exact absurd h b6.fail
 | some y=>exact⟨y,rfl⟩
theorem iD.desc{P:Program}{C:Ctx}(h:iD P C){t:TypeId}{e:Ty}(ht:C.ty t=.sl e):∃u,P.underlying t=some (.slice u)/\C.ty u=e/\(C.ty u).nz=true:=by
 have k:=h t (by rw[ht];rfl);obtain⟨d,h1,h2⟩:=k.desc;rw[ht]at h2;cases d<;>simp only[oP]at h2<;>try (simp at h2)
 case slice u=>exact⟨u,h1,h2.1.symm,h2.2⟩
 case struct fs=>cases hl:fs.toList<;>rw[hl]at h2<;>simp[mY]at h2
theorem iD.str{P:Program}{C:Ctx}(h:iD P C){t:TypeId}(ht:C.ty t=.str):P.underlying t=some .string:=by
 have k:=h t (by rw[ht];rfl);obtain⟨d,h1,h2⟩:=k.desc;rw[ht]at h2;cases d<;>simp only[oP]at h2<;>try (simp at h2)
 case string=>exact h1
 case struct fs=>cases hl:fs.toList<;>rw[hl]at h2<;>simp[mY]at h2
theorem iD.bool{P:Program}{C:Ctx}(h:iD P C){t:TypeId}(ht:C.ty t=.bool):P.underlying t=some .bool:=by
 have k:=h t (by rw[ht];rfl);obtain⟨d,h1,h2⟩:=k.desc;rw[ht]at h2;cases d<;>simp only[oP]at h2<;>try (simp at h2)
 case bool=>exact h1
 case struct fs=>cases hl:fs.toList<;>rw[hl]at h2<;>simp[mY]at h2
theorem iD.int{P:Program}{C:Ctx}(h:iD P C){t:TypeId}{k:IntKind}(ht:C.ty t=.int k):P.underlying t=some (.int k):=by
 have kk:=h t (by rw[ht];rfl);obtain⟨d,h1,h2⟩:=kk.desc;rw[ht]at h2;cases d<;>simp only[oP]at h2<;>try (simp at h2)
 case int=>subst h2;exact h1
 case struct fs=>cases hl:fs.toList<;>rw[hl]at h2<;>simp[mY]at h2
theorem iD.pair{P:Program}{C:Ctx}(h:iD P C){t:TypeId}{a b:Ty}(ht:C.ty t=.pair a b):∃fs,P.underlying t=some (.struct fs)/\mY C fs.toList 0 (.pair a b):=by
 have kk:=h t (by rw[ht];rfl);obtain⟨d,h1,h2⟩:=kk.desc;rw[ht]at h2;cases d<;>simp only[oP]at h2<;>try (simp at h2)
 case struct fs=>exact⟨fs,h1,h2⟩
section
variable {P:Program} {C:Ctx} {D:Den C} {S:St} {g:aA} {w:World} {tmps:Array Value} {a:Act} {ρ:Operand->AV}
variable {A:bY} {site:Nat} {hint:Bool} (bn:iD P C) (st:aE w.heap S g tmps Nil) (hρ:∀x,qe w.heap S g (ρ x) (a.eval x))
include bn st hρ
theorem aju{o:Oper}{s:TypeId}{x:Operand}{f:Nat}(ho:o.op=.fieldAddr s x f):Goal P C D S g w tmps a ρ A site hint o:=by
 intro ht;simp only[aW,ho]at ht⊢;have hx:=hρ x;obtain⟨y,hy⟩:=b6.of ht;rw[hy];simp only[fo]at hy;obtain⟨v,hv,rfl⟩:=hy;have hsome:∀(T:Ty),C.ty s=T->∀(m:Mk)(z:T.den)(d:Dy),focus T m z (ig f)=some d->∃fs fd,P.underlying s=some (.struct fs)/\fs[f]? = some fd/\d.ty=C.ty fd.type/\
   fd.offset=eD T (ig f)/\(C.ty fd.type).nz=true/\qx (ig f)=false:=by
  intro T hT m z d hf;cases T with
  | pair a b=>obtain⟨fs,h1,h2⟩:=bn.pair hT;obtain⟨fd,q1,q2,q3,q4,q5⟩:=WU f h2 hf;exact⟨fs,fd,h1,by simpa using q1,q2,by omega,q4,q5⟩
  | _=>cases f<;>simp[ig,focus]at hf
 have hrun:∀(fs:Array Field)(fd:Field)(b off:Nat),P.underlying s=some (.struct fs)->fs[f]? = some fd->(C.ty fd.type).nz=true->
   (Instr.fieldAt s (.pointer (some ⟨b,off,none⟩)) f).run P w=.ok (.pointer (some ⟨b,off+fd.offset,none⟩)) w:=by
  intro fs fd b off h1 h2 h3;have k:=bn fd.type h3;have hp:=k.pos;have hne:(C.ty fd.type).width≠0:=by omega
  simp only[Instr.fieldAt,Instr.sureAddr,fieldPlace,Sem.run_bind,run_underlying h1,Result.andThen_ok,h2,Sem.run_pure,k.fL,af hne,Addr.add_mid]
 cases hρx:ρ x with
 | addr r p=>
  rw[hρx]at hx hv;simp only[Cg]at hv;split at hv
  .rename_i d hf;split at hv
   .rename_i hc;simp only[aK]at hv;subst hv;obtain⟨d',hf'⟩:=ym.1 hc.2;obtain⟨R,b,off,c,F,hR,zA,hin,eu,e,rep,zx,_⟩:=Ib st hf hx;obtain⟨fs,fd,h1,h2,h3,h4,h5,h6⟩:=hsome d.ty hc.1.symm _ _ _ hf';refine fB.ret (val:=.pointer (some ⟨b,off+fd.offset,none⟩)) (by simp[execOp,ho,e,hrun fs fd b off h1 h2 h5]) st ?_;simp only[qe];intro R' cm d2 uj;rw[hR]at cm;simp only[aK]at cm;subst cm;have Lx:bw d.ty d.x (ig f):=zR _ _ h6 (vp _ hf');obtain⟨base',c',F2,Fr,z⟩:=zip (ig f) _ _ _ c F (some (b,off)) d' rep hf' Lx zx;refine⟨(yQ p _ zA).2 ⟨hin,Lx⟩,b,off+fd.offset,c',?_,rfl⟩;rw[vn p _ zA eu,z.at_];obtain⟨q1,_,_⟩:=z.plain h6;rw[q1,h4];rfl
   .simp at hv
  .simp at hv
 | ck t y=>
  rw[hρx]at hx hv;simp only[Cg]at hv;split at hv
  .rename_i hT;cases hf:focus t .no y (ig f) with
   | none=>rw[hf]at hv;simp at hv
   | some d=>
    rw[hf]at hv;simp only[dF,aK]at hv;subst hv;simp only[qe]at hx;obtain⟨b,off,cs,e,hp,hb,hs,rep⟩:=hx;obtain⟨fs,fd,h1,h2,h3,h4,h5,h6⟩:=hsome t hT.symm _ _ _ hf;obtain⟨hm,_⟩:=WT _ hf;obtain⟨base',c',F2,Fr,z⟩:=zip (ig f) _ _ _ _ Nil none d rep hf (zR _ _ h6 (vp _ hf)) (fun b o e=>by simp at e);obtain⟨q1,q2,q3⟩:=z.plain h6;have hl:=az.width t rep;refine fB.ret (val:=.pointer (some ⟨b,off+fd.offset,none⟩)) (by simp[execOp,ho,e,hrun fs fd b off h1 h2 h5]) st ?_;simp only[qe];refine⟨b,off+fd.offset,cs,rfl,hp,hb,by rw[h4];omega,?_⟩;have r2:=z.rep;rw[hm]at r2;have r3:=az.eM (F':=Nil) d.ty rfl r2;have e3:c'=sub cs (off+fd.offset) d.ty.width:=by rw[q2,h4];simp only[sub,xQ,qT,uW];congr 1;omega
    rw[<-e3];exact r3
  .simp at hv
 | _=>rw[hρx]at hv;simp[Cg]at hv
theorem ajF{o:Oper}{t:TypeId}{x i:Operand}(ho:o.op=.indexAddr t x i):Goal P C D S g w tmps a ρ A site hint o:=by
 intro ht;simp only[aW,ho]at ht⊢;have hx:=hρ x;have hi:=hρ i;simp only[yc]at ht⊢;cases hn:wz (ρ i) with
 | none=>rw[hn]at ht;exact absurd ht b6.fail
 | some kn=>
  obtain⟨k,n⟩:=kn;rw[hn]at ht;have ei:=JW hn hi;simp only at ht⊢;have hrun:∀(u:TypeId)(b off len cap:Nat),P.underlying t=some (.slice u)->(C.ty u).nz=true->0<=n->n<(len:Int)->a.eval x=.slice (some ⟨b,off,none⟩) len cap->
    (execOp a.eval o).run P w=.ok (.value (.pointer (some ⟨b,off+n.toNat * (C.ty u).width,none⟩))) w:=by
   intro u b off len cap h1 h2 h3 h4 h5;simp[execOp,ho,ei,h5,Instr.indexAt,asIntOf,run_underlying h1,(bn u h2).fL,h3,h4,Addr.add_mid,Sem.run_bind]
  cases hv:ρ x with
  | val t' xs=>
   cases t' with
   | sl e=>
    rw[hv]at hx ht;simp only at ht⊢;by_cases hT:C.ty t=.sl e
    .simp only[hT,aX]at ht⊢;obtain⟨u,h1,h2,h3⟩:=bn.desc hT;obtain⟨⟨v,rt'⟩,hd⟩:=ht true;simp only[Tr.dec]at hd;by_cases hc:0<=n/\n<(xs.length:Int)
     .simp only[qe,az]at hx;obtain⟨c,⟨ad,cap,rfl,hl,hr⟩,e0⟩:=hx;have hne:xs≠[]:=by rintro rfl;simp at hc;omega
      obtain⟨b,off,cs,rfl,hp,hb,hs,re⟩:=hr hne;refine fB.value (hrun u b off _ cap h1 h3 hc.1 hc.2 (by rw[e0];rfl)) ⟨true,.ck e (xs.getD n.toNat e.zero),S.rt,by simp[Tr.dec,hc.1,hc.2],Post.same st ?_⟩;simp only[qe];have hlt:n.toNat<xs.length:=by omega
      refine⟨b,off+n.toNat * (C.ty u).width,cs,rfl,hp,hb,?_,?_⟩
      .rw[h2];have:n.toNat * e.width+e.width<=xs.length * e.width:=by have:=fq e.width (show n.toNat+1<=xs.length by omega);rw[mg]at this;exact this
       omega
      .rw[h2];exact re n.toNat hlt
     .have:(decide (0<=n)&&decide (n<(xs.length:Int)))=false:=by simp only[oq,nJ];omega
      rw[this]at hd;simp[Tr.dec]at hd
    .rw[af hT]at ht;exact absurd ht b6.fail
   | _=>rw[hv]at ht;exact absurd ht b6.fail
  | b8 r p s=>
   rw[hv]at hx ht;simp only at ht⊢;cases hf:S.rt.focus r p with
   | none=>rw[hf]at ht;exact absurd ht b6.fail
   | some d=>
    obtain⟨dt,dm,dx⟩:=d;cases dt with
    | sl e=>
     cases dm with
     | own s' m=>
      rw[hf]at ht;simp only at ht⊢;by_cases hT:s=s'/\C.ty t=.sl e
      .simp only[ak hT]at ht⊢;obtain⟨rfl,hT⟩:=hT;obtain⟨u,h1,h2,h3⟩:=bn.desc hT;obtain⟨⟨v,rt'⟩,hd⟩:=ht true;simp only[Tr.dec]at hd;by_cases hc:0<=n/\n<((dx:List e.den).length:Int)
       .simp only[qe]at hx;obtain⟨R,base,F,hR,zA,hin,eu,rep,hF⟩:=MD st hf rfl hx;simp only[az]at rep;obtain⟨ad,cap,e0,hl,hr⟩:=rep;simp only[eZ,iQ]at e0;rcases hr with hr | ⟨b,cs,rfl,fb,hb,hs,Fs,pZ,Ag,re⟩
        .omega
        .refine fB.value (hrun u b 0 _ cap h1 h3 hc.1 hc.2 e0) ⟨true,.addr r (p++[.idx n.toNat s]),S.rt,by simp[Tr.dec,hc.1,hc.2],Post.same st ?_⟩;have hlt:n.toNat<(dx:List e.den).length:=by omega
         simp only[qe];intro R' cm d2 uj;rw[hR]at cm;simp only[aK]at cm;subst cm;refine⟨(yQ p _ zA).2 ⟨hin,?_⟩,b,0+n.toNat * (C.ty u).width,?_⟩
         .simp only[bw];exact⟨hlt,trivial⟩
         .refine⟨sub cs (n.toNat * e.width) e.width,?_,rfl⟩;rw[vn p _ zA eu];obtain⟨ty,lo,hi',he,_⟩:=hb;simp only[e0,cv,he,ET,h2,kC]
       .have:(decide (0<=n)&&decide (n<((dx:List e.den).length:Int)))=false:=by simp only[oq,nJ];omega
        rw[this]at hd;simp[Tr.dec]at hd
      .rw[af hT]at ht;exact absurd ht b6.fail
     | _=>rw[hf]at ht;exact absurd ht b6.fail
    | _=>rw[hf]at ht;exact absurd ht b6.fail
  | _=>rw[hv]at ht;exact absurd ht b6.fail
end
theorem az.len{h:Array Obj}{Pr:BS}{t:Ty}{m:Mk}{xs:(Ty.sl t).den}{c:List Value}{F:BS}(hm:m≠.gone)(r:az h Pr (.sl t) m xs c F):∃a cap,c=[.slice a xs.length cap]/\(xs.length≠0->a.isSome):=by
 cases m with
 | gone=>exact absurd rfl hm
 | no=>simp only[az]at r;obtain⟨a,cap,rfl,_,h2⟩:=r;refine⟨a,cap,rfl,fun hl=>?_⟩;obtain⟨b,o,cs,e,_⟩:=h2 (by rintro rfl;simp at hl);rw[e];rfl
 | pr _ _=>simp only[az]at r;obtain⟨a,cap,rfl,_,h2⟩:=r;refine⟨a,cap,rfl,fun hl=>?_⟩;obtain⟨b,o,cs,e,_⟩:=h2 (by rintro rfl;simp at hl);rw[e];rfl
 | own s mi=>
  simp only[az]at r;obtain⟨a,cap,rfl,h1,h2⟩:=r;refine⟨a,cap,rfl,fun hl=>?_⟩;rcases h2 with h2 | ⟨b,cs,e,_⟩
  .omega
  .rw[e];rfl
section
variable {P:Program} {C:Ctx} {D:Den C} {S:St} {g:aA} {w:World} {tmps:Array Value} {a:Act} {ρ:Operand->AV}
variable {A:bY} {site:Nat} {hint:Bool} (bn:iD P C) (st:aE w.heap S g tmps Nil) (hρ:∀x,qe w.heap S g (ρ x) (a.eval x))
include st in
theorem HN{v:AV}{n:Int}{val:Value}(h:yY S.rt v=some n)(x:qe w.heap S g v val):∃ad len cap,val=.slice ad len cap/\n=(len:Int)/\(len≠0->ad.isSome):=by
 cases v with
 | val t xs=>
  cases t with
  | sl e=>simp only[yY,aK]at h;simp only[qe]at x;obtain⟨c,r,rfl⟩:=x;obtain⟨ad,cap,rfl,hs⟩:=az.len (by simp) r;exact⟨ad,_,cap,rfl,h.symm,hs⟩
  | _=>simp[yY]at h
 | fl=>simp only[yY,aK]at h;simp only[qe]at x;exact⟨none,0,0,x,by rw[<-h];rfl,by simp⟩
 | b8 r p s=>
  simp only[yY]at h;split at h
  .rename_i e s' m xs hf;split at h
   .rename_i hs;simp only[aK]at h;simp only[qe]at x;obtain⟨R,base,F,_,_,_,_,rep,_⟩:=MD st hf hs x;obtain⟨ad,cap,e0,lU⟩:=az.len (by simp) rep;simp only[eZ,iQ]at e0;exact⟨ad,_,cap,e0,h.symm,lU⟩
   .simp at h
  .simp at h
 | _=>simp[yY]at h
include bn st hρ
theorem ala{o:Oper}{c:Call}(ho:o.op=.call c)(hc:c.callee=.builtin .len):Goal P C D S g w tmps a ρ A site hint o:=by
 intro ht;simp only[aW,ho,hc]at ht⊢;split at ht<;>try (rename_i hb _ _;simp at hb;done)
 .rename_i s _ _ hargs kg;have:∃x,c.args.toList=[x]/\ρ x=.val .str s:=by
   match jO:c.args.toList with
   | []=>rw[jO]at hargs;simp at hargs
   | [x]=>rw[jO]at hargs;simp only[cA,f4,eZ,iQ]at hargs;exact⟨x,rfl,hargs⟩
   | _::_::_=>rw[jO]at hargs;simp at hargs
  obtain⟨x,hx1,Yq⟩:=this;obtain⟨t,l,JK,Yh⟩:∃t l,c.argTypes.toList=t::l/\C.ty t=.str:=by
   match jO:c.argTypes.toList with
   | []=>rw[jO]at kg;simp at kg
   | t::l=>rw[jO]at kg;simp only[cA,eZ]at kg;exact⟨t,l,rfl,kg.1⟩
  have hv:=hρ x;rw[Yq]at hv;have e1:c.args = #[x]:=by rw[<-pG (xs:=c.args),hx1]
  have e2:c.argTypes[0]? = some t:=by rw[<-yo,JK];rfl
  refine fB.ret (val:=.int .i64 (s.size:Nat)) ?_ st (vq _ _);simp[execOp,ho,resolve,hc,invoke,builtin,Builtin.len_,e1,e2,Kc hv,run_underlying (bn.str Yh),goInt,Sem.run_bind]
 .rename_i x0 e _ _ hargs kg;have:∃x,c.args.toList=[x]/\ρ x=x0:=by
   match jO:c.args.toList with
   | []=>rw[jO]at hargs;simp at hargs
   | [x]=>rw[jO]at hargs;simp only[cA,f4,eZ,iQ]at hargs;exact⟨x,rfl,hargs⟩
   | _::_::_=>rw[jO]at hargs;simp at hargs
  obtain⟨x,hx1,Yq⟩:=this;obtain⟨t,l,JK,Yh⟩:∃t l,c.argTypes.toList=t::l/\C.ty t=.sl e:=by
   match jO:c.argTypes.toList with
   | []=>rw[jO]at kg;simp at kg
   | t::l=>rw[jO]at kg;simp only[cA,eZ]at kg;exact⟨t,l,rfl,kg.1⟩
  have hv:=hρ x;rw[Yq]at hv;obtain⟨y,hy⟩:=b6.of ht;rw[hy];simp only[fo]at hy;obtain⟨n,hn,rfl⟩:=hy;obtain⟨ad,len,cap,ev,en,_⟩:=HN st hn hv;obtain⟨u,h1,_,_⟩:=bn.desc Yh;have e1:c.args = #[x]:=by rw[<-pG (xs:=c.args),hx1]
  have e2:c.argTypes[0]? = some t:=by rw[<-yo,JK];rfl
  subst en;refine fB.ret (val:=.int .i64 (len:Nat)) ?_ st (vq _ _);simp[execOp,ho,resolve,hc,invoke,builtin,Builtin.len_,e1,e2,ev,run_underlying h1,goInt,Sem.run_bind]
 all_goals (first | exact absurd ht b6.fail | (exfalso;contradiction) | trace_state)
end
section
variable {P:Program} {C:Ctx} {D:Den C} {S:St} {g:aA} {w:World} {tmps:Array Value} {a:Act} {ρ:Operand->AV}
variable {A:bY} {site:Nat} {hint:Bool} (bn:iD P C) (st:aE w.heap S g tmps Nil) (hρ:∀x,qe w.heap S g (ρ x) (a.eval x))
include bn st hρ
theorem acS{o:Oper}{s:TypeId}{x:Operand}{f:Nat}(ho:o.op=.field s x f):Goal P C D S g w tmps a ρ A site hint o:=by
 intro ht;simp only[aW,ho]at ht⊢;have hx:=hρ x;cases hv:ρ x with
 | val t y=>
  rw[hv]at hx ht;simp only at ht⊢;by_cases hT:t=C.ty s
  .subst hT;simp only[aX]at ht⊢;cases hf:focus (C.ty s) .no y (ig f) with
   | none=>rw[hf]at ht;exact absurd ht b6.fail
   | some d=>
    obtain⟨ta,tb,Xl⟩:∃ta tb,C.ty s=.pair ta tb:=by
     cases hs:C.ty s with
     | pair ta tb=>exact⟨ta,tb,rfl⟩
     | _=>exfalso;revert y;rw[hs];intro y _ _ _ hf;cases f<;>simp[ig,focus]at hf
    obtain⟨fs,h1,h2⟩:=bn.pair Xl;rw[<-Xl]at h2;obtain⟨fd,q1,q2,q3,q4,q5⟩:=WU f h2 hf;simp only[qe]at hx;obtain⟨c,rep,e⟩:=hx;have hm:=(WT _ hf).1;obtain⟨base',c',F2,Fr,z⟩:=zip (ig f) _ _ _ _ Nil none d rep hf (zR _ _ q5 (vp _ hf)) (fun b o e=>by simp at e);obtain⟨_,e2,e3⟩:=z.plain q5;have r2:=z.rep;rw[hm]at r2;have r3:=az.eM (F':=Nil) d.ty rfl r2;have k:=bn fd.type q4;have q1':fs[f]? = some fd:=by simpa using q1
    have Xo:(C.ty s).agg=true:=by rw[Xl];rfl
    have hoff:fd.offset=eD (C.ty s) (ig f):=by omega
    have hrun:(part fd.type c.toArray fd.offset).run P w=.ok (dK d.ty c') w:=by
     rw[e2];simp only[part,Sem.run_bind,k.pe,Result.andThen_ok];rw[<-q2];by_cases ha:d.ty.agg=true
     .have hsz:=k.fL w;rw[<-q2]at hsz;simp only[ha,aX,Sem.run_bind,hsz,Result.andThen_ok,Sem.run_pure,dK];congr 2;apply y_;simp only[Array.toList_extract,Tf];rw[hoff];congr 2;omega
     .have vR:d.ty.agg=false:=by simpa using ha
      have hw:=GN (by rw[q2];exact q4) vR;rw[hw]at e3⊢;have hlt:eD (C.ty s) (ig f)<c.length:=by omega
      have:(c.drop (eD (C.ty s) (ig f))).take 1=[c[eD (C.ty s) (ig f)]]:=by rw[N0 hlt];rfl
      simp[vR,hoff,dK,this,gz hlt]
    refine fB.ret (v:=.val d.ty d.x) (val:=dK d.ty c') ?_ st (by simp only[qe];exact⟨c',r3,rfl⟩);have:dK (C.ty s) c=.agg c.toArray:=by simp[dK,Xo]
    simp[execOp,ho,e,this,Instr.field,run_underlying h1,q1',asAgg,hrun,Sem.run_bind]
  .rw[af hT]at ht;exact absurd ht b6.fail
 | _=>rw[hv]at ht;exact absurd ht b6.fail
theorem acW{o:Oper}{t:TypeId}{x i:Operand}(ho:o.op=.index t x i):Goal P C D S g w tmps a ρ A site hint o:=by
 intro ht;simp only[aW,ho]at ht⊢;have hx:=hρ x;have hi:=hρ i;split at ht
 .rename_i s k n hT hv hn;rw[hv]at hx;have ei:=JW hn hi;have ex:=Kc hx;obtain⟨⟨v,rt'⟩,hd⟩:=ht true;simp only[Tr.dec]at hd;by_cases hc:0<=n/\n<(s.size:Int)
  .have hlt:n.toNat<s.size:=by omega
   have e1:s[n.toNat]? = some (s.data.getD n.toNat 0):=by
    have:s[n.toNat]? = some s[n.toNat]:=by simp[hlt]
    rw[this];congr 1;have h2:n.toNat<s.data.size:=hlt;show s[n.toNat]=s.data.getD n.toNat 0;rw[pE,vL h2];rfl
   refine fB.value (val:=.int .u8 ((s.data.getD n.toNat 0).toNat:Int)) (w':=w) ?_ ⟨true,_,S.rt,by simp[Tr.dec,hc.1,hc.2],Post.same st (vq _ _)⟩;simp[execOp,ho,ei,ex,Instr.index,asIntOf,run_underlying (bn.str hT),hc.1,e1,Sem.run_bind]
  .have:(decide (0<=n)&&decide (n<(s.size:Int)))=false:=by simp only[oq,nJ];omega
   rw[this]at hd;simp[Tr.dec]at hd
 .exact absurd ht b6.fail
theorem ajt:∀{i:Nat}{v y:AV}{val:Value},Mw v i=some y->qe w.heap S g v val->∃vs u,val=.tuple vs/\vs[i]? = some u/\qe w.heap S g y u:=by
 intro i
 induction i with
 | zero=>
  intro v y val h x;unfold Mw at h;split at h
  .simp only[aK]at h;subst h;simp only[qe,aO]at x;obtain⟨vs,rfl,u,vs',rfl,h1,h2⟩:=x;exact⟨_,u,rfl,by simp,h1⟩
  .rename_i h0;simp at h0
  .simp at h
 | succ i ih=>
  intro v y val h x;unfold Mw at h;split at h
  .rename_i h0;simp at h0
  .rename_i a b n he;simp only[Nat.succ.injEq]at he;subst he;simp only[qe,aO]at x;obtain⟨vs,rfl,u,vs',rfl,h1,h2⟩:=x;obtain⟨vs2,u2,e1,e2,e3⟩:=ih h (val:=.tuple vs'.toArray) (by simp only[qe];exact⟨vs',rfl,h2⟩);simp only[Value.tuple.injEq]at e1;subst e1;exact⟨_,u2,rfl,by simpa using e2,e3⟩
  .simp at h
theorem abd{o:Oper}{x:Operand}{i:Nat}(ho:o.op=.extract x i):Goal P C D S g w tmps a ρ A site hint o:=by intro ht;simp only[aW,ho]at ht⊢;obtain⟨y,hy⟩:=b6.of ht;rw[hy];simp only[fo]at hy;obtain⟨v,hv,rfl⟩:=hy;obtain⟨vs,u,e1,e2,e3⟩:=ajt bn st hρ hv (hρ x);exact fB.ret (val:=u) (by simp[execOp,ho,e1,Instr.extract,e2]) st e3
theorem aaL{o:Oper}{f:Fn}{first caps:Array Operand}(ho:o.op=.makeFunc f first caps):Goal P C D S g w tmps a ρ A site hint o:=by
 intro ht;simp only[aW,ho]at ht⊢;cases f with
 | func f=>
  simp only at ht⊢;by_cases he:first.isEmpty=true
  .simp only[he,aX]at ht⊢;have e0:first = #[]:=by simpa using he
   refine fB.ret (val:=.func (.func f) #[] (caps.map a.eval)) (by simp only[execOp,ho,Instr.makeFunc,e0,Array.map_empty,Sem.run_bind,Sem.run_pure,Result.andThen_ok]) st ?_;simp only[qe];refine⟨(caps.map a.eval).toList,by rw[pG],?_⟩;rw[Array.toList_map];generalize caps.toList=l
   induction l with
   | nil=>simp only[List.foldr_nil,f4,aO]
   | cons x l ih=>simp only[FV,cA,aO];exact⟨_,_,rfl,hρ x,ih⟩
  .rw[af he]at ht;exact absurd ht b6.fail
 | _=>exact absurd ht b6.fail
end
end Go.V
namespace Go.V
noncomputable section
open Go
section
variable {P:Program} {C:Ctx} {D:Den C} {S:St} {g:aA} {w:World} {tmps:Array Value} {a:Act} {ρ:Operand->AV}
variable {A:bY} {site:Nat} {hint:Bool} (bn:iD P C) (st:aE w.heap S g tmps Nil) (hρ:∀x,qe w.heap S g (ρ x) (a.eval x))
include bn in
theorem On:∀(n d:Nat)(t:TypeId)(T:Ty),C.ty t=T->T.deep<=n->n<d->T.comp=true->T.nz=true->
  ∀{h:Array Obj}{Pr:BS}{x y:T.den}{cx cy:List Value}{F F':BS},az h Pr T .no x cx F->az h Pr T .no y cy F'->
  (Op.equalIn d t (dK T cx) (dK T cy)).run P w=.ok (pP T x y) w
 | 0,d,t,T,hT,hn,_,_,_,_,_,_,_,_,_,_,_,_,_=>by cases T<;>simp[Ty.deep]at hn
 | n+1,d,t,T,hT,hn,hd,hc,hz,h,Pr,x,y,cx,cy,F,F',rx,ry=>by
  obtain⟨d,rfl⟩:∃d',d=d'+1:=⟨d-1,by omega⟩
  cases T with
  | unit=>simp[Ty.nz]at hz
  | sl _=>simp[Ty.comp]at hc
  | int k=>simp only[az]at rx ry;subst rx;subst ry;exact run_equalIn_int w d t k k x y (bn.int hT)
  | bool=>simp only[az]at rx ry;subst rx;subst ry;exact run_equalIn_bool' w d t x y (bn.bool hT)
  | str=>simp only[az]at rx ry;subst rx;subst ry;exact run_equalIn_string w d t x y (bn.str hT)
  | pair ta tb=>
   obtain⟨fs,h1,h2⟩:=bn.pair hT;have k:=bn t (by rw[hT];rfl);obtain⟨hp,_⟩:=k.eq (by rw[hT];rfl) (by rw[hT];exact hc);have hfs:P.fieldsOf t=fs:=by simp[Program.fieldsOf,h1]
   have e1:dK (Ty.pair ta tb) cx=.agg cx.toArray:=rfl;have e2:dK (Ty.pair ta tb) cy=.agg cy.toArray:=rfl;rw[e1,e2,run_equalIn_struct w d t _ _ (by rw[hfs];exact h1) hp,hfs]
   -- zf fields,one behind zf other
   have key:∀(l:List Field)(off:Nat)(U:Ty),mY C l off U->U.comp=true->U.deep<=n+1->∀(px py:List Value){x y:U.den}{cx cy:List Value}{F F':BS},px.length=off->py.length=off->
     az h Pr U .no x cx F->az h Pr U .no y cy F'->(Op.eqFields d (px++cx).toArray (py++cy).toArray l).run P w=.ok (pP U x y) w:=by
    intro l
    induction l with
    | nil=>intro off U hs hc hdp px py x y cx cy F F' hpx X7 rx ry;simp only[mY]at hs;subst hs;simp[Op.eqFields,pP]
    | cons fd l ih=>
     intro off U hs hc hdp px py x y cx cy F F' hpx X7 rx ry;simp only[mY]at hs;obtain⟨b,rfl,q1,q2,q3,q4⟩:=hs;simp only[Ty.comp,bI]at hc;simp only[Ty.deep]at hdp;simp only[az]at rx ry;obtain⟨ca,cb,Fa,Fb,rfl,ra,rb,_⟩:=rx;obtain⟨ca',cb',Fa',Fb',rfl,ra',rb',_⟩:=ry;have kf:=bn fd.type q3;have hwa:=az.width _ ra;have Ma:=az.width _ ra';have hpart:∀(px ca cb:List Value),px.length=off->ca.length=(C.ty fd.type).width->(part fd.type (px++(ca++cb)).toArray fd.offset).run P w=.ok (dK (C.ty fd.type) ca) w:=by
      intro px ca cb hpx hca;simp only[part,Sem.run_bind,kf.pe,Result.andThen_ok];by_cases ha:(C.ty fd.type).agg=true
      .simp only[ha,aX,Sem.run_bind,kf.fL,Result.andThen_ok,Sem.run_pure,dK];congr 2;apply y_;simp only[Array.toList_extract,Tf];rw[q1,<-hpx,List.drop_left,<-hca];have:px.length+ca.length-px.length=ca.length:=by omega
       rw[this,List.take_left]
      .have vR:(C.ty fd.type).agg=false:=by simpa using ha
       have hw:=GN q3 vR;rw[hw]at hca
       match ca,hca with
       | [v],_=>simp[vR,dK,q1,<-hpx]
     have hne:fd.name≠ "_" := q2;simp only[Op.eqFields,hne,ne_eq,not_false_eq_true,aX,Sem.run_bind,hpart px ca cb hpx hwa,hpart py ca' cb' X7 Ma,Result.andThen_ok];have ih0:=On n d fd.type _ rfl (by omega) (by omega) hc.1 q3 ra ra';rw[ih0];simp only[Result.andThen_ok,pP];cases hq:pP (C.ty fd.type) x.1 y.1 with
     | false=>simp
     | true=>simp only[cK,fe,dX,zK];have:=ih (off+(C.ty fd.type).width) b q4 hc.2 (by omega) (px++ca) (py++ca') (by simp[hpx,hwa]) (by simp[X7,Ma]) rb rb';simpa [eG] using this
   have:=key fs.toList 0 _ h2 hc hn [] [] rfl rfl rx ry;simpa using this
def Ca(S:aP):Tr AV->Tr (AV×aP)
 | .ret v=>.ret (v,S)
 | .br c (.ret v) .fail=>.br c (.ret (v,S)) .fail
 | .br c .fail (.ret v)=>.br c .fail (.ret (v,S))
 | _=>.fail
theorem RR{S:aP}{T:Tr AV}{β:Bool}{v:AV}{rt:aP}(h:(Ca S T).dec β=some (v,rt)):T.dec β=some v/\rt=S:=by
 unfold Ca at h;split at h
 .simp only[Tr.dec,aK,aY]at h;simp[Tr.dec,h.1,h.2]
 .rename_i c v';cases c<;>simp only[Tr.dec,aK,aY]at h
  .simp at h
  .simp[Tr.dec,h.1,h.2]
 .rename_i c v';cases c<;>simp only[Tr.dec,aK,aY]at h
  .simp[Tr.dec,h.1,h.2]
  .simp at h
 .simp[Tr.dec]at h
theorem Ms{op:BinOp}{t:TypeId}{x y:Operand}{va vb:Value}(h:(∃xs ys,va=.agg xs/\vb=.agg ys/\P.eqGuardType P.depth t=false)\/(va≠.nilIface/\∀xs,va≠.agg xs)) :
  (eqGuard op t x y va vb).run P w=.ok () w:=by
 unfold eqGuard;rcases h with⟨xs,ys,rfl,rfl,h⟩ | ⟨h1,h2⟩
 .cases op<;>simp[Sem.run_bind,h]
 .cases op<;>cases va<;>simp_all [Sem.run_bind]<;>cases vb<;>simp[Sem.run_bind]
include bn in
theorem ajX{op:BinOp}{t:TypeId}{x y:Operand}{v1 v2:AV}{va vb:Value}{v:AV}(h:(kL (C.ty t) op v1 v2).dec true=some v)
    (ha:qe w.heap S g v1 va) (hb:qe w.heap S g v2 vb) :
    ∃val,(do eqGuard op t x y va vb;binOp op t va vb:Sem Value).run P w=.ok val w/\qe w.heap S g v val:=by
  cases v1 with
  | val t1 x1=>
    cases v2 with
    | val t2 x2=>
      cases t1 with
      | int ka=>
        cases t2 with
        | int kb=>
          obtain rfl:=Cx ha;obtain rfl:=Cx hb;have hg:(eqGuard op t x y (.int ka x1) (.int kb x2)).run P w=.ok () w:=Ms (.inr ⟨by simp,by simp⟩);simp only[Sem.run_bind,hg,Result.andThen_ok];cases op<;>simp only[kL]at h
          case shl=>
            by_cases hc:x2<0
            . simp[hc,Tr.dec]at h
            . simp[hc,Tr.dec]at h
              subst h;exact⟨_,by simp[binOp,Op.shift,hc],vq _ _⟩
          case shr=>
            by_cases hc:x2<0
            . simp[hc,Tr.dec]at h
            . simp[hc,Tr.dec]at h
              subst h;exact⟨_,by simp[binOp,Op.shift,hc],vq _ _⟩
          case andNot=>simp[Tr.dec]at h
          all_goals
            by_cases hk:ka=kb
            . subst hk
              simp only[aX]at h
              first
              | (simp only[Tr.dec,aK]at h;subst h
                 first
                 | exact⟨_,by simp[binOp,Op.intArith,Op.intBits,Op.intCmp],vq _ _⟩
                 | exact⟨_,by simp[binOp,Op.intArith,Op.intBits,Op.intCmp];rfl,DB _⟩
                 | exact⟨_,by simp[binOp,Op.intArith,Op.intBits,Op.intCmp],DB _⟩)
              | (by_cases hc:x2=0
                 . simp[hc,Tr.dec]at h
                 . simp[hc,Tr.dec]at h
                   subst h;exact⟨_,by simp[binOp,Op.intDiv,hc],vq _ _⟩)
            . simp[hk,Tr.dec]at h
        | _=>simp[kL,Tr.dec]at h
      | str=>
        cases t2 with
        | str=>
          obtain rfl:=Kc ha;obtain rfl:=Kc hb;have hg:(eqGuard op t x y (.string x1) (.string x2)).run P w=.ok () w:=Ms (.inr ⟨by simp,by simp⟩);simp only[Sem.run_bind,hg,Result.andThen_ok];cases op<;>simp only[kL]at h
          case add=>
            by_cases hc:x1.size+x2.size<=2 ^ 47
            . simp only[hc,o6,Tr.dec,aK]at h
              subst h;refine⟨_,?_,BB _⟩;have:¬ (((x1.size+x2.size:Nat):Int)>IntKind.i64.max):=by
                have:IntKind.i64.max=9223372036854775807:=by decide
                rw[this];omega
              simp only[binOp,Op.stringOp,this,dX];rfl
            . simp only[hc,decide_false,Tr.dec]at h
              simp at h
          all_goals first
            | (simp only[Tr.dec,aK]at h;subst h;exact⟨_,by simp[binOp,Op.stringOp],DB _⟩)
            | simp[Tr.dec]at h
        | _=>simp[kL,Tr.dec]at h
      | bool=>
        cases t2 with
        | bool=>
          obtain rfl:=A6 ha;obtain rfl:=A6 hb;have hg:(eqGuard op t x y (.bool x1) (.bool x2)).run P w=.ok () w:=Ms (.inr ⟨by simp,by simp⟩);simp only[Sem.run_bind,hg,Result.andThen_ok];simp only[kL]at h;by_cases hT:C.ty t=.bool
          . simp only[hT,aX]at h
            have hu:=bn.bool hT;cases op<;>first
              | (simp only[Tr.dec,aK]at h;subst h;exact⟨_,by simp[binOp,Op.equal,Op.maxDepth,run_equalIn_bool' w 9999 t x1 x2 hu,Sem.run_bind],DB _⟩)
              | simp[Tr.dec]at h
          . simp[hT,Tr.dec]at h
        | _=>simp[kL,Tr.dec]at h
      | pair ta tb=>
        have h':(FK (C.ty t) op (.pair ta tb) x1 t2 x2).dec true=some v:=by cases t2<;>simpa only [kL] using h
        unfold FK at h';by_cases hT:(Ty.pair ta tb).comp=true/\C.ty t=Ty.pair ta tb
        . rw[ak hT]at h'
          have kk:=bn t (by rw[hT.2];rfl);obtain⟨hp,hq⟩:=kk.eq (by rw[hT.2];rfl) (by rw[hT.2];exact hT.1);cases hc:qbv t2 (Ty.pair ta tb) x2 with
          | none=>rw[hc]at h';cases op<;>simp[Tr.dec]at h'
          | some z=>
            rw[hc]at h';simp only[qe]at ha hb;obtain⟨c1,r1,rfl⟩:=ha;obtain⟨c2,r2,rfl⟩:=hb;obtain⟨rfl,DI⟩:=az.cast hc r2;have Lt:(Ty.pair ta tb).deep<10000:=by rw[<-hT.2];exact kk.deep
            . have he:=On (w:=w) bn _ 10000 t _ hT.2 (ct _) Lt hT.1 rfl r1 DI
              have e1:dK (Ty.pair ta tb) c1=.agg c1.toArray:=rfl;have e2:dK (Ty.pair ta tb) c2=.agg c2.toArray:=rfl;rw[e1,e2]at he⊢;have hg:(eqGuard op t x y (.agg c1.toArray) (.agg c2.toArray)).run P w=.ok () w:=Ms (.inl ⟨_,_,rfl,rfl,hq⟩);simp only[Sem.run_bind,hg,Result.andThen_ok];cases op<;>first
                | (simp only[Tr.dec,aK]at h';subst h';exact⟨_,by simp only[binOp,Op.equal,Op.maxDepth,Sem.run_bind,he,Result.andThen_ok,Sem.run_pure],DB _⟩)
                | simp[Tr.dec]at h'
        . rw[af hT]at h';simp[Tr.dec]at h'
      | _=>simp[kL,Tr.dec]at h
    | _=>cases t1<;>simp[kL,Tr.dec]at h
  | _=>simp[kL,Tr.dec]at h
end
end
section
variable {P:Program} {C:Ctx} {D:Den C} {S:St} {g:aA} {w:World} {tmps:Array Value} {a:Act} {ρ:Operand->AV}
variable {A:bY} {site:Nat} {hint:Bool} (bn:iD P C) (st:aE w.heap S g tmps Nil) (hρ:∀x,qe w.heap S g (ρ x) (a.eval x))
include bn st hρ
theorem acd{o:Oper}{op:BinOp}{t t2:TypeId}{x y:Operand}(ho:o.op=.binOp op t x y t2):Goal P C D S g w tmps a ρ A site hint o:=by
 intro ht;have hx:=hρ x;have hy:=hρ y;have XH:ρ y≠.fl->aW C D A ρ S.rt site hint o=Ca S.rt (kL (C.ty t) op (ρ x) (ρ y)):=by
  intro hn;simp only[aW,ho];cases hv:ρ y with
  | fl=>exact absurd hv hn
  | _=>rfl
 by_cases hn:ρ y=.fl
 .simp only[aW,ho,hn]at ht⊢;rw[hn]at hy;simp only[qe]at hy;have hrun:∀(u:TypeId)(ad:Option Addr)(len cap:Nat),P.underlying t=some (.slice u)->a.eval x=.slice ad len cap->
    (Op.equal t (.slice ad len cap) (.slice none 0 0)).run P w=.ok ad.isNone w:=by
   intro u ad len cap h1 h2;have e0:Op.equal t (.slice ad len cap) (.slice none 0 0)=Op.equalIn (9999+1) t (.slice ad len cap) (.slice none 0 0):=rfl;rw[e0];unfold Op.equalIn;cases ad<;>simp only[Sem.run_bind,run_underlying h1,Result.andThen_ok,Sem.run_pure,Option.isNone_none,Option.isNone_some]
  have hg:∀ad len cap,(eqGuard op t x y (.slice ad len cap) (.slice none 0 0)).run P w=.ok () w:=fun ad len cap=>Ms (.inr ⟨by simp,by simp⟩);split at ht
  .rename_i e n hT hl;obtain⟨ad,len,cap,ev,en,hs⟩:=HN st hl hx;obtain⟨u,h1,_,_⟩:=bn.desc hT;subst en;refine fB.value (val:=.bool ad.isNone) (w':=w) ?_ ⟨ad.isNone,.val .bool ad.isNone,S.rt,?_,Post.same st (DB _)⟩
   .have:=hg ad len cap;simp[execOp,ho,ev,hy,this,binOp,hrun u ad len cap h1 ev,Sem.run_bind]
   .simp only[Tr.dec,d5];by_cases h0:len=0
    .simp[h0]
    .have:=hs h0;have h3:ad.isNone=false:=by simpa using this
     simp[h0,h3]
  .rename_i e n hT hl;obtain⟨ad,len,cap,ev,en,hs⟩:=HN st hl hx;obtain⟨u,h1,_,_⟩:=bn.desc hT;subst en;refine fB.value (val:=.bool (!ad.isNone)) (w':=w) ?_ ⟨!ad.isNone,.val .bool (!ad.isNone),S.rt,?_,Post.same st (DB _)⟩
   .have:=hg ad len cap;simp[execOp,ho,ev,hy,this,binOp,hrun u ad len cap h1 ev,Sem.run_bind]
   .simp only[Tr.dec,d5];by_cases h0:len=0
    .simp[h0]
    .have:=hs h0;have h3:ad.isNone=false:=by simpa using this
     simp[h0,h3]
  .exact absurd ht b6.fail
 .rw[XH hn]at ht⊢;obtain⟨⟨v,rt'⟩,hd⟩:=ht true;obtain⟨h1,rfl⟩:=RR hd;obtain⟨val,h2,h3⟩:=ajX bn (x:=x) (y:=y) h1 hx hy;refine fB.value (val:=val) (w':=w) ?_ ⟨true,v,S.rt,hd,Post.same st h3⟩;have:execOp a.eval o=(do pure (.value (<- (do eqGuard op t x y (a.eval x) (a.eval y);binOp op t (a.eval x) (a.eval y))))):=by simp[execOp,ho]
  rw[this];rw[Sem.run_bind,h2];rfl
theorem Iv:∀(ns:List Int)(s:ByteArray),ns.foldl (fun r n=>r.push (UInt8.ofNat n.toNat)) s=⟨s.data++(ns.map fun n=>UInt8.ofNat n.toNat).toArray⟩
 | [],s=>by simp
 | n::ns,s=>by
  simp only[nM];rw[Iv ns];simp[ByteArray.push]
theorem aaV{o:Oper}{src dst:TypeId}{x:Operand}(ho:o.op=.convert src dst x):Goal P C D S g w tmps a ρ A site hint o:=by
 intro ht;simp only[aW,ho]at ht⊢;have hx:=hρ x;split at ht
 .rename_i k1 kd k2 n h1 h2 hv;rw[hv]at hx;exact fB.ret (val:=.int kd (kd.wrap n)) (by simp[execOp,ho,convert,run_underlying (bn.int h1),run_underlying (bn.int h2),Cx hx,Conv.intToInt,Sem.run_bind]) st (vq _ _)
 .rename_i s h1 h2 hv;rw[hv]at hx;exact fB.ret (val:=.string s) (by simp[execOp,ho,convert,run_underlying (bn.str h1),run_underlying (bn.str h2),Kc hx,Sem.run_bind]) st (BB _)
 .rename_i _ h1 h2;cases hr:rd S.rt (.sl (.int .u8)) (ρ x) with
  | none=>rw[hr]at ht;exact absurd ht b6.fail
  | some xs=>
   obtain⟨c,ev,rep⟩:=qN st _ hr hx;simp only[az]at rep;obtain⟨ad,cap,rfl,hl,re⟩:=rep;have ev':a.eval x=.slice ad xs.length cap:=by rw[ev];rfl
   obtain⟨u,q1,q2,_⟩:=bn.desc h1;have hu:=bn.int q2;simp only;refine fB.ret (val:=.string ⟨(xs.map fun n=>UInt8.ofNat n.toNat).toArray⟩) ?_ st (BB _);have Lq:(Conv.bytesToString (.slice ad xs.length cap)).run P w=.ok (.string ⟨(xs.map fun n=>UInt8.ofNat n.toNat).toArray⟩) w:=by
    by_cases hne:xs=[]
    .subst hne;cases ad with
     | none=>simp[Conv.bytesToString];rfl
     | some ad=>have:=run_bytesToString (P:=P) w ad 0 cap [] (by simp[loadCells,loadCellsFrom]);simpa [Iv bn st hρ] using this
    .obtain⟨b,off,cs,rfl,hp,hb,hs,re⟩:=re hne;have fW:sub cs off xs.length=xs.map (Value.int .u8):=by
      apply rL;intro i;by_cases hi:i<xs.length
      .have:=re i hi;have mH:(Ty.int .u8).width=1:=rfl;simp only[mH,Nat.mul_one]at this hs;have e1:(sub cs (off+i) 1)[0]? = some (Value.int .u8 xs[i]):=by
        rw[this];have:xs.getD i (Ty.zero (.int .u8))=xs[i]:=by simp[List.getD,hi]
        rw[this];rfl
       simp only[sub,gm,iF]at e1⊢;simp only[hi,aX,FJ,gz hi,ef];simpa using e1
      .rw[pF (by simp[sub];omega),pF (by simp;omega)]
     have mH:(Ty.int .u8).width=1:=rfl;simp only[mH,Nat.mul_one]at hs;have ng:=Du (w:=w) hb hs;have iK:=run_loadCells_list (P:=P) w ⟨b,off,none⟩ (sub cs off xs.length) (fun j v hv=>by rw[Addr.add_mid];exact ng j v hv);rw[GG hs,fW]at iK;have:=run_bytesToString (P:=P) w ⟨b,off,none⟩ xs.length cap xs iK;rw[this,Iv bn st hρ];simp
   have:=run_convert_bytes_string (P:=P) w src dst u ad xs.length cap q1 hu (bn.str h2);simp[execOp,ho,ev',this,Lq,Sem.run_bind]
 .exact absurd ht b6.fail
end
section
variable {P:Program} {C:Ctx} {D:Den C} {S:St} {g:aA} {w:World} {tmps:Array Value} {a:Act} {ρ:Operand->AV}
variable {A:bY} {site:Nat} {hint:Bool} (bn:iD P C) (st:aE w.heap S g tmps Nil) (hρ:∀x,qe w.heap S g (ρ x) (a.eval x))
theorem R_{v:Value}{k:IntKind}{n:Int}{y:Nat}{code:BoundsCode}(hv:v=.int k n)(h0:0<=n)(h1:n<=(y:Int)) :
  (Instr.sliceBound v y code).run P w=.ok n.toNat w:=by
 subst hv;simp[Instr.sliceBound,asIntOf,h0,h1,Sem.run_bind]
include hρ in
theorem AR{lo hi:Option Operand}{len cap:Nat}{l h:Int}{JO:Bool}(hl:J6 (lo.map ρ)=some l)(hh:ER (len:Int) (hi.map ρ)=some h)(h0:0<=l)(h1:l<=h)(h2:h<=(len:Int))(h3:len<=cap) :
  (Instr.sliceBounds JO len cap (lo.map a.eval) (hi.map a.eval) none).run P w=.ok (l.toNat,h.toNat,cap) w:=by
 have ehi:∀(code:BoundsCode),hi=none/\h=(len:Int)\/∃v,hi=some v/\(Instr.sliceBound (a.eval v) cap code).run P w=.ok h.toNat w:=by
  intro code;cases hi with
  | none=>simp only[FW,ER,aK]at hh;exact .inl ⟨rfl,hh.symm⟩
  | some v=>simp only[ef,ER,fo]at hh;obtain⟨⟨k,n⟩,hn,e⟩:=hh;simp only at e;subst e;exact .inr ⟨v,rfl,R_ (JW hn (hρ v)) (by omega) (by omega)⟩
 have elo:lo=none/\l=0\/∃v,lo=some v/\(Instr.sliceBound (a.eval v) h.toNat .sliceB).run P w=.ok l.toNat w:=by
  cases lo with
  | none=>simp only[FW,J6,aK]at hl;exact .inl ⟨rfl,hl.symm⟩
  | some v=>simp only[ef,J6,fo]at hl;obtain⟨⟨k,n⟩,hn,e⟩:=hl;simp only at e;subst e;exact .inr ⟨v,rfl,R_ (JW hn (hρ v)) h0 (by omega)⟩
 unfold Instr.sliceBounds;rcases ehi (if JO then .sliceAcap else .sliceAlen) with⟨rfl,rfl⟩ | ⟨vh,rfl,eh⟩<;>rcases elo with⟨rfl,rfl⟩ | ⟨vl,rfl,el⟩
 .simp[Sem.run_bind]
 .simp only[d5]at el;simp[Sem.run_bind,el]
 .simp[Sem.run_bind,eh]
 .simp[Sem.run_bind,eh,el]
include bn st hρ
theorem ado{o:Oper}{t:TypeId}{x lop:Operand}{hi:Option Operand}(ho:o.op=.slice t x (some lop) hi none){r:Nat}{p:Path}{s:Nat}{e:Ty}(hv:ρ x=.b8 r p s)(hT:C.ty t=.sl e)
  (ht:b6 (uY S.rt e r p s (ρ lop) (hi.map ρ))):fB P S g w tmps (uY S.rt e r p s (ρ lop) (hi.map ρ)) ((execOp a.eval o).run P w):=by
 have hx:=hρ x;rw[hv]at hx;unfold uY at ht⊢;cases hl:wz (ρ lop) with
 | none=>rw[hl]at ht;exact absurd ht b6.fail
 | some kl=>
  cases hhi:hi.map ρ with
  | some _=>rw[hl,hhi]at ht;exact absurd ht b6.fail
  | none=>
   rw[hl,hhi]at ht;simp only at ht⊢;cases hf:S.rt.focus r p with
   | none=>rw[hf]at ht;exact absurd ht b6.fail
   | some d=>
    obtain⟨dt,dm,dx⟩:=d;cases dt with
    | sl e'=>
     cases dm with
     | own s' m=>
      rw[hf]at ht;simp only at ht⊢;by_cases hs:s=s'/\e=e'
      .simp only[ak hs]at ht⊢;obtain⟨rfl,rfl⟩:=hs;obtain⟨⟨v,rt'⟩,hd⟩:=ht true;simp only[Tr.dec]at hd;by_cases hc:0<=kl.2/\kl.2<=((dx:List e.den).length:Int)
       .obtain⟨u,h1,h2,h3⟩:=bn.desc hT;simp only[qe]at hx;obtain⟨R,base,F,hR,zA,hin,eu,rep,hF⟩:=MD st hf rfl hx;simp only[az]at rep;obtain⟨ad,cap,e0,hlc,hr⟩:=rep;simp only[eZ,iQ]at e0;have hb:=AR (P:=P) (JO:=true) hρ (lo:=some lop) (hi:=hi) (l:=kl.2) (h:=((dx:List e.den).length:Int)) (len:=(dx:List e.den).length) (cap:=cap) (by simp[J6,hl]) (by rw[hhi];rfl) hc.1 hc.2 (fh _) hlc;rw[ef,d5]at hb;have ku:=bn u h3;refine fB.value (val:=.slice (if cap=kl.2.toNat then ad else ad.map (·.add (kl.2.toNat * (C.ty u).width))) ((dx:List e.den).length-kl.2.toNat) (cap-kl.2.toNat)) (w':=w) ?_
         ⟨true,.view r p s kl.2.toNat (dx:List e.den).length,S.rt,by simp[Tr.dec,hc.1,hc.2],Post.same st ?_⟩
        .simp[execOp,ho,e0,Instr.sliceAt,Instr.slice,run_underlying h1,Sem.run_bind,hb,ku.fL]
        .simp only[qe];intro R' cm t2 m2 xs2 uj;rw[hR]at cm;simp only[aK]at cm;subst cm;rw[zA]at uj;simp only[aK,Dy.mk.injEq,Ty.sl.injEq]at uj;obtain⟨rfl,_⟩:=uj;refine⟨hin,base,ad,(dx:List e.den).length,cap,by rw[eu,e0],by omega,ct _,by rw[h2]⟩
       .have:(decide (0<=kl.2)&&decide (kl.2<=((dx:List e.den).length:Int)))=false:=by simp only[oq,nJ];omega
        rw[this]at hd;simp[Tr.dec]at hd
      .rw[af hs]at ht;exact absurd ht b6.fail
     | _=>rw[hf]at ht;exact absurd ht b6.fail
    | _=>rw[hf]at ht;exact absurd ht b6.fail
theorem adg{o:Oper}{t:TypeId}{x:Operand}{lo hi:Option Operand}(ho:o.op=.slice t x lo hi none)(ok:nO A S o.dst site):Goal P C D S g w tmps a ρ A site hint o:=by
 intro ht;simp only[aW,ho]at ht⊢;have hx:=hρ x;unfold uR at ht⊢;split at ht
 . -- a string
  rename_i s hv hT;rw[hv]at hx;have ex:=Kc hx;split at ht
  .rename_i l h hl hh;obtain⟨⟨v,rt'⟩,hd⟩:=ht true;by_cases hc:0<=l/\l<=h/\h<=(s.size:Int)
   .have hb:=AR (P:=P) (JO:=false) hρ (cap:=s.size) hl hh hc.1 hc.2.1 hc.2.2 (ct _);refine fB.value (val:=.string (s.extract l.toNat h.toNat)) (w':=w) ?_ ⟨true,.val .str (s.extract l.toNat h.toNat),S.rt,?_,Post.same st (BB _)⟩
    .simp[execOp,ho,ex,Instr.sliceAt,Instr.slice,run_underlying (bn.str hT),Sem.run_bind,hb]
    .simp[Tr.dec,hc.1,hc.2.1,hc.2.2]
   .have:(decide (0<=l)&&decide (l<=h)&&decide (h<=(s.size:Int)))=false:=by simp only[oq,nJ];omega
    rw[this]at hd;simp[Tr.dec]at hd
  .exact absurd ht b6.fail
 . -- a shared row
  rename_i e xs e' hv hT;rw[hv]at hx;split at ht
  .rename_i l h hl hh;by_cases hee:e=e'
   .subst hee;simp only[aX]at ht⊢;obtain⟨⟨v,rt'⟩,hd⟩:=ht true;by_cases hc:0<=l/\l<=h/\h<=(xs.length:Int)
    .obtain⟨u,h1,h2,h3⟩:=bn.desc hT;simp only[qe,az]at hx;obtain⟨c,⟨ad,cap,rfl,hlc,re⟩,ev⟩:=hx;have ev':a.eval x=.slice ad xs.length cap:=ev;have hb:=AR (P:=P) (JO:=true) hρ (cap:=cap) hl hh hc.1 hc.2.1 hc.2.2 hlc;have ku:=bn u h3;refine fB.value (val:=.slice (if cap=l.toNat then ad else ad.map (·.add (l.toNat * (C.ty u).width))) (h.toNat-l.toNat) (cap-l.toNat)) (w':=w) ?_
      ⟨true,.val (.sl e) ((xs.take h.toNat).drop l.toNat),S.rt,?_,Post.same st ?_⟩
     .simp[execOp,ho,ev',Instr.sliceAt,Instr.slice,run_underlying h1,Sem.run_bind,hb,ku.fL]
     .simp[Tr.dec,hc.1,hc.2.1,hc.2.2]
     .simp only[qe,az];have hlen:((xs.take h.toNat).drop l.toNat).length=h.toNat-l.toNat:=by rw[yt,eH];omega
      refine⟨_,⟨_,cap-l.toNat,rfl,by omega,?_⟩,by rw[hlen];rfl⟩;intro hne;have hpos:0<h.toNat-l.toNat:=by rw[<-hlen];exact pH.2 hne
      obtain⟨b,off,cs,rfl,hp,r_,hs,re⟩:=re (by rintro rfl;simp at hc;omega);have jO:¬ cap=l.toNat:=by omega
      refine⟨b,off+l.toNat * e.width,cs,by rw[af jO,h2];simp[Addr.add_mid],hp,r_,?_,fun i hi=>?_⟩
      .rw[hlen];have:l.toNat * e.width+(h.toNat-l.toNat) * e.width<=xs.length * e.width:=by rw[<-jE];exact fq _ (by omega)
       omega
      .rw[hlen]at hi;have:=re (l.toNat+i) (by omega);have e1:((xs.take h.toNat).drop l.toNat).getD i e.zero=xs.getD (l.toNat+i) e.zero:=by simp only[List.getD,iF,gm];rw[ak (by omega)]
       rw[e1];have e2:off+l.toNat * e.width+i * e.width=off+(l.toNat+i) * e.width:=by rw[jE];omega
       rw[e2];exact this
    .have:(decide (0<=l)&&decide (l<=h)&&decide (h<=(xs.length:Int)))=false:=by simp only[oq,nJ];omega
     rw[this]at hd;simp[Tr.dec]at hd
   .rw[af hee]at ht;exact absurd ht b6.fail
  .exact absurd ht b6.fail
 . -- an own row,from its begin
  rename_i r p s e hv hT;rw[hv]at hx;cases hlo:lo.map ρ with
  | some v=>
   rw[hlo]at ht;simp only at ht⊢;cases lo with
   | none=>simp at hlo
   | some lop=>simp only[ef,aK]at hlo;subst hlo;exact ado bn st hρ ho hv hT ht
  | none=>
   rw[hlo]at ht;simp only at ht⊢;cases sn:tk S.rt (.sl e) (.b8 r p s) with
   | none=>rw[sn]at ht;exact absurd ht b6.fail
   | some z=>
    obtain⟨m,xs,d8⟩:=z;rw[sn]at ht;cases m with
    | own s1 m=>
     simp only at ht⊢;cases hh:ER (xs.length:Int) (hi.map ρ) with
     | none=>rw[hh]at ht;exact absurd ht b6.fail
     | some h=>
      rw[hh]at ht;simp only at ht⊢;by_cases oH:m.ax=true
      .simp only[oH,aX]at ht⊢;obtain⟨⟨v,rt'⟩,hd⟩:=ht true;by_cases hc:0<=h/\h<=(xs.length:Int)
       .have hd':(dR A d8 o.dst site (.sl e) (.own 0 m) (xs.take h.toNat) false).dec true=some (v,rt'):=by simpa only [hc.1,hc.2,o6,Bool.and_true,Tr.dec] using hd
        obtain⟨u,h1,h2,h3⟩:=bn.desc hT;have ku:=bn u h3;obtain⟨c,g1,F,ev,cJ⟩:=yZ _ st sn hx;have rep:=cJ.rep;simp only[az]at rep;obtain⟨ad,cap,rfl,hlc,re⟩:=rep;have ev':a.eval x=.slice ad xs.length cap:=ev;have hb:=AR (P:=P) (lo:=none) (JO:=true) hρ (cap:=cap) (l:=0) rfl hh (by omega) hc.1 hc.2 hlc;have XM:lo=none:=by
         cases lo with
         | none=>rfl
         | some v=>simp at hlo
        subst XM;have hlen:(xs.take h.toNat).length=h.toNat:=by rw[eH];omega
        have jU:az w.heap g1.Pr (.sl e) (.own 0 m) (xs.take h.toNat) [.slice ad h.toNat cap] F:=by
         simp only[az];refine⟨ad,cap,by rw[hlen],by rw[hlen];omega,?_⟩;rcases re with re | ⟨b,cs,rfl,fb,hbk,hs,Fs,pZ,lH,re⟩
         .exact .inl re
         .refine .inr ⟨b,cs,rfl,fb,hbk,hs,Fs,pZ,lH,fun i hi=>?_⟩;rw[hlen]at hi;have:=re i (by omega);have e1:(xs.take h.toNat).getD i e.zero=xs.getD i e.zero:=by simp only[List.getD,gm];rw[ak hi]
          rw[e1];exact this
        obtain⟨g2,s1',s2,s3⟩:=Cv (st:=cJ.st) jU (aL.ax _ (by simp[Mk.ax,oH,oa])) (fun b hb=>.inr hb) ok hd';have ead:(if cap=0 then ad else ad.map (·.add (0 * (C.ty u).width)))=ad:=by
         split
         .rfl
         .cases ad<;>simp[Addr.add]
        refine fB.value (val:=.slice ad h.toNat cap) (w':=w) ?_ ⟨true,v,rt',hd,g2,s1',s2,cJ.same.trans s3,.refl _ _⟩;simp only[FW]at hb;simp[execOp,ho,ev',Instr.sliceAt,Instr.slice,run_underlying h1,Sem.run_bind,hb,ku.fL];intro _;cases ad<;>simp[Addr.add]
       .have:(decide (0<=h)&&decide (h<=(xs.length:Int)))=false:=by simp only[oq,nJ];omega
        rw[this]at hd;simp[Tr.dec]at hd
      .rw[af oH]at ht;exact absurd ht b6.fail
    | _=>exact absurd ht b6.fail
 .exact absurd ht b6.fail
end
theorem VI{h:Array Obj}{S:St}{g:aA}{tmps:Array Value}{H:BS}(st:aE h S g tmps H){t:Ty}{m:Mk}{x:t.den}{c:List Value}{F:BS}
  (rep:az h g.Pr t m x c F) (hF:Sub F H) (hm:m.whole=true) :
  ∃g',aE h S g' tmps (fun b=>H b/\¬ F b)/\az h g'.Pr t .no x c Nil/\g'.cT g/\Sub g.Pr g'.Pr:=
 ⟨_,st.cR F hF,az.share t hm rep,⟨rfl,rfl,rfl⟩,fun b hb=>.inl hb⟩
theorem aE.jF{h:Array Obj}{S:St}{g:aA}{tmps:Array Value}{H:BS}(st:aE h S g tmps H)(cs:Array Value)(e:TypeId) :
  aE (h.push (.cells cs e)) S g tmps (fun b=>H b\/b=h.size):=
 st.grow (fun b hb=>zV b hb) (by simp) _ (fun b hb=>by rcases hb with hb | rfl;exact .inl hb;exact .inr ⟨ct _,by simp⟩)
theorem az.push{h:Array Obj}{S:St}{g:aA}{tmps:Array Value}{H:BS}(st:aE h S g tmps H){t:Ty}{m:Mk}{x:t.den}{c:List Value}{F:BS}(rep:az h g.Pr t m x c F)(hF:Sub F H)
  {o:Obj}:az (h.push o) g.Pr t m x c F:=
 az.mono (Sub.refl _) (fun b hb=>zV b (st.bR b hb)) t rep (Sub.refl _) (fun b hb=>zV b (st.ew b (hF b hb)))
section
variable {P:Program} {C:Ctx} {D:Den C} {S:St} {g:aA} {w:World} {tmps:Array Value} {a:Act} {ρ:Operand->AV}
variable {A:bY} {site:Nat} {hint:Bool} (bn:iD P C) (st:aE w.heap S g tmps Nil) (hρ:∀x,qe w.heap S g (ρ x) (a.eval x))
include bn st hρ
theorem Sd{o:Oper}{x:Operand}{u:AV}(hu:ρ x=u)(ok:nO A S o.dst site){r:Result Next}(hr:r=.ok (.value (a.eval x)) w)
  (ht:b6 (Fm A S.rt o.dst site hint u)):fB P S g w tmps (Fm A S.rt o.dst site hint u) r:=by
 have hx:=hρ x;rw[hu]at hx;unfold Fm at ht⊢;cases h1:BR S.rt u with
 | none=>rw[h1]at ht;exact absurd ht b6.fail
 | some t=>
  rw[h1]at ht;simp only at ht⊢;cases h2:tk S.rt t u with
  | none=>rw[h2]at ht;exact absurd ht b6.fail
  | some z=>
   obtain⟨m,y,d8⟩:=z;rw[h2]at ht;simp only at ht⊢;obtain⟨c,g1,F,ev,cJ⟩:=yZ _ st h2 hx;by_cases hh:hint=true
   .simp only[hh,aX]at ht⊢;by_cases hm:m.whole=true
    .simp only[hm,aX]at ht⊢;obtain⟨g2,s1,s2,s3,_⟩:=VI cJ.st cJ.rep (fun b hb=>.inr hb) hm;exact fB.value (val:=a.eval x) (w':=w) hr ⟨true,_,_,rfl,g2,s1.bB (Sub.nil _),by simp only[qe];exact⟨c,s2,ev⟩,cJ.same.trans s3,.refl _ _⟩
    .rw[af hm]at ht;exact absurd ht b6.fail
   .rw[af hh]at ht⊢;obtain⟨⟨v,rt'⟩,hd⟩:=ht true;obtain⟨g2,s1,s2,s3⟩:=Cv cJ.st cJ.rep (by rw[cJ.same.1];exact cJ.tag) (fun b hb=>.inr hb) ok hd;exact fB.value (val:=a.eval x) (w':=w) hr ⟨true,v,rt',hd,g2,s1,by rw[ev];exact s2,cJ.same.trans s3,.refl _ _⟩
theorem abA{o:Oper}{x:Operand}(ho:o.op=.assign x)(ok:nO A S o.dst site):Goal P C D S g w tmps a ρ A site hint o:=by
 intro ht;simp only[aW,ho]at ht⊢;have hr:(execOp a.eval o).run P w=.ok (.value (a.eval x)) w:=by simp[execOp,ho]
 split at ht
 .rename_i r p s hv;by_cases hc:(qx p&&!hint)=true
  .simp only[hc,aX]at ht⊢;have:=hρ x;rw[hv]at this;exact fB.ret hr st this
  .simp only[hc,fe,dX]at ht⊢;exact Sd bn st hρ hv ok hr ht
 .rename_i u v hv;exact Sd bn st hρ hv ok hr ht
 .exact fB.ret hr st (hρ x)
theorem acv{o:Oper}{t:TypeId}(ho:o.op=.alloc t)(ok:nO A S o.dst site):Goal P C D S g w tmps a ρ A site hint o:=by
 intro ht;simp only[aW,ho]at ht⊢;by_cases hz:(C.ty t).nz=true
 .simp only[hz,aX]at ht⊢;have k:=bn t hz;obtain⟨⟨v,rt'⟩,hd⟩:=ht true;have hc:(dK (C.ty t) (zc (C.ty t))).cells=(zc (C.ty t)).toArray:=by apply y_;rw[IP]
  have s0:=st.jF (zc (C.ty t)).toArray t;obtain⟨g2,s1,s2,s3⟩:=Fc (h:=w.heap.push (.cells (zc (C.ty t)).toArray t)) (c:=zc (C.ty t)) (F:=Nil) s0 (az.zero _ _) (aL.ax _ (Mk.c_ _)) (Sub.nil _)
   (b:=w.heap.size) (.inr rfl) (fun h=>h) jy.new ok hd
  refine fB.value (val:=.pointer (some ⟨w.heap.size,0,none⟩)) (w':={ w with heap:=w.heap.push (.cells (zc (C.ty t)).toArray t) }) ?_ ⟨true,v,rt',hd,g2,s1,s2,s3,kK.push _⟩;simp[execOp,ho,Instr.alloc,newVar,newRow,newObj,Sem.run_bind,k.ze,hc,Sem.run]
 .rw[af hz]at ht;exact absurd ht b6.fail
theorem akX{o:Oper}{t:TypeId}{x:Operand}(ho:o.op=.box t x)(ok:nO A S o.dst site):Goal P C D S g w tmps a ρ A site hint o:=by
 intro ht;simp only[aW,ho]at ht⊢;by_cases hz:(C.ty t).nz=true
 .simp only[hz,aX]at ht⊢;cases h2:tk S.rt (C.ty t) (ρ x) with
  | none=>rw[h2]at ht;exact absurd ht b6.fail
  | some z=>
   obtain⟨m,y,d8⟩:=z;rw[h2]at ht;simp only at ht⊢;obtain⟨c,g1,F,ev,cJ⟩:=yZ _ st h2 (hρ x);have hc:(a.eval x).cells=c.toArray:=by apply y_;rw[ev,Cm cJ.rep]
   have hrun:(execOp a.eval o).run P w=.ok (.value (.pointer (some ⟨w.heap.size,0,none⟩))) { w with heap:=w.heap.push (.cells c.toArray t) }:=by simp[execOp,ho,Instr.box,newVar,newRow,newObj,Sem.run_bind,hc,Sem.run]
   by_cases hh:hint=true
   .simp only[hh,aX]at ht⊢;by_cases hm:m.whole=true
    .simp only[hm,aX]at ht⊢;obtain⟨⟨v,rt'⟩,hd⟩:=ht true;obtain⟨g2,s1,s2,s3,_⟩:=VI cJ.st cJ.rep (fun b hb=>.inr hb) hm;have s4:=(s1.bB (Sub.nil _)).jF c.toArray t;have r4:az (w.heap.push (.cells c.toArray t)) g2.Pr (C.ty t) .no y c Nil:=az.push (s1.bB (Sub.nil _)) s2 (Sub.nil _);obtain⟨g3,q1,q2,q3⟩:=Fc s4 r4 (aL.no _ _) (Sub.nil _) (b:=w.heap.size) (.inr rfl) (fun h=>h) jy.new ok hd;exact fB.value (w':={ w with heap:=w.heap.push (.cells c.toArray t) }) hrun ⟨true,v,rt',hd,g3,q1,q2,(cJ.same.trans s3).trans q3,kK.push _⟩
    .rw[af hm]at ht;exact absurd ht b6.fail
   .rw[af hh]at ht⊢;obtain⟨⟨v,rt'⟩,hd⟩:=ht true;have s4:=cJ.st.jF c.toArray t;have r4:az (w.heap.push (.cells c.toArray t)) g1.Pr (C.ty t) m y c F:=az.push cJ.st cJ.rep (fun b hb=>.inr hb);obtain⟨g3,q1,q2,q3⟩:=Fc s4 r4 (by rw[cJ.same.1];exact cJ.tag) (fun b hb=>.inl (.inr hb)) (b:=w.heap.size) (.inr rfl)
     (fun hb=>I1 _ (cJ.st.ew _ (.inr hb))) jy.new ok hd
    exact fB.value (w':={ w with heap:=w.heap.push (.cells c.toArray t) }) hrun ⟨true,v,rt',hd,g3,q1,q2,cJ.same.trans q3,kK.push _⟩
 .rw[af hz]at ht;exact absurd ht b6.fail
end
theorem Hv{h:Array Obj}{S:St}{g:aA}{tmps:Array Value}{H:BS}(st:aE h S g tmps H){r:Nat}{p:Path}{R:aC}{d:Dy}{v:Value}(hR:S.root r=some R)
  (hf:focus R.ty R.ms R.x p=some d) (x:qe h S g (.addr r p) v) :
  ∃b off c,bw R.ty R.x p/\cv h R.ty (g.C r) (g.base r) p=some (some (b,off),c)/\v=.pointer (some ⟨b,off,none⟩):=by
 simp only[qe]at x;exact⟨_,_,_,(x R hR d hf).1,(x R hR d hf).2.choose_spec.choose_spec.choose_spec.1,(x R hR d hf).2.choose_spec.choose_spec.choose_spec.2⟩
theorem MM{h h':Array Obj}{S S':St}{g g1:aA}(Q:BS):∀(a:AV),a.dn h h' S S' g g1->a.dn h h' S S' g { g1 with Pr:=Q }
 | .b8 r p s,k=>k
 | .view r p s _ _,k=>k
 | .addr r p,k=>k
 | .pair a b,k=>⟨MM Q a k.1,MM Q b k.2⟩
 | .jJ a,k=>MM Q a k
 | .gI _ a,k=>MM Q a k
 | .undef,_=>trivial
 | .skip,_=>trivial
 | .cH _,_=>trivial
 | .unit,_=>trivial
 | .fl,_=>trivial
 | .val _ _,_=>trivial
 | .ck _ _,_=>trivial
 | .ep _,_=>trivial
theorem akK{h:Array Obj}{tmps:Array Value}(t:Ty){S:St}{rt':aP}{g:aA}{H:BS}{hint:Bool}{a:AV}{m:Mk}{x:t.den}{v:Value}(st:aE h S g tmps H)
  (ht:UM S.rt hint t a=some (m,x,rt')) (y:qe h S g a v):∃c g' F,v=dK t c/\kJ h S ⟨S.sl,rt'⟩ g tmps H t m x c g' F:=by
 simp only[UM,cM]at ht;obtain⟨⟨m1,x1,d8⟩,h1,ht⟩:=ht;obtain⟨c,g1,F,ev,cJ⟩:=yZ t st h1 y;by_cases hh:hint=true
 .rw[ak hh]at ht;by_cases hm:m1.whole=true
  .rw[ak hm]at ht;simp only[aK,aY]at ht;obtain⟨rfl,rfl,rfl⟩:=ht;have s1:=(cJ.st.cR F (fun b hb=>.inr hb)).bB (H':=Un H Nil) (fun b hb=>by
    rcases hb with hb | hb
    .exact⟨.inl hb,fun hf=>cJ.d6 b hf hb⟩
    .exact hb.elim)
   exact⟨c,{ g1 with Pr:=Un g1.Pr F },Nil,ev,⟨s1,fun b hb=>.inl (cJ.pr b hb),az.share t hm cJ.rep,cC.nil _,cC.nil _,fun a=>MM _ a (cJ.keeps a),cJ.sl,cJ.rl,aL.ax _ rfl,aA.cT.trans ⟨rfl,rfl,rfl⟩ cJ.same⟩⟩
  .rw[af hm]at ht;simp at ht
 .rw[af hh]at ht;simp only[aK,aY]at ht;obtain⟨rfl,rfl,rfl⟩:=ht;exact⟨c,g1,F,ev,cJ⟩
section
variable {P:Program} {C:Ctx} {D:Den C} {S:St} {g:aA} {w:World} {tmps:Array Value} {a:Act} {ρ:Operand->AV}
variable {A:bY} {site:Nat} {hint:Bool} (bn:iD P C) (st:aE w.heap S g tmps Nil) (hρ:∀x,qe w.heap S g (ρ x) (a.eval x))
include bn st hρ
theorem acp{t:TypeId}(k:mF P C t){b off:Nat}{c:List Value}{v:Value}(hv:v.cells.toList=c)(hl:c.length=(C.ty t).width)(ht:w.there b off c.length)
  (h1:∀u∈c,u.oneCell'=true):(Instr.storeAt t (.pointer (some ⟨b,off,none⟩)) v).run P w=.ok () (w.setCells b off c):=by
 have hs:v.cells.size=(C.ty t).width:=by rw[<-iO,hv,hl]
 have:=run_storeCells_cells (P:=P) b off c 0 w (fun j hj=>by simpa using (ht j hj).1) (fun j hj=>by simpa using (ht j hj).2) h1;simp only[qU]at this;simp[Instr.storeAt,Instr.sureAddr,storeVar,Sem.run_bind,k.fL,hs,hv,this]
theorem adi{o:Oper}{t:TypeId}{x y:Operand}(ho:o.op=.store t x y)(ok:nO A S o.dst site):Goal P C D S g w tmps a ρ A site hint o:=by
 intro ht;simp only[aW,ho]at ht⊢;by_cases hz:(C.ty t).nz=true/\A.fr=true
 .have Yu:((C.ty t).nz&&A.fr)=true:=by simp[hz.1,hz.2]
  simp only[Yu,aX]at ht⊢;obtain⟨⟨v0,rt'⟩,hy⟩:=b6.of ht;rw[hy];simp only[fo]at hy;obtain⟨fk,hst,e0⟩:=hy;simp only[aY]at e0;obtain⟨rfl,rfl⟩:=e0;have k:=bn t hz.1;obtain⟨C2,En⟩:=ok.fr hz.2;have hx:=hρ x;unfold BA at hst;split at hst
  .rename_i r p hv;rw[hv]at hx;simp only[cM]at hst;obtain⟨⟨m,z,d8⟩,h2,hst⟩:=hst;split at hst
   .rename_i R hR;simp only[cM]at hst;obtain⟨d,hf,hst⟩:=hst;split at hst
    .rename_i hd;obtain⟨hdt,w9⟩:=hd;simp only[cM,aK]at hst;obtain⟨⟨m',x'⟩,hput,rfl⟩:=hst;simp only at hR hf w9 hput;obtain⟨c,g1,F,ev,cJ⟩:=akK _ st h2 (hρ y);have hx1:=(qe.keep cJ.pr (fun _ _=>rfl) (.addr r p)).1 _ hx (cJ.keeps _);obtain⟨b,off,c0,hin,eu,e⟩:=Hv cJ.st hR hf hx1;obtain⟨base,c0',F0,q1,q2,q3,q4,q5,q6⟩:=cJ.st.update hR hf hin;rw[eu]at q1;simp only[aK,aY]at q1;obtain⟨rfl,rfl⟩:=q1;obtain⟨dt,dm,dx⟩:=d;simp only at hdt;subst hdt;have hl:=az.width _ cJ.rep;have hl0:=az.width _ q2;simp only at hl0;obtain⟨An,cs,xg,hfit,hsub⟩:=q4 b off rfl;have JF:=q5 b off rfl;have bP:((⟨S.sl,d8⟩:St).root r).isSome:=by show(d8.root r).isSome=true;rw[hR];rfl
     have rN:¬ F b:=fun hb=>cJ.st.hand r bP b JF (.inr hb);have U6:¬ g1.Pr b:=fun hb=>cJ.st.ez r bP b JF hb;have cZ:∀b',b'≠b->(w.setCells b off c).heap[b']? = w.heap[b']?:=fun b' hb'=>Ku c off w b' hb';have CU:off+c.length<=cs.size:=by omega
     have jU:az (w.setCells b off c).heap g1.Pr (C.ty t) (m.stamp site) z c F:=
      (az.stamp site _).1 (az.mono (Sub.refl _) (fun b' hb'=>cZ b' (fun e=>U6 (e ▸ hb'))) _ cJ.rep (Sub.refl _) (fun b' hb'=>cZ b' (fun e=>rN (e ▸ hb'))))
     have kQ:(m.stamp site).fresh site (site+1):=Mk.dP site w9;obtain⟨g2,s1,s2,s3,s4,s5,s6⟩:=q6 site (site+1) (w.setCells b off c).heap (m.stamp site) z c F m' x' En
      (fun b' _ _ hb'=>cZ b' (fun e=>hb' off (by rw[e]))) (by rw[vZ];exact ct _) (Qf rfl xg CU) jU
      (fun b' hb'=>.inr (.inl (.inr hb'))) (fun b' hb'=>by rw[vZ];exact cJ.st.ew b' (.inr hb')) hput (Mk.eR _ kQ)
      (aL.ax _ (Mk.cO C2 w9)) (fun _=>Mk.cO C2 w9)
      (by
       intro p' t1 n1 hp gY _;obtain⟨hi',zC⟩:=Dm p' kQ hp gY;refine⟨zR _ _ hi' gY,fun bp cp ha=>?_⟩;obtain⟨iR,h3⟩:=Jg (h':=(w.setCells b off c).heap) p' _ c _ hi' ha;refine⟨iR,h3,fun s a' e hs=>?_⟩;subst e;exact absurd zC hs)
     have fW:(a.eval y).cells.toList=c:=by rw[ev,Cm cJ.rep]
     have hrun:=acp (w:=w) bn st hρ k fW hl (AY xg CU) (az.one _ cJ.rep);have fS:=Up (b:=b) c off w;have Yc:(execOp a.eval o).run P w=.ok .skip (w.setCells b off c):=by simp[execOp,ho,e,hrun,Sem.run_bind]
     rw[Yc];exact⟨true,.undef,_,rfl,g2,s1.bB (Sub.nil _),by simp only[qe],cJ.same.trans s3,
       ⟨fS.1,fS.2.1,fS.2.2,by rw[vZ];exact ct _,fun b' _ hb'=>cZ b' (fun e=>hb' (by
        have:=cJ.st.own r b bP JF;rw[cJ.same.2.1]at this;rw[e];exact this))⟩⟩
    .simp at hst
   .simp at hst
  .simp at hst
 .have Yu:((C.ty t).nz&&A.fr)=false:=by
   simp only[oq];by_cases h1:(C.ty t).nz=true
   .exact .inr (by simpa using fun h2=>hz ⟨h1,h2⟩)
   .exact .inl (by simpa using h1)
  simp only[Yu,fe,dX]at ht;exact absurd ht b6.fail
end
end Go.V
namespace Go.V
noncomputable section
open Go
theorem adb{l:List Value}{o:Nat}{c:List Value}(h:o+c.length<=l.length)(k:Nat):(bU l o c)[k]? = if k<o then l[k]? else if k<o+c.length then c[k-o]? else l[k]?:=by
 unfold bU;by_cases h1:k<o
 .rw[ak h1,eG,kA (by rw[eH];omega),gm,ak h1]
 .rw[af h1];by_cases h2:k<o+c.length
  .rw[ak h2,kA (by rw[cV,eH];omega),mc (by rw[eH];omega),eH,FU (by omega)]
  .rw[af h2,mc (by rw[cV,eH];omega),cV,eH,FU (by omega),iF];congr 1;omega
theorem GF:∀(p:Path){t:Ty}{m:Mk}{t':Ty}{m':Mk},m.still=true->q8 t m p=some (t',m')->qx p=false/\m'.still=true
 | [],t,m,t',m',hm,h=>by simp only[q8,aK,aY]at h;obtain⟨rfl,rfl⟩:=h;exact⟨rfl,hm⟩
 | .fst::p,t,m,t',m',hm,h=>by
  cases t with
  | pair a b=>
   simp only[q8]at h;have:m.fst.still=true:=by cases m<;>simp_all [Mk.still,Mk.fst]
   have:=GF p this h;exact⟨by simpa [qx] using this.1,this.2⟩
  | _=>simp[q8]at h
 | .snd::p,t,m,t',m',hm,h=>by
  cases t with
  | pair a b=>
   simp only[q8]at h;have:m.snd.still=true:=by cases m<;>simp_all [Mk.still,Mk.snd]
   have:=GF p this h;exact⟨by simpa [qx] using this.1,this.2⟩
  | _=>simp[q8]at h
 | .idx i s::p,t,m,t',m',hm,h=>by
  cases t with
  | sl a=>cases m<;>simp_all [q8,Mk.still]
  | _=>simp[q8]at h
theorem Ky:∀v:AV,v.aR 0 0=true
 | .addr r p=>Ci p
 | .b8 r p s=>by simp only[AV.aR,bI];exact⟨by cases s<;>rfl,Ci p⟩
 | .view r p s _ _=>by simp only[AV.aR,bI];exact⟨by cases s<;>rfl,Ci p⟩
 | .pair a b=>by simp only[AV.aR,bI];exact⟨Ky a,Ky b⟩
 | .jJ a=>Ky a
 | .gI _ a=>Ky a
 | .undef=>rfl
 | .skip=>rfl
 | .cH _=>rfl
 | .unit=>rfl
 | .fl=>rfl
 | .val _ _=>rfl
 | .ck _ _=>rfl
 | .ep _=>rfl
section
variable {P:Program} {C:Ctx} {D:Den C} {S:St} {g:aA} {w:World} {tmps:Array Value} {a:Act} {ρ:Operand->AV}
variable {A:bY} {site:Nat} {hint:Bool} (bn:iD P C) (st:aE w.heap S g tmps Nil) (hρ:∀x,qe w.heap S g (ρ x) (a.eval x))
include bn st hρ
end
end
end Go.V
namespace Go.V
noncomputable section
open Go
theorem Rs(off:Nat):∀(l:List Value)(k:Nat)(cs:Array Value),off+k+l.length<=cs.size->
  ((l.zipIdx k).foldl (fun cs p=>cs.setIfInBounds (off+p.2) p.1) cs).toList=bU cs.toList (off+k) l
 | [],k,cs,_=>by simp[bU]
 | v::l,k,cs,h=>by
  simp only[cw]at h;rw[List.zipIdx_cons,nM,Rs off l (k+1) _ (by simp;omega),Sn];exact R8 (by simp;omega)
theorem Rq{off:Nat}{v:Value}{cs:Array Value}(h:off+v.cells.size<=cs.size) :
  (v.cells.zipIdx.foldl (fun cs (c,j)=>cs.setIfInBounds (off+j) c) cs).toList=bU cs.toList off v.cells.toList:=by
 rw[<-FG,Array.toList_zipIdx];exact Rs off v.cells.toList 0 cs (by simpa using h)
def Kp(h:Array Obj)(S:St)(g:aA)(S':St)(g':aA):Prop:=∀u v,qe h S g u v->qe h S' g' u v
theorem Kp.refl{h:Array Obj}{S:St}{g:aA}:Kp h S g S g:=fun _ _ x=>x
theorem Kp.trans{h:Array Obj}{S S' wJ:St}{g g' tZ:aA}(x:Kp h S g S' g')(y:Kp h S' g' wJ tZ):Kp h S g wJ tZ:=fun u v z=>y u v (x u v z)
theorem kJ.kp{h:Array Obj}{S S':St}{g g':aA}{tmps:Array Value}{H F:BS}{t:Ty}{m:Mk}{x:t.den}{c:List Value}(k:kJ h S S' g tmps H t m x c g' F):Kp h S g S' g':=
 fun u v y=>(qe.keep k.pr (fun _ _=>rfl) u).1 v y (k.keeps u)
theorem JZ{h:Array Obj}{S:St}{g:aA}{tmps:Array Value}{H:BS}(st:aE h S g tmps H)(D:BS):Kp h S g S { g with Pr:=Un g.Pr D }:=by
 intro u v y;refine(qe.keep (g':={ g with Pr:=Un g.Pr D }) (fun b hb=>Or.inl hb) (fun _ _=>rfl) u).1 v y (AV.ej (fun r p=>?_) (fun r p s=>?_) u)
 .exact(nR (g':={ g with Pr:=Un g.Pr D }) st (.inl rfl) rfl rfl (fun _ _ _=>rfl)).1 p
 .exact(nR (g':={ g with Pr:=Un g.Pr D }) st (.inl rfl) rfl rfl (fun _ _ _=>rfl)).2 p s
theorem PL{C:Ctx}{h:Array Obj}{tmps:Array Value}{sl:List AV}{T:Ty}{fs:List Field}{place:Nat->Option (Nat×Nat)}
  (hs:mY C fs 0 T) (oW:∀i fd,fs[i]? = some fd->place i=some (fd.offset,(C.ty fd.type).width)) (ev:Operand->Value) :
  ∀(l:List (Nat×Operand))(rt:aP)(g:aA)(H F:BS)(m:Mk)(x:T.den)(cells:List Value)(ρ:Operand->AV)(m':Mk)(x':T.den)(rt':aP),
   aE h ⟨sl,rt⟩ g tmps H->az h g.Pr T m x cells F->Sub F H->aL g.hd T m cells->(∀x,qe h ⟨sl,rt⟩ g (ρ x) (ev x))->
   oK rt T (m,x) (l.map fun p=>(p.1,ρ p.2))=some (m',x',rt')->
   ∃g' H' F' cells',aE h ⟨sl,rt'⟩ g' tmps H'/\az h g'.Pr T m' x' cells' F'/\Sub F' H'/\aL g'.hd T m' cells'/\g'.cT g/\
    Instr.fill place cells.toArray (l.map fun p=>(p.1,ev p.2))=some cells'.toArray
 | [],rt,g,H,F,m,x,cells,ρ,m',x',rt',st,rep,hF,nk,hρ,hb=>by
  simp only[f4,oK,aK,aY]at hb;obtain⟨rfl,rfl,rfl⟩:=hb;exact⟨g,H,F,cells,st,rep,hF,nk,.refl _,rfl⟩
 | (i,op)::l,rt,g,H,F,m,x,cells,ρ,m',x',rt',st,rep,hF,nk,hρ,hb=>by
  simp only[cA,oK,cM]at hb;obtain⟨d,hf,⟨m1,x1,d8⟩,h2,⟨m2,x2⟩,hput,hb⟩:=hb;obtain⟨fd,q1,q2,q3,q4,q5⟩:=WU i hs hf;obtain⟨c1,g1,F1,e1,cJ⟩:=yZ (S:=⟨sl,rt⟩) _ st h2 (hρ op);have o9:az h g1.Pr T m x cells F:=az.mono cJ.pr (fun _ _=>rfl) T rep (Sub.refl _) (fun _ _=>rfl);obtain⟨base',c',F2,Fr,z⟩:=zip (ig i) _ _ _ cells F none d o9 hf (zR _ _ q5 (vp _ hf)) (fun b o e=>by simp at e);obtain⟨eb,ec,W7⟩:=z.plain q5;have nQ:=az.width _ cJ.rep;have oV:cC F1 Fr:=fun b hb gw=>cJ.d6 b hb (hF b (z.fr b gw));obtain⟨F3,D3,s3,sd,d3,r3⟩:=z.vJ h g1.Pr m1 x1 c1 F1 m2 x2 (Sub.refl _) (fun _ _=>rfl) (fun _ _ _=>rfl) (by rw[eb];intro b o e;simp at e) cJ.rep oV hput;have XI:(if qx (ig i)=true then cells else bU cells (eD T (ig i)) c1)=bU cells (eD T (ig i)) c1:=by rw[af (by simp[q5])]
  rw[XI]at r3;have hin:∀b,Fr b\/F1 b->Un H F1 b:=by
   rintro b (hb | hb)
   .exact .inl (hF b (z.fr b hb))
   .exact .inr hb
  have pg:=cJ.st.cR D3 (fun b hb=>hin b (sd b hb));have hoff:fd.offset=eD T (ig i):=by omega
  have Yj:aL g1.hd T m2 (bU cells (eD T (ig i)) c1):=by
   have:=aL.put (hd:=g1.hd) (ig i) hput (by rw[cJ.same.1];exact nk) (by rw[cJ.same.1];exact cJ.tag) (fun h=>by rw[q5]at h;simp at h) (az.width _ rep) nQ
   rwa [af (by simp[q5])]at this
  obtain⟨g',H',F',cells',k1,k2,k3,k4,k5,k6⟩:=PL hs oW ev l d8 _ _ F3 m2 x2 _ ρ m' x' rt' pg r3
   (fun b hb=>⟨hin b (s3 b hb),fun gw=>d3 b hb gw⟩) Yj (fun x=>JZ cJ.st D3 _ _ (cJ.kp _ _ (hρ x))) hb
  refine⟨g',H',F',cells',k1,k2,k3,k4,cJ.same.trans (aA.cT.trans ⟨rfl,rfl,rfl⟩ k5),?_⟩;have fW:(ev op).cells.toList=c1:=by rw[e1,Cm cJ.rep]
  have hsize:(ev op).cells.size=(C.ty fd.type).width:=by rw[<-iO,fW,nQ,q2]
  simp only[cA,Instr.fill,oW i fd q1];have wZ:fd.offset+(ev op).cells.size<=cells.toArray.size:=by rw[hsize,<-q2,hoff];simpa using W7
  have gq:((decide ((ev op).cells.size≠(C.ty fd.type).width))||decide (fd.offset+(ev op).cells.size>cells.toArray.size))=false:=by simp only[Bool.or_eq_false_iff,nJ];exact⟨fun h=>h hsize,by omega⟩
  have kN:(ev op).cells.zipIdx.foldl (fun cs (c,j)=>cs.setIfInBounds (fd.offset+j) c) cells.toArray=(bU cells (eD T (ig i)) c1).toArray:=by apply y_;rw[Rq wZ,fW,hoff]
  rw[kN];have:(if (decide ((ev op).cells.size≠(C.ty fd.type).width)||decide (fd.offset+(ev op).cells.size>cells.toArray.size))=true then (none:Option (Array Value))
    else Instr.fill place (bU cells (eD T (ig i)) c1).toArray (l.map fun p=>(p.1,ev p.2)))=some cells'.toArray:=by
   rw[gq];exact k6
  exact this
theorem QE{P:Program}{C:Ctx}(bn:iD P C):∀(fs:List Field)(off:Nat)(T:Ty),mY C fs off T->
  fs.mapM (fun f=>(P.info? f.type).map fun i=>(f.offset,i.size))=some (fs.map fun f=>(f.offset,(C.ty f.type).width))
 | [],_,_,_=>rfl
 | f::fs,off,T,h=>by
  simp only[mY]at h;obtain⟨b,rfl,h1,_,h2,h3⟩:=h;obtain⟨i,q1,q2,_⟩:=(bn f.type h2).info;simp only[List.mapM_cons,q1,ef,Option.bind_eq_bind,dF,QE bn fs _ b h3,Option.pure_def,cA,q2]
section
variable {P:Program} {C:Ctx} {D:Den C} {S:St} {g:aA} {w:World} {tmps:Array Value} {a:Act} {ρ:Operand->AV}
variable {A:bY} {site:Nat} {hint:Bool} (bn:iD P C) (st:aE w.heap S g tmps Nil) (hρ:∀x,qe w.heap S g (ρ x) (a.eval x))
include bn st hρ
theorem ace{o:Oper}{t:TypeId}{parts:Array (Nat×Operand)}(ho:o.op=.build t parts)(ok:nO A S o.dst site):Goal P C D S g w tmps a ρ A site hint o:=by
 intro ht;simp only[aW,ho]at ht⊢;by_cases JN:((C.ty t).nz&&(C.ty t).agg)=true
 .have hz:(C.ty t).nz=true:=by simp only[bI]at JN;exact JN.1
  have hag:(C.ty t).agg=true:=by simp only[bI]at JN;exact JN.2
  simp only[JN,aX]at ht⊢;cases hb:oK S.rt (C.ty t) (Mk.z8 hint (C.ty t),(C.ty t).zero) (parts.toList.map fun p=>(p.1,ρ p.2)) with
  | none=>rw[hb]at ht;exact absurd ht b6.fail
  | some z=>
   obtain⟨m,y,d8⟩:=z;rw[hb]at ht;simp only at ht⊢;obtain⟨⟨v,rt'⟩,hd⟩:=ht true;have hp:∃ta tb,C.ty t=.pair ta tb:=by
    cases hT:C.ty t with
    | pair ta tb=>exact⟨ta,tb,rfl⟩
    | unit=>rw[hT]at hz;simp[Ty.nz]at hz
    | _=>rw[hT]at hag;simp[Ty.agg]at hag
   .obtain⟨ta,tb,hT⟩:=hp;obtain⟨fs,h1,h2⟩:=bn.pair hT;rw[<-hT]at h2;have oW:∀(i:Nat)(fd:Field),fs.toList[i]? = some fd->((fs.toList.map fun f=>(f.offset,(C.ty f.type).width)).toArray[·]?) i=some (fd.offset,(C.ty fd.type).width):=by intro i fd h;simp only[List.getElem?_toArray,FJ,h,ef]
    obtain⟨g',H',F',cells',k1,k2,k3,k4,k5,k6⟩:=PL (sl:=S.sl) h2 oW a.eval parts.toList S.rt g Nil Nil (Mk.z8 hint (C.ty t)) (C.ty t).zero (zc (C.ty t)) ρ m y d8
     st (az.zero _ _) (Sub.nil _) (aL.ax _ (Mk.rC _ _)) hρ hb
    obtain⟨g2,s1,s2,s3⟩:=Cv k1 k2 k4 k3 ok hd;obtain⟨it,i1,i2,i3,_⟩:=(bn t hz).info;have Ef:P.built t (parts.toList.map fun p=>(p.1,a.eval p.2))=some cells'.toArray:=by
     unfold Program.built;simp only[i1,h1,i3,QE bn fs.toList 0 _ h2];have:(dK (C.ty t) (zc (C.ty t))).cells=(zc (C.ty t)).toArray:=by apply y_;rw[IP]
     rw[this];exact k6
    have hrun:=run_build (P:=P) w t (parts.map fun p=>(p.1,a.eval p.2)) cells'.toArray (by simpa using Ef);refine fB.value (val:=dK (C.ty t) cells') (w':=w) ?_ ⟨true,v,rt',hd,g2,s1,s2,k5.trans s3,.refl _ _⟩;have:dK (C.ty t) cells'=.agg cells'.toArray:=by rw[hT];rfl
    rw[this];simp[execOp,ho,hrun,Sem.run_bind]
 .rw[af JN]at ht;exact absurd ht b6.fail
end
end
structure El (h:Array Obj) (Pr:BS) (e:Ty) (mi:Mk) (xs:List e.den) (cells:List Value) (Fs:Nat->BS):Prop where
 rep:∀i,i<xs.length->az h Pr e mi (xs.getD i e.zero) ((cells.drop (i * e.width)).take e.width) (Fs i)
 d6:∀i j,i≠j->cC (Fs i) (Fs j)
theorem El.mono{h h':Array Obj}{Pr fN:BS}{e:Ty}{mi:Mk}{xs:List e.den}{cells:List Value}{Fs:Nat->BS}(k:El h Pr e mi xs cells Fs)(hp:Sub Pr fN)
  (gZ:∀b,Pr b->h'[b]? = h[b]?) (hk:∀i b,Fs i b->h'[b]? = h[b]?):El h' fN e mi xs cells Fs:=
 ⟨fun i hi=>az.mono hp gZ e (k.rep i hi) (Sub.refl _) (fun b hb=>hk i b hb),k.d6⟩
theorem El.aQ{h:Array Obj}{Pr:BS}{e:Ty}{w m:Mk}{xs:List e.den}{cells:List Value}{Fs:Nat->BS}(hw:w.aQ m=true)(k:El h Pr e m xs cells Fs) :
  ∃(wG:Nat->BS)(D:BS),(∀i,Sub (wG i) (Fs i))/\(∀b,D b->∃i,Fs i b)/\(∀i,cC (wG i) D)/\El h (Un Pr D) e w xs cells wG:=by
 have key:∀i,∃F1 F2:BS,Sub F1 (Fs i)/\Sub F2 (Fs i)/\cC F1 F2/\
   (i<xs.length->az h (fun b=>Pr b\/F2 b) e w (xs.getD i e.zero) ((cells.drop (i * e.width)).take e.width) F1):=by
  intro i;by_cases hi:i<xs.length
  .obtain⟨F1,F2,s1,s2,dd,rr⟩:=az.aQ e hw (k.rep i hi);exact⟨F1,F2,s1,s2,dd,fun _=>rr⟩
  .exact⟨Nil,Nil,Sub.nil _,Sub.nil _,cC.nil _,fun h=>absurd h hi⟩
 obtain⟨F1,key⟩:=sX key;obtain⟨F2,key⟩:=sX key;refine⟨F1,fun b=>∃i,F2 i b,fun i=>(key i).1,fun b ⟨i,hb⟩=>⟨i,(key i).2.1 b hb⟩,?_,?_,?_⟩
 .rintro i b hb ⟨j,hj⟩;by_cases e:i=j
  .subst e;exact(key i).2.2.1 b hb hj
  .exact k.d6 i j e b ((key i).1 b hb) ((key j).2.1 b hj)
 .intro i hi;exact az.mono (fun b hb=>hb.imp id fun hb=>⟨i,hb⟩) (fun _ _=>rfl) e ((key i).2.2.2 hi) (Sub.refl _) (fun _ _=>rfl)
 .intro i j e;exact(k.d6 i j e).mono (key i).1 (key j).1
theorem El.row{h:Array Obj}{Pr:BS}{e:Ty}{mi:Mk}{xs:List e.den}{cells:List Value}{Fs:Nat->BS}(k:El h Pr e mi xs cells Fs){b:Nat}{cs:Array Value}(hb:jy h b cs)
  {cap:Nat} (hcap:cap * e.width<=cs.size) (hl:xs.length<=cap) (hcs:∀i,i<xs.length->sub cs (i * e.width) e.width=(cells.drop (i * e.width)).take e.width)
  (hF:∀i,¬ Fs i b) (s:Nat):az h Pr (.sl e) (.own s mi) xs [.slice (some ⟨b,0,none⟩) xs.length cap] (fun z=>z=b\/∃i,Fs i z):=by
 simp only[az];exact⟨_,cap,rfl,hl,.inr ⟨b,cs,rfl,.inl rfl,hb,hcap,Fs,fun i=>⟨fun z hz=>.inr ⟨i,hz⟩,hF i⟩,k.d6,fun i hi=>by rw[hcs i hi];exact k.rep i hi⟩⟩
theorem pK{α:Type}(l:List α)(k i:Nat)(x d:α)(hk:k<l.length):(l.set k x).getD i d=if i=k then x else l.getD i d:=by
 simp only[List.getD,jZ];by_cases e:k=i
 .subst e;simp[hk]
 .have:¬ i=k:=fun h=>e h.symm;simp[e,this]
theorem QD{h:Array Obj}{tmps:Array Value}{sl:List AV}{e:Ty}(ev:Operand->Value) :
  ∀(l:List (Nat×Operand))(rt:aP)(g:aA)(H:BS)(Fs:Nat->BS)(m:Mk)(xs:List e.den)(cells:List Value)(ρ:Operand->AV)(m':Mk)(xs':List e.den)(rt':aP),
   aE h ⟨sl,rt⟩ g tmps H->El h g.Pr e m xs cells Fs->(∀i,Sub (Fs i) H)->cells.length=xs.length * e.width->(∀x,qe h ⟨sl,rt⟩ g (ρ x) (ev x))->
   tI rt e (m,xs) (l.map fun p=>(p.1,ρ p.2))=some (m',xs',rt')->
   ∃g' H' wG cells',aE h ⟨sl,rt'⟩ g' tmps H'/\El h g'.Pr e m' xs' cells' wG/\(∀i,Sub (wG i) H')/\cells'.length=xs'.length * e.width/\xs'.length=xs.length/\g'.cT g/\
    Instr.fill (fun i=>some (i * e.width,e.width)) cells.toArray (l.map fun p=>(p.1,ev p.2))=some cells'.toArray
 | [],rt,g,H,Fs,m,xs,cells,ρ,m',xs',rt',st,el,hF,hlen,hρ,hb=>by
  simp only[f4,tI,aK,aY]at hb;obtain⟨rfl,rfl,rfl⟩:=hb;exact⟨g,H,Fs,cells,st,el,hF,hlen,rfl,.refl _,rfl⟩
 | (k,op)::l,rt,g,H,Fs,m,xs,cells,ρ,m',xs',rt',st,el,hF,hlen,hρ,hb=>by
  simp only[cA,tI]at hb;split at hb
  .rename_i hk;simp only[cM]at hb;obtain⟨⟨m1,x1,d8⟩,h2,hb⟩:=hb;obtain⟨c1,g1,F1,e1,cJ⟩:=yZ (S:=⟨sl,rt⟩) _ st h2 (hρ op);have nQ:=az.width _ cJ.rep;obtain⟨tr,lU⟩:=Mk.fu m m1;obtain⟨wG,D,q1,q2,q3,q4⟩:=(el.mono cJ.pr (fun _ _=>rfl) (fun _ _ _=>rfl)).aQ tr;obtain⟨Fa,Fb,p1,p2,p3,p4⟩:=az.aQ e lU cJ.rep;have hin:∀b,(D b\/Fb b)->Un H F1 b:=by
    rintro b (hb' | hb')
    .obtain⟨i,hi⟩:=q2 b hb';exact .inl (hF i b hi)
    .exact .inr (p2 b hb')
   have pg:=cJ.st.cR (fun b=>D b\/Fb b) hin;have hfit:k * e.width+c1.length<=cells.length:=by rw[nQ,hlen];have:=fq e.width (show k+1<=xs.length by exact hk);rw[mg]at this;exact this
   let pR:Nat->BS:=fun i=>if i=k then Fa else wG i
   have uh:∀i,cC F1 (Fs i):=fun i b bQ gw=>cJ.d6 b bQ (hF i b gw);have zu:El h (Un g1.Pr fun b=>D b\/Fb b) e (m.meet m1) (xs.set k x1) (bU cells (k * e.width) c1) pR:=by
    refine⟨fun i hi=>?_,fun i j hij=>?_⟩
    .rw[b9]at hi;rw[pK _ _ _ _ _ hk];by_cases hik:i=k
     .subst hik;simp only[aX,pR];have hsame:=acn hfit;rw[nQ]at hsame;rw[hsame];exact az.mono (fun b hb'=>hb'.imp id .inr) (fun _ _=>rfl) e p4 (Sub.refl _) (fun _ _=>rfl)
     .simp only[af hik,pR];rw[GC hfit (by
       rw[nQ];rcases B0 i k with h3 | h3
       .left;have:=fq e.width (show i+1<=k by exact h3);rw[mg]at this;exact this
       .right;have:=fq e.width (show k+1<=i by omega);rw[mg]at this;exact this)]
      exact az.mono (fun b hb'=>hb'.imp id .inl) (fun _ _=>rfl) e (q4.rep i hi) (Sub.refl _) (fun _ _=>rfl)
    .intro b bQ gw;simp only[pR]at bQ gw;by_cases h1:i=k
     .rw[ak h1]at bQ;rw[af (fun h=>hij (h1.trans h.symm))]at gw;exact uh j b (p1 b bQ) (q1 j b gw)
     .rw[af h1]at bQ;by_cases h2:j=k
      .rw[ak h2]at gw;exact uh i b (p1 b gw) (q1 i b bQ)
      .rw[af h2]at gw;exact q4.d6 i j hij b bQ gw
   have t_:∀i,Sub (pR i) (fun b=>Un H F1 b/\¬ (D b\/Fb b)):=by
    intro i b hb';simp only[pR]at hb';split at hb'
    .refine⟨.inr (p1 b hb'),?_⟩;rintro(h3 | h3)
     .obtain⟨j,hj⟩:=q2 b h3;exact uh j b (p1 b hb') hj
     .exact p3 b hb' h3
    .refine⟨.inl (hF i b (q1 i b hb')),?_⟩;rintro(h3 | h3)
     .exact q3 i b hb' h3
     .exact uh i b (p2 b h3) (q1 i b hb')
   obtain⟨g',H',Fs3,cells',k1,k2,k3,k4,k5,k6,k7⟩:=QD ev l d8 _ _ pR (m.meet m1) (xs.set k x1) (bU cells (k * e.width) c1) ρ m' xs' rt' pg zu t_
    (by rw[Dv hfit,b9,hlen]) (fun x=>JZ cJ.st _ _ _ (cJ.kp _ _ (hρ x))) hb
   refine⟨g',H',Fs3,cells',k1,k2,k3,k4,by rw[k5,b9],cJ.same.trans (aA.cT.trans ⟨rfl,rfl,rfl⟩ k6),?_⟩;have fW:(ev op).cells.toList=c1:=by rw[e1,Cm cJ.rep]
   have hsize:(ev op).cells.size=e.width:=by rw[<-iO,fW,nQ]
   simp only[cA,Instr.fill];have wZ:k * e.width+(ev op).cells.size<=cells.toArray.size:=by rw[hsize];have:=hfit;rw[nQ]at this;simpa using this
   have gq:((decide ((ev op).cells.size≠e.width))||decide (k * e.width+(ev op).cells.size>cells.toArray.size))=false:=by simp only[Bool.or_eq_false_iff,nJ];exact⟨fun h=>h hsize,by omega⟩
   have kN:(ev op).cells.zipIdx.foldl (fun cs (c,j)=>cs.setIfInBounds (k * e.width+j) c) cells.toArray=(bU cells (k * e.width) c1).toArray:=by apply y_;rw[Rq wZ,fW]
   rw[kN];have:(if (decide ((ev op).cells.size≠e.width)||decide (k * e.width+(ev op).cells.size>cells.toArray.size))=true then (none:Option (Array Value))
     else Instr.fill (fun i=>some (i * e.width,e.width)) (bU cells (k * e.width) c1).toArray (l.map fun p=>(p.1,ev p.2)))=some cells'.toArray:=by
    rw[gq];exact k7
   exact this
  .simp at hb
theorem Ta{e:Ty}(hp:0<e.width){n:Nat}{i:Nat}(hi:(i+1) * e.width<=n):sub (madeCells (zc e).toArray n) (i * e.width) e.width=zc e:=by
 rw[mg]at hi;apply rL;intro j;simp only[sub,gm,iF];by_cases hj:j<e.width
 .rw[ak hj];have h1:i * e.width+j<n:=by omega
  have h2:(i * e.width+j) % e.width=j:=by rw[u6,Nat.mul_add_mod,Nat.mod_eq_of_lt hj]
  have h3:j<(zc e).length:=by rw[KO];exact hj
  simp[madeCells,h1,KO,h2,h3];rw[gz h3];rfl
 .rw[af hj,pF (by rw[KO];omega)]
theorem akR{h:Array Obj}{Pr:BS}{e:Ty}(hp:0<e.width)(mi:Mk)(n:Nat):El h Pr e mi (List.replicate n e.zero) (madeCells (zc e).toArray (n * e.width)).toList (fun _=>Nil):=by
 refine⟨fun i hi=>?_,fun i j _=>cC.nil _⟩;rw[ot]at hi;have e1:(List.replicate n e.zero).getD i e.zero=e.zero:=by simp[List.getD,hi]
 have:=Ta (e:=e) hp (n:=n * e.width) (i:=i) (fq _ hi);simp only[sub]at this;rw[e1,this];exact az.zero e mi
section
variable {P:Program} {C:Ctx} {D:Den C} {S:St} {g:aA} {w:World} {tmps:Array Value} {a:Act} {ρ:Operand->AV}
variable {A:bY} {site:Nat} {hint:Bool} (bn:iD P C) (st:aE w.heap S g tmps Nil) (hρ:∀x,qe w.heap S g (ρ x) (a.eval x))
include bn st hρ
theorem HT{T:Ty}:(dK T (zc T)).cells=(zc T).toArray:=by apply y_;rw[IP]
theorem ajI{o:Oper}{t:TypeId}{x y:Operand}(ho:o.op=.makeSlice t x y)(ok:nO A S o.dst site):Goal P C D S g w tmps a ρ A site hint o:=by
 intro ht;simp only[aW,ho]at ht⊢;split at ht
 .rename_i e l c hT hl hc;have el:=JW hl (hρ x);have ec:=JW hc (hρ y);obtain⟨u,h1,h2,h3⟩:=bn.desc hT;have ku:=bn u h3;obtain⟨i,i1,i2,i3,i4⟩:=ku.info;obtain⟨⟨v,rt'⟩,hd⟩:=ht true;by_cases hb:0<=l/\l<=c/\c<=(f_:Int)
  .have hd':(dR A S.rt o.dst site (.sl e) (.own 0 (Mk.top e)) (List.replicate l.toNat e.zero) false).dec true=some (v,rt'):=by
    have gq:(decide (0<=l)&&decide (l<=c)&&decide (c<=(f_:Int)))=true:=by rw[bG hb.1,bG hb.2.1,bG hb.2.2];rfl
    rw[gq]at hd;exact hd
   have hbn:(f_:Int)=274877906944:=rfl;have hbytes:(i.bytes:Int) * c<=281474976710656:=by
    have h5:(i.bytes:Int)<=255:=Int.ofNat_le.2 i4;have h6:c<=274877906944:=by rw[<-hbn];exact hb.2.2
    have h7:(i.bytes:Int) * c<=255 * c:=Int.mul_le_mul_of_nonneg_right h5 (by omega);omega
   have hrun:=run_make (P:=P) w t u i _ h1 i1 i3 .i64 .i64 l c hb.1 hb.2.1 hbytes (by rw[hbn]at hb;omega);rw[HT bn st hρ,i2,h2]at hrun;have hp:=ku.pos;rw[h2]at hp;have W8:El (w.heap.push (.cells (madeCells (zc e).toArray (c.toNat * e.width)) u)) g.Pr e (Mk.top e) (List.replicate l.toNat e.zero) (madeCells (zc e).toArray (c.toNat * e.width)).toList (fun _=>Nil):=by
    refine⟨fun i hi=>?_,fun i j _=>cC.nil _⟩;rw[ot]at hi;have e1:(List.replicate l.toNat e.zero).getD i e.zero=e.zero:=by simp[List.getD,hi]
    have:=Ta (e:=e) hp (n:=c.toNat * e.width) (i:=i) (fq _ (by omega));simp only[sub]at this;rw[e1,this];exact az.zero e _
   have s0:=st.jF (madeCells (zc e).toArray (c.toNat * e.width)) u;have rep:=W8.row (b:=w.heap.size) jy.new (cap:=c.toNat) (by rw[size_madeCells];exact ct _) (by rw[ot];omega) (fun i hi=>rfl) (fun i h=>h) 0;obtain⟨g2,s1,s2,s3⟩:=Cv s0 rep (aL.ax _ (by simp[Mk.ax,oa,Mk.c_])) (fun b hb=>by rcases hb with rfl | ⟨_,hb⟩;exact .inr rfl;exact hb.elim) ok hd';rw[ot]at s2;refine fB.value (w':=w.alloc (.cells (madeCells (zc e).toArray (c.toNat * e.width)) u)) ?_ ⟨true,v,rt',hd,g2,s1,s2,s3,kK.push _⟩;simp[execOp,ho,el,ec,hrun,Sem.run_bind,dK,Ty.agg]
  .have:(decide (0<=l)&&decide (l<=c)&&decide (c<=(f_:Int)))=false:=by simp only[oq,nJ];omega
   rw[this]at hd;simp[Tr.dec]at hd
 .exact absurd ht b6.fail
theorem aii{o:Oper}{t:TypeId}{n:Nat}{parts:Array (Nat×Operand)}(ho:o.op=.buildSlice t n parts)(ok:nO A S o.dst site):Goal P C D S g w tmps a ρ A site hint o:=by
 intro ht;simp only[aW,ho]at ht⊢;split at ht
 .rename_i e hT;cases hb:tI S.rt e (Mk.top e,List.replicate n e.zero) (parts.toList.map fun p=>(p.1,ρ p.2)) with
  | none=>rw[hb]at ht;exact absurd ht b6.fail
  | some z=>
   obtain⟨m,xs,d8⟩:=z;rw[hb]at ht;simp only at ht⊢;by_cases mW:(m.ax&&Nat.ble (n * e.width) 16777216)=true
   .have hm:m.ax=true:=by simp only[bI]at mW;exact mW.1
    have iL:n * e.width<=2 ^ 24:=by simp only[bI]at mW;exact rI mW.2
    simp only[mW,aX]at ht⊢;obtain⟨u,h1,h2,h3⟩:=bn.desc hT;have ku:=bn u h3;obtain⟨i,i1,i2,i3,i4⟩:=ku.info;have hp:=ku.pos;rw[h2]at hp i2;obtain⟨g',H',wG,cells',k1,k2,k3,k4,k5,k6,k7⟩:=QD (sl:=S.sl) a.eval parts.toList S.rt g Nil (fun _=>Nil) (Mk.top e) (List.replicate n e.zero)
     (madeCells (zc e).toArray (n * e.width)).toList ρ m xs d8 st (akR hp _ n) (fun _=>Sub.nil _) (by simp[size_madeCells]) hρ hb
    rw[ot]at k5;have hrun:n * e.width<=2 ^ 24->(Instr.buildSlice t n (parts.map fun p=>(p.1,a.eval p.2))).run P w=.ok (.slice (some ⟨w.heap.size,0,none⟩) n n) { w with heap:=w.heap.push (.cells cells'.toArray u) }:=by
     intro iL;by_cases h0:n * i.size=0
     .have hn0:n=0:=by
       rw[i2]at h0;rcases Nat.mul_eq_zero.1 h0 with h | h
       .exact h
       .omega
      subst hn0;have k7':Instr.fill (fun i=>some (i * e.width,e.width)) #[] (parts.toList.map fun p=>(p.1,a.eval p.2))=some cells'.toArray:=by
       have:(madeCells (zc e).toArray (0 * e.width)).toList.toArray = #[]:=by simp[madeCells]
       rw[<-this];exact k7
      have e0:Array.range 0 = #[]:=rfl;simp[Instr.buildSlice,run_underlying h1,sizeOf,typeInfo,i1,i2,e0,k7',newRow,newObj,Sem.run_bind,Sem.run]
     .have:=run_buildSlice (P:=P) w t u n (parts.map fun p=>(p.1,a.eval p.2)) cells'.toArray i _ h1 i1 i3 (by rw[i2];omega) h0 (by
       rw[HT bn st hρ,i2];have e2:((Array.range (n * e.width)).map fun x=>(zc e).toArray[x % (zc e).toArray.size]!)=(madeCells (zc e).toArray (n * e.width)).toList.toArray:=by rw[pG];rfl
       rw[h2,e2];simpa using k7)
      exact this
    have s0:=k1.jF cells'.toArray u;have LC:∀i b,wG i b->b<w.heap.size:=fun i b hb=>k1.ew b (k3 i b hb);have W8:El (w.heap.push (.cells cells'.toArray u)) g'.Pr e m xs cells' wG:=
     k2.mono (Sub.refl _) (fun b hb=>zV b (k1.bR b hb)) (fun i b hb=>zV b (LC i b hb))
    have rep:=W8.row (b:=w.heap.size) jy.new (cap:=n) (by simp[k4,k5]) (by omega) (fun i hi=>by simp[sub])
     (fun i h=>I1 _ (LC i _ h)) 0
    by_cases hh:hint=true
    .simp only[hh,aX]at ht⊢;by_cases hw:m.whole=true
     .simp only[hw,aX]at ht⊢;obtain⟨g2,s1,s2,s3,_⟩:=VI s0 rep (fun b hb=>by
       rcases hb with rfl | ⟨i,hb⟩
       .exact .inr rfl
       .exact .inl (k3 i b hb)) (by simpa [Mk.whole] using hw)
      refine fB.value (w':={ w with heap:=w.heap.push (.cells cells'.toArray u) }) ?_ ⟨true,_,_,rfl,g2,s1.bB (Sub.nil _),by simp only[qe];exact⟨_,s2,rfl⟩,k6.trans s3,kK.push _⟩;rw[k5];simp[execOp,ho,hrun iL,Sem.run_bind,dK,Ty.agg]
     .rw[af hw]at ht;exact absurd ht b6.fail
    .rw[af hh]at ht⊢;obtain⟨⟨v,rt'⟩,hd⟩:=ht true;obtain⟨g2,s1,s2,s3⟩:=Cv s0 rep (aL.ax _ (by simp[Mk.ax,oa,hm])) (fun b hb=>by
      rcases hb with rfl | ⟨i,hb⟩
      .exact .inr rfl
      .exact .inl (k3 i b hb)) ok hd
     rw[k5]at s2;refine fB.value (w':={ w with heap:=w.heap.push (.cells cells'.toArray u) }) ?_ ⟨true,v,rt',hd,g2,s1,s2,k6.trans s3,kK.push _⟩;simp[execOp,ho,hrun iL,Sem.run_bind,dK,Ty.agg]
   .rw[af mW]at ht;exact absurd ht b6.fail
 .exact absurd ht b6.fail
end
end Go.V
namespace Go.V
noncomputable section
open Go
section
variable {P:Program} (w:World)
theorem WW{ats:Array TypeId}{t t' u u' ty:TypeId}{i:TypeInfo}(h0:ats[0]? = some t)(h1:ats[1]? = some t')(ht:P.underlying t=some (.slice u))(ht':P.underlying t'=some (.slice u'))
  (hi:P.info? u=some i) {xa:Option Addr} {n cap:Nat} {ya:Option Addr} {m c:Nat} {news:List Value}
  (hnews:(Builtin.firstCells i.size m (.slice ya m c)).run P w=.ok news.toArray w) (hroom:n+m<=cap)
  {w':World} (hst:∀ad,xa=some ad->(storeCells (ad.add (n * i.size)) news).run P w=.ok () w') (hno:xa=none->w'=w) :
  (Builtin.append_ ats ty #[.slice xa n cap,.slice ya m c]).run P w=.ok (.slice xa (n+m) cap) w':=by
 cases xa with
 | none=>obtain rfl:=hno rfl;simp[Builtin.append_,h0,h1,run_underlying ht,run_underlying ht',sizeOf,typeInfo,hi,Builtin.lenOf,hroom,hnews,Sem.run_bind]
 | some ad=>have:=hst ad rfl;simp[Builtin.append_,h0,h1,run_underlying ht,run_underlying ht',sizeOf,typeInfo,hi,Builtin.lenOf,hroom,hnews,this,Sem.run_bind]
theorem Qe{ats:Array TypeId}{t t' u u' ty:TypeId}{i:TypeInfo}{z:Value}(h0:ats[0]? = some t)(h1:ats[1]? = some t')(ht:P.underlying t=some (.slice u))(ht':P.underlying t'=some (.slice u'))
  (hi:P.info? u=some i) (hz:i.zero=some z) {xa:Option Addr} {n cap:Nat} {ya:Option Addr} {m c:Nat} {olds news:List Value}
  (hnews:(Builtin.firstCells i.size m (.slice ya m c)).run P w.drew=.ok news.toArray w.drew)
  (holds:(Builtin.firstCells i.size n (.slice xa n cap)).run P w.drew=.ok olds.toArray w.drew) (hg:cap<n+m) (h63:((n+m:Nat):Int)<=9223372036854775807)
  (hfit:Builtin.nextslicecap (n+m) cap * i.bytes<=281474976710656) :
  (Builtin.append_ ats ty #[.slice xa n cap,.slice ya m c]).run P w =
   .ok (.slice (some ⟨w.heap.size,0,none⟩) (n+m) (grownCap w (n+m) cap u))
    (w.drew.alloc (.cells (olds.toArray++news.toArray++Builtin.zeroCells z.cells (grownCap w (n+m) cap u-(n+m))) u)):=by
 have hn:¬ (n+m<=cap):=by omega
 have h63':¬ (9223372036854775807<((n:Int)+(m:Int))):=by omega
 have Xd:¬ (281474976710656<Builtin.nextslicecap (n+m) cap * i.bytes):=by omega
 simp[Builtin.append_,h0,h1,run_underlying ht,run_underlying ht',sizeOf,typeInfo,zeroValue,hi,hz,Builtin.lenOf,hn,h63',Xd,Question.forced,hnews,holds,newRow,grownCap];congr 2;apply y_;simp[eG]
end
theorem DC{P:Program}{w:World}{size n len cap:Nat}{ad:Option Addr}{cs:List Value}(hl:cs.length=n * size)
  (h:(n=0/\cs=[])\/∃b o,ad=some ⟨b,o,none⟩/\w.rangeAt b o cs):(Builtin.firstCells size n (.slice ad len cap)).run P w=.ok cs.toArray w:=by
 rcases h with⟨rfl,rfl⟩ | ⟨b,o,rfl,hr⟩
 .cases ad with
  | none=>exact run_firstCells_none w size 0 len cap
  | some ad=>simp[Builtin.firstCells,loadCells,loadCellsFrom]
 .exact run_firstCells_some w size n ⟨b,o,none⟩ len cap cs hl (fun j v hv=>by rw[Addr.add_mid];exact hr j v hv)
theorem WV{w:World}{b o:Nat}{cs:List Value}(h:w.rangeAt b o cs):w.drew.rangeAt b o cs:=by simpa using h
def Mb:Mk->Mk
 | .own _ m=>m
 | _=>.no
theorem ajM{my m':Mk}(h:pV my=some m'):my≠.gone/\(∀a b,my≠.pr a b)/\Mb my=m':=by
 cases my with
 | no=>simp only[pV,aK]at h;exact⟨by simp,by simp,h⟩
 | own s m=>simp only[pV,aK]at h;exact⟨by simp,by simp,h⟩
 | gone=>simp[pV]at h
 | pr a b=>simp[pV]at h
theorem KL{h:Array Obj}{Pr:BS}{e:Ty}{m:Mk}{xs:(Ty.sl e).den}{c:List Value}{F:BS}(hm:m≠.gone)(hp:∀a b,m≠.pr a b)(rep:az h Pr (.sl e) m xs c F) :
  ∃ad cap cells Fs,c=[.slice ad xs.length cap]/\cells.length=xs.length * e.width/\xs.length<=cap/\
   ((xs.length=0/\cells=[])\/∃b o cs,ad=some ⟨b,o,none⟩/\sY h b cs/\o+xs.length * e.width<=cs.size/\cells=sub cs o (xs.length * e.width))/\
   El h Pr e (Mb m) xs cells Fs/\(∀i,Sub (Fs i) F)/\
   (∀s m',m=.own s m'->cap=0\/∃b cs,ad=some ⟨b,0,none⟩/\F b/\jy h b cs/\cap * e.width<=cs.size/\(∀i,¬ Fs i b)/\cells=sub cs 0 (xs.length * e.width)):=by
 have hsub:∀(cs:Array Value)(o i:Nat),i<xs.length->o+xs.length * e.width<=cs.size->((sub cs o (xs.length * e.width)).drop (i * e.width)).take e.width=sub cs (o+i * e.width) e.width:=by
  intro cs o i hi hs;have:i * e.width+e.width<=xs.length * e.width:=by have:=fq e.width (show i+1<=xs.length by exact hi);rw[mg]at this;exact this
  simp only[sub,xQ,qT,uW];congr 1;omega
 cases m with
 | gone=>exact absurd rfl hm
 | pr a b=>exact absurd rfl (hp a b)
 | no=>
  simp only[az]at rep;obtain⟨ad,cap,rfl,hl,re⟩:=rep;by_cases hne:xs=[]
  .subst hne;exact⟨ad,cap,[],fun _=>Nil,rfl,by simp,hl,.inl ⟨rfl,rfl⟩,⟨fun i hi=>by simp at hi,fun i j _=>cC.nil _⟩,fun i=>Sub.nil _,fun s m' e=>by simp at e⟩
  .obtain⟨b,o,cs,rfl,hp,hb,hs,re⟩:=re hne;refine⟨_,cap,sub cs o (xs.length * e.width),fun _=>Nil,rfl,GG hs,hl,.inr ⟨b,o,cs,rfl,hb,hs,rfl⟩,⟨fun i hi=>?_,fun i j _=>cC.nil _⟩,fun i=>Sub.nil _,fun s m' e=>by simp at e⟩;rw[hsub cs o i hi hs];exact re i hi
 | own s m'=>
  simp only[az]at rep;obtain⟨ad,cap,rfl,hl,re⟩:=rep;rcases re with rfl | ⟨b,cs,rfl,fb,hb,hs,Fs,pZ,lH,re⟩
  .have hx:xs=[]:=lE.1 (by omega);subst hx;exact⟨ad,0,[],fun _=>Nil,rfl,by simp,hl,.inl ⟨rfl,rfl⟩,⟨fun i hi=>by simp at hi,fun i j _=>cC.nil _⟩,fun i=>Sub.nil _,fun s m' e=>.inl rfl⟩
  .have hfit:0+xs.length * e.width<=cs.size:=by have:=fq e.width hl;omega
   refine⟨_,cap,sub cs 0 (xs.length * e.width),Fs,rfl,GG hfit,hl,.inr ⟨b,0,cs,rfl,hb.CL,hfit,rfl⟩,⟨fun i hi=>?_,lH⟩,fun i=>(pZ i).1,
    fun s m' e=>.inr ⟨b,cs,rfl,fb,hb,hs,fun i=>(pZ i).2,rfl⟩⟩
   rw[hsub cs 0 i hi hfit,kC];exact re i hi
end
theorem aE.oB{h h2:Array Obj}{S:St}{g:aA}{tmps:Array Value}{H:BS}(st:aE h S g tmps H)(hk:∀b,b<h.size->¬ H b->h2[b]? = h[b]?)(hsz:h.size<=h2.size)
  (H2:BS) (Ac:∀b,H2 b->H b\/(h.size<=b/\b<h2.size)):aE h2 S g tmps H2:=by
 have kP:∀b,g.Pr b->h2[b]? = h[b]?:=fun b hb=>hk b (st.bR b hb) (fun hH=>st.bM b hH hb);have kG:∀r,(S.root r).isSome->∀b,g.G r b->h2[b]? = h[b]?:=fun r h1 b hb=>hk b (st.cj r b h1 hb) (fun hH=>st.hand r h1 b hb hH);refine { len:=st.len,gy:=st.gy,slots:=?_,roots:=?_,d6:=st.d6,ez:=st.ez,hand:=?_,bM:=?_,bR:=?_,cj:=?_,ew:=?_,tag:=st.tag,own:=st.own,fc:=?_,fX:=fun b hb=>st.fX b (by omega),p0:=st.p0,kZ:=st.kZ }
 .intro t;refine(qe.keep (Sub.refl _) kP _).1 _ (st.slots t) (AV.ej (fun r p=>?_) (fun r p s=>?_) _)
  .exact(nR st (.inl rfl) rfl rfl (fun h1 b hb=>kG r h1 b hb)).1 p
  .exact(nR st (.inl rfl) rfl rfl (fun h1 b hb=>kG r h1 b hb)).2 p s
 .intro r R hR;have h1:(S.root r).isSome:=by rw[hR];rfl
  obtain⟨F,q1,q2,q3,q4,q5⟩:=st.roots r R hR;refine⟨F,az.mono (Sub.refl _) kP _ q1 (Sub.refl _) (fun b hb=>kG r h1 b (q2 b hb)),q2,q3,?_,q5⟩;intro hm;obtain⟨b,e1,e2,e3⟩:=q4 hm;exact⟨b,e1,e2,e3.congr (kG r h1 b e2)⟩
 .intro r h1 b hb hz;rcases Ac b hz with h3 | h3
  .exact st.hand r h1 b hb h3
  .have:=st.cj r b h1 hb;omega
 .intro b hz hb;rcases Ac b hz with h3 | h3
  .exact st.bM b h3 hb
  .have:=st.bR b hb;omega
 .intro b hb;have:=st.bR b hb;omega
 .intro r b h1 hb;have:=st.cj r b h1 hb;omega
 .intro b hz;rcases Ac b hz with h3 | h3
  .have:=st.ew b h3;omega
  .exact h3.2
 .intro b hz;rcases Ac b hz with h3 | h3
  .exact st.fc b h3
  .exact st.fX b h3.1
theorem El.append{h:Array Obj}{Pr:BS}{e:Ty}{mi:Mk}{xs ys:List e.den}{c1 c2:List Value}{F1 F2:Nat->BS}(k1:El h Pr e mi xs c1 F1)(k2:El h Pr e mi ys c2 F2)
  (nQ:c1.length=xs.length * e.width) (iK:c2.length=ys.length * e.width) (hd:∀i j,cC (F1 i) (F2 j)) :
  El h Pr e mi (xs++ys) (c1++c2) (fun i=>if i<xs.length then F1 i else F2 (i-xs.length)):=by
 refine⟨fun i hi=>?_,fun i j hij=>?_⟩
 .rw[cV]at hi;by_cases h1:i<xs.length
  .simp only[h1,aX];have e1:(xs++ys).getD i e.zero=xs.getD i e.zero:=by simp[List.getD,kA h1]
   have hw:i * e.width+e.width<=c1.length:=by rw[nQ];have:=fq e.width (show i+1<=xs.length by exact h1);rw[mg]at this;exact this
   have e2:((c1++c2).drop (i * e.width)).take e.width=(c1.drop (i * e.width)).take e.width:=by rw[Cb (by omega),pz (by rw[yt];omega)]
   rw[e1,e2];exact k1.rep i h1
  .simp only[h1,dX];have e1:(xs++ys).getD i e.zero=ys.getD (i-xs.length) e.zero:=by simp[List.getD,mc (by omega:xs.length<=i)]
   have e2:(c1++c2).drop (i * e.width)=c2.drop ((i-xs.length) * e.width):=by
    have h3:c1.length<=i * e.width:=by rw[nQ];exact fq _ (by omega)
    rw[Iy,vN h3,gA,nQ,Nat.sub_mul]
   rw[e1,e2];exact k2.rep (i-xs.length) (by omega)
 .intro b bQ gw;by_cases h1:i<xs.length<;>by_cases h2:j<xs.length<;>simp only[h1,h2,aX,dX]at bQ gw
  .exact k1.d6 i j hij b bQ gw
  .exact hd i _ b bQ gw
  .exact hd j _ b gw bQ
  .exact k2.d6 _ _ (by omega) b bQ gw
theorem VB{cs:Array Value}{l:List Value}{i w n:Nat}(h:cs.toList.take n=l)(hi:i * w+w<=n):sub cs (i * w) w=(l.drop (i * w)).take w:=by rw[<-h];simp only[sub,xQ,uW];congr 1;omega
section
variable {P:Program} {C:Ctx} {D:Den C} {S:St} {g:aA} {w:World} {tmps:Array Value} {a:Act} {ρ:Operand->AV}
variable {A:bY} {site:Nat} {hint:Bool} (bn:iD P C) (st:aE w.heap S g tmps Nil) (hρ:∀x,qe w.heap S g (ρ x) (a.eval x))
include bn st hρ
theorem aby{o:Oper}{c:Call}{x y:Operand}{t t':TypeId}{e:Ty}(ho:o.op=.call c)(hc:c.callee=.builtin .append)(hargs:c.args = #[x,y])
  (h0:c.argTypes[0]? = some t) (h1:c.argTypes[1]? = some t') (hT:C.ty t=.sl e) (CP:C.ty t'=.sl e) (ok:nO A S o.dst site)
  (ht:b6 (DG A S.rt o.dst site e (ρ x) (ρ y))):fB P S g w tmps (DG A S.rt o.dst site e (ρ x) (ρ y)) ((execOp a.eval o).run P w):=by
 unfold DG at ht⊢;cases hx:tk S.rt (.sl e) (ρ x) with
 | none=>rw[hx]at ht;exact absurd ht b6.fail
 | some z=>
  obtain⟨mx,xs,d8⟩:=z;rw[hx]at ht;cases mx with
  | own s m=>
   simp only at ht⊢;cases hy:tk d8 (.sl e) (ρ y) with
   | none=>rw[hy]at ht;exact absurd ht b6.fail
   | some z=>
    obtain⟨my,ys,fk⟩:=z;rw[hy]at ht;simp only at ht⊢;cases hmk:pV my with
    | none=>rw[hmk]at ht;exact absurd ht b6.fail
    | some m'=>
     rw[hmk]at ht;simp only at ht⊢;by_cases oH:(m.meet m').ax=true
     .simp only[oH,aX]at ht⊢;obtain⟨⟨v,rt'⟩,hd⟩:=ht true;by_cases hbd:xs.length+ys.length<=f_
      .have gq:decide (xs.length+ys.length<=f_)=true:=bG hbd;rw[gq]at hd⊢;have hd':(dR A fk o.dst site (.sl e) (.own 0 (m.meet m')) (xs++ys) false).dec true=some (v,rt'):=hd;obtain⟨c1,g1,F1,ev1,cJ⟩:=yZ _ st hx (hρ x);obtain⟨c2,g2,F2,DZ,Jv⟩:=yZ (S:=⟨S.sl,d8⟩) _ cJ.st hy (cJ.kp _ _ (hρ y));have o9:az w.heap g2.Pr (.sl e) (.own s m) xs c1 F1:=az.mono Jv.pr (fun _ _=>rfl) _ cJ.rep (Sub.refl _) (fun _ _=>rfl);obtain⟨oy,e9,cY,Fs1,rfl,nQ,Et,xq,W9,ua,xl⟩:=KL (by simp) (by simp) o9;obtain⟨XS,XT,em'⟩:=ajM hmk;obtain⟨s8,lP,aV,pR,rfl,iK,LB,nj,zu,nZ,_⟩:=KL XS XT Jv.rep;rw[em']at zu;obtain⟨tr,lU⟩:=Mk.fu m m';obtain⟨KS,D1,p1,p2,p3,p4⟩:=W9.aQ tr;obtain⟨KU,D2,q1,q2,q3,q4⟩:=zu.aQ lU;have h12:cC F1 F2:=fun b bQ gw=>Jv.d6 b gw (.inr bQ);have hD:∀b,(D1 b\/D2 b)->Un (Un Nil F1) F2 b:=by
        rintro b (hb | hb)
        .obtain⟨i,hi⟩:=p2 b hb;exact .inl (.inr (ua i b hi))
        .obtain⟨i,hi⟩:=q2 b hb;exact .inr (nZ i b hi)
       have rZ:=Jv.st.cR (fun b=>D1 b\/D2 b) hD
       let g3:aA:={ g2 with Pr:=Un g2.Pr fun b=>D1 b\/D2 b }
       have ela:El w.heap g3.Pr e (m.meet m') xs cY KS:=p4.mono (fun b hb=>hb.imp id .inl) (fun _ _=>rfl) (fun _ _ _=>rfl);have elb:El w.heap g3.Pr e (m.meet m') ys aV KU:=q4.mono (fun b hb=>hb.imp id .inr) (fun _ _=>rfl) (fun _ _ _=>rfl);have W_:=El.append ela elb nQ iK (fun i j b bQ gw=>h12 b (ua i b (p1 i b bQ)) (nZ j b (q1 j b gw)));generalize hFF:(fun i=>if i<xs.length then KS i else KU (i-xs.length))=FF at W_;have D8:∀i b,FF i b->Un (Un Nil F1) F2 b/\¬ (D1 b\/D2 b):=by
        intro i b hb;rw[<-hFF]at hb;split at hb
        .refine⟨.inl (.inr (ua i b (p1 i b hb))),?_⟩;rintro(h3 | h3)
         .exact p3 i b hb h3
         .obtain⟨j,hj⟩:=q2 b h3;exact h12 b (ua i b (p1 i b hb)) (nZ j b hj)
        .refine⟨.inr (nZ _ b (q1 _ b hb)),?_⟩;rintro(h3 | h3)
         .obtain⟨j,hj⟩:=p2 b h3;exact h12 b (ua j b hj) (nZ _ b (q1 _ b hb))
         .exact q3 _ b hb h3
       obtain⟨u,vV,C6,L8⟩:=bn.desc hT;obtain⟨u',sq,_,_⟩:=bn.desc CP;have ku:=bn u L8;obtain⟨i,i1,i2,i3,i4⟩:=ku.info;have hp:=ku.pos;rw[C6]at i2 hp;have UY:a.eval x=.slice oy xs.length e9:=ev1;have K_:a.eval y=.slice s8 ys.length lP:=DZ;have hsame:g3.cT g:=cJ.same.trans (Jv.same.trans ⟨rfl,rfl,rfl⟩);have hsrc:∀{ad:Option Addr}{n:Nat}{cells:List Value},((n=0/\cells=[])\/∃b o cs,ad=some ⟨b,o,none⟩/\sY w.heap b cs/\o+n * e.width<=cs.size/\cells=sub cs o (n * e.width))->
         (n=0/\cells=[])\/∃b o,ad=some ⟨b,o,none⟩/\w.rangeAt b o cells:=by
        rintro ad n cells (h | ⟨b,o,cs,h1,h2,h3,h4⟩)
        .exact .inl h
        .exact .inr ⟨b,o,h1,h4 ▸ Du h2 h3⟩
       have hex:(execOp a.eval o).run P w=((Builtin.append_ c.argTypes o.type #[.slice oy xs.length e9,.slice s8 ys.length lP]).run P w).andThen fun a w'=>.ok (.value a) w':=by simp[execOp,ho,resolve,hc,invoke,builtin,hargs,UY,K_,Sem.run_bind]
       have xk:∀u∈aV,u.oneCell'=true:=by
        intro u hu;obtain⟨k,hk,rfl⟩:=List.getElem_of_mem hu;have hk2:k / e.width<ys.length:=by rw[iK]at hk;exact Nat.div_lt_of_lt_mul (by rw[u6];exact hk)
        have r:=zu.rep (k / e.width) hk2;refine az.one _ r _ ?_;have h3:k / e.width * e.width+k % e.width=k:=by rw[u6];exact FX k e.width
        have h4:k % e.width<e.width:=Nat.mod_lt _ hp;rw[mT];refine⟨k % e.width,?_⟩;rw[gm,ak h4,iF,h3,gz hk]
       have hlen:(xs++ys).length=xs.length+ys.length:=cV;have jO:(cY++aV).length=(xs.length+ys.length) * e.width:=by rw[cV,nQ,iK,jE]
       have hn2:=DC (P:=P) (w:=w) (size:=e.width) (n:=ys.length) (len:=ys.length) (cap:=lP) (ad:=s8) iK (hsrc nj);rw[<-i2]at hn2;by_cases hroom:xs.length+ys.length<=e9
       .rcases xl s m rfl with hc0 | ⟨b,cs,Ec,rN,zx,oC,D9,jN⟩
        .have hx0:xs=[]:=lE.1 (by omega);have hy0:ys=[]:=lE.1 (by omega);subst hx0;subst hy0;have g_:aV=[]:=lE.1 (by rw[iK];simp);subst g_;have hr:=WW (P:=P) w (ty:=o.type) h0 h1 vV sq i1 hn2 hroom (w':=w) (xa:=oy) (fun ad _=>by simp[storeCells]) (fun _=>rfl);have zb:az w.heap g3.Pr (.sl e) (.own 0 (m.meet m')) ([]++[]) [.slice oy (([]:List e.den).length+([]:List e.den).length) e9] Nil:=by simp only[az];exact⟨oy,e9,rfl,by simp,.inl hc0⟩
         obtain⟨g4,s1,s2,s3⟩:=Cv (S:=S) (g1:=g3) rZ zb (aL.ax _ (by simp[Mk.ax,oH,oa])) (Sub.nil _) ok hd';exact fB.value (w':=w) (by rw[hex,hr];rfl) ⟨true,v,rt',hd,g4,s1,s2,hsame.trans s3,.refl _ _⟩
        .subst Ec;have hfit:xs.length * e.width+aV.length<=cs.size:=by rw[iK,<-jE];exact nN (fq _ hroom) oC
         have sj:(storeCells (⟨b,xs.length * e.width,none⟩:Addr) aV).run P w=.ok () (w.setCells b (xs.length * e.width) aV):=by have th:=AY (w:=w) zx hfit;have:=run_storeCells_cells (P:=P) b (xs.length * e.width) aV 0 w (fun j hj=>by simpa using (th j hj).1) (fun j hj=>by simpa using (th j hj).2) xk;simpa using this
         have hr:=WW (P:=P) w (ty:=o.type) h0 h1 vV sq i1 hn2 hroom (w':=w.setCells b (xs.length * e.width) aV) (xa:=some ⟨b,0,none⟩)
          (fun ad e0=>by simp only[aK]at e0;subst e0;rw[Addr.add_mid,kC,i2];exact sj) (fun h=>by simp at h)
         have cZ:∀b',b'≠b->(w.setCells b (xs.length * e.width) aV).heap[b']? = w.heap[b']?:=fun b' hb'=>Ku aV _ w b' hb';have U5:Un (Un Nil F1) F2 b:=.inl (.inr rN);have XV:¬ (D1 b\/D2 b):=by
          rintro(h3 | h3)
          .obtain⟨j,hj⟩:=p2 b h3;exact D9 j hj
          .obtain⟨j,hj⟩:=q2 b h3;exact h12 b rN (nZ j b hj)
         have Lc:∀i,¬ FF i b:=by
          intro i hb;rw[<-hFF]at hb;split at hb
          .exact D9 i (p1 i b hb)
          .exact h12 b rN (nZ _ b (q1 _ b hb))
         have hPb:¬ g3.Pr b:=fun h=>rZ.bM b ⟨U5,XV⟩ h;have st4:=rZ.oB (h2:=(w.setCells b (xs.length * e.width) aV).heap) (fun b' _ hb'=>cZ b' (fun e0=>hb' (e0 ▸ ⟨U5,XV⟩))) (by rw[vZ];exact ct _)
          (fun b=>Un (Un Nil F1) F2 b/\¬ (D1 b\/D2 b)) (fun b' hb'=>.inl hb')
         obtain⟨ty,lo,hi,he,hfz⟩:=zx;obtain⟨gC,Eh,qA⟩:=VA aV (xs.length * e.width) w cs he hfit;have sk:gC.size=cs.size:=by rw[<-iO,qA,Dv (by simpa using hfit),iO]
         have ur:jy (w.setCells b (xs.length * e.width) aV).heap b gC:=⟨ty,lo,hi,Eh,fun i hi'=>hfz i (by omega)⟩
         have xw:gC.toList.take ((xs.length+ys.length) * e.width)=cY++aV:=by
          have hmin:min (xs.length * e.width) cs.toList.length=xs.length * e.width:=by have h7:cs.toList.length=cs.size:=iO;omega
          rw[qA,jN];simp only[bU,sub,jo];rw[pz (by
           rw[cV,eH,iK,hmin,jE];exact ct _)]
          rw[jX (by
           rw[cV,eH,iK,hmin,jE];exact ct _)]
         have Xa:El (w.setCells b (xs.length * e.width) aV).heap g3.Pr e (m.meet m') (xs++ys) (cY++aV) FF:=
          W_.mono (Sub.refl _) (fun b' hb'=>cZ b' (fun e0=>hPb (e0 ▸ hb'))) (fun i b' hb'=>cZ b' (fun e0=>Lc i (e0 ▸ hb')))
         have ru:=Xa.row ur (cap:=e9) (by rw[sk];exact oC) (by rw[hlen];exact hroom)
          (fun i hi'=>VB xw (by
           rw[hlen]at hi';have:=fq e.width (show i+1<=xs.length+ys.length by exact hi');rw[mg]at this;exact this)) Lc 0
         rw[hlen]at ru;obtain⟨g4,s1,s2,s3⟩:=Cv (S:=S) (g1:=g3) st4 ru (aL.ax _ (by simp[Mk.ax,oH,oa]))
          (fun b' hb'=>by rcases hb' with rfl | ⟨i,hb'⟩;exact⟨U5,XV⟩;exact D8 i b' hb') ok hd'
         have fS:=Up (b:=b) aV (xs.length * e.width) w;have Xr:g.L b:=by have:=Jv.st.fc b U5;rw[(cJ.same.trans Jv.same).2.1]at this;exact this
         exact fB.value (w':=w.setCells b (xs.length * e.width) aV) (by rw[hex,hr];rfl) ⟨true,v,rt',hd,g4,s1,s2,hsame.trans s3,
          ⟨fS.1,fS.2.1,fS.2.2,by rw[vZ];exact ct _,fun b' _ hb'=>cZ b' (fun e0=>hb' (e0 ▸ Xr))⟩⟩
       .have Xs:xs.length+ys.length<=274877906944:=hbd;have xb:=DC (P:=P) (w:=w.drew) (size:=e.width) (n:=ys.length) (len:=ys.length) (cap:=lP) (ad:=s8) iK (by
         rcases hsrc nj with h | ⟨b,o',h3,h4⟩
         .exact .inl h
         .exact .inr ⟨b,o',h3,WV h4⟩)
        have w_:=DC (P:=P) (w:=w.drew) (size:=e.width) (n:=xs.length) (len:=xs.length) (cap:=e9) (ad:=oy) nQ (by
         rcases hsrc xq with h | ⟨b,o',h3,h4⟩
         .exact .inl h
         .exact .inr ⟨b,o',h3,WV h4⟩)
        rw[<-i2]at xb w_;have hg:e9<xs.length+ys.length:=by omega
        have oF:=Room.nextslicecap_le' (need:=xs.length+ys.length) (old:=e9) hg;have hfit:Builtin.nextslicecap (xs.length+ys.length) e9 * i.bytes<=281474976710656:=by have h5:Builtin.nextslicecap (xs.length+ys.length) e9 * i.bytes<=549755813888 * 255:=Nat.mul_le_mul (by omega) i4;omega
        have hr:=Qe (P:=P) w (ty:=o.type) h0 h1 vV sq i1 i3 xb w_ hg (by omega) hfit;have hge:=grownCap_ge w (xs.length+ys.length) e9 u;generalize grownCap w (xs.length+ys.length) e9 u=cap' at hr hge;generalize mj:(cY.toArray++aV.toArray++Builtin.zeroCells (dK (C.ty u) (zc (C.ty u))).cells (cap'-(xs.length+ys.length)))=cs at hr;have Ei:cs.toList.take ((xs.length+ys.length) * e.width)=cY++aV:=by rw[<-mj];simp only[Array.toList_append,eG];rw[<-eG,pz (by rw[jO];exact ct _),jX (by rw[jO];exact ct _)]
        have Ej:cs.size=cap' * e.width:=by
         rw[<-mj];have hz:(dK (C.ty u) (zc (C.ty u))).cells.size=e.width:=by rw[HT bn st hρ,C6];simp[KO]
         have h9:cY.length+aV.length=(xs.length+ys.length) * e.width:=by rw[<-cV];exact jO
         simp only[Array.size_append,List.size_toArray,size_zeroCells,hz,h9];rw[<-jE];congr 1;omega
        have st4:=rZ.jF cs u;have Ld:∀i b,FF i b->b<w.heap.size:=fun i b hb=>rZ.ew b (D8 i b hb);have Xa:El (w.heap.push (.cells cs u)) g3.Pr e (m.meet m') (xs++ys) (cY++aV) FF:=
         W_.mono (Sub.refl _) (fun b hb=>zV b (rZ.bR b hb)) (fun i b hb=>zV b (Ld i b hb))
        have ru:=Xa.row (b:=w.heap.size) jy.new (cap:=cap') (by rw[Ej];exact ct _) (by rw[hlen];exact hge)
          (fun i hi'=>VB Ei (by
           rw[hlen]at hi';have:=fq e.width (show i+1<=xs.length+ys.length by exact hi');rw[mg]at this;exact this)) (fun i hb=>I1 _ (Ld i _ hb)) 0
        rw[hlen]at ru;obtain⟨g4,s1,s2,s3⟩:=Cv (S:=S) (g1:=g3) st4 ru (aL.ax _ (by simp[Mk.ax,oH,oa]))
          (fun b' hb'=>by rcases hb' with rfl | ⟨i,hb'⟩;exact .inr rfl;exact .inl (D8 i b' hb')) ok hd'
        refine fB.value (w':=w.drew.alloc (.cells cs u)) (by rw[hex,hr];rfl) ⟨true,v,rt',hd,g4,s1,s2,hsame.trans s3,?_⟩;exact⟨rfl,rfl,rfl,by show w.heap.size<=(w.heap.push _).size;simp,fun b hb _=>zV b hb⟩
      .have gq:decide (xs.length+ys.length<=f_)=false:=b_ hbd;rw[gq]at hd;simp[Tr.dec]at hd
     .rw[af oH]at ht;exact absurd ht b6.fail
  | _=>exact absurd ht b6.fail
end
theorem adn{h h2:Array Obj}{base:fI}{v:Value}{F:BS}(hq:yV h base [v] F)(hk:∀b o,base=some (b,o)->h2[b]? = h[b]?):zn h h2 base [v]:=by intro b' o e cs' xh;obtain⟨An,cs3,Eu,w4,xu⟩:=hq b' o e;refine⟨cs',xh.congr (hk b' o e),?_⟩;have:=xh.uniq Eu;subst this;have hr:=Hg (c:=cs'.toList) (n:=o) (k:=1) (by rw[iO];exact w4);have zF:(cs'.toList.drop o).take 1=[v]:=xu;rw[zF]at hr;exact hr.symm
theorem Gg:∀{m:Mk},m.still=true->m.whole=true
 | .no,_=>rfl
 | .gone,h=>by simp[Mk.still]at h
 | .own _ _,h=>by simp[Mk.still]at h
 | .pr a b,h=>by
  simp only[Mk.still,bI]at h;simp only[Mk.whole,bI];exact⟨Gg h.1,Gg h.2⟩
theorem Fu{h:Array Obj}{Pr:BS}{e:Ty}{l:List e.den}{cells:List Value}{b cap:Nat}{cs:Array Value}(hp:Pr b)(hb:sY h b cs)(hfit:l.length * e.width<=cs.size)(hcap:l.length<=cap)
  (sn:∀i,i<l.length->sub cs (i * e.width) e.width=(cells.drop (i * e.width)).take e.width) (el:∀i,i<l.length->az h Pr e .no (l.getD i e.zero) ((cells.drop (i * e.width)).take e.width) Nil) :
  az h Pr (.sl e) .no l [.slice (some ⟨b,0,none⟩) l.length cap] Nil:=by
 simp only[az];exact⟨_,cap,rfl,hcap,fun _=>⟨b,0,cs,rfl,hp,hb,by omega,fun i hi=>by rw[kC,sn i hi];exact el i hi⟩⟩
section
variable {P:Program} {C:Ctx} {D:Den C} {S:St} {g:aA} {w:World} {tmps:Array Value} {a:Act} {ρ:Operand->AV}
variable {A:bY} {site:Nat} {hint:Bool} (bn:iD P C) (st:aE w.heap S g tmps Nil) (hρ:∀x,qe w.heap S g (ρ x) (a.eval x))
include bn st hρ
theorem akA{o:Oper}{c:Call}{x y:Operand}{t t':TypeId}{e:Ty}(ho:o.op=.call c)(hc:c.callee=.builtin .append)(hargs:c.args = #[x,y])
  (h0:c.argTypes[0]? = some t) (h1:c.argTypes[1]? = some t') (hT:C.ty t=.sl e) (CP:C.ty t'=.sl e)
  {r:Nat} {p:Path} {R:aC} {s:Nat} {m:Mk} {xs ys:List e.den} (EC:ρ x=.b8 r p s) (zG:ρ y=.val (.sl e) ys) (hR:S.root r=some R) (hf:focus R.ty R.ms R.x p=some ⟨.sl e,.own s m,xs⟩)
  (hm:m.still=true) {m':Mk} {x':R.ty.den} (hput:put R.ty R.ms R.x p (.sl e) .no xs=some (m',x')) (hbd:xs.length+ys.length<=f_) :
  ∃val w',(execOp a.eval o).run P w=.ok (.value val) w'/\Post S g w tmps (.val (.sl e) (xs++ys)) (S.aI r (some { R with ms:=m',x:=x' })).rt val w':=by
 have hx:=hρ x;have hy:=hρ y;rw[EC]at hx;rw[zG]at hy;simp only[qe]at hx hy;obtain⟨c2,Jq,K_⟩:=hy;obtain⟨hin,s9,eu⟩:=hx R hR e m xs hf;obtain⟨base,c0,F,q1,o9,q3,q4,q5,q6⟩:=st.m6 hR hf hin;rw[eu]at q1;simp only[aK,aY]at q1;obtain⟨rfl,rfl⟩:=q1;have bP:(S.root r).isSome:=by rw[hR];rfl
 obtain⟨oy,e9,cY,Fs1,DW,nQ,Et,xq,W9,ua,xl⟩:=KL (by simp) (by simp) o9;simp only[eZ,iQ]at DW;rw[DW]at q4 q6 o9;obtain⟨s8,lP,aV,pR,rfl,iK,LB,nj,zu,nZ,_⟩:=KL (by simp) (by simp) Jq;obtain⟨u,vV,C6,L8⟩:=bn.desc hT;obtain⟨u',sq,_,_⟩:=bn.desc CP;have ku:=bn u L8;obtain⟨i,i1,i2,i3,i4⟩:=ku.info;have hp:=ku.pos;rw[C6]at i2 hp;have z_:a.eval y=.slice s8 ys.length lP:=K_;have ED:(Mk.own s m).whole=true:=by show m.whole=true;exact Gg hm
 have hsrc:∀{ad:Option Addr}{n:Nat}{cells:List Value},((n=0/\cells=[])\/∃b o cs,ad=some ⟨b,o,none⟩/\sY w.heap b cs/\o+n * e.width<=cs.size/\cells=sub cs o (n * e.width))->
   (n=0/\cells=[])\/∃b o,ad=some ⟨b,o,none⟩/\w.rangeAt b o cells:=by
  rintro ad n cells (h | ⟨b,o,cs,h1,h2,h3,h4⟩)
  .exact .inl h
  .exact .inr ⟨b,o,h1,h4 ▸ Du h2 h3⟩
 have hex:(execOp a.eval o).run P w=((Builtin.append_ c.argTypes o.type #[.slice oy xs.length e9,.slice s8 ys.length lP]).run P w).andThen fun a w'=>.ok (.value a) w':=by simp[execOp,ho,resolve,hc,invoke,builtin,hargs,DW,z_,Sem.run_bind]
 have xk:∀u∈aV,u.oneCell'=true:=by
  intro u hu;obtain⟨k,hk,rfl⟩:=List.getElem_of_mem hu;have hk2:k / e.width<ys.length:=by rw[iK]at hk;exact Nat.div_lt_of_lt_mul (by rw[u6];exact hk)
  have r:=zu.rep (k / e.width) hk2;refine az.one _ r _ ?_;have h3:k / e.width * e.width+k % e.width=k:=by rw[u6];exact FX k e.width
  have h4:k % e.width<e.width:=Nat.mod_lt _ hp;rw[mT];refine⟨k % e.width,?_⟩;rw[gm,ak h4,iF,h3,gz hk]
 have hlen:(xs++ys).length=xs.length+ys.length:=cV;have jO:(cY++aV).length=(xs.length+ys.length) * e.width:=by rw[cV,nQ,iK,jE]
 have hn2:=DC (P:=P) (w:=w) (size:=e.width) (n:=ys.length) (len:=ys.length) (cap:=lP) (ad:=s8) iK (hsrc nj);rw[<-i2]at hn2;have UJ:az w.heap (Un g.Pr F) (.sl e) .no xs [.slice oy xs.length e9] Nil:=az.share _ ED o9
 -- zf elements,shared
 have elx:∀k,k<xs.length->az w.heap g.Pr e .no (xs.getD k e.zero) ((cY.drop (k * e.width)).take e.width) Nil:=fun k hk=>az.eM e hm (W9.rep k hk);have ely:∀k,k<ys.length->az w.heap g.Pr e .no (ys.getD k e.zero) ((aV.drop (k * e.width)).take e.width) Nil:=fun k hk=>az.eM e rfl (zu.rep k hk);have DY:∀k,k<(xs++ys).length->az w.heap g.Pr e .no ((xs++ys).getD k e.zero) (((cY++aV).drop (k * e.width)).take e.width) Nil:=by have h:=El.append (h:=w.heap) (Pr:=g.Pr) (e:=e) (mi:=.no) (xs:=xs) (ys:=ys) (c1:=cY) (c2:=aV) (F1:=fun _=>Nil) (F2:=fun _=>Nil) ⟨elx,fun _ _ _=>cC.nil _⟩ ⟨ely,fun _ _ _=>cC.nil _⟩ nQ iK (fun _ _=>cC.nil _);intro k hk;have:=h.rep k hk;exact az.mono (Sub.refl _) (fun _ _=>rfl) _ this (by intro b hb;split at hb<;>exact hb) (fun _ _=>rfl)
 have pY:∀b,F b->g.G r b:=q3;have hPF:∀b,g.Pr b->¬ F b:=fun b hb hF=>st.ez r bP b (q3 b hF) hb
 -- zf state behind
 have fin:∀(h2:Array Obj)(Dd:BS),(∀b,b<w.heap.size->¬ F b->h2[b]? = w.heap[b]?)->w.heap.size<=h2.size->(∀b,F b->Dd b)->(∀b,Dd b->F b\/w.heap.size<=b)->(∀b,Dd b->b<h2.size)->
   az h2 (Un g.Pr Dd) (.sl e) .no xs [.slice oy xs.length e9] Nil->∀val,(∃c3,az h2 (Un g.Pr Dd) (.sl e) .no (xs++ys) c3 Nil/\val=dK (.sl e) c3)->
   ∃g',aE h2 (S.aI r (some { R with ms:=m',x:=x' })) g' tmps Nil/\qe h2 (S.aI r (some { R with ms:=m',x:=x' })) g' (.val (.sl e) (xs++ys)) val/\g'.cT g:=by
  intro h2 Dd k1 k2 k3 k4 k5 k6 val hval;obtain⟨g2,s1,s2,s3,s4,s5,s6,s7⟩:=q6 0 0 h2 .no xs [.slice oy xs.length e9] Nil Dd m' x' (fun u=>Ky _) (fun b hb hF _=>k1 b hb hF) k2
   (adn q4 fun b o e0=>k1 b (st.cj r b bP (q5 b o e0)) (q4 b o e0).1) k6 (fun b _ h=>h.elim) (fun b hb=>by
    rcases hb with hb | hb
    .exact hb.elim
    .rcases k4 b hb with h | h
     .exact .inl h
     .exact .inr (.inr h)) (fun b hb=>hb.elim (fun h=>h.elim) (k5 b)) hput trivial (by simp only[aL]) (fun _=>rfl)
   (by
    intro p' t1 n1 _ gY _;cases p' with
    | nil=>simp only[q8,aK,aY]at gY;obtain⟨rfl,rfl⟩:=gY;exact⟨trivial,fun bp cp ha=>⟨cp,by simp only[cv]at ha⊢;exact ha,fun _ _ _ _=>rfl⟩⟩
    | cons z p'=>cases z<;>simp[q8]at gY)
  obtain⟨c3,r3,ev3⟩:=hval;refine⟨g2,s1.bB (Sub.nil _),?_,s4⟩;simp only[qe];exact⟨c3,az.mono (fun b hb=>hb.elim (s2 b) (s3 b)) (fun _ _=>rfl) _ r3 (Sub.refl _) (fun _ _=>rfl),ev3⟩
 by_cases hroom:xs.length+ys.length<=e9
 .rcases xl s m rfl with hc0 | ⟨b,cs,Ec,rN,zx,oC,D9,jN⟩
  .have hx0:xs.length=0:=by omega
   have hy0:ys.length=0:=by omega
   have g_:aV=[]:=lE.1 (by rw[iK,hy0];simp);have hr:=WW (P:=P) w (ty:=o.type) h0 h1 vV sq i1 hn2 hroom (w':=w) (xa:=oy) (fun ad _=>by rw[g_];simp[storeCells]) (fun _=>rfl);obtain⟨g',z1,z2,z3⟩:=fin w.heap F (fun _ _ _=>rfl) (ct _) (fun _ h=>h) (fun _ h=>.inl h) (fun b h=>st.cj r b bP (q3 b h)) UJ (.slice oy (xs.length+ys.length) e9)
    ⟨[.slice oy (xs++ys).length e9],by
     simp only[az];exact⟨oy,e9,rfl,by rw[hlen];exact hroom,fun hne=>absurd (lE.1 (by rw[hlen];omega)) hne⟩,by rw[hlen];rfl⟩
   exact⟨_,_,by rw[hex,hr];rfl,g',z1,z2,z3,.refl _ _⟩
  .subst Ec;have hfit:xs.length * e.width+aV.length<=cs.size:=by rw[iK,<-jE];exact nN (fq _ hroom) oC
   have sj:(storeCells (⟨b,xs.length * e.width,none⟩:Addr) aV).run P w=.ok () (w.setCells b (xs.length * e.width) aV):=by have th:=AY (w:=w) zx hfit;have:=run_storeCells_cells (P:=P) b (xs.length * e.width) aV 0 w (fun j hj=>by simpa using (th j hj).1) (fun j hj=>by simpa using (th j hj).2) xk;simpa using this
   have hr:=WW (P:=P) w (ty:=o.type) h0 h1 vV sq i1 hn2 hroom (w':=w.setCells b (xs.length * e.width) aV) (xa:=some ⟨b,0,none⟩)
    (fun ad e0=>by simp only[aK]at e0;subst e0;rw[Addr.add_mid,kC,i2];exact sj) (fun h=>by simp at h)
   have cZ:∀b',b'≠b->(w.setCells b (xs.length * e.width) aV).heap[b']? = w.heap[b']?:=fun b' hb'=>Ku aV _ w b' hb';have amb:=zx;obtain⟨ty,lo,hi,he,hfz⟩:=zx;obtain⟨gC,Eh,qA⟩:=VA aV (xs.length * e.width) w cs he hfit;have sk:gC.size=cs.size:=by rw[<-iO,qA,Dv (by simpa using hfit),iO]
   have CR:sY (w.setCells b (xs.length * e.width) aV).heap b gC:=⟨ty,(lo,hi),Eh⟩
   have xw:gC.toList.take ((xs.length+ys.length) * e.width)=cY++aV:=by
    have hmin:min (xs.length * e.width) cs.toList.length=xs.length * e.width:=by have h7:cs.toList.length=cs.size:=iO;omega
    rw[qA,jN];simp only[bU,sub,jo];rw[pz (by
     rw[cV,eH,iK,hmin,jE];exact ct _)]
    rw[jX (by
     rw[cV,eH,iK,hmin,jE];exact ct _)]
   have hmono:∀{t:Ty}{z:t.den}{c:List Value},az w.heap g.Pr t .no z c Nil->az (w.setCells b (xs.length * e.width) aV).heap (Un g.Pr F) t .no z c Nil:=fun h=>
    az.mono (fun b' hb'=>.inl hb') (fun b' hb'=>cZ b' (fun e0=>hPF b' hb' (e0 ▸ rN))) _ h (Sub.refl _) (fun _ h=>h.elim)
   have C4:∀k,k<xs.length+ys.length->sub gC (k * e.width) e.width=((cY++aV).drop (k * e.width)).take e.width:=fun k hk=>VB xw (by
    have:=fq e.width (show k+1<=xs.length+ys.length by exact hk);rw[mg]at this;exact this)
   obtain⟨g',z1,z2,z3⟩:=fin (w.setCells b (xs.length * e.width) aV).heap F (fun b' _ hb'=>cZ b' (fun e0=>hb' (e0 ▸ rN))) (by rw[vZ];exact ct _) (fun _ h=>h) (fun _ h=>.inl h)
    (fun b h=>by rw[vZ];exact st.cj r b bP (q3 b h))
    (Fu (cells:=cY++aV) (.inr rN) CR (by rw[sk];exact nN (fq _ Et) oC) Et (fun k hk=>C4 k (by omega)) (fun k hk=>by
     have:=DY k (by rw[hlen];omega);have e1:(xs++ys).getD k e.zero=xs.getD k e.zero:=by simp[List.getD,kA hk]
     rw[e1]at this;exact hmono this)) (.slice (some ⟨b,0,none⟩) (xs.length+ys.length) e9)
    ⟨[.slice (some ⟨b,0,none⟩) (xs++ys).length e9],Fu (cells:=cY++aV) (.inr rN) CR (by rw[sk,hlen];exact nN (fq _ hroom) oC) (by rw[hlen];exact hroom) (fun k hk=>C4 k (by rw[hlen]at hk;exact hk)) (fun k hk=>hmono (DY k hk)),by rw[hlen];rfl⟩
   have fS:=Up (b:=b) aV (xs.length * e.width) w;have Xr:g.L b:=st.own r b bP (q3 b rN);exact⟨_,_,by rw[hex,hr];rfl,g',z1,z2,z3,⟨fS.1,fS.2.1,fS.2.2,by rw[vZ];exact ct _,fun b' _ hb'=>cZ b' (fun e0=>hb' (e0 ▸ Xr))⟩⟩
 .have Xs:xs.length+ys.length<=274877906944:=hbd;have xb:=DC (P:=P) (w:=w.drew) (size:=e.width) (n:=ys.length) (len:=ys.length) (cap:=lP) (ad:=s8) iK (by
   rcases hsrc nj with h | ⟨b,o',h3,h4⟩
   .exact .inl h
   .exact .inr ⟨b,o',h3,WV h4⟩)
  have w_:=DC (P:=P) (w:=w.drew) (size:=e.width) (n:=xs.length) (len:=xs.length) (cap:=e9) (ad:=oy) nQ (by
   rcases hsrc xq with h | ⟨b,o',h3,h4⟩
   .exact .inl h
   .exact .inr ⟨b,o',h3,WV h4⟩)
  rw[<-i2]at xb w_;have hg:e9<xs.length+ys.length:=by omega
  have oF:=Room.nextslicecap_le' (need:=xs.length+ys.length) (old:=e9) hg;have hfit:Builtin.nextslicecap (xs.length+ys.length) e9 * i.bytes<=281474976710656:=by have h5:Builtin.nextslicecap (xs.length+ys.length) e9 * i.bytes<=549755813888 * 255:=Nat.mul_le_mul (by omega) i4;omega
  have hr:=Qe (P:=P) w (ty:=o.type) h0 h1 vV sq i1 i3 xb w_ hg (by omega) hfit;have hge:=grownCap_ge w (xs.length+ys.length) e9 u;generalize grownCap w (xs.length+ys.length) e9 u=cap' at hr hge;generalize mj:(cY.toArray++aV.toArray++Builtin.zeroCells (dK (C.ty u) (zc (C.ty u))).cells (cap'-(xs.length+ys.length)))=cs at hr;have Ei:cs.toList.take ((xs.length+ys.length) * e.width)=cY++aV:=by rw[<-mj];simp only[Array.toList_append,eG];rw[<-eG,pz (by rw[jO];exact ct _),jX (by rw[jO];exact ct _)]
  have Ej:(xs.length+ys.length) * e.width<=cs.size:=by
   rw[<-mj];have h9:cY.length+aV.length=(xs.length+ys.length) * e.width:=by rw[<-cV];exact jO
   simp only[Array.size_append,List.size_toArray,h9];omega
  have hold:∀b,b<w.heap.size->(w.heap.push (.cells cs u))[b]? = w.heap[b]?:=fun b hb=>zV b hb;have r_:sY (w.heap.push (.cells cs u)) w.heap.size cs:=(jy.new (h:=w.heap) (cs:=cs) (e:=u)).CL;have hmono:∀{t:Ty}{z:t.den}{c:List Value},az w.heap g.Pr t .no z c Nil->az (w.heap.push (.cells cs u)) (Un g.Pr fun b=>F b\/b=w.heap.size) t .no z c Nil:=fun h=>
   az.mono (fun b' hb'=>.inl hb') (fun b' hb'=>hold b' (st.bR b' hb')) _ h (Sub.refl _) (fun _ h=>h.elim)
  obtain⟨g',z1,z2,z3⟩:=fin (w.heap.push (.cells cs u)) (fun b=>F b\/b=w.heap.size) (fun b hb _=>hold b hb) (by simp) (fun _ h=>.inl h) (fun b h=>h.imp id (fun h=>by omega))
   (fun b h=>by
    rw[Array.size_push];rcases h with h | h
    .have:=st.cj r b bP (q3 b h);omega
    .omega)
   (az.mono (fun b hb=>hb.imp id .inl) (fun b hb=>hold b (hb.elim (st.bR b) fun h=>st.cj r b bP (q3 b h))) _ UJ (Sub.refl _) (fun _ h=>h.elim)) (.slice (some ⟨w.heap.size,0,none⟩) (xs.length+ys.length) cap')
   ⟨[.slice (some ⟨w.heap.size,0,none⟩) (xs++ys).length cap'],Fu (cells:=cY++aV) (.inr (.inr rfl)) r_ (by rw[hlen];exact Ej) (by rw[hlen];exact hge) (fun k hk=>VB Ei (by
    rw[hlen]at hk;have:=fq e.width (show k+1<=xs.length+ys.length by exact hk);rw[mg]at this;exact this)) (fun k hk=>hmono (DY k hk)),by rw[hlen];rfl⟩
  refine⟨_,w.drew.alloc (.cells cs u),by rw[hex,hr];rfl,g',z1,z2,z3,?_⟩;exact⟨rfl,rfl,rfl,by show w.heap.size<=(w.heap.push _).size;simp,fun b hb _=>zV b hb⟩
theorem ac4{o:Oper}{c:Call}{x y:Operand}{t t':TypeId}{e:Ty}(ho:o.op=.call c)(hc:c.callee=.builtin .append)(hargs:c.args = #[x,y])
  (h0:c.argTypes[0]? = some t) (h1:c.argTypes[1]? = some t') (hT:C.ty t=.sl e) (CP:C.ty t'=.sl e)
  (ht:b6 (qR S.rt e (ρ x) (ρ y))):fB P S g w tmps (qR S.rt e (ρ x) (ρ y)) ((execOp a.eval o).run P w):=by
 cases EC:ρ x with
 | b8 r p s=>
  cases zG:ρ y with
  | val ty ys=>
   cases ty with
   | sl t2=>
    rw[EC,zG]at ht;unfold qR at ht⊢;simp only at ht⊢;cases hR:S.rt.root r with
    | none=>rw[hR]at ht;exact absurd ht b6.fail
    | some R=>
     rw[hR]at ht;simp only at ht⊢;cases hf:focus R.ty R.ms R.x p with
     | none=>rw[hf]at ht;exact absurd ht b6.fail
     | some d=>
      obtain⟨dt,dm,dx⟩:=d;cases dt with
      | sl e'=>
       cases dm with
       | own s' m=>
        rw[hf]at ht;simp only at ht⊢;by_cases hs:s=s'/\e'=e/\t2=e/\m.still=true
        .simp only[ak hs]at ht⊢;obtain⟨rfl,rfl,rfl,hm⟩:=hs;rw[UC,UC]at ht⊢;cases hput:put R.ty R.ms R.x p (.sl t2) .no dx with
         | none=>rw[hput]at ht;exact absurd ht b6.fail
         | some r'=>
          rw[hput]at ht;simp only at ht⊢;obtain⟨⟨v,rt'⟩,hd⟩:=ht true;simp only[Tr.dec]at hd;by_cases hbd:(dx:List t2.den).length+(ys:List t2.den).length<=f_
          .obtain⟨val,w',hrun,hpost⟩:=akA (m':=r'.1) (x':=r'.2) bn st hρ ho hc hargs h0 h1 hT CP EC zG hR hf hm hput hbd;exact fB.value hrun ⟨true,_,_,by simp only[Tr.dec,bG hbd];rfl,hpost⟩
          .rw[b_ hbd]at hd;simp at hd
        .rw[af hs]at ht;exact absurd ht b6.fail
       | _=>rw[hf]at ht;exact absurd ht b6.fail
      | _=>rw[hf]at ht;exact absurd ht b6.fail
   | _=>rw[EC,zG]at ht;exact absurd ht b6.fail
  | _=>rw[EC,zG]at ht;exact absurd ht b6.fail
 | _=>rw[EC]at ht;exact absurd ht b6.fail
end
end Go.V
namespace Go.V
noncomputable section
open Go
theorem QX{t:Ty}{xs ys:List t.den}:(wo t xs ys).length=xs.length:=by simp only[wo,cV,eH,yt];omega
theorem QW{t:Ty}{xs ys:List t.den}(i:Nat)(hi:i<xs.length):(wo t xs ys).getD i t.zero=if i<min ys.length xs.length then ys.getD i t.zero else xs.getD i t.zero:=by
 unfold wo;simp only[List.getD];by_cases h:i<ys.length
 .rw[ak (by omega),kA (by rw[eH];omega),gm,ak hi]
 .rw[af (by omega),mc (by rw[eH];omega),iF,eH];congr 2;omega
theorem adj{w k:Nat}{cs gC:Array Value}{news:List Value}(hl:news.length=k * w)(hfit:k * w<=cs.size)(e:gC.toList=bU cs.toList 0 news)(i:Nat) :
  sub gC (i * w) w=if i<k then (news.drop (i * w)).take w else sub cs (i * w) w:=by
 have hf:0+news.length<=cs.toList.length:=by rw[hl,iO];omega
 unfold sub;apply rL;intro j;rw[gm,iF,e,adb hf,hl];by_cases hj:j<w
 .rw[ak hj,af (by omega)];by_cases h1:i<k
  .have a2:=fq w (show i+1<=k by omega);rw[mg]at a2;rw[ak h1,ak (by omega),gm,ak hj,iF];congr 1
  .have:=fq w (show k<=i by omega);rw[af h1,af (by omega),gm,ak hj,iF]
 .rw[af hj];split
  .rw[gm,af hj]
  .rw[gm,af hj]
theorem ajK{w:World}{S:St}{g:aA}{tmps:Array Value}(st:aE w.heap S g tmps Nil){r:Nat}{p:Path}{R:aC}{t:Ty}{s:Nat}{xs ys:List t.den}{s9:fI}{ad:Option Addr}{n cap:Nat}
  (hR:S.root r=some R) (hf:focus R.ty R.ms R.x p=some ⟨.sl t,.own s .no,xs⟩) (hin:bw R.ty R.x p) (eu:cv w.heap R.ty (g.C r) (g.base r) p=some (s9,[.slice ad n cap])) (hs:s<1048576)
  {k:Nat} (hk:k=min ys.length xs.length) (h1:0<k) {news:List Value} (CZ:news.length=k * t.width)
  (hy:∀i,i<k->az w.heap g.Pr t .no (ys.getD i t.zero) ((news.drop (i * t.width)).take t.width) Nil)
  {m':Mk} {x':R.ty.den} (hput:put R.ty R.ms R.x p (.sl t) (.own s .no) (wo t xs ys)=some (m',x')) :
  n=xs.length/\∃b,ad=some ⟨b,0,none⟩/\g.L b/\w.there b 0 (k * t.width)/\∃g',aE (w.setCells b 0 news).heap (S.aI r (some { R with ms:=m',x:=x' })) g' tmps Nil/\g'.cT g:=by
 have hm:Mk.still .no=true:=rfl;obtain⟨base,c,F,q1,q2,q3,q4,q5,q6⟩:=st.update hR hf hin;rw[eu]at q1;simp only[aK,aY]at q1;obtain⟨rfl,rfl⟩:=q1;have q2':=q2;simp only[az]at q2;obtain⟨ad',cap',e0,hl,hr⟩:=q2;simp only[eZ,Value.slice.injEq,iQ]at e0;obtain⟨rfl,rfl,rfl⟩:=e0;refine⟨rfl,?_⟩;rcases hr with hr | ⟨b,cs,rfl,fb,hb,hsz,Fs,pZ,hd,re⟩
 .omega
 have bP:(S.root r).isSome:=by rw[hR];rfl
 have JF:=q3 b fb;have Lv:k * t.width<=cs.size:=nN (fq _ (by omega)) hsz;have hfit:0+news.length<=cs.size:=by omega
 have cZ:∀b',b'≠b->(w.setCells b 0 news).heap[b']? = w.heap[b']?:=fun b' hb'=>Ku _ _ w b' hb';obtain⟨gC,ur,KY⟩:=Qf (w:=w) (base:=some (b,0)) (c2:=news) rfl hb hfit b 0 rfl cs hb;have sk:gC.size=cs.size:=by rw[<-iO,KY,Dv (by rw[iO];exact hfit),iO]
 have hsub:=adj (w:=t.width) CZ Lv KY;have U6:¬ g.Pr b:=fun hb'=>st.ez r bP b JF hb';have oH:(Mk.own s .no).ax=true:=by simp only[Mk.ax,bI];exact⟨rH hs,trivial⟩
 have hlen:(wo t xs ys).length=xs.length:=QX;have jU:az (w.setCells b 0 news).heap g.Pr (.sl t) (.own s .no) (wo t xs ys) [.slice (some ⟨b,0,none⟩) xs.length cap] F:=by
  simp only[az];refine⟨_,cap,by rw[hlen],by rw[hlen];exact hl,.inr ⟨b,gC,rfl,fb,ur,by rw[sk];exact hsz,Fs,pZ,hd,fun i hi'=>?_⟩⟩;rw[hlen]at hi';rw[QW i hi',hsub,<-hk];by_cases hz:i<k
  .rw[ak hz,ak hz];exact az.mono (Sub.refl _) (fun b' hb'=>cZ b' (fun e=>U6 (e ▸ hb'))) _ (hy i hz) (Sub.nil _) (fun b' hb'=>hb'.elim)
  .rw[af hz,af hz];exact az.mono (Sub.refl _) (fun b' hb'=>cZ b' (fun e=>U6 (e ▸ hb'))) _ (re i hi') (Sub.refl _) (fun b' hb'=>cZ b' (fun e=>(pZ i).2 (e ▸ hb')))
 obtain⟨g2,s1,s2,s3,s4,s5,s6⟩:=q6 0 0 (w.setCells b 0 news).heap (.own s .no) (wo t xs ys) [.slice (some ⟨b,0,none⟩) xs.length cap] F m' x'
  (fun u=>Ky _) (fun b' _ hb' _=>cZ b' (fun e=>hb' (e ▸ fb))) (by rw[vZ];exact ct _)
  (by
   intro b' o e cs' xh;obtain⟨An,cs3,Eu,w4,xu⟩:=q4 b' o e;have hne:b'≠b:=fun e=>An (e ▸ fb);refine⟨cs',xh.congr (cZ b' hne),?_⟩;have:=xh.uniq Eu;subst this;have hr:=Hg (c:=cs'.toList) (n:=o) (k:=1) (by rw[iO];exact w4);have zF:(cs'.toList.drop o).take 1=[Value.slice (some ⟨b,0,none⟩) xs.length cap]:=xu;rw[zF]at hr;exact hr.symm)
  jU (fun b' hb'=>.inl hb') (fun b' hb'=>by rw[vZ];exact st.cj r b' bP (q3 b' hb')) hput (Mk.fM 0 0 _)
  (aL.ax _ oH) (fun _=>oH)
  (by
   intro p' t1 n1 _ gY hi';cases p' with
   | nil=>refine⟨trivial,fun bp cp ha=>⟨cp,?_,fun _ _ _ _=>rfl⟩⟩;simp only[cv]at ha⊢;exact ha
   | cons x p'=>
    cases x with
    | fst=>simp[q8]at gY
    | snd=>simp[q8]at gY
    | idx i s'=>
     simp only[q8]at gY;split at gY
     .obtain⟨Vh,zC⟩:=GF p' hm gY;simp only[bw]at hi';refine⟨?_,fun bp cp ha=>?_⟩
      .simp only[bw];exact⟨by rw[hlen];exact hi'.1,zR p' _ Vh gY⟩
      .obtain⟨e1,l1,u1,he1,_⟩:=hb;obtain⟨e2,l2,u2,U_,_⟩:=ur;simp only[cv,he1]at ha;obtain⟨iR,h3⟩:=Jg (h':=(w.setCells b 0 news).heap) p' _ (sub gC (i * t.width) t.width) _ Vh ha;refine⟨iR,by simp only[cv,U_];exact h3,fun s4 a4 e4 _=>?_⟩;rw[e4]at zC;simp[Mk.still]at zC
     .simp at gY)
 exact⟨b,rfl,st.own r b bP JF,AY hb (by omega),g2,s1.bB (Sub.nil _),s3⟩
section
variable {P:Program} {C:Ctx} {D:Den C} {S:St} {g:aA} {w:World} {tmps:Array Value} {a:Act} {ρ:Operand->AV}
variable {A:bY} {site:Nat} {hint:Bool} (bn:iD P C) (st:aE w.heap S g tmps Nil) (hρ:∀x,qe w.heap S g (ρ x) (a.eval x))
include bn st hρ
theorem acO{o:Oper}{c:Call}{x y:Operand}{t:TypeId}{e:Ty}(ho:o.op=.call c)(hc:c.callee=.builtin .copy)(hargs:c.args = #[x,y])
  (h0:c.argTypes[0]? = some t) (hT:C.ty t=.sl e) (ht:b6 (yj S.rt e (ρ x) (ρ y))):fB P S g w tmps (yj S.rt e (ρ x) (ρ y)) ((execOp a.eval o).run P w):=by
 have hx:=hρ x;have Yt:=hρ y;unfold yj at ht⊢;cases hv:ρ x with
 | b8 r p s=>
  cases zG:ρ y with
  | val ty nI=>
   rw[hv,zG]at ht;rw[hv]at hx;rw[zG]at Yt;cases ty with
   | sl t2=>
    simp only at ht⊢;cases hR:S.rt.root r with
    | none=>rw[hR]at ht;exact absurd ht b6.fail
    | some R=>
     rw[hR]at ht;simp only at ht⊢;cases hf:focus R.ty R.ms R.x p with
     | none=>rw[hf]at ht;exact absurd ht b6.fail
     | some d=>
      obtain⟨dt,dm,dx⟩:=d;cases dt with
      | sl e'=>
       cases dm with
       | own s' m=>
        cases m with
        | no=>
         rw[hf]at ht;simp only at ht⊢;by_cases hs:s=s'/\e'=e/\t2=e/\s'<1048576
         .simp only[ak hs]at ht⊢;obtain⟨rfl,rfl,rfl,hs6⟩:=hs;cases Ek:qbv (.sl t2) (.sl t2) nI with
          | none=>rw[Ek]at ht;exact absurd ht b6.fail
          | some ys=>
           rw[Ek]at ht;simp only at ht⊢;obtain⟨ee,hys⟩:=Dt Ek;simp only at hys;subst hys;cases hput:put R.ty R.ms R.x p (.sl t2) (.own s .no) (wo t2 dx nI) with
           | none=>rw[hput]at ht;exact absurd ht b6.fail
           | some r'=>
            simp only;obtain⟨u,vV,C6,L8⟩:=bn.desc hT;have ku:=bn u L8;obtain⟨i,i1,i2,i3,i4⟩:=ku.info;rw[C6]at i2;simp only[qe]at hx Yt;obtain⟨hin,s9,eu⟩:=hx R hR t2 .no dx hf;obtain⟨c2,Jq,K_⟩:=Yt;obtain⟨s8,lP,aV,pR,rfl,iK,LB,nj,zu,nZ,_⟩:=KL (by simp) (by simp) Jq;have z_:a.eval y=.slice s8 (List.length nI) lP:=K_;obtain⟨base,c0,F,q1,o9,_⟩:=st.update hR hf hin;rw[eu]at q1;simp only[aK,aY]at q1;obtain⟨rfl,rfl⟩:=q1;obtain⟨oy,e9,cY,Fs1,DW,_⟩:=KL (by simp) (by simp) o9;simp only[eZ,iQ]at DW;have UY:=DW;rw[DW]at eu;have hex:∀k news w',k=min (List.length nI) (List.length dx)->(Builtin.firstCells i.size k (.slice s8 (List.length nI) lP)).run P w=.ok (List.toArray news) w->
              (∀ad,oy=some ad->(storeCells ad news).run P w=.ok () w')->(oy=none->w'=w)->
              (execOp a.eval o).run P w=.ok (.value (goInt k)) w':=by
             intro k news w' hk hn hst hno;have hk':Nat.min (List.length nI) (List.length dx)=k:=hk.symm;cases oy with
             | none=>obtain rfl:=hno rfl;simp[execOp,ho,resolve,hc,invoke,builtin,hargs,UY,z_,Sem.run_bind,Builtin.copy_,h0,run_underlying vV,Builtin.lenOf,sizeOf,typeInfo,i1,hk',hn]
             | some ad=>have:=hst ad rfl;simp[execOp,ho,resolve,hc,invoke,builtin,hargs,UY,z_,Sem.run_bind,Builtin.copy_,h0,run_underlying vV,Builtin.lenOf,sizeOf,typeInfo,i1,hk',hn,this]
            by_cases hpos:0<List.length nI/\0<List.length dx
            .have tA:∃b o,s8=some ⟨b,o,none⟩/\w.rangeAt b o (aV.take (min (List.length nI) (List.length dx) * t2.width)):=by
              rcases nj with⟨h0,_⟩ | ⟨b,o,cs,h1,h2,h3,h4⟩
              .omega
              .refine⟨b,o,h1,?_⟩;have mW:min (List.length nI) (List.length dx) * t2.width<=List.length nI * t2.width:=fq _ (by omega);have:=Du (n:=min (List.length nI) (List.length dx) * t2.width) (o:=o) h2 (by omega);have e3:aV.take (min (List.length nI) (List.length dx) * t2.width)=sub cs o (min (List.length nI) (List.length dx) * t2.width):=by rw[h4];simp only[sub,uW];congr 1;omega
               rw[e3];exact this
             have CZ:(aV.take (min (List.length nI) (List.length dx) * t2.width)).length=min (List.length nI) (List.length dx) * t2.width:=by rw[eH,iK];have mW:min (List.length nI) (List.length dx) * t2.width<=List.length nI * t2.width:=fq _ (by omega);omega
             generalize hk:min (List.length nI) (List.length dx)=k at tA CZ;generalize hnews:aV.take (k * t2.width)=news at tA CZ;have uv:∀j,j<k->az w.heap g.Pr t2 .no (List.getD nI j t2.zero) ((news.drop (j * t2.width)).take t2.width) Nil:=by
              intro j hj;have:=zu.rep j (by omega);have e4:(news.drop (j * t2.width)).take t2.width=(aV.drop (j * t2.width)).take t2.width:=by rw[<-hnews,xQ,uW];congr 1;have:=fq t2.width (show j+1<=k by omega);rw[mg]at this;omega
              rw[e4];exact az.room _ this (fun b hb=>(nZ j b hb).elim)
             obtain⟨_,b,hb,hgL,xx,g',st',hsame⟩:=ajK (m':=r'.1) (x':=r'.2) (ys:=nI) st hR hf hin eu hs6 hk.symm (by omega) CZ uv hput;have h1c:∀v∈news,v.oneCell'=true:=by
              obtain⟨b2,o2,_,zE⟩:=tA;intro v hv;obtain⟨j,hj,rfl⟩:=lG.1 hv;have hj2:j<k * t2.width:=by omega
              have hw:0<t2.width:=by
               rcases Nat.eq_zero_or_pos t2.width with h | h
               .rw[h]at hj2;omega
               .exact h
              have XA:=FX j t2.width;have oE:j / t2.width<k:=(Nat.div_lt_iff_lt_mul hw).2 hj2;have hmod:=Nat.mod_lt j hw;refine az.one _ (uv (j / t2.width) oE) _ ?_;apply mT.2;refine⟨j % t2.width,?_⟩;rw[gm,ak hmod,iF,show j / t2.width * t2.width+j % t2.width=j by rw[u6];exact XA,gz hj]
             have L7:=run_storeCells_cells (P:=P) b 0 news 0 w (fun j hj=>by have:=(xx j (by omega)).1;simpa using this) (fun j hj=>by have:=(xx j (by omega)).2;simpa using this) h1c;simp only[qU]at L7;have Em:(Builtin.firstCells i.size k (.slice s8 (List.length nI) lP)).run P w=.ok (List.toArray news) w:=
              DC (by rw[i2];exact CZ) (.inr (by obtain⟨b2,o2,e2,zE⟩:=tA;exact⟨b2,o2,e2,zE⟩))
             have hrun:=hex k news (w.setCells b 0 news) hk.symm Em (fun ad ha=>by rw[hb]at ha;injection ha with ha;rw[<-ha];exact L7) (fun ha=>by rw[hb]at ha;exact absurd ha (by simp));have fS:=Up (b:=b) news 0 w;refine fB.value (val:=goInt k) (w':=w.setCells b 0 news) hrun ⟨true,.val (.int .i64) ((k:Nat):Int),_,by simp only[Tr.dec,bG hpos.1,bG hpos.2,I2],g',st',vq _ _,hsame,⟨fS.1,fS.2.1,fS.2.2,by rw[vZ];exact ct _,fun b' _ hb'=>Ku _ _ w b' (fun e=>hb' (e ▸ hgL))⟩⟩
            .have hk0:0=min (List.length nI) (List.length dx):=by omega
             have hrun:=hex 0 [] w hk0 (DC (by simp) (.inl ⟨rfl,rfl⟩)) (fun ad _=>rfl) (fun _=>rfl);refine fB.value (val:=goInt 0) (w':=w) hrun ⟨true,.val (.int .i64) ((0:Nat):Int),_,?_,Post.same st (vq _ _)⟩;have:(decide (0<List.length nI)&&decide (0<List.length dx))=false:=by rw[<-Bool.not_eq_true,bI,decide_eq_true_iff,decide_eq_true_iff];exact hpos
             simp only[Tr.dec,this]
         .rw[af hs]at ht;exact absurd ht b6.fail
        | _=>rw[hf]at ht;exact absurd ht b6.fail
       | _=>rw[hf]at ht;exact absurd ht b6.fail
      | _=>rw[hf]at ht;exact absurd ht b6.fail
   | _=>exact absurd ht b6.fail
  | _=>rw[hv,zG]at ht;exact absurd ht b6.fail
 | _=>rw[hv]at ht;exact absurd ht b6.fail
end
end
section
variable {P:Program} {C:Ctx} {D:Den C} {S:St} {g:aA} {w:World} {tmps:Array Value} {a:Act} {ρ:Operand->AV}
variable {A:bY} {site:Nat} {hint:Bool} (bn:iD P C) (st:aE w.heap S g tmps Nil) (hρ:∀x,qe w.heap S g (ρ x) (a.eval x))
theorem Bv{α β:Type}{f:α->β}{l:List α}{x y:β}(h:l.map f=[x,y]):∃u v,l=[u,v]/\f u=x/\f v=y:=by
 match l,h with
 | [u,v],h=>simp only[cA,f4,eZ,iQ]at h;exact⟨u,v,rfl,h.1,h.2⟩
theorem ajJ{α β:Type}{f:α->β}{l:List α}{x y:β}{r:List β}(h:l.map f=x::y::r):l[0]?.map f=some x/\l[1]?.map f=some y:=by
 match l,h with
 | u::v::l,h=>simp only[cA,eZ]at h;simp[h.1,h.2.1]
include bn st hρ
theorem RZ{o:Oper}{c:Call}{b:Builtin}(ho:o.op=.call c)(hc:c.callee=.builtin b)(hb:b=.min\/b=.max):Goal P C D S g w tmps a ρ A site hint o:=by
 intro ht;rcases hb with rfl | rfl
 .simp only[aW,ho,hc]at ht⊢;split at ht<;>try (first | contradiction | exact absurd ht b6.fail)
  rename_i hargs;obtain⟨u,v,hl,hu,hv⟩:=Bv hargs;have e1:c.args = #[u,v]:=by rw[<-pG (xs:=c.args),hl]
  split at ht
  .rename_i ka x kb y;by_cases hk:ka=kb
   .subst hk;simp only[aX]at ht⊢;have hx:=hρ u;have hy:=hρ v;rw[hu]at hx;rw[hv]at hy;refine fB.ret (val:=.int ka (if y<x then y else x)) ?_ st (vq _ _);simp[execOp,ho,resolve,hc,invoke,builtin,Builtin.min_,Builtin.min2,e1,Cx hx,Cx hy,Sem.run_bind]
   .rw[af hk]at ht;exact absurd ht b6.fail
  .exact absurd ht b6.fail
 .simp only[aW,ho,hc]at ht⊢;split at ht<;>try (first | contradiction | exact absurd ht b6.fail)
  rename_i hargs;obtain⟨u,v,hl,hu,hv⟩:=Bv hargs;have e1:c.args = #[u,v]:=by rw[<-pG (xs:=c.args),hl]
  split at ht
  .rename_i ka x kb y;by_cases hk:ka=kb
   .subst hk;simp only[aX]at ht⊢;have hx:=hρ u;have hy:=hρ v;rw[hu]at hx;rw[hv]at hy;refine fB.ret (val:=.int ka (if y>x then y else x)) ?_ st (vq _ _);simp[execOp,ho,resolve,hc,invoke,builtin,Builtin.max_,Builtin.max2,e1,Cx hx,Cx hy,Sem.run_bind]
   .rw[af hk]at ht;exact absurd ht b6.fail
  .exact absurd ht b6.fail
theorem aa_{o:Oper}{c:Call}{b:Builtin}(ho:o.op=.call c)(hc:c.callee=.builtin b)(ok:nO A S o.dst site):Goal P C D S g w tmps a ρ A site hint o:=by
 cases b with
 | len=>exact ala bn st hρ ho hc
 | min=>exact RZ bn st hρ ho hc (.inl rfl)
 | max=>exact RZ bn st hρ ho hc (.inr rfl)
 | append=>
  intro ht;simp only[aW,ho,hc]at ht⊢;split at ht<;>try (first | contradiction | exact absurd ht b6.fail)
  rename_i x0 y0 e e' _ _ hargs kg;obtain⟨u,v,hl,hu,hv⟩:=Bv hargs;obtain⟨q1,q2⟩:=ajJ kg;simp only[fo,yo]at q1 q2;obtain⟨t,C5,hT⟩:=q1;obtain⟨t',JK,CP⟩:=q2;have e1:c.args = #[u,v]:=by rw[<-pG (xs:=c.args),hl]
  by_cases hee:e=e'
  .subst hee;simp only[aX]at ht⊢;subst hu;subst hv;cases hint with
   | false=>simp only[fe,dX]at ht⊢;exact aby bn st hρ ho hc e1 C5 JK hT CP ok ht
   | true=>simp only[aX]at ht⊢;exact ac4 bn st hρ ho hc e1 C5 JK hT CP ht
  .rw[af hee]at ht;exact absurd ht b6.fail
 | clear=>intro ht;simp only[aW,ho,hc]at ht⊢;split at ht<;>try (first | contradiction | exact absurd ht b6.fail)
 | copy=>
  intro ht;simp only[aW,ho,hc]at ht⊢;split at ht<;>try (first | contradiction | exact absurd ht b6.fail)
  rename_i x0 y0 e _ _ hargs kg;obtain⟨u,v,hl,hu,hv⟩:=Bv hargs;obtain⟨t,C5,hT⟩:∃t,c.argTypes[0]? = some t/\C.ty t=.sl e:=by
   match hq:c.argTypes.toList,kg with
   | t::l,h=>simp only[hq,cA,eZ]at h;exact⟨t,by rw[<-yo,hq];rfl,h.1⟩
  have e1:c.args = #[u,v]:=by rw[<-pG (xs:=c.args),hl]
  subst hu;subst hv;exact acO bn st hρ ho hc e1 C5 hT ht
 | _=>intro ht;simp only[aW,ho,hc]at ht⊢;exact absurd ht b6.fail
theorem alx{o:Oper}(ok:nO A S o.dst site)(tf:∀c f,o.op=.call c->c.callee=.value f->Goal P C D S g w tmps a ρ A site hint o):Goal P C D S g w tmps a ρ A site hint o:=by
 cases ho:o.op with
 | move x=>exact akx st hρ ho
 | assign x=>exact abA bn st hρ ho ok
 | pick c x y=>exact akE st hρ ho
 | alloc t=>exact acv bn st hρ ho ok
 | box t x=>exact akX bn st hρ ho ok
 | build t ps=>exact ace bn st hρ ho ok
 | buildSlice t n ps=>exact aii bn st hρ ho ok
 | load t x=>exact aku bn st hρ ho
 | store t x y=>exact adi bn st hρ ho ok
 | nilCheck x=>exact ald st hρ ho
 | binOp op t x y t2=>exact acd bn st hρ ho
 | unOp op t x=>exact akd st hρ ho
 | convert s d x=>exact aaV bn st hρ ho
 | makeFunc f x y=>exact aaL bn st hρ ho
 | makeSlice t x y=>exact ajI bn st hρ ho ok
 | slice t x lo hi mx=>
  cases mx with
  | none=>exact adg bn st hρ ho ok
  | some v=>intro ht;simp only[aW,ho]at ht;exact absurd ht b6.fail
 | fieldAddr t x f=>exact aju bn st hρ ho
 | field t x f=>exact acS bn st hρ ho
 | indexAddr t x i=>exact ajF bn st hρ ho
 | index t x i=>exact acW bn st hρ ho
 | extract x i=>exact abd bn st hρ ho
 | call c=>
  cases hc:c.callee with
  | builtin b=>exact aa_ bn st hρ ho hc ok
  | value f=>exact tf c f ho hc
  | invoke r m=>intro ht;simp only[aW,ho,hc]at ht;exact absurd ht b6.fail
 | _=>intro ht;simp only[aW,ho]at ht;exact absurd ht b6.fail
end
end Go.V
namespace Go.V
noncomputable section
open Go
def PG(Pr:BS):aA:=⟨Pr,fun _=>[],fun _=>none,fun _=>Nil,fun _=>undef,Nil,Nil⟩
def wm(h:Array Obj)(Pr:BS)(t:Ty)(m:Mk)(x:t.den)(v:Value)(F:BS):Prop:=
 ∃b c F0,v=.pointer (some ⟨b,0,none⟩)/\az h Pr t m x c F0/\jy h b c.toArray/\F b/\Sub F0 F/\¬ F0 b
def pO(h:Array Obj)(Pr:BS)(t:Ty)(m:Mk)(x:t.den)(v:Value)(F:BS):Prop:=
 ∃c,az h Pr t m x c F/\v=dK t c
def W0(h:Array Obj)(Pr:BS):(k:PK)->k.den->Value->BS->Prop
 | .val t,x,v,_=>pO h Pr t .no x v Nil
 | .own t m,x,v,F=>pO h Pr t m x v F
 | .cQ t m _,x,v,F=>pO h Pr t m x v F
 | .cD t m _,x,v,F=>wm h Pr t m x v F
 | .cq t,x,v,_=>yN h (PG Pr) t x v
 | .fn,c,v,_=>∃vs,v=.func (.func c.f) #[] vs.toArray/\nV h (PG Pr) c.caps vs
def yX(h:Array Obj)(Pr:BS)(Fs:Nat->BS):Nat->(ks:List PK)->gf ks->List Value->Prop
 | _,[],_,vs=>vs=[]
 | i,k::ks,a,vs=>∃v vs',vs=v::vs'/\W0 h Pr k a.1 v (Fs i)/\yX h Pr Fs (i+1) ks a.2 vs'
def oe(h:Array Obj)(Pr:BS)(Fs:Nat->BS):Nat->(ks:List PK)->js ks->List Value->Prop
 | _,[],_,vs=>vs=[]
 | i,.own t m::ks,a,vs=>∃v vs',vs=v::vs'/\pO h Pr t m a.1 v (Fs i)/\oe h Pr Fs (i+1) ks a.2 vs'
 | i,.val _::ks,a,vs=>∃v vs',vs=v::vs'/\oe h Pr Fs (i+1) ks a vs'
 | i,.cD _ _ _::ks,a,vs=>∃v vs',vs=v::vs'/\oe h Pr Fs (i+1) ks a vs'
 | i,.cQ _ _ _::ks,a,vs=>∃v vs',vs=v::vs'/\oe h Pr Fs (i+1) ks a vs'
 | i,.cq _::ks,a,vs=>∃v vs',vs=v::vs'/\oe h Pr Fs (i+1) ks a vs'
 | i,.fn::ks,a,vs=>∃v vs',vs=v::vs'/\oe h Pr Fs (i+1) ks a vs'
def nA(h:Array Obj)(Pr:BS)(Fs:Nat->BS):Nat->(ks:List PK)->dG ks->List Value->Prop
 | _,[],_,vs=>vs=[]
 | i,.cD t _ m::ks,o,vs=>∃v vs',vs=v::vs'/\wm h Pr t m o.1 v (Fs i)/\nA h Pr Fs (i+1) ks o.2 vs'
 | i,.cQ t _ m::ks,o,vs=>∃v vs',vs=v::vs'/\pO h Pr t m o.1 v (Fs i)/\nA h Pr Fs (i+1) ks o.2 vs'
 | i,.val _::ks,o,vs=>∃v vs',vs=v::vs'/\nA h Pr Fs (i+1) ks o vs'
 | i,.own _ _::ks,o,vs=>∃v vs',vs=v::vs'/\nA h Pr Fs (i+1) ks o vs'
 | i,.cq _::ks,o,vs=>∃v vs',vs=v::vs'/\nA h Pr Fs (i+1) ks o vs'
 | i,.fn::ks,o,vs=>∃v vs',vs=v::vs'/\nA h Pr Fs (i+1) ks o vs'
def r6(h:Array Obj)(Pr:BS):(k:RK)->k.den->Value->BS->Prop
 | .val t m,x,v,F=>pO h Pr t m x v F
 | .ptr t m,x,v,F=>wm h Pr t m x v F
def lu(h:Array Obj)(Pr:BS)(Fs:Nat->BS):Nat->(ks:List RK)->f8 ks->List Value->Prop
 | _,[],_,vs=>vs=[]
 | i,k::ks,a,vs=>∃v vs',vs=v::vs'/\r6 h Pr k a.1 v (Fs i)/\lu h Pr Fs (i+1) ks a.2 vs'
def tN:List Value->Value
 | [v]=>v
 | vs=>.tuple vs.toArray
structure Pre (h:Array Obj) (Pr:BS) (Fs:Nat->BS) (ks:List PK) (a:gf ks) (vs:List Value):Prop where
 rel:yX h Pr Fs 0 ks a vs
 d6:∀i j,i≠j->cC (Fs i) (Fs j)
 ez:∀i,cC (Fs i) Pr
 lim:∀i b,Fs i b->b<h.size
 bR:∀b,Pr b->b<h.size
def tX(n:Nat)(Fs:Nat->BS):BS:=fun b=>n<=b\/∃i,Fs i b
structure UU (w w':World) (Pr:BS) (Fs:Nat->BS) (ks:List PK) (rs:List RK) (r:f8 rs) (o:dG ks) (vs:List Value) (val:Value) (fN:BS) (Gs Os:Nat->BS) (us:List Value):Prop where
 res:lu w'.heap fN Gs 0 rs r us
 val:val=tN us
 out:nA w'.heap fN Os 0 ks o vs
 pr:Sub Pr fN
 kZ:∀b,fN b->Pr b\/tX w.heap.size Fs b
 gL:∀i b,Gs i b->tX w.heap.size Fs b
 oL:∀i b,Os i b->tX w.heap.size Fs b
 Aa:∀i j,i≠j->cC (Gs i) (Gs j)
 YB:∀i j,i≠j->cC (Os i) (Os j)
 go:∀i j,cC (Gs i) (Os j)
 gp:∀i,cC (Gs i) fN
 op:∀i,cC (Os i) fN
 wP:∀i b,Gs i b->b<w'.heap.size
 Az:∀i b,Os i b->b<w'.heap.size
 AD:∀b,fN b->b<w'.heap.size
 fr:kK (tX w.heap.size Fs) w w'
def DP(P:Program)(C:Ctx)(D:Den C)(f:FuncId):Prop:=
 ∀a r,D f a=some r->∀(w:World)(Pr:BS)(Fs:Nat->BS)(vs:List Value),Pre w.heap Pr Fs (C.sig f).params a vs->
  Calls P f vs.toArray w fun e w'=>∃val fN Gs Os us,e=.returned val/\UU w w' Pr Fs (C.sig f).params (C.sig f).res r.1 r.2 vs val fN Gs Os us
def JV (P:Program) (f:FuncId):Prop:=∃fn,P.funcs[f]? = some fn/\fn.name≠ "runtime.NumGoroutine" /\ fn.body.isSome
structure ow (P:Program) (C:Ctx) (D:Den C):Prop where
 ok:∀f,DP P C D f
 call:∀f a r,D f a=some r->JV P f
theorem az.lS{h:Array Obj}{Pr gh:BS}:∀(t:Ty){m:Mk}{x:t.den}{c:List Value}{F:BS},m.full t=true->az h Pr t m x c F->az h gh t m x c F
 | .unit,_,_,_,_,_,r=>by simpa only [az] using r
 | .int k,_,_,_,_,_,r=>by simpa only [az] using r
 | .bool,_,_,_,_,_,r=>by simpa only [az] using r
 | .str,_,_,_,_,_,r=>by simpa only [az] using r
 | .pair a b,m,_,_,_,hm,r=>by
  simp only[Mk.full,bI]at hm;simp only[az]at r⊢;obtain⟨ca,cb,Fa,Fb,e,ra,rb,k⟩:=r;exact⟨ca,cb,Fa,Fb,e,az.lS a hm.1 ra,az.lS b hm.2 rb,k⟩
 | .sl t,m,_,_,_,hm,r=>by
  cases m with
  | own s mi=>simp only[Mk.full]at hm;simp only[az]at r⊢;obtain⟨a,cap,e,hl,r⟩:=r;refine⟨a,cap,e,hl,r.imp id ?_⟩;rintro⟨b,cs,e,fb,hb,hs,Fs,hF,hd,re⟩;exact⟨b,cs,e,fb,hb,hs,Fs,hF,hd,fun i hi=>az.lS t hm (re i hi)⟩
  | _=>simp[Mk.full]at hm
theorem pO.mono{h:Array Obj}{Pr gh:BS}{t:Ty}{m:Mk}{x:t.den}{v:Value}{F:BS}(hp:Sub Pr gh)(r:pO h Pr t m x v F):pO h gh t m x v F:=by obtain⟨c,r,e⟩:=r;exact⟨c,az.mono hp (fun _ _=>rfl) t r (Sub.refl _) (fun _ _=>rfl),e⟩
theorem oe.mono{h:Array Obj}{Pr gh:BS}{Fs pR:Nat->BS}(hp:Sub Pr gh):∀(ks:List PK)(i:Nat){a:js ks}{vs:List Value},(∀j,i<=j->pR j=Fs j)->
  oe h Pr Fs i ks a vs->oe h gh pR i ks a vs
 | [],_,_,_,_,r=>r
 | .own t m::ks,i,_,_,hj,r=>by
  obtain⟨v,vs',e,r1,r2⟩:=r;exact⟨v,vs',e,by rw[hj i (ct _)];exact r1.mono hp,oe.mono hp ks (i+1) (fun j h=>hj j (by omega)) r2⟩
 | .val _::ks,i,_,_,hj,r=>by obtain⟨v,vs',e,r2⟩:=r;exact⟨v,vs',e,oe.mono hp ks (i+1) (fun j h=>hj j (by omega)) r2⟩
 | .cD _ _ _::ks,i,_,_,hj,r=>by obtain⟨v,vs',e,r2⟩:=r;exact⟨v,vs',e,oe.mono hp ks (i+1) (fun j h=>hj j (by omega)) r2⟩
 | .cQ _ _ _::ks,i,_,_,hj,r=>by obtain⟨v,vs',e,r2⟩:=r;exact⟨v,vs',e,oe.mono hp ks (i+1) (fun j h=>hj j (by omega)) r2⟩
 | .cq _::ks,i,_,_,hj,r=>by obtain⟨v,vs',e,r2⟩:=r;exact⟨v,vs',e,oe.mono hp ks (i+1) (fun j h=>hj j (by omega)) r2⟩
 | .fn::ks,i,_,_,hj,r=>by obtain⟨v,vs',e,r2⟩:=r;exact⟨v,vs',e,oe.mono hp ks (i+1) (fun j h=>hj j (by omega)) r2⟩
def l_(h:Array Obj)(S:St)(g:aA):List AV->List Value->Prop
 | [],vs=>vs=[]
 | a::aJ,vs=>∃v vs',vs=v::vs'/\qe h S g a v/\l_ h S g aJ vs'
theorem l_.kp{h:Array Obj}{S S':St}{g g':aA}(k:Kp h S g S' g'):∀{aJ:List AV}{vs:List Value},l_ h S g aJ vs->l_ h S' g' aJ vs
 | [],_,r=>r
 | a::aJ,_,r=>by obtain⟨v,vs',e,r1,r2⟩:=r;exact⟨v,vs',e,k _ _ r1,l_.kp k r2⟩
theorem Ck{h:Array Obj}{tmps:Array Value}{sl:List AV}:∀(ks:List PK)(aJ:List AV)(vs:List Value)(rt:aP)(g:aA)(H:BS)(i:Nat)(gd:js ks)(d8:aP),
  l_ h ⟨sl,rt⟩ g aJ vs->aE h ⟨sl,rt⟩ g tmps H->fZ rt ks aJ=some (gd,d8)->
  ∃g1 H1 Fs,aE h ⟨sl,d8⟩ g1 tmps H1/\Kp h ⟨sl,rt⟩ g ⟨sl,d8⟩ g1/\g1.cT g/\Sub g.Pr g1.Pr/\oe h g1.Pr Fs i ks gd vs/\(∀j,j<i->Fs j=Nil)/\
   (∀j,Sub (Fs j) H1)/\(∀j k,j≠k->cC (Fs j) (Fs k))/\(∀j,cC (Fs j) H)/\Sub H H1
 | [],aJ,vs,rt,g,H,i,gd,d8,ha,st,hb=>by
  cases aJ with
  | nil=>simp only[fZ,aK,aY]at hb;obtain⟨_,rfl⟩:=hb;exact⟨g,H,fun _=>Nil,st,Kp.refl,.refl _,Sub.refl _,ha,fun _ _=>rfl,fun _=>Sub.nil _,fun _ _ _=>cC.nil _,fun _=>cC.nil _,Sub.refl _⟩
  | cons a aJ=>simp[fZ]at hb
 | .own t m::ks,aJ,vs,rt,g,H,i,gd,d8,ha,st,hb=>by
  cases aJ with
  | nil=>simp[fZ]at hb
  | cons a aJ=>
   obtain⟨v,vs',rfl,r1,r2⟩:=ha;simp only[fZ,cM]at hb;obtain⟨⟨mx,x,fk⟩,sn,hb⟩:=hb;split at hb
   .rename_i hs;simp only[cM,aK,aY]at hb;obtain⟨⟨gd2,zd⟩,hb,e1,e2⟩:=hb;subst e2;obtain⟨c,g2,F,ev,cJ⟩:=yZ (S:=⟨sl,rt⟩) _ st sn r1;obtain⟨F1,F2,q1,q2,q3,q4⟩:=az.aQ t hs cJ.rep;have pg:=cJ.st.cR F2 (fun b hb=>.inr (q2 b hb));have Av:Kp h ⟨sl,rt⟩ g ⟨sl,fk⟩ { g2 with Pr:=Un g2.Pr F2 }:=Kp.trans cJ.kp (JZ cJ.st F2);obtain⟨g1,H1,Fs,k1,k2,k3,k4,k5,k6,k7,k8,k9,jq⟩:=Ck ks aJ vs' fk _ _ (i+1) gd2 zd (r2.kp Av) pg hb;refine⟨g1,H1,fun j=>if j=i then F1 else Fs j,k1,Av.trans k2,cJ.same.trans (aA.cT.trans ⟨rfl,rfl,rfl⟩ k3),cJ.pr.trans (fun b hb=>k4 b (Or.inl hb)),?_,?_,?_,?_,?_,?_⟩
    .subst e1;refine⟨v,vs',rfl,?_,?_⟩
     .show pO h g1.Pr t m x v (if i=i then F1 else Fs i);rw[ak rfl];exact⟨c,az.mono k4 (fun _ _=>rfl) t q4 (Sub.refl _) (fun _ _=>rfl),ev⟩
     .exact oe.mono (Sub.refl _) ks (i+1) (fun j hj=>by show(if j=i then F1 else Fs j)=Fs j;rw[af (by omega)]) k5
    .intro j hj;show(if j=i then F1 else Fs j)=Nil;rw[af (by omega)];exact k6 j (by omega)
    .intro j b hb;split at hb
     .exact jq b ⟨.inr (q1 b hb),fun h2=>q3 b hb h2⟩
     .exact k7 j b hb
    .intro j k oE b h1 h2;split at h1<;>split at h2
     .omega
     .exact k9 k b h2 ⟨.inr (q1 b h1),fun h3=>q3 b h1 h3⟩
     .exact k9 j b h1 ⟨.inr (q1 b h2),fun h3=>q3 b h2 h3⟩
     .exact k8 j k oE b h1 h2
    .intro j b h1 h2;split at h1
     .exact cJ.d6 b (q1 b h1) h2
     .exact k9 j b h1 ⟨.inl h2,fun h3=>cJ.d6 b (q2 b h3) h2⟩
    .intro b hb;exact jq b ⟨.inl hb,fun h3=>cJ.d6 b (q2 b h3) hb⟩
   .simp at hb
 | .val t::ks,aJ,vs,rt,g,H,i,gd,d8,ha,st,hb=>by
  cases aJ with
  | nil=>simp[fZ]at hb
  | cons a aJ=>obtain⟨v,vs',rfl,r1,r2⟩:=ha;obtain⟨g1,H1,Fs,k1,k2,k3,k4,k5,k6,k⟩:=Ck ks aJ vs' rt g H (i+1) gd d8 r2 st hb;exact⟨g1,H1,Fs,k1,k2,k3,k4,⟨v,vs',rfl,k5⟩,fun j hj=>k6 j (by omega),k⟩
 | .cD _ _ _::ks,aJ,vs,rt,g,H,i,gd,d8,ha,st,hb=>by
  cases aJ with
  | nil=>simp[fZ]at hb
  | cons a aJ=>obtain⟨v,vs',rfl,r1,r2⟩:=ha;obtain⟨g1,H1,Fs,k1,k2,k3,k4,k5,k6,k⟩:=Ck ks aJ vs' rt g H (i+1) gd d8 r2 st hb;exact⟨g1,H1,Fs,k1,k2,k3,k4,⟨v,vs',rfl,k5⟩,fun j hj=>k6 j (by omega),k⟩
 | .cQ _ _ _::ks,aJ,vs,rt,g,H,i,gd,d8,ha,st,hb=>by
  cases aJ with
  | nil=>simp[fZ]at hb
  | cons a aJ=>obtain⟨v,vs',rfl,r1,r2⟩:=ha;obtain⟨g1,H1,Fs,k1,k2,k3,k4,k5,k6,k⟩:=Ck ks aJ vs' rt g H (i+1) gd d8 r2 st hb;exact⟨g1,H1,Fs,k1,k2,k3,k4,⟨v,vs',rfl,k5⟩,fun j hj=>k6 j (by omega),k⟩
 | .cq _::ks,aJ,vs,rt,g,H,i,gd,d8,ha,st,hb=>by
  cases aJ with
  | nil=>simp[fZ]at hb
  | cons a aJ=>obtain⟨v,vs',rfl,r1,r2⟩:=ha;obtain⟨g1,H1,Fs,k1,k2,k3,k4,k5,k6,k⟩:=Ck ks aJ vs' rt g H (i+1) gd d8 r2 st hb;exact⟨g1,H1,Fs,k1,k2,k3,k4,⟨v,vs',rfl,k5⟩,fun j hj=>k6 j (by omega),k⟩
 | .fn::ks,aJ,vs,rt,g,H,i,gd,d8,ha,st,hb=>by
  cases aJ with
  | nil=>simp[fZ]at hb
  | cons a aJ=>obtain⟨v,vs',rfl,r1,r2⟩:=ha;obtain⟨g1,H1,Fs,k1,k2,k3,k4,k5,k6,k⟩:=Ck ks aJ vs' rt g H (i+1) gd d8 r2 st hb;exact⟨g1,H1,Fs,k1,k2,k3,k4,⟨v,vs',rfl,k5⟩,fun j hj=>k6 j (by omega),k⟩
end
end Go.V
namespace Go.V
noncomputable section
open Go
def Seen(sh:Bool)(S:St)(g:aA):BS:=if sh then g.Pr else zo S g
theorem Fi(sh:Bool)(S:St)(g:aA):Sub g.Pr (Seen sh S g):=by
 intro b hb;unfold Seen;split
 .exact hb
 .exact .inl hb
section
variable {h:Array Obj} {S:St} {g:aA} {tmps:Array Value} {H:BS} (st:aE h S g tmps H)
include st
theorem Ft:∀(t:Ty){a:AV}{x:t.den}{c:List Value},a.shared=true->rd S.rt t a=some x->dg h S g a c->az h g.Pr t .no x c Nil
 | t,a,x,c,hs,hr,y=>by
  cases a with
  | val t' x'=>
   have hc:qbv t' t x'=some x:=by cases t<;>simpa only [rd] using hr
   simp only[dg]at y;exact(az.cast hc y).2
  | unit=>
   cases t with
   | unit=>simp only[dg]at y;simp only[az];exact y
   | _=>simp[rd]at hr
  | pair u v=>
   cases t with
   | pair a b=>simp only[AV.shared,bI]at hs;simp only[rd,cM,aK]at hr;obtain⟨x1,h1,x2,h2,rfl⟩:=hr;simp only[dg]at y;obtain⟨ca,cb,rfl,y1,y2⟩:=y;simp only[az];exact⟨ca,cb,Nil,Nil,rfl,Ft a hs.1 h1 y1,Ft b hs.2 h2 y2,Sub.nil _,Sub.nil _,cC.nil _⟩
   | _=>simp[rd]at hr
  | undef=>cases t<;>simp[rd]at hr
  | b8 r p s=>simp[AV.shared]at hs
  | _=>simp only[dg]at y
theorem alA(t:Ty){a:AV}{x:t.den}{v:Value}(hs:a.shared=true)(hr:rd S.rt t a=some x)(y:qe h S g a v):pO h g.Pr t .no x v Nil:=by
 cases a with
 | val t' x'=>
  have hc:qbv t' t x'=some x:=by cases t<;>simpa only [rd] using hr
  simp only[qe]at y;obtain⟨c,r,rfl⟩:=y;obtain⟨rfl,r2⟩:=az.cast hc r;exact⟨c,r2,rfl⟩
 | cH b=>
  cases t with
  | bool=>simp only[rd,aK]at hr;simp only[qe]at y;subst hr;subst y;exact⟨[.bool b],by simp only[az],rfl⟩
  | _=>simp[rd]at hr
 | unit=>
  cases t with
  | unit=>simp only[qe]at y;exact⟨[],by simp only[az],by rw[y];rfl⟩
  | _=>simp[rd]at hr
 | fl=>
  cases t with
  | sl e=>simp only[rd,aK]at hr;simp only[qe]at y;subst hr;subst y;exact⟨[.slice none 0 0],by simp only[az];exact⟨none,0,by simp,by simp,by simp⟩,rfl⟩
  | _=>simp[rd]at hr
 | pair u w=>
  cases t with
  | pair a b=>simp only[qe]at y;obtain⟨ca,cb,rfl,y1,y2⟩:=y;exact⟨ca++cb,Ft st (.pair a b) (a:=.pair u w) hs hr (by simp only[dg];exact⟨ca,cb,rfl,y1,y2⟩),rfl⟩
  | _=>simp[rd]at hr
 | b8 r p s=>simp[AV.shared]at hs
 | _=>cases t<;>simp[rd]at hr
theorem aj8{sh:Bool}(t:Ty){a:AV}{x:t.den}{v:Value}(hs:sh=true->a.shared=true)(hr:rd S.rt t a=some x)(y:qe h S g a v) :
  pO h (Seen sh S g) t .no x v Nil:=by
 cases sh with
 | true=>exact alA st t (hs rfl) hr y
 | false=>obtain⟨c,e,r⟩:=qN st t hr y;exact⟨c,r,e⟩
theorem HA{Pr:BS}(hp:Sub g.Pr Pr){t:Ty}{x:t.den}{v:Value}(y:yN h g t x v):yN h (PG Pr) t x v:=by obtain⟨b,o,cs,e,pb,hb,hs,r⟩:=y;exact⟨b,o,cs,e,hp b pb,hb,hs,az.mono hp (fun _ _=>rfl) t r (Sub.refl _) (fun _ _=>rfl)⟩
theorem Ry{r:Nat}{p:Path}{d:Dy}{v:Value}(hf:S.rt.focus r p=some d)(hw:d.ms.whole=true)(x:qe h S g (.addr r p) v):yN h (PG (zo S g)) d.ty d.x v:=by
 simp only[aP.focus]at hf;split at hf
 .rename_i R hR;simp only[qe]at x;obtain⟨h1,b,off,c,h2,h3⟩:=x R hR d hf;obtain⟨base,c',F,q1,q2,q3,q4,q5,_⟩:=st.update hR hf h1;rw[h2]at q1;simp only[aK,aY]at q1;obtain⟨rfl,rfl⟩:=q1;have bP:(S.root r).isSome:=by show(S.rt.root r).isSome=true;rw[hR];rfl
  obtain⟨_,cs,xg,hs,hsub⟩:=q4 b off rfl;have hl:=az.width _ q2;refine⟨b,off,cs,h3,.inr ⟨r,bP,q5 b off rfl⟩,xg.CL,by omega,?_⟩;rw[<-hl,hsub];exact az.mono (fun b hb=>hb.elim .inl (fun hb=>.inr ⟨r,bP,q3 b hb⟩)) (fun _ _=>rfl) _ (az.share _ hw q2) (Sub.refl _) (fun _ _=>rfl)
 .simp at hf
theorem AT{sh:Bool}:∀{a:AV}{l:List bC}{vs:List Value},(sh=true->a.shared=true)->l9 S.rt a=some l->aO h S g a vs->nV h (PG (Seen sh S g)) l vs
 | .unit,l,vs,_,hc,y=>by
  simp only[l9,aK]at hc;subst hc;simp only[aO]at y;exact y
 | .pair u w,l,vs,hs,hc,y=>by
  simp only[aO]at y;obtain⟨v,vs',rfl,y1,y2⟩:=y;have lU:sh=true->w.shared=true:=fun h=>by have:=hs h;simp only[AV.shared,bI]at this;exact this.2
  have tr:sh=true->u.shared=true:=fun h=>by have:=hs h;simp only[AV.shared,bI]at this;exact this.1
  cases u with
  | addr r p=>
   simp only[l9]at hc;split at hc
   .rename_i d hf;split at hc
    .rename_i hw;simp only[cM,aK]at hc;obtain⟨l',hc,rfl⟩:=hc;refine⟨v,vs',rfl,?_,AT lU hc y2⟩;cases sh with
     | true=>have:=tr rfl;simp[AV.shared]at this
     | false=>exact Ry st hf hw y1
    .simp at hc
   .simp at hc
  | ck t x=>simp only[l9,cM,aK]at hc;obtain⟨l',hc,rfl⟩:=hc;simp only[qe]at y1;exact⟨v,vs',rfl,HA st (Fi sh S g) y1,AT lU hc y2⟩
  | val t x=>simp only[l9,cM,aK]at hc;obtain⟨l',hc,rfl⟩:=hc;simp only[qe]at y1;obtain⟨c,r,e⟩:=y1;exact⟨v,vs',rfl,⟨c,az.mono (Fi sh S g) (fun _ _=>rfl) t r (Sub.refl _) (fun _ _=>rfl),e⟩,AT lU hc y2⟩
  | _=>simp[l9]at hc
 | .undef,_,_,_,hc,_=>by simp[l9]at hc
 | .skip,_,_,_,hc,_=>by simp[l9]at hc
 | .cH _,_,_,_,hc,_=>by simp[l9]at hc
 | .fl,_,_,_,hc,_=>by simp[l9]at hc
 | .val _ _,_,_,_,hc,_=>by simp[l9]at hc
 | .b8 _ _ _,_,_,_,hc,_=>by simp[l9]at hc
 | .view _ _ _ _ _,_,_,_,hc,_=>by simp[l9]at hc
 | .addr _ _,_,_,_,hc,_=>by simp[l9]at hc
 | .ck _ _,_,_,_,hc,_=>by simp[l9]at hc
 | .jJ _,_,_,_,hc,_=>by simp[l9]at hc
 | .gI _ _,_,_,_,hc,_=>by simp[l9]at hc
 | .ep _,_,_,_,hc,_=>by simp[l9]at hc
theorem Ie{Pr:BS}(hp:Sub g.Pr Pr):∀{l:List bC}{vs:List Value},nV h g l vs->nV h (PG Pr) l vs
 | [],_,y=>y
 | c::l,_,y=>by
  obtain⟨v,vs',e,h1,h2⟩:=y;refine⟨v,vs',e,?_,Ie hp h2⟩;cases c with
  | val t x=>obtain⟨c,r,e⟩:=h1;exact⟨c,az.mono hp (fun _ _=>rfl) t r (Sub.refl _) (fun _ _=>rfl),e⟩
  | cq t x=>exact HA st hp h1
def vC(h:Array Obj)(Pr:BS)(Fs:Nat->BS):Nat->(ks:List PK)->dG ks->List Value->Prop
 | _,[],_,vs=>vs=[]
 | i,.cD t m _::ks,o,vs=>∃v vs',vs=v::vs'/\wm h Pr t m o.1 v (Fs i)/\vC h Pr Fs (i+1) ks o.2 vs'
 | i,.cQ t m _::ks,o,vs=>∃v vs',vs=v::vs'/\pO h Pr t m o.1 v (Fs i)/\vC h Pr Fs (i+1) ks o.2 vs'
 | i,.val _::ks,o,vs=>∃v vs',vs=v::vs'/\vC h Pr Fs (i+1) ks o vs'
 | i,.own _ _::ks,o,vs=>∃v vs',vs=v::vs'/\vC h Pr Fs (i+1) ks o vs'
 | i,.cq _::ks,o,vs=>∃v vs',vs=v::vs'/\vC h Pr Fs (i+1) ks o vs'
 | i,.fn::ks,o,vs=>∃v vs',vs=v::vs'/\vC h Pr Fs (i+1) ks o vs'
theorem yJ{sh:Bool}{Fs:Nat->BS}:∀(ks:List PK)(aJ:List AV)(vs:List Value)(i:Nat)(gd:js ks)(od:dG ks)(a:gf ks),(sh=true->mL ks aJ=true)->
  l_ h S g aJ vs->oe h g.Pr Fs i ks gd vs->vC h g.Pr Fs i ks od vs->ji S.rt ks aJ gd od=some a->yX h (Seen sh S g) Fs i ks a vs
 | [],aJ,vs,i,gd,od,a,_,ha,hg,_,hd=>by
  simp only[oe]at hg;exact hg
 | k::ks,[],vs,i,gd,od,a,_,ha,hg,_,hd=>by cases k<;>simp[ji]at hd
 | k::ks,u::aJ,vs,i,gd,od,a,hs,ha,hg,hl,hd=>by
  obtain⟨v,vs',rfl,r1,r2⟩:=ha;have lU:sh=true->mL ks aJ=true:=fun e=>by have:=hs e;simp only[mL,bI]at this;exact this.2
  have tr:sh=true->k.plain=true->u.shared=true:=fun e e2=>by
   have:=hs e;simp only[mL,bI,jC,kB]at this;rcases this.1 with h3 | h3
   .rw[e2]at h3;simp at h3
   .exact h3
  cases k with
  | val t=>simp only[ji,cM,aK]at hd;obtain⟨x,hx,r,hr,rfl⟩:=hd;obtain⟨_,_,e,hg⟩:=hg;obtain⟨_,_,e2,hl⟩:=hl;simp only[eZ]at e e2;obtain⟨rfl,rfl⟩:=e;obtain⟨-,rfl⟩:=e2;exact⟨v,vs',rfl,aj8 st t (fun e=>tr e rfl) hx r1,yJ ks aJ vs' (i+1) gd od r lU r2 hg hl hr⟩
  | own t m=>simp only[ji,cM,aK]at hd;obtain⟨r,hr,rfl⟩:=hd;obtain⟨_,_,e,hv,hg⟩:=hg;obtain⟨_,_,e2,hl⟩:=hl;simp only[eZ]at e e2;obtain⟨rfl,rfl⟩:=e;obtain⟨-,rfl⟩:=e2;exact⟨v,vs',rfl,hv.mono (Fi sh S g),yJ ks aJ vs' (i+1) gd.2 od r lU r2 hg hl hr⟩
  | cD t m m'=>simp only[ji,cM,aK]at hd;obtain⟨r,hr,rfl⟩:=hd;obtain⟨_,_,e,hg⟩:=hg;obtain⟨_,_,e2,hv,hl⟩:=hl;simp only[eZ]at e e2;obtain⟨rfl,rfl⟩:=e;obtain⟨rfl,rfl⟩:=e2;refine⟨v,vs',rfl,?_,yJ ks aJ vs' (i+1) gd od.2 r lU r2 hg hl hr⟩;obtain⟨b,c,F0,e,r,k⟩:=hv;exact⟨b,c,F0,e,az.mono (Fi sh S g) (fun _ _=>rfl) t r (Sub.refl _) (fun _ _=>rfl),k⟩
  | cQ t m m'=>simp only[ji,cM,aK]at hd;obtain⟨r,hr,rfl⟩:=hd;obtain⟨_,_,e,hg⟩:=hg;obtain⟨_,_,e2,hv,hl⟩:=hl;simp only[eZ]at e e2;obtain⟨rfl,rfl⟩:=e;obtain⟨rfl,rfl⟩:=e2;exact⟨v,vs',rfl,hv.mono (Fi sh S g),yJ ks aJ vs' (i+1) gd od.2 r lU r2 hg hl hr⟩
  | cq t=>
   obtain⟨_,_,e,hg⟩:=hg;obtain⟨_,_,e2,hl⟩:=hl;simp only[eZ]at e e2;obtain⟨rfl,rfl⟩:=e;obtain⟨-,rfl⟩:=e2;cases u with
   | ck t' x=>simp only[ji,cM,aK]at hd;obtain⟨y,hc,r,hr,rfl⟩:=hd;simp only[qe]at r1;obtain⟨e1,e2⟩:=Dt hc;subst e1;simp only at e2;subst e2;exact⟨v,vs',rfl,HA st (Fi sh S g) r1,yJ ks aJ vs' (i+1) gd od r lU r2 hg hl hr⟩
   | addr q p=>
    simp only[ji]at hd;split at hd
    .rename_i d hf;split at hd
     .rename_i hw;simp only[cM,aK]at hd;obtain⟨y,hc,r,hr,rfl⟩:=hd;refine⟨v,vs',rfl,?_,yJ ks aJ vs' (i+1) gd od r lU r2 hg hl hr⟩;obtain⟨dt,dm,dx⟩:=d;simp only at hc hw;obtain⟨e1,e2⟩:=Dt hc;subst e1;simp only at e2;subst e2;cases sh with
      | true=>have:=tr rfl rfl;simp[AV.shared]at this
      | false=>exact Ry st hf hw r1
     .simp at hd
    .simp at hd
   | _=>simp[ji]at hd
  | fn=>
   obtain⟨_,_,e,hg⟩:=hg;obtain⟨_,_,e2,hl⟩:=hl;simp only[eZ]at e e2;obtain⟨rfl,rfl⟩:=e;obtain⟨-,rfl⟩:=e2;cases u with
   | gI f caps=>simp only[ji,cM,aK]at hd;obtain⟨l,hc,r,hr,rfl⟩:=hd;simp only[qe]at r1;obtain⟨ws,e,ht⟩:=r1;exact⟨v,vs',rfl,⟨ws,e,AT st (fun e=>by have:=tr e rfl;simpa [AV.shared] using this) hc ht⟩,yJ ks aJ vs' (i+1) gd od r lU r2 hg hl hr⟩
   | ep c=>simp only[ji,cM,aK]at hd;obtain⟨r,hr,rfl⟩:=hd;simp only[qe]at r1;obtain⟨ws,e,ht⟩:=r1;exact⟨v,vs',rfl,⟨ws,e,Ie st (Fi sh S g) ht⟩,yJ ks aJ vs' (i+1) gd od r lU r2 hg hl hr⟩
   | _=>simp[ji]at hd
end
end
end Go.V
namespace Go.V
noncomputable section
open Go
theorem lu.conv{h:Array Obj}{Pr gh:BS}{Gs:Nat->BS}:∀(rs:List RK)(i:Nat){r:f8 rs}{us:List Value},(Sub Pr gh\/rs.all RK.full=true)->lu h Pr Gs i rs r us->lu h gh Gs i rs r us
 | [],_,_,_,_,k=>k
 | q::rs,i,r,us,hc,k=>by
  obtain⟨v,vs',e,k1,k2⟩:=k;have g_:Sub Pr gh\/rs.all RK.full=true:=hc.imp id fun h=>by simp only[gW,bI]at h;exact h.2
  refine⟨v,vs',e,?_,lu.conv rs (i+1) g_ k2⟩;have conv:∀(t:Ty)(m:Mk)(x:t.den)(c:List Value)(F:BS),(m.full t=true\/Sub Pr gh)->az h Pr t m x c F->az h gh t m x c F:=fun t m x c F hh rr=>
   hh.elim (fun h=>az.lS t h rr) (fun h=>az.mono h (fun _ _=>rfl) t rr (Sub.refl _) (fun _ _=>rfl))
  have hf:q.ms.full q.ty=true\/Sub Pr gh:=hc.symm.imp (fun h=>by simp only[gW,bI]at h;cases q<;>exact h.1) id;cases q with
  | val t m=>obtain⟨c,rr,e⟩:=k1;exact⟨c,conv t m _ c _ hf rr,e⟩
  | ptr t m=>obtain⟨b,c,F0,e,rr,k⟩:=k1;exact⟨b,c,F0,e,conv t m _ c _ hf rr,k⟩
theorem ajW{w w':World}{sl:List AV}{rt:aP}{g:aA}{tmps:Array Value}{H:BS}(st:aE w.heap ⟨sl,rt⟩ g tmps H){Fs:Nat->BS}(hF:∀i,Sub (Fs i) H)
  {sh:Bool} {ks:List PK} {rs:List RK} {r:f8 rs} {o:dG ks} {vs:List Value} {val:Value} {fN:BS} {Gs Os:Nat->BS} {us:List Value}
  (p:UU w w' (Seen sh ⟨sl,rt⟩ g) Fs ks rs r o vs val fN Gs Os us) (hfull:sh=false->rs.all RK.full=true) :
  ∃g3 H3,aE w'.heap ⟨sl,rt⟩ g3 tmps H3/\lu w'.heap g3.Pr Gs 0 rs r us/\(∀i,Sub (Gs i) H3)/\g3.cT g:=by
 have hk:∀b,b<w.heap.size->¬ H b->w'.heap[b]? = w.heap[b]?:=fun b hb hn=>p.fr.block b hb (by
  rintro(h1 | ⟨i,h1⟩)
  .omega
  .exact hn (hF i b h1))
 have DM:=st.oB hk p.fr.size (fun b=>H b\/(w.heap.size<=b/\b<w'.heap.size)) (fun b hb=>hb);have jd:∀b,tX w.heap.size Fs b->b<w'.heap.size->H b\/(w.heap.size<=b/\b<w'.heap.size):=by
  rintro b (h1 | ⟨i,h1⟩) h2
  .exact .inr ⟨h1,h2⟩
  .exact .inl (hF i b h1)
 cases sh with
 | false=>exact⟨g,_,DM,lu.conv rs 0 (.inr (hfull rfl)) p.res,fun i b hb=>jd b (p.gL i b hb) (p.wP i b hb),.refl _⟩
 | true=>
  have hD:Sub (fun b=>fN b/\¬ g.Pr b) (fun b=>H b\/(w.heap.size<=b/\b<w'.heap.size)):=by
   rintro b ⟨h1,h2⟩;rcases p.kZ b h1 with h3 | h3
   .exact absurd h3 h2
   .exact jd b h3 (p.AD b h1)
  refine⟨_,_,DM.cR _ hD,lu.conv rs 0 (.inl ?_) p.res,fun i b hb=>⟨jd b (p.gL i b hb) (p.wP i b hb),fun h=>p.gp i b hb h.1⟩,⟨rfl,rfl,rfl⟩⟩;intro b hb;by_cases h1:g.Pr b
  .exact .inl h1
  .exact .inr ⟨hb,h1⟩
def mP:List RK->List Value->List Value
 | [],_=>[]
 | k::ks,c=>dK k.ty (c.take k.ty.width)::mP ks (c.drop k.ty.width)
theorem Nk{h:Array Obj}{Pr:BS}{Gs:Nat->BS}(hd:∀i j,i≠j->cC (Gs i) (Gs j)):∀(rs:List RK)(i:Nat){r:f8 rs}{us:List Value},rs.all (fun k=>!k.kT&&k.ty.nz)=true->lu h Pr Gs i rs r us->
  ∃c F,az h Pr (jr rs) (pQ rs) (kq rs r) c F/\(∀b,F b->∃j,i<=j/\Gs j b)/\us=mP rs c
 | [],i,r,us,_,k=>⟨[],Nil,by simp only[jr,az],fun b h=>h.elim,k⟩
 | .ptr t m::rs,i,r,us,hp,k=>by simp[RK.kT]at hp
 | .val t m::rs,i,r,us,hp,k=>by
  simp only[gW,bI]at hp;obtain⟨v,vs',rfl,⟨c1,r1,rfl⟩,k2⟩:=k;obtain⟨c2,F2,r2,t_,rfl⟩:=Nk hd rs (i+1) hp.2 k2;refine⟨c1++c2,Un (Gs i) F2,?_,?_,?_⟩
  .simp only[jr,pQ,kq,az,Mk.fst,Mk.snd];refine⟨c1,c2,Gs i,F2,rfl,r1,r2,fun b hb=>.inl hb,fun b hb=>.inr hb,?_⟩;intro b h1 h2;obtain⟨j,hj,h3⟩:=t_ b h2;exact hd i j (by omega) b h1 h3
  .rintro b (hb | hb)
   .exact⟨i,ct _,hb⟩
   .obtain⟨j,hj,h3⟩:=t_ b hb;exact⟨j,by omega,h3⟩
  .have hl:=az.width t r1;simp only[mP,RK.ty];rw[jn hl,i5 hl]
theorem Iu{h:Array Obj}{S:St}{g:aA}:∀(rs:List RK){x:(jr rs).den}{c:List Value}{F:BS},az h g.Pr (jr rs) .no x c F->aO h S g (zh (jr rs) x) (mP rs c)
 | [],x,c,F,r=>by simp only[jr,zh,aO,mP]
 | k::rs,x,c,F,r=>by
  simp only[jr,az]at r;obtain⟨ca,cb,Fa,Fb,rfl,ra,rb,_⟩:=r;have hl:=az.width _ ra;simp only[jr,zh,aO,mP];rw[jn hl,i5 hl];refine⟨_,_,rfl,?_,Iu rs rb⟩;simp only[qe];exact⟨ca,az.eM (m:=.no) _ rfl ra,rfl⟩
theorem Ow{h:Array Obj}{S:St}{g:aA}{r:Nat}{R:aC}(hR:S.root r=some R):∀(rs:List RK)(p:Path)(m:Mk)(x:(jr rs).den)(base:fI)(c:List Value)(F:BS),
  focus R.ty R.ms R.x p=some ⟨jr rs,m,x⟩->bw R.ty R.x p->cv h R.ty (g.C r) (g.base r) p=some (base,c)->az h g.Pr (jr rs) m x c F->rs.all (fun k=>!k.kT&&k.ty.nz)=true->
  aO h S g (yq (cX r (jr rs) m x p)) (mP rs c)
 | [],p,m,x,base,c,F,_,_,_,_,_=>by simp only[jr,cX,yq,aO,mP]
 | k::rs,p,m,x,base,c,F,hf,hin,eu,rep,hall=>by
  simp only[gW,bI]at hall;simp only[jr,cX];by_cases hs:m.still=true
  .rw[ak hs];have:=Iu (S:=S) (k::rs) (az.eM (F':=Nil) _ hs rep);exact this
  .rw[af hs];have oh:=rep;simp only[jr,az]at oh;obtain⟨ca,cb,Fa,Fb,rfl,ra,rb,_⟩:=oh;have hl:=az.width _ ra;have XD:focus R.ty R.ms R.x (p++[.fst])=some ⟨k.ty,m.fst,x.1⟩:=by rw[vc p _ hf];simp only[jr,focus]
   have XE:focus R.ty R.ms R.x (p++[.snd])=some ⟨jr rs,m.snd,x.2⟩:=by rw[vc p _ hf];simp only[jr,focus]
   have hia:bw R.ty R.x (p++[.fst]):=(yQ p _ hf).2 ⟨hin,by simp only[jr,bw]⟩;have hib:bw R.ty R.x (p++[.snd]):=(yQ p _ hf).2 ⟨hin,by simp only[jr,bw]⟩;have haa:cv h R.ty (g.C r) (g.base r) (p++[.fst])=some (base,ca):=by rw[vn p _ hf eu];simp only[jr,cv];rw[jn hl]
   have hab:cv h R.ty (g.C r) (g.base r) (p++[.snd])=some (base.map fun x=>(x.1,x.2+k.ty.width),cb):=by rw[vn p _ hf eu];simp only[jr,cv];rw[i5 hl]
   simp only[yq,aO,mP];rw[jn hl,i5 hl];refine⟨_,_,rfl,dg.rel ra (EU hR _ _ _ _ _ _ _ XD hia haa ra) (Ty.kV hall.1.2),?_⟩;exact Ow hR rs (p++[.snd]) m.snd x.2 _ cb Fb XE hib hab rb hall.2
theorem aaN{a b:RK}{rs:List RK}{c:List Value}:tN (mP (a::b::rs) c)=.tuple (mP (a::b::rs) c).toArray:=by simp only[mP,tN]
theorem GZ{h:Array Obj}{S:St}{d8:aP}{g:aA}{tmps:Array Value}{H:BS}(st:aE h ⟨S.sl,d8⟩ g tmps H){Gs:Nat->BS}(hG:∀i,Sub (Gs i) H)(hd:∀i j,i≠j->cC (Gs i) (Gs j))
  {A:bY} {d:Option Nat} {site:Nat} (ok:nO A S d site):∀(rs:List RK){r:f8 rs}{us:List Value}{β:Bool}{v:AV}{rt':aP},lu h g.Pr Gs 0 rs r us->
  (mA A d8 d site rs r).dec β=some (v,rt')->∃g',aE h ⟨S.sl,rt'⟩ g' tmps Nil/\qe h ⟨S.sl,rt'⟩ g' v (tN us)/\g'.cT g
 | [],r,us,β,v,rt',k,e=>by
  simp only[lu]at k;subst k;simp only[mA,Tr.dec,aK,aY]at e;obtain⟨rfl,rfl⟩:=e;refine⟨g,st.bB (Sub.nil _),?_,.refl _⟩;simp only[qe,tN];exact⟨[],rfl,by simp only[aO]⟩
 | [.val t m],r,us,β,v,rt',k,e=>by
  obtain⟨u,vs',rfl,⟨c,rr,rfl⟩,k2⟩:=k;simp only[lu]at k2;subst k2;simp only[mA]at e;by_cases hsh:A.sh=true
  .rw[ak hsh]at e;by_cases hw:m.whole=true
   .rw[ak hw]at e;simp only[Tr.dec,aK,aY]at e;obtain⟨rfl,rfl⟩:=e;obtain⟨g',s1,s2,s3,_⟩:=VI st rr (hG 0) hw;exact⟨g',s1.bB (Sub.nil _),by simp only[qe,tN];exact⟨c,s2,rfl⟩,s3⟩
   .rw[af hw]at e;simp[Tr.dec]at e
  rw[af hsh]at e;by_cases hm:m.ax=true
  .rw[ak hm]at e;obtain⟨g',s1,s2,s3⟩:=Cv st rr (aL.ax _ hm) (hG 0) ok e;exact⟨g',s1,s2,s3⟩
  .rw[af hm]at e;simp[Tr.dec]at e
 | [.ptr t m],r,us,β,v,rt',k,e=>by
  obtain⟨u,vs',rfl,⟨b,c,F0,rfl,rr,ho,hb,hF0,hn⟩,k2⟩:=k;simp only[lu]at k2;subst k2;simp only[mA]at e;by_cases hm:m.ax=true
  .rw[ak hm]at e;obtain⟨g',s1,s2,s3⟩:=Fc st rr (aL.ax _ hm) (fun x hx=>hG 0 x (hF0 x hx)) (hG 0 b hb) hn ho ok e;exact⟨g',s1,s2,s3⟩
  .rw[af hm]at e;simp[Tr.dec]at e
 | q1::q2::rs,r,us,β,v,rt',k,e=>by
  have e':(Cu A d8 d site (q1::q2::rs) r).dec β=some (v,rt'):=by cases q1<;>simpa only [mA] using e
  unfold Cu at e';by_cases hc:((pQ (q1::q2::rs)).ax&&(q1::q2::rs).all (fun k=>!k.kT&&k.ty.nz))=true
  .rw[ak hc]at e';simp only[bI]at hc;obtain⟨c,F,rep,hF,rfl⟩:=Nk hd _ 0 hc.2 k;have hFH:Sub F H:=fun b hb=>by obtain⟨j,_,h3⟩:=hF b hb;exact hG j b h3
   rw[aaN];cases d with
   | none=>simp only[Tr.dec,aK,aY]at e';obtain⟨rfl,rfl⟩:=e';exact⟨g,st.bB (Sub.nil _),by simp only[qe],.refl _⟩
   | some d=>
    simp only at e';cases hl:dR A d8 (some d) site (jr (q1::q2::rs)) (pQ (q1::q2::rs)) (kq (q1::q2::rs) r) false with
    | ret z=>
     obtain⟨v1,fk⟩:=z;rw[hl]at e';simp only[Tr.dec,aK,aY]at e';obtain⟨rfl,rfl⟩:=e';simp only[dR,fe,dX]at hl;split at hl
     .simp at hl
     .rename_i hn;simp only[jC,kB,n9,FH,oa]at hn;split at hl
      .rename_i hs;simp only[Tr.ret.injEq,aY]at hl;obtain⟨rfl,rfl⟩:=hl;refine⟨g,st.bB (Sub.nil _),?_,.refl _⟩;simp only[qe];exact⟨_,rfl,Iu _ (az.eM (F':=Nil) _ hs rep)⟩
      .split at hl
       .rename_i mj;simp only[Tr.ret.injEq,aY]at hl;obtain⟨rfl,rfl⟩:=hl;have oh:=(az.stamp (h:=h) (Pr:=g.Pr) site _).1 rep;have key:∀u,((⟨S.sl,d8⟩:St).get u).roots.contains d=false\/(∃lo hi,((⟨S.sl,d8⟩:St).get u).aR lo hi=true/\((⟨S.sl,d8⟩:St).get u).gK d=true/\((pQ (q1::q2::rs)).stamp site).fresh lo hi/\(none:Option Nat)=none):=by
         intro u;simp only[jC,bI]at mj;rcases mj with mj | ⟨⟨jN,g_⟩,rO⟩
         .exact .inl (ok.xG mj d rfl u)
         .exact .inr ⟨site,site+1,(ok.fr jN).2 u,ok.pl rO d rfl u,Mk.dP site g_,rfl⟩
        obtain⟨g',s1,s2,s3,s4,s5,s6⟩:=st.kU hn.1 oh (aL.stamp hn.2 _ (aL.ax _ hc.1)) hFH none (fun b hb=>by simp at hb) key;refine⟨g',s1.bB (Sub.nil _),?_,s3⟩;have hR:(⟨S.sl,d8.aI d (some ⟨jr (q1::q2::rs),(pQ (q1::q2::rs)).stamp site,kq (q1::q2::rs) r,false⟩)⟩:St).root d=some ⟨jr (q1::q2::rs),(pQ (q1::q2::rs)).stamp site,kq (q1::q2::rs) r,false⟩:=by have:=St.b7 (⟨S.sl,d8⟩:St) d (some ⟨jr (q1::q2::rs),(pQ (q1::q2::rs)).stamp site,kq (q1::q2::rs) r,false⟩) d;rw[ak ⟨rfl,hn.1⟩]at this;exact this
        simp only[qe];refine⟨_,rfl,?_⟩;refine Ow hR (q1::q2::rs) [] _ _ (g'.base d) c F (Mx _ _ _) (xW _ _) ?_ (by rw[s2];exact oh) hc.2;rw[s4];exact ET _ _ _ _
       .simp at hl
    | _=>rw[hl]at e';simp[Tr.dec]at e'
  .rw[af hc]at e';simp[Tr.dec]at e'
end
theorem Kz{h:Array Obj}{Pr:BS}{Fs:Nat->BS}:∀(ks:List PK)(aJ:List AV)(vs:List Value)(i:Nat)(rt fk:aP)(od:dG ks){S:St}{g:aA},ks.all (fun k=>!k.eE)=true->
  l_ h S g aJ vs->gE rt ks aJ=some (od,fk)->fk=rt/\vC h Pr Fs i ks od vs
 | [],aJ,vs,i,rt,fk,od,S,g,_,ha,hb=>by
  cases aJ with
  | nil=>simp only[gE,aK,aY]at hb;exact⟨hb.2.symm,ha⟩
  | cons a aJ=>simp[gE]at hb
 | k::ks,[],vs,i,rt,fk,od,S,g,_,ha,hb=>by cases k<;>simp[gE]at hb
 | k::ks,a::aJ,vs,i,rt,fk,od,S,g,hn,ha,hb=>by
  simp only[gW,bI]at hn;obtain⟨v,vs',rfl,r1,r2⟩:=ha;cases k with
  | cD t m m'=>simp[PK.eE]at hn
  | cQ t m m'=>simp[PK.eE]at hn
  | val t=>obtain⟨e,k⟩:=Kz (Fs:=Fs) ks aJ vs' (i+1) rt fk od hn.2 r2 (by simpa only [gE] using hb);exact⟨e,v,vs',rfl,k⟩
  | own t m=>obtain⟨e,k⟩:=Kz (Fs:=Fs) ks aJ vs' (i+1) rt fk od hn.2 r2 (by simpa only [gE] using hb);exact⟨e,v,vs',rfl,k⟩
  | cq t=>obtain⟨e,k⟩:=Kz (Fs:=Fs) ks aJ vs' (i+1) rt fk od hn.2 r2 (by simpa only [gE] using hb);exact⟨e,v,vs',rfl,k⟩
  | fn=>obtain⟨e,k⟩:=Kz (Fs:=Fs) ks aJ vs' (i+1) rt fk od hn.2 r2 (by simpa only [gE] using hb);exact⟨e,v,vs',rfl,k⟩
theorem Bi{h:Array Obj}{S:St}{g:aA}{tmps:Array Value}{H:BS}(st:aE h S g tmps H)(sh:Bool):∀b,Seen sh S g b->b<h.size:=by
 intro b hb;unfold Seen at hb;split at hb
 .exact st.bR b hb
 .rcases hb with hb | ⟨r,h1,h2⟩
  .exact st.bR b hb
  .exact st.cj r b h1 h2
theorem Bh{h:Array Obj}{S:St}{g:aA}{tmps:Array Value}{H:BS}(st:aE h S g tmps H)(sh:Bool):cC H (Seen sh S g):=by
 intro b hH hb;unfold Seen at hb;split at hb
 .exact st.bM b hH hb
 .rcases hb with hb | ⟨r,h1,h2⟩
  .exact st.bM b hH hb
  .exact st.hand r h1 b h2 hH
section
variable {P:Program} {C:Ctx} {D:Den C} {S:St} {g:aA} {w:World} {tmps:Array Value}
variable {A:bY} {site:Nat} (dy:ow P C D) (st:aE w.heap S g tmps Nil)
include dy st
theorem ajD{f:FuncId}{aJ:List AV}{vs:List Value}{d:Option Nat}(ok:nO A S d site)(ha:l_ w.heap S g aJ vs){gd:js (C.sig f).params}{d8:aP}
  (h1:fZ S.rt (C.sig f).params aJ=some (gd,d8)) (hn:(C.sig f).params.all (fun k=>!k.eE)=true) {od:dG (C.sig f).params} {fk:aP}
  (h2:gE d8 (C.sig f).params aJ=some (od,fk)) {a:gf (C.sig f).params} (h3:ji fk (C.sig f).params aJ gd od=some a)
  (hs:mL (C.sig f).params aJ=true\/(C.sig f).full=true) {r:f8 (C.sig f).res×dG (C.sig f).params} (hD:D f a=some r) {β:Bool} {v:AV} {rt':aP}
  (he:(mA A d8 d site (C.sig f).res r.1).dec β=some (v,rt')) :
  Calls P f vs.toArray w fun e w'=>∃val,e=.returned val/\Post S g w tmps v rt' val w':=by
 obtain⟨g1,H1,Fs,k1,k2,k3,k4,k5,k6,k7,k8,k9,jq⟩:=Ck (sl:=S.sl) (C.sig f).params aJ vs S.rt g Nil 0 gd d8 ha st h1;obtain⟨e2,hL⟩:=Kz (h:=w.heap) (Pr:=g1.Pr) (Fs:=Fs) (C.sig f).params aJ vs 0 d8 fk od hn ha h2;subst e2;have hps:=yJ (S:=⟨S.sl,fk⟩) k1 (sh:=mL (C.sig f).params aJ) (Fs:=Fs) (C.sig f).params aJ vs 0 gd od a (fun h=>h) (ha.kp k2) k5 hL h3;have pre:Pre w.heap (Seen (mL (C.sig f).params aJ) ⟨S.sl,fk⟩ g1) Fs (C.sig f).params a vs:=
  ⟨hps,k8,fun i b hb=>Bh k1 _ b (k7 i b hb),fun i b hb=>k1.ew b (k7 i b hb),Bi k1 _⟩
 refine(dy.ok f a r hD w _ Fs vs pre).mono ?_;rintro e w' ⟨val,fN,Gs,Os,us,rfl,p⟩;obtain⟨g3,H3,q1,q2,q3,q4⟩:=ajW k1 k7 p (fun h=>by
  rcases hs with h5 | h5
  .rw[h]at h5;simp at h5
  .simp only[wK.full,bI]at h5;exact h5.2)
 obtain⟨g4,s1,s2,s3⟩:=GZ q1 q3 p.Aa ok (C.sig f).res q2 he;refine⟨val,rfl,g4,s1,by rw[p.val];exact s2,(k3.trans q4).trans s3,p.fr.mono ?_⟩;rintro b hb (h | ⟨i,h⟩)
 .omega
 .have:=k1.fc b (k7 i b h);rw[k3.2.1]at this;exact this
end
theorem KD:∀(ks:List PK)(aJ:List AV)(rt d8:aP)(gd:js ks),ks.all (fun k=>!k.mh)=true->fZ rt ks aJ=some (gd,d8)->d8=rt
 | [],aJ,rt,d8,gd,_,hb=>by
  cases aJ with
  | nil=>simp only[fZ,aK,aY]at hb;exact hb.2.symm
  | cons a aJ=>simp[fZ]at hb
 | k::ks,[],rt,d8,gd,_,hb=>by cases k<;>simp[fZ]at hb
 | k::ks,a::aJ,rt,d8,gd,hn,hb=>by
  simp only[gW,bI]at hn;cases k with
  | own t m=>simp[PK.mh]at hn
  | val t=>exact KD ks aJ rt d8 gd hn.2 (by simpa only [fZ] using hb)
  | cD t m m'=>exact KD ks aJ rt d8 gd hn.2 (by simpa only [fZ] using hb)
  | cQ t m m'=>exact KD ks aJ rt d8 gd hn.2 (by simpa only [fZ] using hb)
  | cq t=>exact KD ks aJ rt d8 gd hn.2 (by simpa only [fZ] using hb)
  | fn=>exact KD ks aJ rt d8 gd hn.2 (by simpa only [fZ] using hb)
theorem E0{h h2:Array Obj}{Pr gh:BS}{Fs pR:Nat->BS}:∀(ks:List PK)(i:Nat){gd:js ks}{vs:List Value},ks.all (fun k=>!k.mh)=true->oe h Pr Fs i ks gd vs->oe h2 gh pR i ks gd vs
 | [],_,_,_,_,k=>k
 | q::ks,i,gd,vs,hn,k=>by
  simp only[gW,bI]at hn;cases q with
  | own t m=>simp[PK.mh]at hn
  | val t=>obtain⟨v,vs',e,k⟩:=k;exact⟨v,vs',e,E0 ks (i+1) hn.2 k⟩
  | cD t m m'=>obtain⟨v,vs',e,k⟩:=k;exact⟨v,vs',e,E0 ks (i+1) hn.2 k⟩
  | cQ t m m'=>obtain⟨v,vs',e,k⟩:=k;exact⟨v,vs',e,E0 ks (i+1) hn.2 k⟩
  | cq t=>obtain⟨v,vs',e,k⟩:=k;exact⟨v,vs',e,E0 ks (i+1) hn.2 k⟩
  | fn=>obtain⟨v,vs',e,k⟩:=k;exact⟨v,vs',e,E0 ks (i+1) hn.2 k⟩
structure wH (h:Array Obj) (ks:List PK) (aJ:List AV) (vs:List Value) (rt fk:aP) (od:dG ks) (n:Nat) (v:Value) (q:Nat) (t:Ty) (m m':Mk) (R:aC) (x:t.den):Prop where
 root:rt.root q=some R
 UK:m.aQ R.ms=true
 mem:R.mem=true
 cast:qbv R.ty t R.x=some x
 fk:fk=rt.aI q none
 ls:∀Pr Fs i,wm h Pr t m x v (Fs (i+n))->vC h Pr Fs i ks od vs
 out:∀o:dG ks,∃y:t.den,(∀tT site nX,gb tT site ks aJ o=some nX->m'.ax=true/\nX=tT.aI q (some ⟨t,m'.stamp site,y,true⟩))/\
  ∀h' fN Os i,nA h' fN Os i ks o vs->wm h' fN t m' y v (Os (i+n))
 full:ks.all PK.full=true->m'.full t=true
structure wI (h:Array Obj) (ks:List PK) (aJ:List AV) (vs:List Value) (rt fk:aP) (od:dG ks) (n:Nat) (a:AV) (v:Value) (q:Nat) (p:Path) (R:aC) (md:Mk) (t:Ty) (xd:t.den) (m m' mx:Mk) (x:t.den):Prop where
 place:kF a=some (q,p)
 root:rt.root q=some R
 D4:focus R.ty R.ms R.x p=some ⟨t,md,xd⟩
 xE:kj q t a p md xd=some (mx,x)
 paths:vi a p=true
 UK:m.aQ mx=true
 fk:fk=rt.aI q none
 ls:∀Pr Fs i,pO h Pr t m x v (Fs (i+n))->vC h Pr Fs i ks od vs
 out:∀o:dG ks,∃y:t.den,(∀tT site nX,gb tT site ks aJ o=some nX->yb tT site t a m' y=some nX)/\
  ∀h' fN Os i,nA h' fN Os i ks o vs->pO h' fN t m' y v (Os (i+n))
 full:ks.all PK.full=true->m'.full t=true
theorem WS{h:Array Obj}{Pr:BS}{Fs:Nat->BS}{S:St}{g:aA}{ks:List PK}{aJ:List AV}{vs:List Value}{i:Nat}{rt fk:aP}{od:dG ks}(hn:(ks.filter PK.eE).length=0)
  (ha:l_ h S g aJ vs) (hb:gE rt ks aJ=some (od,fk)):fk=rt/\vC h Pr Fs i ks od vs:=by
 refine Kz ks aJ vs i rt fk od ?_ ha hb;rw[lE,Tg]at hn;simpa using hn
theorem J1{site:Nat}:∀(ks:List PK)(aJ:List AV)(o:dG ks)(rt nX:aP),(ks.filter PK.eE).length=0->gb rt site ks aJ o=some nX->nX=rt
 | [],aJ,o,rt,nX,_,hb=>by
  cases aJ with
  | nil=>simp only[gb,aK]at hb;exact hb.symm
  | cons a aJ=>simp[gb]at hb
 | k::ks,[],o,rt,nX,_,hb=>by cases k<;>simp[gb]at hb
 | k::ks,a::aJ,o,rt,nX,hn,hb=>by
  cases k with
  | cD t m m'=>simp[PK.eE]at hn
  | cQ t m m'=>simp[PK.eE]at hn
  | val t=>exact J1 ks aJ o rt nX (by simpa [PK.eE] using hn) (by simpa only [gb] using hb)
  | own t m=>exact J1 ks aJ o rt nX (by simpa [PK.eE] using hn) (by simpa only [gb] using hb)
  | cq t=>exact J1 ks aJ o rt nX (by simpa [PK.eE] using hn) (by simpa only [gb] using hb)
  | fn=>exact J1 ks aJ o rt nX (by simpa [PK.eE] using hn) (by simpa only [gb] using hb)
theorem S8{h:Array Obj}{S:St}{g:aA}:∀(ks:List PK)(aJ:List AV)(vs:List Value)(rt fk:aP)(od:dG ks),(ks.filter PK.eE).length=1->l_ h S g aJ vs->gE rt ks aJ=some (od,fk)->wj ks aJ=true->
  ∃n a v,qe h S g a v/\((∃q t m m' R x,a=.addr q []/\wH h ks aJ vs rt fk od n v q t m m' R x)\/(∃q p R md t xd m m' mx x,wI h ks aJ vs rt fk od n a v q p R md t xd m m' mx x))
 | [],aJ,vs,rt,fk,od,hn,ha,hb,hlo=>by simp at hn
 | k::ks,[],vs,rt,fk,od,hn,ha,hb,hlo=>by cases k<;>simp[gE]at hb
 | k::ks,a::aJ,vs,rt,fk,od,hn,ha,hb,hlo=>by
  obtain⟨v,vs',rfl,r1,r2⟩:=ha;have step:∀(hk:k.eE=false)(LD:wj ks aJ=true)(Vu:dG ks),gE rt ks aJ=some (Vu,fk)->
    (∀h Pr Fs i,vC h Pr Fs (i+1) ks Vu vs'->vC h Pr Fs i (k::ks) od (v::vs'))->
    (∀o:dG (k::ks),∃o':dG ks,(∀tT site,gb tT site (k::ks) (a::aJ) o=gb tT site ks aJ o')/\∀h' fN Os i,nA h' fN Os i (k::ks) o (v::vs')->nA h' fN Os (i+1) ks o' vs')->
    ∃n a' v',qe h S g a' v'/\((∃q t m m' R x,a'=.addr q []/\wH h (k::ks) (a::aJ) (v::vs') rt fk od n v' q t m m' R x)\/(∃q p R md t xd m m' mx x,wI h (k::ks) (a::aJ) (v::vs') rt fk od n a' v' q p R md t xd m m' mx x)):=by
   intro hk LD Vu hb' hls hout;have hn':(ks.filter PK.eE).length=1:=by rw[List.filter_cons_of_neg (by simp[hk])]at hn;exact hn
   obtain⟨n,a',v',ra,wS⟩:=S8 ks aJ vs' rt fk Vu hn' r2 hb' LD;refine⟨n+1,a',v',ra,?_⟩;rcases wS with⟨q,t,m,m',R,x,e,L⟩ | ⟨q,p,R,md,t,xd,m,m',mx,x,L⟩
   .refine .inl ⟨q,t,m,m',R,x,e,L.root,L.UK,L.mem,L.cast,L.fk,?_,?_,?_⟩
    .intro Pr Fs i hp;exact hls _ _ _ _ (L.ls Pr Fs (i+1) (by rw[show i+1+n=i+(n+1) by omega];exact hp))
    .intro o;obtain⟨o',Ap,n5⟩:=hout o;obtain⟨y,hy1,EF⟩:=L.out o';refine⟨y,fun tT site nX hh=>hy1 tT site nX (by rw[<-Ap];exact hh),fun h' fN Os i hh=>?_⟩;have:=EF h' fN Os (i+1) (n5 h' fN Os i hh)
     rwa [show i+1+n=i+(n+1) by omega]at this
    .intro hf;simp only[gW,bI]at hf;exact L.full hf.2
   .refine .inr ⟨q,p,R,md,t,xd,m,m',mx,x,L.place,L.root,L.D4,L.xE,L.paths,L.UK,L.fk,?_,?_,?_⟩
    .intro Pr Fs i hp;exact hls _ _ _ _ (L.ls Pr Fs (i+1) (by rw[show i+1+n=i+(n+1) by omega];exact hp))
    .intro o;obtain⟨o',Ap,n5⟩:=hout o;obtain⟨y,hy1,EF⟩:=L.out o';refine⟨y,fun tT site nX hh=>hy1 tT site nX (by rw[<-Ap];exact hh),fun h' fN Os i hh=>?_⟩;have:=EF h' fN Os (i+1) (n5 h' fN Os i hh)
     rwa [show i+1+n=i+(n+1) by omega]at this
    .intro hf;simp only[gW,bI]at hf;exact L.full hf.2
  cases k with
  | val t=>exact step rfl (by simpa only [wj] using hlo) od (by simpa only [gE] using hb) (fun h Pr Fs i k=>⟨v,vs',rfl,k⟩) (fun o=>⟨o,fun _ _=>by simp only[gb],fun h' fN Os i k=>by obtain⟨_,_,e,k⟩:=k;simp only[eZ]at e;obtain⟨-,rfl⟩:=e;exact k⟩)
  | own t m=>exact step rfl (by simpa only [wj] using hlo) od (by simpa only [gE] using hb) (fun h Pr Fs i k=>⟨v,vs',rfl,k⟩) (fun o=>⟨o,fun _ _=>by simp only[gb],fun h' fN Os i k=>by obtain⟨_,_,e,k⟩:=k;simp only[eZ]at e;obtain⟨-,rfl⟩:=e;exact k⟩)
  | cq t=>exact step rfl (by simpa only [wj] using hlo) od (by simpa only [gE] using hb) (fun h Pr Fs i k=>⟨v,vs',rfl,k⟩) (fun o=>⟨o,fun _ _=>by simp only[gb],fun h' fN Os i k=>by obtain⟨_,_,e,k⟩:=k;simp only[eZ]at e;obtain⟨-,rfl⟩:=e;exact k⟩)
  | fn=>exact step rfl (by simpa only [wj] using hlo) od (by simpa only [gE] using hb) (fun h Pr Fs i k=>⟨v,vs',rfl,k⟩) (fun o=>⟨o,fun _ _=>by simp only[gb],fun h' fN Os i k=>by obtain⟨_,_,e,k⟩:=k;simp only[eZ]at e;obtain⟨-,rfl⟩:=e;exact k⟩)
  | cD t m m'=>
   have hn':(ks.filter PK.eE).length=0:=by rw[N1 (by rfl)]at hn;simpa using hn
   cases a with
   | addr q p=>
    cases p with
    | nil=>
     simp only[gE]at hb;split at hb
     .rename_i R hR;split at hb
      .rename_i hc;simp only[cM,aK,aY]at hb;obtain⟨x,hx,⟨od2,zd⟩,hb,e1,e2⟩:=hb;subst e2;obtain⟨e3,_⟩:=WS (h:=h) (Pr:=Nil) (Fs:=fun _=>Nil) (i:=0) hn' r2 hb;refine⟨0,.addr q [],v,r1,.inl ⟨q,t,m,m',R,x,rfl,hR,hc.1,hc.2,hx,e3,?_,?_,?_⟩⟩
       .intro Pr Fs i hp;subst e1;exact⟨v,vs',rfl,hp,(WS hn' r2 hb).2⟩
       .intro o;refine⟨o.1,fun tT site nX hh=>?_,fun h' fN Os i hh=>?_⟩
        .simp only[gb]at hh;split at hh
         .rename_i ht;exact⟨ht,J1 ks aJ o.2 _ _ hn' hh⟩
         .simp at hh
        .obtain⟨_,_,e,k,_⟩:=hh;simp only[eZ]at e;obtain⟨rfl,-⟩:=e;exact k
       .intro hf;simp only[gW,bI]at hf;exact hf.1
      .simp at hb
     .simp at hb
    | cons _ _=>simp[gE]at hb
   | _=>simp[gE]at hb
  | cQ t m m'=>
   have hn':(ks.filter PK.eE).length=0:=by rw[N1 (by rfl)]at hn;simpa using hn
   simp only[gE]at hb;split at hb
   .rename_i q p uu;split at hb
    .rename_i R hR;simp only[cM]at hb;obtain⟨⟨td,md,xd⟩,hf,hb⟩:=hb;split at hb
     .rename_i htd;simp only at htd;subst htd;simp only[cM]at hb;obtain⟨⟨mx,x⟩,sn,hb⟩:=hb;split at hb
      .rename_i hs;simp only[cM,aK,aY]at hb;obtain⟨⟨od2,nX⟩,hb,e1,e2⟩:=hb;subst e2;obtain⟨e3,_⟩:=WS (h:=h) (Pr:=Nil) (Fs:=fun _=>Nil) (i:=0) hn' r2 hb;refine⟨0,a,v,r1,.inr ⟨q,p,R,md,_,xd,m,m',mx,x,uu,hR,hf,sn,(by simp only[wj,uu,bI]at hlo;exact hlo.1),hs,e3,?_,?_,?_⟩⟩
       .intro Pr Fs i hp;subst e1;exact⟨v,vs',rfl,hp,(WS hn' r2 hb).2⟩
       .intro o;refine⟨o.1,fun tT site nX hh=>?_,fun h' fN Os i hh=>?_⟩
        .simp only[gb,cM]at hh;obtain⟨rt5,h5,h6⟩:=hh;rw[J1 ks aJ o.2 _ _ hn' h6];exact h5
        .obtain⟨_,_,e,k,_⟩:=hh;simp only[eZ]at e;obtain⟨rfl,-⟩:=e;exact k
       .intro hf;simp only[gW,bI]at hf;exact hf.1
      .simp at hb
     .simp at hb
    .simp at hb
   .simp at hb
end Go.V

import Derived.Laws.StructEq
import Derived.Laws.BytesString
import Derived.Laws.Tables
import Derived.Great.BuildSlice
import Derived.Laws.Append
import Derived.Room.Entries
import Derived.Test.YtcaghlpjdpeelaaAV0
set_option linter.unusedVariables false
set_option linter.unusedSimpArgs false
set_option linter.unusedSectionVars false
namespace Go.V
noncomputable section
open Go
structure jk (A:aZ) (S:St) (d:Option Nat) (site:Nat):Prop where
 pq:A.pq=true->∀d',d=some d'->∀u,(S.get u).roots.contains d'=false
 pl:A.pl=true->∀d',d=some d'->∀u,(S.get u).eL d'=true
 fr:A.fr=true->site<1048576/\∀u,(S.get u).aH site (site+1)=true
theorem Mk.b6(s:Nat):∀{m:Mk},m.af=true->(m.stamp s).fresh s (s+1)
 | .no,_=>trivial
 | .gone,_=>trivial
 | .own s0 m,h=>by
  simp only[Mk.af,aO,jx]at h;simp only[Mk.stamp,aE h.1];exact⟨bN _,Nat.lt_succ_self _⟩
 | .pr a b,h=>by
  simp only[Mk.af,aO]at h;exact⟨Mk.b6 s h.1,Mk.b6 s h.2⟩
theorem AX(t:Ty)(m:Mk)(x:t.den):focus t m x []=some ⟨t,m,x⟩:=by cases t<;>rfl
theorem vS(h:Array Obj)(t:Ty)(c:List Value)(base:dc):a_ h t c base []=some (base,c):=by cases t<;>rfl
theorem pG(t:Ty)(x:t.den):bO t x []:=by cases t<;>trivial
theorem IQ{h:Array Obj}{S:St}{g:ai}{r:Nat}{R:aB}(hR:S.root r=some R){c:List Value}{F:BS}(hC:g.C r=c)
  (rep:ag h g.Pr R.ty R.ms R.x c F):qe h S g (bL r R.ty R.ms R.x []) (bK R.ty c):=by
 by_cases hu:R.ty=.unit
 .obtain⟨t,m,x,mem⟩:=R;simp only at hu rep⊢;subst hu;simp only[ag]at rep;subst rep;simp only[bL,qe,bK,Ty.agg];rfl
 .refine bR.rel rep (vT hR _ _ _ [] (g.base r) c F (AX _ _ _) (pG _ _) ?_ rep) hu;rw[hC];exact vS _ _ _ _
theorem tY{h:Array Obj}{S:St}{cm:aD}{g1:ai}{tmps:Array Value}{H:BS}(st:aj h ⟨S.sl,cm⟩ g1 tmps H){t:Ty}{m:Mk}{x:t.den}{c:List Value}{F:BS}
  (rep:ag h g1.Pr t m x c F) (tg:aA g1.hd t m c) (hF:Sub F H) {A:aZ} {d:Option Nat} {site:Nat} (ok:jk A S d site) {β:Bool} {v:AV} {rt':aD}
  (e:(b8 A cm d site t m x false).dec β=some (v,rt')) :
  ∃g',aj h ⟨S.sl,rt'⟩ g' tmps Nil/\qe h ⟨S.sl,rt'⟩ g' v (bK t c)/\g'.bG g1:=by
 cases d with
 | none=>simp only[b8,Tr.dec,ay,aJ]at e;obtain⟨rfl,rfl⟩:=e;exact⟨g1,st.aN (Sub.nil _),by simp only[qe],.refl _⟩
 | some d=>
  simp only[b8,cL,bY]at e;split at e
  .simp[Tr.dec]at e
  .rename_i hn;simp only[fX,gw,jw,xW,jx]at hn;split at e
   .rename_i hs;simp only[Tr.dec,ay,aJ]at e;obtain⟨rfl,rfl⟩:=e;exact⟨g1,st.aN (Sub.nil _),by simp only[qe];exact⟨c,ag.cH t hs rep,rfl⟩,.refl _⟩
   .split at e
    .rename_i hc;simp only[Tr.dec,ay,aJ]at e;obtain⟨rfl,rfl⟩:=e;have jA:=(ag.stamp (h:=h) (Pr:=g1.Pr) site t).1 rep;have key:∀u,((⟨S.sl,cm⟩:St).get u).roots.contains d=false\/(∃lo hi,((⟨S.sl,cm⟩:St).get u).aH lo hi=true/\((⟨S.sl,cm⟩:St).get u).eL d=true/\(m.stamp site).fresh lo hi/\(none:Option Nat)=none):=by
      intro u;simp only[fX,aO]at hc;rcases hc with hc | ⟨⟨lS,fD⟩,lU⟩
      .exact .inl (ok.pq hc d rfl u)
      .exact .inr ⟨site,site+1,(ok.fr lS).2 u,ok.pl lU d rfl u,Mk.b6 site fD,rfl⟩
     obtain⟨g',s1,s2,s3,s4,s5,s6⟩:=st.gJ hn.1 jA (aA.stamp hn.2 t tg) hF none (fun b hb=>by simp at hb) key;refine⟨g',s1.aN (Sub.nil _),?_,s3⟩;have hR:(⟨S.sl,cm.ak d (some ⟨t,m.stamp site,x,false⟩)⟩:St).root d=some ⟨t,m.stamp site,x,false⟩:=by have:=St.bg (⟨S.sl,cm⟩:St) d (some ⟨t,m.stamp site,x,false⟩) d;rw[aE ⟨rfl,hn.1⟩]at this;exact this
     exact IQ (R:=⟨t,m.stamp site,x,false⟩) hR s4 (by rw[s2];exact jA)
    .simp[Tr.dec]at e
theorem EG{h:Array Obj}{S:St}{cm:aD}{g1:ai}{tmps:Array Value}{H:BS}(st:aj h ⟨S.sl,cm⟩ g1 tmps H){t:Ty}{m:Mk}{x:t.den}{c:List Value}{F:BS}
  (rep:ag h g1.Pr t m x c F) (tg:aA g1.hd t m c) (hF:Sub F H) {b:Nat} (hb:H b) (lR:¬ F b) (ho:fI h b c.toArray)
  {A:aZ} {d:Option Nat} {site:Nat} (ok:jk A S d site) {β:Bool} {v:AV} {rt':aD}
  (e:(b8 A cm d site t m x true).dec β=some (v,rt')) :
  ∃g',aj h ⟨S.sl,rt'⟩ g' tmps Nil/\qe h ⟨S.sl,rt'⟩ g' v (.pointer (some ⟨b,0,none⟩))/\g'.bG g1:=by
 cases d with
 | none=>simp only[b8,Tr.dec,ay,aJ]at e;obtain⟨rfl,rfl⟩:=e;exact⟨g1,st.aN (Sub.nil _),by simp only[qe],.refl _⟩
 | some d=>
  simp only[b8,aK]at e;split at e
  .simp[Tr.dec]at e
  .rename_i hn;simp only[fX,gw,jw,xW,jx]at hn;split at e
   .rename_i hc;simp only[Tr.dec,ay,aJ]at e;obtain⟨rfl,rfl⟩:=e;have jA:=(ag.stamp (h:=h) (Pr:=g1.Pr) site t).1 rep;obtain⟨g',s1,s2,s3,s4,s5,s6⟩:=st.gJ hn.1 jA (aA.stamp hn.2 t tg) hF (some b)
     (fun b' hb'=>by simp only[ay]at hb';subst hb';exact⟨hb,lR,ho⟩) (fun u=>.inl (ok.pq hc d rfl u))
    refine⟨g',s1.aN (Sub.nil _),?_,s3⟩;simp only[qe];intro R hR d' hf';have bt:(⟨S.sl,cm.ak d (some ⟨t,m.stamp site,x,true⟩)⟩:St).root d=some ⟨t,m.stamp site,x,true⟩:=by have:=St.bg (⟨S.sl,cm⟩:St) d (some ⟨t,m.stamp site,x,true⟩) d;rw[aE ⟨rfl,hn.1⟩]at this;exact this
    rw[bt]at hR;simp only[ay]at hR;subst hR;refine⟨pG _ _,b,0,c,?_,rfl⟩;rw[vS];simp only[ai.base,s5,s4,cr]
   .simp[Tr.dec]at e
def Post(S:St)(g:ai)(w:World)(tmps:Array Value)(v:AV)(rt':aD)(val:Value)(w':World):Prop:=
 ∃g',aj w'.heap ⟨S.sl,rt'⟩ g' tmps Nil/\qe w'.heap ⟨S.sl,rt'⟩ g' v val/\g'.bG g/\gB g.L w w'
theorem Post.same{S:St}{g:ai}{w:World}{tmps:Array Value}{v:AV}{val:Value}(st:aj w.heap S g tmps Nil)(x:qe w.heap S g v val):Post S g w tmps v S.rt val w:=
 ⟨g,st,x,.refl g,.refl _ _⟩
end
end Go.V
namespace Go.V
noncomputable section
open Go
def kI(S:St)(g:ai)(w:World)(tmps:Array Value)(T:Tr (AV×aD))(val:Value)(w':World):Prop:=
 ∃β v rt',T.dec β=some (v,rt')/\Post S g w tmps v rt' val w'
def cV(P:Program)(S:St)(g:ai)(w:World)(tmps:Array Value)(T:Tr (AV×aD)):Result Next->Prop
 | .ok (.value val) w'=>kI S g w tmps T val w'
 | .ok .skip w'=>kI S g w tmps T undef w'
 | .ok (.enter f args) w'=>Calls P f args w' fun
   | .returned val,w''=>kI S g w tmps T val w''
   | _,_=>False
 | _=>False
def aX(T:Tr (AV×aD)):Prop:=∀β,∃x,T.dec β=some x
theorem aX.fail:¬ aX .fail:=fun h=>by obtain⟨x,hx⟩:=h true;simp[Tr.dec]at hx
abbrev Goal(P:Program)(C:Ctx)(D:Den C)(S:St)(g:ai)(w:World)(tmps:Array Value)(a:Act)(ρ:Operand->AV)(A:aZ)(site:Nat)(hint:Bool)(o:Oper):Prop:=
 aX (aS C D A ρ S.rt site hint o)->cV P S g w tmps (aS C D A ρ S.rt site hint o) ((execOp a.eval o).run P w)
section
variable {P:Program} {C:Ctx} {D:Den C} {S:St} {g:ai} {w:World} {tmps:Array Value} {a:Act} {ρ:Operand->AV}
theorem cV.value{T:Tr (AV×aD)}{r:Result Next}{val:Value}{w':World}(hr:r=.ok (.value val) w')(h:kI S g w tmps T val w'):cV P S g w tmps T r:=by subst hr;exact h
theorem cV.ret{r:Result Next}{val:Value}{v:AV}(hr:r=.ok (.value val) w)(st:aj w.heap S g tmps Nil)(x:qe w.heap S g v val) :
  cV P S g w tmps (.ret (v,S.rt)) r:=
 cV.value hr ⟨true,v,S.rt,rfl,Post.same st x⟩
theorem CI{v:AV}{b:Bool}{val:Value}(h:asBool v=some b)(x:qe w.heap S g v val):val=.bool b:=by
 cases v with
 | val t y=>cases t<;>simp[asBool]at h;subst h;simp only[qe,ag]at x;obtain⟨c,rfl,rfl⟩:=x;rfl
 | bA y=>simp[asBool]at h;subst h;simpa only [qe] using x
 | _=>simp[asBool]at h
theorem tZ{k:IntKind}{n:Int}{val:Value}(x:qe w.heap S g (.val (.int k) n) val):val=.int k n:=by simp only[qe,ag]at x;obtain⟨c,rfl,rfl⟩:=x;rfl
theorem sD{b:Bool}{val:Value}(x:qe w.heap S g (.val .bool b) val):val=.bool b:=by simp only[qe,ag]at x;obtain⟨c,rfl,rfl⟩:=x;rfl
theorem zd{s:ByteArray}{val:Value}(x:qe w.heap S g (.val .str s) val):val=.string s:=by simp only[qe,ag]at x;obtain⟨c,rfl,rfl⟩:=x;rfl
theorem nU(k:IntKind)(n:Int):qe w.heap S g (.val (.int k) n) (.int k n):=by simp only[qe,ag];exact⟨_,rfl,rfl⟩
theorem uT(b:Bool):qe w.heap S g (.val .bool b) (.bool b):=by simp only[qe,ag];exact⟨_,rfl,rfl⟩
theorem sZ(s:ByteArray):qe w.heap S g (.val .str s) (.string s):=by simp only[qe,ag];exact⟨_,rfl,rfl⟩
theorem y4{v:AV}{k:IntKind}{n:Int}{val:Value}(h:oy v=some (k,n))(x:qe w.heap S g v val):val=.int k n:=by
 cases v with
 | val t y=>cases t<;>simp[oy]at h;obtain⟨rfl,rfl⟩:=h;exact tZ x
 | _=>simp[oy]at h
variable {A:aZ} {site:Nat} {hint:Bool} (aM:e_ P C) (st:aj w.heap S g tmps Nil) (hρ:∀x,qe w.heap S g (ρ x) (a.eval x))
include st hρ
theorem Kl{o:Oper}{x:Operand}(ho:o.op=.move x):Goal P C D S g w tmps a ρ A site hint o:=by intro _;simp only[aS,ho];exact cV.ret (by simp[execOp,ho]) st (hρ x)
theorem Kq{o:Oper}{c x y:Operand}(ho:o.op=.pick c x y):Goal P C D S g w tmps a ρ A site hint o:=by
 intro ht;simp only[aS,ho]at ht⊢;cases hb:V.asBool (ρ c) with
 | none=>rw[hb]at ht;exact absurd ht aX.fail
 | some b=>
  have hv:=CI hb (hρ c);cases b with
  | true=>exact cV.value (val:=a.eval x) (w':=w) (by simp[execOp,ho,hv,Go.asBool]) ⟨true,_,_,rfl,Post.same st (hρ x)⟩
  | false=>exact cV.value (val:=a.eval y) (w':=w) (by simp[execOp,ho,hv,Go.asBool]) ⟨true,_,_,rfl,Post.same st (hρ y)⟩
omit hρ in
theorem xL{r:Nat}{p:Path}{d:Dy}{v:Value}(hf:S.rt.focus r p=some d)(x:qe w.heap S g (.addr r p) v) :
  ∃R b off c F,S.root r=some R/\focus R.ty R.ms R.x p=some d/\bO R.ty R.x p/\a_ w.heap R.ty (g.C r) (g.base r) p=some (some (b,off),c)/\v=.pointer (some ⟨b,off,none⟩)/\
   ag w.heap g.Pr d.ty d.ms d.x c F/\qD w.heap (some (b,off)) c F/\g.G r b:=by
 simp only[aD.focus]at hf;split at hf
 .rename_i R hR;simp only[qe]at x;obtain⟨h1,b,off,c,h2,h3⟩:=x R hR d hf;obtain⟨base,c',F,q1,q2,q3,q4,q5,_⟩:=st.update hR hf h1;rw[h2]at q1;simp only[ay,aJ]at q1;obtain⟨rfl,rfl⟩:=q1;exact⟨R,b,off,c,F,hR,hf,h1,h2,h3,q2,q4,q5 b off rfl⟩
 .simp at hf
theorem KE{o:Oper}{x:Operand}(ho:o.op=.nilCheck x):Goal P C D S g w tmps a ρ A site hint o:=by
 intro ht;simp only[aS,ho]at ht⊢;have hx:=hρ x;cases hv:ρ x with
 | addr r p=>
  rw[hv]at hx ht;simp only at ht⊢;cases hf:S.rt.focus r p with
  | none=>rw[hf]at ht;exact absurd ht aX.fail
  | some d=>obtain⟨R,b,off,c,F,_,_,_,_,e,_⟩:=xL st hf hx;exact cV.ret (val:=a.eval x) (by simp[execOp,ho,e]) st hx
 | bq t y=>rw[hv]at hx;have hx':=hx;simp only[qe]at hx';obtain⟨b,off,cs,e,_⟩:=hx';exact cV.ret (val:=a.eval x) (by simp[execOp,ho,e]) st hx
 | eV f c=>rw[hv]at hx;have hx':=hx;simp only[qe]at hx';obtain⟨vs,e,_⟩:=hx';exact cV.ret (val:=a.eval x) (by simp[execOp,ho,e]) st hx
 | _=>rw[hv]at ht;exact absurd ht aX.fail
theorem Kf{o:Oper}{op:UnOp}{t:TypeId}{x:Operand}(ho:o.op=.unOp op t x):Goal P C D S g w tmps a ρ A site hint o:=by
 intro ht;simp only[aS,ho]at ht⊢;have hx:=hρ x;cases op with
 | not=>
  split at ht
  .rename_i b _ hv;rw[hv]at hx;exact cV.ret (val:=.bool (!b)) (by simp[execOp,ho,sD hx,Op.unary]) st (uT _)
  .rename_i _ _ hc _;simp at hc
  .exact absurd ht aX.fail
 | neg=>
  split at ht
  .rename_i _ _ hc _;simp at hc
  .rename_i kd n _ hv;rw[hv]at hx;exact cV.ret (val:=.int kd (kd.wrap (0-n))) (by simp[execOp,ho,tZ hx,Op.unary,Op.intArith]) st (nU _ _)
  .exact absurd ht aX.fail
 | _=>exact absurd ht aX.fail
omit st hρ in
theorem FJ:∀(p:Path){t:Ty}{x:t.den}{d:Dy},focus t .no x p=some d->d.ms=.no/\qx p=false
 | [],t,x,d,h=>by rw[AX]at h;simp only[ay]at h;subst h;exact⟨rfl,rfl⟩
 | .fst::p,t,x,d,h=>by
  cases t with
  | pair a b=>simp only[focus,Mk.fst]at h;exact FJ p h
  | _=>simp[focus]at h
 | .snd::p,t,x,d,h=>by
  cases t with
  | pair a b=>simp only[focus,Mk.snd]at h;exact FJ p h
  | _=>simp[focus]at h
 | .idx i s::p,t,x,d,h=>by cases t<;>simp[focus]at h
end
end
theorem FK{C:Ctx}:∀(f:Nat){fs:List Field}{off:Nat}{T:Ty}{m:Mk}{x:T.den}{d:Dy},iM C fs off T->focus T m x (e6 f)=some d->
  ∃fd,fs[f]? = some fd/\d.ty=C.ty fd.type/\fd.offset=off+cB T (e6 f)/\(C.ty fd.type).nz=true/\qx (e6 f)=false
 | 0,fs,off,T,m,x,d,hs,hf=>by
  cases fs with
  | nil=>simp only[iM]at hs;subst hs;simp[e6,focus]at hf
  | cons fd fs=>
   simp only[iM]at hs;obtain⟨b,rfl,h1,_,h2,h3⟩:=hs;simp only[e6,focus,ay]at hf;subst hf;refine⟨fd,rfl,rfl,?_,h2,rfl⟩;have:cB (Ty.pair (C.ty fd.type) b) (e6 0)=cB (C.ty fd.type) []:=rfl;rw[this];have:cB (C.ty fd.type) []=0:=by cases C.ty fd.type<;>rfl
   omega
 | f+1,fs,off,T,m,x,d,hs,hf=>by
  cases fs with
  | nil=>simp only[iM]at hs;subst hs;simp[e6,focus]at hf
  | cons fd fs=>simp only[iM]at hs;obtain⟨b,rfl,h1,_,h2,h3⟩:=hs;simp only[e6,focus]at hf;obtain⟨fd',q1,q2,q3,q4,q5⟩:=FK f h3 hf;refine⟨fd',by simpa using q1,q2,?_,q4,by simpa [e6,qx] using q5⟩;have:cB (Ty.pair (C.ty fd.type) b) (e6 (f+1))=(C.ty fd.type).width+cB b (e6 f):=rfl;omega
theorem Ty.gK{t:Ty}(h:t.nz=true):t≠.unit:=by rintro rfl;simp[Ty.nz]at h
theorem wY{t:Ty}(h:t.nz=true)(ha:t.agg=false):t.width=1:=by cases t<;>simp_all [Ty.nz,Ty.agg,Ty.width]
section
variable {P:Program} {C:Ctx} {D:Den C} {S:St} {g:ai} {w:World} {tmps:Array Value} {a:Act} {ρ:Operand->AV}
variable {A:aZ} {site:Nat} {hint:Bool} (aM:e_ P C) (st:aj w.heap S g tmps Nil) (hρ:∀x,qe w.heap S g (ρ x) (a.eval x))
theorem xe{t:TypeId}(k:iu P C t)(hz:(C.ty t).nz=true){b o:Nat}{c:List Value}(hr:w.rangeAt b o c)(hl:c.length=(C.ty t).width) :
  (Instr.loadAt t (.pointer (some ⟨b,o,none⟩))).run P w=.ok (bK (C.ty t) c) w:=by
 simp only[Instr.loadAt,Instr.sureAddr,loadVar,Sem.run_bind,Sem.run_pure,Result.andThen_ok,k.j_];by_cases ha:(C.ty t).agg=true
 .have h1:(loadCells ⟨b,o,none⟩ c.length).run P w=.ok c.toArray w:=run_loadCells_list (P:=P) w ⟨b,o,none⟩ c (fun j v hv=>by rw[Addr.add_mid];exact hr j v hv);rw[hl]at h1;simp only[ha,aK,Sem.run_bind,k.dz,Result.andThen_ok,h1,Sem.run_pure,bK]
 .have uq:(C.ty t).agg=false:=by simpa using ha
  have hw:=wY hz uq;have:∃v,c=[v]:=by
   rw[hw]at hl
   match c,hl with
   | [v],_=>exact⟨v,rfl⟩
  obtain⟨v,rfl⟩:=this;have:=hr 0 v rfl;simp only[iG]at this;simp[uq,Go.load,Go.run_load,this,bK,Sem.run]
include aM st hρ
theorem Ki{o:Oper}{t:TypeId}{x:Operand}(ho:o.op=.load t x):Goal P C D S g w tmps a ρ A site hint o:=by
 intro ht;simp only[aS,ho]at ht⊢;have hx:=hρ x;by_cases hz:(C.ty t).nz=true
 .have k:=aM t hz;simp only[hz,aK]at ht⊢;cases hv:ρ x with
  | bq t' y=>
   rw[hv]at hx ht;simp only[nW]at ht⊢;cases hc:qbv t' (C.ty t) y with
   | none=>rw[hc]at ht;exact absurd ht aX.fail
   | some z=>simp only[qe]at hx;obtain⟨b,off,cs,e,hp,hb,hs,rep⟩:=hx;have hw:=ag.width t' rep;obtain⟨e1,fJ⟩:=ag.cast hc rep;subst e1;have hrun:=xe (w:=w) k hz (tO hb hs) hw;refine cV.ret (v:=.val (C.ty t) z) (val:=bK (C.ty t) (sub cs off (C.ty t).width)) ?_ st (by simp only[qe];exact⟨_,fJ,rfl⟩);simp[execOp,ho,e,hrun]
  | addr r p=>
   rw[hv]at hx ht;simp only[nW]at ht⊢;cases hf:S.rt.focus r p with
   | none=>rw[hf]at ht;exact absurd ht aX.fail
   | some d=>
    rw[hf]at ht;simp only at ht⊢;by_cases hd:d.ty=C.ty t
    .simp only[hd,aK]at ht⊢;obtain⟨R,b,off,c,F,hR,qX,hin,cz,e,rep,qW,_⟩:=xL st hf hx;obtain⟨_,cs,vE,hs,hsub⟩:=qW b off rfl;have hw:=ag.width d.ty rep;have iT:w.rangeAt b off c:=by have:=tO (w:=w) vE.rS hs;rw[hsub]at this;exact this
     have hrun:=xe (w:=w) k hz iT (by rw[hw,hd]);obtain⟨dt,dm,dx⟩:=d;simp only at hd;subst hd;refine cV.ret (val:=bK (C.ty t) c) ?_ st ?_
     .simp[execOp,ho,e,hrun]
     .exact bR.rel rep (vT hR _ _ _ p (some (b,off)) c F qX hin cz rep) (Ty.gK hz)
    .rw[ax hd]at ht;exact absurd ht aX.fail
  | _=>rw[hv]at ht;exact absurd ht aX.fail
 .rw[ax hz]at ht;exact absurd ht aX.fail
end
theorem aX.of{x:Option (AV×aD)}(h:aX (.of x)):∃y,x=some y:=by
 cases x with
 | none=>exact absurd h aX.fail
 | some y=>exact⟨y,rfl⟩
theorem e_.desc{P:Program}{C:Ctx}(h:e_ P C){t:TypeId}{e:Ty}(ht:C.ty t=.sl e):∃u,P.underlying t=some (.slice u)/\C.ty u=e/\(C.ty u).nz=true:=by
 have k:=h t (by rw[ht];rfl);obtain⟨d,h1,h2⟩:=k.desc;rw[ht]at h2;cases d<;>simp only[jV]at h2<;>try (simp at h2)
 case slice u=>exact⟨u,h1,h2.1.symm,h2.2⟩
 case struct fs=>cases hl:fs.toList<;>rw[hl]at h2<;>simp[iM]at h2
theorem e_.str{P:Program}{C:Ctx}(h:e_ P C){t:TypeId}(ht:C.ty t=.str):P.underlying t=some .string:=by
 have k:=h t (by rw[ht];rfl);obtain⟨d,h1,h2⟩:=k.desc;rw[ht]at h2;cases d<;>simp only[jV]at h2<;>try (simp at h2)
 case string=>exact h1
 case struct fs=>cases hl:fs.toList<;>rw[hl]at h2<;>simp[iM]at h2
theorem e_.bool{P:Program}{C:Ctx}(h:e_ P C){t:TypeId}(ht:C.ty t=.bool):P.underlying t=some .bool:=by
 have k:=h t (by rw[ht];rfl);obtain⟨d,h1,h2⟩:=k.desc;rw[ht]at h2;cases d<;>simp only[jV]at h2<;>try (simp at h2)
 case bool=>exact h1
 case struct fs=>cases hl:fs.toList<;>rw[hl]at h2<;>simp[iM]at h2
theorem e_.int{P:Program}{C:Ctx}(h:e_ P C){t:TypeId}{k:IntKind}(ht:C.ty t=.int k):P.underlying t=some (.int k):=by
 have kk:=h t (by rw[ht];rfl);obtain⟨d,h1,h2⟩:=kk.desc;rw[ht]at h2;cases d<;>simp only[jV]at h2<;>try (simp at h2)
 case int=>subst h2;exact h1
 case struct fs=>cases hl:fs.toList<;>rw[hl]at h2<;>simp[iM]at h2
theorem e_.pair{P:Program}{C:Ctx}(h:e_ P C){t:TypeId}{a b:Ty}(ht:C.ty t=.pair a b):∃fs,P.underlying t=some (.struct fs)/\iM C fs.toList 0 (.pair a b):=by
 have kk:=h t (by rw[ht];rfl);obtain⟨d,h1,h2⟩:=kk.desc;rw[ht]at h2;cases d<;>simp only[jV]at h2<;>try (simp at h2)
 case struct fs=>exact⟨fs,h1,h2⟩
section
variable {P:Program} {C:Ctx} {D:Den C} {S:St} {g:ai} {w:World} {tmps:Array Value} {a:Act} {ρ:Operand->AV}
variable {A:aZ} {site:Nat} {hint:Bool} (aM:e_ P C) (st:aj w.heap S g tmps Nil) (hρ:∀x,qe w.heap S g (ρ x) (a.eval x))
include aM st hρ
theorem JP{o:Oper}{s:TypeId}{x:Operand}{f:Nat}(ho:o.op=.fieldAddr s x f):Goal P C D S g w tmps a ρ A site hint o:=by
 intro ht;simp only[aS,ho]at ht⊢;have hx:=hρ x;obtain⟨y,hy⟩:=aX.of ht;rw[hy];simp only[c5]at hy;obtain⟨v,hv,rfl⟩:=hy;have hsome:∀(T:Ty),C.ty s=T->∀(m:Mk)(z:T.den)(d:Dy),focus T m z (e6 f)=some d->∃fs fd,P.underlying s=some (.struct fs)/\fs[f]? = some fd/\d.ty=C.ty fd.type/\
   fd.offset=cB T (e6 f)/\(C.ty fd.type).nz=true/\qx (e6 f)=false:=by
  intro T hT m z d hf;cases T with
  | pair a b=>obtain⟨fs,h1,h2⟩:=aM.pair hT;obtain⟨fd,q1,q2,q3,q4,q5⟩:=FK f h2 hf;exact⟨fs,fd,h1,by simpa using q1,q2,by omega,q4,q5⟩
  | _=>cases f<;>simp[e6,focus]at hf
 have hrun:∀(fs:Array Field)(fd:Field)(b off:Nat),P.underlying s=some (.struct fs)->fs[f]? = some fd->(C.ty fd.type).nz=true->
   (Instr.fieldAt s (.pointer (some ⟨b,off,none⟩)) f).run P w=.ok (.pointer (some ⟨b,off+fd.offset,none⟩)) w:=by
  intro fs fd b off h1 h2 h3;have k:=aM fd.type h3;have hp:=k.pos;have hne:(C.ty fd.type).width≠0:=by omega
  simp only[Instr.fieldAt,Instr.sureAddr,fieldPlace,Sem.run_bind,run_underlying h1,Result.andThen_ok,h2,Sem.run_pure,k.dz,ax hne,Addr.add_mid]
 cases hρx:ρ x with
 | addr r p=>
  rw[hρx]at hx hv;simp only[tJ]at hv;split at hv
  .rename_i d hf;split at hv
   .rename_i hc;simp only[ay]at hv;subst hv;obtain⟨d',hf'⟩:=lG.1 hc.2;obtain⟨R,b,off,c,F,hR,qX,hin,cz,e,rep,qW,_⟩:=xL st hf hx;obtain⟨fs,fd,h1,h2,h3,h4,h5,h6⟩:=hsome d.ty hc.1.symm _ _ _ hf';refine cV.ret (val:=.pointer (some ⟨b,off+fd.offset,none⟩)) (by simp[execOp,ho,e,hrun fs fd b off h1 h2 h5]) st ?_;simp only[qe];intro R' bt d2 mg;rw[hR]at bt;simp only[ay]at bt;subst bt;have Ab:bO d.ty d.x (e6 f):=pZ _ _ h6 (nT _ hf');obtain⟨base',c',F2,Fr,z⟩:=zip (e6 f) _ _ _ c F (some (b,off)) d' rep hf' Ab qW;refine⟨(qA p _ qX).2 ⟨hin,Ab⟩,b,off+fd.offset,c',?_,rfl⟩;rw[nS p _ qX cz,z.at_];obtain⟨q1,_,_⟩:=z.plain h6;rw[q1,h4];rfl
   .simp at hv
  .simp at hv
 | bq t y=>
  rw[hρx]at hx hv;simp only[tJ]at hv;split at hv
  .rename_i hT;cases hf:focus t .no y (e6 f) with
   | none=>rw[hf]at hv;simp at hv
   | some d=>
    rw[hf]at hv;simp only[bX,ay]at hv;subst hv;simp only[qe]at hx;obtain⟨b,off,cs,e,hp,hb,hs,rep⟩:=hx;obtain⟨fs,fd,h1,h2,h3,h4,h5,h6⟩:=hsome t hT.symm _ _ _ hf;obtain⟨hm,_⟩:=FJ _ hf;obtain⟨base',c',F2,Fr,z⟩:=zip (e6 f) _ _ _ _ Nil none d rep hf (pZ _ _ h6 (nT _ hf)) (fun b o e=>by simp at e);obtain⟨q1,q2,q3⟩:=z.plain h6;have hl:=ag.width t rep;refine cV.ret (val:=.pointer (some ⟨b,off+fd.offset,none⟩)) (by simp[execOp,ho,e,hrun fs fd b off h1 h2 h5]) st ?_;simp only[qe];refine⟨b,off+fd.offset,cs,rfl,hp,hb,by rw[h4];omega,?_⟩;have r2:=z.rep;rw[hm]at r2;have r3:=ag.cH (F':=Nil) d.ty rfl r2;have e3:c'=sub cs (off+fd.offset) d.ty.width:=by rw[q2,h4];simp only[sub,AZ,lP,nF];congr 1;omega
    rw[<-e3];exact r3
  .simp at hv
 | _=>rw[hρx]at hv;simp[tJ]at hv
theorem JS{o:Oper}{t:TypeId}{x i:Operand}(ho:o.op=.indexAddr t x i):Goal P C D S g w tmps a ρ A site hint o:=by
 intro ht;simp only[aS,ho]at ht⊢;have hx:=hρ x;have hi:=hρ i;simp only[pL]at ht⊢;cases hn:oy (ρ i) with
 | none=>rw[hn]at ht;exact absurd ht aX.fail
 | some kn=>
  obtain⟨k,n⟩:=kn;rw[hn]at ht;have ei:=y4 hn hi;simp only at ht⊢;have hrun:∀(u:TypeId)(b off len cap:Nat),P.underlying t=some (.slice u)->(C.ty u).nz=true->0<=n->n<(len:Int)->a.eval x=.slice (some ⟨b,off,none⟩) len cap->
    (execOp a.eval o).run P w=.ok (.value (.pointer (some ⟨b,off+n.toNat * (C.ty u).width,none⟩))) w:=by
   intro u b off len cap h1 h2 h3 h4 h5;simp[execOp,ho,ei,h5,Instr.indexAt,asIntOf,run_underlying h1,(aM u h2).dz,h3,h4,Addr.add_mid,Sem.run_bind]
  cases hv:ρ x with
  | val t' xs=>
   cases t' with
   | sl e=>
    rw[hv]at hx ht;simp only at ht⊢;by_cases hT:C.ty t=.sl e
    .simp only[hT,aK]at ht⊢;obtain⟨u,h1,h2,h3⟩:=aM.desc hT;obtain⟨⟨v,rt'⟩,hd⟩:=ht true;simp only[Tr.dec]at hd;by_cases hc:0<=n/\n<(xs.length:Int)
     .simp only[qe,ag]at hx;obtain⟨c,⟨ad,cap,rfl,hl,hr⟩,e0⟩:=hx;have hne:xs≠[]:=by rintro rfl;simp at hc;omega
      obtain⟨b,off,cs,rfl,hp,hb,hs,re⟩:=hr hne;refine cV.value (hrun u b off _ cap h1 h3 hc.1 hc.2 (by rw[e0];rfl)) ⟨true,.bq e (xs.getD n.toNat e.zero),S.rt,by simp[Tr.dec,hc.1,hc.2],Post.same st ?_⟩;simp only[qe];have hlt:n.toNat<xs.length:=by omega
      refine⟨b,off+n.toNat * (C.ty u).width,cs,rfl,hp,hb,?_,?_⟩
      .rw[h2];have:n.toNat * e.width+e.width<=xs.length * e.width:=by have:=cq e.width (show n.toNat+1<=xs.length by omega);rw[gl]at this;exact this
       omega
      .rw[h2];exact re n.toNat hlt
     .have:(decide (0<=n)&&decide (n<(xs.length:Int)))=false:=by simp only[jC,iB];omega
      rw[this]at hd;simp[Tr.dec]at hd
    .rw[ax hT]at ht;exact absurd ht aX.fail
   | _=>rw[hv]at ht;exact absurd ht aX.fail
  | bu r p s=>
   rw[hv]at hx ht;simp only at ht⊢;cases hf:S.rt.focus r p with
   | none=>rw[hf]at ht;exact absurd ht aX.fail
   | some d=>
    obtain⟨dt,dm,dx⟩:=d;cases dt with
    | sl e=>
     cases dm with
     | own s' m=>
      rw[hf]at ht;simp only at ht⊢;by_cases hT:s=s'/\C.ty t=.sl e
      .simp only[aE hT]at ht⊢;obtain⟨rfl,hT⟩:=hT;obtain⟨u,h1,h2,h3⟩:=aM.desc hT;obtain⟨⟨v,rt'⟩,hd⟩:=ht true;simp only[Tr.dec]at hd;by_cases hc:0<=n/\n<((dx:List e.den).length:Int)
       .simp only[qe]at hx;obtain⟨R,base,F,hR,qX,hin,cz,rep,hF⟩:=A4 st hf rfl hx;simp only[ag]at rep;obtain⟨ad,cap,e0,hl,hr⟩:=rep;simp only[dj,f_]at e0;rcases hr with hr | ⟨b,cs,rfl,fb,hb,hs,Fs,jN,yO,re⟩
        .omega
        .refine cV.value (hrun u b 0 _ cap h1 h3 hc.1 hc.2 e0) ⟨true,.addr r (p++[.idx n.toNat s]),S.rt,by simp[Tr.dec,hc.1,hc.2],Post.same st ?_⟩;have hlt:n.toNat<(dx:List e.den).length:=by omega
         simp only[qe];intro R' bt d2 mg;rw[hR]at bt;simp only[ay]at bt;subst bt;refine⟨(qA p _ qX).2 ⟨hin,?_⟩,b,0+n.toNat * (C.ty u).width,?_⟩
         .simp only[bO];exact⟨hlt,trivial⟩
         .refine⟨sub cs (n.toNat * e.width) e.width,?_,rfl⟩;rw[nS p _ qX cz];obtain⟨ty,lo,hi',he,_⟩:=hb;simp only[e0,a_,he,vS,h2,g_]
       .have:(decide (0<=n)&&decide (n<((dx:List e.den).length:Int)))=false:=by simp only[jC,iB];omega
        rw[this]at hd;simp[Tr.dec]at hd
      .rw[ax hT]at ht;exact absurd ht aX.fail
     | _=>rw[hf]at ht;exact absurd ht aX.fail
    | _=>rw[hf]at ht;exact absurd ht aX.fail
  | _=>rw[hv]at ht;exact absurd ht aX.fail
end
theorem ag.len{h:Array Obj}{Pr:BS}{t:Ty}{m:Mk}{xs:(Ty.sl t).den}{c:List Value}{F:BS}(hm:m≠.gone)(r:ag h Pr (.sl t) m xs c F):∃a cap,c=[.slice a xs.length cap]/\(xs.length≠0->a.isSome):=by
 cases m with
 | gone=>exact absurd rfl hm
 | no=>simp only[ag]at r;obtain⟨a,cap,rfl,_,h2⟩:=r;refine⟨a,cap,rfl,fun hl=>?_⟩;obtain⟨b,o,cs,e,_⟩:=h2 (by rintro rfl;simp at hl);rw[e];rfl
 | pr _ _=>simp only[ag]at r;obtain⟨a,cap,rfl,_,h2⟩:=r;refine⟨a,cap,rfl,fun hl=>?_⟩;obtain⟨b,o,cs,e,_⟩:=h2 (by rintro rfl;simp at hl);rw[e];rfl
 | own s mi=>
  simp only[ag]at r;obtain⟨a,cap,rfl,h1,h2⟩:=r;refine⟨a,cap,rfl,fun hl=>?_⟩;rcases h2 with h2 | ⟨b,cs,e,_⟩
  .omega
  .rw[e];rfl
section
variable {P:Program} {C:Ctx} {D:Den C} {S:St} {g:ai} {w:World} {tmps:Array Value} {a:Act} {ρ:Operand->AV}
variable {A:aZ} {site:Nat} {hint:Bool} (aM:e_ P C) (st:aj w.heap S g tmps Nil) (hρ:∀x,qe w.heap S g (ρ x) (a.eval x))
include st in
theorem xz{v:AV}{n:Int}{val:Value}(h:qG S.rt v=some n)(x:qe w.heap S g v val):∃ad len cap,val=.slice ad len cap/\n=(len:Int)/\(len≠0->ad.isSome):=by
 cases v with
 | val t xs=>
  cases t with
  | sl e=>simp only[qG,ay]at h;simp only[qe]at x;obtain⟨c,r,rfl⟩:=x;obtain⟨ad,cap,rfl,hs⟩:=ag.len (by simp) r;exact⟨ad,_,cap,rfl,h.symm,hs⟩
  | _=>simp[qG]at h
 | cP=>simp only[qG,ay]at h;simp only[qe]at x;exact⟨none,0,0,x,by rw[<-h];rfl,by simp⟩
 | bu r p s=>
  simp only[qG]at h;split at h
  .rename_i e s' m xs hf;split at h
   .rename_i hs;simp only[ay]at h;simp only[qe]at x;obtain⟨R,base,F,_,_,_,_,rep,_⟩:=A4 st hf hs x;obtain⟨ad,cap,e0,jR⟩:=ag.len (by simp) rep;simp only[dj,f_]at e0;exact⟨ad,_,cap,e0,h.symm,jR⟩
   .simp at h
  .simp at h
 | _=>simp[qG]at h
include aM st hρ
theorem KC{o:Oper}{c:Call}(ho:o.op=.call c)(hc:c.callee=.builtin .len):Goal P C D S g w tmps a ρ A site hint o:=by
 intro ht;simp only[aS,ho,hc]at ht⊢;split at ht<;>try (rename_i hb _ _;simp at hb;done)
 .rename_i s _ _ hargs fS;have:∃x,c.args.toList=[x]/\ρ x=.val .str s:=by
   match gZ:c.args.toList with
   | []=>rw[gZ]at hargs;simp at hargs
   | [x]=>rw[gZ]at hargs;simp only[dn,kz,dj,f_]at hargs;exact⟨x,rfl,hargs⟩
   | _::_::_=>rw[gZ]at hargs;simp at hargs
  obtain⟨x,hx1,uH⟩:=this;obtain⟨t,l,yU,He⟩:∃t l,c.argTypes.toList=t::l/\C.ty t=.str:=by
   match gZ:c.argTypes.toList with
   | []=>rw[gZ]at fS;simp at fS
   | t::l=>rw[gZ]at fS;simp only[dn,dj]at fS;exact⟨t,l,rfl,fS.1⟩
  have hv:=hρ x;rw[uH]at hv;have e1:c.args = #[x]:=by rw[<-jE (xs:=c.args),hx1]
  have e2:c.argTypes[0]? = some t:=by rw[<-lK,yU];rfl
  refine cV.ret (val:=.int .i64 (s.size:Nat)) ?_ st (nU _ _);simp[execOp,ho,resolve,hc,invoke,builtin,Builtin.len_,e1,e2,zd hv,run_underlying (aM.str He),goInt,Sem.run_bind]
 .rename_i x0 e _ _ hargs fS;have:∃x,c.args.toList=[x]/\ρ x=x0:=by
   match gZ:c.args.toList with
   | []=>rw[gZ]at hargs;simp at hargs
   | [x]=>rw[gZ]at hargs;simp only[dn,kz,dj,f_]at hargs;exact⟨x,rfl,hargs⟩
   | _::_::_=>rw[gZ]at hargs;simp at hargs
  obtain⟨x,hx1,uH⟩:=this;obtain⟨t,l,yU,He⟩:∃t l,c.argTypes.toList=t::l/\C.ty t=.sl e:=by
   match gZ:c.argTypes.toList with
   | []=>rw[gZ]at fS;simp at fS
   | t::l=>rw[gZ]at fS;simp only[dn,dj]at fS;exact⟨t,l,rfl,fS.1⟩
  have hv:=hρ x;rw[uH]at hv;obtain⟨y,hy⟩:=aX.of ht;rw[hy];simp only[c5]at hy;obtain⟨n,hn,rfl⟩:=hy;obtain⟨ad,len,cap,ev,en,_⟩:=xz st hn hv;obtain⟨u,h1,_,_⟩:=aM.desc He;have e1:c.args = #[x]:=by rw[<-jE (xs:=c.args),hx1]
  have e2:c.argTypes[0]? = some t:=by rw[<-lK,yU];rfl
  subst en;refine cV.ret (val:=.int .i64 (len:Nat)) ?_ st (nU _ _);simp[execOp,ho,resolve,hc,invoke,builtin,Builtin.len_,e1,e2,ev,run_underlying h1,goInt,Sem.run_bind]
 all_goals (first | exact absurd ht aX.fail | (exfalso;contradiction) | trace_state)
end
section
variable {P:Program} {C:Ctx} {D:Den C} {S:St} {g:ai} {w:World} {tmps:Array Value} {a:Act} {ρ:Operand->AV}
variable {A:aZ} {site:Nat} {hint:Bool} (aM:e_ P C) (st:aj w.heap S g tmps Nil) (hρ:∀x,qe w.heap S g (ρ x) (a.eval x))
include aM st hρ
theorem I9{o:Oper}{s:TypeId}{x:Operand}{f:Nat}(ho:o.op=.field s x f):Goal P C D S g w tmps a ρ A site hint o:=by
 intro ht;simp only[aS,ho]at ht⊢;have hx:=hρ x;cases hv:ρ x with
 | val t y=>
  rw[hv]at hx ht;simp only at ht⊢;by_cases hT:t=C.ty s
  .subst hT;simp only[aK]at ht⊢;cases hf:focus (C.ty s) .no y (e6 f) with
   | none=>rw[hf]at ht;exact absurd ht aX.fail
   | some d=>
    obtain⟨ta,tb,Gj⟩:∃ta tb,C.ty s=.pair ta tb:=by
     cases hs:C.ty s with
     | pair ta tb=>exact⟨ta,tb,rfl⟩
     | _=>exfalso;revert y;rw[hs];intro y _ _ _ hf;cases f<;>simp[e6,focus]at hf
    obtain⟨fs,h1,h2⟩:=aM.pair Gj;rw[<-Gj]at h2;obtain⟨fd,q1,q2,q3,q4,q5⟩:=FK f h2 hf;simp only[qe]at hx;obtain⟨c,rep,e⟩:=hx;have hm:=(FJ _ hf).1;obtain⟨base',c',F2,Fr,z⟩:=zip (e6 f) _ _ _ _ Nil none d rep hf (pZ _ _ q5 (nT _ hf)) (fun b o e=>by simp at e);obtain⟨_,e2,e3⟩:=z.plain q5;have r2:=z.rep;rw[hm]at r2;have r3:=ag.cH (F':=Nil) d.ty rfl r2;have k:=aM fd.type q4;have S7:fs[f]? = some fd:=by simpa using q1
    have Gk:(C.ty s).agg=true:=by rw[Gj];rfl
    have hoff:fd.offset=cB (C.ty s) (e6 f):=by omega
    have hrun:(part fd.type c.toArray fd.offset).run P w=.ok (bK d.ty c') w:=by
     rw[e2];simp only[part,Sem.run_bind,k.j_,Result.andThen_ok];rw[<-q2];by_cases ha:d.ty.agg=true
     .have hsz:=k.dz w;rw[<-q2]at hsz;simp only[ha,aK,Sem.run_bind,hsz,Result.andThen_ok,Sem.run_pure,bK];congr 2;apply jj;simp only[Array.toList_extract,Bx];rw[hoff];congr 2;omega
     .have uq:d.ty.agg=false:=by simpa using ha
      have hw:=wY (by rw[q2];exact q4) uq;rw[hw]at e3⊢;have hlt:cB (C.ty s) (e6 f)<c.length:=by omega
      have:(c.drop (cB (C.ty s) (e6 f))).take 1=[c[cB (C.ty s) (e6 f)]]:=by rw[C2 hlt];rfl
      simp[uq,hoff,bK,this,gv hlt]
    refine cV.ret (v:=.val d.ty d.x) (val:=bK d.ty c') ?_ st (by simp only[qe];exact⟨c',r3,rfl⟩);have:bK (C.ty s) c=.agg c.toArray:=by simp[bK,Gk]
    simp[execOp,ho,e,this,Instr.field,run_underlying h1,S7,asAgg,hrun,Sem.run_bind]
  .rw[ax hT]at ht;exact absurd ht aX.fail
 | _=>rw[hv]at ht;exact absurd ht aX.fail
theorem Ja{o:Oper}{t:TypeId}{x i:Operand}(ho:o.op=.index t x i):Goal P C D S g w tmps a ρ A site hint o:=by
 intro ht;simp only[aS,ho]at ht⊢;have hx:=hρ x;have hi:=hρ i;split at ht
 .rename_i s k n hT hv hn;rw[hv]at hx;have ei:=y4 hn hi;have ex:=zd hx;obtain⟨⟨v,rt'⟩,hd⟩:=ht true;simp only[Tr.dec]at hd;by_cases hc:0<=n/\n<(s.size:Int)
  .have hlt:n.toNat<s.size:=by omega
   have e1:s[n.toNat]? = some (s.data.getD n.toNat 0):=by
    have:s[n.toNat]? = some s[n.toNat]:=by simp[hlt]
    rw[this];congr 1;have h2:n.toNat<s.data.size:=hlt;show s[n.toNat]=s.data.getD n.toNat 0;rw[kj,lE h2];rfl
   refine cV.value (val:=.int .u8 ((s.data.getD n.toNat 0).toNat:Int)) (w':=w) ?_ ⟨true,_,S.rt,by simp[Tr.dec,hc.1,hc.2],Post.same st (nU _ _)⟩;simp[execOp,ho,ei,ex,Instr.index,asIntOf,run_underlying (aM.str hT),hc.1,e1,Sem.run_bind]
  .have:(decide (0<=n)&&decide (n<(s.size:Int)))=false:=by simp only[jC,iB];omega
   rw[this]at hd;simp[Tr.dec]at hd
 .exact absurd ht aX.fail
theorem JO:∀{i:Nat}{v y:AV}{val:Value},AW v i=some y->qe w.heap S g v val->∃vs u,val=.tuple vs/\vs[i]? = some u/\qe w.heap S g y u:=by
 intro i
 induction i with
 | zero=>
  intro v y val h x;unfold AW at h;split at h
  .simp only[ay]at h;subst h;simp only[qe,aC]at x;obtain⟨vs,rfl,u,vs',rfl,h1,h2⟩:=x;exact⟨_,u,rfl,by simp,h1⟩
  .rename_i h0;simp at h0
  .simp at h
 | succ i ih=>
  intro v y val h x;unfold AW at h;split at h
  .rename_i h0;simp at h0
  .rename_i a b n he;simp only[Nat.succ.injEq]at he;subst he;simp only[qe,aC]at x;obtain⟨vs,rfl,u,vs',rfl,h1,h2⟩:=x;obtain⟨Wm,u2,e1,e2,e3⟩:=ih h (val:=.tuple vs'.toArray) (by simp only[qe];exact⟨vs',rfl,h2⟩);simp only[Value.tuple.injEq]at e1;subst e1;exact⟨_,u2,rfl,by simpa using e2,e3⟩
  .simp at h
theorem Ir{o:Oper}{x:Operand}{i:Nat}(ho:o.op=.extract x i):Goal P C D S g w tmps a ρ A site hint o:=by intro ht;simp only[aS,ho]at ht⊢;obtain⟨y,hy⟩:=aX.of ht;rw[hy];simp only[c5]at hy;obtain⟨v,hv,rfl⟩:=hy;obtain⟨vs,u,e1,e2,e3⟩:=JO aM st hρ hv (hρ x);exact cV.ret (val:=u) (by simp[execOp,ho,e1,Instr.extract,e2]) st e3
theorem Ig{o:Oper}{f:Fn}{first caps:Array Operand}(ho:o.op=.makeFunc f first caps):Goal P C D S g w tmps a ρ A site hint o:=by
 intro ht;simp only[aS,ho]at ht⊢;cases f with
 | func f=>
  simp only at ht⊢;by_cases he:first.isEmpty=true
  .simp only[he,aK]at ht⊢;have e0:first = #[]:=by simpa using he
   refine cV.ret (val:=.func (.func f) #[] (caps.map a.eval)) (by simp only[execOp,ho,Instr.makeFunc,e0,Array.map_empty,Sem.run_bind,Sem.run_pure,Result.andThen_ok]) st ?_;simp only[qe];refine⟨(caps.map a.eval).toList,by rw[jE],?_⟩;rw[Array.toList_map];generalize caps.toList=l
   induction l with
   | nil=>simp only[List.foldr_nil,kz,aC]
   | cons x l ih=>simp only[wD,dn,aC];exact⟨_,_,rfl,hρ x,ih⟩
  .rw[ax he]at ht;exact absurd ht aX.fail
 | _=>exact absurd ht aX.fail
end
end Go.V
namespace Go.V
noncomputable section
open Go
section
variable {P:Program} {C:Ctx} {D:Den C} {S:St} {g:ai} {w:World} {tmps:Array Value} {a:Act} {ρ:Operand->AV}
variable {A:aZ} {site:Nat} {hint:Bool} (aM:e_ P C) (st:aj w.heap S g tmps Nil) (hρ:∀x,qe w.heap S g (ρ x) (a.eval x))
include aM in
theorem BF:∀(n d:Nat)(t:TypeId)(T:Ty),C.ty t=T->T.deep<=n->n<d->T.comp=true->T.nz=true->
  ∀{h:Array Obj}{Pr:BS}{x y:T.den}{cx cy:List Value}{F F':BS},ag h Pr T .no x cx F->ag h Pr T .no y cy F'->
  (Op.equalIn d t (bK T cx) (bK T cy)).run P w=.ok (tT T x y) w
 | 0,d,t,T,hT,hn,_,_,_,_,_,_,_,_,_,_,_,_,_=>by cases T<;>simp[Ty.deep]at hn
 | n+1,d,t,T,hT,hn,hd,hc,hz,h,Pr,x,y,cx,cy,F,F',rx,ry=>by
  obtain⟨d,rfl⟩:∃d',d=d'+1:=⟨d-1,by omega⟩
  cases T with
  | unit=>simp[Ty.nz]at hz
  | sl _=>simp[Ty.comp]at hc
  | int k=>simp only[ag]at rx ry;subst rx;subst ry;exact run_equalIn_int w d t k k x y (aM.int hT)
  | bool=>simp only[ag]at rx ry;subst rx;subst ry;exact run_equalIn_bool' w d t x y (aM.bool hT)
  | str=>simp only[ag]at rx ry;subst rx;subst ry;exact run_equalIn_string w d t x y (aM.str hT)
  | pair ta tb=>
   obtain⟨fs,h1,h2⟩:=aM.pair hT;have k:=aM t (by rw[hT];rfl);obtain⟨hp,_⟩:=k.eq (by rw[hT];rfl) (by rw[hT];exact hc);have Oq:P.fieldsOf t=fs:=by simp[Program.fieldsOf,h1]
   have e1:bK (Ty.pair ta tb) cx=.agg cx.toArray:=rfl;have e2:bK (Ty.pair ta tb) cy=.agg cy.toArray:=rfl;rw[e1,e2,run_equalIn_struct w d t _ _ (by rw[Oq];exact h1) hp,Oq]
   -- rQ fields,one behind rQ other
   have key:∀(l:List Field)(off:Nat)(U:Ty),iM C l off U->U.comp=true->U.deep<=n+1->∀(px py:List Value){x y:U.den}{cx cy:List Value}{F F':BS},px.length=off->py.length=off->
     ag h Pr U .no x cx F->ag h Pr U .no y cy F'->(Op.eqFields d (px++cx).toArray (py++cy).toArray l).run P w=.ok (tT U x y) w:=by
    intro l
    induction l with
    | nil=>intro off U hs hc On px py x y cx cy F F' hpx G4 rx ry;simp only[iM]at hs;subst hs;simp[Op.eqFields,tT]
    | cons fd l ih=>
     intro off U hs hc On px py x y cx cy F F' hpx G4 rx ry;simp only[iM]at hs;obtain⟨b,rfl,q1,q2,q3,q4⟩:=hs;simp only[Ty.comp,aO]at hc;simp only[Ty.deep]at On;simp only[ag]at rx ry;obtain⟨ca,cb,Fa,Fb,rfl,ra,rb,_⟩:=rx;obtain⟨N6,Rz,Wq,Wr,rfl,ra',rb',_⟩:=ry;have kf:=aM fd.type q3;have OG:=ag.width _ ra;have AJ:=ag.width _ ra';have hpart:∀(px ca cb:List Value),px.length=off->ca.length=(C.ty fd.type).width->(part fd.type (px++(ca++cb)).toArray fd.offset).run P w=.ok (bK (C.ty fd.type) ca) w:=by
      intro px ca cb hpx hca;simp only[part,Sem.run_bind,kf.j_,Result.andThen_ok];by_cases ha:(C.ty fd.type).agg=true
      .simp only[ha,aK,Sem.run_bind,kf.dz,Result.andThen_ok,Sem.run_pure,bK];congr 2;apply jj;simp only[Array.toList_extract,Bx];rw[q1,<-hpx,List.drop_left,<-hca];have:px.length+ca.length-px.length=ca.length:=by omega
       rw[this,List.take_left]
      .have uq:(C.ty fd.type).agg=false:=by simpa using ha
       have hw:=wY q3 uq;rw[hw]at hca
       match ca,hca with
       | [v],_=>simp[uq,bK,q1,<-hpx]
     have hne:fd.name≠ "_" := q2;simp only[Op.eqFields,hne,ne_eq,not_false_eq_true,aK,Sem.run_bind,hpart px ca cb hpx OG,hpart py N6 Rz G4 AJ,Result.andThen_ok];have SH:=BF n d fd.type _ rfl (by omega) (by omega) hc.1 q3 ra ra';rw[SH];simp only[Result.andThen_ok,tT];cases hq:tT (C.ty fd.type) x.1 y.1 with
     | false=>simp
     | true=>simp only[cT,cL,bY,Bool.true_and];have:=ih (off+(C.ty fd.type).width) b q4 hc.2 (by omega) (px++ca) (py++N6) (by simp[hpx,OG]) (by simp[G4,AJ]) rb rb';simpa [fe] using this
   have:=key fs.toList 0 _ h2 hc hn [] [] rfl rfl rx ry;simpa using this
def tD(S:aD):Tr AV->Tr (AV×aD)
 | .ret v=>.ret (v,S)
 | .br c (.ret v) .fail=>.br c (.ret (v,S)) .fail
 | .br c .fail (.ret v)=>.br c .fail (.ret (v,S))
 | _=>.fail
theorem CN{S:aD}{T:Tr AV}{β:Bool}{v:AV}{rt:aD}(h:(tD S T).dec β=some (v,rt)):T.dec β=some v/\rt=S:=by
 unfold tD at h;split at h
 .simp only[Tr.dec,ay,aJ]at h;simp[Tr.dec,h.1,h.2]
 .rename_i c v';cases c<;>simp only[Tr.dec,ay,aJ]at h
  .simp at h
  .simp[Tr.dec,h.1,h.2]
 .rename_i c v';cases c<;>simp only[Tr.dec,ay,aJ]at h
  .simp[Tr.dec,h.1,h.2]
  .simp at h
 .simp[Tr.dec]at h
theorem AT{op:BinOp}{t:TypeId}{x y:Operand}{va vb:Value}(h:(∃xs ys,va=.agg xs/\vb=.agg ys/\P.eqGuardType P.depth t=false)\/(va≠.nilIface/\∀xs,va≠.agg xs)) :
  (eqGuard op t x y va vb).run P w=.ok () w:=by
 unfold eqGuard;rcases h with⟨xs,ys,rfl,rfl,h⟩ | ⟨h1,h2⟩
 .cases op<;>simp[Sem.run_bind,h]
 .cases op<;>cases va<;>simp_all [Sem.run_bind]<;>cases vb<;>simp[Sem.run_bind]
include aM in
theorem J9{op:BinOp}{t:TypeId}{x y:Operand}{v1 v2:AV}{va vb:Value}{v:AV}(h:(gC (C.ty t) op v1 v2).dec true=some v)
    (ha:qe w.heap S g v1 va) (hb:qe w.heap S g v2 vb) :
    ∃val,(do eqGuard op t x y va vb;binOp op t va vb:Sem Value).run P w=.ok val w/\qe w.heap S g v val:=by
  cases v1 with
  | val t1 x1=>
    cases v2 with
    | val t2 x2=>
      cases t1 with
      | int ka=>
        cases t2 with
        | int kb=>
          obtain rfl:=tZ ha;obtain rfl:=tZ hb;have hg:(eqGuard op t x y (.int ka x1) (.int kb x2)).run P w=.ok () w:=AT (.inr ⟨by simp,by simp⟩);simp only[Sem.run_bind,hg,Result.andThen_ok];cases op<;>simp only[gC]at h
          case shl=>
            by_cases hc:x2<0
            . simp[hc,Tr.dec]at h
            . simp[hc,Tr.dec]at h
              subst h;exact⟨_,by simp[binOp,Op.shift,hc],nU _ _⟩
          case shr=>
            by_cases hc:x2<0
            . simp[hc,Tr.dec]at h
            . simp[hc,Tr.dec]at h
              subst h;exact⟨_,by simp[binOp,Op.shift,hc],nU _ _⟩
          case andNot=>simp[Tr.dec]at h
          all_goals
            by_cases hk:ka=kb
            . subst hk
              simp only[aK]at h
              first
              | (simp only[Tr.dec,ay]at h;subst h
                 first
                 | exact⟨_,by simp[binOp,Op.intArith,Op.intBits,Op.intCmp],nU _ _⟩
                 | exact⟨_,by simp[binOp,Op.intArith,Op.intBits,Op.intCmp];rfl,uT _⟩
                 | exact⟨_,by simp[binOp,Op.intArith,Op.intBits,Op.intCmp],uT _⟩)
              | (by_cases hc:x2=0
                 . simp[hc,Tr.dec]at h
                 . simp[hc,Tr.dec]at h
                   subst h;exact⟨_,by simp[binOp,Op.intDiv,hc],nU _ _⟩)
            . simp[hk,Tr.dec]at h
        | _=>simp[gC,Tr.dec]at h
      | str=>
        cases t2 with
        | str=>
          obtain rfl:=zd ha;obtain rfl:=zd hb;have hg:(eqGuard op t x y (.string x1) (.string x2)).run P w=.ok () w:=AT (.inr ⟨by simp,by simp⟩);simp only[Sem.run_bind,hg,Result.andThen_ok];cases op<;>simp only[gC]at h
          case add=>
            by_cases hc:x1.size+x2.size<=2 ^ 47
            . simp only[hc,sn,Tr.dec,ay]at h
              subst h;refine⟨_,?_,sZ _⟩;have:¬ (((x1.size+x2.size:Nat):Int)>IntKind.i64.max):=by
                have:IntKind.i64.max=9223372036854775807:=by decide
                rw[this];omega
              simp only[binOp,Op.stringOp,this,bY];rfl
            . simp only[hc,HL,Tr.dec]at h
              simp at h
          all_goals first
            | (simp only[Tr.dec,ay]at h;subst h;exact⟨_,by simp[binOp,Op.stringOp],uT _⟩)
            | simp[Tr.dec]at h
        | _=>simp[gC,Tr.dec]at h
      | bool=>
        cases t2 with
        | bool=>
          obtain rfl:=sD ha;obtain rfl:=sD hb;have hg:(eqGuard op t x y (.bool x1) (.bool x2)).run P w=.ok () w:=AT (.inr ⟨by simp,by simp⟩);simp only[Sem.run_bind,hg,Result.andThen_ok];simp only[gC]at h;by_cases hT:C.ty t=.bool
          . simp only[hT,aK]at h
            have hu:=aM.bool hT;cases op<;>first
              | (simp only[Tr.dec,ay]at h;subst h;exact⟨_,by simp[binOp,Op.equal,Op.maxDepth,run_equalIn_bool' w 9999 t x1 x2 hu,Sem.run_bind],uT _⟩)
              | simp[Tr.dec]at h
          . simp[hT,Tr.dec]at h
        | _=>simp[gC,Tr.dec]at h
      | pair ta tb=>
        have h':(wu (C.ty t) op (.pair ta tb) x1 t2 x2).dec true=some v:=by cases t2<;>simpa only [gC] using h
        unfold wu at h';by_cases hT:(Ty.pair ta tb).comp=true/\C.ty t=Ty.pair ta tb
        . rw[aE hT]at h'
          have kk:=aM t (by rw[hT.2];rfl);obtain⟨hp,hq⟩:=kk.eq (by rw[hT.2];rfl) (by rw[hT.2];exact hT.1);cases hc:qbv t2 (Ty.pair ta tb) x2 with
          | none=>rw[hc]at h';cases op<;>simp[Tr.dec]at h'
          | some z=>
            rw[hc]at h';simp only[qe]at ha hb;obtain⟨c1,r1,rfl⟩:=ha;obtain⟨c2,r2,rfl⟩:=hb;obtain⟨rfl,uY⟩:=ag.cast hc r2;have z8:(Ty.pair ta tb).deep<10000:=by rw[<-hT.2];exact kk.deep
            . have he:=BF (w:=w) aM _ 10000 t _ hT.2 (bN _) z8 hT.1 rfl r1 uY
              have e1:bK (Ty.pair ta tb) c1=.agg c1.toArray:=rfl;have e2:bK (Ty.pair ta tb) c2=.agg c2.toArray:=rfl;rw[e1,e2]at he⊢;have hg:(eqGuard op t x y (.agg c1.toArray) (.agg c2.toArray)).run P w=.ok () w:=AT (.inl ⟨_,_,rfl,rfl,hq⟩);simp only[Sem.run_bind,hg,Result.andThen_ok];cases op<;>first
                | (simp only[Tr.dec,ay]at h';subst h';exact⟨_,by simp only[binOp,Op.equal,Op.maxDepth,Sem.run_bind,he,Result.andThen_ok,Sem.run_pure],uT _⟩)
                | simp[Tr.dec]at h'
        . rw[ax hT]at h';simp[Tr.dec]at h'
      | _=>simp[gC,Tr.dec]at h
    | _=>cases t1<;>simp[gC,Tr.dec]at h
  | _=>simp[gC,Tr.dec]at h
end
end
section
variable {P:Program} {C:Ctx} {D:Den C} {S:St} {g:ai} {w:World} {tmps:Array Value} {a:Act} {ρ:Operand->AV}
variable {A:aZ} {site:Nat} {hint:Bool} (aM:e_ P C) (st:aj w.heap S g tmps Nil) (hρ:∀x,qe w.heap S g (ρ x) (a.eval x))
include aM st hρ
theorem IU{o:Oper}{op:BinOp}{t t2:TypeId}{x y:Operand}(ho:o.op=.binOp op t x y t2):Goal P C D S g w tmps a ρ A site hint o:=by
 intro ht;have hx:=hρ x;have hy:=hρ y;have GC:ρ y≠.cP->aS C D A ρ S.rt site hint o=tD S.rt (gC (C.ty t) op (ρ x) (ρ y)):=by
  intro hn;simp only[aS,ho];cases hv:ρ y with
  | cP=>exact absurd hv hn
  | _=>rfl
 by_cases hn:ρ y=.cP
 .simp only[aS,ho,hn]at ht⊢;rw[hn]at hy;simp only[qe]at hy;have hrun:∀(u:TypeId)(ad:Option Addr)(len cap:Nat),P.underlying t=some (.slice u)->a.eval x=.slice ad len cap->
    (Op.equal t (.slice ad len cap) (.slice none 0 0)).run P w=.ok ad.isNone w:=by
   intro u ad len cap h1 h2;have e0:Op.equal t (.slice ad len cap) (.slice none 0 0)=Op.equalIn (9999+1) t (.slice ad len cap) (.slice none 0 0):=rfl;rw[e0];unfold Op.equalIn;cases ad<;>simp only[Sem.run_bind,run_underlying h1,Result.andThen_ok,Sem.run_pure,Option.isNone_none,Option.isNone_some]
  have hg:∀ad len cap,(eqGuard op t x y (.slice ad len cap) (.slice none 0 0)).run P w=.ok () w:=fun ad len cap=>AT (.inr ⟨by simp,by simp⟩);split at ht
  .rename_i e n hT hl;obtain⟨ad,len,cap,ev,en,hs⟩:=xz st hl hx;obtain⟨u,h1,_,_⟩:=aM.desc hT;subst en;refine cV.value (val:=.bool ad.isNone) (w':=w) ?_ ⟨ad.isNone,.val .bool ad.isNone,S.rt,?_,Post.same st (uT _)⟩
   .have:=hg ad len cap;simp[execOp,ho,ev,hy,this,binOp,hrun u ad len cap h1 ev,Sem.run_bind]
   .simp only[Tr.dec,dR];by_cases h0:len=0
    .simp[h0]
    .have:=hs h0;have h3:ad.isNone=false:=by simpa using this
     simp[h0,h3]
  .rename_i e n hT hl;obtain⟨ad,len,cap,ev,en,hs⟩:=xz st hl hx;obtain⟨u,h1,_,_⟩:=aM.desc hT;subst en;refine cV.value (val:=.bool (!ad.isNone)) (w':=w) ?_ ⟨!ad.isNone,.val .bool (!ad.isNone),S.rt,?_,Post.same st (uT _)⟩
   .have:=hg ad len cap;simp[execOp,ho,ev,hy,this,binOp,hrun u ad len cap h1 ev,Sem.run_bind]
   .simp only[Tr.dec,dR];by_cases h0:len=0
    .simp[h0]
    .have:=hs h0;have h3:ad.isNone=false:=by simpa using this
     simp[h0,h3]
  .exact absurd ht aX.fail
 .rw[GC hn]at ht⊢;obtain⟨⟨v,rt'⟩,hd⟩:=ht true;obtain⟨h1,rfl⟩:=CN hd;obtain⟨val,h2,h3⟩:=J9 aM (x:=x) (y:=y) h1 hx hy;refine cV.value (val:=val) (w':=w) ?_ ⟨true,v,S.rt,hd,Post.same st h3⟩;have:execOp a.eval o=(do pure (.value (<- (do eqGuard op t x y (a.eval x) (a.eval y);binOp op t (a.eval x) (a.eval y))))):=by simp[execOp,ho]
  rw[this];rw[Sem.run_bind,h2];rfl
theorem xS:∀(ns:List Int)(s:ByteArray),ns.foldl (fun r n=>r.push (UInt8.ofNat n.toNat)) s=⟨s.data++(ns.map fun n=>UInt8.ofNat n.toNat).toArray⟩
 | [],s=>by simp
 | n::ns,s=>by
  simp only[n9];rw[xS ns];simp[ByteArray.push]
theorem Ik{o:Oper}{src dst:TypeId}{x:Operand}(ho:o.op=.convert src dst x):Goal P C D S g w tmps a ρ A site hint o:=by
 intro ht;simp only[aS,ho]at ht⊢;have hx:=hρ x;split at ht
 .rename_i k1 kd k2 n h1 h2 hv;rw[hv]at hx;exact cV.ret (val:=.int kd (kd.wrap n)) (by simp[execOp,ho,convert,run_underlying (aM.int h1),run_underlying (aM.int h2),tZ hx,Conv.intToInt,Sem.run_bind]) st (nU _ _)
 .rename_i s h1 h2 hv;rw[hv]at hx;exact cV.ret (val:=.string s) (by simp[execOp,ho,convert,run_underlying (aM.str h1),run_underlying (aM.str h2),zd hx,Sem.run_bind]) st (sZ _)
 .rename_i _ h1 h2;cases hr:rd S.rt (.sl (.int .u8)) (ρ x) with
  | none=>rw[hr]at ht;exact absurd ht aX.fail
  | some xs=>
   obtain⟨c,ev,rep⟩:=wI st _ hr hx;simp only[ag]at rep;obtain⟨ad,cap,rfl,hl,re⟩:=rep;have ev':a.eval x=.slice ad xs.length cap:=by rw[ev];rfl
   obtain⟨u,q1,q2,_⟩:=aM.desc h1;have hu:=aM.int q2;simp only;refine cV.ret (val:=.string ⟨(xs.map fun n=>UInt8.ofNat n.toNat).toArray⟩) ?_ st (sZ _);have z7:(Conv.bytesToString (.slice ad xs.length cap)).run P w=.ok (.string ⟨(xs.map fun n=>UInt8.ofNat n.toNat).toArray⟩) w:=by
    by_cases hne:xs=[]
    .subst hne;cases ad with
     | none=>simp[Conv.bytesToString];rfl
     | some ad=>have:=run_bytesToString (P:=P) w ad 0 cap [] (by simp[loadCells,loadCellsFrom]);simpa [xS aM st hρ] using this
    .obtain⟨b,off,cs,rfl,hp,hb,hs,re⟩:=re hne;have dM:sub cs off xs.length=xs.map (Value.int .u8):=by
      apply kq;intro i;by_cases hi:i<xs.length
      .have:=re i hi;have Hq:(Ty.int .u8).width=1:=rfl;simp only[Hq,Nat.mul_one]at this hs;have e1:(sub cs (off+i) 1)[0]? = some (Value.int .u8 xs[i]):=by
        rw[this];have:xs.getD i (Ty.zero (.int .u8))=xs[i]:=by simp[List.getD,hi]
        rw[this];rfl
       simp only[sub,di,dW]at e1⊢;simp only[hi,aK,xX,gv hi,cr];simpa using e1
      .rw[iD (by simp[sub];omega),iD (by simp;omega)]
     have Hq:(Ty.int .u8).width=1:=rfl;simp only[Hq,Nat.mul_one]at hs;have iT:=tO (w:=w) hb hs;have eH:=run_loadCells_list (P:=P) w ⟨b,off,none⟩ (sub cs off xs.length) (fun j v hv=>by rw[Addr.add_mid];exact iT j v hv);rw[wT hs,dM]at eH;have:=run_bytesToString (P:=P) w ⟨b,off,none⟩ xs.length cap xs eH;rw[this,xS aM st hρ];simp
   have:=run_convert_bytes_string (P:=P) w src dst u ad xs.length cap q1 hu (aM.str h2);simp[execOp,ho,ev',this,z7,Sem.run_bind]
 .exact absurd ht aX.fail
end
section
variable {P:Program} {C:Ctx} {D:Den C} {S:St} {g:ai} {w:World} {tmps:Array Value} {a:Act} {ρ:Operand->AV}
variable {A:aZ} {site:Nat} {hint:Bool} (aM:e_ P C) (st:aj w.heap S g tmps Nil) (hρ:∀x,qe w.heap S g (ρ x) (a.eval x))
theorem CW{v:Value}{k:IntKind}{n:Int}{y:Nat}{code:BoundsCode}(hv:v=.int k n)(h0:0<=n)(h1:n<=(y:Int)) :
  (Instr.sliceBound v y code).run P w=.ok n.toNat w:=by
 subst hv;simp[Instr.sliceBound,asIntOf,h0,h1,Sem.run_bind]
include hρ in
theorem sr{lo hi:Option Operand}{len cap:Nat}{l h:Int}{yW:Bool}(hl:y9 (lo.map ρ)=some l)(hh:vR (len:Int) (hi.map ρ)=some h)(h0:0<=l)(h1:l<=h)(h2:h<=(len:Int))(h3:len<=cap) :
  (Instr.sliceBounds yW len cap (lo.map a.eval) (hi.map a.eval) none).run P w=.ok (l.toNat,h.toNat,cap) w:=by
 have RE:∀(code:BoundsCode),hi=none/\h=(len:Int)\/∃v,hi=some v/\(Instr.sliceBound (a.eval v) cap code).run P w=.ok h.toNat w:=by
  intro code;cases hi with
  | none=>simp only[xZ,vR,ay]at hh;exact .inl ⟨rfl,hh.symm⟩
  | some v=>simp only[cr,vR,c5]at hh;obtain⟨⟨k,n⟩,hn,e⟩:=hh;simp only at e;subst e;exact .inr ⟨v,rfl,CW (y4 hn (hρ v)) (by omega) (by omega)⟩
 have RH:lo=none/\l=0\/∃v,lo=some v/\(Instr.sliceBound (a.eval v) h.toNat .sliceB).run P w=.ok l.toNat w:=by
  cases lo with
  | none=>simp only[xZ,y9,ay]at hl;exact .inl ⟨rfl,hl.symm⟩
  | some v=>simp only[cr,y9,c5]at hl;obtain⟨⟨k,n⟩,hn,e⟩:=hl;simp only at e;subst e;exact .inr ⟨v,rfl,CW (y4 hn (hρ v)) h0 (by omega)⟩
 unfold Instr.sliceBounds;rcases RE (if yW then .sliceAcap else .sliceAlen) with⟨rfl,rfl⟩ | ⟨vh,rfl,eh⟩<;>rcases RH with⟨rfl,rfl⟩ | ⟨vl,rfl,el⟩
 .simp[Sem.run_bind]
 .simp only[dR]at el;simp[Sem.run_bind,el]
 .simp[Sem.run_bind,eh]
 .simp[Sem.run_bind,eh,el]
include aM st hρ
theorem Jn{o:Oper}{t:TypeId}{x lop:Operand}{hi:Option Operand}(ho:o.op=.slice t x (some lop) hi none){r:Nat}{p:Path}{s:Nat}{e:Ty}(hv:ρ x=.bu r p s)(hT:C.ty t=.sl e)
  (ht:aX (nL S.rt e r p s (ρ lop) (hi.map ρ))):cV P S g w tmps (nL S.rt e r p s (ρ lop) (hi.map ρ)) ((execOp a.eval o).run P w):=by
 have hx:=hρ x;rw[hv]at hx;unfold nL at ht⊢;cases hl:oy (ρ lop) with
 | none=>rw[hl]at ht;exact absurd ht aX.fail
 | some kl=>
  cases hhi:hi.map ρ with
  | some _=>rw[hl,hhi]at ht;exact absurd ht aX.fail
  | none=>
   rw[hl,hhi]at ht;simp only at ht⊢;cases hf:S.rt.focus r p with
   | none=>rw[hf]at ht;exact absurd ht aX.fail
   | some d=>
    obtain⟨dt,dm,dx⟩:=d;cases dt with
    | sl e'=>
     cases dm with
     | own s' m=>
      rw[hf]at ht;simp only at ht⊢;by_cases hs:s=s'/\e=e'
      .simp only[aE hs]at ht⊢;obtain⟨rfl,rfl⟩:=hs;obtain⟨⟨v,rt'⟩,hd⟩:=ht true;simp only[Tr.dec]at hd;by_cases hc:0<=kl.2/\kl.2<=((dx:List e.den).length:Int)
       .obtain⟨u,h1,h2,h3⟩:=aM.desc hT;simp only[qe]at hx;obtain⟨R,base,F,hR,qX,hin,cz,rep,hF⟩:=A4 st hf rfl hx;simp only[ag]at rep;obtain⟨ad,cap,e0,hlc,hr⟩:=rep;simp only[dj,f_]at e0;have hb:=sr (P:=P) (yW:=true) hρ (lo:=some lop) (hi:=hi) (l:=kl.2) (h:=((dx:List e.den).length:Int)) (len:=(dx:List e.den).length) (cap:=cap) (by simp[y9,hl]) (by rw[hhi];rfl) hc.1 hc.2 (Int.le_refl _) hlc;rw[cr,dR]at hb;have ku:=aM u h3;refine cV.value (val:=.slice (if cap=kl.2.toNat then ad else ad.map (·.add (kl.2.toNat * (C.ty u).width))) ((dx:List e.den).length-kl.2.toNat) (cap-kl.2.toNat)) (w':=w) ?_
         ⟨true,.view r p s kl.2.toNat (dx:List e.den).length,S.rt,by simp[Tr.dec,hc.1,hc.2],Post.same st ?_⟩
        .simp[execOp,ho,e0,Instr.sliceAt,Instr.slice,run_underlying h1,Sem.run_bind,hb,ku.dz]
        .simp only[qe];intro R' bt t2 m2 WO mg;rw[hR]at bt;simp only[ay]at bt;subst bt;rw[qX]at mg;simp only[ay,Dy.mk.injEq,Ty.sl.injEq]at mg;obtain⟨rfl,_⟩:=mg;refine⟨hin,base,ad,(dx:List e.den).length,cap,by rw[cz,e0],by omega,bN _,by rw[h2]⟩
       .have:(decide (0<=kl.2)&&decide (kl.2<=((dx:List e.den).length:Int)))=false:=by simp only[jC,iB];omega
        rw[this]at hd;simp[Tr.dec]at hd
      .rw[ax hs]at ht;exact absurd ht aX.fail
     | _=>rw[hf]at ht;exact absurd ht aX.fail
    | _=>rw[hf]at ht;exact absurd ht aX.fail
theorem Jh{o:Oper}{t:TypeId}{x:Operand}{lo hi:Option Operand}(ho:o.op=.slice t x lo hi none)(ok:jk A S o.dst site):Goal P C D S g w tmps a ρ A site hint o:=by
 intro ht;simp only[aS,ho]at ht⊢;have hx:=hρ x;unfold nK at ht⊢;split at ht
 . -- a string
  rename_i s hv hT;rw[hv]at hx;have ex:=zd hx;split at ht
  .rename_i l h hl hh;obtain⟨⟨v,rt'⟩,hd⟩:=ht true;by_cases hc:0<=l/\l<=h/\h<=(s.size:Int)
   .have hb:=sr (P:=P) (yW:=false) hρ (cap:=s.size) hl hh hc.1 hc.2.1 hc.2.2 (bN _);refine cV.value (val:=.string (s.extract l.toNat h.toNat)) (w':=w) ?_ ⟨true,.val .str (s.extract l.toNat h.toNat),S.rt,?_,Post.same st (sZ _)⟩
    .simp[execOp,ho,ex,Instr.sliceAt,Instr.slice,run_underlying (aM.str hT),Sem.run_bind,hb]
    .simp[Tr.dec,hc.1,hc.2.1,hc.2.2]
   .have:(decide (0<=l)&&decide (l<=h)&&decide (h<=(s.size:Int)))=false:=by simp only[jC,iB];omega
    rw[this]at hd;simp[Tr.dec]at hd
  .exact absurd ht aX.fail
 . -- a shared row
  rename_i e xs e' hv hT;rw[hv]at hx;split at ht
  .rename_i l h hl hh;by_cases hee:e=e'
   .subst hee;simp only[aK]at ht⊢;obtain⟨⟨v,rt'⟩,hd⟩:=ht true;by_cases hc:0<=l/\l<=h/\h<=(xs.length:Int)
    .obtain⟨u,h1,h2,h3⟩:=aM.desc hT;simp only[qe,ag]at hx;obtain⟨c,⟨ad,cap,rfl,hlc,re⟩,ev⟩:=hx;have ev':a.eval x=.slice ad xs.length cap:=ev;have hb:=sr (P:=P) (yW:=true) hρ (cap:=cap) hl hh hc.1 hc.2.1 hc.2.2 hlc;have ku:=aM u h3;refine cV.value (val:=.slice (if cap=l.toNat then ad else ad.map (·.add (l.toNat * (C.ty u).width))) (h.toNat-l.toNat) (cap-l.toNat)) (w':=w) ?_
      ⟨true,.val (.sl e) ((xs.take h.toNat).drop l.toNat),S.rt,?_,Post.same st ?_⟩
     .simp[execOp,ho,ev',Instr.sliceAt,Instr.slice,run_underlying h1,Sem.run_bind,hb,ku.dz]
     .simp[Tr.dec,hc.1,hc.2.1,hc.2.2]
     .simp only[qe,ag];have hlen:((xs.take h.toNat).drop l.toNat).length=h.toNat-l.toNat:=by rw[n7,dX];omega
      refine⟨_,⟨_,cap-l.toNat,rfl,by omega,?_⟩,by rw[hlen];rfl⟩;intro hne;have hpos:0<h.toNat-l.toNat:=by rw[<-hlen];exact List.length_pos_iff.2 hne
      obtain⟨b,off,cs,rfl,hp,mc,hs,re⟩:=re (by rintro rfl;simp at hc;omega);have gZ:¬ cap=l.toNat:=by omega
      refine⟨b,off+l.toNat * e.width,cs,by rw[ax gZ,h2];simp[Addr.add_mid],hp,mc,?_,fun i hi=>?_⟩
      .rw[hlen];have:l.toNat * e.width+(h.toNat-l.toNat) * e.width<=xs.length * e.width:=by rw[<-fl];exact cq _ (by omega)
       omega
      .rw[hlen]at hi;have:=re (l.toNat+i) (by omega);have e1:((xs.take h.toNat).drop l.toNat).getD i e.zero=xs.getD (l.toNat+i) e.zero:=by simp only[List.getD,dW,di];rw[aE (by omega)]
       rw[e1];have e2:off+l.toNat * e.width+i * e.width=off+(l.toNat+i) * e.width:=by rw[fl];omega
       rw[e2];exact this
    .have:(decide (0<=l)&&decide (l<=h)&&decide (h<=(xs.length:Int)))=false:=by simp only[jC,iB];omega
     rw[this]at hd;simp[Tr.dec]at hd
   .rw[ax hee]at ht;exact absurd ht aX.fail
  .exact absurd ht aX.fail
 . -- an own row,from SJ begin
  rename_i r p s e hv hT;rw[hv]at hx;cases hlo:lo.map ρ with
  | some v=>
   rw[hlo]at ht;simp only at ht⊢;cases lo with
   | none=>simp at hlo
   | some lop=>simp only[cr,ay]at hlo;subst hlo;exact Jn aM st hρ ho hv hT ht
  | none=>
   rw[hlo]at ht;simp only at ht⊢;cases mw:tk S.rt (.sl e) (.bu r p s) with
   | none=>rw[mw]at ht;exact absurd ht aX.fail
   | some z=>
    obtain⟨m,xs,cm⟩:=z;rw[mw]at ht;cases m with
    | own s1 m=>
     simp only at ht⊢;cases hh:vR (xs.length:Int) (hi.map ρ) with
     | none=>rw[hh]at ht;exact absurd ht aX.fail
     | some h=>
      rw[hh]at ht;simp only at ht⊢;by_cases iW:m.af=true
      .simp only[iW,aK]at ht⊢;obtain⟨⟨v,rt'⟩,hd⟩:=ht true;by_cases hc:0<=h/\h<=(xs.length:Int)
       .have hd':(b8 A cm o.dst site (.sl e) (.own 0 m) (xs.take h.toNat) false).dec true=some (v,rt'):=by simpa only [hc.1,hc.2,sn,Bool.and_true,Tr.dec] using hd
        obtain⟨u,h1,h2,h3⟩:=aM.desc hT;have ku:=aM u h3;obtain⟨c,g1,F,ev,bB⟩:=qH _ st mw hx;have rep:=bB.rep;simp only[ag]at rep;obtain⟨ad,cap,rfl,hlc,re⟩:=rep;have ev':a.eval x=.slice ad xs.length cap:=ev;have hb:=sr (P:=P) (lo:=none) (yW:=true) hρ (cap:=cap) (l:=0) rfl hh (by omega) hc.1 hc.2 hlc;have GL:lo=none:=by
         cases lo with
         | none=>rfl
         | some v=>simp at hlo
        subst GL;have hlen:(xs.take h.toNat).length=h.toNat:=by rw[dX];omega
        have fJ:ag w.heap g1.Pr (.sl e) (.own 0 m) (xs.take h.toNat) [.slice ad h.toNat cap] F:=by
         simp only[ag];refine⟨ad,cap,by rw[hlen],by rw[hlen];omega,?_⟩;rcases re with re | ⟨b,cs,rfl,fb,R9,hs,Fs,jN,lV,re⟩
         .exact .inl re
         .refine .inr ⟨b,cs,rfl,fb,R9,hs,Fs,jN,lV,fun i hi=>?_⟩;rw[hlen]at hi;have:=re i (by omega);have e1:(xs.take h.toNat).getD i e.zero=xs.getD i e.zero:=by simp only[List.getD,di];rw[aE hi]
          rw[e1];exact this
        obtain⟨g2,s1',s2,s3⟩:=tY (st:=bB.st) fJ (aA.af _ (by simp[Mk.af,iW,jx])) (fun b hb=>.inr hb) ok hd';have Ww:(if cap=0 then ad else ad.map (·.add (0 * (C.ty u).width)))=ad:=by
         split
         .rfl
         .cases ad<;>simp[Addr.add]
        refine cV.value (val:=.slice ad h.toNat cap) (w':=w) ?_ ⟨true,v,rt',hd,g2,s1',s2,bB.same.trans s3,.refl _ _⟩;simp only[xZ]at hb;simp[execOp,ho,ev',Instr.sliceAt,Instr.slice,run_underlying h1,Sem.run_bind,hb,ku.dz];intro _;cases ad<;>simp[Addr.add]
       .have:(decide (0<=h)&&decide (h<=(xs.length:Int)))=false:=by simp only[jC,iB];omega
        rw[this]at hd;simp[Tr.dec]at hd
      .rw[ax iW]at ht;exact absurd ht aX.fail
    | _=>exact absurd ht aX.fail
 .exact absurd ht aX.fail
end
theorem EN{h:Array Obj}{S:St}{g:ai}{tmps:Array Value}{H:BS}(st:aj h S g tmps H){t:Ty}{m:Mk}{x:t.den}{c:List Value}{F:BS}
  (rep:ag h g.Pr t m x c F) (hF:Sub F H) (hm:m.whole=true) :
  ∃g',aj h S g' tmps (fun b=>H b/\¬ F b)/\ag h g'.Pr t .no x c Nil/\g'.bG g/\Sub g.Pr g'.Pr:=
 ⟨_,st.bH F hF,ag.share t hm rep,⟨rfl,rfl,rfl⟩,fun b hb=>.inl hb⟩
theorem aj.ga{h:Array Obj}{S:St}{g:ai}{tmps:Array Value}{H:BS}(st:aj h S g tmps H)(cs:Array Value)(e:TypeId) :
  aj (h.push (.cells cs e)) S g tmps (fun b=>H b\/b=h.size):=
 st.grow (fun b hb=>rK b hb) (by simp) _ (fun b hb=>by rcases hb with hb | rfl;exact .inl hb;exact .inr ⟨bN _,by simp⟩)
theorem ag.push{h:Array Obj}{S:St}{g:ai}{tmps:Array Value}{H:BS}(st:aj h S g tmps H){t:Ty}{m:Mk}{x:t.den}{c:List Value}{F:BS}(rep:ag h g.Pr t m x c F)(hF:Sub F H)
  {o:Obj}:ag (h.push o) g.Pr t m x c F:=
 ag.mono (Sub.refl _) (fun b hb=>rK b (st.aV b hb)) t rep (Sub.refl _) (fun b hb=>rK b (st.cv b (hF b hb)))
section
variable {P:Program} {C:Ctx} {D:Den C} {S:St} {g:ai} {w:World} {tmps:Array Value} {a:Act} {ρ:Operand->AV}
variable {A:aZ} {site:Nat} {hint:Bool} (aM:e_ P C) (st:aj w.heap S g tmps Nil) (hρ:∀x,qe w.heap S g (ρ x) (a.eval x))
include aM st hρ
theorem CY{o:Oper}{x:Operand}{u:AV}(hu:ρ x=u)(ok:jk A S o.dst site){r:Result Next}(hr:r=.ok (.value (a.eval x)) w)
  (ht:aX (we A S.rt o.dst site hint u)):cV P S g w tmps (we A S.rt o.dst site hint u) r:=by
 have hx:=hρ x;rw[hu]at hx;unfold we at ht⊢;cases h1:tq S.rt u with
 | none=>rw[h1]at ht;exact absurd ht aX.fail
 | some t=>
  rw[h1]at ht;simp only at ht⊢;cases h2:tk S.rt t u with
  | none=>rw[h2]at ht;exact absurd ht aX.fail
  | some z=>
   obtain⟨m,y,cm⟩:=z;rw[h2]at ht;simp only at ht⊢;obtain⟨c,g1,F,ev,bB⟩:=qH _ st h2 hx;by_cases hh:hint=true
   .simp only[hh,aK]at ht⊢;by_cases hm:m.whole=true
    .simp only[hm,aK]at ht⊢;obtain⟨g2,s1,s2,s3,_⟩:=EN bB.st bB.rep (fun b hb=>.inr hb) hm;exact cV.value (val:=a.eval x) (w':=w) hr ⟨true,_,_,rfl,g2,s1.aN (Sub.nil _),by simp only[qe];exact⟨c,s2,ev⟩,bB.same.trans s3,.refl _ _⟩
    .rw[ax hm]at ht;exact absurd ht aX.fail
   .rw[ax hh]at ht⊢;obtain⟨⟨v,rt'⟩,hd⟩:=ht true;obtain⟨g2,s1,s2,s3⟩:=tY bB.st bB.rep (by rw[bB.same.1];exact bB.tag) (fun b hb=>.inr hb) ok hd;exact cV.value (val:=a.eval x) (w':=w) hr ⟨true,v,rt',hd,g2,s1,by rw[ev];exact s2,bB.same.trans s3,.refl _ _⟩
theorem IB{o:Oper}{x:Operand}(ho:o.op=.assign x)(ok:jk A S o.dst site):Goal P C D S g w tmps a ρ A site hint o:=by
 intro ht;simp only[aS,ho]at ht⊢;have hr:(execOp a.eval o).run P w=.ok (.value (a.eval x)) w:=by simp[execOp,ho]
 split at ht
 .rename_i r p s hv;by_cases hc:(qx p&&!hint)=true
  .simp only[hc,aK]at ht⊢;have:=hρ x;rw[hv]at this;exact cV.ret hr st this
  .simp only[hc,cL,bY]at ht⊢;exact CY aM st hρ hv ok hr ht
 .rename_i u v hv;exact CY aM st hρ hv ok hr ht
 .exact cV.ret hr st (hρ x)
theorem I3{o:Oper}{t:TypeId}(ho:o.op=.alloc t)(ok:jk A S o.dst site):Goal P C D S g w tmps a ρ A site hint o:=by
 intro ht;simp only[aS,ho]at ht⊢;by_cases hz:(C.ty t).nz=true
 .simp only[hz,aK]at ht⊢;have k:=aM t hz;obtain⟨⟨v,rt'⟩,hd⟩:=ht true;have hc:(bK (C.ty t) (zc (C.ty t))).cells=(zc (C.ty t)).toArray:=by apply jj;rw[tE]
  have s0:=st.ga (zc (C.ty t)).toArray t;obtain⟨g2,s1,s2,s3⟩:=EG (h:=w.heap.push (.cells (zc (C.ty t)).toArray t)) (c:=zc (C.ty t)) (F:=Nil) s0 (ag.zero _ _) (aA.af _ (Mk.bQ _)) (Sub.nil _)
   (b:=w.heap.size) (.inr rfl) (fun h=>h) fI.new ok hd
  refine cV.value (val:=.pointer (some ⟨w.heap.size,0,none⟩)) (w':={ w with heap:=w.heap.push (.cells (zc (C.ty t)).toArray t) }) ?_ ⟨true,v,rt',hd,g2,s1,s2,s3,gB.push _⟩;simp[execOp,ho,Instr.alloc,newVar,newRow,newObj,Sem.run_bind,k.lA,hc,Sem.run]
 .rw[ax hz]at ht;exact absurd ht aX.fail
theorem KA{o:Oper}{t:TypeId}{x:Operand}(ho:o.op=.box t x)(ok:jk A S o.dst site):Goal P C D S g w tmps a ρ A site hint o:=by
 intro ht;simp only[aS,ho]at ht⊢;by_cases hz:(C.ty t).nz=true
 .simp only[hz,aK]at ht⊢;cases h2:tk S.rt (C.ty t) (ρ x) with
  | none=>rw[h2]at ht;exact absurd ht aX.fail
  | some z=>
   obtain⟨m,y,cm⟩:=z;rw[h2]at ht;simp only at ht⊢;obtain⟨c,g1,F,ev,bB⟩:=qH _ st h2 (hρ x);have hc:(a.eval x).cells=c.toArray:=by apply jj;rw[ev,tU bB.rep]
   have hrun:(execOp a.eval o).run P w=.ok (.value (.pointer (some ⟨w.heap.size,0,none⟩))) { w with heap:=w.heap.push (.cells c.toArray t) }:=by simp[execOp,ho,Instr.box,newVar,newRow,newObj,Sem.run_bind,hc,Sem.run]
   by_cases hh:hint=true
   .simp only[hh,aK]at ht⊢;by_cases hm:m.whole=true
    .simp only[hm,aK]at ht⊢;obtain⟨⟨v,rt'⟩,hd⟩:=ht true;obtain⟨g2,s1,s2,s3,_⟩:=EN bB.st bB.rep (fun b hb=>.inr hb) hm;have s4:=(s1.aN (Sub.nil _)).ga c.toArray t;have r4:ag (w.heap.push (.cells c.toArray t)) g2.Pr (C.ty t) .no y c Nil:=ag.push (s1.aN (Sub.nil _)) s2 (Sub.nil _);obtain⟨g3,q1,q2,q3⟩:=EG s4 r4 (aA.no _ _) (Sub.nil _) (b:=w.heap.size) (.inr rfl) (fun h=>h) fI.new ok hd;exact cV.value (w':={ w with heap:=w.heap.push (.cells c.toArray t) }) hrun ⟨true,v,rt',hd,g3,q1,q2,(bB.same.trans s3).trans q3,gB.push _⟩
    .rw[ax hm]at ht;exact absurd ht aX.fail
   .rw[ax hh]at ht⊢;obtain⟨⟨v,rt'⟩,hd⟩:=ht true;have s4:=bB.st.ga c.toArray t;have r4:ag (w.heap.push (.cells c.toArray t)) g1.Pr (C.ty t) m y c F:=ag.push bB.st bB.rep (fun b hb=>.inr hb);obtain⟨g3,q1,q2,q3⟩:=EG s4 r4 (by rw[bB.same.1];exact bB.tag) (fun b hb=>.inl (.inr hb)) (b:=w.heap.size) (.inr rfl)
     (fun hb=>wo _ (bB.st.cv _ (.inr hb))) fI.new ok hd
    exact cV.value (w':={ w with heap:=w.heap.push (.cells c.toArray t) }) hrun ⟨true,v,rt',hd,g3,q1,q2,bB.same.trans q3,gB.push _⟩
 .rw[ax hz]at ht;exact absurd ht aX.fail
end
theorem s9{h:Array Obj}{S:St}{g:ai}{tmps:Array Value}{H:BS}(st:aj h S g tmps H){r:Nat}{p:Path}{R:aB}{d:Dy}{v:Value}(hR:S.root r=some R)
  (hf:focus R.ty R.ms R.x p=some d) (x:qe h S g (.addr r p) v) :
  ∃b off c,bO R.ty R.x p/\a_ h R.ty (g.C r) (g.base r) p=some (some (b,off),c)/\v=.pointer (some ⟨b,off,none⟩):=by
 simp only[qe]at x;exact⟨_,_,_,(x R hR d hf).1,(x R hR d hf).2.choose_spec.choose_spec.choose_spec.1,(x R hR d hf).2.choose_spec.choose_spec.choose_spec.2⟩
theorem A8{h h':Array Obj}{S S':St}{g g1:ai}(Q:BS):∀(a:AV),a.bT h h' S S' g g1->a.bT h h' S S' g { g1 with Pr:=Q }
 | .bu r p s,k=>k
 | .view r p s _ _,k=>k
 | .addr r p,k=>k
 | .pair a b,k=>⟨A8 Q a k.1,A8 Q b k.2⟩
 | .fO a,k=>A8 Q a k
 | .eV _ a,k=>A8 Q a k
 | .undef,_=>trivial
 | .skip,_=>trivial
 | .bA _,_=>trivial
 | .unit,_=>trivial
 | .cP,_=>trivial
 | .val _ _,_=>trivial
 | .bq _ _,_=>trivial
 | .dK _,_=>trivial
theorem Ks{h:Array Obj}{tmps:Array Value}(t:Ty){S:St}{rt':aD}{g:ai}{H:BS}{hint:Bool}{a:AV}{m:Mk}{x:t.den}{v:Value}(st:aj h S g tmps H)
  (ht:Eg S.rt hint t a=some (m,x,rt')) (y:qe h S g a v):∃c g' F,v=bK t c/\gA h S ⟨S.sl,rt'⟩ g tmps H t m x c g' F:=by
 simp only[Eg,bD]at ht;obtain⟨⟨m1,x1,cm⟩,h1,ht⟩:=ht;obtain⟨c,g1,F,ev,bB⟩:=qH t st h1 y;by_cases hh:hint=true
 .rw[aE hh]at ht;by_cases hm:m1.whole=true
  .rw[aE hm]at ht;simp only[ay,aJ]at ht;obtain⟨rfl,rfl,rfl⟩:=ht;have s1:=(bB.st.bH F (fun b hb=>.inr hb)).aN (H':=Un H Nil) (fun b hb=>by
    rcases hb with hb | hb
    .exact⟨.inl hb,fun hf=>bB.cj b hf hb⟩
    .exact hb.elim)
   exact⟨c,{ g1 with Pr:=Un g1.Pr F },Nil,ev,⟨s1,fun b hb=>.inl (bB.pr b hb),ag.share t hm bB.rep,bz.nil _,bz.nil _,fun a=>A8 _ a (bB.keeps a),bB.sl,bB.rl,aA.af _ rfl,ai.bG.trans ⟨rfl,rfl,rfl⟩ bB.same⟩⟩
  .rw[ax hm]at ht;simp at ht
 .rw[ax hh]at ht;simp only[ay,aJ]at ht;obtain⟨rfl,rfl,rfl⟩:=ht;exact⟨c,g1,F,ev,bB⟩
section
variable {P:Program} {C:Ctx} {D:Den C} {S:St} {g:ai} {w:World} {tmps:Array Value} {a:Act} {ρ:Operand->AV}
variable {A:aZ} {site:Nat} {hint:Bool} (aM:e_ P C) (st:aj w.heap S g tmps Nil) (hρ:∀x,qe w.heap S g (ρ x) (a.eval x))
include aM st hρ
theorem IZ{t:TypeId}(k:iu P C t){b off:Nat}{c:List Value}{v:Value}(hv:v.cells.toList=c)(hl:c.length=(C.ty t).width)(ht:w.there b off c.length)
  (h1:∀u∈c,u.oneCell'=true):(Instr.storeAt t (.pointer (some ⟨b,off,none⟩)) v).run P w=.ok () (w.setCells b off c):=by
 have hs:v.cells.size=(C.ty t).width:=by rw[<-dH,hv,hl]
 have:=run_storeCells_cells (P:=P) b off c 0 w (fun j hj=>by simpa using (ht j hj).1) (fun j hj=>by simpa using (ht j hj).2) h1;simp only[iG]at this;simp[Instr.storeAt,Instr.sureAddr,storeVar,Sem.run_bind,k.dz,hs,hv,this]
theorem Ji{o:Oper}{t:TypeId}{x y:Operand}(ho:o.op=.store t x y)(ok:jk A S o.dst site):Goal P C D S g w tmps a ρ A site hint o:=by
 intro ht;simp only[aS,ho]at ht⊢;by_cases hz:(C.ty t).nz=true/\A.fr=true
 .have Ht:((C.ty t).nz&&A.fr)=true:=by simp[hz.1,hz.2]
  simp only[Ht,aK]at ht⊢;obtain⟨⟨v0,rt'⟩,hy⟩:=aX.of ht;rw[hy];simp only[c5]at hy;obtain⟨cX,hst,e0⟩:=hy;simp only[aJ]at e0;obtain⟨rfl,rfl⟩:=e0;have k:=aM t hz.1;obtain⟨uB,vw⟩:=ok.fr hz.2;have hx:=hρ x;unfold sY at hst;split at hst
  .rename_i r p hv;rw[hv]at hx;simp only[bD]at hst;obtain⟨⟨m,z,cm⟩,h2,hst⟩:=hst;split at hst
   .rename_i R hR;simp only[bD]at hst;obtain⟨d,hf,hst⟩:=hst;split at hst
    .rename_i hd;obtain⟨hdt,vD⟩:=hd;simp only[bD,ay]at hst;obtain⟨⟨m',x'⟩,hput,rfl⟩:=hst;simp only at hR hf vD hput;obtain⟨c,g1,F,ev,bB⟩:=Ks _ st h2 (hρ y);have hx1:=(qe.keep bB.pr (fun _ _=>rfl) (.addr r p)).1 _ hx (bB.keeps _);obtain⟨b,off,c0,hin,cz,e⟩:=s9 bB.st hR hf hx1;obtain⟨base,Wu,F0,q1,q2,q3,q4,q5,q6⟩:=bB.st.update hR hf hin;rw[cz]at q1;simp only[ay,aJ]at q1;obtain⟨rfl,rfl⟩:=q1;obtain⟨dt,dm,dx⟩:=d;simp only at hdt;subst hdt;have hl:=ag.width _ bB.rep;have Af:=ag.width _ q2;simp only at Af;obtain⟨og,cs,jY,hfit,hsub⟩:=q4 b off rfl;have oM:=q5 b off rfl;have aQ:((⟨S.sl,cm⟩:St).root r).isSome:=by show(cm.root r).isSome=true;rw[hR];rfl
     have lR:¬ F b:=fun hb=>bB.st.hand r aQ b oM (.inr hb);have yM:¬ g1.Pr b:=fun hb=>bB.st.ck r aQ b oM hb;have bw:∀b',b'≠b->(w.setCells b off c).heap[b']? = w.heap[b']?:=fun b' hb'=>tM c off w b' hb';have mW:off+c.length<=cs.size:=by omega
     have fJ:ag (w.setCells b off c).heap g1.Pr (C.ty t) (m.stamp site) z c F:=
      (ag.stamp site _).1 (ag.mono (Sub.refl _) (fun b' hb'=>bw b' (fun e=>yM (e ▸ hb'))) _ bB.rep (Sub.refl _) (fun b' hb'=>bw b' (fun e=>lR (e ▸ hb'))))
     have gG:(m.stamp site).fresh site (site+1):=Mk.b6 site vD;obtain⟨g2,s1,s2,s3,s4,s5,s6⟩:=q6 site (site+1) (w.setCells b off c).heap (m.stamp site) z c F m' x' vw
      (fun b' _ _ hb'=>bw b' (fun e=>hb' off (by rw[e]))) (by rw[lp];exact bN _) (sJ rfl jY mW) fJ
      (fun b' hb'=>.inr (.inl (.inr hb'))) (fun b' hb'=>by rw[lp];exact bB.st.cv b' (.inr hb')) hput (Mk.cJ _ gG)
      (aA.af _ (Mk.bE uB vD)) (fun _=>Mk.bE uB vD)
      (by
       intro p' t1 n1 hp dF _;obtain⟨hi',iw⟩:=uO p' gG hp dF;refine⟨pZ _ _ hi' dF,fun bp cp ha=>?_⟩;obtain⟨fh,h3⟩:=uS (h':=(w.setCells b off c).heap) p' _ c _ hi' ha;refine⟨fh,h3,fun s a' e hs=>?_⟩;subst e;exact absurd iw hs)
     have dM:(a.eval y).cells.toList=c:=by rw[ev,tU bB.rep]
     have hrun:=IZ (w:=w) aM st hρ k dM hl (nE jY mW) (ag.one _ bB.rep);have b7:=yu (b:=b) c off w;have Sy:(execOp a.eval o).run P w=.ok .skip (w.setCells b off c):=by simp[execOp,ho,e,hrun,Sem.run_bind]
     rw[Sy];exact⟨true,.undef,_,rfl,g2,s1.aN (Sub.nil _),by simp only[qe],bB.same.trans s3,
       ⟨b7.1,b7.2.1,b7.2.2,by rw[lp];exact bN _,fun b' _ hb'=>bw b' (fun e=>hb' (by
        have:=bB.st.own r b aQ oM;rw[bB.same.2.1]at this;rw[e];exact this))⟩⟩
    .simp at hst
   .simp at hst
  .simp at hst
 .have Ht:((C.ty t).nz&&A.fr)=false:=by
   simp only[jC];by_cases h1:(C.ty t).nz=true
   .exact .inr (by simpa using fun h2=>hz ⟨h1,h2⟩)
   .exact .inl (by simpa using h1)
  simp only[Ht,cL,bY]at ht;exact absurd ht aX.fail
end
end Go.V
namespace Go.V
noncomputable section
open Go
theorem BT{l:List Value}{o:Nat}{c:List Value}(h:o+c.length<=l.length)(k:Nat):(aW l o c)[k]? = if k<o then l[k]? else if k<o+c.length then c[k-o]? else l[k]?:=by
 unfold aW;by_cases h1:k<o
 .rw[aE h1,fe,fo (by rw[dX];omega),di,aE h1]
 .rw[ax h1];by_cases h2:k<o+c.length
  .rw[aE h2,fo (by rw[cS,dX];omega),fW (by rw[dX];omega),dX,sN (by omega)]
  .rw[ax h2,fW (by rw[cS,dX];omega),cS,dX,sN (by omega),dW];congr 1;omega
def zs(t:Ty)(n:Nat):List Value:=(Builtin.zeroCells (bK t (zc t)).cells n).toList
theorem wP(t:Ty):(bK t (zc t)).cells.toList=zc t:=tE t
theorem HG(t:Ty)(n:Nat):(zs t n).length=n * t.width:=by
 have:(bK t (zc t)).cells.size=t.width:=by rw[<-dH,wP,t_]
 simp[zs,Builtin.zeroCells,this]
theorem Cl(t:Ty)(n k:Nat)(hk:k<n * t.width):(zs t n)[k]? = (zc t)[k % t.width]?:=by
 have e:(bK t (zc t)).cells.size=t.width:=by rw[<-dH,wP,t_]
 have hw:0<t.width:=by
  rcases Nat.eq_zero_or_pos t.width with h | h
  .rw[h]at hk;omega
  .exact h
 have hm:k % t.width<(bK t (zc t)).cells.size:=by rw[e];exact so _ hw
 have e2:(zc t)[k % t.width]? = some ((bK t (zc t)).cells[k % t.width]!):=by
  have h3:(bK t (zc t)).cells.toList[k % t.width]? = some ((bK t (zc t)).cells[k % t.width]!):=by rw[lK,lE hm];congr 1;exact(getElem!_pos (bK t (zc t)).cells (k % t.width) hm).symm
  rw[wP]at h3;exact h3
 rw[e2];unfold zs Builtin.zeroCells;rw[e,lK,Array.getElem?_map,lE (by rw[Array.size_range];exact hk),Array.getElem_range];rfl
theorem JF{t:Ty}{cs dL:Array Value}{lo hi:Nat}(Ss:lo<=hi)(hfit:hi * t.width<=cs.size)(e:dL.toList=aW cs.toList (lo * t.width) (zs t (hi-lo)))(i:Nat) :
  sub dL (i * t.width) t.width=if lo<=i/\i<hi then zc t else sub cs (i * t.width) t.width:=by
 have hz:(zs t (hi-lo)).length=(hi-lo) * t.width:=HG _ _;have hs:lo * t.width+(hi-lo) * t.width=hi * t.width:=by rw[<-fl];congr 1;omega
 have hf:lo * t.width+(zs t (hi-lo)).length<=cs.toList.length:=by rw[hz,hs,dH];exact hfit
 unfold sub;apply kq;intro j;rw[di,dW,e,BT hf,hz,hs];by_cases hj:j<t.width
 .rw[aE hj];by_cases h1:lo<=i/\i<hi
  .have a1:=cq t.width h1.1;have a2:=cq t.width (show i+1<=hi by omega);rw[gl]at a2;rw[aE h1,ax (by omega),aE (by omega)];have e3:i * t.width+j-lo * t.width=(i-lo) * t.width+j:=by rw[Nat.sub_mul];omega
   rw[e3,Cl]
   .rw[show(i-lo) * t.width+j=j+t.width * (i-lo) by rw[mE];omega,Nat.add_mul_mod_self_left,Nat.mod_eq_of_lt hj]
   .have:=cq t.width (show i-lo+1<=hi-lo by omega);rw[gl]at this;omega
  .rw[ax h1,di,aE hj,dW];by_cases h2:i<lo
   .have:=cq t.width (show i+1<=lo by omega);rw[gl]at this;rw[aE (by omega)]
   .have:=cq t.width (show hi<=i by omega);have:=cq t.width (show lo<=i by omega);rw[ax (by omega),ax (by omega)]
 .rw[ax hj];split
  .rw[iD];rw[t_];omega
  .rw[di,ax hj]
theorem Jv{t:Ty}{xs:List t.den}{lo hi:Nat}(h1:lo<=hi)(h2:hi<=xs.length):(rO t xs lo hi).length=xs.length:=by simp only[rO,cS,dX,jD,n7];omega
theorem Ju{t:Ty}{xs:List t.den}{lo hi:Nat}(h1:lo<=hi)(h2:hi<=xs.length)(i:Nat):(rO t xs lo hi).getD i t.zero=if lo<=i/\i<hi then t.zero else xs.getD i t.zero:=by
 unfold rO;simp only[List.getD];by_cases h:i<lo
 .rw[ax (by omega),fe,fo (by rw[dX];omega),di,aE h]
 .by_cases h3:i<hi
  .rw[aE ⟨by omega,h3⟩,fo (by simp only[cS,dX,jD];omega),fW (by rw[dX];omega),dX,sN (by omega),uk,aE (by omega)];rfl
  .rw[ax (by omega),fW (by simp only[cS,dX,jD];omega),dW];simp only[cS,dX,jD];congr 2;omega
theorem sC:∀(p:Path){t:Ty}{m:Mk}{t':Ty}{m':Mk},m.still=true->q8 t m p=some (t',m')->qx p=false/\m'.still=true
 | [],t,m,t',m',hm,h=>by simp only[q8,ay,aJ]at h;obtain⟨rfl,rfl⟩:=h;exact⟨rfl,hm⟩
 | .fst::p,t,m,t',m',hm,h=>by
  cases t with
  | pair a b=>
   simp only[q8]at h;have:m.fst.still=true:=by cases m<;>simp_all [Mk.still,Mk.fst]
   have:=sC p this h;exact⟨by simpa [qx] using this.1,this.2⟩
  | _=>simp[q8]at h
 | .snd::p,t,m,t',m',hm,h=>by
  cases t with
  | pair a b=>
   simp only[q8]at h;have:m.snd.still=true:=by cases m<;>simp_all [Mk.still,Mk.snd]
   have:=sC p this h;exact⟨by simpa [qx] using this.1,this.2⟩
  | _=>simp[q8]at h
 | .idx i s::p,t,m,t',m',hm,h=>by
  cases t with
  | sl a=>cases m<;>simp_all [q8,Mk.still]
  | _=>simp[q8]at h
theorem uQ:∀v:AV,v.aH 0 0=true
 | .addr r p=>tL p
 | .bu r p s=>by simp only[AV.aH,aO];exact⟨by cases s<;>rfl,tL p⟩
 | .view r p s _ _=>by simp only[AV.aH,aO];exact⟨by cases s<;>rfl,tL p⟩
 | .pair a b=>by simp only[AV.aH,aO];exact⟨uQ a,uQ b⟩
 | .fO a=>uQ a
 | .eV _ a=>uQ a
 | .undef=>rfl
 | .skip=>rfl
 | .bA _=>rfl
 | .unit=>rfl
 | .cP=>rfl
 | .val _ _=>rfl
 | .bq _ _=>rfl
 | .dK _=>rfl
theorem JA{w:World}{S:St}{g:ai}{tmps:Array Value}(st:aj w.heap S g tmps Nil){r:Nat}{p:Path}{R:aB}{t:Ty}{s:Nat}{m:Mk}{xs:(Ty.sl t).den}{jL:dc}{ad:Option Addr}{n cap:Nat}
  (hR:S.root r=some R) (hf:focus R.ty R.ms R.x p=some ⟨.sl t,.own s m,xs⟩) (hin:bO R.ty R.x p) (cz:a_ w.heap R.ty (g.C r) (g.base r) p=some (jL,[.slice ad n cap])) (hm:m.still=true) (hs:s<1048576)
  {lo hi:Nat} (h1:lo<hi) (h2:hi<=n) {m':Mk} {x':R.ty.den} (hput:put R.ty R.ms R.x p (.sl t) (.own s m) (rO t xs lo hi)=some (m',x')) :
  ∃b,ad=some ⟨b,0,none⟩/\g.L b/\w.there b (lo * t.width) ((hi-lo) * t.width)/\∃g',aj (w.setCells b (lo * t.width) (zs t (hi-lo))).heap (S.ak r (some { R with ms:=m',x:=x' })) g' tmps Nil/\g'.bG g:=by
 obtain⟨base,c,F,q1,q2,q3,q4,q5,q6⟩:=st.update hR hf hin;rw[cz]at q1;simp only[ay,aJ]at q1;obtain⟨rfl,rfl⟩:=q1;have S8:=q2;simp only[ag]at q2;obtain⟨Rw,cap',e0,hl,hr⟩:=q2;simp only[dj,Value.slice.injEq,f_]at e0;obtain⟨rfl,rfl,rfl⟩:=e0;rcases hr with hr | ⟨b,cs,rfl,fb,hb,hsz,Fs,jN,hd,re⟩
 .omega
 have aQ:(S.root r).isSome:=by rw[hR];rfl
 have oM:=q3 b fb;have AL:(zs t (hi-lo)).length=(hi-lo) * t.width:=HG _ _;have G9:lo * t.width+(hi-lo) * t.width=hi * t.width:=by rw[<-fl];congr 1;omega
 have kR:hi * t.width<=cs.size:=jH (cq _ (by omega)) hsz;have hfit:lo * t.width+(zs t (hi-lo)).length<=cs.size:=by rw[AL,G9];exact kR
 have bw:∀b',b'≠b->(w.setCells b (lo * t.width) (zs t (hi-lo))).heap[b']? = w.heap[b']?:=fun b' hb'=>tM _ _ w b' hb';obtain⟨dL,jZ,oI⟩:=sJ (w:=w) (base:=some (b,lo * t.width)) (c2:=zs t (hi-lo)) rfl hb hfit b (lo * t.width) rfl cs hb;have j4:dL.size=cs.size:=by rw[<-dH,oI,tP (by rw[dH];exact hfit),dH]
 have hsub:=JF (t:=t) (wq h1) kR oI;have yM:¬ g.Pr b:=fun hb'=>st.ck r aQ b oM hb';have iW:(Mk.own s m).af=true:=by simp only[Mk.af,aO];exact⟨ko hs,Mk.fc hm⟩
 have hlen:(rO t xs lo hi).length=xs.length:=Jv (wq h1) h2;have fJ:ag (w.setCells b (lo * t.width) (zs t (hi-lo))).heap g.Pr (.sl t) (.own s m) (rO t xs lo hi) [.slice (some ⟨b,0,none⟩) xs.length cap] F:=by
  simp only[ag];refine⟨_,cap,by rw[hlen],by rw[hlen];exact hl,.inr ⟨b,dL,rfl,fb,jZ,by rw[j4];exact hsz,Fs,jN,hd,fun i hi'=>?_⟩⟩;rw[Ju (wq h1) h2,hsub];by_cases hz:lo<=i/\i<hi
  .rw[aE hz,aE hz];exact ag.mono (Sub.refl _) (fun _ _=>rfl) _ (ag.zero t m) (Sub.nil _) (fun _ _=>rfl)
  .rw[ax hz,ax hz];exact ag.mono (Sub.refl _) (fun b' hb'=>bw b' (fun e=>yM (e ▸ hb'))) _ (re i (by rw[hlen]at hi';exact hi')) (Sub.refl _) (fun b' hb'=>bw b' (fun e=>(jN i).2 (e ▸ hb')))
 obtain⟨g2,s1,s2,s3,s4,s5,s6⟩:=q6 0 0 (w.setCells b (lo * t.width) (zs t (hi-lo))).heap (.own s m) (rO t xs lo hi) [.slice (some ⟨b,0,none⟩) xs.length cap] F m' x'
  (fun u=>uQ _) (fun b' _ hb' _=>bw b' (fun e=>hb' (e ▸ fb))) (by rw[lp];exact bN _)
  (by
   intro b' o e cs' ju;obtain⟨og,N8,o5,kS,kW⟩:=q4 b' o e;have hne:b'≠b:=fun e=>og (e ▸ fb);refine⟨cs',ju.congr (bw b' hne),?_⟩;have:=ju.uniq o5;subst this;have hr:=sI (c:=cs'.toList) (n:=o) (k:=1) (by rw[dH];exact kS);have mY:(cs'.toList.drop o).take 1=[Value.slice (some ⟨b,0,none⟩) xs.length cap]:=kW;rw[mY]at hr;exact hr.symm)
  fJ (fun b' hb'=>.inl hb') (fun b' hb'=>by rw[lp];exact st.bk r b' aQ (q3 b' hb')) hput (Mk.cE 0 0 _)
  (aA.af _ iW) (fun _=>iW)
  (by
   intro p' t1 n1 _ dF hi';cases p' with
   | nil=>refine⟨trivial,fun bp cp ha=>⟨cp,?_,fun _ _ _ _=>rfl⟩⟩;simp only[a_]at ha⊢;exact ha
   | cons x p'=>
    cases x with
    | fst=>simp[q8]at dF
    | snd=>simp[q8]at dF
    | idx i s'=>
     simp only[q8]at dF;split at dF
     .obtain⟨rZ,iw⟩:=sC p' hm dF;simp only[bO]at hi';refine⟨?_,fun bp cp ha=>?_⟩
      .simp only[bO];exact⟨by rw[hlen];exact hi'.1,pZ p' _ rZ dF⟩
      .obtain⟨e1,l1,u1,Gx,_⟩:=hb;obtain⟨e2,l2,u2,nu,_⟩:=jZ;simp only[a_,Gx]at ha;obtain⟨fh,h3⟩:=uS (h':=(w.setCells b (lo * t.width) (zs t (hi-lo))).heap) p' _ (sub dL (i * t.width) t.width) _ rZ ha;refine⟨fh,by simp only[a_,nu];exact h3,fun s4 a4 e4 _=>?_⟩;rw[e4]at iw;simp[Mk.still]at iw
     .simp at dF)
 exact⟨b,rfl,st.own r b aQ oM,nE hb (by rw[<-AL];exact hfit),g2,s1.aN (Sub.nil _),s3⟩
section
variable {P:Program} {C:Ctx} {D:Den C} {S:St} {g:ai} {w:World} {tmps:Array Value} {a:Act} {ρ:Operand->AV}
variable {A:aZ} {site:Nat} {hint:Bool} (aM:e_ P C) (st:aj w.heap S g tmps Nil) (hρ:∀x,qe w.heap S g (ρ x) (a.eval x))
include aM st hρ
theorem Jz{t u:TypeId}{e:Ty}(h1:P.underlying t=some (.slice u))(h2:C.ty u=e)(h3:(C.ty u).nz=true){b o n k:Nat}(hn:0<n)(ht:w.there b o (n * e.width))(ty:TypeId)(more:List TypeId)(args:Array TypeId)(ha:args[0]? = some t) :
  (Builtin.clear_ args ty #[.slice (some ⟨b,o,none⟩) n k]).run P w=.ok (.tuple #[]) (w.setCells b o (zs e n)):=by
 subst h2;have ku:=aM u h3;have hl:=HG (C.ty u) n;have h1c:∀v∈zs (C.ty u) n,v.oneCell'=true:=by intro v hv;obtain⟨i,hi,rfl⟩:=jg.1 hv;have:=Cl (C.ty u) n i (by rw[<-hl];exact hi);rw[gv hi]at this;exact ag.one _ (ag.zero (h:=#[]) (Pr:=Nil) (C.ty u) .no) _ (List.mem_of_getElem? this.symm)
 have:=run_storeCells_cells (P:=P) b o (zs (C.ty u) n) 0 w (fun j hj=>by simpa using (ht j (by rw[<-hl];exact hj)).1) (fun j hj=>by simpa using (ht j (by rw[<-hl];exact hj)).2) h1c;simp only[iG]at this;obtain⟨n',rfl⟩:∃n',n=n'+1:=⟨n-1,by omega⟩
 have e0:(Builtin.zeroCells (bK (C.ty u) (zc (C.ty u))).cells (n'+1)).toList=zs (C.ty u) (n'+1):=rfl;simp[Builtin.clear_,ha,run_underlying h1,ku.lA,Sem.run_bind,e0,this]
theorem Jy{o:Oper}{c:Call}{x:Operand}{t:TypeId}{e:Ty}(ho:o.op=.call c)(hc:c.callee=.builtin .clear)(hargs:c.args = #[x])
  (h0:c.argTypes[0]? = some t) (hT:C.ty t=.sl e) (ht:aX (pV S.rt e (ρ x))):cV P S g w tmps (pV S.rt e (ρ x)) ((execOp a.eval o).run P w):=by
 have hx:=hρ x;unfold pV at ht⊢;cases hv:ρ x with
 | view r p s lo hi=>
  rw[hv]at hx ht;simp only at ht⊢;cases hR:S.rt.root r with
  | none=>rw[hR]at ht;exact absurd ht aX.fail
  | some R=>
   rw[hR]at ht;simp only at ht⊢;cases hf:focus R.ty R.ms R.x p with
   | none=>rw[hf]at ht;exact absurd ht aX.fail
   | some d=>
    obtain⟨dt,dm,dx⟩:=d;cases dt with
    | sl e'=>
     cases dm with
     | own s' m=>
      rw[hf]at ht;simp only at ht⊢;by_cases hs:s=s'/\e=e'/\m.still=true/\s'<1048576
      .simp only[aE hs]at ht⊢;obtain⟨rfl,rfl,hm,G8⟩:=hs;cases hput:put R.ty R.ms R.x p (.sl e) (.own s m) (rO e dx lo hi) with
       | none=>rw[hput]at ht;exact absurd ht aX.fail
       | some r'=>
        simp only;obtain⟨u,h1,h2,h3⟩:=aM.desc hT;simp only[qe]at hx;obtain⟨hin,base,ad,n,cap,cz,Ss,Si,ev⟩:=hx R hR e m dx hf;by_cases hlt:lo<hi
        .obtain⟨b,rfl,GB,uF,g',st',hsame⟩:=JA (m':=r'.1) (x':=r'.2) st hR hf hin cz hm G8 hlt Si hput;have Hj:w.there b (lo * e.width) ((hi-lo) * e.width):=uF;have F9:(if cap=lo then (some ⟨b,0,none⟩:Option Addr) else (some ⟨b,0,none⟩:Option Addr).map (·.add (lo * e.width)))=some ⟨b,lo * e.width,none⟩:=by
          have:n<=cap:=by obtain⟨base',c',F,q1,q2,_⟩:=st.update hR hf hin;rw[cz]at q1;simp only[ay,aJ]at q1;obtain⟨rfl,rfl⟩:=q1;simp only[ag]at q2;obtain⟨_,_,e0,hl,_⟩:=q2;simp only[dj,Value.slice.injEq,f_]at e0;omega
          rw[ax (by omega)];simp[Addr.add_mid]
         rw[F9]at ev;have hrun:=Jz (w:=w) aM st hρ h1 h2 h3 (k:=cap-lo) (show 0<hi-lo by omega) Hj o.type [] c.argTypes h0;have b7:=yu (b:=b) (zs e (hi-lo)) (lo * e.width) w;refine cV.value (val:=.tuple #[]) (w':=w.setCells b (lo * e.width) (zs e (hi-lo))) ?_ ⟨true,.undef,_,by simp only[Tr.dec,bJ hlt],g',st',by simp only[qe],hsame,⟨b7.1,b7.2.1,b7.2.2,by rw[lp];exact bN _,fun b' _ hb'=>tM _ _ w b' (fun e=>hb' (e ▸ GB))⟩⟩;simp[execOp,ho,resolve,hc,invoke,builtin,hargs,ev,hrun,Sem.run_bind]
        .have GK:hi-lo=0:=by omega
         rw[GK]at ev;refine cV.value (val:=.tuple #[]) (w':=w) ?_ ⟨true,.undef,_,by simp only[Tr.dec,c6 hlt],Post.same st (by simp only[qe])⟩;have gZ:(Builtin.clear_ c.argTypes o.type #[a.eval x]).run P w=.ok (.tuple #[]) w:=by rw[ev];cases hh:(if cap=lo then ad else ad.map (·.add (lo * e.width)))<;>simp[Builtin.clear_,h0,run_underlying h1,Sem.run_bind]
         simp[execOp,ho,resolve,hc,invoke,builtin,hargs,gZ,Sem.run_bind]
      .rw[ax hs]at ht;exact absurd ht aX.fail
     | _=>rw[hf]at ht;exact absurd ht aX.fail
    | _=>rw[hf]at ht;exact absurd ht aX.fail
 | _=>rw[hv]at ht;exact absurd ht aX.fail
end
end
end Go.V
namespace Go.V
noncomputable section
open Go
theorem CD(off:Nat):∀(l:List Value)(k:Nat)(cs:Array Value),off+k+l.length<=cs.size->
  ((l.zipIdx k).foldl (fun cs p=>cs.setIfInBounds (off+p.2) p.1) cs).toList=aW cs.toList (off+k) l
 | [],k,cs,_=>by simp[aW]
 | v::l,k,cs,h=>by
  simp only[g9]at h;rw[List.zipIdx_cons,n9,CD off l (k+1) _ (by simp;omega),Cz];exact CU (by simp;omega)
theorem CC{off:Nat}{v:Value}{cs:Array Value}(h:off+v.cells.size<=cs.size) :
  (v.cells.zipIdx.foldl (fun cs (c,j)=>cs.setIfInBounds (off+j) c) cs).toList=aW cs.toList off v.cells.toList:=by
 rw[<-xF,Array.toList_zipIdx];exact CD off v.cells.toList 0 cs (by simpa using h)
def Kp(h:Array Obj)(S:St)(g:ai)(S':St)(g':ai):Prop:=∀u v,qe h S g u v->qe h S' g' u v
theorem Kp.refl{h:Array Obj}{S:St}{g:ai}:Kp h S g S g:=fun _ _ x=>x
theorem Kp.trans{h:Array Obj}{S S' oE:St}{g g' nk:ai}(x:Kp h S g S' g')(y:Kp h S' g' oE nk):Kp h S g oE nk:=fun u v z=>y u v (x u v z)
theorem gA.kp{h:Array Obj}{S S':St}{g g':ai}{tmps:Array Value}{H F:BS}{t:Ty}{m:Mk}{x:t.den}{c:List Value}(k:gA h S S' g tmps H t m x c g' F):Kp h S g S' g':=
 fun u v y=>(qe.keep k.pr (fun _ _=>rfl) u).1 v y (k.keeps u)
theorem y5{h:Array Obj}{S:St}{g:ai}{tmps:Array Value}{H:BS}(st:aj h S g tmps H)(D:BS):Kp h S g S { g with Pr:=Un g.Pr D }:=by
 intro u v y;refine(qe.keep (g':={ g with Pr:=Un g.Pr D }) (fun b hb=>Or.inl hb) (fun _ _=>rfl) u).1 v y (AV.ct (fun r p=>?_) (fun r p s=>?_) u)
 .exact(jm (g':={ g with Pr:=Un g.Pr D }) st (.inl rfl) rfl rfl (fun _ _ _=>rfl)).1 p
 .exact(jm (g':={ g with Pr:=Un g.Pr D }) st (.inl rfl) rfl rfl (fun _ _ _=>rfl)).2 p s
theorem B4{C:Ctx}{h:Array Obj}{tmps:Array Value}{sl:List AV}{T:Ty}{fs:List Field}{place:Nat->Option (Nat×Nat)}
  (hs:iM C fs 0 T) (j0:∀i fd,fs[i]? = some fd->place i=some (fd.offset,(C.ty fd.type).width)) (ev:Operand->Value) :
  ∀(l:List (Nat×Operand))(rt:aD)(g:ai)(H F:BS)(m:Mk)(x:T.den)(cells:List Value)(ρ:Operand->AV)(m':Mk)(x':T.den)(rt':aD),
   aj h ⟨sl,rt⟩ g tmps H->ag h g.Pr T m x cells F->Sub F H->aA g.hd T m cells->(∀x,qe h ⟨sl,rt⟩ g (ρ x) (ev x))->
   jT rt T (m,x) (l.map fun p=>(p.1,ρ p.2))=some (m',x',rt')->
   ∃g' H' F' cells',aj h ⟨sl,rt'⟩ g' tmps H'/\ag h g'.Pr T m' x' cells' F'/\Sub F' H'/\aA g'.hd T m' cells'/\g'.bG g/\
    Instr.fill place cells.toArray (l.map fun p=>(p.1,ev p.2))=some cells'.toArray
 | [],rt,g,H,F,m,x,cells,ρ,m',x',rt',st,rep,hF,iX,hρ,hb=>by
  simp only[kz,jT,ay,aJ]at hb;obtain⟨rfl,rfl,rfl⟩:=hb;exact⟨g,H,F,cells,st,rep,hF,iX,.refl _,rfl⟩
 | (i,op)::l,rt,g,H,F,m,x,cells,ρ,m',x',rt',st,rep,hF,iX,hρ,hb=>by
  simp only[dn,jT,bD]at hb;obtain⟨d,hf,⟨m1,x1,cm⟩,h2,⟨m2,x2⟩,hput,hb⟩:=hb;obtain⟨fd,q1,q2,q3,q4,q5⟩:=FK i hs hf;obtain⟨c1,g1,F1,e1,bB⟩:=qH (S:=⟨sl,rt⟩) _ st h2 (hρ op);have j8:ag h g1.Pr T m x cells F:=ag.mono bB.pr (fun _ _=>rfl) T rep (Sub.refl _) (fun _ _=>rfl);obtain⟨base',c',F2,Fr,z⟩:=zip (e6 i) _ _ _ cells F none d j8 hf (pZ _ _ q5 (nT _ hf)) (fun b o e=>by simp at e);obtain⟨eb,ec,F4⟩:=z.plain q5;have jl:=ag.width _ bB.rep;have jX:bz F1 Fr:=fun b hb ek=>bB.cj b hb (hF b (z.fr b ek));obtain⟨F3,D3,s3,sd,d3,r3⟩:=z.n5 h g1.Pr m1 x1 c1 F1 m2 x2 (Sub.refl _) (fun _ _=>rfl) (fun _ _ _=>rfl) (by rw[eb];intro b o e;simp at e) bB.rep jX hput;have GF:(if qx (e6 i)=true then cells else aW cells (cB T (e6 i)) c1)=aW cells (cB T (e6 i)) c1:=by rw[ax (by simp[q5])]
  rw[GF]at r3;have hin:∀b,Fr b\/F1 b->Un H F1 b:=by
   rintro b (hb | hb)
   .exact .inl (hF b (z.fr b hb))
   .exact .inr hb
  have kg:=bB.st.bH D3 (fun b hb=>hin b (sd b hb));have hoff:fd.offset=cB T (e6 i):=by omega
  have Hg:aA g1.hd T m2 (aW cells (cB T (e6 i)) c1):=by
   have:=aA.put (hd:=g1.hd) (e6 i) hput (by rw[bB.same.1];exact iX) (by rw[bB.same.1];exact bB.tag) (fun h=>by rw[q5]at h;simp at h) (ag.width _ rep) jl
   rwa [ax (by simp[q5])]at this
  obtain⟨g',H',F',cells',k1,k2,k3,k4,k5,k6⟩:=B4 hs j0 ev l cm _ _ F3 m2 x2 _ ρ m' x' rt' kg r3
   (fun b hb=>⟨hin b (s3 b hb),fun ek=>d3 b hb ek⟩) Hg (fun x=>y5 bB.st D3 _ _ (bB.kp _ _ (hρ x))) hb
  refine⟨g',H',F',cells',k1,k2,k3,k4,bB.same.trans (ai.bG.trans ⟨rfl,rfl,rfl⟩ k5),?_⟩;have dM:(ev op).cells.toList=c1:=by rw[e1,tU bB.rep]
  have hsize:(ev op).cells.size=(C.ty fd.type).width:=by rw[<-dH,dM,jl,q2]
  simp only[dn,Instr.fill,j0 i fd q1];have oV:fd.offset+(ev op).cells.size<=cells.toArray.size:=by rw[hsize,<-q2,hoff];simpa using F4
  have gF:((decide ((ev op).cells.size≠(C.ty fd.type).width))||decide (fd.offset+(ev op).cells.size>cells.toArray.size))=false:=by simp only[Bool.or_eq_false_iff,iB];exact⟨fun h=>h hsize,by omega⟩
  have gE:(ev op).cells.zipIdx.foldl (fun cs (c,j)=>cs.setIfInBounds (fd.offset+j) c) cells.toArray=(aW cells (cB T (e6 i)) c1).toArray:=by apply jj;rw[CC oV,dM,hoff]
  rw[gE];have:(if (decide ((ev op).cells.size≠(C.ty fd.type).width)||decide (fd.offset+(ev op).cells.size>cells.toArray.size))=true then (none:Option (Array Value))
    else Instr.fill place (aW cells (cB T (e6 i)) c1).toArray (l.map fun p=>(p.1,ev p.2)))=some cells'.toArray:=by
   rw[gF];exact k6
  exact this
theorem Ci{P:Program}{C:Ctx}(aM:e_ P C):∀(fs:List Field)(off:Nat)(T:Ty),iM C fs off T->
  fs.mapM (fun f=>(P.info? f.type).map fun i=>(f.offset,i.size))=some (fs.map fun f=>(f.offset,(C.ty f.type).width))
 | [],_,_,_=>rfl
 | f::fs,off,T,h=>by
  simp only[iM]at h;obtain⟨b,rfl,h1,_,h2,h3⟩:=h;obtain⟨i,q1,q2,_⟩:=(aM f.type h2).info;simp only[List.mapM_cons,q1,cr,Option.bind_eq_bind,bX,Ci aM fs _ b h3,Option.pure_def,dn,q2]
section
variable {P:Program} {C:Ctx} {D:Den C} {S:St} {g:ai} {w:World} {tmps:Array Value} {a:Act} {ρ:Operand->AV}
variable {A:aZ} {site:Nat} {hint:Bool} (aM:e_ P C) (st:aj w.heap S g tmps Nil) (hρ:∀x,qe w.heap S g (ρ x) (a.eval x))
include aM st hρ
theorem IV{o:Oper}{t:TypeId}{parts:Array (Nat×Operand)}(ho:o.op=.build t parts)(ok:jk A S o.dst site):Goal P C D S g w tmps a ρ A site hint o:=by
 intro ht;simp only[aS,ho]at ht⊢;by_cases yV:((C.ty t).nz&&(C.ty t).agg)=true
 .have hz:(C.ty t).nz=true:=by simp only[aO]at yV;exact yV.1
  have Oj:(C.ty t).agg=true:=by simp only[aO]at yV;exact yV.2
  simp only[yV,aK]at ht⊢;cases hb:jT S.rt (C.ty t) (Mk.rR hint (C.ty t),(C.ty t).zero) (parts.toList.map fun p=>(p.1,ρ p.2)) with
  | none=>rw[hb]at ht;exact absurd ht aX.fail
  | some z=>
   obtain⟨m,y,cm⟩:=z;rw[hb]at ht;simp only at ht⊢;obtain⟨⟨v,rt'⟩,hd⟩:=ht true;have hp:∃ta tb,C.ty t=.pair ta tb:=by
    cases hT:C.ty t with
    | pair ta tb=>exact⟨ta,tb,rfl⟩
    | unit=>rw[hT]at hz;simp[Ty.nz]at hz
    | _=>rw[hT]at Oj;simp[Ty.agg]at Oj
   .obtain⟨ta,tb,hT⟩:=hp;obtain⟨fs,h1,h2⟩:=aM.pair hT;rw[<-hT]at h2;have j0:∀(i:Nat)(fd:Field),fs.toList[i]? = some fd->((fs.toList.map fun f=>(f.offset,(C.ty f.type).width)).toArray[·]?) i=some (fd.offset,(C.ty fd.type).width):=by intro i fd h;simp only[List.getElem?_toArray,xX,h,cr]
    obtain⟨g',H',F',cells',k1,k2,k3,k4,k5,k6⟩:=B4 (sl:=S.sl) h2 j0 a.eval parts.toList S.rt g Nil Nil (Mk.rR hint (C.ty t)) (C.ty t).zero (zc (C.ty t)) ρ m y cm
     st (ag.zero _ _) (Sub.nil _) (aA.af _ (Mk.lB _ _)) hρ hb
    obtain⟨g2,s1,s2,s3⟩:=tY k1 k2 k4 k3 ok hd;obtain⟨it,i1,i2,i3,_⟩:=(aM t hz).info;have vp:P.built t (parts.toList.map fun p=>(p.1,a.eval p.2))=some cells'.toArray:=by
     unfold Program.built;simp only[i1,h1,i3,Ci aM fs.toList 0 _ h2];have:(bK (C.ty t) (zc (C.ty t))).cells=(zc (C.ty t)).toArray:=by apply jj;rw[tE]
     rw[this];exact k6
    have hrun:=run_build (P:=P) w t (parts.map fun p=>(p.1,a.eval p.2)) cells'.toArray (by simpa using vp);refine cV.value (val:=bK (C.ty t) cells') (w':=w) ?_ ⟨true,v,rt',hd,g2,s1,s2,k5.trans s3,.refl _ _⟩;have:bK (C.ty t) cells'=.agg cells'.toArray:=by rw[hT];rfl
    rw[this];simp[execOp,ho,hrun,Sem.run_bind]
 .rw[ax yV]at ht;exact absurd ht aX.fail
end
end
structure El (h:Array Obj) (Pr:BS) (e:Ty) (mi:Mk) (xs:List e.den) (cells:List Value) (Fs:Nat->BS):Prop where
 rep:∀i,i<xs.length->ag h Pr e mi (xs.getD i e.zero) ((cells.drop (i * e.width)).take e.width) (Fs i)
 cj:∀i j,i≠j->bz (Fs i) (Fs j)
theorem El.mono{h h':Array Obj}{Pr dD:BS}{e:Ty}{mi:Mk}{xs:List e.den}{cells:List Value}{Fs:Nat->BS}(k:El h Pr e mi xs cells Fs)(hp:Sub Pr dD)
  (hY:∀b,Pr b->h'[b]? = h[b]?) (hk:∀i b,Fs i b->h'[b]? = h[b]?):El h' dD e mi xs cells Fs:=
 ⟨fun i hi=>ag.mono hp hY e (k.rep i hi) (Sub.refl _) (fun b hb=>hk i b hb),k.cj⟩
theorem El.aG{h:Array Obj}{Pr:BS}{e:Ty}{w m:Mk}{xs:List e.den}{cells:List Value}{Fs:Nat->BS}(hw:w.aG m=true)(k:El h Pr e m xs cells Fs) :
  ∃(oB:Nat->BS)(D:BS),(∀i,Sub (oB i) (Fs i))/\(∀b,D b->∃i,Fs i b)/\(∀i,bz (oB i) D)/\El h (Un Pr D) e w xs cells oB:=by
 have key:∀i,∃F1 F2:BS,Sub F1 (Fs i)/\Sub F2 (Fs i)/\bz F1 F2/\
   (i<xs.length->ag h (fun b=>Pr b\/F2 b) e w (xs.getD i e.zero) ((cells.drop (i * e.width)).take e.width) F1):=by
  intro i;by_cases hi:i<xs.length
  .obtain⟨F1,F2,s1,s2,dd,rr⟩:=ag.aG e hw (k.rep i hi);exact⟨F1,F2,s1,s2,dd,fun _=>rr⟩
  .exact⟨Nil,Nil,Sub.nil _,Sub.nil _,bz.nil _,fun h=>absurd h hi⟩
 obtain⟨F1,key⟩:=mN key;obtain⟨F2,key⟩:=mN key;refine⟨F1,fun b=>∃i,F2 i b,fun i=>(key i).1,fun b ⟨i,hb⟩=>⟨i,(key i).2.1 b hb⟩,?_,?_,?_⟩
 .rintro i b hb ⟨j,hj⟩;by_cases e:i=j
  .subst e;exact(key i).2.2.1 b hb hj
  .exact k.cj i j e b ((key i).1 b hb) ((key j).2.1 b hj)
 .intro i hi;exact ag.mono (fun b hb=>hb.imp id fun hb=>⟨i,hb⟩) (fun _ _=>rfl) e ((key i).2.2.2 hi) (Sub.refl _) (fun _ _=>rfl)
 .intro i j e;exact(k.cj i j e).mono (key i).1 (key j).1
theorem El.row{h:Array Obj}{Pr:BS}{e:Ty}{mi:Mk}{xs:List e.den}{cells:List Value}{Fs:Nat->BS}(k:El h Pr e mi xs cells Fs){b:Nat}{cs:Array Value}(hb:fI h b cs)
  {cap:Nat} (hcap:cap * e.width<=cs.size) (hl:xs.length<=cap) (hcs:∀i,i<xs.length->sub cs (i * e.width) e.width=(cells.drop (i * e.width)).take e.width)
  (hF:∀i,¬ Fs i b) (s:Nat):ag h Pr (.sl e) (.own s mi) xs [.slice (some ⟨b,0,none⟩) xs.length cap] (fun z=>z=b\/∃i,Fs i z):=by
 simp only[ag];exact⟨_,cap,rfl,hl,.inr ⟨b,cs,rfl,.inl rfl,hb,hcap,Fs,fun i=>⟨fun z hz=>.inr ⟨i,hz⟩,hF i⟩,k.cj,fun i hi=>by rw[hcs i hi];exact k.rep i hi⟩⟩
theorem S_{α:Type}(l:List α)(k i:Nat)(x d:α)(hk:k<l.length):(l.set k x).getD i d=if i=k then x else l.getD i d:=by
 simp only[List.getD,jF];by_cases e:k=i
 .subst e;simp[hk]
 .have:¬ i=k:=fun h=>e h.symm;simp[e,this]
theorem Ch{h:Array Obj}{tmps:Array Value}{sl:List AV}{e:Ty}(ev:Operand->Value) :
  ∀(l:List (Nat×Operand))(rt:aD)(g:ai)(H:BS)(Fs:Nat->BS)(m:Mk)(xs:List e.den)(cells:List Value)(ρ:Operand->AV)(m':Mk)(xs':List e.den)(rt':aD),
   aj h ⟨sl,rt⟩ g tmps H->El h g.Pr e m xs cells Fs->(∀i,Sub (Fs i) H)->cells.length=xs.length * e.width->(∀x,qe h ⟨sl,rt⟩ g (ρ x) (ev x))->
   m6 rt e (m,xs) (l.map fun p=>(p.1,ρ p.2))=some (m',xs',rt')->
   ∃g' H' oB cells',aj h ⟨sl,rt'⟩ g' tmps H'/\El h g'.Pr e m' xs' cells' oB/\(∀i,Sub (oB i) H')/\cells'.length=xs'.length * e.width/\xs'.length=xs.length/\g'.bG g/\
    Instr.fill (fun i=>some (i * e.width,e.width)) cells.toArray (l.map fun p=>(p.1,ev p.2))=some cells'.toArray
 | [],rt,g,H,Fs,m,xs,cells,ρ,m',xs',rt',st,el,hF,hlen,hρ,hb=>by
  simp only[kz,m6,ay,aJ]at hb;obtain⟨rfl,rfl,rfl⟩:=hb;exact⟨g,H,Fs,cells,st,el,hF,hlen,rfl,.refl _,rfl⟩
 | (k,op)::l,rt,g,H,Fs,m,xs,cells,ρ,m',xs',rt',st,el,hF,hlen,hρ,hb=>by
  simp only[dn,m6]at hb;split at hb
  .rename_i hk;simp only[bD]at hb;obtain⟨⟨m1,x1,cm⟩,h2,hb⟩:=hb;obtain⟨c1,g1,F1,e1,bB⟩:=qH (S:=⟨sl,rt⟩) _ st h2 (hρ op);have jl:=ag.width _ bB.rep;obtain⟨fE,jR⟩:=Mk.c8 m m1;obtain⟨oB,D,q1,q2,q3,q4⟩:=(el.mono bB.pr (fun _ _=>rfl) (fun _ _ _=>rfl)).aG fE;obtain⟨Fa,Fb,p1,p2,p3,p4⟩:=ag.aG e jR bB.rep;have hin:∀b,(D b\/Fb b)->Un H F1 b:=by
    rintro b (hb' | hb')
    .obtain⟨i,hi⟩:=q2 b hb';exact .inl (hF i b hi)
    .exact .inr (p2 b hb')
   have kg:=bB.st.bH (fun b=>D b\/Fb b) hin;have hfit:k * e.width+c1.length<=cells.length:=by rw[jl,hlen];have:=cq e.width (show k+1<=xs.length by exact hk);rw[gl]at this;exact this
   let kH:Nat->BS:=fun i=>if i=k then Fa else oB i
   have yN:∀i,bz F1 (Fs i):=fun i b aU ek=>bB.cj b aU (hF i b ek);have qV:El h (Un g1.Pr fun b=>D b\/Fb b) e (m.meet m1) (xs.set k x1) (aW cells (k * e.width) c1) kH:=by
    refine⟨fun i hi=>?_,fun i j hij=>?_⟩
    .rw[kr]at hi;rw[S_ _ _ _ _ _ hk];by_cases hik:i=k
     .subst hik;simp only[aK,kH];have hsame:=IY hfit;rw[jl]at hsame;rw[hsame];exact ag.mono (fun b hb'=>hb'.imp id .inr) (fun _ _=>rfl) e p4 (Sub.refl _) (fun _ _=>rfl)
     .simp only[ax hik,kH];rw[wR hfit (by
       rw[jl];rcases sP i k with h3 | h3
       .left;have:=cq e.width (show i+1<=k by exact h3);rw[gl]at this;exact this
       .right;have:=cq e.width (show k+1<=i by omega);rw[gl]at this;exact this)]
      exact ag.mono (fun b hb'=>hb'.imp id .inl) (fun _ _=>rfl) e (q4.rep i hi) (Sub.refl _) (fun _ _=>rfl)
    .intro b aU ek;simp only[kH]at aU ek;by_cases h1:i=k
     .rw[aE h1]at aU;rw[ax (fun h=>hij (h1.trans h.symm))]at ek;exact yN j b (p1 b aU) (q1 j b ek)
     .rw[ax h1]at aU;by_cases h2:j=k
      .rw[aE h2]at ek;exact yN i b (p1 b ek) (q1 i b aU)
      .rw[ax h2]at ek;exact q4.cj i j hij b aU ek
   have nq:∀i,Sub (kH i) (fun b=>Un H F1 b/\¬ (D b\/Fb b)):=by
    intro i b hb';simp only[kH]at hb';split at hb'
    .refine⟨.inr (p1 b hb'),?_⟩;rintro(h3 | h3)
     .obtain⟨j,hj⟩:=q2 b h3;exact yN j b (p1 b hb') hj
     .exact p3 b hb' h3
    .refine⟨.inl (hF i b (q1 i b hb')),?_⟩;rintro(h3 | h3)
     .exact q3 i b hb' h3
     .exact yN i b (p2 b h3) (q1 i b hb')
   obtain⟨g',H',Ru,cells',k1,k2,k3,k4,k5,k6,k7⟩:=Ch ev l cm _ _ kH (m.meet m1) (xs.set k x1) (aW cells (k * e.width) c1) ρ m' xs' rt' kg qV nq
    (by rw[tP hfit,kr,hlen]) (fun x=>y5 bB.st _ _ _ (bB.kp _ _ (hρ x))) hb
   refine⟨g',H',Ru,cells',k1,k2,k3,k4,by rw[k5,kr],bB.same.trans (ai.bG.trans ⟨rfl,rfl,rfl⟩ k6),?_⟩;have dM:(ev op).cells.toList=c1:=by rw[e1,tU bB.rep]
   have hsize:(ev op).cells.size=e.width:=by rw[<-dH,dM,jl]
   simp only[dn,Instr.fill];have oV:k * e.width+(ev op).cells.size<=cells.toArray.size:=by rw[hsize];have:=hfit;rw[jl]at this;simpa using this
   have gF:((decide ((ev op).cells.size≠e.width))||decide (k * e.width+(ev op).cells.size>cells.toArray.size))=false:=by simp only[Bool.or_eq_false_iff,iB];exact⟨fun h=>h hsize,by omega⟩
   have gE:(ev op).cells.zipIdx.foldl (fun cs (c,j)=>cs.setIfInBounds (k * e.width+j) c) cells.toArray=(aW cells (k * e.width) c1).toArray:=by apply jj;rw[CC oV,dM]
   rw[gE];have:(if (decide ((ev op).cells.size≠e.width)||decide (k * e.width+(ev op).cells.size>cells.toArray.size))=true then (none:Option (Array Value))
     else Instr.fill (fun i=>some (i * e.width,e.width)) (aW cells (k * e.width) c1).toArray (l.map fun p=>(p.1,ev p.2)))=some cells'.toArray:=by
    rw[gF];exact k7
   exact this
  .simp at hb
theorem Di{e:Ty}(hp:0<e.width){n:Nat}{i:Nat}(hi:(i+1) * e.width<=n):sub (madeCells (zc e).toArray n) (i * e.width) e.width=zc e:=by
 rw[gl]at hi;apply kq;intro j;simp only[sub,di,dW];by_cases hj:j<e.width
 .rw[aE hj];have h1:i * e.width+j<n:=by omega
  have h2:(i * e.width+j) % e.width=j:=by rw[mE,Nat.mul_add_mod,Nat.mod_eq_of_lt hj]
  have h3:j<(zc e).length:=by rw[t_];exact hj
  simp[madeCells,h1,t_,h2,h3];rw[gv h3];rfl
 .rw[ax hj,iD (by rw[t_];omega)]
theorem Kx{h:Array Obj}{Pr:BS}{e:Ty}(hp:0<e.width)(mi:Mk)(n:Nat):El h Pr e mi (List.replicate n e.zero) (madeCells (zc e).toArray (n * e.width)).toList (fun _=>Nil):=by
 refine⟨fun i hi=>?_,fun i j _=>bz.nil _⟩;rw[jD]at hi;have e1:(List.replicate n e.zero).getD i e.zero=e.zero:=by simp[List.getD,hi]
 have:=Di (e:=e) hp (n:=n * e.width) (i:=i) (cq _ hi);simp only[sub]at this;rw[e1,this];exact ag.zero e mi
section
variable {P:Program} {C:Ctx} {D:Den C} {S:St} {g:ai} {w:World} {tmps:Array Value} {a:Act} {ρ:Operand->AV}
variable {A:aZ} {site:Nat} {hint:Bool} (aM:e_ P C) (st:aj w.heap S g tmps Nil) (hρ:∀x,qe w.heap S g (ρ x) (a.eval x))
include aM st hρ
theorem xB{T:Ty}:(bK T (zc T)).cells=(zc T).toArray:=by apply jj;rw[tE]
theorem JV{o:Oper}{t:TypeId}{x y:Operand}(ho:o.op=.makeSlice t x y)(ok:jk A S o.dst site):Goal P C D S g w tmps a ρ A site hint o:=by
 intro ht;simp only[aS,ho]at ht⊢;split at ht
 .rename_i e l c hT hl hc;have el:=y4 hl (hρ x);have ec:=y4 hc (hρ y);obtain⟨u,h1,h2,h3⟩:=aM.desc hT;have ku:=aM u h3;obtain⟨i,i1,i2,i3,i4⟩:=ku.info;obtain⟨⟨v,rt'⟩,hd⟩:=ht true;by_cases hb:0<=l/\l<=c/\c<=(gj:Int)
  .have hd':(b8 A S.rt o.dst site (.sl e) (.own 0 (Mk.top e)) (List.replicate l.toNat e.zero) false).dec true=some (v,rt'):=by
    have gF:(decide (0<=l)&&decide (l<=c)&&decide (c<=(gj:Int)))=true:=by rw[bJ hb.1,bJ hb.2.1,bJ hb.2.2];rfl
    rw[gF]at hd;exact hd
   have Om:(gj:Int)=274877906944:=rfl;have hbytes:(i.bytes:Int) * c<=281474976710656:=by
    have h5:(i.bytes:Int)<=255:=Int.ofNat_le.2 i4;have h6:c<=274877906944:=by rw[<-Om];exact hb.2.2
    have h7:(i.bytes:Int) * c<=255 * c:=Int.mul_le_mul_of_nonneg_right h5 (by omega);omega
   have hrun:=run_make (P:=P) w t u i _ h1 i1 i3 .i64 .i64 l c hb.1 hb.2.1 hbytes (by rw[Om]at hb;omega);rw[xB aM st hρ,i2,h2]at hrun;have hp:=ku.pos;rw[h2]at hp;have F5:El (w.heap.push (.cells (madeCells (zc e).toArray (c.toNat * e.width)) u)) g.Pr e (Mk.top e) (List.replicate l.toNat e.zero) (madeCells (zc e).toArray (c.toNat * e.width)).toList (fun _=>Nil):=by
    refine⟨fun i hi=>?_,fun i j _=>bz.nil _⟩;rw[jD]at hi;have e1:(List.replicate l.toNat e.zero).getD i e.zero=e.zero:=by simp[List.getD,hi]
    have:=Di (e:=e) hp (n:=c.toNat * e.width) (i:=i) (cq _ (by omega));simp only[sub]at this;rw[e1,this];exact ag.zero e _
   have s0:=st.ga (madeCells (zc e).toArray (c.toNat * e.width)) u;have rep:=F5.row (b:=w.heap.size) fI.new (cap:=c.toNat) (by rw[size_madeCells];exact bN _) (by rw[jD];omega) (fun i hi=>rfl) (fun i h=>h) 0;obtain⟨g2,s1,s2,s3⟩:=tY s0 rep (aA.af _ (by simp[Mk.af,jx,Mk.bQ])) (fun b hb=>by rcases hb with rfl | ⟨_,hb⟩;exact .inr rfl;exact hb.elim) ok hd';rw[jD]at s2;refine cV.value (w':=w.alloc (.cells (madeCells (zc e).toArray (c.toNat * e.width)) u)) ?_ ⟨true,v,rt',hd,g2,s1,s2,s3,gB.push _⟩;simp[execOp,ho,el,ec,hrun,Sem.run_bind,bK,Ty.agg]
  .have:(decide (0<=l)&&decide (l<=c)&&decide (c<=(gj:Int)))=false:=by simp only[jC,iB];omega
   rw[this]at hd;simp[Tr.dec]at hd
 .exact absurd ht aX.fail
theorem JI{o:Oper}{t:TypeId}{n:Nat}{parts:Array (Nat×Operand)}(ho:o.op=.buildSlice t n parts)(ok:jk A S o.dst site):Goal P C D S g w tmps a ρ A site hint o:=by
 intro ht;simp only[aS,ho]at ht⊢;split at ht
 .rename_i e hT;cases hb:m6 S.rt e (Mk.top e,List.replicate n e.zero) (parts.toList.map fun p=>(p.1,ρ p.2)) with
  | none=>rw[hb]at ht;exact absurd ht aX.fail
  | some z=>
   obtain⟨m,xs,cm⟩:=z;rw[hb]at ht;simp only at ht⊢;by_cases iJ:(m.af&&Nat.ble (n * e.width) 16777216)=true
   .have hm:m.af=true:=by simp only[aO]at iJ;exact iJ.1
    have fA:n * e.width<=2 ^ 24:=by simp only[aO]at iJ;exact lI iJ.2
    simp only[iJ,aK]at ht⊢;obtain⟨u,h1,h2,h3⟩:=aM.desc hT;have ku:=aM u h3;obtain⟨i,i1,i2,i3,i4⟩:=ku.info;have hp:=ku.pos;rw[h2]at hp i2;obtain⟨g',H',oB,cells',k1,k2,k3,k4,k5,k6,k7⟩:=Ch (sl:=S.sl) a.eval parts.toList S.rt g Nil (fun _=>Nil) (Mk.top e) (List.replicate n e.zero)
     (madeCells (zc e).toArray (n * e.width)).toList ρ m xs cm st (Kx hp _ n) (fun _=>Sub.nil _) (by simp[size_madeCells]) hρ hb
    rw[jD]at k5;have hrun:n * e.width<=2 ^ 24->(Instr.buildSlice t n (parts.map fun p=>(p.1,a.eval p.2))).run P w=.ok (.slice (some ⟨w.heap.size,0,none⟩) n n) { w with heap:=w.heap.push (.cells cells'.toArray u) }:=by
     intro fA;by_cases h0:n * i.size=0
     .have hn0:n=0:=by
       rw[i2]at h0;rcases Nat.mul_eq_zero.1 h0 with h | h
       .exact h
       .omega
      subst hn0;have SL:Instr.fill (fun i=>some (i * e.width,e.width)) #[] (parts.toList.map fun p=>(p.1,a.eval p.2))=some cells'.toArray:=by
       have:(madeCells (zc e).toArray (0 * e.width)).toList.toArray = #[]:=by simp[madeCells]
       rw[<-this];exact k7
      have e0:Array.range 0 = #[]:=rfl;simp[Instr.buildSlice,run_underlying h1,sizeOf,typeInfo,i1,i2,e0,SL,newRow,newObj,Sem.run_bind,Sem.run]
     .have:=run_buildSlice (P:=P) w t u n (parts.map fun p=>(p.1,a.eval p.2)) cells'.toArray i _ h1 i1 i3 (by rw[i2];omega) h0 (by
       rw[xB aM st hρ,i2];have e2:((Array.range (n * e.width)).map fun x=>(zc e).toArray[x % (zc e).toArray.size]!)=(madeCells (zc e).toArray (n * e.width)).toList.toArray:=by rw[jE];rfl
       rw[h2,e2];simpa using k7)
      exact this
    have s0:=k1.ga cells'.toArray u;have Ah:∀i b,oB i b->b<w.heap.size:=fun i b hb=>k1.cv b (k3 i b hb);have F5:El (w.heap.push (.cells cells'.toArray u)) g'.Pr e m xs cells' oB:=
     k2.mono (Sub.refl _) (fun b hb=>rK b (k1.aV b hb)) (fun i b hb=>rK b (Ah i b hb))
    have rep:=F5.row (b:=w.heap.size) fI.new (cap:=n) (by simp[k4,k5]) (by omega) (fun i hi=>by simp[sub])
     (fun i h=>wo _ (Ah i _ h)) 0
    by_cases hh:hint=true
    .simp only[hh,aK]at ht⊢;by_cases hw:m.whole=true
     .simp only[hw,aK]at ht⊢;obtain⟨g2,s1,s2,s3,_⟩:=EN s0 rep (fun b hb=>by
       rcases hb with rfl | ⟨i,hb⟩
       .exact .inr rfl
       .exact .inl (k3 i b hb)) (by simpa [Mk.whole] using hw)
      refine cV.value (w':={ w with heap:=w.heap.push (.cells cells'.toArray u) }) ?_ ⟨true,_,_,rfl,g2,s1.aN (Sub.nil _),by simp only[qe];exact⟨_,s2,rfl⟩,k6.trans s3,gB.push _⟩;rw[k5];simp[execOp,ho,hrun fA,Sem.run_bind,bK,Ty.agg]
     .rw[ax hw]at ht;exact absurd ht aX.fail
    .rw[ax hh]at ht⊢;obtain⟨⟨v,rt'⟩,hd⟩:=ht true;obtain⟨g2,s1,s2,s3⟩:=tY s0 rep (aA.af _ (by simp[Mk.af,jx,hm])) (fun b hb=>by
      rcases hb with rfl | ⟨i,hb⟩
      .exact .inr rfl
      .exact .inl (k3 i b hb)) ok hd
     rw[k5]at s2;refine cV.value (w':={ w with heap:=w.heap.push (.cells cells'.toArray u) }) ?_ ⟨true,v,rt',hd,g2,s1,s2,k6.trans s3,gB.push _⟩;simp[execOp,ho,hrun fA,Sem.run_bind,bK,Ty.agg]
   .rw[ax iJ]at ht;exact absurd ht aX.fail
 .exact absurd ht aX.fail
end
end Go.V
namespace Go.V
noncomputable section
open Go
section
variable {P:Program} (w:World)
theorem FM{ats:Array TypeId}{t t' u u' ty:TypeId}{i:TypeInfo}(h0:ats[0]? = some t)(h1:ats[1]? = some t')(ht:P.underlying t=some (.slice u))(ht':P.underlying t'=some (.slice u'))
  (hi:P.info? u=some i) {xa:Option Addr} {n cap:Nat} {ya:Option Addr} {m c:Nat} {news:List Value}
  (hnews:(Builtin.firstCells i.size m (.slice ya m c)).run P w=.ok news.toArray w) (hroom:n+m<=cap)
  {w':World} (hst:∀ad,xa=some ad->(storeCells (ad.add (n * i.size)) news).run P w=.ok () w') (hno:xa=none->w'=w) :
  (Builtin.append_ ats ty #[.slice xa n cap,.slice ya m c]).run P w=.ok (.slice xa (n+m) cap) w':=by
 cases xa with
 | none=>obtain rfl:=hno rfl;simp[Builtin.append_,h0,h1,run_underlying ht,run_underlying ht',sizeOf,typeInfo,hi,Builtin.lenOf,hroom,hnews,Sem.run_bind]
 | some ad=>have:=hst ad rfl;simp[Builtin.append_,h0,h1,run_underlying ht,run_underlying ht',sizeOf,typeInfo,hi,Builtin.lenOf,hroom,hnews,this,Sem.run_bind]
theorem B8{ats:Array TypeId}{t t' u u' ty:TypeId}{i:TypeInfo}{z:Value}(h0:ats[0]? = some t)(h1:ats[1]? = some t')(ht:P.underlying t=some (.slice u))(ht':P.underlying t'=some (.slice u'))
  (hi:P.info? u=some i) (hz:i.zero=some z) {xa:Option Addr} {n cap:Nat} {ya:Option Addr} {m c:Nat} {olds news:List Value}
  (hnews:(Builtin.firstCells i.size m (.slice ya m c)).run P w.drew=.ok news.toArray w.drew)
  (holds:(Builtin.firstCells i.size n (.slice xa n cap)).run P w.drew=.ok olds.toArray w.drew) (hg:cap<n+m) (h63:((n+m:Nat):Int)<=9223372036854775807)
  (hfit:Builtin.nextslicecap (n+m) cap * i.bytes<=281474976710656) :
  (Builtin.append_ ats ty #[.slice xa n cap,.slice ya m c]).run P w =
   .ok (.slice (some ⟨w.heap.size,0,none⟩) (n+m) (grownCap w (n+m) cap u))
    (w.drew.alloc (.cells (olds.toArray++news.toArray++Builtin.zeroCells z.cells (grownCap w (n+m) cap u-(n+m))) u)):=by
 have hn:¬ (n+m<=cap):=by omega
 have h63':¬ (9223372036854775807<((n:Int)+(m:Int))):=by omega
 have Gb:¬ (281474976710656<Builtin.nextslicecap (n+m) cap * i.bytes):=by omega
 simp[Builtin.append_,h0,h1,run_underlying ht,run_underlying ht',sizeOf,typeInfo,zeroValue,hi,hz,Builtin.lenOf,hn,h63',Gb,Question.forced,hnews,holds,newRow,grownCap];congr 2;apply jj;simp[fe]
end
theorem uU{P:Program}{w:World}{size n len cap:Nat}{ad:Option Addr}{cs:List Value}(hl:cs.length=n * size)
  (h:(n=0/\cs=[])\/∃b o,ad=some ⟨b,o,none⟩/\w.rangeAt b o cs):(Builtin.firstCells size n (.slice ad len cap)).run P w=.ok cs.toArray w:=by
 rcases h with⟨rfl,rfl⟩ | ⟨b,o,rfl,hr⟩
 .cases ad with
  | none=>exact run_firstCells_none w size 0 len cap
  | some ad=>simp[Builtin.firstCells,loadCells,loadCellsFrom]
 .exact run_firstCells_some w size n ⟨b,o,none⟩ len cap cs hl (fun j v hv=>by rw[Addr.add_mid];exact hr j v hv)
theorem FL{w:World}{b o:Nat}{cs:List Value}(h:w.rangeAt b o cs):w.drew.rangeAt b o cs:=by simpa using h
def AM:Mk->Mk
 | .own _ m=>m
 | _=>.no
theorem J0{my m':Mk}(h:kM my=some m'):my≠.gone/\(∀a b,my≠.pr a b)/\AM my=m':=by
 cases my with
 | no=>simp only[kM,ay]at h;exact⟨by simp,by simp,h⟩
 | own s m=>simp only[kM,ay]at h;exact⟨by simp,by simp,h⟩
 | gone=>simp[kM]at h
 | pr a b=>simp[kM]at h
theorem zD{h:Array Obj}{Pr:BS}{e:Ty}{m:Mk}{xs:(Ty.sl e).den}{c:List Value}{F:BS}(hm:m≠.gone)(hp:∀a b,m≠.pr a b)(rep:ag h Pr (.sl e) m xs c F) :
  ∃ad cap cells Fs,c=[.slice ad xs.length cap]/\cells.length=xs.length * e.width/\xs.length<=cap/\
   ((xs.length=0/\cells=[])\/∃b o cs,ad=some ⟨b,o,none⟩/\mS h b cs/\o+xs.length * e.width<=cs.size/\cells=sub cs o (xs.length * e.width))/\
   El h Pr e (AM m) xs cells Fs/\(∀i,Sub (Fs i) F)/\
   (∀s m',m=.own s m'->cap=0\/∃b cs,ad=some ⟨b,0,none⟩/\F b/\fI h b cs/\cap * e.width<=cs.size/\(∀i,¬ Fs i b)/\cells=sub cs 0 (xs.length * e.width)):=by
 have hsub:∀(cs:Array Value)(o i:Nat),i<xs.length->o+xs.length * e.width<=cs.size->((sub cs o (xs.length * e.width)).drop (i * e.width)).take e.width=sub cs (o+i * e.width) e.width:=by
  intro cs o i hi hs;have:i * e.width+e.width<=xs.length * e.width:=by have:=cq e.width (show i+1<=xs.length by exact hi);rw[gl]at this;exact this
  simp only[sub,AZ,lP,nF];congr 1;omega
 cases m with
 | gone=>exact absurd rfl hm
 | pr a b=>exact absurd rfl (hp a b)
 | no=>
  simp only[ag]at rep;obtain⟨ad,cap,rfl,hl,re⟩:=rep;by_cases hne:xs=[]
  .subst hne;exact⟨ad,cap,[],fun _=>Nil,rfl,by simp,hl,.inl ⟨rfl,rfl⟩,⟨fun i hi=>by simp at hi,fun i j _=>bz.nil _⟩,fun i=>Sub.nil _,fun s m' e=>by simp at e⟩
  .obtain⟨b,o,cs,rfl,hp,hb,hs,re⟩:=re hne;refine⟨_,cap,sub cs o (xs.length * e.width),fun _=>Nil,rfl,wT hs,hl,.inr ⟨b,o,cs,rfl,hb,hs,rfl⟩,⟨fun i hi=>?_,fun i j _=>bz.nil _⟩,fun i=>Sub.nil _,fun s m' e=>by simp at e⟩;rw[hsub cs o i hi hs];exact re i hi
 | own s m'=>
  simp only[ag]at rep;obtain⟨ad,cap,rfl,hl,re⟩:=rep;rcases re with rfl | ⟨b,cs,rfl,fb,hb,hs,Fs,jN,lV,re⟩
  .have hx:xs=[]:=iC.1 (by omega);subst hx;exact⟨ad,0,[],fun _=>Nil,rfl,by simp,hl,.inl ⟨rfl,rfl⟩,⟨fun i hi=>by simp at hi,fun i j _=>bz.nil _⟩,fun i=>Sub.nil _,fun s m' e=>.inl rfl⟩
  .have hfit:0+xs.length * e.width<=cs.size:=by have:=cq e.width hl;omega
   refine⟨_,cap,sub cs 0 (xs.length * e.width),Fs,rfl,wT hfit,hl,.inr ⟨b,0,cs,rfl,hb.rS,hfit,rfl⟩,⟨fun i hi=>?_,lV⟩,fun i=>(jN i).1,
    fun s m' e=>.inr ⟨b,cs,rfl,fb,hb,hs,fun i=>(jN i).2,rfl⟩⟩
   rw[hsub cs 0 i hi hfit,g_];exact re i hi
end
theorem aj.jO{h h2:Array Obj}{S:St}{g:ai}{tmps:Array Value}{H:BS}(st:aj h S g tmps H)(hk:∀b,b<h.size->¬ H b->h2[b]? = h[b]?)(hsz:h.size<=h2.size)
  (H2:BS) (rX:∀b,H2 b->H b\/(h.size<=b/\b<h2.size)):aj h2 S g tmps H2:=by
 have kP:∀b,g.Pr b->h2[b]? = h[b]?:=fun b hb=>hk b (st.aV b hb) (fun hH=>st.aR b hH hb);have kG:∀r,(S.root r).isSome->∀b,g.G r b->h2[b]? = h[b]?:=fun r h1 b hb=>hk b (st.bk r b h1 hb) (fun hH=>st.hand r h1 b hb hH);refine { len:=st.len,eA:=st.eA,slots:=?_,roots:=?_,cj:=st.cj,ck:=st.ck,hand:=?_,aR:=?_,aV:=?_,bk:=?_,cv:=?_,tag:=st.tag,own:=st.own,cQ:=?_,dN:=fun b hb=>st.dN b (by omega),p0:=st.p0,gM:=st.gM }
 .intro t;refine(qe.keep (Sub.refl _) kP _).1 _ (st.slots t) (AV.ct (fun r p=>?_) (fun r p s=>?_) _)
  .exact(jm st (.inl rfl) rfl rfl (fun h1 b hb=>kG r h1 b hb)).1 p
  .exact(jm st (.inl rfl) rfl rfl (fun h1 b hb=>kG r h1 b hb)).2 p s
 .intro r R hR;have h1:(S.root r).isSome:=by rw[hR];rfl
  obtain⟨F,q1,q2,q3,q4,q5⟩:=st.roots r R hR;refine⟨F,ag.mono (Sub.refl _) kP _ q1 (Sub.refl _) (fun b hb=>kG r h1 b (q2 b hb)),q2,q3,?_,q5⟩;intro hm;obtain⟨b,e1,e2,e3⟩:=q4 hm;exact⟨b,e1,e2,e3.congr (kG r h1 b e2)⟩
 .intro r h1 b hb hz;rcases rX b hz with h3 | h3
  .exact st.hand r h1 b hb h3
  .have:=st.bk r b h1 hb;omega
 .intro b hz hb;rcases rX b hz with h3 | h3
  .exact st.aR b h3 hb
  .have:=st.aV b hb;omega
 .intro b hb;have:=st.aV b hb;omega
 .intro r b h1 hb;have:=st.bk r b h1 hb;omega
 .intro b hz;rcases rX b hz with h3 | h3
  .have:=st.cv b h3;omega
  .exact h3.2
 .intro b hz;rcases rX b hz with h3 | h3
  .exact st.cQ b h3
  .exact st.dN b h3.1
theorem El.append{h:Array Obj}{Pr:BS}{e:Ty}{mi:Mk}{xs ys:List e.den}{c1 c2:List Value}{F1 F2:Nat->BS}(k1:El h Pr e mi xs c1 F1)(k2:El h Pr e mi ys c2 F2)
  (jl:c1.length=xs.length * e.width) (eH:c2.length=ys.length * e.width) (hd:∀i j,bz (F1 i) (F2 j)) :
  El h Pr e mi (xs++ys) (c1++c2) (fun i=>if i<xs.length then F1 i else F2 (i-xs.length)):=by
 refine⟨fun i hi=>?_,fun i j hij=>?_⟩
 .rw[cS]at hi;by_cases h1:i<xs.length
  .simp only[h1,aK];have e1:(xs++ys).getD i e.zero=xs.getD i e.zero:=by simp[List.getD,fo h1]
   have hw:i * e.width+e.width<=c1.length:=by rw[jl];have:=cq e.width (show i+1<=xs.length by exact h1);rw[gl]at this;exact this
   have e2:((c1++c2).drop (i * e.width)).take e.width=(c1.drop (i * e.width)).take e.width:=by rw[uh (by omega),mM (by rw[n7];omega)]
   rw[e1,e2];exact k1.rep i h1
  .simp only[h1,bY];have e1:(xs++ys).getD i e.zero=ys.getD (i-xs.length) e.zero:=by simp[List.getD,fW (by omega:xs.length<=i)]
   have e2:(c1++c2).drop (i * e.width)=c2.drop ((i-xs.length) * e.width):=by
    have h3:c1.length<=i * e.width:=by rw[jl];exact cq _ (by omega)
    rw[wC,lH h3,lN,jl,Nat.sub_mul]
   rw[e1,e2];exact k2.rep (i-xs.length) (by omega)
 .intro b aU ek;by_cases h1:i<xs.length<;>by_cases h2:j<xs.length<;>simp only[h1,h2,aK,bY]at aU ek
  .exact k1.cj i j hij b aU ek
  .exact hd i _ b aU ek
  .exact hd j _ b ek aU
  .exact k2.cj _ _ (by omega) b aU ek
theorem EK{cs:Array Value}{l:List Value}{i w n:Nat}(h:cs.toList.take n=l)(hi:i * w+w<=n):sub cs (i * w) w=(l.drop (i * w)).take w:=by rw[<-h];simp only[sub,AZ,nF];congr 1;omega
section
variable {P:Program} {C:Ctx} {D:Den C} {S:St} {g:ai} {w:World} {tmps:Array Value} {a:Act} {ρ:Operand->AV}
variable {A:aZ} {site:Nat} {hint:Bool} (aM:e_ P C) (st:aj w.heap S g tmps Nil) (hρ:∀x,qe w.heap S g (ρ x) (a.eval x))
include aM st hρ
theorem Iz{o:Oper}{c:Call}{x y:Operand}{t t':TypeId}{e:Ty}(ho:o.op=.call c)(hc:c.callee=.builtin .append)(hargs:c.args = #[x,y])
  (h0:c.argTypes[0]? = some t) (h1:c.argTypes[1]? = some t') (hT:C.ty t=.sl e) (uo:C.ty t'=.sl e) (ok:jk A S o.dst site)
  (ht:aX (uW A S.rt o.dst site e (ρ x) (ρ y))):cV P S g w tmps (uW A S.rt o.dst site e (ρ x) (ρ y)) ((execOp a.eval o).run P w):=by
 unfold uW at ht⊢;cases hx:tk S.rt (.sl e) (ρ x) with
 | none=>rw[hx]at ht;exact absurd ht aX.fail
 | some z=>
  obtain⟨mx,xs,cm⟩:=z;rw[hx]at ht;cases mx with
  | own s m=>
   simp only at ht⊢;cases hy:tk cm (.sl e) (ρ y) with
   | none=>rw[hy]at ht;exact absurd ht aX.fail
   | some z=>
    obtain⟨my,ys,cX⟩:=z;rw[hy]at ht;simp only at ht⊢;cases hmk:kM my with
    | none=>rw[hmk]at ht;exact absurd ht aX.fail
    | some m'=>
     rw[hmk]at ht;simp only at ht⊢;by_cases iW:(m.meet m').af=true
     .simp only[iW,aK]at ht⊢;obtain⟨⟨v,rt'⟩,hd⟩:=ht true;by_cases hbd:xs.length+ys.length<=gj
      .have gF:decide (xs.length+ys.length<=gj)=true:=bJ hbd;rw[gF]at hd⊢;have hd':(b8 A cX o.dst site (.sl e) (.own 0 (m.meet m')) (xs++ys) false).dec true=some (v,rt'):=hd;obtain⟨c1,g1,F1,RO,bB⟩:=qH _ st hx (hρ x);obtain⟨c2,g2,F2,vf,yE⟩:=qH (S:=⟨S.sl,cm⟩) _ bB.st hy (bB.kp _ _ (hρ y));have j8:ag w.heap g2.Pr (.sl e) (.own s m) xs c1 F1:=ag.mono yE.pr (fun _ _=>rfl) _ bB.rep (Sub.refl _) (fun _ _=>rfl);obtain⟨jK,cM,bM,N3,rfl,jl,vB,o_,F6,nr,o7⟩:=zD (by simp) (by simp) j8;obtain⟨GR,GS,RL⟩:=J0 hmk;obtain⟨mT,gX,aI,kH,rfl,eH,Ag,iV,qV,js,_⟩:=zD GR GS yE.rep;rw[RL]at qV;obtain⟨fE,jR⟩:=Mk.c8 m m';obtain⟨zK,D1,p1,p2,p3,p4⟩:=F6.aG fE;obtain⟨zL,D2,q1,q2,q3,q4⟩:=qV.aG jR;have h12:bz F1 F2:=fun b aU ek=>yE.cj b ek (.inr aU);have hD:∀b,(D1 b\/D2 b)->Un (Un Nil F1) F2 b:=by
        rintro b (hb | hb)
        .obtain⟨i,hi⟩:=p2 b hb;exact .inl (.inr (nr i b hi))
        .obtain⟨i,hi⟩:=q2 b hb;exact .inr (js i b hi)
       have l6:=yE.st.bH (fun b=>D1 b\/D2 b) hD
       let g3:ai:={ g2 with Pr:=Un g2.Pr fun b=>D1 b\/D2 b }
       have RF:El w.heap g3.Pr e (m.meet m') xs bM zK:=p4.mono (fun b hb=>hb.imp id .inl) (fun _ _=>rfl) (fun _ _ _=>rfl);have RG:El w.heap g3.Pr e (m.meet m') ys aI zL:=q4.mono (fun b hb=>hb.imp id .inr) (fun _ _=>rfl) (fun _ _ _=>rfl);have F7:=El.append RF RG jl eH (fun i j b aU ek=>h12 b (nr i b (p1 i b aU)) (js j b (q1 j b ek)));generalize Od:(fun i=>if i<xs.length then zK i else zL (i-xs.length))=FF at F7;have vi:∀i b,FF i b->Un (Un Nil F1) F2 b/\¬ (D1 b\/D2 b):=by
        intro i b hb;rw[<-Od]at hb;split at hb
        .refine⟨.inl (.inr (nr i b (p1 i b hb))),?_⟩;rintro(h3 | h3)
         .exact p3 i b hb h3
         .obtain⟨j,hj⟩:=q2 b h3;exact h12 b (nr i b (p1 i b hb)) (js j b hj)
        .refine⟨.inr (js _ b (q1 _ b hb)),?_⟩;rintro(h3 | h3)
         .obtain⟨j,hj⟩:=p2 b h3;exact h12 b (nr j b hj) (js _ b (q1 _ b hb))
         .exact q3 _ b hb h3
       obtain⟨u,oh,uG,AF⟩:=aM.desc hT;obtain⟨u',mz,_,_⟩:=aM.desc uo;have ku:=aM u AF;obtain⟨i,i1,i2,i3,i4⟩:=ku.info;have hp:=ku.pos;rw[uG]at i2 hp;have Em:a.eval x=.slice jK xs.length cM:=RO;have zP:a.eval y=.slice mT ys.length gX:=vf;have hsame:g3.bG g:=bB.same.trans (yE.same.trans ⟨rfl,rfl,rfl⟩);have hsrc:∀{ad:Option Addr}{n:Nat}{cells:List Value},((n=0/\cells=[])\/∃b o cs,ad=some ⟨b,o,none⟩/\mS w.heap b cs/\o+n * e.width<=cs.size/\cells=sub cs o (n * e.width))->
         (n=0/\cells=[])\/∃b o,ad=some ⟨b,o,none⟩/\w.rangeAt b o cells:=by
        rintro ad n cells (h | ⟨b,o,cs,h1,h2,h3,h4⟩)
        .exact .inl h
        .exact .inr ⟨b,o,h1,h4 ▸ tO h2 h3⟩
       have hex:(execOp a.eval o).run P w=((Builtin.append_ c.argTypes o.type #[.slice jK xs.length cM,.slice mT ys.length gX]).run P w).andThen fun a w'=>.ok (.value a) w':=by simp[execOp,ho,resolve,hc,invoke,builtin,hargs,Em,zP,Sem.run_bind]
       have o6:∀u∈aI,u.oneCell'=true:=by
        intro u hu;obtain⟨k,hk,rfl⟩:=List.getElem_of_mem hu;have hk2:k / e.width<ys.length:=by rw[eH]at hk;exact Nat.div_lt_of_lt_mul (by rw[mE];exact hk)
        have r:=qV.rep (k / e.width) hk2;refine ag.one _ r _ ?_;have h3:k / e.width * e.width+k % e.width=k:=by rw[mE];exact x8 k e.width
        have h4:k % e.width<e.width:=so _ hp;rw[HS];refine⟨k % e.width,?_⟩;rw[di,aE h4,dW,h3,gv hk]
       have hlen:(xs++ys).length=xs.length+ys.length:=cS;have gZ:(bM++aI).length=(xs.length+ys.length) * e.width:=by rw[cS,jl,eH,fl]
       have hn2:=uU (P:=P) (w:=w) (size:=e.width) (n:=ys.length) (len:=ys.length) (cap:=gX) (ad:=mT) eH (hsrc iV);rw[<-i2]at hn2;by_cases hroom:xs.length+ys.length<=cM
       .rcases o7 s m rfl with hc0 | ⟨b,cs,vn,lR,qW,jP,vj,lS⟩
        .have hx0:xs=[]:=iC.1 (by omega);have hy0:ys=[]:=iC.1 (by omega);subst hx0;subst hy0;have fD:aI=[]:=iC.1 (by rw[eH];simp);subst fD;have hr:=FM (P:=P) w (ty:=o.type) h0 h1 oh mz i1 hn2 hroom (w':=w) (xa:=jK) (fun ad _=>by simp[storeCells]) (fun _=>rfl);have qJ:ag w.heap g3.Pr (.sl e) (.own 0 (m.meet m')) ([]++[]) [.slice jK (([]:List e.den).length+([]:List e.den).length) cM] Nil:=by simp only[ag];exact⟨jK,cM,rfl,by simp,.inl hc0⟩
         obtain⟨g4,s1,s2,s3⟩:=tY (S:=S) (g1:=g3) l6 qJ (aA.af _ (by simp[Mk.af,iW,jx])) (Sub.nil _) ok hd';exact cV.value (w':=w) (by rw[hex,hr];rfl) ⟨true,v,rt',hd,g4,s1,s2,hsame.trans s3,.refl _ _⟩
        .subst vn;have hfit:xs.length * e.width+aI.length<=cs.size:=by rw[eH,<-fl];exact jH (cq _ hroom) jP
         have mu:(storeCells (⟨b,xs.length * e.width,none⟩:Addr) aI).run P w=.ok () (w.setCells b (xs.length * e.width) aI):=by have th:=nE (w:=w) qW hfit;have:=run_storeCells_cells (P:=P) b (xs.length * e.width) aI 0 w (fun j hj=>by simpa using (th j hj).1) (fun j hj=>by simpa using (th j hj).2) o6;simpa using this
         have hr:=FM (P:=P) w (ty:=o.type) h0 h1 oh mz i1 hn2 hroom (w':=w.setCells b (xs.length * e.width) aI) (xa:=some ⟨b,0,none⟩)
          (fun ad e0=>by simp only[ay]at e0;subst e0;rw[Addr.add_mid,g_,i2];exact mu) (fun h=>by simp at h)
         have bw:∀b',b'≠b->(w.setCells b (xs.length * e.width) aI).heap[b']? = w.heap[b']?:=fun b' hb'=>tM aI _ w b' hb';have Eu:Un (Un Nil F1) F2 b:=.inl (.inr lR);have GU:¬ (D1 b\/D2 b):=by
          rintro(h3 | h3)
          .obtain⟨j,hj⟩:=p2 b h3;exact vj j hj
          .obtain⟨j,hj⟩:=q2 b h3;exact h12 b lR (js j b hj)
         have zR:∀i,¬ FF i b:=by
          intro i hb;rw[<-Od]at hb;split at hb
          .exact vj i (p1 i b hb)
          .exact h12 b lR (js _ b (q1 _ b hb))
         have R3:¬ g3.Pr b:=fun h=>l6.aR b ⟨Eu,GU⟩ h;have NY:=l6.jO (h2:=(w.setCells b (xs.length * e.width) aI).heap) (fun b' _ hb'=>bw b' (fun e0=>hb' (e0 ▸ ⟨Eu,GU⟩))) (by rw[lp];exact bN _)
          (fun b=>Un (Un Nil F1) F2 b/\¬ (D1 b\/D2 b)) (fun b' hb'=>.inl hb')
         obtain⟨ty,lo,hi,he,hfz⟩:=qW;obtain⟨dL,vr,kQ⟩:=EJ aI (xs.length * e.width) w cs he hfit;have j4:dL.size=cs.size:=by rw[<-dH,kQ,tP (by simpa using hfit),dH]
         have jZ:fI (w.setCells b (xs.length * e.width) aI).heap b dL:=⟨ty,lo,hi,vr,fun i hi'=>hfz i (by omega)⟩
         have pe:dL.toList.take ((xs.length+ys.length) * e.width)=bM++aI:=by
          have hmin:min (xs.length * e.width) cs.toList.length=xs.length * e.width:=by have h7:cs.toList.length=cs.size:=dH;omega
          rw[kQ,lS];simp only[aW,sub,iF];rw[mM (by
           rw[cS,dX,eH,hmin,fl];exact bN _)]
          rw[n6 (by
           rw[cS,dX,eH,hmin,fl];exact bN _)]
         have F8:El (w.setCells b (xs.length * e.width) aI).heap g3.Pr e (m.meet m') (xs++ys) (bM++aI) FF:=
          F7.mono (Sub.refl _) (fun b' hb'=>bw b' (fun e0=>R3 (e0 ▸ hb'))) (fun i b' hb'=>bw b' (fun e0=>zR i (e0 ▸ hb')))
         have lz:=F8.row jZ (cap:=cM) (by rw[j4];exact jP) (by rw[hlen];exact hroom)
          (fun i hi'=>EK pe (by
           rw[hlen]at hi';have:=cq e.width (show i+1<=xs.length+ys.length by exact hi');rw[gl]at this;exact this)) zR 0
         rw[hlen]at lz;obtain⟨g4,s1,s2,s3⟩:=tY (S:=S) (g1:=g3) NY lz (aA.af _ (by simp[Mk.af,iW,jx]))
          (fun b' hb'=>by rcases hb' with rfl | ⟨i,hb'⟩;exact⟨Eu,GU⟩;exact vi i b' hb') ok hd'
         have b7:=yu (b:=b) aI (xs.length * e.width) w;have Gn:g.L b:=by have:=yE.st.cQ b Eu;rw[(bB.same.trans yE.same).2.1]at this;exact this
         exact cV.value (w':=w.setCells b (xs.length * e.width) aI) (by rw[hex,hr];rfl) ⟨true,v,rt',hd,g4,s1,s2,hsame.trans s3,
          ⟨b7.1,b7.2.1,b7.2.2,by rw[lp];exact bN _,fun b' _ hb'=>bw b' (fun e0=>hb' (e0 ▸ Gn))⟩⟩
       .have Gp:xs.length+ys.length<=274877906944:=hbd;have o3:=uU (P:=P) (w:=w.drew) (size:=e.width) (n:=ys.length) (len:=ys.length) (cap:=gX) (ad:=mT) eH (by
         rcases hsrc iV with h | ⟨b,o',h3,h4⟩
         .exact .inl h
         .exact .inr ⟨b,o',h3,FL h4⟩)
        have oZ:=uU (P:=P) (w:=w.drew) (size:=e.width) (n:=xs.length) (len:=xs.length) (cap:=cM) (ad:=jK) jl (by
         rcases hsrc o_ with h | ⟨b,o',h3,h4⟩
         .exact .inl h
         .exact .inr ⟨b,o',h3,FL h4⟩)
        rw[<-i2]at o3 oZ;have hg:cM<xs.length+ys.length:=by omega
        have Ao:=Room.nextslicecap_le' (need:=xs.length+ys.length) (old:=cM) hg;have hfit:Builtin.nextslicecap (xs.length+ys.length) cM * i.bytes<=281474976710656:=by have h5:Builtin.nextslicecap (xs.length+ys.length) cM * i.bytes<=549755813888 * 255:=x9 (by omega) i4;omega
        have hr:=B8 (P:=P) w (ty:=o.type) h0 h1 oh mz i1 i3 o3 oZ hg (by omega) hfit;have hge:=grownCap_ge w (xs.length+ys.length) cM u;generalize grownCap w (xs.length+ys.length) cM u=cap' at hr hge;generalize oc:(bM.toArray++aI.toArray++Builtin.zeroCells (bK (C.ty u) (zc (C.ty u))).cells (cap'-(xs.length+ys.length)))=cs at hr;have vt:cs.toList.take ((xs.length+ys.length) * e.width)=bM++aI:=by rw[<-oc];simp only[Array.toList_append,fe];rw[<-fe,mM (by rw[gZ];exact bN _),n6 (by rw[gZ];exact bN _)]
        have vu:cs.size=cap' * e.width:=by
         rw[<-oc];have hz:(bK (C.ty u) (zc (C.ty u))).cells.size=e.width:=by rw[xB aM st hρ,uG];simp[t_]
         have h9:bM.length+aI.length=(xs.length+ys.length) * e.width:=by rw[<-cS];exact gZ
         simp only[Array.size_append,List.size_toArray,size_zeroCells,hz,h9];rw[<-fl];congr 1;omega
        have NY:=l6.ga cs u;have zS:∀i b,FF i b->b<w.heap.size:=fun i b hb=>l6.cv b (vi i b hb);have F8:El (w.heap.push (.cells cs u)) g3.Pr e (m.meet m') (xs++ys) (bM++aI) FF:=
         F7.mono (Sub.refl _) (fun b hb=>rK b (l6.aV b hb)) (fun i b hb=>rK b (zS i b hb))
        have lz:=F8.row (b:=w.heap.size) fI.new (cap:=cap') (by rw[vu];exact bN _) (by rw[hlen];exact hge)
          (fun i hi'=>EK vt (by
           rw[hlen]at hi';have:=cq e.width (show i+1<=xs.length+ys.length by exact hi');rw[gl]at this;exact this)) (fun i hb=>wo _ (zS i _ hb)) 0
        rw[hlen]at lz;obtain⟨g4,s1,s2,s3⟩:=tY (S:=S) (g1:=g3) NY lz (aA.af _ (by simp[Mk.af,iW,jx]))
          (fun b' hb'=>by rcases hb' with rfl | ⟨i,hb'⟩;exact .inr rfl;exact .inl (vi i b' hb')) ok hd'
        refine cV.value (w':=w.drew.alloc (.cells cs u)) (by rw[hex,hr];rfl) ⟨true,v,rt',hd,g4,s1,s2,hsame.trans s3,?_⟩;exact⟨rfl,rfl,rfl,by show w.heap.size<=(w.heap.push _).size;simp,fun b hb _=>rK b hb⟩
      .have gF:decide (xs.length+ys.length<=gj)=false:=c6 hbd;rw[gF]at hd;simp[Tr.dec]at hd
     .rw[ax iW]at ht;exact absurd ht aX.fail
  | _=>exact absurd ht aX.fail
end
theorem Jm{h h2:Array Obj}{base:dc}{v:Value}{F:BS}(hq:qD h base [v] F)(hk:∀b o,base=some (b,o)->h2[b]? = h[b]?):qT h h2 base [v]:=by intro b' o e cs' ju;obtain⟨og,N8,o5,kS,kW⟩:=hq b' o e;refine⟨cs',ju.congr (hk b' o e),?_⟩;have:=ju.uniq o5;subst this;have hr:=sI (c:=cs'.toList) (n:=o) (k:=1) (by rw[dH];exact kS);have mY:(cs'.toList.drop o).take 1=[v]:=kW;rw[mY]at hr;exact hr.symm
theorem wM:∀{m:Mk},m.still=true->m.whole=true
 | .no,_=>rfl
 | .gone,h=>by simp[Mk.still]at h
 | .own _ _,h=>by simp[Mk.still]at h
 | .pr a b,h=>by
  simp only[Mk.still,aO]at h;simp only[Mk.whole,aO];exact⟨wM h.1,wM h.2⟩
theorem wh{h:Array Obj}{Pr:BS}{e:Ty}{l:List e.den}{cells:List Value}{b cap:Nat}{cs:Array Value}(hp:Pr b)(hb:mS h b cs)(hfit:l.length * e.width<=cs.size)(hcap:l.length<=cap)
  (mw:∀i,i<l.length->sub cs (i * e.width) e.width=(cells.drop (i * e.width)).take e.width) (el:∀i,i<l.length->ag h Pr e .no (l.getD i e.zero) ((cells.drop (i * e.width)).take e.width) Nil) :
  ag h Pr (.sl e) .no l [.slice (some ⟨b,0,none⟩) l.length cap] Nil:=by
 simp only[ag];exact⟨_,cap,rfl,hcap,fun _=>⟨b,0,cs,rfl,hp,hb,by omega,fun i hi=>by rw[g_,mw i hi];exact el i hi⟩⟩
section
variable {P:Program} {C:Ctx} {D:Den C} {S:St} {g:ai} {w:World} {tmps:Array Value} {a:Act} {ρ:Operand->AV}
variable {A:aZ} {site:Nat} {hint:Bool} (aM:e_ P C) (st:aj w.heap S g tmps Nil) (hρ:∀x,qe w.heap S g (ρ x) (a.eval x))
include aM st hρ
theorem Kn{o:Oper}{c:Call}{x y:Operand}{t t':TypeId}{e:Ty}(ho:o.op=.call c)(hc:c.callee=.builtin .append)(hargs:c.args = #[x,y])
  (h0:c.argTypes[0]? = some t) (h1:c.argTypes[1]? = some t') (hT:C.ty t=.sl e) (uo:C.ty t'=.sl e)
  {r:Nat} {p:Path} {R:aB} {s:Nat} {m:Mk} {xs ys:List e.den} (vI:ρ x=.bu r p s) (rf:ρ y=.val (.sl e) ys) (hR:S.root r=some R) (hf:focus R.ty R.ms R.x p=some ⟨.sl e,.own s m,xs⟩)
  (hm:m.still=true) {m':Mk} {x':R.ty.den} (hput:put R.ty R.ms R.x p (.sl e) .no xs=some (m',x')) (hbd:xs.length+ys.length<=gj) :
  ∃val w',(execOp a.eval o).run P w=.ok (.value val) w'/\Post S g w tmps (.val (.sl e) (xs++ys)) (S.ak r (some { R with ms:=m',x:=x' })).rt val w':=by
 have hx:=hρ x;have hy:=hρ y;rw[vI]at hx;rw[rf]at hy;simp only[qe]at hx hy;obtain⟨c2,yD,zP⟩:=hy;obtain⟨hin,jL,cz⟩:=hx R hR e m xs hf;obtain⟨base,c0,F,q1,j8,q3,q4,q5,q6⟩:=st.iO hR hf hin;rw[cz]at q1;simp only[ay,aJ]at q1;obtain⟨rfl,rfl⟩:=q1;have aQ:(S.root r).isSome:=by rw[hR];rfl
 obtain⟨jK,cM,bM,N3,vc,jl,vB,o_,F6,nr,o7⟩:=zD (by simp) (by simp) j8;simp only[dj,f_]at vc;rw[vc]at q4 q6 j8;obtain⟨mT,gX,aI,kH,rfl,eH,Ag,iV,qV,js,_⟩:=zD (by simp) (by simp) yD;obtain⟨u,oh,uG,AF⟩:=aM.desc hT;obtain⟨u',mz,_,_⟩:=aM.desc uo;have ku:=aM u AF;obtain⟨i,i1,i2,i3,i4⟩:=ku.info;have hp:=ku.pos;rw[uG]at i2 hp;have rU:a.eval y=.slice mT ys.length gX:=zP;have vJ:(Mk.own s m).whole=true:=by show m.whole=true;exact wM hm
 have hsrc:∀{ad:Option Addr}{n:Nat}{cells:List Value},((n=0/\cells=[])\/∃b o cs,ad=some ⟨b,o,none⟩/\mS w.heap b cs/\o+n * e.width<=cs.size/\cells=sub cs o (n * e.width))->
   (n=0/\cells=[])\/∃b o,ad=some ⟨b,o,none⟩/\w.rangeAt b o cells:=by
  rintro ad n cells (h | ⟨b,o,cs,h1,h2,h3,h4⟩)
  .exact .inl h
  .exact .inr ⟨b,o,h1,h4 ▸ tO h2 h3⟩
 have hex:(execOp a.eval o).run P w=((Builtin.append_ c.argTypes o.type #[.slice jK xs.length cM,.slice mT ys.length gX]).run P w).andThen fun a w'=>.ok (.value a) w':=by simp[execOp,ho,resolve,hc,invoke,builtin,hargs,vc,rU,Sem.run_bind]
 have o6:∀u∈aI,u.oneCell'=true:=by
  intro u hu;obtain⟨k,hk,rfl⟩:=List.getElem_of_mem hu;have hk2:k / e.width<ys.length:=by rw[eH]at hk;exact Nat.div_lt_of_lt_mul (by rw[mE];exact hk)
  have r:=qV.rep (k / e.width) hk2;refine ag.one _ r _ ?_;have h3:k / e.width * e.width+k % e.width=k:=by rw[mE];exact x8 k e.width
  have h4:k % e.width<e.width:=so _ hp;rw[HS];refine⟨k % e.width,?_⟩;rw[di,aE h4,dW,h3,gv hk]
 have hlen:(xs++ys).length=xs.length+ys.length:=cS;have gZ:(bM++aI).length=(xs.length+ys.length) * e.width:=by rw[cS,jl,eH,fl]
 have hn2:=uU (P:=P) (w:=w) (size:=e.width) (n:=ys.length) (len:=ys.length) (cap:=gX) (ad:=mT) eH (hsrc iV);rw[<-i2]at hn2;have Ed:ag w.heap (Un g.Pr F) (.sl e) .no xs [.slice jK xs.length cM] Nil:=ag.share _ vJ j8
 -- rQ elements,shared
 have RI:∀k,k<xs.length->ag w.heap g.Pr e .no (xs.getD k e.zero) ((bM.drop (k * e.width)).take e.width) Nil:=fun k hk=>ag.cH e hm (F6.rep k hk);have RJ:∀k,k<ys.length->ag w.heap g.Pr e .no (ys.getD k e.zero) ((aI.drop (k * e.width)).take e.width) Nil:=fun k hk=>ag.cH e rfl (qV.rep k hk);have ve:∀k,k<(xs++ys).length->ag w.heap g.Pr e .no ((xs++ys).getD k e.zero) (((bM++aI).drop (k * e.width)).take e.width) Nil:=by have h:=El.append (h:=w.heap) (Pr:=g.Pr) (e:=e) (mi:=.no) (xs:=xs) (ys:=ys) (c1:=bM) (c2:=aI) (F1:=fun _=>Nil) (F2:=fun _=>Nil) ⟨RI,fun _ _ _=>bz.nil _⟩ ⟨RJ,fun _ _ _=>bz.nil _⟩ jl eH (fun _ _=>bz.nil _);intro k hk;have:=h.rep k hk;exact ag.mono (Sub.refl _) (fun _ _=>rfl) _ this (by intro b hb;split at hb<;>exact hb) (fun _ _=>rfl)
 have kO:∀b,F b->g.G r b:=q3;have RZ:∀b,g.Pr b->¬ F b:=fun b hb hF=>st.ck r aQ b (q3 b hF) hb
 -- rQ state behind
 have fin:∀(h2:Array Obj)(Dd:BS),(∀b,b<w.heap.size->¬ F b->h2[b]? = w.heap[b]?)->w.heap.size<=h2.size->(∀b,F b->Dd b)->(∀b,Dd b->F b\/w.heap.size<=b)->(∀b,Dd b->b<h2.size)->
   ag h2 (Un g.Pr Dd) (.sl e) .no xs [.slice jK xs.length cM] Nil->∀val,(∃c3,ag h2 (Un g.Pr Dd) (.sl e) .no (xs++ys) c3 Nil/\val=bK (.sl e) c3)->
   ∃g',aj h2 (S.ak r (some { R with ms:=m',x:=x' })) g' tmps Nil/\qe h2 (S.ak r (some { R with ms:=m',x:=x' })) g' (.val (.sl e) (xs++ys)) val/\g'.bG g:=by
  intro h2 Dd k1 k2 k3 k4 k5 k6 val hval;obtain⟨g2,s1,s2,s3,s4,s5,s6,s7⟩:=q6 0 0 h2 .no xs [.slice jK xs.length cM] Nil Dd m' x' (fun u=>uQ _) (fun b hb hF _=>k1 b hb hF) k2
   (Jm q4 fun b o e0=>k1 b (st.bk r b aQ (q5 b o e0)) (q4 b o e0).1) k6 (fun b _ h=>h.elim) (fun b hb=>by
    rcases hb with hb | hb
    .exact hb.elim
    .rcases k4 b hb with h | h
     .exact .inl h
     .exact .inr (.inr h)) (fun b hb=>hb.elim (fun h=>h.elim) (k5 b)) hput trivial (by simp only[aA]) (fun _=>rfl)
   (by
    intro p' t1 n1 _ dF _;cases p' with
    | nil=>simp only[q8,ay,aJ]at dF;obtain⟨rfl,rfl⟩:=dF;exact⟨trivial,fun bp cp ha=>⟨cp,by simp only[a_]at ha⊢;exact ha,fun _ _ _ _=>rfl⟩⟩
    | cons z p'=>cases z<;>simp[q8]at dF)
  obtain⟨c3,r3,RP⟩:=hval;refine⟨g2,s1.aN (Sub.nil _),?_,s4⟩;simp only[qe];exact⟨c3,ag.mono (fun b hb=>hb.elim (s2 b) (s3 b)) (fun _ _=>rfl) _ r3 (Sub.refl _) (fun _ _=>rfl),RP⟩
 by_cases hroom:xs.length+ys.length<=cM
 .rcases o7 s m rfl with hc0 | ⟨b,cs,vn,lR,qW,jP,vj,lS⟩
  .have hx0:xs.length=0:=by omega
   have hy0:ys.length=0:=by omega
   have fD:aI=[]:=iC.1 (by rw[eH,hy0];simp);have hr:=FM (P:=P) w (ty:=o.type) h0 h1 oh mz i1 hn2 hroom (w':=w) (xa:=jK) (fun ad _=>by rw[fD];simp[storeCells]) (fun _=>rfl);obtain⟨g',z1,z2,z3⟩:=fin w.heap F (fun _ _ _=>rfl) (bN _) (fun _ h=>h) (fun _ h=>.inl h) (fun b h=>st.bk r b aQ (q3 b h)) Ed (.slice jK (xs.length+ys.length) cM)
    ⟨[.slice jK (xs++ys).length cM],by
     simp only[ag];exact⟨jK,cM,rfl,by rw[hlen];exact hroom,fun hne=>absurd (iC.1 (by rw[hlen];omega)) hne⟩,by rw[hlen];rfl⟩
   exact⟨_,_,by rw[hex,hr];rfl,g',z1,z2,z3,.refl _ _⟩
  .subst vn;have hfit:xs.length * e.width+aI.length<=cs.size:=by rw[eH,<-fl];exact jH (cq _ hroom) jP
   have mu:(storeCells (⟨b,xs.length * e.width,none⟩:Addr) aI).run P w=.ok () (w.setCells b (xs.length * e.width) aI):=by have th:=nE (w:=w) qW hfit;have:=run_storeCells_cells (P:=P) b (xs.length * e.width) aI 0 w (fun j hj=>by simpa using (th j hj).1) (fun j hj=>by simpa using (th j hj).2) o6;simpa using this
   have hr:=FM (P:=P) w (ty:=o.type) h0 h1 oh mz i1 hn2 hroom (w':=w.setCells b (xs.length * e.width) aI) (xa:=some ⟨b,0,none⟩)
    (fun ad e0=>by simp only[ay]at e0;subst e0;rw[Addr.add_mid,g_,i2];exact mu) (fun h=>by simp at h)
   have bw:∀b',b'≠b->(w.setCells b (xs.length * e.width) aI).heap[b']? = w.heap[b']?:=fun b' hb'=>tM aI _ w b' hb';have R_:=qW;obtain⟨ty,lo,hi,he,hfz⟩:=qW;obtain⟨dL,vr,kQ⟩:=EJ aI (xs.length * e.width) w cs he hfit;have j4:dL.size=cs.size:=by rw[<-dH,kQ,tP (by simpa using hfit),dH]
   have uu:mS (w.setCells b (xs.length * e.width) aI).heap b dL:=⟨ty,(lo,hi),vr⟩
   have pe:dL.toList.take ((xs.length+ys.length) * e.width)=bM++aI:=by
    have hmin:min (xs.length * e.width) cs.toList.length=xs.length * e.width:=by have h7:cs.toList.length=cs.size:=dH;omega
    rw[kQ,lS];simp only[aW,sub,iF];rw[mM (by
     rw[cS,dX,eH,hmin,fl];exact bN _)]
    rw[n6 (by
     rw[cS,dX,eH,hmin,fl];exact bN _)]
   have hmono:∀{t:Ty}{z:t.den}{c:List Value},ag w.heap g.Pr t .no z c Nil->ag (w.setCells b (xs.length * e.width) aI).heap (Un g.Pr F) t .no z c Nil:=fun h=>
    ag.mono (fun b' hb'=>.inl hb') (fun b' hb'=>bw b' (fun e0=>RZ b' hb' (e0 ▸ lR))) _ h (Sub.refl _) (fun _ h=>h.elim)
   have uE:∀k,k<xs.length+ys.length->sub dL (k * e.width) e.width=((bM++aI).drop (k * e.width)).take e.width:=fun k hk=>EK pe (by
    have:=cq e.width (show k+1<=xs.length+ys.length by exact hk);rw[gl]at this;exact this)
   obtain⟨g',z1,z2,z3⟩:=fin (w.setCells b (xs.length * e.width) aI).heap F (fun b' _ hb'=>bw b' (fun e0=>hb' (e0 ▸ lR))) (by rw[lp];exact bN _) (fun _ h=>h) (fun _ h=>.inl h)
    (fun b h=>by rw[lp];exact st.bk r b aQ (q3 b h))
    (wh (cells:=bM++aI) (.inr lR) uu (by rw[j4];exact jH (cq _ vB) jP) vB (fun k hk=>uE k (by omega)) (fun k hk=>by
     have:=ve k (by rw[hlen];omega);have e1:(xs++ys).getD k e.zero=xs.getD k e.zero:=by simp[List.getD,fo hk]
     rw[e1]at this;exact hmono this)) (.slice (some ⟨b,0,none⟩) (xs.length+ys.length) cM)
    ⟨[.slice (some ⟨b,0,none⟩) (xs++ys).length cM],wh (cells:=bM++aI) (.inr lR) uu (by rw[j4,hlen];exact jH (cq _ hroom) jP) (by rw[hlen];exact hroom) (fun k hk=>uE k (by rw[hlen]at hk;exact hk)) (fun k hk=>hmono (ve k hk)),by rw[hlen];rfl⟩
   have b7:=yu (b:=b) aI (xs.length * e.width) w;have Gn:g.L b:=st.own r b aQ (q3 b lR);exact⟨_,_,by rw[hex,hr];rfl,g',z1,z2,z3,⟨b7.1,b7.2.1,b7.2.2,by rw[lp];exact bN _,fun b' _ hb'=>bw b' (fun e0=>hb' (e0 ▸ Gn))⟩⟩
 .have Gp:xs.length+ys.length<=274877906944:=hbd;have o3:=uU (P:=P) (w:=w.drew) (size:=e.width) (n:=ys.length) (len:=ys.length) (cap:=gX) (ad:=mT) eH (by
   rcases hsrc iV with h | ⟨b,o',h3,h4⟩
   .exact .inl h
   .exact .inr ⟨b,o',h3,FL h4⟩)
  have oZ:=uU (P:=P) (w:=w.drew) (size:=e.width) (n:=xs.length) (len:=xs.length) (cap:=cM) (ad:=jK) jl (by
   rcases hsrc o_ with h | ⟨b,o',h3,h4⟩
   .exact .inl h
   .exact .inr ⟨b,o',h3,FL h4⟩)
  rw[<-i2]at o3 oZ;have hg:cM<xs.length+ys.length:=by omega
  have Ao:=Room.nextslicecap_le' (need:=xs.length+ys.length) (old:=cM) hg;have hfit:Builtin.nextslicecap (xs.length+ys.length) cM * i.bytes<=281474976710656:=by have h5:Builtin.nextslicecap (xs.length+ys.length) cM * i.bytes<=549755813888 * 255:=x9 (by omega) i4;omega
  have hr:=B8 (P:=P) w (ty:=o.type) h0 h1 oh mz i1 i3 o3 oZ hg (by omega) hfit;have hge:=grownCap_ge w (xs.length+ys.length) cM u;generalize grownCap w (xs.length+ys.length) cM u=cap' at hr hge;generalize oc:(bM.toArray++aI.toArray++Builtin.zeroCells (bK (C.ty u) (zc (C.ty u))).cells (cap'-(xs.length+ys.length)))=cs at hr;have vt:cs.toList.take ((xs.length+ys.length) * e.width)=bM++aI:=by rw[<-oc];simp only[Array.toList_append,fe];rw[<-fe,mM (by rw[gZ];exact bN _),n6 (by rw[gZ];exact bN _)]
  have vu:(xs.length+ys.length) * e.width<=cs.size:=by
   rw[<-oc];have h9:bM.length+aI.length=(xs.length+ys.length) * e.width:=by rw[<-cS];exact gZ
   simp only[Array.size_append,List.size_toArray,h9];omega
  have hold:∀b,b<w.heap.size->(w.heap.push (.cells cs u))[b]? = w.heap[b]?:=fun b hb=>rK b hb;have mc:mS (w.heap.push (.cells cs u)) w.heap.size cs:=(fI.new (h:=w.heap) (cs:=cs) (e:=u)).rS;have hmono:∀{t:Ty}{z:t.den}{c:List Value},ag w.heap g.Pr t .no z c Nil->ag (w.heap.push (.cells cs u)) (Un g.Pr fun b=>F b\/b=w.heap.size) t .no z c Nil:=fun h=>
   ag.mono (fun b' hb'=>.inl hb') (fun b' hb'=>hold b' (st.aV b' hb')) _ h (Sub.refl _) (fun _ h=>h.elim)
  obtain⟨g',z1,z2,z3⟩:=fin (w.heap.push (.cells cs u)) (fun b=>F b\/b=w.heap.size) (fun b hb _=>hold b hb) (by simp) (fun _ h=>.inl h) (fun b h=>h.imp id (fun h=>by omega))
   (fun b h=>by
    rw[Array.size_push];rcases h with h | h
    .have:=st.bk r b aQ (q3 b h);omega
    .omega)
   (ag.mono (fun b hb=>hb.imp id .inl) (fun b hb=>hold b (hb.elim (st.aV b) fun h=>st.bk r b aQ (q3 b h))) _ Ed (Sub.refl _) (fun _ h=>h.elim)) (.slice (some ⟨w.heap.size,0,none⟩) (xs.length+ys.length) cap')
   ⟨[.slice (some ⟨w.heap.size,0,none⟩) (xs++ys).length cap'],wh (cells:=bM++aI) (.inr (.inr rfl)) mc (by rw[hlen];exact vu) (by rw[hlen];exact hge) (fun k hk=>EK vt (by
    rw[hlen]at hk;have:=cq e.width (show k+1<=xs.length+ys.length by exact hk);rw[gl]at this;exact this)) (fun k hk=>hmono (ve k hk)),by rw[hlen];rfl⟩
  refine⟨_,w.drew.alloc (.cells cs u),by rw[hex,hr];rfl,g',z1,z2,z3,?_⟩;exact⟨rfl,rfl,rfl,by show w.heap.size<=(w.heap.push _).size;simp,fun b hb _=>rK b hb⟩
theorem Jd{o:Oper}{c:Call}{x y:Operand}{t t':TypeId}{e:Ty}(ho:o.op=.call c)(hc:c.callee=.builtin .append)(hargs:c.args = #[x,y])
  (h0:c.argTypes[0]? = some t) (h1:c.argTypes[1]? = some t') (hT:C.ty t=.sl e) (uo:C.ty t'=.sl e)
  (ht:aX (lf S.rt e (ρ x) (ρ y))):cV P S g w tmps (lf S.rt e (ρ x) (ρ y)) ((execOp a.eval o).run P w):=by
 cases vI:ρ x with
 | bu r p s=>
  cases rf:ρ y with
  | val ty ys=>
   cases ty with
   | sl t2=>
    rw[vI,rf]at ht;unfold lf at ht⊢;simp only at ht⊢;cases hR:S.rt.root r with
    | none=>rw[hR]at ht;exact absurd ht aX.fail
    | some R=>
     rw[hR]at ht;simp only at ht⊢;cases hf:focus R.ty R.ms R.x p with
     | none=>rw[hf]at ht;exact absurd ht aX.fail
     | some d=>
      obtain⟨dt,dm,dx⟩:=d;cases dt with
      | sl e'=>
       cases dm with
       | own s' m=>
        rw[hf]at ht;simp only at ht⊢;by_cases hs:s=s'/\e'=e/\t2=e/\m.still=true
        .simp only[aE hs]at ht⊢;obtain⟨rfl,rfl,rfl,hm⟩:=hs;rw[D6,D6]at ht⊢;cases hput:put R.ty R.ms R.x p (.sl t2) .no dx with
         | none=>rw[hput]at ht;exact absurd ht aX.fail
         | some r'=>
          rw[hput]at ht;simp only at ht⊢;obtain⟨⟨v,rt'⟩,hd⟩:=ht true;simp only[Tr.dec]at hd;by_cases hbd:(dx:List t2.den).length+(ys:List t2.den).length<=gj
          .obtain⟨val,w',hrun,hpost⟩:=Kn (m':=r'.1) (x':=r'.2) aM st hρ ho hc hargs h0 h1 hT uo vI rf hR hf hm hput hbd;exact cV.value hrun ⟨true,_,_,by simp only[Tr.dec,bJ hbd];rfl,hpost⟩
          .rw[c6 hbd]at hd;simp at hd
        .rw[ax hs]at ht;exact absurd ht aX.fail
       | _=>rw[hf]at ht;exact absurd ht aX.fail
      | _=>rw[hf]at ht;exact absurd ht aX.fail
   | _=>rw[vI,rf]at ht;exact absurd ht aX.fail
  | _=>rw[vI,rf]at ht;exact absurd ht aX.fail
 | _=>rw[vI]at ht;exact absurd ht aX.fail
end
end Go.V
namespace Go.V
noncomputable section
open Go
theorem Js{t:Ty}{xs ys:List t.den}:(rN t xs ys).length=xs.length:=by simp only[rN,cS,dX,n7];omega
theorem Jr{t:Ty}{xs ys:List t.den}(i:Nat)(hi:i<xs.length):(rN t xs ys).getD i t.zero=if i<min ys.length xs.length then ys.getD i t.zero else xs.getD i t.zero:=by
 unfold rN;simp only[List.getD];by_cases h:i<ys.length
 .rw[aE (by omega),fo (by rw[dX];omega),di,aE hi]
 .rw[ax (by omega),fW (by rw[dX];omega),dW,dX];congr 2;omega
theorem Jj{w k:Nat}{cs dL:Array Value}{news:List Value}(hl:news.length=k * w)(hfit:k * w<=cs.size)(e:dL.toList=aW cs.toList 0 news)(i:Nat) :
  sub dL (i * w) w=if i<k then (news.drop (i * w)).take w else sub cs (i * w) w:=by
 have hf:0+news.length<=cs.toList.length:=by rw[hl,dH];omega
 unfold sub;apply kq;intro j;rw[di,dW,e,BT hf,hl];by_cases hj:j<w
 .rw[aE hj,ax (by omega)];by_cases h1:i<k
  .have a2:=cq w (show i+1<=k by omega);rw[gl]at a2;rw[aE h1,aE (by omega),di,aE hj,dW];congr 1
  .have:=cq w (show k<=i by omega);rw[ax h1,ax (by omega),di,aE hj,dW]
 .rw[ax hj];split
  .rw[di,ax hj]
  .rw[di,ax hj]
theorem JY{w:World}{S:St}{g:ai}{tmps:Array Value}(st:aj w.heap S g tmps Nil){r:Nat}{p:Path}{R:aB}{t:Ty}{s:Nat}{xs ys:List t.den}{jL:dc}{ad:Option Addr}{n cap:Nat}
  (hR:S.root r=some R) (hf:focus R.ty R.ms R.x p=some ⟨.sl t,.own s .no,xs⟩) (hin:bO R.ty R.x p) (cz:a_ w.heap R.ty (g.C r) (g.base r) p=some (jL,[.slice ad n cap])) (hs:s<1048576)
  {k:Nat} (hk:k=min ys.length xs.length) (h1:0<k) {news:List Value} (yR:news.length=k * t.width)
  (hy:∀i,i<k->ag w.heap g.Pr t .no (ys.getD i t.zero) ((news.drop (i * t.width)).take t.width) Nil)
  {m':Mk} {x':R.ty.den} (hput:put R.ty R.ms R.x p (.sl t) (.own s .no) (rN t xs ys)=some (m',x')) :
  n=xs.length/\∃b,ad=some ⟨b,0,none⟩/\g.L b/\w.there b 0 (k * t.width)/\∃g',aj (w.setCells b 0 news).heap (S.ak r (some { R with ms:=m',x:=x' })) g' tmps Nil/\g'.bG g:=by
 have hm:Mk.still .no=true:=rfl;obtain⟨base,c,F,q1,q2,q3,q4,q5,q6⟩:=st.update hR hf hin;rw[cz]at q1;simp only[ay,aJ]at q1;obtain⟨rfl,rfl⟩:=q1;have S8:=q2;simp only[ag]at q2;obtain⟨Rw,cap',e0,hl,hr⟩:=q2;simp only[dj,Value.slice.injEq,f_]at e0;obtain⟨rfl,rfl,rfl⟩:=e0;refine⟨rfl,?_⟩;rcases hr with hr | ⟨b,cs,rfl,fb,hb,hsz,Fs,jN,hd,re⟩
 .omega
 have aQ:(S.root r).isSome:=by rw[hR];rfl
 have oM:=q3 b fb;have kR:k * t.width<=cs.size:=jH (cq _ (by omega)) hsz;have hfit:0+news.length<=cs.size:=by omega
 have bw:∀b',b'≠b->(w.setCells b 0 news).heap[b']? = w.heap[b']?:=fun b' hb'=>tM _ _ w b' hb';obtain⟨dL,jZ,oI⟩:=sJ (w:=w) (base:=some (b,0)) (c2:=news) rfl hb hfit b 0 rfl cs hb;have j4:dL.size=cs.size:=by rw[<-dH,oI,tP (by rw[dH];exact hfit),dH]
 have hsub:=Jj (w:=t.width) yR kR oI;have yM:¬ g.Pr b:=fun hb'=>st.ck r aQ b oM hb';have iW:(Mk.own s .no).af=true:=by simp only[Mk.af,aO];exact⟨ko hs,trivial⟩
 have hlen:(rN t xs ys).length=xs.length:=Js;have fJ:ag (w.setCells b 0 news).heap g.Pr (.sl t) (.own s .no) (rN t xs ys) [.slice (some ⟨b,0,none⟩) xs.length cap] F:=by
  simp only[ag];refine⟨_,cap,by rw[hlen],by rw[hlen];exact hl,.inr ⟨b,dL,rfl,fb,jZ,by rw[j4];exact hsz,Fs,jN,hd,fun i hi'=>?_⟩⟩;rw[hlen]at hi';rw[Jr i hi',hsub,<-hk];by_cases hz:i<k
  .rw[aE hz,aE hz];exact ag.mono (Sub.refl _) (fun b' hb'=>bw b' (fun e=>yM (e ▸ hb'))) _ (hy i hz) (Sub.nil _) (fun b' hb'=>hb'.elim)
  .rw[ax hz,ax hz];exact ag.mono (Sub.refl _) (fun b' hb'=>bw b' (fun e=>yM (e ▸ hb'))) _ (re i hi') (Sub.refl _) (fun b' hb'=>bw b' (fun e=>(jN i).2 (e ▸ hb')))
 obtain⟨g2,s1,s2,s3,s4,s5,s6⟩:=q6 0 0 (w.setCells b 0 news).heap (.own s .no) (rN t xs ys) [.slice (some ⟨b,0,none⟩) xs.length cap] F m' x'
  (fun u=>uQ _) (fun b' _ hb' _=>bw b' (fun e=>hb' (e ▸ fb))) (by rw[lp];exact bN _)
  (by
   intro b' o e cs' ju;obtain⟨og,N8,o5,kS,kW⟩:=q4 b' o e;have hne:b'≠b:=fun e=>og (e ▸ fb);refine⟨cs',ju.congr (bw b' hne),?_⟩;have:=ju.uniq o5;subst this;have hr:=sI (c:=cs'.toList) (n:=o) (k:=1) (by rw[dH];exact kS);have mY:(cs'.toList.drop o).take 1=[Value.slice (some ⟨b,0,none⟩) xs.length cap]:=kW;rw[mY]at hr;exact hr.symm)
  fJ (fun b' hb'=>.inl hb') (fun b' hb'=>by rw[lp];exact st.bk r b' aQ (q3 b' hb')) hput (Mk.cE 0 0 _)
  (aA.af _ iW) (fun _=>iW)
  (by
   intro p' t1 n1 _ dF hi';cases p' with
   | nil=>refine⟨trivial,fun bp cp ha=>⟨cp,?_,fun _ _ _ _=>rfl⟩⟩;simp only[a_]at ha⊢;exact ha
   | cons x p'=>
    cases x with
    | fst=>simp[q8]at dF
    | snd=>simp[q8]at dF
    | idx i s'=>
     simp only[q8]at dF;split at dF
     .obtain⟨rZ,iw⟩:=sC p' hm dF;simp only[bO]at hi';refine⟨?_,fun bp cp ha=>?_⟩
      .simp only[bO];exact⟨by rw[hlen];exact hi'.1,pZ p' _ rZ dF⟩
      .obtain⟨e1,l1,u1,Gx,_⟩:=hb;obtain⟨e2,l2,u2,nu,_⟩:=jZ;simp only[a_,Gx]at ha;obtain⟨fh,h3⟩:=uS (h':=(w.setCells b 0 news).heap) p' _ (sub dL (i * t.width) t.width) _ rZ ha;refine⟨fh,by simp only[a_,nu];exact h3,fun s4 a4 e4 _=>?_⟩;rw[e4]at iw;simp[Mk.still]at iw
     .simp at dF)
 exact⟨b,rfl,st.own r b aQ oM,nE hb (by omega),g2,s1.aN (Sub.nil _),s3⟩
section
variable {P:Program} {C:Ctx} {D:Den C} {S:St} {g:ai} {w:World} {tmps:Array Value} {a:Act} {ρ:Operand->AV}
variable {A:aZ} {site:Nat} {hint:Bool} (aM:e_ P C) (st:aj w.heap S g tmps Nil) (hρ:∀x,qe w.heap S g (ρ x) (a.eval x))
include aM st hρ
theorem I7{o:Oper}{c:Call}{x y:Operand}{t:TypeId}{e:Ty}(ho:o.op=.call c)(hc:c.callee=.builtin .copy)(hargs:c.args = #[x,y])
  (h0:c.argTypes[0]? = some t) (hT:C.ty t=.sl e) (ht:aX (pQ S.rt e (ρ x) (ρ y))):cV P S g w tmps (pQ S.rt e (ρ x) (ρ y)) ((execOp a.eval o).run P w):=by
 have hx:=hρ x;have Hs:=hρ y;unfold pQ at ht⊢;cases hv:ρ x with
 | bu r p s=>
  cases rf:ρ y with
  | val ty jf=>
   rw[hv,rf]at ht;rw[hv]at hx;rw[rf]at Hs;cases ty with
   | sl t2=>
    simp only at ht⊢;cases hR:S.rt.root r with
    | none=>rw[hR]at ht;exact absurd ht aX.fail
    | some R=>
     rw[hR]at ht;simp only at ht⊢;cases hf:focus R.ty R.ms R.x p with
     | none=>rw[hf]at ht;exact absurd ht aX.fail
     | some d=>
      obtain⟨dt,dm,dx⟩:=d;cases dt with
      | sl e'=>
       cases dm with
       | own s' m=>
        cases m with
        | no=>
         rw[hf]at ht;simp only at ht⊢;by_cases hs:s=s'/\e'=e/\t2=e/\s'<1048576
         .simp only[aE hs]at ht⊢;obtain⟨rfl,rfl,rfl,G8⟩:=hs;cases vv:qbv (.sl t2) (.sl t2) jf with
          | none=>rw[vv]at ht;exact absurd ht aX.fail
          | some ys=>
           rw[vv]at ht;simp only at ht⊢;obtain⟨ee,hys⟩:=uP vv;simp only at hys;subst hys;cases hput:put R.ty R.ms R.x p (.sl t2) (.own s .no) (rN t2 dx jf) with
           | none=>rw[hput]at ht;exact absurd ht aX.fail
           | some r'=>
            simp only;obtain⟨u,oh,uG,AF⟩:=aM.desc hT;have ku:=aM u AF;obtain⟨i,i1,i2,i3,i4⟩:=ku.info;rw[uG]at i2;simp only[qe]at hx Hs;obtain⟨hin,jL,cz⟩:=hx R hR t2 .no dx hf;obtain⟨c2,yD,zP⟩:=Hs;obtain⟨mT,gX,aI,kH,rfl,eH,Ag,iV,qV,js,_⟩:=zD (by simp) (by simp) yD;have rU:a.eval y=.slice mT (List.length jf) gX:=zP;obtain⟨base,c0,F,q1,j8,_⟩:=st.update hR hf hin;rw[cz]at q1;simp only[ay,aJ]at q1;obtain⟨rfl,rfl⟩:=q1;obtain⟨jK,cM,bM,N3,vc,_⟩:=zD (by simp) (by simp) j8;simp only[dj,f_]at vc;have Em:=vc;rw[vc]at cz;have hex:∀k news w',k=min (List.length jf) (List.length dx)->(Builtin.firstCells i.size k (.slice mT (List.length jf) gX)).run P w=.ok (List.toArray news) w->
              (∀ad,jK=some ad->(storeCells ad news).run P w=.ok () w')->(jK=none->w'=w)->
              (execOp a.eval o).run P w=.ok (.value (goInt k)) w':=by
             intro k news w' hk hn hst hno;have hk':Nat.min (List.length jf) (List.length dx)=k:=hk.symm;cases jK with
             | none=>obtain rfl:=hno rfl;simp[execOp,ho,resolve,hc,invoke,builtin,hargs,Em,rU,Sem.run_bind,Builtin.copy_,h0,run_underlying oh,Builtin.lenOf,sizeOf,typeInfo,i1,hk',hn]
             | some ad=>have:=hst ad rfl;simp[execOp,ho,resolve,hc,invoke,builtin,hargs,Em,rU,Sem.run_bind,Builtin.copy_,h0,run_underlying oh,Builtin.lenOf,sizeOf,typeInfo,i1,hk',hn,this]
            by_cases hpos:0<List.length jf/\0<List.length dx
            .have m4:∃b o,mT=some ⟨b,o,none⟩/\w.rangeAt b o (aI.take (min (List.length jf) (List.length dx) * t2.width)):=by
              rcases iV with⟨h0,_⟩ | ⟨b,o,cs,h1,h2,h3,h4⟩
              .omega
              .refine⟨b,o,h1,?_⟩;have iJ:min (List.length jf) (List.length dx) * t2.width<=List.length jf * t2.width:=cq _ (by omega);have:=tO (n:=min (List.length jf) (List.length dx) * t2.width) (o:=o) h2 (by omega);have e3:aI.take (min (List.length jf) (List.length dx) * t2.width)=sub cs o (min (List.length jf) (List.length dx) * t2.width):=by rw[h4];simp only[sub,nF];congr 1;omega
               rw[e3];exact this
             have yR:(aI.take (min (List.length jf) (List.length dx) * t2.width)).length=min (List.length jf) (List.length dx) * t2.width:=by rw[dX,eH];have iJ:min (List.length jf) (List.length dx) * t2.width<=List.length jf * t2.width:=cq _ (by omega);omega
             generalize hk:min (List.length jf) (List.length dx)=k at m4 yR;generalize hnews:aI.take (k * t2.width)=news at m4 yR;have Av:∀j,j<k->ag w.heap g.Pr t2 .no (List.getD jf j t2.zero) ((news.drop (j * t2.width)).take t2.width) Nil:=by
              intro j hj;have:=qV.rep j (by omega);have e4:(news.drop (j * t2.width)).take t2.width=(aI.drop (j * t2.width)).take t2.width:=by rw[<-hnews,AZ,nF];congr 1;have:=cq t2.width (show j+1<=k by omega);rw[gl]at this;omega
              rw[e4];exact ag.room _ this (fun b hb=>(js j b hb).elim)
             obtain⟨_,b,hb,GB,uF,g',st',hsame⟩:=JY (m':=r'.1) (x':=r'.2) (ys:=jf) st hR hf hin cz G8 hk.symm (by omega) yR Av hput;have h1c:∀v∈news,v.oneCell'=true:=by
              obtain⟨b2,o2,_,OC⟩:=m4;intro v hv;obtain⟨j,hj,rfl⟩:=jg.1 hv;have hj2:j<k * t2.width:=by omega
              have hw:0<t2.width:=by
               rcases Nat.eq_zero_or_pos t2.width with h | h
               .rw[h]at hj2;omega
               .exact h
              have Sf:=x8 j t2.width;have oe:j / t2.width<k:=(Nat.div_lt_iff_lt_mul hw).2 hj2;have hmod:=so j hw;refine ag.one _ (Av (j / t2.width) oe) _ ?_;apply HS.2;refine⟨j % t2.width,?_⟩;rw[di,aE hmod,dW,show j / t2.width * t2.width+j % t2.width=j by rw[mE];exact Sf,gv hj]
             have AE:=run_storeCells_cells (P:=P) b 0 news 0 w (fun j hj=>by have:=(uF j (by omega)).1;simpa using this) (fun j hj=>by have:=(uF j (by omega)).2;simpa using this) h1c;simp only[iG]at AE;have mh:(Builtin.firstCells i.size k (.slice mT (List.length jf) gX)).run P w=.ok (List.toArray news) w:=
              uU (by rw[i2];exact yR) (.inr (by obtain⟨b2,o2,e2,OC⟩:=m4;exact⟨b2,o2,e2,OC⟩))
             have hrun:=hex k news (w.setCells b 0 news) hk.symm mh (fun ad ha=>by rw[hb]at ha;injection ha with ha;rw[<-ha];exact AE) (fun ha=>by rw[hb]at ha;exact absurd ha (by simp));have b7:=yu (b:=b) news 0 w;refine cV.value (val:=goInt k) (w':=w.setCells b 0 news) hrun ⟨true,.val (.int .i64) ((k:Nat):Int),_,by simp only[Tr.dec,bJ hpos.1,bJ hpos.2,tw],g',st',nU _ _,hsame,⟨b7.1,b7.2.1,b7.2.2,by rw[lp];exact bN _,fun b' _ hb'=>tM _ _ w b' (fun e=>hb' (e ▸ GB))⟩⟩
            .have GH:0=min (List.length jf) (List.length dx):=by omega
             have hrun:=hex 0 [] w GH (uU (by simp) (.inl ⟨rfl,rfl⟩)) (fun ad _=>rfl) (fun _=>rfl);refine cV.value (val:=goInt 0) (w':=w) hrun ⟨true,.val (.int .i64) ((0:Nat):Int),_,?_,Post.same st (nU _ _)⟩;have:(decide (0<List.length jf)&&decide (0<List.length dx))=false:=by rw[<-Bool.not_eq_true,aO,decide_eq_true_iff,decide_eq_true_iff];exact hpos
             simp only[Tr.dec,this]
         .rw[ax hs]at ht;exact absurd ht aX.fail
        | _=>rw[hf]at ht;exact absurd ht aX.fail
       | _=>rw[hf]at ht;exact absurd ht aX.fail
      | _=>rw[hf]at ht;exact absurd ht aX.fail
   | _=>exact absurd ht aX.fail
  | _=>rw[hv,rf]at ht;exact absurd ht aX.fail
 | _=>rw[hv]at ht;exact absurd ht aX.fail
end
end
section
variable {P:Program} {C:Ctx} {D:Den C} {S:St} {g:ai} {w:World} {tmps:Array Value} {a:Act} {ρ:Operand->AV}
variable {A:aZ} {site:Nat} {hint:Bool} (aM:e_ P C) (st:aj w.heap S g tmps Nil) (hρ:∀x,qe w.heap S g (ρ x) (a.eval x))
theorem sW{α β:Type}{f:α->β}{l:List α}{x y:β}(h:l.map f=[x,y]):∃u v,l=[u,v]/\f u=x/\f v=y:=by
 match l,h with
 | [u,v],h=>simp only[dn,kz,dj,f_]at h;exact⟨u,v,rfl,h.1,h.2⟩
theorem JW{α β:Type}{f:α->β}{l:List α}{x y:β}{r:List β}(h:l.map f=x::y::r):l[0]?.map f=some x/\l[1]?.map f=some y:=by
 match l,h with
 | u::v::l,h=>simp only[dn,dj]at h;simp[h.1,h.2.1]
include aM st hρ
theorem CS{o:Oper}{c:Call}{b:Builtin}(ho:o.op=.call c)(hc:c.callee=.builtin b)(hb:b=.min\/b=.max):Goal P C D S g w tmps a ρ A site hint o:=by
 intro ht;rcases hb with rfl | rfl
 .simp only[aS,ho,hc]at ht⊢;split at ht<;>try (first | contradiction | exact absurd ht aX.fail)
  rename_i hargs;obtain⟨u,v,hl,hu,hv⟩:=sW hargs;have e1:c.args = #[u,v]:=by rw[<-jE (xs:=c.args),hl]
  split at ht
  .rename_i ka x kb y;by_cases hk:ka=kb
   .subst hk;simp only[aK]at ht⊢;have hx:=hρ u;have hy:=hρ v;rw[hu]at hx;rw[hv]at hy;refine cV.ret (val:=.int ka (if y<x then y else x)) ?_ st (nU _ _);simp[execOp,ho,resolve,hc,invoke,builtin,Builtin.min_,Builtin.min2,e1,tZ hx,tZ hy,Sem.run_bind]
   .rw[ax hk]at ht;exact absurd ht aX.fail
  .exact absurd ht aX.fail
 .simp only[aS,ho,hc]at ht⊢;split at ht<;>try (first | contradiction | exact absurd ht aX.fail)
  rename_i hargs;obtain⟨u,v,hl,hu,hv⟩:=sW hargs;have e1:c.args = #[u,v]:=by rw[<-jE (xs:=c.args),hl]
  split at ht
  .rename_i ka x kb y;by_cases hk:ka=kb
   .subst hk;simp only[aK]at ht⊢;have hx:=hρ u;have hy:=hρ v;rw[hu]at hx;rw[hv]at hy;refine cV.ret (val:=.int ka (if y>x then y else x)) ?_ st (nU _ _);simp[execOp,ho,resolve,hc,invoke,builtin,Builtin.max_,Builtin.max2,e1,tZ hx,tZ hy,Sem.run_bind]
   .rw[ax hk]at ht;exact absurd ht aX.fail
  .exact absurd ht aX.fail
theorem Iq{o:Oper}{c:Call}{b:Builtin}(ho:o.op=.call c)(hc:c.callee=.builtin b)(ok:jk A S o.dst site):Goal P C D S g w tmps a ρ A site hint o:=by
 cases b with
 | len=>exact KC aM st hρ ho hc
 | min=>exact CS aM st hρ ho hc (.inl rfl)
 | max=>exact CS aM st hρ ho hc (.inr rfl)
 | append=>
  intro ht;simp only[aS,ho,hc]at ht⊢;split at ht<;>try (first | contradiction | exact absurd ht aX.fail)
  rename_i x0 y0 e e' _ _ hargs fS;obtain⟨u,v,hl,hu,hv⟩:=sW hargs;obtain⟨q1,q2⟩:=JW fS;simp only[c5,lK]at q1 q2;obtain⟨t,yT,hT⟩:=q1;obtain⟨t',yU,uo⟩:=q2;have e1:c.args = #[u,v]:=by rw[<-jE (xs:=c.args),hl]
  by_cases hee:e=e'
  .subst hee;simp only[aK]at ht⊢;subst hu;subst hv;cases hint with
   | false=>simp only[cL,bY]at ht⊢;exact Iz aM st hρ ho hc e1 yT yU hT uo ok ht
   | true=>simp only[aK]at ht⊢;exact Jd aM st hρ ho hc e1 yT yU hT uo ht
  .rw[ax hee]at ht;exact absurd ht aX.fail
 | clear=>
  intro ht;simp only[aS,ho,hc]at ht⊢;split at ht<;>try (first | contradiction | exact absurd ht aX.fail)
  rename_i x0 e _ _ hargs fS;obtain⟨u,hl,hu⟩:∃u,c.args.toList=[u]/\ρ u=x0:=by
   match hq:c.args.toList,hargs with
   | [u],h=>simp only[hq,dn,kz,dj,f_]at h;exact⟨u,rfl,h⟩
  obtain⟨t,yT,hT⟩:∃t,c.argTypes[0]? = some t/\C.ty t=.sl e:=by
   match hq:c.argTypes.toList,fS with
   | t::l,h=>simp only[hq,dn,dj]at h;exact⟨t,by rw[<-lK,hq];rfl,h.1⟩
  have e1:c.args = #[u]:=by rw[<-jE (xs:=c.args),hl]
  subst hu;exact Jy aM st hρ ho hc e1 yT hT ht
 | copy=>
  intro ht;simp only[aS,ho,hc]at ht⊢;split at ht<;>try (first | contradiction | exact absurd ht aX.fail)
  rename_i x0 y0 e _ _ hargs fS;obtain⟨u,v,hl,hu,hv⟩:=sW hargs;obtain⟨t,yT,hT⟩:∃t,c.argTypes[0]? = some t/\C.ty t=.sl e:=by
   match hq:c.argTypes.toList,fS with
   | t::l,h=>simp only[hq,dn,dj]at h;exact⟨t,by rw[<-lK,hq];rfl,h.1⟩
  have e1:c.args = #[u,v]:=by rw[<-jE (xs:=c.args),hl]
  subst hu;subst hv;exact I7 aM st hρ ho hc e1 yT hT ht
 | _=>intro ht;simp only[aS,ho,hc]at ht⊢;exact absurd ht aX.fail
theorem KK{o:Oper}(ok:jk A S o.dst site)(mV:∀c f,o.op=.call c->c.callee=.value f->Goal P C D S g w tmps a ρ A site hint o):Goal P C D S g w tmps a ρ A site hint o:=by
 cases ho:o.op with
 | move x=>exact Kl st hρ ho
 | assign x=>exact IB aM st hρ ho ok
 | pick c x y=>exact Kq st hρ ho
 | alloc t=>exact I3 aM st hρ ho ok
 | box t x=>exact KA aM st hρ ho ok
 | build t ps=>exact IV aM st hρ ho ok
 | buildSlice t n ps=>exact JI aM st hρ ho ok
 | load t x=>exact Ki aM st hρ ho
 | store t x y=>exact Ji aM st hρ ho ok
 | nilCheck x=>exact KE st hρ ho
 | binOp op t x y t2=>exact IU aM st hρ ho
 | unOp op t x=>exact Kf st hρ ho
 | convert s d x=>exact Ik aM st hρ ho
 | makeFunc f x y=>exact Ig aM st hρ ho
 | makeSlice t x y=>exact JV aM st hρ ho ok
 | slice t x lo hi mx=>
  cases mx with
  | none=>exact Jh aM st hρ ho ok
  | some v=>intro ht;simp only[aS,ho]at ht;exact absurd ht aX.fail
 | fieldAddr t x f=>exact JP aM st hρ ho
 | field t x f=>exact I9 aM st hρ ho
 | indexAddr t x i=>exact JS aM st hρ ho
 | index t x i=>exact Ja aM st hρ ho
 | extract x i=>exact Ir aM st hρ ho
 | call c=>
  cases hc:c.callee with
  | builtin b=>exact Iq aM st hρ ho hc ok
  | value f=>exact mV c f ho hc
  | invoke r m=>intro ht;simp only[aS,ho,hc]at ht;exact absurd ht aX.fail
 | _=>intro ht;simp only[aS,ho]at ht;exact absurd ht aX.fail
end
end Go.V
namespace Go.V
noncomputable section
open Go
def PG(Pr:BS):ai:=⟨Pr,fun _=>[],fun _=>none,fun _=>Nil,fun _=>undef,Nil,Nil⟩
def ow(h:Array Obj)(Pr:BS)(t:Ty)(m:Mk)(x:t.den)(v:Value)(F:BS):Prop:=
 ∃b c F0,v=.pointer (some ⟨b,0,none⟩)/\ag h Pr t m x c F0/\fI h b c.toArray/\F b/\Sub F0 F/\¬ F0 b
def kE(h:Array Obj)(Pr:BS)(t:Ty)(m:Mk)(x:t.den)(v:Value)(F:BS):Prop:=
 ∃c,ag h Pr t m x c F/\v=bK t c
def FU(h:Array Obj)(Pr:BS):(k:PK)->k.den->Value->BS->Prop
 | .val t,x,v,_=>kE h Pr t .no x v Nil
 | .own t m,x,v,F=>kE h Pr t m x v F
 | .cD t m _,x,v,F=>kE h Pr t m x v F
 | .bS t m _,x,v,F=>ow h Pr t m x v F
 | .bP t,x,v,_=>p_ h (PG Pr) t x v
 | .fn,c,v,_=>∃vs,v=.func (.func c.f) #[] vs.toArray/\jn h (PG Pr) c.caps vs
def qF(h:Array Obj)(Pr:BS)(Fs:Nat->BS):Nat->(ks:List PK)->eF ks->List Value->Prop
 | _,[],_,vs=>vs=[]
 | i,k::ks,a,vs=>∃v vs',vs=v::vs'/\FU h Pr k a.1 v (Fs i)/\qF h Pr Fs (i+1) ks a.2 vs'
def jz(h:Array Obj)(Pr:BS)(Fs:Nat->BS):Nat->(ks:List PK)->fP ks->List Value->Prop
 | _,[],_,vs=>vs=[]
 | i,.own t m::ks,a,vs=>∃v vs',vs=v::vs'/\kE h Pr t m a.1 v (Fs i)/\jz h Pr Fs (i+1) ks a.2 vs'
 | i,.val _::ks,a,vs=>∃v vs',vs=v::vs'/\jz h Pr Fs (i+1) ks a vs'
 | i,.bS _ _ _::ks,a,vs=>∃v vs',vs=v::vs'/\jz h Pr Fs (i+1) ks a vs'
 | i,.cD _ _ _::ks,a,vs=>∃v vs',vs=v::vs'/\jz h Pr Fs (i+1) ks a vs'
 | i,.bP _::ks,a,vs=>∃v vs',vs=v::vs'/\jz h Pr Fs (i+1) ks a vs'
 | i,.fn::ks,a,vs=>∃v vs',vs=v::vs'/\jz h Pr Fs (i+1) ks a vs'
def iZ(h:Array Obj)(Pr:BS)(Fs:Nat->BS):Nat->(ks:List PK)->bV ks->List Value->Prop
 | _,[],_,vs=>vs=[]
 | i,.bS t _ m::ks,o,vs=>∃v vs',vs=v::vs'/\ow h Pr t m o.1 v (Fs i)/\iZ h Pr Fs (i+1) ks o.2 vs'
 | i,.cD t _ m::ks,o,vs=>∃v vs',vs=v::vs'/\kE h Pr t m o.1 v (Fs i)/\iZ h Pr Fs (i+1) ks o.2 vs'
 | i,.val _::ks,o,vs=>∃v vs',vs=v::vs'/\iZ h Pr Fs (i+1) ks o vs'
 | i,.own _ _::ks,o,vs=>∃v vs',vs=v::vs'/\iZ h Pr Fs (i+1) ks o vs'
 | i,.bP _::ks,o,vs=>∃v vs',vs=v::vs'/\iZ h Pr Fs (i+1) ks o vs'
 | i,.fn::ks,o,vs=>∃v vs',vs=v::vs'/\iZ h Pr Fs (i+1) ks o vs'
def l9(h:Array Obj)(Pr:BS):(k:RK)->k.den->Value->BS->Prop
 | .val t m,x,v,F=>kE h Pr t m x v F
 | .ptr t m,x,v,F=>ow h Pr t m x v F
def gO(h:Array Obj)(Pr:BS)(Fs:Nat->BS):Nat->(ks:List RK)->dU ks->List Value->Prop
 | _,[],_,vs=>vs=[]
 | i,k::ks,a,vs=>∃v vs',vs=v::vs'/\l9 h Pr k a.1 v (Fs i)/\gO h Pr Fs (i+1) ks a.2 vs'
def m7:List Value->Value
 | [v]=>v
 | vs=>.tuple vs.toArray
structure Pre (h:Array Obj) (Pr:BS) (Fs:Nat->BS) (ks:List PK) (a:eF ks) (vs:List Value):Prop where
 rel:qF h Pr Fs 0 ks a vs
 cj:∀i j,i≠j->bz (Fs i) (Fs j)
 ck:∀i,bz (Fs i) Pr
 SN:∀i b,Fs i b->b<h.size
 aV:∀b,Pr b->b<h.size
def nh(n:Nat)(Fs:Nat->BS):BS:=fun b=>n<=b\/∃i,Fs i b
structure Ek (w w':World) (Pr:BS) (Fs:Nat->BS) (ks:List PK) (rs:List RK) (r:dU rs) (o:bV ks) (vs:List Value) (val:Value) (dD:BS) (Gs Os:Nat->BS) (us:List Value):Prop where
 res:gO w'.heap dD Gs 0 rs r us
 val:val=m7 us
 out:iZ w'.heap dD Os 0 ks o vs
 pr:Sub Pr dD
 gM:∀b,dD b->Pr b\/nh w.heap.size Fs b
 gL:∀i b,Gs i b->nh w.heap.size Fs b
 oL:∀i b,Os i b->nh w.heap.size Fs b
 rV:∀i j,i≠j->bz (Gs i) (Gs j)
 HA:∀i j,i≠j->bz (Os i) (Os j)
 go:∀i j,bz (Gs i) (Os j)
 gp:∀i,bz (Gs i) dD
 op:∀i,bz (Os i) dD
 oJ:∀i b,Gs i b->b<w'.heap.size
 r9:∀i b,Os i b->b<w'.heap.size
 r_:∀b,dD b->b<w'.heap.size
 fr:gB (nh w.heap.size Fs) w w'
def u7(P:Program)(C:Ctx)(D:Den C)(f:FuncId):Prop:=
 ∀a r,D f a=some r->∀(w:World)(Pr:BS)(Fs:Nat->BS)(vs:List Value),Pre w.heap Pr Fs (C.sig f).params a vs->
  Calls P f vs.toArray w fun e w'=>∃val dD Gs Os us,e=.returned val/\Ek w w' Pr Fs (C.sig f).params (C.sig f).res r.1 r.2 vs val dD Gs Os us
def vQ (P:Program) (f:FuncId):Prop:=∃fn,P.funcs[f]? = some fn/\fn.name≠ "runtime.NumGoroutine" /\ fn.body.isSome
def gU(h:Array Obj)(S:St)(g:ai):List AV->List Value->Prop
 | [],vs=>vs=[]
 | a::au,vs=>∃v vs',vs=v::vs'/\qe h S g a v/\gU h S g au vs'
def NO(P:Program)(f:FuncId):Prop:=vQ P f/\∀(S:St)(g:ai)(w:World)(tmps:Array Value)(au:List AV)(vs:List Value),aj w.heap S g tmps Nil->gU w.heap S g au vs->aX (zw S.rt au)->
 Calls P f vs.toArray w fun | .returned val,w''=>kI S g w tmps (zw S.rt au) val w'' | _,_=>False
structure oA (P:Program) (C:Ctx) (D:Den C):Prop where
 ok:∀f,u7 P C D f
 call:∀f a r,D f a=some r->vQ P f
 link:∀f,C.jB f=true->NO P f
theorem ag.gY{h:Array Obj}{Pr eg:BS}:∀(t:Ty){m:Mk}{x:t.den}{c:List Value}{F:BS},m.full t=true->ag h Pr t m x c F->ag h eg t m x c F
 | .unit,_,_,_,_,_,r=>by simpa only [ag] using r
 | .int k,_,_,_,_,_,r=>by simpa only [ag] using r
 | .bool,_,_,_,_,_,r=>by simpa only [ag] using r
 | .str,_,_,_,_,_,r=>by simpa only [ag] using r
 | .pair a b,m,_,_,_,hm,r=>by
  simp only[Mk.full,aO]at hm;simp only[ag]at r⊢;obtain⟨ca,cb,Fa,Fb,e,ra,rb,k⟩:=r;exact⟨ca,cb,Fa,Fb,e,ag.gY a hm.1 ra,ag.gY b hm.2 rb,k⟩
 | .sl t,m,_,_,_,hm,r=>by
  cases m with
  | own s mi=>simp only[Mk.full]at hm;simp only[ag]at r⊢;obtain⟨a,cap,e,hl,r⟩:=r;refine⟨a,cap,e,hl,r.imp id ?_⟩;rintro⟨b,cs,e,fb,hb,hs,Fs,hF,hd,re⟩;exact⟨b,cs,e,fb,hb,hs,Fs,hF,hd,fun i hi=>ag.gY t hm (re i hi)⟩
  | _=>simp[Mk.full]at hm
theorem kE.mono{h:Array Obj}{Pr eg:BS}{t:Ty}{m:Mk}{x:t.den}{v:Value}{F:BS}(hp:Sub Pr eg)(r:kE h Pr t m x v F):kE h eg t m x v F:=by obtain⟨c,r,e⟩:=r;exact⟨c,ag.mono hp (fun _ _=>rfl) t r (Sub.refl _) (fun _ _=>rfl),e⟩
theorem jz.mono{h:Array Obj}{Pr eg:BS}{Fs kH:Nat->BS}(hp:Sub Pr eg):∀(ks:List PK)(i:Nat){a:fP ks}{vs:List Value},(∀j,i<=j->kH j=Fs j)->
  jz h Pr Fs i ks a vs->jz h eg kH i ks a vs
 | [],_,_,_,_,r=>r
 | .own t m::ks,i,_,_,hj,r=>by
  obtain⟨v,vs',e,r1,r2⟩:=r;exact⟨v,vs',e,by rw[hj i (bN _)];exact r1.mono hp,jz.mono hp ks (i+1) (fun j h=>hj j (by omega)) r2⟩
 | .val _::ks,i,_,_,hj,r=>by obtain⟨v,vs',e,r2⟩:=r;exact⟨v,vs',e,jz.mono hp ks (i+1) (fun j h=>hj j (by omega)) r2⟩
 | .bS _ _ _::ks,i,_,_,hj,r=>by obtain⟨v,vs',e,r2⟩:=r;exact⟨v,vs',e,jz.mono hp ks (i+1) (fun j h=>hj j (by omega)) r2⟩
 | .cD _ _ _::ks,i,_,_,hj,r=>by obtain⟨v,vs',e,r2⟩:=r;exact⟨v,vs',e,jz.mono hp ks (i+1) (fun j h=>hj j (by omega)) r2⟩
 | .bP _::ks,i,_,_,hj,r=>by obtain⟨v,vs',e,r2⟩:=r;exact⟨v,vs',e,jz.mono hp ks (i+1) (fun j h=>hj j (by omega)) r2⟩
 | .fn::ks,i,_,_,hj,r=>by obtain⟨v,vs',e,r2⟩:=r;exact⟨v,vs',e,jz.mono hp ks (i+1) (fun j h=>hj j (by omega)) r2⟩
theorem gU.kp{h:Array Obj}{S S':St}{g g':ai}(k:Kp h S g S' g'):∀{au:List AV}{vs:List Value},gU h S g au vs->gU h S' g' au vs
 | [],_,r=>r
 | a::au,_,r=>by obtain⟨v,vs',e,r1,r2⟩:=r;exact⟨v,vs',e,k _ _ r1,gU.kp k r2⟩
theorem tQ{h:Array Obj}{tmps:Array Value}{sl:List AV}:∀(ks:List PK)(au:List AV)(vs:List Value)(rt:aD)(g:ai)(H:BS)(i:Nat)(gd:fP ks)(cm:aD),
  gU h ⟨sl,rt⟩ g au vs->aj h ⟨sl,rt⟩ g tmps H->dP rt ks au=some (gd,cm)->
  ∃g1 H1 Fs,aj h ⟨sl,cm⟩ g1 tmps H1/\Kp h ⟨sl,rt⟩ g ⟨sl,cm⟩ g1/\g1.bG g/\Sub g.Pr g1.Pr/\jz h g1.Pr Fs i ks gd vs/\(∀j,j<i->Fs j=Nil)/\
   (∀j,Sub (Fs j) H1)/\(∀j k,j≠k->bz (Fs j) (Fs k))/\(∀j,bz (Fs j) H)/\Sub H H1
 | [],au,vs,rt,g,H,i,gd,cm,ha,st,hb=>by
  cases au with
  | nil=>simp only[dP,ay,aJ]at hb;obtain⟨_,rfl⟩:=hb;exact⟨g,H,fun _=>Nil,st,Kp.refl,.refl _,Sub.refl _,ha,fun _ _=>rfl,fun _=>Sub.nil _,fun _ _ _=>bz.nil _,fun _=>bz.nil _,Sub.refl _⟩
  | cons a au=>simp[dP]at hb
 | .own t m::ks,au,vs,rt,g,H,i,gd,cm,ha,st,hb=>by
  cases au with
  | nil=>simp[dP]at hb
  | cons a au=>
   obtain⟨v,vs',rfl,r1,r2⟩:=ha;simp only[dP,bD]at hb;obtain⟨⟨mx,x,cX⟩,mw,hb⟩:=hb;split at hb
   .rename_i hs;simp only[bD,ay,aJ]at hb;obtain⟨⟨RQ,qK⟩,hb,e1,e2⟩:=hb;subst e2;obtain⟨c,g2,F,ev,bB⟩:=qH (S:=⟨sl,rt⟩) _ st mw r1;obtain⟨F1,F2,q1,q2,q3,q4⟩:=ag.aG t hs bB.rep;have kg:=bB.st.bH F2 (fun b hb=>.inr (q2 b hb));have r6:Kp h ⟨sl,rt⟩ g ⟨sl,cX⟩ { g2 with Pr:=Un g2.Pr F2 }:=Kp.trans bB.kp (y5 bB.st F2);obtain⟨g1,H1,Fs,k1,k2,k3,k4,k5,k6,k7,k8,k9,vK⟩:=tQ ks au vs' cX _ _ (i+1) RQ qK (r2.kp r6) kg hb;refine⟨g1,H1,fun j=>if j=i then F1 else Fs j,k1,r6.trans k2,bB.same.trans (ai.bG.trans ⟨rfl,rfl,rfl⟩ k3),bB.pr.trans (fun b hb=>k4 b (Or.inl hb)),?_,?_,?_,?_,?_,?_⟩
    .subst e1;refine⟨v,vs',rfl,?_,?_⟩
     .show kE h g1.Pr t m x v (if i=i then F1 else Fs i);rw[aE rfl];exact⟨c,ag.mono k4 (fun _ _=>rfl) t q4 (Sub.refl _) (fun _ _=>rfl),ev⟩
     .exact jz.mono (Sub.refl _) ks (i+1) (fun j hj=>by show(if j=i then F1 else Fs j)=Fs j;rw[ax (by omega)]) k5
    .intro j hj;show(if j=i then F1 else Fs j)=Nil;rw[ax (by omega)];exact k6 j (by omega)
    .intro j b hb;split at hb
     .exact vK b ⟨.inr (q1 b hb),fun h2=>q3 b hb h2⟩
     .exact k7 j b hb
    .intro j k oe b h1 h2;split at h1<;>split at h2
     .omega
     .exact k9 k b h2 ⟨.inr (q1 b h1),fun h3=>q3 b h1 h3⟩
     .exact k9 j b h1 ⟨.inr (q1 b h2),fun h3=>q3 b h2 h3⟩
     .exact k8 j k oe b h1 h2
    .intro j b h1 h2;split at h1
     .exact bB.cj b (q1 b h1) h2
     .exact k9 j b h1 ⟨.inl h2,fun h3=>bB.cj b (q2 b h3) h2⟩
    .intro b hb;exact vK b ⟨.inl hb,fun h3=>bB.cj b (q2 b h3) hb⟩
   .simp at hb
 | .val t::ks,au,vs,rt,g,H,i,gd,cm,ha,st,hb=>by
  cases au with
  | nil=>simp[dP]at hb
  | cons a au=>obtain⟨v,vs',rfl,r1,r2⟩:=ha;obtain⟨g1,H1,Fs,k1,k2,k3,k4,k5,k6,k⟩:=tQ ks au vs' rt g H (i+1) gd cm r2 st hb;exact⟨g1,H1,Fs,k1,k2,k3,k4,⟨v,vs',rfl,k5⟩,fun j hj=>k6 j (by omega),k⟩
 | .bS _ _ _::ks,au,vs,rt,g,H,i,gd,cm,ha,st,hb=>by
  cases au with
  | nil=>simp[dP]at hb
  | cons a au=>obtain⟨v,vs',rfl,r1,r2⟩:=ha;obtain⟨g1,H1,Fs,k1,k2,k3,k4,k5,k6,k⟩:=tQ ks au vs' rt g H (i+1) gd cm r2 st hb;exact⟨g1,H1,Fs,k1,k2,k3,k4,⟨v,vs',rfl,k5⟩,fun j hj=>k6 j (by omega),k⟩
 | .cD _ _ _::ks,au,vs,rt,g,H,i,gd,cm,ha,st,hb=>by
  cases au with
  | nil=>simp[dP]at hb
  | cons a au=>obtain⟨v,vs',rfl,r1,r2⟩:=ha;obtain⟨g1,H1,Fs,k1,k2,k3,k4,k5,k6,k⟩:=tQ ks au vs' rt g H (i+1) gd cm r2 st hb;exact⟨g1,H1,Fs,k1,k2,k3,k4,⟨v,vs',rfl,k5⟩,fun j hj=>k6 j (by omega),k⟩
 | .bP _::ks,au,vs,rt,g,H,i,gd,cm,ha,st,hb=>by
  cases au with
  | nil=>simp[dP]at hb
  | cons a au=>obtain⟨v,vs',rfl,r1,r2⟩:=ha;obtain⟨g1,H1,Fs,k1,k2,k3,k4,k5,k6,k⟩:=tQ ks au vs' rt g H (i+1) gd cm r2 st hb;exact⟨g1,H1,Fs,k1,k2,k3,k4,⟨v,vs',rfl,k5⟩,fun j hj=>k6 j (by omega),k⟩
 | .fn::ks,au,vs,rt,g,H,i,gd,cm,ha,st,hb=>by
  cases au with
  | nil=>simp[dP]at hb
  | cons a au=>obtain⟨v,vs',rfl,r1,r2⟩:=ha;obtain⟨g1,H1,Fs,k1,k2,k3,k4,k5,k6,k⟩:=tQ ks au vs' rt g H (i+1) gd cm r2 st hb;exact⟨g1,H1,Fs,k1,k2,k3,k4,⟨v,vs',rfl,k5⟩,fun j hj=>k6 j (by omega),k⟩
end
end Go.V
namespace Go.V
noncomputable section
open Go
def Seen(sh:Bool)(S:St)(g:ai):BS:=if sh then g.Pr else qU S g
theorem v9(sh:Bool)(S:St)(g:ai):Sub g.Pr (Seen sh S g):=by
 intro b hb;unfold Seen;split
 .exact hb
 .exact .inl hb
section
variable {h:Array Obj} {S:St} {g:ai} {tmps:Array Value} {H:BS} (st:aj h S g tmps H)
include st
theorem wg:∀(t:Ty){a:AV}{x:t.den}{c:List Value},a.shared=true->rd S.rt t a=some x->bR h S g a c->ag h g.Pr t .no x c Nil
 | t,a,x,c,hs,hr,y=>by
  cases a with
  | val t' x'=>
   have hc:qbv t' t x'=some x:=by cases t<;>simpa only [rd] using hr
   simp only[bR]at y;exact(ag.cast hc y).2
  | unit=>
   cases t with
   | unit=>simp only[bR]at y;simp only[ag];exact y
   | _=>simp[rd]at hr
  | pair u v=>
   cases t with
   | pair a b=>simp only[AV.shared,aO]at hs;simp only[rd,bD,ay]at hr;obtain⟨x1,h1,x2,h2,rfl⟩:=hr;simp only[bR]at y;obtain⟨ca,cb,rfl,y1,y2⟩:=y;simp only[ag];exact⟨ca,cb,Nil,Nil,rfl,wg a hs.1 h1 y1,wg b hs.2 h2 y2,Sub.nil _,Sub.nil _,bz.nil _⟩
   | _=>simp[rd]at hr
  | undef=>cases t<;>simp[rd]at hr
  | bu r p s=>simp[AV.shared]at hs
  | _=>simp only[bR]at y
theorem KL(t:Ty){a:AV}{x:t.den}{v:Value}(hs:a.shared=true)(hr:rd S.rt t a=some x)(y:qe h S g a v):kE h g.Pr t .no x v Nil:=by
 cases a with
 | val t' x'=>
  have hc:qbv t' t x'=some x:=by cases t<;>simpa only [rd] using hr
  simp only[qe]at y;obtain⟨c,r,rfl⟩:=y;obtain⟨rfl,r2⟩:=ag.cast hc r;exact⟨c,r2,rfl⟩
 | bA b=>
  cases t with
  | bool=>simp only[rd,ay]at hr;simp only[qe]at y;subst hr;subst y;exact⟨[.bool b],by simp only[ag],rfl⟩
  | _=>simp[rd]at hr
 | unit=>
  cases t with
  | unit=>simp only[qe]at y;exact⟨[],by simp only[ag],by rw[y];rfl⟩
  | _=>simp[rd]at hr
 | cP=>
  cases t with
  | sl e=>simp only[rd,ay]at hr;simp only[qe]at y;subst hr;subst y;exact⟨[.slice none 0 0],by simp only[ag];exact⟨none,0,by simp,by simp,by simp⟩,rfl⟩
  | _=>simp[rd]at hr
 | pair u w=>
  cases t with
  | pair a b=>simp only[qe]at y;obtain⟨ca,cb,rfl,y1,y2⟩:=y;exact⟨ca++cb,wg st (.pair a b) (a:=.pair u w) hs hr (by simp only[bR];exact⟨ca,cb,rfl,y1,y2⟩),rfl⟩
  | _=>simp[rd]at hr
 | bu r p s=>simp[AV.shared]at hs
 | _=>cases t<;>simp[rd]at hr
theorem Ka{sh:Bool}(t:Ty){a:AV}{x:t.den}{v:Value}(hs:sh=true->a.shared=true)(hr:rd S.rt t a=some x)(y:qe h S g a v) :
  kE h (Seen sh S g) t .no x v Nil:=by
 cases sh with
 | true=>exact KL st t (hs rfl) hr y
 | false=>obtain⟨c,e,r⟩:=wI st t hr y;exact⟨c,r,e⟩
theorem xq{Pr:BS}(hp:Sub g.Pr Pr){t:Ty}{x:t.den}{v:Value}(y:p_ h g t x v):p_ h (PG Pr) t x v:=by obtain⟨b,o,cs,e,pb,hb,hs,r⟩:=y;exact⟨b,o,cs,e,hp b pb,hb,hs,ag.mono hp (fun _ _=>rfl) t r (Sub.refl _) (fun _ _=>rfl)⟩
theorem CH{r:Nat}{p:Path}{d:Dy}{v:Value}(hf:S.rt.focus r p=some d)(hw:d.ms.whole=true)(x:qe h S g (.addr r p) v):p_ h (PG (qU S g)) d.ty d.x v:=by
 simp only[aD.focus]at hf;split at hf
 .rename_i R hR;simp only[qe]at x;obtain⟨h1,b,off,c,h2,h3⟩:=x R hR d hf;obtain⟨base,c',F,q1,q2,q3,q4,q5,_⟩:=st.update hR hf h1;rw[h2]at q1;simp only[ay,aJ]at q1;obtain⟨rfl,rfl⟩:=q1;have aQ:(S.root r).isSome:=by show(S.rt.root r).isSome=true;rw[hR];rfl
  obtain⟨_,cs,jY,hs,hsub⟩:=q4 b off rfl;have hl:=ag.width _ q2;refine⟨b,off,cs,h3,.inr ⟨r,aQ,q5 b off rfl⟩,jY.rS,by omega,?_⟩;rw[<-hl,hsub];exact ag.mono (fun b hb=>hb.elim .inl (fun hb=>.inr ⟨r,aQ,q3 b hb⟩)) (fun _ _=>rfl) _ (ag.share _ hw q2) (Sub.refl _) (fun _ _=>rfl)
 .simp at hf
theorem su{sh:Bool}:∀{a:AV}{l:List gh}{vs:List Value},(sh=true->a.shared=true)->g7 S.rt a=some l->aC h S g a vs->jn h (PG (Seen sh S g)) l vs
 | .unit,l,vs,_,hc,y=>by
  simp only[g7,ay]at hc;subst hc;simp only[aC]at y;exact y
 | .pair u w,l,vs,hs,hc,y=>by
  simp only[aC]at y;obtain⟨v,vs',rfl,y1,y2⟩:=y;have jR:sh=true->w.shared=true:=fun h=>by have:=hs h;simp only[AV.shared,aO]at this;exact this.2
  have fE:sh=true->u.shared=true:=fun h=>by have:=hs h;simp only[AV.shared,aO]at this;exact this.1
  cases u with
  | addr r p=>
   simp only[g7]at hc;split at hc
   .rename_i d hf;split at hc
    .rename_i hw;simp only[bD,ay]at hc;obtain⟨l',hc,rfl⟩:=hc;refine⟨v,vs',rfl,?_,su jR hc y2⟩;cases sh with
     | true=>have:=fE rfl;simp[AV.shared]at this
     | false=>exact CH st hf hw y1
    .simp at hc
   .simp at hc
  | bq t x=>simp only[g7,bD,ay]at hc;obtain⟨l',hc,rfl⟩:=hc;simp only[qe]at y1;exact⟨v,vs',rfl,xq st (v9 sh S g) y1,su jR hc y2⟩
  | val t x=>simp only[g7,bD,ay]at hc;obtain⟨l',hc,rfl⟩:=hc;simp only[qe]at y1;obtain⟨c,r,e⟩:=y1;exact⟨v,vs',rfl,⟨c,ag.mono (v9 sh S g) (fun _ _=>rfl) t r (Sub.refl _) (fun _ _=>rfl),e⟩,su jR hc y2⟩
  | _=>simp[g7]at hc
 | .undef,_,_,_,hc,_=>by simp[g7]at hc
 | .skip,_,_,_,hc,_=>by simp[g7]at hc
 | .bA _,_,_,_,hc,_=>by simp[g7]at hc
 | .cP,_,_,_,hc,_=>by simp[g7]at hc
 | .val _ _,_,_,_,hc,_=>by simp[g7]at hc
 | .bu _ _ _,_,_,_,hc,_=>by simp[g7]at hc
 | .view _ _ _ _ _,_,_,_,hc,_=>by simp[g7]at hc
 | .addr _ _,_,_,_,hc,_=>by simp[g7]at hc
 | .bq _ _,_,_,_,hc,_=>by simp[g7]at hc
 | .fO _,_,_,_,hc,_=>by simp[g7]at hc
 | .eV _ _,_,_,_,hc,_=>by simp[g7]at hc
 | .dK _,_,_,_,hc,_=>by simp[g7]at hc
theorem xM{Pr:BS}(hp:Sub g.Pr Pr):∀{l:List gh}{vs:List Value},jn h g l vs->jn h (PG Pr) l vs
 | [],_,y=>y
 | c::l,_,y=>by
  obtain⟨v,vs',e,h1,h2⟩:=y;refine⟨v,vs',e,?_,xM hp h2⟩;cases c with
  | val t x=>obtain⟨c,r,e⟩:=h1;exact⟨c,ag.mono hp (fun _ _=>rfl) t r (Sub.refl _) (fun _ _=>rfl),e⟩
  | bP t x=>exact xq st hp h1
def nY(h:Array Obj)(Pr:BS)(Fs:Nat->BS):Nat->(ks:List PK)->bV ks->List Value->Prop
 | _,[],_,vs=>vs=[]
 | i,.bS t m _::ks,o,vs=>∃v vs',vs=v::vs'/\ow h Pr t m o.1 v (Fs i)/\nY h Pr Fs (i+1) ks o.2 vs'
 | i,.cD t m _::ks,o,vs=>∃v vs',vs=v::vs'/\kE h Pr t m o.1 v (Fs i)/\nY h Pr Fs (i+1) ks o.2 vs'
 | i,.val _::ks,o,vs=>∃v vs',vs=v::vs'/\nY h Pr Fs (i+1) ks o vs'
 | i,.own _ _::ks,o,vs=>∃v vs',vs=v::vs'/\nY h Pr Fs (i+1) ks o vs'
 | i,.bP _::ks,o,vs=>∃v vs',vs=v::vs'/\nY h Pr Fs (i+1) ks o vs'
 | i,.fn::ks,o,vs=>∃v vs',vs=v::vs'/\nY h Pr Fs (i+1) ks o vs'
theorem pY{sh:Bool}{Fs:Nat->BS}:∀(ks:List PK)(au:List AV)(vs:List Value)(i:Nat)(gd:fP ks)(od:bV ks)(a:eF ks),(sh=true->iy ks au=true)->
  gU h S g au vs->jz h g.Pr Fs i ks gd vs->nY h g.Pr Fs i ks od vs->fH S.rt ks au gd od=some a->qF h (Seen sh S g) Fs i ks a vs
 | [],au,vs,i,gd,od,a,_,ha,hg,_,hd=>by
  simp only[jz]at hg;exact hg
 | k::ks,[],vs,i,gd,od,a,_,ha,hg,_,hd=>by cases k<;>simp[fH]at hd
 | k::ks,u::au,vs,i,gd,od,a,hs,ha,hg,hl,hd=>by
  obtain⟨v,vs',rfl,r1,r2⟩:=ha;have jR:sh=true->iy ks au=true:=fun e=>by have:=hs e;simp only[iy,aO]at this;exact this.2
  have fE:sh=true->k.plain=true->u.shared=true:=fun e e2=>by
   have:=hs e;simp only[iy,aO,fX,gw]at this;rcases this.1 with h3 | h3
   .rw[e2]at h3;simp at h3
   .exact h3
  cases k with
  | val t=>simp only[fH,bD,ay]at hd;obtain⟨x,hx,r,hr,rfl⟩:=hd;obtain⟨_,_,e,hg⟩:=hg;obtain⟨_,_,e2,hl⟩:=hl;simp only[dj]at e e2;obtain⟨rfl,rfl⟩:=e;obtain⟨-,rfl⟩:=e2;exact⟨v,vs',rfl,Ka st t (fun e=>fE e rfl) hx r1,pY ks au vs' (i+1) gd od r jR r2 hg hl hr⟩
  | own t m=>simp only[fH,bD,ay]at hd;obtain⟨r,hr,rfl⟩:=hd;obtain⟨_,_,e,hv,hg⟩:=hg;obtain⟨_,_,e2,hl⟩:=hl;simp only[dj]at e e2;obtain⟨rfl,rfl⟩:=e;obtain⟨-,rfl⟩:=e2;exact⟨v,vs',rfl,hv.mono (v9 sh S g),pY ks au vs' (i+1) gd.2 od r jR r2 hg hl hr⟩
  | bS t m m'=>simp only[fH,bD,ay]at hd;obtain⟨r,hr,rfl⟩:=hd;obtain⟨_,_,e,hg⟩:=hg;obtain⟨_,_,e2,hv,hl⟩:=hl;simp only[dj]at e e2;obtain⟨rfl,rfl⟩:=e;obtain⟨rfl,rfl⟩:=e2;refine⟨v,vs',rfl,?_,pY ks au vs' (i+1) gd od.2 r jR r2 hg hl hr⟩;obtain⟨b,c,F0,e,r,k⟩:=hv;exact⟨b,c,F0,e,ag.mono (v9 sh S g) (fun _ _=>rfl) t r (Sub.refl _) (fun _ _=>rfl),k⟩
  | cD t m m'=>simp only[fH,bD,ay]at hd;obtain⟨r,hr,rfl⟩:=hd;obtain⟨_,_,e,hg⟩:=hg;obtain⟨_,_,e2,hv,hl⟩:=hl;simp only[dj]at e e2;obtain⟨rfl,rfl⟩:=e;obtain⟨rfl,rfl⟩:=e2;exact⟨v,vs',rfl,hv.mono (v9 sh S g),pY ks au vs' (i+1) gd od.2 r jR r2 hg hl hr⟩
  | bP t=>
   obtain⟨_,_,e,hg⟩:=hg;obtain⟨_,_,e2,hl⟩:=hl;simp only[dj]at e e2;obtain⟨rfl,rfl⟩:=e;obtain⟨-,rfl⟩:=e2;cases u with
   | bq t' x=>simp only[fH,bD,ay]at hd;obtain⟨y,hc,r,hr,rfl⟩:=hd;simp only[qe]at r1;obtain⟨e1,e2⟩:=uP hc;subst e1;simp only at e2;subst e2;exact⟨v,vs',rfl,xq st (v9 sh S g) r1,pY ks au vs' (i+1) gd od r jR r2 hg hl hr⟩
   | addr q p=>
    simp only[fH]at hd;split at hd
    .rename_i d hf;split at hd
     .rename_i hw;simp only[bD,ay]at hd;obtain⟨y,hc,r,hr,rfl⟩:=hd;refine⟨v,vs',rfl,?_,pY ks au vs' (i+1) gd od r jR r2 hg hl hr⟩;obtain⟨dt,dm,dx⟩:=d;simp only at hc hw;obtain⟨e1,e2⟩:=uP hc;subst e1;simp only at e2;subst e2;cases sh with
      | true=>have:=fE rfl rfl;simp[AV.shared]at this
      | false=>exact CH st hf hw r1
     .simp at hd
    .simp at hd
   | _=>simp[fH]at hd
  | fn=>
   obtain⟨_,_,e,hg⟩:=hg;obtain⟨_,_,e2,hl⟩:=hl;simp only[dj]at e e2;obtain⟨rfl,rfl⟩:=e;obtain⟨-,rfl⟩:=e2;cases u with
   | eV f caps=>simp only[fH,bD,ay]at hd;obtain⟨l,hc,r,hr,rfl⟩:=hd;simp only[qe]at r1;obtain⟨ws,e,ht⟩:=r1;exact⟨v,vs',rfl,⟨ws,e,su st (fun e=>by have:=fE e rfl;simpa [AV.shared] using this) hc ht⟩,pY ks au vs' (i+1) gd od r jR r2 hg hl hr⟩
   | dK c=>simp only[fH,bD,ay]at hd;obtain⟨r,hr,rfl⟩:=hd;simp only[qe]at r1;obtain⟨ws,e,ht⟩:=r1;exact⟨v,vs',rfl,⟨ws,e,xM st (v9 sh S g) ht⟩,pY ks au vs' (i+1) gd od r jR r2 hg hl hr⟩
   | _=>simp[fH]at hd
end
end
end Go.V
namespace Go.V
noncomputable section
open Go
theorem gO.conv{h:Array Obj}{Pr eg:BS}{Gs:Nat->BS}:∀(rs:List RK)(i:Nat){r:dU rs}{us:List Value},(Sub Pr eg\/rs.all RK.full=true)->gO h Pr Gs i rs r us->gO h eg Gs i rs r us
 | [],_,_,_,_,k=>k
 | q::rs,i,r,us,hc,k=>by
  obtain⟨v,vs',e,k1,k2⟩:=k;have fD:Sub Pr eg\/rs.all RK.full=true:=hc.imp id fun h=>by simp only[eU,aO]at h;exact h.2
  refine⟨v,vs',e,?_,gO.conv rs (i+1) fD k2⟩;have conv:∀(t:Ty)(m:Mk)(x:t.den)(c:List Value)(F:BS),(m.full t=true\/Sub Pr eg)->ag h Pr t m x c F->ag h eg t m x c F:=fun t m x c F hh rr=>
   hh.elim (fun h=>ag.gY t h rr) (fun h=>ag.mono h (fun _ _=>rfl) t rr (Sub.refl _) (fun _ _=>rfl))
  have hf:q.ms.full q.ty=true\/Sub Pr eg:=hc.symm.imp (fun h=>by simp only[eU,aO]at h;cases q<;>exact h.1) id;cases q with
  | val t m=>obtain⟨c,rr,e⟩:=k1;exact⟨c,conv t m _ c _ hf rr,e⟩
  | ptr t m=>obtain⟨b,c,F0,e,rr,k⟩:=k1;exact⟨b,c,F0,e,conv t m _ c _ hf rr,k⟩
theorem J8{w w':World}{sl:List AV}{rt:aD}{g:ai}{tmps:Array Value}{H:BS}(st:aj w.heap ⟨sl,rt⟩ g tmps H){Fs:Nat->BS}(hF:∀i,Sub (Fs i) H)
  {sh:Bool} {ks:List PK} {rs:List RK} {r:dU rs} {o:bV ks} {vs:List Value} {val:Value} {dD:BS} {Gs Os:Nat->BS} {us:List Value}
  (p:Ek w w' (Seen sh ⟨sl,rt⟩ g) Fs ks rs r o vs val dD Gs Os us) (hfull:sh=false->rs.all RK.full=true) :
  ∃g3 H3,aj w'.heap ⟨sl,rt⟩ g3 tmps H3/\gO w'.heap g3.Pr Gs 0 rs r us/\(∀i,Sub (Gs i) H3)/\g3.bG g:=by
 have hk:∀b,b<w.heap.size->¬ H b->w'.heap[b]? = w.heap[b]?:=fun b hb hn=>p.fr.block b hb (by
  rintro(h1 | ⟨i,h1⟩)
  .omega
  .exact hn (hF i b h1))
 have u6:=st.jO hk p.fr.size (fun b=>H b\/(w.heap.size<=b/\b<w'.heap.size)) (fun b hb=>hb);have fC:∀b,nh w.heap.size Fs b->b<w'.heap.size->H b\/(w.heap.size<=b/\b<w'.heap.size):=by
  rintro b (h1 | ⟨i,h1⟩) h2
  .exact .inr ⟨h1,h2⟩
  .exact .inl (hF i b h1)
 cases sh with
 | false=>exact⟨g,_,u6,gO.conv rs 0 (.inr (hfull rfl)) p.res,fun i b hb=>fC b (p.gL i b hb) (p.oJ i b hb),.refl _⟩
 | true=>
  have hD:Sub (fun b=>dD b/\¬ g.Pr b) (fun b=>H b\/(w.heap.size<=b/\b<w'.heap.size)):=by
   rintro b ⟨h1,h2⟩;rcases p.gM b h1 with h3 | h3
   .exact absurd h3 h2
   .exact fC b h3 (p.r_ b h1)
  refine⟨_,_,u6.bH _ hD,gO.conv rs 0 (.inl ?_) p.res,fun i b hb=>⟨fC b (p.gL i b hb) (p.oJ i b hb),fun h=>p.gp i b hb h.1⟩,⟨rfl,rfl,rfl⟩⟩;intro b hb;by_cases h1:g.Pr b
  .exact .inl h1
  .exact .inr ⟨hb,h1⟩
def iA:List RK->List Value->List Value
 | [],_=>[]
 | k::ks,c=>bK k.ty (c.take k.ty.width)::iA ks (c.drop k.ty.width)
theorem Bi{h:Array Obj}{Pr:BS}{Gs:Nat->BS}(hd:∀i j,i≠j->bz (Gs i) (Gs j)):∀(rs:List RK)(i:Nat){r:dU rs}{us:List Value},rs.all (fun k=>!k.gI&&k.ty.nz)=true->gO h Pr Gs i rs r us->
  ∃c F,ag h Pr (fN rs) (kF rs) (gq rs r) c F/\(∀b,F b->∃j,i<=j/\Gs j b)/\us=iA rs c
 | [],i,r,us,_,k=>⟨[],Nil,by simp only[fN,ag],fun b h=>h.elim,k⟩
 | .ptr t m::rs,i,r,us,hp,k=>by simp[RK.gI]at hp
 | .val t m::rs,i,r,us,hp,k=>by
  simp only[eU,aO]at hp;obtain⟨v,vs',rfl,⟨c1,r1,rfl⟩,k2⟩:=k;obtain⟨c2,F2,r2,nq,rfl⟩:=Bi hd rs (i+1) hp.2 k2;refine⟨c1++c2,Un (Gs i) F2,?_,?_,?_⟩
  .simp only[fN,kF,gq,ag,Mk.fst,Mk.snd];refine⟨c1,c2,Gs i,F2,rfl,r1,r2,fun b hb=>.inl hb,fun b hb=>.inr hb,?_⟩;intro b h1 h2;obtain⟨j,hj,h3⟩:=nq b h2;exact hd i j (by omega) b h1 h3
  .rintro b (hb | hb)
   .exact⟨i,bN _,hb⟩
   .obtain⟨j,hj,h3⟩:=nq b hb;exact⟨j,by omega,h3⟩
  .have hl:=ag.width t r1;simp only[iA,RK.ty];rw[fL hl,fz hl]
theorem xR{h:Array Obj}{S:St}{g:ai}:∀(rs:List RK){x:(fN rs).den}{c:List Value}{F:BS},ag h g.Pr (fN rs) .no x c F->aC h S g (qM (fN rs) x) (iA rs c)
 | [],x,c,F,r=>by simp only[fN,qM,aC,iA]
 | k::rs,x,c,F,r=>by
  simp only[fN,ag]at r;obtain⟨ca,cb,Fa,Fb,rfl,ra,rb,_⟩:=r;have hl:=ag.width _ ra;simp only[fN,qM,aC,iA];rw[fL hl,fz hl];refine⟨_,_,rfl,?_,xR rs rb⟩;simp only[qe];exact⟨ca,ag.cH (m:=.no) _ rfl ra,rfl⟩
theorem BK{h:Array Obj}{S:St}{g:ai}{r:Nat}{R:aB}(hR:S.root r=some R):∀(rs:List RK)(p:Path)(m:Mk)(x:(fN rs).den)(base:dc)(c:List Value)(F:BS),
  focus R.ty R.ms R.x p=some ⟨fN rs,m,x⟩->bO R.ty R.x p->a_ h R.ty (g.C r) (g.base r) p=some (base,c)->ag h g.Pr (fN rs) m x c F->rs.all (fun k=>!k.gI&&k.ty.nz)=true->
  aC h S g (pT (bL r (fN rs) m x p)) (iA rs c)
 | [],p,m,x,base,c,F,_,_,_,_,_=>by simp only[fN,bL,pT,aC,iA]
 | k::rs,p,m,x,base,c,F,hf,hin,cz,rep,hall=>by
  simp only[eU,aO]at hall;simp only[fN,bL];by_cases hs:m.still=true
  .rw[aE hs];have:=xR (S:=S) (k::rs) (ag.cH (F':=Nil) _ hs rep);exact this
  .rw[ax hs];have jA:=rep;simp only[fN,ag]at jA;obtain⟨ca,cb,Fa,Fb,rfl,ra,rb,_⟩:=jA;have hl:=ag.width _ ra;have Gz:focus R.ty R.ms R.x (p++[.fst])=some ⟨k.ty,m.fst,x.1⟩:=by rw[nP p _ hf];simp only[fN,focus]
   have GA:focus R.ty R.ms R.x (p++[.snd])=some ⟨fN rs,m.snd,x.2⟩:=by rw[nP p _ hf];simp only[fN,focus]
   have Sj:bO R.ty R.x (p++[.fst]):=(qA p _ hf).2 ⟨hin,by simp only[fN,bO]⟩;have Sk:bO R.ty R.x (p++[.snd]):=(qA p _ hf).2 ⟨hin,by simp only[fN,bO]⟩;have R5:a_ h R.ty (g.C r) (g.base r) (p++[.fst])=some (base,ca):=by rw[nS p _ hf cz];simp only[fN,a_];rw[fL hl]
   have hab:a_ h R.ty (g.C r) (g.base r) (p++[.snd])=some (base.map fun x=>(x.1,x.2+k.ty.width),cb):=by rw[nS p _ hf cz];simp only[fN,a_];rw[fz hl]
   simp only[pT,aC,iA];rw[fL hl,fz hl];refine⟨_,_,rfl,bR.rel ra (vT hR _ _ _ _ _ _ _ Gz Sj R5 ra) (Ty.gK hall.1.2),?_⟩;exact BK hR rs (p++[.snd]) m.snd x.2 _ cb Fb GA Sk hab rb hall.2
theorem Ii{a b:RK}{rs:List RK}{c:List Value}:m7 (iA (a::b::rs) c)=.tuple (iA (a::b::rs) c).toArray:=by simp only[iA,m7]
theorem w8{h:Array Obj}{S:St}{cm:aD}{g:ai}{tmps:Array Value}{H:BS}(st:aj h ⟨S.sl,cm⟩ g tmps H){Gs:Nat->BS}(hG:∀i,Sub (Gs i) H)(hd:∀i j,i≠j->bz (Gs i) (Gs j))
  {A:aZ} {d:Option Nat} {site:Nat} (ok:jk A S d site):∀(rs:List RK){r:dU rs}{us:List Value}{β:Bool}{v:AV}{rt':aD},gO h g.Pr Gs 0 rs r us->
  (ig A cm d site rs r).dec β=some (v,rt')->∃g',aj h ⟨S.sl,rt'⟩ g' tmps Nil/\qe h ⟨S.sl,rt'⟩ g' v (m7 us)/\g'.bG g
 | [],r,us,β,v,rt',k,e=>by
  simp only[gO]at k;subst k;simp only[ig,Tr.dec,ay,aJ]at e;obtain⟨rfl,rfl⟩:=e;refine⟨g,st.aN (Sub.nil _),?_,.refl _⟩;simp only[qe,m7];exact⟨[],rfl,by simp only[aC]⟩
 | [.val t m],r,us,β,v,rt',k,e=>by
  obtain⟨u,vs',rfl,⟨c,rr,rfl⟩,k2⟩:=k;simp only[gO]at k2;subst k2;simp only[ig]at e;by_cases hsh:A.sh=true
  .rw[aE hsh]at e;by_cases hw:m.whole=true
   .rw[aE hw]at e;simp only[Tr.dec,ay,aJ]at e;obtain⟨rfl,rfl⟩:=e;obtain⟨g',s1,s2,s3,_⟩:=EN st rr (hG 0) hw;exact⟨g',s1.aN (Sub.nil _),by simp only[qe,m7];exact⟨c,s2,rfl⟩,s3⟩
   .rw[ax hw]at e;simp[Tr.dec]at e
  rw[ax hsh]at e;by_cases hm:m.af=true
  .rw[aE hm]at e;obtain⟨g',s1,s2,s3⟩:=tY st rr (aA.af _ hm) (hG 0) ok e;exact⟨g',s1,s2,s3⟩
  .rw[ax hm]at e;simp[Tr.dec]at e
 | [.ptr t m],r,us,β,v,rt',k,e=>by
  obtain⟨u,vs',rfl,⟨b,c,F0,rfl,rr,ho,hb,RV,hn⟩,k2⟩:=k;simp only[gO]at k2;subst k2;simp only[ig]at e;by_cases hm:m.af=true
  .rw[aE hm]at e;obtain⟨g',s1,s2,s3⟩:=EG st rr (aA.af _ hm) (fun x hx=>hG 0 x (RV x hx)) (hG 0 b hb) hn ho ok e;exact⟨g',s1,s2,s3⟩
  .rw[ax hm]at e;simp[Tr.dec]at e
 | q1::q2::rs,r,us,β,v,rt',k,e=>by
  have e':(tX A cm d site (q1::q2::rs) r).dec β=some (v,rt'):=by cases q1<;>simpa only [ig] using e
  unfold tX at e';by_cases hc:((kF (q1::q2::rs)).af&&(q1::q2::rs).all (fun k=>!k.gI&&k.ty.nz))=true
  .rw[aE hc]at e';simp only[aO]at hc;obtain⟨c,F,rep,hF,rfl⟩:=Bi hd _ 0 hc.2 k;have RW:Sub F H:=fun b hb=>by obtain⟨j,_,h3⟩:=hF b hb;exact hG j b h3
   rw[Ii];cases d with
   | none=>simp only[Tr.dec,ay,aJ]at e';obtain⟨rfl,rfl⟩:=e';exact⟨g,st.aN (Sub.nil _),by simp only[qe],.refl _⟩
   | some d=>
    simp only at e';cases hl:b8 A cm (some d) site (fN (q1::q2::rs)) (kF (q1::q2::rs)) (gq (q1::q2::rs) r) false with
    | ret z=>
     obtain⟨v1,cX⟩:=z;rw[hl]at e';simp only[Tr.dec,ay,aJ]at e';obtain⟨rfl,rfl⟩:=e';simp only[b8,cL,bY]at hl;split at hl
     .simp at hl
     .rename_i hn;simp only[fX,gw,jw,xW,jx]at hn;split at hl
      .rename_i hs;simp only[Tr.ret.injEq,aJ]at hl;obtain⟨rfl,rfl⟩:=hl;refine⟨g,st.aN (Sub.nil _),?_,.refl _⟩;simp only[qe];exact⟨_,rfl,xR _ (ag.cH (F':=Nil) _ hs rep)⟩
      .split at hl
       .rename_i oc;simp only[Tr.ret.injEq,aJ]at hl;obtain⟨rfl,rfl⟩:=hl;have jA:=(ag.stamp (h:=h) (Pr:=g.Pr) site _).1 rep;have key:∀u,((⟨S.sl,cm⟩:St).get u).roots.contains d=false\/(∃lo hi,((⟨S.sl,cm⟩:St).get u).aH lo hi=true/\((⟨S.sl,cm⟩:St).get u).eL d=true/\((kF (q1::q2::rs)).stamp site).fresh lo hi/\(none:Option Nat)=none):=by
         intro u;simp only[fX,aO]at oc;rcases oc with oc | ⟨⟨lS,fD⟩,lU⟩
         .exact .inl (ok.pq oc d rfl u)
         .exact .inr ⟨site,site+1,(ok.fr lS).2 u,ok.pl lU d rfl u,Mk.b6 site fD,rfl⟩
        obtain⟨g',s1,s2,s3,s4,s5,s6⟩:=st.gJ hn.1 jA (aA.stamp hn.2 _ (aA.af _ hc.1)) RW none (fun b hb=>by simp at hb) key;refine⟨g',s1.aN (Sub.nil _),?_,s3⟩;have hR:(⟨S.sl,cm.ak d (some ⟨fN (q1::q2::rs),(kF (q1::q2::rs)).stamp site,gq (q1::q2::rs) r,false⟩)⟩:St).root d=some ⟨fN (q1::q2::rs),(kF (q1::q2::rs)).stamp site,gq (q1::q2::rs) r,false⟩:=by have:=St.bg (⟨S.sl,cm⟩:St) d (some ⟨fN (q1::q2::rs),(kF (q1::q2::rs)).stamp site,gq (q1::q2::rs) r,false⟩) d;rw[aE ⟨rfl,hn.1⟩]at this;exact this
        simp only[qe];refine⟨_,rfl,?_⟩;refine BK hR (q1::q2::rs) [] _ _ (g'.base d) c F (AX _ _ _) (pG _ _) ?_ (by rw[s2];exact jA) hc.2;rw[s4];exact vS _ _ _ _
       .simp at hl
    | _=>rw[hl]at e';simp[Tr.dec]at e'
  .rw[ax hc]at e';simp[Tr.dec]at e'
end
theorem zu{h:Array Obj}{Pr:BS}{Fs:Nat->BS}:∀(ks:List PK)(au:List AV)(vs:List Value)(i:Nat)(rt cX:aD)(od:bV ks){S:St}{g:ai},ks.all (fun k=>!k.cC)=true->
  gU h S g au vs->eC rt ks au=some (od,cX)->cX=rt/\nY h Pr Fs i ks od vs
 | [],au,vs,i,rt,cX,od,S,g,_,ha,hb=>by
  cases au with
  | nil=>simp only[eC,ay,aJ]at hb;exact⟨hb.2.symm,ha⟩
  | cons a au=>simp[eC]at hb
 | k::ks,[],vs,i,rt,cX,od,S,g,_,ha,hb=>by cases k<;>simp[eC]at hb
 | k::ks,a::au,vs,i,rt,cX,od,S,g,hn,ha,hb=>by
  simp only[eU,aO]at hn;obtain⟨v,vs',rfl,r1,r2⟩:=ha;cases k with
  | bS t m m'=>simp[PK.cC]at hn
  | cD t m m'=>simp[PK.cC]at hn
  | val t=>obtain⟨e,k⟩:=zu (Fs:=Fs) ks au vs' (i+1) rt cX od hn.2 r2 (by simpa only [eC] using hb);exact⟨e,v,vs',rfl,k⟩
  | own t m=>obtain⟨e,k⟩:=zu (Fs:=Fs) ks au vs' (i+1) rt cX od hn.2 r2 (by simpa only [eC] using hb);exact⟨e,v,vs',rfl,k⟩
  | bP t=>obtain⟨e,k⟩:=zu (Fs:=Fs) ks au vs' (i+1) rt cX od hn.2 r2 (by simpa only [eC] using hb);exact⟨e,v,vs',rfl,k⟩
  | fn=>obtain⟨e,k⟩:=zu (Fs:=Fs) ks au vs' (i+1) rt cX od hn.2 r2 (by simpa only [eC] using hb);exact⟨e,v,vs',rfl,k⟩
theorem sL{h:Array Obj}{S:St}{g:ai}{tmps:Array Value}{H:BS}(st:aj h S g tmps H)(sh:Bool):∀b,Seen sh S g b->b<h.size:=by
 intro b hb;unfold Seen at hb;split at hb
 .exact st.aV b hb
 .rcases hb with hb | ⟨r,h1,h2⟩
  .exact st.aV b hb
  .exact st.bk r b h1 h2
theorem sK{h:Array Obj}{S:St}{g:ai}{tmps:Array Value}{H:BS}(st:aj h S g tmps H)(sh:Bool):bz H (Seen sh S g):=by
 intro b hH hb;unfold Seen at hb;split at hb
 .exact st.aR b hH hb
 .rcases hb with hb | ⟨r,h1,h2⟩
  .exact st.aR b hH hb
  .exact st.hand r h1 b h2 hH
section
variable {P:Program} {C:Ctx} {D:Den C} {S:St} {g:ai} {w:World} {tmps:Array Value}
variable {A:aZ} {site:Nat} (eG:oA P C D) (st:aj w.heap S g tmps Nil)
include eG st
theorem JQ{f:FuncId}{au:List AV}{vs:List Value}{d:Option Nat}(ok:jk A S d site)(ha:gU w.heap S g au vs){gd:fP (C.sig f).params}{cm:aD}
  (h1:dP S.rt (C.sig f).params au=some (gd,cm)) (hn:(C.sig f).params.all (fun k=>!k.cC)=true) {od:bV (C.sig f).params} {cX:aD}
  (h2:eC cm (C.sig f).params au=some (od,cX)) {a:eF (C.sig f).params} (h3:fH cX (C.sig f).params au gd od=some a)
  (hs:iy (C.sig f).params au=true\/(C.sig f).full=true) {r:dU (C.sig f).res×bV (C.sig f).params} (hD:D f a=some r) {β:Bool} {v:AV} {rt':aD}
  (he:(ig A cm d site (C.sig f).res r.1).dec β=some (v,rt')) :
  Calls P f vs.toArray w fun e w'=>∃val,e=.returned val/\Post S g w tmps v rt' val w':=by
 obtain⟨g1,H1,Fs,k1,k2,k3,k4,k5,k6,k7,k8,k9,vK⟩:=tQ (sl:=S.sl) (C.sig f).params au vs S.rt g Nil 0 gd cm ha st h1;obtain⟨e2,hL⟩:=zu (h:=w.heap) (Pr:=g1.Pr) (Fs:=Fs) (C.sig f).params au vs 0 cm cX od hn ha h2;subst e2;have hps:=pY (S:=⟨S.sl,cX⟩) k1 (sh:=iy (C.sig f).params au) (Fs:=Fs) (C.sig f).params au vs 0 gd od a (fun h=>h) (ha.kp k2) k5 hL h3;have pre:Pre w.heap (Seen (iy (C.sig f).params au) ⟨S.sl,cX⟩ g1) Fs (C.sig f).params a vs:=
  ⟨hps,k8,fun i b hb=>sK k1 _ b (k7 i b hb),fun i b hb=>k1.cv b (k7 i b hb),sL k1 _⟩
 refine(eG.ok f a r hD w _ Fs vs pre).mono ?_;rintro e w' ⟨val,dD,Gs,Os,us,rfl,p⟩;obtain⟨g3,H3,q1,q2,q3,q4⟩:=J8 k1 k7 p (fun h=>by
  rcases hs with h5 | h5
  .rw[h]at h5;simp at h5
  .simp only[oF.full,aO]at h5;exact h5.2)
 obtain⟨g4,s1,s2,s3⟩:=w8 q1 q3 p.rV ok (C.sig f).res q2 he;refine⟨val,rfl,g4,s1,by rw[p.val];exact s2,(k3.trans q4).trans s3,p.fr.mono ?_⟩;rintro b hb (h | ⟨i,h⟩)
 .omega
 .have:=k1.cQ b (k7 i b h);rw[k3.2.1]at this;exact this
end
end Go.V

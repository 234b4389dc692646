import Derived.Laws.StructEq
import Derived.Laws.BytesString
import Derived.Laws.Tables
import Derived.Great.BuildSlice
import Derived.Laws.Append
import Derived.Room.Entries
import Derived.Test.YtpmimbgkiindbaaGreatAV0
set_option linter.unusedVariables false
set_option linter.unusedSimpArgs false
set_option linter.unusedSectionVars false
namespace Go.V
noncomputable section
open Go
structure nM (A:bY) (S:St) (d:Option Nat) (site:Nat):Prop where
 xB:A.xB=true->∀d',d=some d'->∀u,(S.get u).roots.contains d'=false
 pl:A.pl=true->∀d',d=some d'->∀u,(S.get u).gJ d'=true
 fr:A.fr=true->site<1048576/\∀u,(S.get u).aQ site (site+1)=true
theorem Mk.dQ(s:Nat):∀{m:Mk},m.ax=true->(m.stamp s).fresh s (s+1)
 | .no,_=>trivial
 | .gone,_=>trivial
 | .own s0 m,h=>by
  simp only[Mk.ax,bI,n8]at h;simp only[Mk.stamp,aj h.1];exact⟨cq _,Nat.lt_succ_self _⟩
 | .pr a b,h=>by
  simp only[Mk.ax,bI]at h;exact⟨Mk.dQ s h.1,Mk.dQ s h.2⟩
theorem L4(t:Ty)(m:Mk)(x:t.den):focus t m x []=some ⟨t,m,x⟩:=by cases t<;>rfl
theorem EX(h:Array Obj)(t:Ty)(c:List Value)(base:fK):cr h t c base []=some (base,c):=by cases t<;>rfl
theorem xP(t:Ty)(x:t.den):bu t x []:=by cases t<;>trivial
theorem ab9{h:Array Obj}{S:St}{g:aA}{r:Nat}{R:aC}(hR:S.root r=some R){c:List Value}{F:BS}(hC:g.C r=c)
  (rep:az h g.Pr R.ty R.ms R.x c F):qe h S g (cW r R.ty R.ms R.x []) (dL R.ty c):=by
 by_cases hu:R.ty=.unit
 .obtain⟨t,m,x,mem⟩:=R;simp only at hu rep⊢;subst hu;simp only[az]at rep;subst rep;simp only[cW,qe,dL,Ty.agg];rfl
 .refine dh.rel rep (EY hR _ _ _ [] (g.base r) c F (L4 _ _ _) (xP _ _) ?_ rep) hu;rw[hC];exact EX _ _ _ _
theorem Cy{h:Array Obj}{S:St}{d8:aO}{g1:aA}{tmps:Array Value}{H:BS}(st:aE h ⟨S.sl,d8⟩ g1 tmps H){t:Ty}{m:Mk}{x:t.den}{c:List Value}{F:BS}
  (rep:az h g1.Pr t m x c F) (tg:aM g1.hd t m c) (hF:Sub F H) {A:bY} {d:Option Nat} {site:Nat} (ok:nM A S d site) {β:Bool} {v:AV} {rt':aO}
  (e:(dU A d8 d site t m x false).dec β=some (v,rt')) :
  ∃g',aE h ⟨S.sl,rt'⟩ g' tmps Nil/\qe h ⟨S.sl,rt'⟩ g' v (dL t c)/\g'.cR g1:=by
 cases d with
 | none=>simp only[dU,Tr.dec,aK,aY]at e;obtain⟨rfl,rfl⟩:=e;exact⟨g1,st.bB (Sub.nil _),by simp only[qe],.refl _⟩
 | some d=>
  simp only[dU,fh,dZ]at e;split at e
  .simp[Tr.dec]at e
  .rename_i hn;simp only[jB,kA,zI,FM,n8]at hn;split at e
   .rename_i hs;simp only[Tr.dec,aK,aY]at e;obtain⟨rfl,rfl⟩:=e;exact⟨g1,st.bB (Sub.nil _),by simp only[qe];exact⟨c,az.eL t hs rep,rfl⟩,.refl _⟩
   .split at e
    .rename_i hc;simp only[Tr.dec,aK,aY]at e;obtain⟨rfl,rfl⟩:=e;have oc:=(az.stamp (h:=h) (Pr:=g1.Pr) site t).1 rep;have key:∀u,((⟨S.sl,d8⟩:St).get u).roots.contains d=false\/(∃lo hi,((⟨S.sl,d8⟩:St).get u).aQ lo hi=true/\((⟨S.sl,d8⟩:St).get u).gJ d=true/\(m.stamp site).fresh lo hi/\(none:Option Nat)=none):=by
      intro u;simp only[jB,bI]at hc;rcases hc with hc | ⟨⟨jM,g9⟩,rL⟩
      .exact .inl (ok.xB hc d rfl u)
      .exact .inr ⟨site,site+1,(ok.fr jM).2 u,ok.pl rL d rfl u,Mk.dQ site g9,rfl⟩
     obtain⟨g',s1,s2,s3,s4,s5,s6⟩:=st.kU hn.1 oc (aM.stamp hn.2 t tg) hF none (fun b hb=>by simp at hb) key;refine⟨g',s1.bB (Sub.nil _),?_,s3⟩;have hR:(⟨S.sl,d8.aI d (some ⟨t,m.stamp site,x,false⟩)⟩:St).root d=some ⟨t,m.stamp site,x,false⟩:=by have:=St.b6 (⟨S.sl,d8⟩:St) d (some ⟨t,m.stamp site,x,false⟩) d;rw[aj ⟨rfl,hn.1⟩]at this;exact this
     exact ab9 (R:=⟨t,m.stamp site,x,false⟩) hR s4 (by rw[s2];exact oc)
    .simp[Tr.dec]at e
theorem Fg{h:Array Obj}{S:St}{d8:aO}{g1:aA}{tmps:Array Value}{H:BS}(st:aE h ⟨S.sl,d8⟩ g1 tmps H){t:Ty}{m:Mk}{x:t.den}{c:List Value}{F:BS}
  (rep:az h g1.Pr t m x c F) (tg:aM g1.hd t m c) (hF:Sub F H) {b:Nat} (hb:H b) (rK:¬ F b) (ho:jz h b c.toArray)
  {A:bY} {d:Option Nat} {site:Nat} (ok:nM A S d site) {β:Bool} {v:AV} {rt':aO}
  (e:(dU A d8 d site t m x true).dec β=some (v,rt')) :
  ∃g',aE h ⟨S.sl,rt'⟩ g' tmps Nil/\qe h ⟨S.sl,rt'⟩ g' v (.pointer (some ⟨b,0,none⟩))/\g'.cR g1:=by
 cases d with
 | none=>simp only[dU,Tr.dec,aK,aY]at e;obtain⟨rfl,rfl⟩:=e;exact⟨g1,st.bB (Sub.nil _),by simp only[qe],.refl _⟩
 | some d=>
  simp only[dU,aX]at e;split at e
  .simp[Tr.dec]at e
  .rename_i hn;simp only[jB,kA,zI,FM,n8]at hn;split at e
   .rename_i hc;simp only[Tr.dec,aK,aY]at e;obtain⟨rfl,rfl⟩:=e;have oc:=(az.stamp (h:=h) (Pr:=g1.Pr) site t).1 rep;obtain⟨g',s1,s2,s3,s4,s5,s6⟩:=st.kU hn.1 oc (aM.stamp hn.2 t tg) hF (some b)
     (fun b' hb'=>by simp only[aK]at hb';subst hb';exact⟨hb,rK,ho⟩) (fun u=>.inl (ok.xB hc d rfl u))
    refine⟨g',s1.bB (Sub.nil _),?_,s3⟩;simp only[qe];intro R hR d' hf';have ck:(⟨S.sl,d8.aI d (some ⟨t,m.stamp site,x,true⟩)⟩:St).root d=some ⟨t,m.stamp site,x,true⟩:=by have:=St.b6 (⟨S.sl,d8⟩:St) d (some ⟨t,m.stamp site,x,true⟩) d;rw[aj ⟨rfl,hn.1⟩]at this;exact this
    rw[ck]at hR;simp only[aK]at hR;subst hR;refine⟨xP _ _,b,0,c,?_,rfl⟩;rw[EX];simp only[aA.base,s5,s4,d_]
   .simp[Tr.dec]at e
def Post(S:St)(g:aA)(w:World)(tmps:Array Value)(v:AV)(rt':aO)(val:Value)(w':World):Prop:=
 ∃g',aE w'.heap ⟨S.sl,rt'⟩ g' tmps Nil/\qe w'.heap ⟨S.sl,rt'⟩ g' v val/\g'.cR g/\kK g.L w w'
theorem Post.same{S:St}{g:aA}{w:World}{tmps:Array Value}{v:AV}{val:Value}(st:aE w.heap S g tmps Nil)(x:qe w.heap S g v val):Post S g w tmps v S.rt val w:=
 ⟨g,st,x,.refl g,.refl _ _⟩
end
end Go.V
namespace Go.V
noncomputable section
open Go
def rW(S:St)(g:aA)(w:World)(tmps:Array Value)(T:Tr (AV×aO))(val:Value)(w':World):Prop:=
 ∃β v rt',T.dec β=some (v,rt')/\Post S g w tmps v rt' val w'
def fC(P:Program)(S:St)(g:aA)(w:World)(tmps:Array Value)(T:Tr (AV×aO)):Result Next->Prop
 | .ok (.value val) w'=>rW S g w tmps T val w'
 | .ok .skip w'=>rW S g w tmps T undef w'
 | .ok (.enter f args) w'=>Calls P f args w' fun
   | .returned val,w''=>rW S g w tmps T val w''
   | _,_=>False
 | _=>False
def bZ(T:Tr (AV×aO)):Prop:=∀β,∃x,T.dec β=some x
theorem bZ.fail:¬ bZ .fail:=fun h=>by obtain⟨x,hx⟩:=h true;simp[Tr.dec]at hx
abbrev Goal(P:Program)(C:Ctx)(D:Den C)(S:St)(g:aA)(w:World)(tmps:Array Value)(a:Act)(ρ:Operand->AV)(A:bY)(site:Nat)(hint:Bool)(o:Oper):Prop:=
 bZ (aV C D A ρ S.rt site hint o)->fC P S g w tmps (aV C D A ρ S.rt site hint o) ((execOp a.eval o).run P w)
section
variable {P:Program} {C:Ctx} {D:Den C} {S:St} {g:aA} {w:World} {tmps:Array Value} {a:Act} {ρ:Operand->AV}
theorem fC.value{T:Tr (AV×aO)}{r:Result Next}{val:Value}{w':World}(hr:r=.ok (.value val) w')(h:rW S g w tmps T val w'):fC P S g w tmps T r:=by subst hr;exact h
theorem fC.ret{r:Result Next}{val:Value}{v:AV}(hr:r=.ok (.value val) w)(st:aE w.heap S g tmps Nil)(x:qe w.heap S g v val) :
  fC P S g w tmps (.ret (v,S.rt)) r:=
 fC.value hr ⟨true,v,S.rt,rfl,Post.same st x⟩
theorem Q3{v:AV}{b:Bool}{val:Value}(h:asBool v=some b)(x:qe w.heap S g v val):val=.bool b:=by
 cases v with
 | val t y=>cases t<;>simp[asBool]at h;subst h;simp only[qe,az]at x;obtain⟨c,rfl,rfl⟩:=x;rfl
 | cG y=>simp[asBool]at h;subst h;simpa only [qe] using x
 | _=>simp[asBool]at h
theorem CA{k:IntKind}{n:Int}{val:Value}(x:qe w.heap S g (.val (.int k) n) val):val=.int k n:=by simp only[qe,az]at x;obtain⟨c,rfl,rfl⟩:=x;rfl
theorem AZ{b:Bool}{val:Value}(x:qe w.heap S g (.val .bool b) val):val=.bool b:=by simp only[qe,az]at x;obtain⟨c,rfl,rfl⟩:=x;rfl
theorem JN{s:ByteArray}{val:Value}(x:qe w.heap S g (.val .str s) val):val=.string s:=by simp only[qe,az]at x;obtain⟨c,rfl,rfl⟩:=x;rfl
theorem vf(k:IntKind)(n:Int):qe w.heap S g (.val (.int k) n) (.int k n):=by simp only[qe,az];exact⟨_,rfl,rfl⟩
theorem DC(b:Bool):qe w.heap S g (.val .bool b) (.bool b):=by simp only[qe,az];exact⟨_,rfl,rfl⟩
theorem Bv(s:ByteArray):qe w.heap S g (.val .str s) (.string s):=by simp only[qe,az];exact⟨_,rfl,rfl⟩
theorem Jw{v:AV}{k:IntKind}{n:Int}{val:Value}(h:wg v=some (k,n))(x:qe w.heap S g v val):val=.int k n:=by
 cases v with
 | val t y=>cases t<;>simp[wg]at h;obtain⟨rfl,rfl⟩:=h;exact CA x
 | _=>simp[wg]at h
variable {A:bY} {site:Nat} {hint:Bool} (bn:iC P C) (st:aE w.heap S g tmps Nil) (hρ:∀x,qe w.heap S g (ρ x) (a.eval x))
include st hρ
theorem akQ{o:Oper}{x:Operand}(ho:o.op=.move x):Goal P C D S g w tmps a ρ A site hint o:=by intro _;simp only[aV,ho];exact fC.ret (by simp[execOp,ho]) st (hρ x)
theorem akX{o:Oper}{c x y:Operand}(ho:o.op=.pick c x y):Goal P C D S g w tmps a ρ A site hint o:=by
 intro ht;simp only[aV,ho]at ht⊢;cases hb:V.asBool (ρ c) with
 | none=>rw[hb]at ht;exact absurd ht bZ.fail
 | some b=>
  have hv:=Q3 hb (hρ c);cases b with
  | true=>exact fC.value (val:=a.eval x) (w':=w) (by simp[execOp,ho,hv,Go.asBool]) ⟨true,_,_,rfl,Post.same st (hρ x)⟩
  | false=>exact fC.value (val:=a.eval y) (w':=w) (by simp[execOp,ho,hv,Go.asBool]) ⟨true,_,_,rfl,Post.same st (hρ y)⟩
omit hρ in
theorem HZ{r:Nat}{p:Path}{d:Dy}{v:Value}(hf:S.rt.focus r p=some d)(x:qe w.heap S g (.addr r p) v) :
  ∃R b off c F,S.root r=some R/\focus R.ty R.ms R.x p=some d/\bu R.ty R.x p/\cr w.heap R.ty (g.C r) (g.base r) p=some (some (b,off),c)/\v=.pointer (some ⟨b,off,none⟩)/\
   az w.heap g.Pr d.ty d.ms d.x c F/\yS w.heap (some (b,off)) c F/\g.G r b:=by
 simp only[aO.focus]at hf;split at hf
 .rename_i R hR;simp only[qe]at x;obtain⟨h1,b,off,c,h2,h3⟩:=x R hR d hf;obtain⟨base,c',F,q1,q2,q3,q4,q5,_⟩:=st.update hR hf h1;rw[h2]at q1;simp only[aK,aY]at q1;obtain⟨rfl,rfl⟩:=q1;exact⟨R,b,off,c,F,hR,hf,h1,h2,h3,q2,q4,q5 b off rfl⟩
 .simp at hf
theorem alx{o:Oper}{x:Operand}(ho:o.op=.nilCheck x):Goal P C D S g w tmps a ρ A site hint o:=by
 intro ht;simp only[aV,ho]at ht⊢;have hx:=hρ x;cases hv:ρ x with
 | addr r p=>
  rw[hv]at hx ht;simp only at ht⊢;cases hf:S.rt.focus r p with
  | none=>rw[hf]at ht;exact absurd ht bZ.fail
  | some d=>obtain⟨R,b,off,c,F,_,_,_,_,e,_⟩:=HZ st hf hx;exact fC.ret (val:=a.eval x) (by simp[execOp,ho,e]) st hx
 | cj t y=>rw[hv]at hx;have hx':=hx;simp only[qe]at hx';obtain⟨b,off,cs,e,_⟩:=hx';exact fC.ret (val:=a.eval x) (by simp[execOp,ho,e]) st hx
 | gH f c=>rw[hv]at hx;have hx':=hx;simp only[qe]at hx';obtain⟨vs,e,_⟩:=hx';exact fC.ret (val:=a.eval x) (by simp[execOp,ho,e]) st hx
 | _=>rw[hv]at ht;exact absurd ht bZ.fail
theorem akw{o:Oper}{op:UnOp}{t:TypeId}{x:Operand}(ho:o.op=.unOp op t x):Goal P C D S g w tmps a ρ A site hint o:=by
 intro ht;simp only[aV,ho]at ht⊢;have hx:=hρ x;cases op with
 | not=>
  split at ht
  .rename_i b _ hv;rw[hv]at hx;exact fC.ret (val:=.bool (!b)) (by simp[execOp,ho,AZ hx,Op.unary]) st (DC _)
  .rename_i _ _ hc _;simp at hc
  .exact absurd ht bZ.fail
 | neg=>
  split at ht
  .rename_i _ _ hc _;simp at hc
  .rename_i kd n _ hv;rw[hv]at hx;exact fC.ret (val:=.int kd (kd.wrap (0-n))) (by simp[execOp,ho,CA hx,Op.unary,Op.intArith]) st (vf _ _)
  .exact absurd ht bZ.fail
 | _=>exact absurd ht bZ.fail
omit st hρ in
theorem We:∀(p:Path){t:Ty}{x:t.den}{d:Dy},focus t .no x p=some d->d.ms=.no/\qx p=false
 | [],t,x,d,h=>by rw[L4]at h;simp only[aK]at h;subst h;exact⟨rfl,rfl⟩
 | .fst::p,t,x,d,h=>by
  cases t with
  | pair a b=>simp only[focus,Mk.fst]at h;exact We p h
  | _=>simp[focus]at h
 | .snd::p,t,x,d,h=>by
  cases t with
  | pair a b=>simp only[focus,Mk.snd]at h;exact We p h
  | _=>simp[focus]at h
 | .idx i s::p,t,x,d,h=>by cases t<;>simp[focus]at h
end
end
theorem Wg{C:Ctx}:∀(f:Nat){fs:List Field}{off:Nat}{T:Ty}{m:Mk}{x:T.den}{d:Dy},mX C fs off T->focus T m x (ic f)=some d->
  ∃fd,fs[f]? = some fd/\d.ty=C.ty fd.type/\fd.offset=off+eF T (ic f)/\(C.ty fd.type).nz=true/\qx (ic f)=false
 | 0,fs,off,T,m,x,d,hs,hf=>by
  cases fs with
  | nil=>simp only[mX]at hs;subst hs;simp[ic,focus]at hf
  | cons fd fs=>
   simp only[mX]at hs;obtain⟨b,rfl,h1,_,h2,h3⟩:=hs;simp only[ic,focus,aK]at hf;subst hf;refine⟨fd,rfl,rfl,?_,h2,rfl⟩;have:eF (Ty.pair (C.ty fd.type) b) (ic 0)=eF (C.ty fd.type) []:=rfl;rw[this];have:eF (C.ty fd.type) []=0:=by cases C.ty fd.type<;>rfl
   omega
 | f+1,fs,off,T,m,x,d,hs,hf=>by
  cases fs with
  | nil=>simp only[mX]at hs;subst hs;simp[ic,focus]at hf
  | cons fd fs=>simp only[mX]at hs;obtain⟨b,rfl,h1,_,h2,h3⟩:=hs;simp only[ic,focus]at hf;obtain⟨fd',q1,q2,q3,q4,q5⟩:=Wg f h3 hf;refine⟨fd',by simpa using q1,q2,?_,q4,by simpa [ic,qx] using q5⟩;have:eF (Ty.pair (C.ty fd.type) b) (ic (f+1))=(C.ty fd.type).width+eF b (ic f):=rfl;omega
theorem Ty.kV{t:Ty}(h:t.nz=true):t≠.unit:=by rintro rfl;simp[Ty.nz]at h
theorem GZ{t:Ty}(h:t.nz=true)(ha:t.agg=false):t.width=1:=by cases t<;>simp_all [Ty.nz,Ty.agg,Ty.width]
section
variable {P:Program} {C:Ctx} {D:Den C} {S:St} {g:aA} {w:World} {tmps:Array Value} {a:Act} {ρ:Operand->AV}
variable {A:bY} {site:Nat} {hint:Bool} (bn:iC P C) (st:aE w.heap S g tmps Nil) (hρ:∀x,qe w.heap S g (ρ x) (a.eval x))
theorem Hs{t:TypeId}(k:mF P C t)(hz:(C.ty t).nz=true){b o:Nat}{c:List Value}(hr:w.rangeAt b o c)(hl:c.length=(C.ty t).width) :
  (Instr.loadAt t (.pointer (some ⟨b,o,none⟩))).run P w=.ok (dL (C.ty t) c) w:=by
 simp only[Instr.loadAt,Instr.sureAddr,loadVar,Sem.run_bind,Sem.run_pure,Result.andThen_ok,k.o_];by_cases ha:(C.ty t).agg=true
 .have h1:(loadCells ⟨b,o,none⟩ c.length).run P w=.ok c.toArray w:=run_loadCells_list (P:=P) w ⟨b,o,none⟩ c (fun j v hv=>by rw[Addr.add_mid];exact hr j v hv);rw[hl]at h1;simp only[ha,aX,Sem.run_bind,k.fN,Result.andThen_ok,h1,Sem.run_pure,dL]
 .have vK:(C.ty t).agg=false:=by simpa using ha
  have hw:=GZ hz vK;have:∃v,c=[v]:=by
   rw[hw]at hl
   match c,hl with
   | [v],_=>exact⟨v,rfl⟩
  obtain⟨v,rfl⟩:=this;have:=hr 0 v rfl;simp only[qS]at this;simp[vK,Go.load,Go.run_load,this,dL,Sem.run]
include bn st hρ
theorem akN{o:Oper}{t:TypeId}{x:Operand}(ho:o.op=.load t x):Goal P C D S g w tmps a ρ A site hint o:=by
 intro ht;simp only[aV,ho]at ht⊢;have hx:=hρ x;by_cases hz:(C.ty t).nz=true
 .have k:=bn t hz;simp only[hz,aX]at ht⊢;cases hv:ρ x with
  | cj t' y=>
   rw[hv]at hx ht;simp only[vj]at ht⊢;cases hc:qbv t' (C.ty t) y with
   | none=>rw[hc]at ht;exact absurd ht bZ.fail
   | some z=>simp only[qe]at hx;obtain⟨b,off,cs,e,hp,hb,hs,rep⟩:=hx;have hw:=az.width t' rep;obtain⟨e1,jR⟩:=az.cast hc rep;subst e1;have hrun:=Hs (w:=w) k hz (Dw hb hs) hw;refine fC.ret (v:=.val (C.ty t) z) (val:=dL (C.ty t) (sub cs off (C.ty t).width)) ?_ st (by simp only[qe];exact⟨_,jR,rfl⟩);simp[execOp,ho,e,hrun]
  | addr r p=>
   rw[hv]at hx ht;simp only[vj]at ht⊢;cases hf:S.rt.focus r p with
   | none=>rw[hf]at ht;exact absurd ht bZ.fail
   | some d=>
    rw[hf]at ht;simp only at ht⊢;by_cases hd:d.ty=C.ty t
    .simp only[hd,aX]at ht⊢;obtain⟨R,b,off,c,F,hR,zu,hin,ej,e,rep,zq,_⟩:=HZ st hf hx;obtain⟨_,cs,Ao,hs,hsub⟩:=zq b off rfl;have hw:=az.width d.ty rep;have m_:w.rangeAt b off c:=by have:=Dw (w:=w) Ao.CO hs;rw[hsub]at this;exact this
     have hrun:=Hs (w:=w) k hz m_ (by rw[hw,hd]);obtain⟨dt,dm,dx⟩:=d;simp only at hd;subst hd;refine fC.ret (val:=dL (C.ty t) c) ?_ st ?_
     .simp[execOp,ho,e,hrun]
     .exact dh.rel rep (EY hR _ _ _ p (some (b,off)) c F zu hin ej rep) (Ty.kV hz)
    .rw[af hd]at ht;exact absurd ht bZ.fail
  | _=>rw[hv]at ht;exact absurd ht bZ.fail
 .rw[af hz]at ht;exact absurd ht bZ.fail
end
theorem bZ.of{x:Option (AV×aO)}(h:bZ (.of x)):∃y,x=some y:=by
 cases x with
 | none=>exact absurd h bZ.fail
 | some y=>exact⟨y,rfl⟩
theorem iC.desc{P:Program}{C:Ctx}(h:iC P C){t:TypeId}{e:Ty}(ht:C.ty t=.sl e):∃u,P.underlying t=some (.slice u)/\C.ty u=e/\(C.ty u).nz=true:=by
 have k:=h t (by rw[ht];rfl);obtain⟨d,h1,h2⟩:=k.desc;rw[ht]at h2;cases d<;>simp only[oM]at h2<;>try (simp at h2)
 case slice u=>exact⟨u,h1,h2.1.symm,h2.2⟩
 case struct fs=>cases hl:fs.toList<;>rw[hl]at h2<;>simp[mX]at h2
theorem iC.str{P:Program}{C:Ctx}(h:iC P C){t:TypeId}(ht:C.ty t=.str):P.underlying t=some .string:=by
 have k:=h t (by rw[ht];rfl);obtain⟨d,h1,h2⟩:=k.desc;rw[ht]at h2;cases d<;>simp only[oM]at h2<;>try (simp at h2)
 case string=>exact h1
 case struct fs=>cases hl:fs.toList<;>rw[hl]at h2<;>simp[mX]at h2
theorem iC.bool{P:Program}{C:Ctx}(h:iC P C){t:TypeId}(ht:C.ty t=.bool):P.underlying t=some .bool:=by
 have k:=h t (by rw[ht];rfl);obtain⟨d,h1,h2⟩:=k.desc;rw[ht]at h2;cases d<;>simp only[oM]at h2<;>try (simp at h2)
 case bool=>exact h1
 case struct fs=>cases hl:fs.toList<;>rw[hl]at h2<;>simp[mX]at h2
theorem iC.int{P:Program}{C:Ctx}(h:iC P C){t:TypeId}{k:IntKind}(ht:C.ty t=.int k):P.underlying t=some (.int k):=by
 have kk:=h t (by rw[ht];rfl);obtain⟨d,h1,h2⟩:=kk.desc;rw[ht]at h2;cases d<;>simp only[oM]at h2<;>try (simp at h2)
 case int=>subst h2;exact h1
 case struct fs=>cases hl:fs.toList<;>rw[hl]at h2<;>simp[mX]at h2
theorem iC.pair{P:Program}{C:Ctx}(h:iC P C){t:TypeId}{a b:Ty}(ht:C.ty t=.pair a b):∃fs,P.underlying t=some (.struct fs)/\mX C fs.toList 0 (.pair a b):=by
 have kk:=h t (by rw[ht];rfl);obtain⟨d,h1,h2⟩:=kk.desc;rw[ht]at h2;cases d<;>simp only[oM]at h2<;>try (simp at h2)
 case struct fs=>exact⟨fs,h1,h2⟩
section
variable {P:Program} {C:Ctx} {D:Den C} {S:St} {g:aA} {w:World} {tmps:Array Value} {a:Act} {ρ:Operand->AV}
variable {A:bY} {site:Nat} {hint:Bool} (bn:iC P C) (st:aE w.heap S g tmps Nil) (hρ:∀x,qe w.heap S g (ρ x) (a.eval x))
include bn st hρ
theorem ajL{o:Oper}{s:TypeId}{x:Operand}{f:Nat}(ho:o.op=.fieldAddr s x f):Goal P C D S g w tmps a ρ A site hint o:=by
 intro ht;simp only[aV,ho]at ht⊢;have hx:=hρ x;obtain⟨y,hy⟩:=bZ.of ht;rw[hy];simp only[fq]at hy;obtain⟨v,hv,rfl⟩:=hy;have hsome:∀(T:Ty),C.ty s=T->∀(m:Mk)(z:T.den)(d:Dy),focus T m z (ic f)=some d->∃fs fd,P.underlying s=some (.struct fs)/\fs[f]? = some fd/\d.ty=C.ty fd.type/\
   fd.offset=eF T (ic f)/\(C.ty fd.type).nz=true/\qx (ic f)=false:=by
  intro T hT m z d hf;cases T with
  | pair a b=>obtain⟨fs,h1,h2⟩:=bn.pair hT;obtain⟨fd,q1,q2,q3,q4,q5⟩:=Wg f h2 hf;exact⟨fs,fd,h1,by simpa using q1,q2,by omega,q4,q5⟩
  | _=>cases f<;>simp[ic,focus]at hf
 have hrun:∀(fs:Array Field)(fd:Field)(b off:Nat),P.underlying s=some (.struct fs)->fs[f]? = some fd->(C.ty fd.type).nz=true->
   (Instr.fieldAt s (.pointer (some ⟨b,off,none⟩)) f).run P w=.ok (.pointer (some ⟨b,off+fd.offset,none⟩)) w:=by
  intro fs fd b off h1 h2 h3;have k:=bn fd.type h3;have hp:=k.pos;have hne:(C.ty fd.type).width≠0:=by omega
  simp only[Instr.fieldAt,Instr.sureAddr,fieldPlace,Sem.run_bind,run_underlying h1,Result.andThen_ok,h2,Sem.run_pure,k.fN,af hne,Addr.add_mid]
 cases hρx:ρ x with
 | addr r p=>
  rw[hρx]at hx hv;simp only[Cj]at hv;split at hv
  .rename_i d hf;split at hv
   .rename_i hc;simp only[aK]at hv;subst hv;obtain⟨d',hf'⟩:=yd.1 hc.2;obtain⟨R,b,off,c,F,hR,zu,hin,ej,e,rep,zq,_⟩:=HZ st hf hx;obtain⟨fs,fd,h1,h2,h3,h4,h5,h6⟩:=hsome d.ty hc.1.symm _ _ _ hf';refine fC.ret (val:=.pointer (some ⟨b,off+fd.offset,none⟩)) (by simp[execOp,ho,e,hrun fs fd b off h1 h2 h5]) st ?_;simp only[qe];intro R' ck d2 uc;rw[hR]at ck;simp only[aK]at ck;subst ck;have KS:bu d.ty d.x (ic f):=zQ _ _ h6 (ve _ hf');obtain⟨base',c',F2,Fr,z⟩:=zip (ic f) _ _ _ c F (some (b,off)) d' rep hf' KS zq;refine⟨(yN p _ zu).2 ⟨hin,KS⟩,b,off+fd.offset,c',?_,rfl⟩;rw[vc p _ zu ej,z.at_];obtain⟨q1,_,_⟩:=z.plain h6;rw[q1,h4];rfl
   .simp at hv
  .simp at hv
 | cj t y=>
  rw[hρx]at hx hv;simp only[Cj]at hv;split at hv
  .rename_i hT;cases hf:focus t .no y (ic f) with
   | none=>rw[hf]at hv;simp at hv
   | some d=>
    rw[hf]at hv;simp only[dG,aK]at hv;subst hv;simp only[qe]at hx;obtain⟨b,off,cs,e,hp,hb,hs,rep⟩:=hx;obtain⟨fs,fd,h1,h2,h3,h4,h5,h6⟩:=hsome t hT.symm _ _ _ hf;obtain⟨hm,_⟩:=We _ hf;obtain⟨base',c',F2,Fr,z⟩:=zip (ic f) _ _ _ _ Nil none d rep hf (zQ _ _ h6 (ve _ hf)) (fun b o e=>by simp at e);obtain⟨q1,q2,q3⟩:=z.plain h6;have hl:=az.width t rep;refine fC.ret (val:=.pointer (some ⟨b,off+fd.offset,none⟩)) (by simp[execOp,ho,e,hrun fs fd b off h1 h2 h5]) st ?_;simp only[qe];refine⟨b,off+fd.offset,cs,rfl,hp,hb,by rw[h4];omega,?_⟩;have r2:=z.rep;rw[hm]at r2;have r3:=az.eL (F':=Nil) d.ty rfl r2;have e3:c'=sub cs (off+fd.offset) d.ty.width:=by rw[q2,h4];simp only[sub,yo,qR,uK];congr 1;omega
    rw[<-e3];exact r3
  .simp at hv
 | _=>rw[hρx]at hv;simp[Cj]at hv
theorem ajW{o:Oper}{t:TypeId}{x i:Operand}(ho:o.op=.indexAddr t x i):Goal P C D S g w tmps a ρ A site hint o:=by
 intro ht;simp only[aV,ho]at ht⊢;have hx:=hρ x;have hi:=hρ i;simp only[xW]at ht⊢;cases hn:wg (ρ i) with
 | none=>rw[hn]at ht;exact absurd ht bZ.fail
 | some kn=>
  obtain⟨k,n⟩:=kn;rw[hn]at ht;have ei:=Jw hn hi;simp only at ht⊢;have hrun:∀(u:TypeId)(b off len cap:Nat),P.underlying t=some (.slice u)->(C.ty u).nz=true->0<=n->n<(len:Int)->a.eval x=.slice (some ⟨b,off,none⟩) len cap->
    (execOp a.eval o).run P w=.ok (.value (.pointer (some ⟨b,off+n.toNat * (C.ty u).width,none⟩))) w:=by
   intro u b off len cap h1 h2 h3 h4 h5;simp[execOp,ho,ei,h5,Instr.indexAt,asIntOf,run_underlying h1,(bn u h2).fN,h3,h4,Addr.add_mid,Sem.run_bind]
  cases hv:ρ x with
  | val t' xs=>
   cases t' with
   | sl e=>
    rw[hv]at hx ht;simp only at ht⊢;by_cases hT:C.ty t=.sl e
    .simp only[hT,aX]at ht⊢;obtain⟨u,h1,h2,h3⟩:=bn.desc hT;obtain⟨⟨v,rt'⟩,hd⟩:=ht true;simp only[Tr.dec]at hd;by_cases hc:0<=n/\n<(xs.length:Int)
     .simp only[qe,az]at hx;obtain⟨c,⟨ad,cap,rfl,hl,hr⟩,e0⟩:=hx;have hne:xs≠[]:=by rintro rfl;simp at hc;omega
      obtain⟨b,off,cs,rfl,hp,hb,hs,re⟩:=hr hne;refine fC.value (hrun u b off _ cap h1 h3 hc.1 hc.2 (by rw[e0];rfl)) ⟨true,.cj e (xs.getD n.toNat e.zero),S.rt,by simp[Tr.dec,hc.1,hc.2],Post.same st ?_⟩;simp only[qe];have hlt:n.toNat<xs.length:=by omega
      refine⟨b,off+n.toNat * (C.ty u).width,cs,rfl,hp,hb,?_,?_⟩
      .rw[h2];have:n.toNat * e.width+e.width<=xs.length * e.width:=by have:=fu e.width (show n.toNat+1<=xs.length by omega);rw[mg]at this;exact this
       omega
      .rw[h2];exact re n.toNat hlt
     .have:(decide (0<=n)&&decide (n<(xs.length:Int)))=false:=by simp only[oh,nG];omega
      rw[this]at hd;simp[Tr.dec]at hd
    .rw[af hT]at ht;exact absurd ht bZ.fail
   | _=>rw[hv]at ht;exact absurd ht bZ.fail
  | b9 r p s=>
   rw[hv]at hx ht;simp only at ht⊢;cases hf:S.rt.focus r p with
   | none=>rw[hf]at ht;exact absurd ht bZ.fail
   | some d=>
    obtain⟨dt,dm,dx⟩:=d;cases dt with
    | sl e=>
     cases dm with
     | own s' m=>
      rw[hf]at ht;simp only at ht⊢;by_cases hT:s=s'/\C.ty t=.sl e
      .simp only[aj hT]at ht⊢;obtain⟨rfl,hT⟩:=hT;obtain⟨u,h1,h2,h3⟩:=bn.desc hT;obtain⟨⟨v,rt'⟩,hd⟩:=ht true;simp only[Tr.dec]at hd;by_cases hc:0<=n/\n<((dx:List e.den).length:Int)
       .simp only[qe]at hx;obtain⟨R,base,F,hR,zu,hin,ej,rep,hF⟩:=L8 st hf rfl hx;simp only[az]at rep;obtain⟨ad,cap,e0,hl,hr⟩:=rep;simp only[eZ,iQ]at e0;rcases hr with hr | ⟨b,cs,rfl,fb,hb,hs,Fs,pX,Af,re⟩
        .omega
        .refine fC.value (hrun u b 0 _ cap h1 h3 hc.1 hc.2 e0) ⟨true,.addr r (p++[.idx n.toNat s]),S.rt,by simp[Tr.dec,hc.1,hc.2],Post.same st ?_⟩;have hlt:n.toNat<(dx:List e.den).length:=by omega
         simp only[qe];intro R' ck d2 uc;rw[hR]at ck;simp only[aK]at ck;subst ck;refine⟨(yN p _ zu).2 ⟨hin,?_⟩,b,0+n.toNat * (C.ty u).width,?_⟩
         .simp only[bu];exact⟨hlt,trivial⟩
         .refine⟨sub cs (n.toNat * e.width) e.width,?_,rfl⟩;rw[vc p _ zu ej];obtain⟨ty,lo,hi',he,_⟩:=hb;simp only[e0,cr,he,EX,h2,kB]
       .have:(decide (0<=n)&&decide (n<((dx:List e.den).length:Int)))=false:=by simp only[oh,nG];omega
        rw[this]at hd;simp[Tr.dec]at hd
      .rw[af hT]at ht;exact absurd ht bZ.fail
     | _=>rw[hf]at ht;exact absurd ht bZ.fail
    | _=>rw[hf]at ht;exact absurd ht bZ.fail
  | _=>rw[hv]at ht;exact absurd ht bZ.fail
end
theorem az.len{h:Array Obj}{Pr:BS}{t:Ty}{m:Mk}{xs:(Ty.sl t).den}{c:List Value}{F:BS}(hm:m≠.gone)(r:az h Pr (.sl t) m xs c F):∃a cap,c=[.slice a xs.length cap]/\(xs.length≠0->a.isSome):=by
 cases m with
 | gone=>exact absurd rfl hm
 | no=>simp only[az]at r;obtain⟨a,cap,rfl,_,h2⟩:=r;refine⟨a,cap,rfl,fun hl=>?_⟩;obtain⟨b,o,cs,e,_⟩:=h2 (by rintro rfl;simp at hl);rw[e];rfl
 | pr _ _=>simp only[az]at r;obtain⟨a,cap,rfl,_,h2⟩:=r;refine⟨a,cap,rfl,fun hl=>?_⟩;obtain⟨b,o,cs,e,_⟩:=h2 (by rintro rfl;simp at hl);rw[e];rfl
 | own s mi=>
  simp only[az]at r;obtain⟨a,cap,rfl,h1,h2⟩:=r;refine⟨a,cap,rfl,fun hl=>?_⟩;rcases h2 with h2 | ⟨b,cs,e,_⟩
  .omega
  .rw[e];rfl
section
variable {P:Program} {C:Ctx} {D:Den C} {S:St} {g:aA} {w:World} {tmps:Array Value} {a:Act} {ρ:Operand->AV}
variable {A:bY} {site:Nat} {hint:Bool} (bn:iC P C) (st:aE w.heap S g tmps Nil) (hρ:∀x,qe w.heap S g (ρ x) (a.eval x))
include st in
theorem HJ{v:AV}{n:Int}{val:Value}(h:yV S.rt v=some n)(x:qe w.heap S g v val):∃ad len cap,val=.slice ad len cap/\n=(len:Int)/\(len≠0->ad.isSome):=by
 cases v with
 | val t xs=>
  cases t with
  | sl e=>simp only[yV,aK]at h;simp only[qe]at x;obtain⟨c,r,rfl⟩:=x;obtain⟨ad,cap,rfl,hs⟩:=az.len (by simp) r;exact⟨ad,_,cap,rfl,h.symm,hs⟩
  | _=>simp[yV]at h
 | fm=>simp only[yV,aK]at h;simp only[qe]at x;exact⟨none,0,0,x,by rw[<-h];rfl,by simp⟩
 | b9 r p s=>
  simp only[yV]at h;split at h
  .rename_i e s' m xs hf;split at h
   .rename_i hs;simp only[aK]at h;simp only[qe]at x;obtain⟨R,base,F,_,_,_,_,rep,_⟩:=L8 st hf hs x;obtain⟨ad,cap,e0,lS⟩:=az.len (by simp) rep;simp only[eZ,iQ]at e0;exact⟨ad,_,cap,e0,h.symm,lS⟩
   .simp at h
  .simp at h
 | _=>simp[yV]at h
include bn st hρ
theorem alu{o:Oper}{c:Call}(ho:o.op=.call c)(hc:c.callee=.builtin .len):Goal P C D S g w tmps a ρ A site hint o:=by
 intro ht;simp only[aV,ho,hc]at ht⊢;split at ht<;>try (rename_i hb _ _;simp at hb;done)
 .rename_i s _ _ hargs j8;have:∃x,c.args.toList=[x]/\ρ x=.val .str s:=by
   match jN:c.args.toList with
   | []=>rw[jN]at hargs;simp at hargs
   | [x]=>rw[jN]at hargs;simp only[cv,f6,eZ,iQ]at hargs;exact⟨x,rfl,hargs⟩
   | _::_::_=>rw[jN]at hargs;simp at hargs
  obtain⟨x,hx1,XR⟩:=this;obtain⟨t,l,Jk,XI⟩:∃t l,c.argTypes.toList=t::l/\C.ty t=.str:=by
   match jN:c.argTypes.toList with
   | []=>rw[jN]at j8;simp at j8
   | t::l=>rw[jN]at j8;simp only[cv,eZ]at j8;exact⟨t,l,rfl,j8.1⟩
  have hv:=hρ x;rw[XR]at hv;have e1:c.args = #[x]:=by rw[<-pE (xs:=c.args),hx1]
  have e2:c.argTypes[0]? = some t:=by rw[<-ye,Jk];rfl
  refine fC.ret (val:=.int .i64 (s.size:Nat)) ?_ st (vf _ _);simp[execOp,ho,resolve,hc,invoke,builtin,Builtin.len_,e1,e2,JN hv,run_underlying (bn.str XI),goInt,Sem.run_bind]
 .rename_i x0 e _ _ hargs j8;have:∃x,c.args.toList=[x]/\ρ x=x0:=by
   match jN:c.args.toList with
   | []=>rw[jN]at hargs;simp at hargs
   | [x]=>rw[jN]at hargs;simp only[cv,f6,eZ,iQ]at hargs;exact⟨x,rfl,hargs⟩
   | _::_::_=>rw[jN]at hargs;simp at hargs
  obtain⟨x,hx1,XR⟩:=this;obtain⟨t,l,Jk,XI⟩:∃t l,c.argTypes.toList=t::l/\C.ty t=.sl e:=by
   match jN:c.argTypes.toList with
   | []=>rw[jN]at j8;simp at j8
   | t::l=>rw[jN]at j8;simp only[cv,eZ]at j8;exact⟨t,l,rfl,j8.1⟩
  have hv:=hρ x;rw[XR]at hv;obtain⟨y,hy⟩:=bZ.of ht;rw[hy];simp only[fq]at hy;obtain⟨n,hn,rfl⟩:=hy;obtain⟨ad,len,cap,ev,en,_⟩:=HJ st hn hv;obtain⟨u,h1,_,_⟩:=bn.desc XI;have e1:c.args = #[x]:=by rw[<-pE (xs:=c.args),hx1]
  have e2:c.argTypes[0]? = some t:=by rw[<-ye,Jk];rfl
  subst en;refine fC.ret (val:=.int .i64 (len:Nat)) ?_ st (vf _ _);simp[execOp,ho,resolve,hc,invoke,builtin,Builtin.len_,e1,e2,ev,run_underlying h1,goInt,Sem.run_bind]
 all_goals (first | exact absurd ht bZ.fail | (exfalso;contradiction) | trace_state)
end
section
variable {P:Program} {C:Ctx} {D:Den C} {S:St} {g:aA} {w:World} {tmps:Array Value} {a:Act} {ρ:Operand->AV}
variable {A:bY} {site:Nat} {hint:Bool} (bn:iC P C) (st:aE w.heap S g tmps Nil) (hρ:∀x,qe w.heap S g (ρ x) (a.eval x))
include bn st hρ
theorem acT{o:Oper}{s:TypeId}{x:Operand}{f:Nat}(ho:o.op=.field s x f):Goal P C D S g w tmps a ρ A site hint o:=by
 intro ht;simp only[aV,ho]at ht⊢;have hx:=hρ x;cases hv:ρ x with
 | val t y=>
  rw[hv]at hx ht;simp only at ht⊢;by_cases hT:t=C.ty s
  .subst hT;simp only[aX]at ht⊢;cases hf:focus (C.ty s) .no y (ic f) with
   | none=>rw[hf]at ht;exact absurd ht bZ.fail
   | some d=>
    obtain⟨ta,tb,WH⟩:∃ta tb,C.ty s=.pair ta tb:=by
     cases hs:C.ty s with
     | pair ta tb=>exact⟨ta,tb,rfl⟩
     | _=>exfalso;revert y;rw[hs];intro y _ _ _ hf;cases f<;>simp[ic,focus]at hf
    obtain⟨fs,h1,h2⟩:=bn.pair WH;rw[<-WH]at h2;obtain⟨fd,q1,q2,q3,q4,q5⟩:=Wg f h2 hf;simp only[qe]at hx;obtain⟨c,rep,e⟩:=hx;have hm:=(We _ hf).1;obtain⟨base',c',F2,Fr,z⟩:=zip (ic f) _ _ _ _ Nil none d rep hf (zQ _ _ q5 (ve _ hf)) (fun b o e=>by simp at e);obtain⟨_,e2,e3⟩:=z.plain q5;have r2:=z.rep;rw[hm]at r2;have r3:=az.eL (F':=Nil) d.ty rfl r2;have k:=bn fd.type q4;have q1':fs[f]? = some fd:=by simpa using q1
    have WK:(C.ty s).agg=true:=by rw[WH];rfl
    have hoff:fd.offset=eF (C.ty s) (ic f):=by omega
    have hrun:(part fd.type c.toArray fd.offset).run P w=.ok (dL d.ty c') w:=by
     rw[e2];simp only[part,Sem.run_bind,k.o_,Result.andThen_ok];rw[<-q2];by_cases ha:d.ty.agg=true
     .have hsz:=k.fN w;rw[<-q2]at hsz;simp only[ha,aX,Sem.run_bind,hsz,Result.andThen_ok,Sem.run_pure,dL];congr 2;apply yX;simp only[Array.toList_extract,SF];rw[hoff];congr 2;omega
     .have vK:d.ty.agg=false:=by simpa using ha
      have hw:=GZ (by rw[q2];exact q4) vK;rw[hw]at e3⊢;have hlt:eF (C.ty s) (ic f)<c.length:=by omega
      have:(c.drop (eF (C.ty s) (ic f))).take 1=[c[eF (C.ty s) (ic f)]]:=by rw[SG hlt];rfl
      simp[vK,hoff,dL,this,gz hlt]
    refine fC.ret (v:=.val d.ty d.x) (val:=dL d.ty c') ?_ st (by simp only[qe];exact⟨c',r3,rfl⟩);have:dL (C.ty s) c=.agg c.toArray:=by simp[dL,WK]
    simp[execOp,ho,e,this,Instr.field,run_underlying h1,q1',asAgg,hrun,Sem.run_bind]
  .rw[af hT]at ht;exact absurd ht bZ.fail
 | _=>rw[hv]at ht;exact absurd ht bZ.fail
theorem acX{o:Oper}{t:TypeId}{x i:Operand}(ho:o.op=.index t x i):Goal P C D S g w tmps a ρ A site hint o:=by
 intro ht;simp only[aV,ho]at ht⊢;have hx:=hρ x;have hi:=hρ i;split at ht
 .rename_i s k n hT hv hn;rw[hv]at hx;have ei:=Jw hn hi;have ex:=JN hx;obtain⟨⟨v,rt'⟩,hd⟩:=ht true;simp only[Tr.dec]at hd;by_cases hc:0<=n/\n<(s.size:Int)
  .have hlt:n.toNat<s.size:=by omega
   have e1:s[n.toNat]? = some (s.data.getD n.toNat 0):=by
    have:s[n.toNat]? = some s[n.toNat]:=by simp[hlt]
    rw[this];congr 1;have h2:n.toNat<s.data.size:=hlt;show s[n.toNat]=s.data.getD n.toNat 0;rw[pq,vE h2];rfl
   refine fC.value (val:=.int .u8 ((s.data.getD n.toNat 0).toNat:Int)) (w':=w) ?_ ⟨true,_,S.rt,by simp[Tr.dec,hc.1,hc.2],Post.same st (vf _ _)⟩;simp[execOp,ho,ei,ex,Instr.index,asIntOf,run_underlying (bn.str hT),hc.1,e1,Sem.run_bind]
  .have:(decide (0<=n)&&decide (n<(s.size:Int)))=false:=by simp only[oh,nG];omega
   rw[this]at hd;simp[Tr.dec]at hd
 .exact absurd ht bZ.fail
theorem ajK:∀{i:Nat}{v y:AV}{val:Value},L3 v i=some y->qe w.heap S g v val->∃vs u,val=.tuple vs/\vs[i]? = some u/\qe w.heap S g y u:=by
 intro i
 induction i with
 | zero=>
  intro v y val h x;unfold L3 at h;split at h
  .simp only[aK]at h;subst h;simp only[qe,aN]at x;obtain⟨vs,rfl,u,vs',rfl,h1,h2⟩:=x;exact⟨_,u,rfl,by simp,h1⟩
  .rename_i h0;simp at h0
  .simp at h
 | succ i ih=>
  intro v y val h x;unfold L3 at h;split at h
  .rename_i h0;simp at h0
  .rename_i a b n he;simp only[Nat.succ.injEq]at he;subst he;simp only[qe,aN]at x;obtain⟨vs,rfl,u,vs',rfl,h1,h2⟩:=x;obtain⟨vs2,u2,e1,e2,e3⟩:=ih h (val:=.tuple vs'.toArray) (by simp only[qe];exact⟨vs',rfl,h2⟩);simp only[Value.tuple.injEq]at e1;subst e1;exact⟨_,u2,rfl,by simpa using e2,e3⟩
  .simp at h
theorem abe{o:Oper}{x:Operand}{i:Nat}(ho:o.op=.extract x i):Goal P C D S g w tmps a ρ A site hint o:=by intro ht;simp only[aV,ho]at ht⊢;obtain⟨y,hy⟩:=bZ.of ht;rw[hy];simp only[fq]at hy;obtain⟨v,hv,rfl⟩:=hy;obtain⟨vs,u,e1,e2,e3⟩:=ajK bn st hρ hv (hρ x);exact fC.ret (val:=u) (by simp[execOp,ho,e1,Instr.extract,e2]) st e3
theorem aaM{o:Oper}{f:Fn}{first caps:Array Operand}(ho:o.op=.makeFunc f first caps):Goal P C D S g w tmps a ρ A site hint o:=by
 intro ht;simp only[aV,ho]at ht⊢;cases f with
 | func f=>
  simp only at ht⊢;by_cases he:first.isEmpty=true
  .simp only[he,aX]at ht⊢;have e0:first = #[]:=by simpa using he
   refine fC.ret (val:=.func (.func f) #[] (caps.map a.eval)) (by simp only[execOp,ho,Instr.makeFunc,e0,Array.map_empty,Sem.run_bind,Sem.run_pure,Result.andThen_ok]) st ?_;simp only[qe];refine⟨(caps.map a.eval).toList,by rw[pE],?_⟩;rw[Array.toList_map];generalize caps.toList=l
   induction l with
   | nil=>simp only[List.foldr_nil,f6,aN]
   | cons x l ih=>simp only[Gc,cv,aN];exact⟨_,_,rfl,hρ x,ih⟩
  .rw[af he]at ht;exact absurd ht bZ.fail
 | _=>exact absurd ht bZ.fail
end
end Go.V
namespace Go.V
noncomputable section
open Go
section
variable {P:Program} {C:Ctx} {D:Den C} {S:St} {g:aA} {w:World} {tmps:Array Value} {a:Act} {ρ:Operand->AV}
variable {A:bY} {site:Nat} {hint:Bool} (bn:iC P C) (st:aE w.heap S g tmps Nil) (hρ:∀x,qe w.heap S g (ρ x) (a.eval x))
include bn in
theorem NM:∀(n d:Nat)(t:TypeId)(T:Ty),C.ty t=T->T.deep<=n->n<d->T.comp=true->T.nz=true->
  ∀{h:Array Obj}{Pr:BS}{x y:T.den}{cx cy:List Value}{F F':BS},az h Pr T .no x cx F->az h Pr T .no y cy F'->
  (Op.equalIn d t (dL T cx) (dL T cy)).run P w=.ok (pN T x y) w
 | 0,d,t,T,hT,hn,_,_,_,_,_,_,_,_,_,_,_,_,_=>by cases T<;>simp[Ty.deep]at hn
 | n+1,d,t,T,hT,hn,hd,hc,hz,h,Pr,x,y,cx,cy,F,F',rx,ry=>by
  obtain⟨d,rfl⟩:∃d',d=d'+1:=⟨d-1,by omega⟩
  cases T with
  | unit=>simp[Ty.nz]at hz
  | sl _=>simp[Ty.comp]at hc
  | int k=>simp only[az]at rx ry;subst rx;subst ry;exact run_equalIn_int w d t k k x y (bn.int hT)
  | bool=>simp only[az]at rx ry;subst rx;subst ry;exact run_equalIn_bool' w d t x y (bn.bool hT)
  | str=>simp only[az]at rx ry;subst rx;subst ry;exact run_equalIn_string w d t x y (bn.str hT)
  | pair ta tb=>
   obtain⟨fs,h1,h2⟩:=bn.pair hT;have k:=bn t (by rw[hT];rfl);obtain⟨hp,_⟩:=k.eq (by rw[hT];rfl) (by rw[hT];exact hc);have hfs:P.fieldsOf t=fs:=by simp[Program.fieldsOf,h1]
   have e1:dL (Ty.pair ta tb) cx=.agg cx.toArray:=rfl;have e2:dL (Ty.pair ta tb) cy=.agg cy.toArray:=rfl;rw[e1,e2,run_equalIn_struct w d t _ _ (by rw[hfs];exact h1) hp,hfs]
   -- zb fields,one behind zb other
   have key:∀(l:List Field)(off:Nat)(U:Ty),mX C l off U->U.comp=true->U.deep<=n+1->∀(px py:List Value){x y:U.den}{cx cy:List Value}{F F':BS},px.length=off->py.length=off->
     az h Pr U .no x cx F->az h Pr U .no y cy F'->(Op.eqFields d (px++cx).toArray (py++cy).toArray l).run P w=.ok (pN U x y) w:=by
    intro l
    induction l with
    | nil=>intro off U hs hc hdp px py x y cx cy F F' hpx Xx rx ry;simp only[mX]at hs;subst hs;simp[Op.eqFields,pN]
    | cons fd l ih=>
     intro off U hs hc hdp px py x y cx cy F F' hpx Xx rx ry;simp only[mX]at hs;obtain⟨b,rfl,q1,q2,q3,q4⟩:=hs;simp only[Ty.comp,bI]at hc;simp only[Ty.deep]at hdp;simp only[az]at rx ry;obtain⟨ca,cb,Fa,Fb,rfl,ra,rb,_⟩:=rx;obtain⟨ca',cb',Fa',Fb',rfl,ra',rb',_⟩:=ry;have kf:=bn fd.type q3;have hwa:=az.width _ ra;have LA:=az.width _ ra';have hpart:∀(px ca cb:List Value),px.length=off->ca.length=(C.ty fd.type).width->(part fd.type (px++(ca++cb)).toArray fd.offset).run P w=.ok (dL (C.ty fd.type) ca) w:=by
      intro px ca cb hpx hca;simp only[part,Sem.run_bind,kf.o_,Result.andThen_ok];by_cases ha:(C.ty fd.type).agg=true
      .simp only[ha,aX,Sem.run_bind,kf.fN,Result.andThen_ok,Sem.run_pure,dL];congr 2;apply yX;simp only[Array.toList_extract,SF];rw[q1,<-hpx,List.drop_left,<-hca];have:px.length+ca.length-px.length=ca.length:=by omega
       rw[this,List.take_left]
      .have vK:(C.ty fd.type).agg=false:=by simpa using ha
       have hw:=GZ q3 vK;rw[hw]at hca
       match ca,hca with
       | [v],_=>simp[vK,dL,q1,<-hpx]
     have hne:fd.name≠ "_" := q2;simp only[Op.eqFields,hne,ne_eq,not_false_eq_true,aX,Sem.run_bind,hpart px ca cb hpx hwa,hpart py ca' cb' Xx LA,Result.andThen_ok];have ih0:=NM n d fd.type _ rfl (by omega) (by omega) hc.1 q3 ra ra';rw[ih0];simp only[Result.andThen_ok,pN];cases hq:pN (C.ty fd.type) x.1 y.1 with
     | false=>simp
     | true=>simp only[cJ,fh,dZ,zH];have:=ih (off+(C.ty fd.type).width) b q4 hc.2 (by omega) (px++ca) (py++ca') (by simp[hpx,hwa]) (by simp[Xx,LA]) rb rb';simpa [eI] using this
   have:=key fs.toList 0 _ h2 hc hn [] [] rfl rfl rx ry;simpa using this
def B4(S:aO):Tr AV->Tr (AV×aO)
 | .ret v=>.ret (v,S)
 | .br c (.ret v) .fail=>.br c (.ret (v,S)) .fail
 | .br c .fail (.ret v)=>.br c .fail (.ret (v,S))
 | _=>.fail
theorem Ri{S:aO}{T:Tr AV}{β:Bool}{v:AV}{rt:aO}(h:(B4 S T).dec β=some (v,rt)):T.dec β=some v/\rt=S:=by
 unfold B4 at h;split at h
 .simp only[Tr.dec,aK,aY]at h;simp[Tr.dec,h.1,h.2]
 .rename_i c v';cases c<;>simp only[Tr.dec,aK,aY]at h
  .simp at h
  .simp[Tr.dec,h.1,h.2]
 .rename_i c v';cases c<;>simp only[Tr.dec,aK,aY]at h
  .simp[Tr.dec,h.1,h.2]
  .simp at h
 .simp[Tr.dec]at h
theorem LZ{op:BinOp}{t:TypeId}{x y:Operand}{va vb:Value}(h:(∃xs ys,va=.agg xs/\vb=.agg ys/\P.eqGuardType P.depth t=false)\/(va≠.nilIface/\∀xs,va≠.agg xs)) :
  (eqGuard op t x y va vb).run P w=.ok () w:=by
 unfold eqGuard;rcases h with⟨xs,ys,rfl,rfl,h⟩ | ⟨h1,h2⟩
 .cases op<;>simp[Sem.run_bind,h]
 .cases op<;>cases va<;>simp_all [Sem.run_bind]<;>cases vb<;>simp[Sem.run_bind]
include bn in
theorem akd{op:BinOp}{t:TypeId}{x y:Operand}{v1 v2:AV}{va vb:Value}{v:AV}(h:(kL (C.ty t) op v1 v2).dec true=some v)
    (ha:qe w.heap S g v1 va) (hb:qe w.heap S g v2 vb) :
    ∃val,(do eqGuard op t x y va vb;binOp op t va vb:Sem Value).run P w=.ok val w/\qe w.heap S g v val:=by
  cases v1 with
  | val t1 x1=>
    cases v2 with
    | val t2 x2=>
      cases t1 with
      | int ka=>
        cases t2 with
        | int kb=>
          obtain rfl:=CA ha;obtain rfl:=CA hb;have hg:(eqGuard op t x y (.int ka x1) (.int kb x2)).run P w=.ok () w:=LZ (.inr ⟨by simp,by simp⟩);simp only[Sem.run_bind,hg,Result.andThen_ok];cases op<;>simp only[kL]at h
          case shl=>
            by_cases hc:x2<0
            . simp[hc,Tr.dec]at h
            . simp[hc,Tr.dec]at h
              subst h;exact⟨_,by simp[binOp,Op.shift,hc],vf _ _⟩
          case shr=>
            by_cases hc:x2<0
            . simp[hc,Tr.dec]at h
            . simp[hc,Tr.dec]at h
              subst h;exact⟨_,by simp[binOp,Op.shift,hc],vf _ _⟩
          case andNot=>simp[Tr.dec]at h
          all_goals
            by_cases hk:ka=kb
            . subst hk
              simp only[aX]at h
              first
              | (simp only[Tr.dec,aK]at h;subst h
                 first
                 | exact⟨_,by simp[binOp,Op.intArith,Op.intBits,Op.intCmp],vf _ _⟩
                 | exact⟨_,by simp[binOp,Op.intArith,Op.intBits,Op.intCmp];rfl,DC _⟩
                 | exact⟨_,by simp[binOp,Op.intArith,Op.intBits,Op.intCmp],DC _⟩)
              | (by_cases hc:x2=0
                 . simp[hc,Tr.dec]at h
                 . simp[hc,Tr.dec]at h
                   subst h;exact⟨_,by simp[binOp,Op.intDiv,hc],vf _ _⟩)
            . simp[hk,Tr.dec]at h
        | _=>simp[kL,Tr.dec]at h
      | str=>
        cases t2 with
        | str=>
          obtain rfl:=JN ha;obtain rfl:=JN hb;have hg:(eqGuard op t x y (.string x1) (.string x2)).run P w=.ok () w:=LZ (.inr ⟨by simp,by simp⟩);simp only[Sem.run_bind,hg,Result.andThen_ok];cases op<;>simp only[kL]at h
          case add=>
            by_cases hc:x1.size+x2.size<=2 ^ 47
            . simp only[hc,AK,Tr.dec,aK]at h
              subst h;refine⟨_,?_,Bv _⟩;have:¬ (((x1.size+x2.size:Nat):Int)>IntKind.i64.max):=by
                have:IntKind.i64.max=9223372036854775807:=by decide
                rw[this];omega
              simp only[binOp,Op.stringOp,this,dZ];rfl
            . simp only[hc,decide_false,Tr.dec]at h
              simp at h
          all_goals first
            | (simp only[Tr.dec,aK]at h;subst h;exact⟨_,by simp[binOp,Op.stringOp],DC _⟩)
            | simp[Tr.dec]at h
        | _=>simp[kL,Tr.dec]at h
      | bool=>
        cases t2 with
        | bool=>
          obtain rfl:=AZ ha;obtain rfl:=AZ hb;have hg:(eqGuard op t x y (.bool x1) (.bool x2)).run P w=.ok () w:=LZ (.inr ⟨by simp,by simp⟩);simp only[Sem.run_bind,hg,Result.andThen_ok];simp only[kL]at h;by_cases hT:C.ty t=.bool
          . simp only[hT,aX]at h
            have hu:=bn.bool hT;cases op<;>first
              | (simp only[Tr.dec,aK]at h;subst h;exact⟨_,by simp[binOp,Op.equal,Op.maxDepth,run_equalIn_bool' w 9999 t x1 x2 hu,Sem.run_bind],DC _⟩)
              | simp[Tr.dec]at h
          . simp[hT,Tr.dec]at h
        | _=>simp[kL,Tr.dec]at h
      | pair ta tb=>
        have h':(FP (C.ty t) op (.pair ta tb) x1 t2 x2).dec true=some v:=by cases t2<;>simpa only [kL] using h
        unfold FP at h';by_cases hT:(Ty.pair ta tb).comp=true/\C.ty t=Ty.pair ta tb
        . rw[aj hT]at h'
          have kk:=bn t (by rw[hT.2];rfl);obtain⟨hp,hq⟩:=kk.eq (by rw[hT.2];rfl) (by rw[hT.2];exact hT.1);cases hc:qbv t2 (Ty.pair ta tb) x2 with
          | none=>rw[hc]at h';cases op<;>simp[Tr.dec]at h'
          | some z=>
            rw[hc]at h';simp only[qe]at ha hb;obtain⟨c1,r1,rfl⟩:=ha;obtain⟨c2,r2,rfl⟩:=hb;obtain⟨rfl,DJ⟩:=az.cast hc r2;have KO:(Ty.pair ta tb).deep<10000:=by rw[<-hT.2];exact kk.deep
            . have he:=NM (w:=w) bn _ 10000 t _ hT.2 (cq _) KO hT.1 rfl r1 DJ
              have e1:dL (Ty.pair ta tb) c1=.agg c1.toArray:=rfl;have e2:dL (Ty.pair ta tb) c2=.agg c2.toArray:=rfl;rw[e1,e2]at he⊢;have hg:(eqGuard op t x y (.agg c1.toArray) (.agg c2.toArray)).run P w=.ok () w:=LZ (.inl ⟨_,_,rfl,rfl,hq⟩);simp only[Sem.run_bind,hg,Result.andThen_ok];cases op<;>first
                | (simp only[Tr.dec,aK]at h';subst h';exact⟨_,by simp only[binOp,Op.equal,Op.maxDepth,Sem.run_bind,he,Result.andThen_ok,Sem.run_pure],DC _⟩)
                | simp[Tr.dec]at h'
        . rw[af hT]at h';simp[Tr.dec]at h'
      | _=>simp[kL,Tr.dec]at h
    | _=>cases t1<;>simp[kL,Tr.dec]at h
  | _=>simp[kL,Tr.dec]at h
end
end
section
variable {P:Program} {C:Ctx} {D:Den C} {S:St} {g:aA} {w:World} {tmps:Array Value} {a:Act} {ρ:Operand->AV}
variable {A:bY} {site:Nat} {hint:Bool} (bn:iC P C) (st:aE w.heap S g tmps Nil) (hρ:∀x,qe w.heap S g (ρ x) (a.eval x))
include bn st hρ
theorem ace{o:Oper}{op:BinOp}{t t2:TypeId}{x y:Operand}(ho:o.op=.binOp op t x y t2):Goal P C D S g w tmps a ρ A site hint o:=by
 intro ht;have hx:=hρ x;have hy:=hρ y;have W6:ρ y≠.fm->aV C D A ρ S.rt site hint o=B4 S.rt (kL (C.ty t) op (ρ x) (ρ y)):=by
  intro hn;simp only[aV,ho];cases hv:ρ y with
  | fm=>exact absurd hv hn
  | _=>rfl
 by_cases hn:ρ y=.fm
 .simp only[aV,ho,hn]at ht⊢;rw[hn]at hy;simp only[qe]at hy;have hrun:∀(u:TypeId)(ad:Option Addr)(len cap:Nat),P.underlying t=some (.slice u)->a.eval x=.slice ad len cap->
    (Op.equal t (.slice ad len cap) (.slice none 0 0)).run P w=.ok ad.isNone w:=by
   intro u ad len cap h1 h2;have e0:Op.equal t (.slice ad len cap) (.slice none 0 0)=Op.equalIn (9999+1) t (.slice ad len cap) (.slice none 0 0):=rfl;rw[e0];unfold Op.equalIn;cases ad<;>simp only[Sem.run_bind,run_underlying h1,Result.andThen_ok,Sem.run_pure,Option.isNone_none,Option.isNone_some]
  have hg:∀ad len cap,(eqGuard op t x y (.slice ad len cap) (.slice none 0 0)).run P w=.ok () w:=fun ad len cap=>LZ (.inr ⟨by simp,by simp⟩);split at ht
  .rename_i e n hT hl;obtain⟨ad,len,cap,ev,en,hs⟩:=HJ st hl hx;obtain⟨u,h1,_,_⟩:=bn.desc hT;subst en;refine fC.value (val:=.bool ad.isNone) (w':=w) ?_ ⟨ad.isNone,.val .bool ad.isNone,S.rt,?_,Post.same st (DC _)⟩
   .have:=hg ad len cap;simp[execOp,ho,ev,hy,this,binOp,hrun u ad len cap h1 ev,Sem.run_bind]
   .simp only[Tr.dec,eE];by_cases h0:len=0
    .simp[h0]
    .have:=hs h0;have h3:ad.isNone=false:=by simpa using this
     simp[h0,h3]
  .rename_i e n hT hl;obtain⟨ad,len,cap,ev,en,hs⟩:=HJ st hl hx;obtain⟨u,h1,_,_⟩:=bn.desc hT;subst en;refine fC.value (val:=.bool (!ad.isNone)) (w':=w) ?_ ⟨!ad.isNone,.val .bool (!ad.isNone),S.rt,?_,Post.same st (DC _)⟩
   .have:=hg ad len cap;simp[execOp,ho,ev,hy,this,binOp,hrun u ad len cap h1 ev,Sem.run_bind]
   .simp only[Tr.dec,eE];by_cases h0:len=0
    .simp[h0]
    .have:=hs h0;have h3:ad.isNone=false:=by simpa using this
     simp[h0,h3]
  .exact absurd ht bZ.fail
 .rw[W6 hn]at ht⊢;obtain⟨⟨v,rt'⟩,hd⟩:=ht true;obtain⟨h1,rfl⟩:=Ri hd;obtain⟨val,h2,h3⟩:=akd bn (x:=x) (y:=y) h1 hx hy;refine fC.value (val:=val) (w':=w) ?_ ⟨true,v,S.rt,hd,Post.same st h3⟩;have:execOp a.eval o=(do pure (.value (<- (do eqGuard op t x y (a.eval x) (a.eval y);binOp op t (a.eval x) (a.eval y))))):=by simp[execOp,ho]
  rw[this];rw[Sem.run_bind,h2];rfl
theorem Io:∀(ns:List Int)(s:ByteArray),ns.foldl (fun r n=>r.push (UInt8.ofNat n.toNat)) s=⟨s.data++(ns.map fun n=>UInt8.ofNat n.toNat).toArray⟩
 | [],s=>by simp
 | n::ns,s=>by
  simp only[nK];rw[Io ns];simp[ByteArray.push]
theorem aaW{o:Oper}{src dst:TypeId}{x:Operand}(ho:o.op=.convert src dst x):Goal P C D S g w tmps a ρ A site hint o:=by
 intro ht;simp only[aV,ho]at ht⊢;have hx:=hρ x;split at ht
 .rename_i k1 kd k2 n h1 h2 hv;rw[hv]at hx;exact fC.ret (val:=.int kd (kd.wrap n)) (by simp[execOp,ho,convert,run_underlying (bn.int h1),run_underlying (bn.int h2),CA hx,Conv.intToInt,Sem.run_bind]) st (vf _ _)
 .rename_i s h1 h2 hv;rw[hv]at hx;exact fC.ret (val:=.string s) (by simp[execOp,ho,convert,run_underlying (bn.str h1),run_underlying (bn.str h2),JN hx,Sem.run_bind]) st (Bv _)
 .rename_i _ h1 h2;cases hr:rd S.rt (.sl (.int .u8)) (ρ x) with
  | none=>rw[hr]at ht;exact absurd ht bZ.fail
  | some xs=>
   obtain⟨c,ev,rep⟩:=qL st _ hr hx;simp only[az]at rep;obtain⟨ad,cap,rfl,hl,re⟩:=rep;have ev':a.eval x=.slice ad xs.length cap:=by rw[ev];rfl
   obtain⟨u,q1,q2,_⟩:=bn.desc h1;have hu:=bn.int q2;simp only;refine fC.ret (val:=.string ⟨(xs.map fun n=>UInt8.ofNat n.toNat).toArray⟩) ?_ st (Bv _);have KL:(Conv.bytesToString (.slice ad xs.length cap)).run P w=.ok (.string ⟨(xs.map fun n=>UInt8.ofNat n.toNat).toArray⟩) w:=by
    by_cases hne:xs=[]
    .subst hne;cases ad with
     | none=>simp[Conv.bytesToString];rfl
     | some ad=>have:=run_bytesToString (P:=P) w ad 0 cap [] (by simp[loadCells,loadCellsFrom]);simpa [Io bn st hρ] using this
    .obtain⟨b,off,cs,rfl,hp,hb,hs,re⟩:=re hne;have fX:sub cs off xs.length=xs.map (Value.int .u8):=by
      apply rI;intro i;by_cases hi:i<xs.length
      .have:=re i hi;have mH:(Ty.int .u8).width=1:=rfl;simp only[mH,Nat.mul_one]at this hs;have e1:(sub cs (off+i) 1)[0]? = some (Value.int .u8 xs[i]):=by
        rw[this];have:xs.getD i (Ty.zero (.int .u8))=xs[i]:=by simp[List.getD,hi]
        rw[this];rfl
       simp only[sub,gm,iE]at e1⊢;simp only[hi,aX,FN,gz hi,d_];simpa using e1
      .rw[pz (by simp[sub];omega),pz (by simp;omega)]
     have mH:(Ty.int .u8).width=1:=rfl;simp only[mH,Nat.mul_one]at hs;have m_:=Dw (w:=w) hb hs;have iJ:=run_loadCells_list (P:=P) w ⟨b,off,none⟩ (sub cs off xs.length) (fun j v hv=>by rw[Addr.add_mid];exact m_ j v hv);rw[GR hs,fX]at iJ;have:=run_bytesToString (P:=P) w ⟨b,off,none⟩ xs.length cap xs iJ;rw[this,Io bn st hρ];simp
   have:=run_convert_bytes_string (P:=P) w src dst u ad xs.length cap q1 hu (bn.str h2);simp[execOp,ho,ev',this,KL,Sem.run_bind]
 .exact absurd ht bZ.fail
end
section
variable {P:Program} {C:Ctx} {D:Den C} {S:St} {g:aA} {w:World} {tmps:Array Value} {a:Act} {ρ:Operand->AV}
variable {A:bY} {site:Nat} {hint:Bool} (bn:iC P C) (st:aE w.heap S g tmps Nil) (hρ:∀x,qe w.heap S g (ρ x) (a.eval x))
theorem RB{v:Value}{k:IntKind}{n:Int}{y:Nat}{code:BoundsCode}(hv:v=.int k n)(h0:0<=n)(h1:n<=(y:Int)) :
  (Instr.sliceBound v y code).run P w=.ok n.toNat w:=by
 subst hv;simp[Instr.sliceBound,asIntOf,h0,h1,Sem.run_bind]
include hρ in
theorem AM{lo hi:Option Operand}{len cap:Nat}{l h:Int}{Jo:Bool}(hl:JG (lo.map ρ)=some l)(hh:EV (len:Int) (hi.map ρ)=some h)(h0:0<=l)(h1:l<=h)(h2:h<=(len:Int))(h3:len<=cap) :
  (Instr.sliceBounds Jo len cap (lo.map a.eval) (hi.map a.eval) none).run P w=.ok (l.toNat,h.toNat,cap) w:=by
 have ehi:∀(code:BoundsCode),hi=none/\h=(len:Int)\/∃v,hi=some v/\(Instr.sliceBound (a.eval v) cap code).run P w=.ok h.toNat w:=by
  intro code;cases hi with
  | none=>simp only[Gd,EV,aK]at hh;exact .inl ⟨rfl,hh.symm⟩
  | some v=>simp only[d_,EV,fq]at hh;obtain⟨⟨k,n⟩,hn,e⟩:=hh;simp only at e;subst e;exact .inr ⟨v,rfl,RB (Jw hn (hρ v)) (by omega) (by omega)⟩
 have elo:lo=none/\l=0\/∃v,lo=some v/\(Instr.sliceBound (a.eval v) h.toNat .sliceB).run P w=.ok l.toNat w:=by
  cases lo with
  | none=>simp only[Gd,JG,aK]at hl;exact .inl ⟨rfl,hl.symm⟩
  | some v=>simp only[d_,JG,fq]at hl;obtain⟨⟨k,n⟩,hn,e⟩:=hl;simp only at e;subst e;exact .inr ⟨v,rfl,RB (Jw hn (hρ v)) h0 (by omega)⟩
 unfold Instr.sliceBounds;rcases ehi (if Jo then .sliceAcap else .sliceAlen) with⟨rfl,rfl⟩ | ⟨vh,rfl,eh⟩<;>rcases elo with⟨rfl,rfl⟩ | ⟨vl,rfl,el⟩
 .simp[Sem.run_bind]
 .simp only[eE]at el;simp[Sem.run_bind,el]
 .simp[Sem.run_bind,eh]
 .simp[Sem.run_bind,eh,el]
include bn st hρ
theorem adr{o:Oper}{t:TypeId}{x lop:Operand}{hi:Option Operand}(ho:o.op=.slice t x (some lop) hi none){r:Nat}{p:Path}{s:Nat}{e:Ty}(hv:ρ x=.b9 r p s)(hT:C.ty t=.sl e)
  (ht:bZ (uN S.rt e r p s (ρ lop) (hi.map ρ))):fC P S g w tmps (uN S.rt e r p s (ρ lop) (hi.map ρ)) ((execOp a.eval o).run P w):=by
 have hx:=hρ x;rw[hv]at hx;unfold uN at ht⊢;cases hl:wg (ρ lop) with
 | none=>rw[hl]at ht;exact absurd ht bZ.fail
 | some kl=>
  cases hhi:hi.map ρ with
  | some _=>rw[hl,hhi]at ht;exact absurd ht bZ.fail
  | none=>
   rw[hl,hhi]at ht;simp only at ht⊢;cases hf:S.rt.focus r p with
   | none=>rw[hf]at ht;exact absurd ht bZ.fail
   | some d=>
    obtain⟨dt,dm,dx⟩:=d;cases dt with
    | sl e'=>
     cases dm with
     | own s' m=>
      rw[hf]at ht;simp only at ht⊢;by_cases hs:s=s'/\e=e'
      .simp only[aj hs]at ht⊢;obtain⟨rfl,rfl⟩:=hs;obtain⟨⟨v,rt'⟩,hd⟩:=ht true;simp only[Tr.dec]at hd;by_cases hc:0<=kl.2/\kl.2<=((dx:List e.den).length:Int)
       .obtain⟨u,h1,h2,h3⟩:=bn.desc hT;simp only[qe]at hx;obtain⟨R,base,F,hR,zu,hin,ej,rep,hF⟩:=L8 st hf rfl hx;simp only[az]at rep;obtain⟨ad,cap,e0,hlc,hr⟩:=rep;simp only[eZ,iQ]at e0;have hb:=AM (P:=P) (Jo:=true) hρ (lo:=some lop) (hi:=hi) (l:=kl.2) (h:=((dx:List e.den).length:Int)) (len:=(dx:List e.den).length) (cap:=cap) (by simp[JG,hl]) (by rw[hhi];rfl) hc.1 hc.2 (eD _) hlc;rw[d_,eE]at hb;have ku:=bn u h3;refine fC.value (val:=.slice (if cap=kl.2.toNat then ad else ad.map (·.add (kl.2.toNat * (C.ty u).width))) ((dx:List e.den).length-kl.2.toNat) (cap-kl.2.toNat)) (w':=w) ?_
         ⟨true,.view r p s kl.2.toNat (dx:List e.den).length,S.rt,by simp[Tr.dec,hc.1,hc.2],Post.same st ?_⟩
        .simp[execOp,ho,e0,Instr.sliceAt,Instr.slice,run_underlying h1,Sem.run_bind,hb,ku.fN]
        .simp only[qe];intro R' ck t2 m2 xs2 uc;rw[hR]at ck;simp only[aK]at ck;subst ck;rw[zu]at uc;simp only[aK,Dy.mk.injEq,Ty.sl.injEq]at uc;obtain⟨rfl,_⟩:=uc;refine⟨hin,base,ad,(dx:List e.den).length,cap,by rw[ej,e0],by omega,cq _,by rw[h2]⟩
       .have:(decide (0<=kl.2)&&decide (kl.2<=((dx:List e.den).length:Int)))=false:=by simp only[oh,nG];omega
        rw[this]at hd;simp[Tr.dec]at hd
      .rw[af hs]at ht;exact absurd ht bZ.fail
     | _=>rw[hf]at ht;exact absurd ht bZ.fail
    | _=>rw[hf]at ht;exact absurd ht bZ.fail
theorem adj{o:Oper}{t:TypeId}{x:Operand}{lo hi:Option Operand}(ho:o.op=.slice t x lo hi none)(ok:nM A S o.dst site):Goal P C D S g w tmps a ρ A site hint o:=by
 intro ht;simp only[aV,ho]at ht⊢;have hx:=hρ x;unfold uF at ht⊢;split at ht
 . -- a string
  rename_i s hv hT;rw[hv]at hx;have ex:=JN hx;split at ht
  .rename_i l h hl hh;obtain⟨⟨v,rt'⟩,hd⟩:=ht true;by_cases hc:0<=l/\l<=h/\h<=(s.size:Int)
   .have hb:=AM (P:=P) (Jo:=false) hρ (cap:=s.size) hl hh hc.1 hc.2.1 hc.2.2 (cq _);refine fC.value (val:=.string (s.extract l.toNat h.toNat)) (w':=w) ?_ ⟨true,.val .str (s.extract l.toNat h.toNat),S.rt,?_,Post.same st (Bv _)⟩
    .simp[execOp,ho,ex,Instr.sliceAt,Instr.slice,run_underlying (bn.str hT),Sem.run_bind,hb]
    .simp[Tr.dec,hc.1,hc.2.1,hc.2.2]
   .have:(decide (0<=l)&&decide (l<=h)&&decide (h<=(s.size:Int)))=false:=by simp only[oh,nG];omega
    rw[this]at hd;simp[Tr.dec]at hd
  .exact absurd ht bZ.fail
 . -- a shared row
  rename_i e xs e' hv hT;rw[hv]at hx;split at ht
  .rename_i l h hl hh;by_cases hee:e=e'
   .subst hee;simp only[aX]at ht⊢;obtain⟨⟨v,rt'⟩,hd⟩:=ht true;by_cases hc:0<=l/\l<=h/\h<=(xs.length:Int)
    .obtain⟨u,h1,h2,h3⟩:=bn.desc hT;simp only[qe,az]at hx;obtain⟨c,⟨ad,cap,rfl,hlc,re⟩,ev⟩:=hx;have ev':a.eval x=.slice ad xs.length cap:=ev;have hb:=AM (P:=P) (Jo:=true) hρ (cap:=cap) hl hh hc.1 hc.2.1 hc.2.2 hlc;have ku:=bn u h3;refine fC.value (val:=.slice (if cap=l.toNat then ad else ad.map (·.add (l.toNat * (C.ty u).width))) (h.toNat-l.toNat) (cap-l.toNat)) (w':=w) ?_
      ⟨true,.val (.sl e) ((xs.take h.toNat).drop l.toNat),S.rt,?_,Post.same st ?_⟩
     .simp[execOp,ho,ev',Instr.sliceAt,Instr.slice,run_underlying h1,Sem.run_bind,hb,ku.fN]
     .simp[Tr.dec,hc.1,hc.2.1,hc.2.2]
     .simp only[qe,az];have hlen:((xs.take h.toNat).drop l.toNat).length=h.toNat-l.toNat:=by rw[yj,eR];omega
      refine⟨_,⟨_,cap-l.toNat,rfl,by omega,?_⟩,by rw[hlen];rfl⟩;intro hne;have hpos:0<h.toNat-l.toNat:=by rw[<-hlen];exact pF.2 hne
      obtain⟨b,off,cs,rfl,hp,r6,hs,re⟩:=re (by rintro rfl;simp at hc;omega);have jN:¬ cap=l.toNat:=by omega
      refine⟨b,off+l.toNat * e.width,cs,by rw[af jN,h2];simp[Addr.add_mid],hp,r6,?_,fun i hi=>?_⟩
      .rw[hlen];have:l.toNat * e.width+(h.toNat-l.toNat) * e.width<=xs.length * e.width:=by rw[<-jD];exact fu _ (by omega)
       omega
      .rw[hlen]at hi;have:=re (l.toNat+i) (by omega);have e1:((xs.take h.toNat).drop l.toNat).getD i e.zero=xs.getD (l.toNat+i) e.zero:=by simp only[List.getD,iE,gm];rw[aj (by omega)]
       rw[e1];have e2:off+l.toNat * e.width+i * e.width=off+(l.toNat+i) * e.width:=by rw[jD];omega
       rw[e2];exact this
    .have:(decide (0<=l)&&decide (l<=h)&&decide (h<=(xs.length:Int)))=false:=by simp only[oh,nG];omega
     rw[this]at hd;simp[Tr.dec]at hd
   .rw[af hee]at ht;exact absurd ht bZ.fail
  .exact absurd ht bZ.fail
 . -- an own row,from its begin
  rename_i r p s e hv hT;rw[hv]at hx;cases hlo:lo.map ρ with
  | some v=>
   rw[hlo]at ht;simp only at ht⊢;cases lo with
   | none=>simp at hlo
   | some lop=>simp only[d_,aK]at hlo;subst hlo;exact adr bn st hρ ho hv hT ht
  | none=>
   rw[hlo]at ht;simp only at ht⊢;cases sg:tk S.rt (.sl e) (.b9 r p s) with
   | none=>rw[sg]at ht;exact absurd ht bZ.fail
   | some z=>
    obtain⟨m,xs,d8⟩:=z;rw[sg]at ht;cases m with
    | own s1 m=>
     simp only at ht⊢;cases hh:EV (xs.length:Int) (hi.map ρ) with
     | none=>rw[hh]at ht;exact absurd ht bZ.fail
     | some h=>
      rw[hh]at ht;simp only at ht⊢;by_cases oE:m.ax=true
      .simp only[oE,aX]at ht⊢;obtain⟨⟨v,rt'⟩,hd⟩:=ht true;by_cases hc:0<=h/\h<=(xs.length:Int)
       .have hd':(dU A d8 o.dst site (.sl e) (.own 0 m) (xs.take h.toNat) false).dec true=some (v,rt'):=by simpa only [hc.1,hc.2,AK,Bool.and_true,Tr.dec] using hd
        obtain⟨u,h1,h2,h3⟩:=bn.desc hT;have ku:=bn u h3;obtain⟨c,g1,F,ev,cI⟩:=yW _ st sg hx;have rep:=cI.rep;simp only[az]at rep;obtain⟨ad,cap,rfl,hlc,re⟩:=rep;have ev':a.eval x=.slice ad xs.length cap:=ev;have hb:=AM (P:=P) (lo:=none) (Jo:=true) hρ (cap:=cap) (l:=0) rfl hh (by omega) hc.1 hc.2 hlc;have Xa:lo=none:=by
         cases lo with
         | none=>rfl
         | some v=>simp at hlo
        subst Xa;have hlen:(xs.take h.toNat).length=h.toNat:=by rw[eR];omega
        have jR:az w.heap g1.Pr (.sl e) (.own 0 m) (xs.take h.toNat) [.slice ad h.toNat cap] F:=by
         simp only[az];refine⟨ad,cap,by rw[hlen],by rw[hlen];omega,?_⟩;rcases re with re | ⟨b,cs,rfl,fb,hbk,hs,Fs,pX,lH,re⟩
         .exact .inl re
         .refine .inr ⟨b,cs,rfl,fb,hbk,hs,Fs,pX,lH,fun i hi=>?_⟩;rw[hlen]at hi;have:=re i (by omega);have e1:(xs.take h.toNat).getD i e.zero=xs.getD i e.zero:=by simp only[List.getD,gm];rw[aj hi]
          rw[e1];exact this
        obtain⟨g2,s1',s2,s3⟩:=Cy (st:=cI.st) jR (aM.ax _ (by simp[Mk.ax,oE,n8])) (fun b hb=>.inr hb) ok hd';have ead:(if cap=0 then ad else ad.map (·.add (0 * (C.ty u).width)))=ad:=by
         split
         .rfl
         .cases ad<;>simp[Addr.add]
        refine fC.value (val:=.slice ad h.toNat cap) (w':=w) ?_ ⟨true,v,rt',hd,g2,s1',s2,cI.same.trans s3,.refl _ _⟩;simp only[Gd]at hb;simp[execOp,ho,ev',Instr.sliceAt,Instr.slice,run_underlying h1,Sem.run_bind,hb,ku.fN];intro _;cases ad<;>simp[Addr.add]
       .have:(decide (0<=h)&&decide (h<=(xs.length:Int)))=false:=by simp only[oh,nG];omega
        rw[this]at hd;simp[Tr.dec]at hd
      .rw[af oE]at ht;exact absurd ht bZ.fail
    | _=>exact absurd ht bZ.fail
 .exact absurd ht bZ.fail
end
theorem U8{h:Array Obj}{S:St}{g:aA}{tmps:Array Value}{H:BS}(st:aE h S g tmps H){t:Ty}{m:Mk}{x:t.den}{c:List Value}{F:BS}
  (rep:az h g.Pr t m x c F) (hF:Sub F H) (hm:m.whole=true) :
  ∃g',aE h S g' tmps (fun b=>H b/\¬ F b)/\az h g'.Pr t .no x c Nil/\g'.cR g/\Sub g.Pr g'.Pr:=
 ⟨_,st.cP F hF,az.share t hm rep,⟨rfl,rfl,rfl⟩,fun b hb=>.inl hb⟩
theorem aE.jE{h:Array Obj}{S:St}{g:aA}{tmps:Array Value}{H:BS}(st:aE h S g tmps H)(cs:Array Value)(e:TypeId) :
  aE (h.push (.cells cs e)) S g tmps (fun b=>H b\/b=h.size):=
 st.grow (fun b hb=>zU b hb) (by simp) _ (fun b hb=>by rcases hb with hb | rfl;exact .inl hb;exact .inr ⟨cq _,by simp⟩)
theorem az.push{h:Array Obj}{S:St}{g:aA}{tmps:Array Value}{H:BS}(st:aE h S g tmps H){t:Ty}{m:Mk}{x:t.den}{c:List Value}{F:BS}(rep:az h g.Pr t m x c F)(hF:Sub F H)
  {o:Obj}:az (h.push o) g.Pr t m x c F:=
 az.mono (Sub.refl _) (fun b hb=>zU b (st.bQ b hb)) t rep (Sub.refl _) (fun b hb=>zU b (st.ep b (hF b hb)))
section
variable {P:Program} {C:Ctx} {D:Den C} {S:St} {g:aA} {w:World} {tmps:Array Value} {a:Act} {ρ:Operand->AV}
variable {A:bY} {site:Nat} {hint:Bool} (bn:iC P C) (st:aE w.heap S g tmps Nil) (hρ:∀x,qe w.heap S g (ρ x) (a.eval x))
include bn st hρ
theorem RE{o:Oper}{x:Operand}{u:AV}(hu:ρ x=u)(ok:nM A S o.dst site){r:Result Next}(hr:r=.ok (.value (a.eval x)) w)
  (ht:bZ (Ft A S.rt o.dst site hint u)):fC P S g w tmps (Ft A S.rt o.dst site hint u) r:=by
 have hx:=hρ x;rw[hu]at hx;unfold Ft at ht⊢;cases h1:BM S.rt u with
 | none=>rw[h1]at ht;exact absurd ht bZ.fail
 | some t=>
  rw[h1]at ht;simp only at ht⊢;cases h2:tk S.rt t u with
  | none=>rw[h2]at ht;exact absurd ht bZ.fail
  | some z=>
   obtain⟨m,y,d8⟩:=z;rw[h2]at ht;simp only at ht⊢;obtain⟨c,g1,F,ev,cI⟩:=yW _ st h2 hx;by_cases hh:hint=true
   .simp only[hh,aX]at ht⊢;by_cases hm:m.whole=true
    .simp only[hm,aX]at ht⊢;obtain⟨g2,s1,s2,s3,_⟩:=U8 cI.st cI.rep (fun b hb=>.inr hb) hm;exact fC.value (val:=a.eval x) (w':=w) hr ⟨true,_,_,rfl,g2,s1.bB (Sub.nil _),by simp only[qe];exact⟨c,s2,ev⟩,cI.same.trans s3,.refl _ _⟩
    .rw[af hm]at ht;exact absurd ht bZ.fail
   .rw[af hh]at ht⊢;obtain⟨⟨v,rt'⟩,hd⟩:=ht true;obtain⟨g2,s1,s2,s3⟩:=Cy cI.st cI.rep (by rw[cI.same.1];exact cI.tag) (fun b hb=>.inr hb) ok hd;exact fC.value (val:=a.eval x) (w':=w) hr ⟨true,v,rt',hd,g2,s1,by rw[ev];exact s2,cI.same.trans s3,.refl _ _⟩
theorem abC{o:Oper}{x:Operand}(ho:o.op=.assign x)(ok:nM A S o.dst site):Goal P C D S g w tmps a ρ A site hint o:=by
 intro ht;simp only[aV,ho]at ht⊢;have hr:(execOp a.eval o).run P w=.ok (.value (a.eval x)) w:=by simp[execOp,ho]
 split at ht
 .rename_i r p s hv;by_cases hc:(qx p&&!hint)=true
  .simp only[hc,aX]at ht⊢;have:=hρ x;rw[hv]at this;exact fC.ret hr st this
  .simp only[hc,fh,dZ]at ht⊢;exact RE bn st hρ hv ok hr ht
 .rename_i u v hv;exact RE bn st hρ hv ok hr ht
 .exact fC.ret hr st (hρ x)
theorem acw{o:Oper}{t:TypeId}(ho:o.op=.alloc t)(ok:nM A S o.dst site):Goal P C D S g w tmps a ρ A site hint o:=by
 intro ht;simp only[aV,ho]at ht⊢;by_cases hz:(C.ty t).nz=true
 .simp only[hz,aX]at ht⊢;have k:=bn t hz;obtain⟨⟨v,rt'⟩,hd⟩:=ht true;have hc:(dL (C.ty t) (zc (C.ty t))).cells=(zc (C.ty t)).toArray:=by apply yX;rw[Ix]
  have s0:=st.jE (zc (C.ty t)).toArray t;obtain⟨g2,s1,s2,s3⟩:=Fg (h:=w.heap.push (.cells (zc (C.ty t)).toArray t)) (c:=zc (C.ty t)) (F:=Nil) s0 (az.zero _ _) (aM.ax _ (Mk.c_ _)) (Sub.nil _)
   (b:=w.heap.size) (.inr rfl) (fun h=>h) jz.new ok hd
  refine fC.value (val:=.pointer (some ⟨w.heap.size,0,none⟩)) (w':={ w with heap:=w.heap.push (.cells (zc (C.ty t)).toArray t) }) ?_ ⟨true,v,rt',hd,g2,s1,s2,s3,kK.push _⟩;simp[execOp,ho,Instr.alloc,newVar,newRow,newObj,Sem.run_bind,k.za,hc,Sem.run]
 .rw[af hz]at ht;exact absurd ht bZ.fail
theorem alf{o:Oper}{t:TypeId}{x:Operand}(ho:o.op=.box t x)(ok:nM A S o.dst site):Goal P C D S g w tmps a ρ A site hint o:=by
 intro ht;simp only[aV,ho]at ht⊢;by_cases hz:(C.ty t).nz=true
 .simp only[hz,aX]at ht⊢;cases h2:tk S.rt (C.ty t) (ρ x) with
  | none=>rw[h2]at ht;exact absurd ht bZ.fail
  | some z=>
   obtain⟨m,y,d8⟩:=z;rw[h2]at ht;simp only at ht⊢;obtain⟨c,g1,F,ev,cI⟩:=yW _ st h2 (hρ x);have hc:(a.eval x).cells=c.toArray:=by apply yX;rw[ev,Cp cI.rep]
   have hrun:(execOp a.eval o).run P w=.ok (.value (.pointer (some ⟨w.heap.size,0,none⟩))) { w with heap:=w.heap.push (.cells c.toArray t) }:=by simp[execOp,ho,Instr.box,newVar,newRow,newObj,Sem.run_bind,hc,Sem.run]
   by_cases hh:hint=true
   .simp only[hh,aX]at ht⊢;by_cases hm:m.whole=true
    .simp only[hm,aX]at ht⊢;obtain⟨⟨v,rt'⟩,hd⟩:=ht true;obtain⟨g2,s1,s2,s3,_⟩:=U8 cI.st cI.rep (fun b hb=>.inr hb) hm;have s4:=(s1.bB (Sub.nil _)).jE c.toArray t;have r4:az (w.heap.push (.cells c.toArray t)) g2.Pr (C.ty t) .no y c Nil:=az.push (s1.bB (Sub.nil _)) s2 (Sub.nil _);obtain⟨g3,q1,q2,q3⟩:=Fg s4 r4 (aM.no _ _) (Sub.nil _) (b:=w.heap.size) (.inr rfl) (fun h=>h) jz.new ok hd;exact fC.value (w':={ w with heap:=w.heap.push (.cells c.toArray t) }) hrun ⟨true,v,rt',hd,g3,q1,q2,(cI.same.trans s3).trans q3,kK.push _⟩
    .rw[af hm]at ht;exact absurd ht bZ.fail
   .rw[af hh]at ht⊢;obtain⟨⟨v,rt'⟩,hd⟩:=ht true;have s4:=cI.st.jE c.toArray t;have r4:az (w.heap.push (.cells c.toArray t)) g1.Pr (C.ty t) m y c F:=az.push cI.st cI.rep (fun b hb=>.inr hb);obtain⟨g3,q1,q2,q3⟩:=Fg s4 r4 (by rw[cI.same.1];exact cI.tag) (fun b hb=>.inl (.inr hb)) (b:=w.heap.size) (.inr rfl)
     (fun hb=>Gk _ (cI.st.ep _ (.inr hb))) jz.new ok hd
    exact fC.value (w':={ w with heap:=w.heap.push (.cells c.toArray t) }) hrun ⟨true,v,rt',hd,g3,q1,q2,cI.same.trans q3,kK.push _⟩
 .rw[af hz]at ht;exact absurd ht bZ.fail
end
theorem Ht{h:Array Obj}{S:St}{g:aA}{tmps:Array Value}{H:BS}(st:aE h S g tmps H){r:Nat}{p:Path}{R:aC}{d:Dy}{v:Value}(hR:S.root r=some R)
  (hf:focus R.ty R.ms R.x p=some d) (x:qe h S g (.addr r p) v) :
  ∃b off c,bu R.ty R.x p/\cr h R.ty (g.C r) (g.base r) p=some (some (b,off),c)/\v=.pointer (some ⟨b,off,none⟩):=by
 simp only[qe]at x;exact⟨_,_,_,(x R hR d hf).1,(x R hR d hf).2.choose_spec.choose_spec.choose_spec.1,(x R hR d hf).2.choose_spec.choose_spec.choose_spec.2⟩
theorem Mf{h h':Array Obj}{S S':St}{g g1:aA}(Q:BS):∀(a:AV),a.dw h h' S S' g g1->a.dw h h' S S' g { g1 with Pr:=Q }
 | .b9 r p s,k=>k
 | .view r p s _ _,k=>k
 | .addr r p,k=>k
 | .pair a b,k=>⟨Mf Q a k.1,Mf Q b k.2⟩
 | .jJ a,k=>Mf Q a k
 | .gH _ a,k=>Mf Q a k
 | .undef,_=>trivial
 | .skip,_=>trivial
 | .cG _,_=>trivial
 | .unit,_=>trivial
 | .fm,_=>trivial
 | .val _ _,_=>trivial
 | .cj _ _,_=>trivial
 | .eA _,_=>trivial
theorem ak3{h:Array Obj}{tmps:Array Value}(t:Ty){S:St}{rt':aO}{g:aA}{H:BS}{hint:Bool}{a:AV}{m:Mk}{x:t.den}{v:Value}(st:aE h S g tmps H)
  (ht:Uf S.rt hint t a=some (m,x,rt')) (y:qe h S g a v):∃c g' F,v=dL t c/\kJ h S ⟨S.sl,rt'⟩ g tmps H t m x c g' F:=by
 simp only[Uf,cM]at ht;obtain⟨⟨m1,x1,d8⟩,h1,ht⟩:=ht;obtain⟨c,g1,F,ev,cI⟩:=yW t st h1 y;by_cases hh:hint=true
 .rw[aj hh]at ht;by_cases hm:m1.whole=true
  .rw[aj hm]at ht;simp only[aK,aY]at ht;obtain⟨rfl,rfl,rfl⟩:=ht;have s1:=(cI.st.cP F (fun b hb=>.inr hb)).bB (H':=Un H Nil) (fun b hb=>by
    rcases hb with hb | hb
    .exact⟨.inl hb,fun hf=>cI.d5 b hf hb⟩
    .exact hb.elim)
   exact⟨c,{ g1 with Pr:=Un g1.Pr F },Nil,ev,⟨s1,fun b hb=>.inl (cI.pr b hb),az.share t hm cI.rep,cB.nil _,cB.nil _,fun a=>Mf _ a (cI.keeps a),cI.sl,cI.rl,aM.ax _ rfl,aA.cR.trans ⟨rfl,rfl,rfl⟩ cI.same⟩⟩
  .rw[af hm]at ht;simp at ht
 .rw[af hh]at ht;simp only[aK,aY]at ht;obtain⟨rfl,rfl,rfl⟩:=ht;exact⟨c,g1,F,ev,cI⟩
section
variable {P:Program} {C:Ctx} {D:Den C} {S:St} {g:aA} {w:World} {tmps:Array Value} {a:Act} {ρ:Operand->AV}
variable {A:bY} {site:Nat} {hint:Bool} (bn:iC P C) (st:aE w.heap S g tmps Nil) (hρ:∀x,qe w.heap S g (ρ x) (a.eval x))
include bn st hρ
theorem acq{t:TypeId}(k:mF P C t){b off:Nat}{c:List Value}{v:Value}(hv:v.cells.toList=c)(hl:c.length=(C.ty t).width)(ht:w.there b off c.length)
  (h1:∀u∈c,u.oneCell'=true):(Instr.storeAt t (.pointer (some ⟨b,off,none⟩)) v).run P w=.ok () (w.setCells b off c):=by
 have hs:v.cells.size=(C.ty t).width:=by rw[<-iP,hv,hl]
 have:=run_storeCells_cells (P:=P) b off c 0 w (fun j hj=>by simpa using (ht j hj).1) (fun j hj=>by simpa using (ht j hj).2) h1;simp only[qS]at this;simp[Instr.storeAt,Instr.sureAddr,storeVar,Sem.run_bind,k.fN,hs,hv,this]
theorem adl{o:Oper}{t:TypeId}{x y:Operand}(ho:o.op=.store t x y)(ok:nM A S o.dst site):Goal P C D S g w tmps a ρ A site hint o:=by
 intro ht;simp only[aV,ho]at ht⊢;by_cases hz:(C.ty t).nz=true/\A.fr=true
 .have XV:((C.ty t).nz&&A.fr)=true:=by simp[hz.1,hz.2]
  simp only[XV,aX]at ht⊢;obtain⟨⟨v0,rt'⟩,hy⟩:=bZ.of ht;rw[hy];simp only[fq]at hy;obtain⟨fk,hst,e0⟩:=hy;simp only[aY]at e0;obtain⟨rfl,rfl⟩:=e0;have k:=bn t hz.1;obtain⟨C5,Ep⟩:=ok.fr hz.2;have hx:=hρ x;unfold Bu at hst;split at hst
  .rename_i r p hv;rw[hv]at hx;simp only[cM]at hst;obtain⟨⟨m,z,d8⟩,h2,hst⟩:=hst;split at hst
   .rename_i R hR;simp only[cM]at hst;obtain⟨d,hf,hst⟩:=hst;split at hst
    .rename_i hd;obtain⟨hdt,w4⟩:=hd;simp only[cM,aK]at hst;obtain⟨⟨m',x'⟩,hput,rfl⟩:=hst;simp only at hR hf w4 hput;obtain⟨c,g1,F,ev,cI⟩:=ak3 _ st h2 (hρ y);have hx1:=(qe.keep cI.pr (fun _ _=>rfl) (.addr r p)).1 _ hx (cI.keeps _);obtain⟨b,off,c0,hin,ej,e⟩:=Ht cI.st hR hf hx1;obtain⟨base,c0',F0,q1,q2,q3,q4,q5,q6⟩:=cI.st.update hR hf hin;rw[ej]at q1;simp only[aK,aY]at q1;obtain⟨rfl,rfl⟩:=q1;obtain⟨dt,dm,dx⟩:=d;simp only at hdt;subst hdt;have hl:=az.width _ cI.rep;have hl0:=az.width _ q2;simp only at hl0;obtain⟨Am,cs,w8,hfit,hsub⟩:=q4 b off rfl;have Jg:=q5 b off rfl;have bO:((⟨S.sl,d8⟩:St).root r).isSome:=by show(d8.root r).isSome=true;rw[hR];rfl
     have rK:¬ F b:=fun hb=>cI.st.hand r bO b Jg (.inr hb);have Ux:¬ g1.Pr b:=fun hb=>cI.st.er r bO b Jg hb;have cY:∀b',b'≠b->(w.setCells b off c).heap[b']? = w.heap[b']?:=fun b' hb'=>J1 c off w b' hb';have CX:off+c.length<=cs.size:=by omega
     have jR:az (w.setCells b off c).heap g1.Pr (C.ty t) (m.stamp site) z c F:=
      (az.stamp site _).1 (az.mono (Sub.refl _) (fun b' hb'=>cY b' (fun e=>Ux (e ▸ hb'))) _ cI.rep (Sub.refl _) (fun b' hb'=>cY b' (fun e=>rK (e ▸ hb'))))
     have kQ:(m.stamp site).fresh site (site+1):=Mk.dQ site w4;obtain⟨g2,s1,s2,s3,s4,s5,s6⟩:=q6 site (site+1) (w.setCells b off c).heap (m.stamp site) z c F m' x' Ep
      (fun b' _ _ hb'=>cY b' (fun e=>hb' off (by rw[e]))) (by rw[vR];exact cq _) (PJ rfl w8 CX) jR
      (fun b' hb'=>.inr (.inl (.inr hb'))) (fun b' hb'=>by rw[vR];exact cI.st.ep b' (.inr hb')) hput (Mk.eP _ kQ)
      (aM.ax _ (Mk.cN C5 w4)) (fun _=>Mk.cN C5 w4)
      (by
       intro p' t1 n1 hp gX _;obtain⟨hi',zx⟩:=Dr p' kQ hp gX;refine⟨zQ _ _ hi' gX,fun bp cp ha=>?_⟩;obtain⟨iR,h3⟩:=IT (h':=(w.setCells b off c).heap) p' _ c _ hi' ha;refine⟨iR,h3,fun s a' e hs=>?_⟩;subst e;exact absurd zx hs)
     have fX:(a.eval y).cells.toList=c:=by rw[ev,Cp cI.rep]
     have hrun:=acq (w:=w) bn st hρ k fX hl (AT w8 CX) (az.one _ cI.rep);have fS:=TP (b:=b) c off w;have XD:(execOp a.eval o).run P w=.ok .skip (w.setCells b off c):=by simp[execOp,ho,e,hrun,Sem.run_bind]
     rw[XD];exact⟨true,.undef,_,rfl,g2,s1.bB (Sub.nil _),by simp only[qe],cI.same.trans s3,
       ⟨fS.1,fS.2.1,fS.2.2,by rw[vR];exact cq _,fun b' _ hb'=>cY b' (fun e=>hb' (by
        have:=cI.st.own r b bO Jg;rw[cI.same.2.1]at this;rw[e];exact this))⟩⟩
    .simp at hst
   .simp at hst
  .simp at hst
 .have XV:((C.ty t).nz&&A.fr)=false:=by
   simp only[oh];by_cases h1:(C.ty t).nz=true
   .exact .inr (by simpa using fun h2=>hz ⟨h1,h2⟩)
   .exact .inl (by simpa using h1)
  simp only[XV,fh,dZ]at ht;exact absurd ht bZ.fail
end
end Go.V
namespace Go.V
noncomputable section
open Go
theorem adg{l:List Value}{o:Nat}{c:List Value}(h:o+c.length<=l.length)(k:Nat):(bT l o c)[k]? = if k<o then l[k]? else if k<o+c.length then c[k-o]? else l[k]?:=by
 unfold bT;by_cases h1:k<o
 .rw[aj h1,eI,kz (by rw[eR];omega),gm,aj h1]
 .rw[af h1];by_cases h2:k<o+c.length
  .rw[aj h2,kz (by rw[cT,eR];omega),mc (by rw[eR];omega),eR,Gb (by omega)]
  .rw[af h2,mc (by rw[cT,eR];omega),cT,eR,Gb (by omega),iE];congr 1;omega
theorem GQ:∀(p:Path){t:Ty}{m:Mk}{t':Ty}{m':Mk},m.still=true->q8 t m p=some (t',m')->qx p=false/\m'.still=true
 | [],t,m,t',m',hm,h=>by simp only[q8,aK,aY]at h;obtain⟨rfl,rfl⟩:=h;exact⟨rfl,hm⟩
 | .fst::p,t,m,t',m',hm,h=>by
  cases t with
  | pair a b=>
   simp only[q8]at h;have:m.fst.still=true:=by cases m<;>simp_all [Mk.still,Mk.fst]
   have:=GQ p this h;exact⟨by simpa [qx] using this.1,this.2⟩
  | _=>simp[q8]at h
 | .snd::p,t,m,t',m',hm,h=>by
  cases t with
  | pair a b=>
   simp only[q8]at h;have:m.snd.still=true:=by cases m<;>simp_all [Mk.still,Mk.snd]
   have:=GQ p this h;exact⟨by simpa [qx] using this.1,this.2⟩
  | _=>simp[q8]at h
 | .idx i s::p,t,m,t',m',hm,h=>by
  cases t with
  | sl a=>cases m<;>simp_all [q8,Mk.still]
  | _=>simp[q8]at h
theorem J5:∀v:AV,v.aQ 0 0=true
 | .addr r p=>Cl p
 | .b9 r p s=>by simp only[AV.aQ,bI];exact⟨by cases s<;>rfl,Cl p⟩
 | .view r p s _ _=>by simp only[AV.aQ,bI];exact⟨by cases s<;>rfl,Cl p⟩
 | .pair a b=>by simp only[AV.aQ,bI];exact⟨J5 a,J5 b⟩
 | .jJ a=>J5 a
 | .gH _ a=>J5 a
 | .undef=>rfl
 | .skip=>rfl
 | .cG _=>rfl
 | .unit=>rfl
 | .fm=>rfl
 | .val _ _=>rfl
 | .cj _ _=>rfl
 | .eA _=>rfl
section
variable {P:Program} {C:Ctx} {D:Den C} {S:St} {g:aA} {w:World} {tmps:Array Value} {a:Act} {ρ:Operand->AV}
variable {A:bY} {site:Nat} {hint:Bool} (bn:iC P C) (st:aE w.heap S g tmps Nil) (hρ:∀x,qe w.heap S g (ρ x) (a.eval x))
include bn st hρ
end
end
end Go.V
namespace Go.V
noncomputable section
open Go
theorem QX(off:Nat):∀(l:List Value)(k:Nat)(cs:Array Value),off+k+l.length<=cs.size->
  ((l.zipIdx k).foldl (fun cs p=>cs.setIfInBounds (off+p.2) p.1) cs).toList=bT cs.toList (off+k) l
 | [],k,cs,_=>by simp[bT]
 | v::l,k,cs,h=>by
  simp only[ct]at h;rw[List.zipIdx_cons,nK,QX off l (k+1) _ (by simp;omega),N3];exact Rz (by simp;omega)
theorem QV{off:Nat}{v:Value}{cs:Array Value}(h:off+v.cells.size<=cs.size) :
  (v.cells.zipIdx.foldl (fun cs (c,j)=>cs.setIfInBounds (off+j) c) cs).toList=bT cs.toList off v.cells.toList:=by
 rw[<-FJ,Array.toList_zipIdx];exact QX off v.cells.toList 0 cs (by simpa using h)
def Kp(h:Array Obj)(S:St)(g:aA)(S':St)(g':aA):Prop:=∀u v,qe h S g u v->qe h S' g' u v
theorem Kp.refl{h:Array Obj}{S:St}{g:aA}:Kp h S g S g:=fun _ _ x=>x
theorem Kp.trans{h:Array Obj}{S S' wD:St}{g g' tU:aA}(x:Kp h S g S' g')(y:Kp h S' g' wD tU):Kp h S g wD tU:=fun u v z=>y u v (x u v z)
theorem kJ.kp{h:Array Obj}{S S':St}{g g':aA}{tmps:Array Value}{H F:BS}{t:Ty}{m:Mk}{x:t.den}{c:List Value}(k:kJ h S S' g tmps H t m x c g' F):Kp h S g S' g':=
 fun u v y=>(qe.keep k.pr (fun _ _=>rfl) u).1 v y (k.keeps u)
theorem Jz{h:Array Obj}{S:St}{g:aA}{tmps:Array Value}{H:BS}(st:aE h S g tmps H)(D:BS):Kp h S g S { g with Pr:=Un g.Pr D }:=by
 intro u v y;refine(qe.keep (g':={ g with Pr:=Un g.Pr D }) (fun b hb=>Or.inl hb) (fun _ _=>rfl) u).1 v y (AV.ef (fun r p=>?_) (fun r p s=>?_) u)
 .exact(nP (g':={ g with Pr:=Un g.Pr D }) st (.inl rfl) rfl rfl (fun _ _ _=>rfl)).1 p
 .exact(nP (g':={ g with Pr:=Un g.Pr D }) st (.inl rfl) rfl rfl (fun _ _ _=>rfl)).2 p s
theorem Pb{C:Ctx}{h:Array Obj}{tmps:Array Value}{sl:List AV}{T:Ty}{fs:List Field}{place:Nat->Option (Nat×Nat)}
  (hs:mX C fs 0 T) (oU:∀i fd,fs[i]? = some fd->place i=some (fd.offset,(C.ty fd.type).width)) (ev:Operand->Value) :
  ∀(l:List (Nat×Operand))(rt:aO)(g:aA)(H F:BS)(m:Mk)(x:T.den)(cells:List Value)(ρ:Operand->AV)(m':Mk)(x':T.den)(rt':aO),
   aE h ⟨sl,rt⟩ g tmps H->az h g.Pr T m x cells F->Sub F H->aM g.hd T m cells->(∀x,qe h ⟨sl,rt⟩ g (ρ x) (ev x))->
   oH rt T (m,x) (l.map fun p=>(p.1,ρ p.2))=some (m',x',rt')->
   ∃g' H' F' cells',aE h ⟨sl,rt'⟩ g' tmps H'/\az h g'.Pr T m' x' cells' F'/\Sub F' H'/\aM g'.hd T m' cells'/\g'.cR g/\
    Instr.fill place cells.toArray (l.map fun p=>(p.1,ev p.2))=some cells'.toArray
 | [],rt,g,H,F,m,x,cells,ρ,m',x',rt',st,rep,hF,ni,hρ,hb=>by
  simp only[f6,oH,aK,aY]at hb;obtain⟨rfl,rfl,rfl⟩:=hb;exact⟨g,H,F,cells,st,rep,hF,ni,.refl _,rfl⟩
 | (i,op)::l,rt,g,H,F,m,x,cells,ρ,m',x',rt',st,rep,hF,ni,hρ,hb=>by
  simp only[cv,oH,cM]at hb;obtain⟨d,hf,⟨m1,x1,d8⟩,h2,⟨m2,x2⟩,hput,hb⟩:=hb;obtain⟨fd,q1,q2,q3,q4,q5⟩:=Wg i hs hf;obtain⟨c1,g1,F1,e1,cI⟩:=yW (S:=⟨sl,rt⟩) _ st h2 (hρ op);have o8:az h g1.Pr T m x cells F:=az.mono cI.pr (fun _ _=>rfl) T rep (Sub.refl _) (fun _ _=>rfl);obtain⟨base',c',F2,Fr,z⟩:=zip (ic i) _ _ _ cells F none d o8 hf (zQ _ _ q5 (ve _ hf)) (fun b o e=>by simp at e);obtain⟨eb,ec,Wr⟩:=z.plain q5;have nO:=az.width _ cI.rep;have oT:cB F1 Fr:=fun b hb gw=>cI.d5 b hb (hF b (z.fr b gw));obtain⟨F3,D3,s3,sd,d3,r3⟩:=z.vC h g1.Pr m1 x1 c1 F1 m2 x2 (Sub.refl _) (fun _ _=>rfl) (fun _ _ _=>rfl) (by rw[eb];intro b o e;simp at e) cI.rep oT hput;have W7:(if qx (ic i)=true then cells else bT cells (eF T (ic i)) c1)=bT cells (eF T (ic i)) c1:=by rw[af (by simp[q5])]
  rw[W7]at r3;have hin:∀b,Fr b\/F1 b->Un H F1 b:=by
   rintro b (hb | hb)
   .exact .inl (hF b (z.fr b hb))
   .exact .inr hb
  have pe:=cI.st.cP D3 (fun b hb=>hin b (sd b hb));have hoff:fd.offset=eF T (ic i):=by omega
  have XK:aM g1.hd T m2 (bT cells (eF T (ic i)) c1):=by
   have:=aM.put (hd:=g1.hd) (ic i) hput (by rw[cI.same.1];exact ni) (by rw[cI.same.1];exact cI.tag) (fun h=>by rw[q5]at h;simp at h) (az.width _ rep) nO
   rwa [af (by simp[q5])]at this
  obtain⟨g',H',F',cells',k1,k2,k3,k4,k5,k6⟩:=Pb hs oU ev l d8 _ _ F3 m2 x2 _ ρ m' x' rt' pe r3
   (fun b hb=>⟨hin b (s3 b hb),fun gw=>d3 b hb gw⟩) XK (fun x=>Jz cI.st D3 _ _ (cI.kp _ _ (hρ x))) hb
  refine⟨g',H',F',cells',k1,k2,k3,k4,cI.same.trans (aA.cR.trans ⟨rfl,rfl,rfl⟩ k5),?_⟩;have fX:(ev op).cells.toList=c1:=by rw[e1,Cp cI.rep]
  have hsize:(ev op).cells.size=(C.ty fd.type).width:=by rw[<-iP,fX,nO,q2]
  simp only[cv,Instr.fill,oU i fd q1];have wT:fd.offset+(ev op).cells.size<=cells.toArray.size:=by rw[hsize,<-q2,hoff];simpa using Wr
  have gq:((decide ((ev op).cells.size≠(C.ty fd.type).width))||decide (fd.offset+(ev op).cells.size>cells.toArray.size))=false:=by simp only[Bool.or_eq_false_iff,nG];exact⟨fun h=>h hsize,by omega⟩
  have kN:(ev op).cells.zipIdx.foldl (fun cs (c,j)=>cs.setIfInBounds (fd.offset+j) c) cells.toArray=(bT cells (eF T (ic i)) c1).toArray:=by apply yX;rw[QV wT,fX,hoff]
  rw[kN];have:(if (decide ((ev op).cells.size≠(C.ty fd.type).width)||decide (fd.offset+(ev op).cells.size>cells.toArray.size))=true then (none:Option (Array Value))
    else Instr.fill place (bT cells (eF T (ic i)) c1).toArray (l.map fun p=>(p.1,ev p.2)))=some cells'.toArray:=by
   rw[gq];exact k6
  exact this
theorem Qf{P:Program}{C:Ctx}(bn:iC P C):∀(fs:List Field)(off:Nat)(T:Ty),mX C fs off T->
  fs.mapM (fun f=>(P.info? f.type).map fun i=>(f.offset,i.size))=some (fs.map fun f=>(f.offset,(C.ty f.type).width))
 | [],_,_,_=>rfl
 | f::fs,off,T,h=>by
  simp only[mX]at h;obtain⟨b,rfl,h1,_,h2,h3⟩:=h;obtain⟨i,q1,q2,_⟩:=(bn f.type h2).info;simp only[List.mapM_cons,q1,d_,Option.bind_eq_bind,dG,Qf bn fs _ b h3,Option.pure_def,cv,q2]
section
variable {P:Program} {C:Ctx} {D:Den C} {S:St} {g:aA} {w:World} {tmps:Array Value} {a:Act} {ρ:Operand->AV}
variable {A:bY} {site:Nat} {hint:Bool} (bn:iC P C) (st:aE w.heap S g tmps Nil) (hρ:∀x,qe w.heap S g (ρ x) (a.eval x))
include bn st hρ
theorem acf{o:Oper}{t:TypeId}{parts:Array (Nat×Operand)}(ho:o.op=.build t parts)(ok:nM A S o.dst site):Goal P C D S g w tmps a ρ A site hint o:=by
 intro ht;simp only[aV,ho]at ht⊢;by_cases Jn:((C.ty t).nz&&(C.ty t).agg)=true
 .have hz:(C.ty t).nz=true:=by simp only[bI]at Jn;exact Jn.1
  have hag:(C.ty t).agg=true:=by simp only[bI]at Jn;exact Jn.2
  simp only[Jn,aX]at ht⊢;cases hb:oH S.rt (C.ty t) (Mk.z8 hint (C.ty t),(C.ty t).zero) (parts.toList.map fun p=>(p.1,ρ p.2)) with
  | none=>rw[hb]at ht;exact absurd ht bZ.fail
  | some z=>
   obtain⟨m,y,d8⟩:=z;rw[hb]at ht;simp only at ht⊢;obtain⟨⟨v,rt'⟩,hd⟩:=ht true;have hp:∃ta tb,C.ty t=.pair ta tb:=by
    cases hT:C.ty t with
    | pair ta tb=>exact⟨ta,tb,rfl⟩
    | unit=>rw[hT]at hz;simp[Ty.nz]at hz
    | _=>rw[hT]at hag;simp[Ty.agg]at hag
   .obtain⟨ta,tb,hT⟩:=hp;obtain⟨fs,h1,h2⟩:=bn.pair hT;rw[<-hT]at h2;have oU:∀(i:Nat)(fd:Field),fs.toList[i]? = some fd->((fs.toList.map fun f=>(f.offset,(C.ty f.type).width)).toArray[·]?) i=some (fd.offset,(C.ty fd.type).width):=by intro i fd h;simp only[List.getElem?_toArray,FN,h,d_]
    obtain⟨g',H',F',cells',k1,k2,k3,k4,k5,k6⟩:=Pb (sl:=S.sl) h2 oU a.eval parts.toList S.rt g Nil Nil (Mk.z8 hint (C.ty t)) (C.ty t).zero (zc (C.ty t)) ρ m y d8
     st (az.zero _ _) (Sub.nil _) (aM.ax _ (Mk.rq _ _)) hρ hb
    obtain⟨g2,s1,s2,s3⟩:=Cy k1 k2 k4 k3 ok hd;obtain⟨it,i1,i2,i3,_⟩:=(bn t hz).info;have Eh:P.built t (parts.toList.map fun p=>(p.1,a.eval p.2))=some cells'.toArray:=by
     unfold Program.built;simp only[i1,h1,i3,Qf bn fs.toList 0 _ h2];have:(dL (C.ty t) (zc (C.ty t))).cells=(zc (C.ty t)).toArray:=by apply yX;rw[Ix]
     rw[this];exact k6
    have hrun:=run_build (P:=P) w t (parts.map fun p=>(p.1,a.eval p.2)) cells'.toArray (by simpa using Eh);refine fC.value (val:=dL (C.ty t) cells') (w':=w) ?_ ⟨true,v,rt',hd,g2,s1,s2,k5.trans s3,.refl _ _⟩;have:dL (C.ty t) cells'=.agg cells'.toArray:=by rw[hT];rfl
    rw[this];simp[execOp,ho,hrun,Sem.run_bind]
 .rw[af Jn]at ht;exact absurd ht bZ.fail
end
end
structure El (h:Array Obj) (Pr:BS) (e:Ty) (mi:Mk) (xs:List e.den) (cells:List Value) (Fs:Nat->BS):Prop where
 rep:∀i,i<xs.length->az h Pr e mi (xs.getD i e.zero) ((cells.drop (i * e.width)).take e.width) (Fs i)
 d5:∀i j,i≠j->cB (Fs i) (Fs j)
theorem El.mono{h h':Array Obj}{Pr fP:BS}{e:Ty}{mi:Mk}{xs:List e.den}{cells:List Value}{Fs:Nat->BS}(k:El h Pr e mi xs cells Fs)(hp:Sub Pr fP)
  (gY:∀b,Pr b->h'[b]? = h[b]?) (hk:∀i b,Fs i b->h'[b]? = h[b]?):El h' fP e mi xs cells Fs:=
 ⟨fun i hi=>az.mono hp gY e (k.rep i hi) (Sub.refl _) (fun b hb=>hk i b hb),k.d5⟩
theorem El.aP{h:Array Obj}{Pr:BS}{e:Ty}{w m:Mk}{xs:List e.den}{cells:List Value}{Fs:Nat->BS}(hw:w.aP m=true)(k:El h Pr e m xs cells Fs) :
  ∃(wA:Nat->BS)(D:BS),(∀i,Sub (wA i) (Fs i))/\(∀b,D b->∃i,Fs i b)/\(∀i,cB (wA i) D)/\El h (Un Pr D) e w xs cells wA:=by
 have key:∀i,∃F1 F2:BS,Sub F1 (Fs i)/\Sub F2 (Fs i)/\cB F1 F2/\
   (i<xs.length->az h (fun b=>Pr b\/F2 b) e w (xs.getD i e.zero) ((cells.drop (i * e.width)).take e.width) F1):=by
  intro i;by_cases hi:i<xs.length
  .obtain⟨F1,F2,s1,s2,dd,rr⟩:=az.aP e hw (k.rep i hi);exact⟨F1,F2,s1,s2,dd,fun _=>rr⟩
  .exact⟨Nil,Nil,Sub.nil _,Sub.nil _,cB.nil _,fun h=>absurd h hi⟩
 obtain⟨F1,key⟩:=sU key;obtain⟨F2,key⟩:=sU key;refine⟨F1,fun b=>∃i,F2 i b,fun i=>(key i).1,fun b ⟨i,hb⟩=>⟨i,(key i).2.1 b hb⟩,?_,?_,?_⟩
 .rintro i b hb ⟨j,hj⟩;by_cases e:i=j
  .subst e;exact(key i).2.2.1 b hb hj
  .exact k.d5 i j e b ((key i).1 b hb) ((key j).2.1 b hj)
 .intro i hi;exact az.mono (fun b hb=>hb.imp id fun hb=>⟨i,hb⟩) (fun _ _=>rfl) e ((key i).2.2.2 hi) (Sub.refl _) (fun _ _=>rfl)
 .intro i j e;exact(k.d5 i j e).mono (key i).1 (key j).1
theorem El.row{h:Array Obj}{Pr:BS}{e:Ty}{mi:Mk}{xs:List e.den}{cells:List Value}{Fs:Nat->BS}(k:El h Pr e mi xs cells Fs){b:Nat}{cs:Array Value}(hb:jz h b cs)
  {cap:Nat} (hcap:cap * e.width<=cs.size) (hl:xs.length<=cap) (hcs:∀i,i<xs.length->sub cs (i * e.width) e.width=(cells.drop (i * e.width)).take e.width)
  (hF:∀i,¬ Fs i b) (s:Nat):az h Pr (.sl e) (.own s mi) xs [.slice (some ⟨b,0,none⟩) xs.length cap] (fun z=>z=b\/∃i,Fs i z):=by
 simp only[az];exact⟨_,cap,rfl,hl,.inr ⟨b,cs,rfl,.inl rfl,hb,hcap,Fs,fun i=>⟨fun z hz=>.inr ⟨i,hz⟩,hF i⟩,k.d5,fun i hi=>by rw[hcs i hi];exact k.rep i hi⟩⟩
theorem pI{α:Type}(l:List α)(k i:Nat)(x d:α)(hk:k<l.length):(l.set k x).getD i d=if i=k then x else l.getD i d:=by
 simp only[List.getD,jV];by_cases e:k=i
 .subst e;simp[hk]
 .have:¬ i=k:=fun h=>e h.symm;simp[e,this]
theorem Qe{h:Array Obj}{tmps:Array Value}{sl:List AV}{e:Ty}(ev:Operand->Value) :
  ∀(l:List (Nat×Operand))(rt:aO)(g:aA)(H:BS)(Fs:Nat->BS)(m:Mk)(xs:List e.den)(cells:List Value)(ρ:Operand->AV)(m':Mk)(xs':List e.den)(rt':aO),
   aE h ⟨sl,rt⟩ g tmps H->El h g.Pr e m xs cells Fs->(∀i,Sub (Fs i) H)->cells.length=xs.length * e.width->(∀x,qe h ⟨sl,rt⟩ g (ρ x) (ev x))->
   tF rt e (m,xs) (l.map fun p=>(p.1,ρ p.2))=some (m',xs',rt')->
   ∃g' H' wA cells',aE h ⟨sl,rt'⟩ g' tmps H'/\El h g'.Pr e m' xs' cells' wA/\(∀i,Sub (wA i) H')/\cells'.length=xs'.length * e.width/\xs'.length=xs.length/\g'.cR g/\
    Instr.fill (fun i=>some (i * e.width,e.width)) cells.toArray (l.map fun p=>(p.1,ev p.2))=some cells'.toArray
 | [],rt,g,H,Fs,m,xs,cells,ρ,m',xs',rt',st,el,hF,hlen,hρ,hb=>by
  simp only[f6,tF,aK,aY]at hb;obtain⟨rfl,rfl,rfl⟩:=hb;exact⟨g,H,Fs,cells,st,el,hF,hlen,rfl,.refl _,rfl⟩
 | (k,op)::l,rt,g,H,Fs,m,xs,cells,ρ,m',xs',rt',st,el,hF,hlen,hρ,hb=>by
  simp only[cv,tF]at hb;split at hb
  .rename_i hk;simp only[cM]at hb;obtain⟨⟨m1,x1,d8⟩,h2,hb⟩:=hb;obtain⟨c1,g1,F1,e1,cI⟩:=yW (S:=⟨sl,rt⟩) _ st h2 (hρ op);have nO:=az.width _ cI.rep;obtain⟨tj,lS⟩:=Mk.fy m m1;obtain⟨wA,D,q1,q2,q3,q4⟩:=(el.mono cI.pr (fun _ _=>rfl) (fun _ _ _=>rfl)).aP tj;obtain⟨Fa,Fb,p1,p2,p3,p4⟩:=az.aP e lS cI.rep;have hin:∀b,(D b\/Fb b)->Un H F1 b:=by
    rintro b (hb' | hb')
    .obtain⟨i,hi⟩:=q2 b hb';exact .inl (hF i b hi)
    .exact .inr (p2 b hb')
   have pe:=cI.st.cP (fun b=>D b\/Fb b) hin;have hfit:k * e.width+c1.length<=cells.length:=by rw[nO,hlen];have:=fu e.width (show k+1<=xs.length by exact hk);rw[mg]at this;exact this
   let pP:Nat->BS:=fun i=>if i=k then Fa else wA i
   have ua:∀i,cB F1 (Fs i):=fun i b bP gw=>cI.d5 b bP (hF i b gw);have zo:El h (Un g1.Pr fun b=>D b\/Fb b) e (m.meet m1) (xs.set k x1) (bT cells (k * e.width) c1) pP:=by
    refine⟨fun i hi=>?_,fun i j hij=>?_⟩
    .rw[b8]at hi;rw[pI _ _ _ _ _ hk];by_cases hik:i=k
     .subst hik;simp only[aX,pP];have hsame:=aco hfit;rw[nO]at hsame;rw[hsame];exact az.mono (fun b hb'=>hb'.imp id .inr) (fun _ _=>rfl) e p4 (Sub.refl _) (fun _ _=>rfl)
     .simp only[af hik,pP];rw[GO hfit (by
       rw[nO];rcases Cf i k with h3 | h3
       .left;have:=fu e.width (show i+1<=k by exact h3);rw[mg]at this;exact this
       .right;have:=fu e.width (show k+1<=i by omega);rw[mg]at this;exact this)]
      exact az.mono (fun b hb'=>hb'.imp id .inl) (fun _ _=>rfl) e (q4.rep i hi) (Sub.refl _) (fun _ _=>rfl)
    .intro b bP gw;simp only[pP]at bP gw;by_cases h1:i=k
     .rw[aj h1]at bP;rw[af (fun h=>hij (h1.trans h.symm))]at gw;exact ua j b (p1 b bP) (q1 j b gw)
     .rw[af h1]at bP;by_cases h2:j=k
      .rw[aj h2]at gw;exact ua i b (p1 b gw) (q1 i b bP)
      .rw[af h2]at gw;exact q4.d5 i j hij b bP gw
   have tW:∀i,Sub (pP i) (fun b=>Un H F1 b/\¬ (D b\/Fb b)):=by
    intro i b hb';simp only[pP]at hb';split at hb'
    .refine⟨.inr (p1 b hb'),?_⟩;rintro(h3 | h3)
     .obtain⟨j,hj⟩:=q2 b h3;exact ua j b (p1 b hb') hj
     .exact p3 b hb' h3
    .refine⟨.inl (hF i b (q1 i b hb')),?_⟩;rintro(h3 | h3)
     .exact q3 i b hb' h3
     .exact ua i b (p2 b h3) (q1 i b hb')
   obtain⟨g',H',Fs3,cells',k1,k2,k3,k4,k5,k6,k7⟩:=Qe ev l d8 _ _ pP (m.meet m1) (xs.set k x1) (bT cells (k * e.width) c1) ρ m' xs' rt' pe zo tW
    (by rw[Dx hfit,b8,hlen]) (fun x=>Jz cI.st _ _ _ (cI.kp _ _ (hρ x))) hb
   refine⟨g',H',Fs3,cells',k1,k2,k3,k4,by rw[k5,b8],cI.same.trans (aA.cR.trans ⟨rfl,rfl,rfl⟩ k6),?_⟩;have fX:(ev op).cells.toList=c1:=by rw[e1,Cp cI.rep]
   have hsize:(ev op).cells.size=e.width:=by rw[<-iP,fX,nO]
   simp only[cv,Instr.fill];have wT:k * e.width+(ev op).cells.size<=cells.toArray.size:=by rw[hsize];have:=hfit;rw[nO]at this;simpa using this
   have gq:((decide ((ev op).cells.size≠e.width))||decide (k * e.width+(ev op).cells.size>cells.toArray.size))=false:=by simp only[Bool.or_eq_false_iff,nG];exact⟨fun h=>h hsize,by omega⟩
   have kN:(ev op).cells.zipIdx.foldl (fun cs (c,j)=>cs.setIfInBounds (k * e.width+j) c) cells.toArray=(bT cells (k * e.width) c1).toArray:=by apply yX;rw[QV wT,fX]
   rw[kN];have:(if (decide ((ev op).cells.size≠e.width)||decide (k * e.width+(ev op).cells.size>cells.toArray.size))=true then (none:Option (Array Value))
     else Instr.fill (fun i=>some (i * e.width,e.width)) (bT cells (k * e.width) c1).toArray (l.map fun p=>(p.1,ev p.2)))=some cells'.toArray:=by
    rw[gq];exact k7
   exact this
  .simp at hb
theorem SA{e:Ty}(hp:0<e.width){n:Nat}{i:Nat}(hi:(i+1) * e.width<=n):sub (madeCells (zc e).toArray n) (i * e.width) e.width=zc e:=by
 rw[mg]at hi;apply rI;intro j;simp only[sub,gm,iE];by_cases hj:j<e.width
 .rw[aj hj];have h1:i * e.width+j<n:=by omega
  have h2:(i * e.width+j) % e.width=j:=by rw[uL,Nat.mul_add_mod,Nat.mod_eq_of_lt hj]
  have h3:j<(zc e).length:=by rw[Ki];exact hj
  simp[madeCells,h1,Ki,h2,h3];rw[gz h3];rfl
 .rw[af hj,pz (by rw[Ki];omega)]
theorem ak_{h:Array Obj}{Pr:BS}{e:Ty}(hp:0<e.width)(mi:Mk)(n:Nat):El h Pr e mi (List.replicate n e.zero) (madeCells (zc e).toArray (n * e.width)).toList (fun _=>Nil):=by
 refine⟨fun i hi=>?_,fun i j _=>cB.nil _⟩;rw[om]at hi;have e1:(List.replicate n e.zero).getD i e.zero=e.zero:=by simp[List.getD,hi]
 have:=SA (e:=e) hp (n:=n * e.width) (i:=i) (fu _ hi);simp only[sub]at this;rw[e1,this];exact az.zero e mi
section
variable {P:Program} {C:Ctx} {D:Den C} {S:St} {g:aA} {w:World} {tmps:Array Value} {a:Act} {ρ:Operand->AV}
variable {A:bY} {site:Nat} {hint:Bool} (bn:iC P C) (st:aE w.heap S g tmps Nil) (hρ:∀x,qe w.heap S g (ρ x) (a.eval x))
include bn st hρ
theorem HP{T:Ty}:(dL T (zc T)).cells=(zc T).toArray:=by apply yX;rw[Ix]
theorem ajZ{o:Oper}{t:TypeId}{x y:Operand}(ho:o.op=.makeSlice t x y)(ok:nM A S o.dst site):Goal P C D S g w tmps a ρ A site hint o:=by
 intro ht;simp only[aV,ho]at ht⊢;split at ht
 .rename_i e l c hT hl hc;have el:=Jw hl (hρ x);have ec:=Jw hc (hρ y);obtain⟨u,h1,h2,h3⟩:=bn.desc hT;have ku:=bn u h3;obtain⟨i,i1,i2,i3,i4⟩:=ku.info;obtain⟨⟨v,rt'⟩,hd⟩:=ht true;by_cases hb:0<=l/\l<=c/\c<=(ga:Int)
  .have hd':(dU A S.rt o.dst site (.sl e) (.own 0 (Mk.top e)) (List.replicate l.toNat e.zero) false).dec true=some (v,rt'):=by
    have gq:(decide (0<=l)&&decide (l<=c)&&decide (c<=(ga:Int)))=true:=by rw[bw hb.1,bw hb.2.1,bw hb.2.2];rfl
    rw[gq]at hd;exact hd
   have hbn:(ga:Int)=274877906944:=rfl;have hbytes:(i.bytes:Int) * c<=281474976710656:=by
    have h5:(i.bytes:Int)<=255:=Int.ofNat_le.2 i4;have h6:c<=274877906944:=by rw[<-hbn];exact hb.2.2
    have h7:(i.bytes:Int) * c<=255 * c:=Int.mul_le_mul_of_nonneg_right h5 (by omega);omega
   have hrun:=run_make (P:=P) w t u i _ h1 i1 i3 .i64 .i64 l c hb.1 hb.2.1 hbytes (by rw[hbn]at hb;omega);rw[HP bn st hρ,i2,h2]at hrun;have hp:=ku.pos;rw[h2]at hp;have Ws:El (w.heap.push (.cells (madeCells (zc e).toArray (c.toNat * e.width)) u)) g.Pr e (Mk.top e) (List.replicate l.toNat e.zero) (madeCells (zc e).toArray (c.toNat * e.width)).toList (fun _=>Nil):=by
    refine⟨fun i hi=>?_,fun i j _=>cB.nil _⟩;rw[om]at hi;have e1:(List.replicate l.toNat e.zero).getD i e.zero=e.zero:=by simp[List.getD,hi]
    have:=SA (e:=e) hp (n:=c.toNat * e.width) (i:=i) (fu _ (by omega));simp only[sub]at this;rw[e1,this];exact az.zero e _
   have s0:=st.jE (madeCells (zc e).toArray (c.toNat * e.width)) u;have rep:=Ws.row (b:=w.heap.size) jz.new (cap:=c.toNat) (by rw[size_madeCells];exact cq _) (by rw[om];omega) (fun i hi=>rfl) (fun i h=>h) 0;obtain⟨g2,s1,s2,s3⟩:=Cy s0 rep (aM.ax _ (by simp[Mk.ax,n8,Mk.c_])) (fun b hb=>by rcases hb with rfl | ⟨_,hb⟩;exact .inr rfl;exact hb.elim) ok hd';rw[om]at s2;refine fC.value (w':=w.alloc (.cells (madeCells (zc e).toArray (c.toNat * e.width)) u)) ?_ ⟨true,v,rt',hd,g2,s1,s2,s3,kK.push _⟩;simp[execOp,ho,el,ec,hrun,Sem.run_bind,dL,Ty.agg]
  .have:(decide (0<=l)&&decide (l<=c)&&decide (c<=(ga:Int)))=false:=by simp only[oh,nG];omega
   rw[this]at hd;simp[Tr.dec]at hd
 .exact absurd ht bZ.fail
theorem aiw{o:Oper}{t:TypeId}{n:Nat}{parts:Array (Nat×Operand)}(ho:o.op=.buildSlice t n parts)(ok:nM A S o.dst site):Goal P C D S g w tmps a ρ A site hint o:=by
 intro ht;simp only[aV,ho]at ht⊢;split at ht
 .rename_i e hT;cases hb:tF S.rt e (Mk.top e,List.replicate n e.zero) (parts.toList.map fun p=>(p.1,ρ p.2)) with
  | none=>rw[hb]at ht;exact absurd ht bZ.fail
  | some z=>
   obtain⟨m,xs,d8⟩:=z;rw[hb]at ht;simp only at ht⊢;by_cases mV:(m.ax&&Nat.ble (n * e.width) 16777216)=true
   .have hm:m.ax=true:=by simp only[bI]at mV;exact mV.1
    have iK:n * e.width<=2 ^ 24:=by simp only[bI]at mV;exact rE mV.2
    simp only[mV,aX]at ht⊢;obtain⟨u,h1,h2,h3⟩:=bn.desc hT;have ku:=bn u h3;obtain⟨i,i1,i2,i3,i4⟩:=ku.info;have hp:=ku.pos;rw[h2]at hp i2;obtain⟨g',H',wA,cells',k1,k2,k3,k4,k5,k6,k7⟩:=Qe (sl:=S.sl) a.eval parts.toList S.rt g Nil (fun _=>Nil) (Mk.top e) (List.replicate n e.zero)
     (madeCells (zc e).toArray (n * e.width)).toList ρ m xs d8 st (ak_ hp _ n) (fun _=>Sub.nil _) (by simp[size_madeCells]) hρ hb
    rw[om]at k5;have hrun:n * e.width<=2 ^ 24->(Instr.buildSlice t n (parts.map fun p=>(p.1,a.eval p.2))).run P w=.ok (.slice (some ⟨w.heap.size,0,none⟩) n n) { w with heap:=w.heap.push (.cells cells'.toArray u) }:=by
     intro iK;by_cases h0:n * i.size=0
     .have hn0:n=0:=by
       rw[i2]at h0;rcases Nat.mul_eq_zero.1 h0 with h | h
       .exact h
       .omega
      subst hn0;have k7':Instr.fill (fun i=>some (i * e.width,e.width)) #[] (parts.toList.map fun p=>(p.1,a.eval p.2))=some cells'.toArray:=by
       have:(madeCells (zc e).toArray (0 * e.width)).toList.toArray = #[]:=by simp[madeCells]
       rw[<-this];exact k7
      have e0:Array.range 0 = #[]:=rfl;simp[Instr.buildSlice,run_underlying h1,sizeOf,typeInfo,i1,i2,e0,k7',newRow,newObj,Sem.run_bind,Sem.run]
     .have:=run_buildSlice (P:=P) w t u n (parts.map fun p=>(p.1,a.eval p.2)) cells'.toArray i _ h1 i1 i3 (by rw[i2];omega) h0 (by
       rw[HP bn st hρ,i2];have e2:((Array.range (n * e.width)).map fun x=>(zc e).toArray[x % (zc e).toArray.size]!)=(madeCells (zc e).toArray (n * e.width)).toList.toArray:=by rw[pE];rfl
       rw[h2,e2];simpa using k7)
      exact this
    have s0:=k1.jE cells'.toArray u;have KY:∀i b,wA i b->b<w.heap.size:=fun i b hb=>k1.ep b (k3 i b hb);have Ws:El (w.heap.push (.cells cells'.toArray u)) g'.Pr e m xs cells' wA:=
     k2.mono (Sub.refl _) (fun b hb=>zU b (k1.bQ b hb)) (fun i b hb=>zU b (KY i b hb))
    have rep:=Ws.row (b:=w.heap.size) jz.new (cap:=n) (by simp[k4,k5]) (by omega) (fun i hi=>by simp[sub])
     (fun i h=>Gk _ (KY i _ h)) 0
    by_cases hh:hint=true
    .simp only[hh,aX]at ht⊢;by_cases hw:m.whole=true
     .simp only[hw,aX]at ht⊢;obtain⟨g2,s1,s2,s3,_⟩:=U8 s0 rep (fun b hb=>by
       rcases hb with rfl | ⟨i,hb⟩
       .exact .inr rfl
       .exact .inl (k3 i b hb)) (by simpa [Mk.whole] using hw)
      refine fC.value (w':={ w with heap:=w.heap.push (.cells cells'.toArray u) }) ?_ ⟨true,_,_,rfl,g2,s1.bB (Sub.nil _),by simp only[qe];exact⟨_,s2,rfl⟩,k6.trans s3,kK.push _⟩;rw[k5];simp[execOp,ho,hrun iK,Sem.run_bind,dL,Ty.agg]
     .rw[af hw]at ht;exact absurd ht bZ.fail
    .rw[af hh]at ht⊢;obtain⟨⟨v,rt'⟩,hd⟩:=ht true;obtain⟨g2,s1,s2,s3⟩:=Cy s0 rep (aM.ax _ (by simp[Mk.ax,n8,hm])) (fun b hb=>by
      rcases hb with rfl | ⟨i,hb⟩
      .exact .inr rfl
      .exact .inl (k3 i b hb)) ok hd
     rw[k5]at s2;refine fC.value (w':={ w with heap:=w.heap.push (.cells cells'.toArray u) }) ?_ ⟨true,v,rt',hd,g2,s1,s2,k6.trans s3,kK.push _⟩;simp[execOp,ho,hrun iK,Sem.run_bind,dL,Ty.agg]
   .rw[af mV]at ht;exact absurd ht bZ.fail
 .exact absurd ht bZ.fail
end
end Go.V
namespace Go.V
noncomputable section
open Go
section
variable {P:Program} (w:World)
theorem Wi{ats:Array TypeId}{t t' u u' ty:TypeId}{i:TypeInfo}(h0:ats[0]? = some t)(h1:ats[1]? = some t')(ht:P.underlying t=some (.slice u))(ht':P.underlying t'=some (.slice u'))
  (hi:P.info? u=some i) {xa:Option Addr} {n cap:Nat} {ya:Option Addr} {m c:Nat} {news:List Value}
  (hnews:(Builtin.firstCells i.size m (.slice ya m c)).run P w=.ok news.toArray w) (hroom:n+m<=cap)
  {w':World} (hst:∀ad,xa=some ad->(storeCells (ad.add (n * i.size)) news).run P w=.ok () w') (hno:xa=none->w'=w) :
  (Builtin.append_ ats ty #[.slice xa n cap,.slice ya m c]).run P w=.ok (.slice xa (n+m) cap) w':=by
 cases xa with
 | none=>obtain rfl:=hno rfl;simp[Builtin.append_,h0,h1,run_underlying ht,run_underlying ht',sizeOf,typeInfo,hi,Builtin.lenOf,hroom,hnews,Sem.run_bind]
 | some ad=>have:=hst ad rfl;simp[Builtin.append_,h0,h1,run_underlying ht,run_underlying ht',sizeOf,typeInfo,hi,Builtin.lenOf,hroom,hnews,this,Sem.run_bind]
theorem PI{ats:Array TypeId}{t t' u u' ty:TypeId}{i:TypeInfo}{z:Value}(h0:ats[0]? = some t)(h1:ats[1]? = some t')(ht:P.underlying t=some (.slice u))(ht':P.underlying t'=some (.slice u'))
  (hi:P.info? u=some i) (hz:i.zero=some z) {xa:Option Addr} {n cap:Nat} {ya:Option Addr} {m c:Nat} {olds news:List Value}
  (hnews:(Builtin.firstCells i.size m (.slice ya m c)).run P w.drew=.ok news.toArray w.drew)
  (holds:(Builtin.firstCells i.size n (.slice xa n cap)).run P w.drew=.ok olds.toArray w.drew) (hg:cap<n+m) (h63:((n+m:Nat):Int)<=9223372036854775807)
  (hfit:Builtin.nextslicecap (n+m) cap * i.bytes<=281474976710656) :
  (Builtin.append_ ats ty #[.slice xa n cap,.slice ya m c]).run P w =
   .ok (.slice (some ⟨w.heap.size,0,none⟩) (n+m) (grownCap w (n+m) cap u))
    (w.drew.alloc (.cells (olds.toArray++news.toArray++Builtin.zeroCells z.cells (grownCap w (n+m) cap u-(n+m))) u)):=by
 have hn:¬ (n+m<=cap):=by omega
 have h63':¬ (9223372036854775807<((n:Int)+(m:Int))):=by omega
 have Wy:¬ (281474976710656<Builtin.nextslicecap (n+m) cap * i.bytes):=by omega
 simp[Builtin.append_,h0,h1,run_underlying ht,run_underlying ht',sizeOf,typeInfo,zeroValue,hi,hz,Builtin.lenOf,hn,h63',Wy,Question.forced,hnews,holds,newRow,grownCap];congr 2;apply yX;simp[eI]
end
theorem DE{P:Program}{w:World}{size n len cap:Nat}{ad:Option Addr}{cs:List Value}(hl:cs.length=n * size)
  (h:(n=0/\cs=[])\/∃b o,ad=some ⟨b,o,none⟩/\w.rangeAt b o cs):(Builtin.firstCells size n (.slice ad len cap)).run P w=.ok cs.toArray w:=by
 rcases h with⟨rfl,rfl⟩ | ⟨b,o,rfl,hr⟩
 .cases ad with
  | none=>exact run_firstCells_none w size 0 len cap
  | some ad=>simp[Builtin.firstCells,loadCells,loadCellsFrom]
 .exact run_firstCells_some w size n ⟨b,o,none⟩ len cap cs hl (fun j v hv=>by rw[Addr.add_mid];exact hr j v hv)
theorem Wh{w:World}{b o:Nat}{cs:List Value}(h:w.rangeAt b o cs):w.drew.rangeAt b o cs:=by simpa using h
def LB:Mk->Mk
 | .own _ m=>m
 | _=>.no
theorem aj3{my m':Mk}(h:pT my=some m'):my≠.gone/\(∀a b,my≠.pr a b)/\LB my=m':=by
 cases my with
 | no=>simp only[pT,aK]at h;exact⟨by simp,by simp,h⟩
 | own s m=>simp only[pT,aK]at h;exact⟨by simp,by simp,h⟩
 | gone=>simp[pT]at h
 | pr a b=>simp[pT]at h
theorem Kf{h:Array Obj}{Pr:BS}{e:Ty}{m:Mk}{xs:(Ty.sl e).den}{c:List Value}{F:BS}(hm:m≠.gone)(hp:∀a b,m≠.pr a b)(rep:az h Pr (.sl e) m xs c F) :
  ∃ad cap cells Fs,c=[.slice ad xs.length cap]/\cells.length=xs.length * e.width/\xs.length<=cap/\
   ((xs.length=0/\cells=[])\/∃b o cs,ad=some ⟨b,o,none⟩/\sV h b cs/\o+xs.length * e.width<=cs.size/\cells=sub cs o (xs.length * e.width))/\
   El h Pr e (LB m) xs cells Fs/\(∀i,Sub (Fs i) F)/\
   (∀s m',m=.own s m'->cap=0\/∃b cs,ad=some ⟨b,0,none⟩/\F b/\jz h b cs/\cap * e.width<=cs.size/\(∀i,¬ Fs i b)/\cells=sub cs 0 (xs.length * e.width)):=by
 have hsub:∀(cs:Array Value)(o i:Nat),i<xs.length->o+xs.length * e.width<=cs.size->((sub cs o (xs.length * e.width)).drop (i * e.width)).take e.width=sub cs (o+i * e.width) e.width:=by
  intro cs o i hi hs;have:i * e.width+e.width<=xs.length * e.width:=by have:=fu e.width (show i+1<=xs.length by exact hi);rw[mg]at this;exact this
  simp only[sub,yo,qR,uK];congr 1;omega
 cases m with
 | gone=>exact absurd rfl hm
 | pr a b=>exact absurd rfl (hp a b)
 | no=>
  simp only[az]at rep;obtain⟨ad,cap,rfl,hl,re⟩:=rep;by_cases hne:xs=[]
  .subst hne;exact⟨ad,cap,[],fun _=>Nil,rfl,by simp,hl,.inl ⟨rfl,rfl⟩,⟨fun i hi=>by simp at hi,fun i j _=>cB.nil _⟩,fun i=>Sub.nil _,fun s m' e=>by simp at e⟩
  .obtain⟨b,o,cs,rfl,hp,hb,hs,re⟩:=re hne;refine⟨_,cap,sub cs o (xs.length * e.width),fun _=>Nil,rfl,GR hs,hl,.inr ⟨b,o,cs,rfl,hb,hs,rfl⟩,⟨fun i hi=>?_,fun i j _=>cB.nil _⟩,fun i=>Sub.nil _,fun s m' e=>by simp at e⟩;rw[hsub cs o i hi hs];exact re i hi
 | own s m'=>
  simp only[az]at rep;obtain⟨ad,cap,rfl,hl,re⟩:=rep;rcases re with rfl | ⟨b,cs,rfl,fb,hb,hs,Fs,pX,lH,re⟩
  .have hx:xs=[]:=lG.1 (by omega);subst hx;exact⟨ad,0,[],fun _=>Nil,rfl,by simp,hl,.inl ⟨rfl,rfl⟩,⟨fun i hi=>by simp at hi,fun i j _=>cB.nil _⟩,fun i=>Sub.nil _,fun s m' e=>.inl rfl⟩
  .have hfit:0+xs.length * e.width<=cs.size:=by have:=fu e.width hl;omega
   refine⟨_,cap,sub cs 0 (xs.length * e.width),Fs,rfl,GR hfit,hl,.inr ⟨b,0,cs,rfl,hb.CO,hfit,rfl⟩,⟨fun i hi=>?_,lH⟩,fun i=>(pX i).1,
    fun s m' e=>.inr ⟨b,cs,rfl,fb,hb,hs,fun i=>(pX i).2,rfl⟩⟩
   rw[hsub cs 0 i hi hfit,kB];exact re i hi
end
theorem aE.oy{h h2:Array Obj}{S:St}{g:aA}{tmps:Array Value}{H:BS}(st:aE h S g tmps H)(hk:∀b,b<h.size->¬ H b->h2[b]? = h[b]?)(hsz:h.size<=h2.size)
  (H2:BS) (Ab:∀b,H2 b->H b\/(h.size<=b/\b<h2.size)):aE h2 S g tmps H2:=by
 have kP:∀b,g.Pr b->h2[b]? = h[b]?:=fun b hb=>hk b (st.bQ b hb) (fun hH=>st.bM b hH hb);have kG:∀r,(S.root r).isSome->∀b,g.G r b->h2[b]? = h[b]?:=fun r h1 b hb=>hk b (st.cg r b h1 hb) (fun hH=>st.hand r h1 b hb hH);refine { len:=st.len,gy:=st.gy,slots:=?_,roots:=?_,d5:=st.d5,er:=st.er,hand:=?_,bM:=?_,bQ:=?_,cg:=?_,ep:=?_,tag:=st.tag,own:=st.own,fc:=?_,fY:=fun b hb=>st.fY b (by omega),p0:=st.p0,kZ:=st.kZ }
 .intro t;refine(qe.keep (Sub.refl _) kP _).1 _ (st.slots t) (AV.ef (fun r p=>?_) (fun r p s=>?_) _)
  .exact(nP st (.inl rfl) rfl rfl (fun h1 b hb=>kG r h1 b hb)).1 p
  .exact(nP st (.inl rfl) rfl rfl (fun h1 b hb=>kG r h1 b hb)).2 p s
 .intro r R hR;have h1:(S.root r).isSome:=by rw[hR];rfl
  obtain⟨F,q1,q2,q3,q4,q5⟩:=st.roots r R hR;refine⟨F,az.mono (Sub.refl _) kP _ q1 (Sub.refl _) (fun b hb=>kG r h1 b (q2 b hb)),q2,q3,?_,q5⟩;intro hm;obtain⟨b,e1,e2,e3⟩:=q4 hm;exact⟨b,e1,e2,e3.congr (kG r h1 b e2)⟩
 .intro r h1 b hb hz;rcases Ab b hz with h3 | h3
  .exact st.hand r h1 b hb h3
  .have:=st.cg r b h1 hb;omega
 .intro b hz hb;rcases Ab b hz with h3 | h3
  .exact st.bM b h3 hb
  .have:=st.bQ b hb;omega
 .intro b hb;have:=st.bQ b hb;omega
 .intro r b h1 hb;have:=st.cg r b h1 hb;omega
 .intro b hz;rcases Ab b hz with h3 | h3
  .have:=st.ep b h3;omega
  .exact h3.2
 .intro b hz;rcases Ab b hz with h3 | h3
  .exact st.fc b h3
  .exact st.fY b h3.1
theorem El.append{h:Array Obj}{Pr:BS}{e:Ty}{mi:Mk}{xs ys:List e.den}{c1 c2:List Value}{F1 F2:Nat->BS}(k1:El h Pr e mi xs c1 F1)(k2:El h Pr e mi ys c2 F2)
  (nO:c1.length=xs.length * e.width) (iJ:c2.length=ys.length * e.width) (hd:∀i j,cB (F1 i) (F2 j)) :
  El h Pr e mi (xs++ys) (c1++c2) (fun i=>if i<xs.length then F1 i else F2 (i-xs.length)):=by
 refine⟨fun i hi=>?_,fun i j hij=>?_⟩
 .rw[cT]at hi;by_cases h1:i<xs.length
  .simp only[h1,aX];have e1:(xs++ys).getD i e.zero=xs.getD i e.zero:=by simp[List.getD,kz h1]
   have hw:i * e.width+e.width<=c1.length:=by rw[nO];have:=fu e.width (show i+1<=xs.length by exact h1);rw[mg]at this;exact this
   have e2:((c1++c2).drop (i * e.width)).take e.width=(c1.drop (i * e.width)).take e.width:=by rw[B5 (by omega),pn (by rw[yj];omega)]
   rw[e1,e2];exact k1.rep i h1
  .simp only[h1,dZ];have e1:(xs++ys).getD i e.zero=ys.getD (i-xs.length) e.zero:=by simp[List.getD,mc (by omega:xs.length<=i)]
   have e2:(c1++c2).drop (i * e.width)=c2.drop ((i-xs.length) * e.width):=by
    have h3:c1.length<=i * e.width:=by rw[nO];exact fu _ (by omega)
    rw[Ga,vG h3,gA,nO,Nat.sub_mul]
   rw[e1,e2];exact k2.rep (i-xs.length) (by omega)
 .intro b bP gw;by_cases h1:i<xs.length<;>by_cases h2:j<xs.length<;>simp only[h1,h2,aX,dZ]at bP gw
  .exact k1.d5 i j hij b bP gw
  .exact hd i _ b bP gw
  .exact hd j _ b gw bP
  .exact k2.d5 _ _ (by omega) b bP gw
theorem U2{cs:Array Value}{l:List Value}{i w n:Nat}(h:cs.toList.take n=l)(hi:i * w+w<=n):sub cs (i * w) w=(l.drop (i * w)).take w:=by rw[<-h];simp only[sub,yo,uK];congr 1;omega
section
variable {P:Program} {C:Ctx} {D:Den C} {S:St} {g:aA} {w:World} {tmps:Array Value} {a:Act} {ρ:Operand->AV}
variable {A:bY} {site:Nat} {hint:Bool} (bn:iC P C) (st:aE w.heap S g tmps Nil) (hρ:∀x,qe w.heap S g (ρ x) (a.eval x))
include bn st hρ
theorem abA{o:Oper}{c:Call}{x y:Operand}{t t':TypeId}{e:Ty}(ho:o.op=.call c)(hc:c.callee=.builtin .append)(hargs:c.args = #[x,y])
  (h0:c.argTypes[0]? = some t) (h1:c.argTypes[1]? = some t') (hT:C.ty t=.sl e) (CT:C.ty t'=.sl e) (ok:nM A S o.dst site)
  (ht:bZ (DH A S.rt o.dst site e (ρ x) (ρ y))):fC P S g w tmps (DH A S.rt o.dst site e (ρ x) (ρ y)) ((execOp a.eval o).run P w):=by
 unfold DH at ht⊢;cases hx:tk S.rt (.sl e) (ρ x) with
 | none=>rw[hx]at ht;exact absurd ht bZ.fail
 | some z=>
  obtain⟨mx,xs,d8⟩:=z;rw[hx]at ht;cases mx with
  | own s m=>
   simp only at ht⊢;cases hy:tk d8 (.sl e) (ρ y) with
   | none=>rw[hy]at ht;exact absurd ht bZ.fail
   | some z=>
    obtain⟨my,ys,fk⟩:=z;rw[hy]at ht;simp only at ht⊢;cases hmk:pT my with
    | none=>rw[hmk]at ht;exact absurd ht bZ.fail
    | some m'=>
     rw[hmk]at ht;simp only at ht⊢;by_cases oE:(m.meet m').ax=true
     .simp only[oE,aX]at ht⊢;obtain⟨⟨v,rt'⟩,hd⟩:=ht true;by_cases hbd:xs.length+ys.length<=ga
      .have gq:decide (xs.length+ys.length<=ga)=true:=bw hbd;rw[gq]at hd⊢;have hd':(dU A fk o.dst site (.sl e) (.own 0 (m.meet m')) (xs++ys) false).dec true=some (v,rt'):=hd;obtain⟨c1,g1,F1,ev1,cI⟩:=yW _ st hx (hρ x);obtain⟨c2,g2,F2,D5,I8⟩:=yW (S:=⟨S.sl,d8⟩) _ cI.st hy (cI.kp _ _ (hρ y));have o8:az w.heap g2.Pr (.sl e) (.own s m) xs c1 F1:=az.mono I8.pr (fun _ _=>rfl) _ cI.rep (Sub.refl _) (fun _ _=>rfl);obtain⟨ow,e9,cX,Fs1,rfl,nO,Ev,xk,Wt,tX,xe⟩:=Kf (by simp) (by simp) o8;obtain⟨Xh,Xi,em'⟩:=aj3 hmk;obtain⟨sX,lO,aT,pP,rfl,iJ,KX,ng,zo,nX,_⟩:=Kf Xh Xi I8.rep;rw[em']at zo;obtain⟨tj,lS⟩:=Mk.fy m m';obtain⟨Km,D1,p1,p2,p3,p4⟩:=Wt.aP tj;obtain⟨Kn,D2,q1,q2,q3,q4⟩:=zo.aP lS;have h12:cB F1 F2:=fun b bP gw=>I8.d5 b gw (.inr bP);have hD:∀b,(D1 b\/D2 b)->Un (Un Nil F1) F2 b:=by
        rintro b (hb | hb)
        .obtain⟨i,hi⟩:=p2 b hb;exact .inl (.inr (tX i b hi))
        .obtain⟨i,hi⟩:=q2 b hb;exact .inr (nX i b hi)
       have rU:=I8.st.cP (fun b=>D1 b\/D2 b) hD
       let g3:aA:={ g2 with Pr:=Un g2.Pr fun b=>D1 b\/D2 b }
       have ela:El w.heap g3.Pr e (m.meet m') xs cX Km:=p4.mono (fun b hb=>hb.imp id .inl) (fun _ _=>rfl) (fun _ _ _=>rfl);have elb:El w.heap g3.Pr e (m.meet m') ys aT Kn:=q4.mono (fun b hb=>hb.imp id .inr) (fun _ _=>rfl) (fun _ _ _=>rfl);have Wu:=El.append ela elb nO iJ (fun i j b bP gw=>h12 b (tX i b (p1 i b bP)) (nX j b (q1 j b gw)));generalize hFF:(fun i=>if i<xs.length then Km i else Kn (i-xs.length))=FF at Wu;have D_:∀i b,FF i b->Un (Un Nil F1) F2 b/\¬ (D1 b\/D2 b):=by
        intro i b hb;rw[<-hFF]at hb;split at hb
        .refine⟨.inl (.inr (tX i b (p1 i b hb))),?_⟩;rintro(h3 | h3)
         .exact p3 i b hb h3
         .obtain⟨j,hj⟩:=q2 b h3;exact h12 b (tX i b (p1 i b hb)) (nX j b hj)
        .refine⟨.inr (nX _ b (q1 _ b hb)),?_⟩;rintro(h3 | h3)
         .obtain⟨j,hj⟩:=p2 b h3;exact h12 b (tX j b hj) (nX _ b (q1 _ b hb))
         .exact q3 _ b hb h3
       obtain⟨u,vM,C9,Lx⟩:=bn.desc hT;obtain⟨u',si,_,_⟩:=bn.desc CT;have ku:=bn u Lx;obtain⟨i,i1,i2,i3,i4⟩:=ku.info;have hp:=ku.pos;rw[C9]at i2 hp;have Ur:a.eval x=.slice ow xs.length e9:=ev1;have Ku:a.eval y=.slice sX ys.length lO:=D5;have hsame:g3.cR g:=cI.same.trans (I8.same.trans ⟨rfl,rfl,rfl⟩);have hsrc:∀{ad:Option Addr}{n:Nat}{cells:List Value},((n=0/\cells=[])\/∃b o cs,ad=some ⟨b,o,none⟩/\sV w.heap b cs/\o+n * e.width<=cs.size/\cells=sub cs o (n * e.width))->
         (n=0/\cells=[])\/∃b o,ad=some ⟨b,o,none⟩/\w.rangeAt b o cells:=by
        rintro ad n cells (h | ⟨b,o,cs,h1,h2,h3,h4⟩)
        .exact .inl h
        .exact .inr ⟨b,o,h1,h4 ▸ Dw h2 h3⟩
       have hex:(execOp a.eval o).run P w=((Builtin.append_ c.argTypes o.type #[.slice ow xs.length e9,.slice sX ys.length lO]).run P w).andThen fun a w'=>.ok (.value a) w':=by simp[execOp,ho,resolve,hc,invoke,builtin,hargs,Ur,Ku,Sem.run_bind]
       have xb:∀u∈aT,u.oneCell'=true:=by
        intro u hu;obtain⟨k,hk,rfl⟩:=List.getElem_of_mem hu;have hk2:k / e.width<ys.length:=by rw[iJ]at hk;exact Nat.div_lt_of_lt_mul (by rw[uL];exact hk)
        have r:=zo.rep (k / e.width) hk2;refine az.one _ r _ ?_;have h3:k / e.width * e.width+k % e.width=k:=by rw[uL];exact Ge k e.width
        have h4:k % e.width<e.width:=Nat.mod_lt _ hp;rw[mT];refine⟨k % e.width,?_⟩;rw[gm,aj h4,iE,h3,gz hk]
       have hlen:(xs++ys).length=xs.length+ys.length:=cT;have jN:(cX++aT).length=(xs.length+ys.length) * e.width:=by rw[cT,nO,iJ,jD]
       have hn2:=DE (P:=P) (w:=w) (size:=e.width) (n:=ys.length) (len:=ys.length) (cap:=lO) (ad:=sX) iJ (hsrc ng);rw[<-i2]at hn2;by_cases hroom:xs.length+ys.length<=e9
       .rcases xe s m rfl with hc0 | ⟨b,cs,Ee,rK,zq,oz,Ec,jM⟩
        .have hx0:xs=[]:=lG.1 (by omega);have hy0:ys=[]:=lG.1 (by omega);subst hx0;subst hy0;have g9:aT=[]:=lG.1 (by rw[iJ];simp);subst g9;have hr:=Wi (P:=P) w (ty:=o.type) h0 h1 vM si i1 hn2 hroom (w':=w) (xa:=ow) (fun ad _=>by simp[storeCells]) (fun _=>rfl);have yZ:az w.heap g3.Pr (.sl e) (.own 0 (m.meet m')) ([]++[]) [.slice ow (([]:List e.den).length+([]:List e.den).length) e9] Nil:=by simp only[az];exact⟨ow,e9,rfl,by simp,.inl hc0⟩
         obtain⟨g4,s1,s2,s3⟩:=Cy (S:=S) (g1:=g3) rU yZ (aM.ax _ (by simp[Mk.ax,oE,n8])) (Sub.nil _) ok hd';exact fC.value (w':=w) (by rw[hex,hr];rfl) ⟨true,v,rt',hd,g4,s1,s2,hsame.trans s3,.refl _ _⟩
        .subst Ee;have hfit:xs.length * e.width+aT.length<=cs.size:=by rw[iJ,<-jD];exact nL (fu _ hroom) oz
         have r_:(storeCells (⟨b,xs.length * e.width,none⟩:Addr) aT).run P w=.ok () (w.setCells b (xs.length * e.width) aT):=by have th:=AT (w:=w) zq hfit;have:=run_storeCells_cells (P:=P) b (xs.length * e.width) aT 0 w (fun j hj=>by simpa using (th j hj).1) (fun j hj=>by simpa using (th j hj).2) xb;simpa using this
         have hr:=Wi (P:=P) w (ty:=o.type) h0 h1 vM si i1 hn2 hroom (w':=w.setCells b (xs.length * e.width) aT) (xa:=some ⟨b,0,none⟩)
          (fun ad e0=>by simp only[aK]at e0;subst e0;rw[Addr.add_mid,kB,i2];exact r_) (fun h=>by simp at h)
         have cY:∀b',b'≠b->(w.setCells b (xs.length * e.width) aT).heap[b']? = w.heap[b']?:=fun b' hb'=>J1 aT _ w b' hb';have Uw:Un (Un Nil F1) F2 b:=.inl (.inr rK);have Xk:¬ (D1 b\/D2 b):=by
          rintro(h3 | h3)
          .obtain⟨j,hj⟩:=p2 b h3;exact Ec j hj
          .obtain⟨j,hj⟩:=q2 b h3;exact h12 b rK (nX j b hj)
         have Kx:∀i,¬ FF i b:=by
          intro i hb;rw[<-hFF]at hb;split at hb
          .exact Ec i (p1 i b hb)
          .exact h12 b rK (nX _ b (q1 _ b hb))
         have hPb:¬ g3.Pr b:=fun h=>rU.bM b ⟨Uw,Xk⟩ h;have st4:=rU.oy (h2:=(w.setCells b (xs.length * e.width) aT).heap) (fun b' _ hb'=>cY b' (fun e0=>hb' (e0 ▸ ⟨Uw,Xk⟩))) (by rw[vR];exact cq _)
          (fun b=>Un (Un Nil F1) F2 b/\¬ (D1 b\/D2 b)) (fun b' hb'=>.inl hb')
         obtain⟨ty,lo,hi,he,hfz⟩:=zq;obtain⟨gC,Ej,pZ⟩:=U1 aT (xs.length * e.width) w cs he hfit;have se:gC.size=cs.size:=by rw[<-iP,pZ,Dx (by simpa using hfit),iP]
         have ug:jz (w.setCells b (xs.length * e.width) aT).heap b gC:=⟨ty,lo,hi,Ej,fun i hi'=>hfz i (by omega)⟩
         have xm:gC.toList.take ((xs.length+ys.length) * e.width)=cX++aT:=by
          have hmin:min (xs.length * e.width) cs.toList.length=xs.length * e.width:=by have h7:cs.toList.length=cs.size:=iP;omega
          rw[pZ,jM];simp only[bT,sub,jW];rw[pn (by
           rw[cT,eR,iJ,hmin,jD];exact cq _)]
          rw[jT (by
           rw[cT,eR,iJ,hmin,jD];exact cq _)]
         have Wv:El (w.setCells b (xs.length * e.width) aT).heap g3.Pr e (m.meet m') (xs++ys) (cX++aT) FF:=
          Wu.mono (Sub.refl _) (fun b' hb'=>cY b' (fun e0=>hPb (e0 ▸ hb'))) (fun i b' hb'=>cY b' (fun e0=>Kx i (e0 ▸ hb')))
         have rf:=Wv.row ug (cap:=e9) (by rw[se];exact oz) (by rw[hlen];exact hroom)
          (fun i hi'=>U2 xm (by
           rw[hlen]at hi';have:=fu e.width (show i+1<=xs.length+ys.length by exact hi');rw[mg]at this;exact this)) Kx 0
         rw[hlen]at rf;obtain⟨g4,s1,s2,s3⟩:=Cy (S:=S) (g1:=g3) st4 rf (aM.ax _ (by simp[Mk.ax,oE,n8]))
          (fun b' hb'=>by rcases hb' with rfl | ⟨i,hb'⟩;exact⟨Uw,Xk⟩;exact D_ i b' hb') ok hd'
         have fS:=TP (b:=b) aT (xs.length * e.width) w;have WO:g.L b:=by have:=I8.st.fc b Uw;rw[(cI.same.trans I8.same).2.1]at this;exact this
         exact fC.value (w':=w.setCells b (xs.length * e.width) aT) (by rw[hex,hr];rfl) ⟨true,v,rt',hd,g4,s1,s2,hsame.trans s3,
          ⟨fS.1,fS.2.1,fS.2.2,by rw[vR];exact cq _,fun b' _ hb'=>cY b' (fun e0=>hb' (e0 ▸ WO))⟩⟩
       .have WQ:xs.length+ys.length<=274877906944:=hbd;have w6:=DE (P:=P) (w:=w.drew) (size:=e.width) (n:=ys.length) (len:=ys.length) (cap:=lO) (ad:=sX) iJ (by
         rcases hsrc ng with h | ⟨b,o',h3,h4⟩
         .exact .inl h
         .exact .inr ⟨b,o',h3,Wh h4⟩)
        have w5:=DE (P:=P) (w:=w.drew) (size:=e.width) (n:=xs.length) (len:=xs.length) (cap:=e9) (ad:=ow) nO (by
         rcases hsrc xk with h | ⟨b,o',h3,h4⟩
         .exact .inl h
         .exact .inr ⟨b,o',h3,Wh h4⟩)
        rw[<-i2]at w6 w5;have hg:e9<xs.length+ys.length:=by omega
        have oC:=Room.nextslicecap_le' (need:=xs.length+ys.length) (old:=e9) hg;have hfit:Builtin.nextslicecap (xs.length+ys.length) e9 * i.bytes<=281474976710656:=by have h5:Builtin.nextslicecap (xs.length+ys.length) e9 * i.bytes<=549755813888 * 255:=Nat.mul_le_mul (by omega) i4;omega
        have hr:=PI (P:=P) w (ty:=o.type) h0 h1 vM si i1 i3 w6 w5 hg (by omega) hfit;have hge:=grownCap_ge w (xs.length+ys.length) e9 u;generalize grownCap w (xs.length+ys.length) e9 u=cap' at hr hge;generalize mj:(cX.toArray++aT.toArray++Builtin.zeroCells (dL (C.ty u) (zc (C.ty u))).cells (cap'-(xs.length+ys.length)))=cs at hr;have Ek:cs.toList.take ((xs.length+ys.length) * e.width)=cX++aT:=by rw[<-mj];simp only[Array.toList_append,eI];rw[<-eI,pn (by rw[jN];exact cq _),jT (by rw[jN];exact cq _)]
        have Em:cs.size=cap' * e.width:=by
         rw[<-mj];have hz:(dL (C.ty u) (zc (C.ty u))).cells.size=e.width:=by rw[HP bn st hρ,C9];simp[Ki]
         have h9:cX.length+aT.length=(xs.length+ys.length) * e.width:=by rw[<-cT];exact jN
         simp only[Array.size_append,List.size_toArray,size_zeroCells,hz,h9];rw[<-jD];congr 1;omega
        have st4:=rU.jE cs u;have Ky:∀i b,FF i b->b<w.heap.size:=fun i b hb=>rU.ep b (D_ i b hb);have Wv:El (w.heap.push (.cells cs u)) g3.Pr e (m.meet m') (xs++ys) (cX++aT) FF:=
         Wu.mono (Sub.refl _) (fun b hb=>zU b (rU.bQ b hb)) (fun i b hb=>zU b (Ky i b hb))
        have rf:=Wv.row (b:=w.heap.size) jz.new (cap:=cap') (by rw[Em];exact cq _) (by rw[hlen];exact hge)
          (fun i hi'=>U2 Ek (by
           rw[hlen]at hi';have:=fu e.width (show i+1<=xs.length+ys.length by exact hi');rw[mg]at this;exact this)) (fun i hb=>Gk _ (Ky i _ hb)) 0
        rw[hlen]at rf;obtain⟨g4,s1,s2,s3⟩:=Cy (S:=S) (g1:=g3) st4 rf (aM.ax _ (by simp[Mk.ax,oE,n8]))
          (fun b' hb'=>by rcases hb' with rfl | ⟨i,hb'⟩;exact .inr rfl;exact .inl (D_ i b' hb')) ok hd'
        refine fC.value (w':=w.drew.alloc (.cells cs u)) (by rw[hex,hr];rfl) ⟨true,v,rt',hd,g4,s1,s2,hsame.trans s3,?_⟩;exact⟨rfl,rfl,rfl,by show w.heap.size<=(w.heap.push _).size;simp,fun b hb _=>zU b hb⟩
      .have gq:decide (xs.length+ys.length<=ga)=false:=b7 hbd;rw[gq]at hd;simp[Tr.dec]at hd
     .rw[af oE]at ht;exact absurd ht bZ.fail
  | _=>exact absurd ht bZ.fail
end
theorem adq{h h2:Array Obj}{base:fK}{v:Value}{F:BS}(hq:yS h base [v] F)(hk:∀b o,base=some (b,o)->h2[b]? = h[b]?):zj h h2 base [v]:=by intro b' o e cs' w9;obtain⟨Am,cs3,Ew,wU,xl⟩:=hq b' o e;refine⟨cs',w9.congr (hk b' o e),?_⟩;have:=w9.uniq Ew;subst this;have hr:=Hq (c:=cs'.toList) (n:=o) (k:=1) (by rw[iP];exact wU);have zC:(cs'.toList.drop o).take 1=[v]:=xl;rw[zC]at hr;exact hr.symm
theorem Gu:∀{m:Mk},m.still=true->m.whole=true
 | .no,_=>rfl
 | .gone,h=>by simp[Mk.still]at h
 | .own _ _,h=>by simp[Mk.still]at h
 | .pr a b,h=>by
  simp only[Mk.still,bI]at h;simp only[Mk.whole,bI];exact⟨Gu h.1,Gu h.2⟩
theorem Fy{h:Array Obj}{Pr:BS}{e:Ty}{l:List e.den}{cells:List Value}{b cap:Nat}{cs:Array Value}(hp:Pr b)(hb:sV h b cs)(hfit:l.length * e.width<=cs.size)(hcap:l.length<=cap)
  (sg:∀i,i<l.length->sub cs (i * e.width) e.width=(cells.drop (i * e.width)).take e.width) (el:∀i,i<l.length->az h Pr e .no (l.getD i e.zero) ((cells.drop (i * e.width)).take e.width) Nil) :
  az h Pr (.sl e) .no l [.slice (some ⟨b,0,none⟩) l.length cap] Nil:=by
 simp only[az];exact⟨_,cap,rfl,hcap,fun _=>⟨b,0,cs,rfl,hp,hb,by omega,fun i hi=>by rw[kB,sg i hi];exact el i hi⟩⟩
section
variable {P:Program} {C:Ctx} {D:Den C} {S:St} {g:aA} {w:World} {tmps:Array Value} {a:Act} {ρ:Operand->AV}
variable {A:bY} {site:Nat} {hint:Bool} (bn:iC P C) (st:aE w.heap S g tmps Nil) (hρ:∀x,qe w.heap S g (ρ x) (a.eval x))
include bn st hρ
theorem akT{o:Oper}{c:Call}{x y:Operand}{t t':TypeId}{e:Ty}(ho:o.op=.call c)(hc:c.callee=.builtin .append)(hargs:c.args = #[x,y])
  (h0:c.argTypes[0]? = some t) (h1:c.argTypes[1]? = some t') (hT:C.ty t=.sl e) (CT:C.ty t'=.sl e)
  {r:Nat} {p:Path} {R:aC} {s:Nat} {m:Mk} {xs ys:List e.den} (EE:ρ x=.b9 r p s) (zD:ρ y=.val (.sl e) ys) (hR:S.root r=some R) (hf:focus R.ty R.ms R.x p=some ⟨.sl e,.own s m,xs⟩)
  (hm:m.still=true) {m':Mk} {x':R.ty.den} (hput:put R.ty R.ms R.x p (.sl e) .no xs=some (m',x')) (hbd:xs.length+ys.length<=ga) :
  ∃val w',(execOp a.eval o).run P w=.ok (.value val) w'/\Post S g w tmps (.val (.sl e) (xs++ys)) (S.aI r (some { R with ms:=m',x:=x' })).rt val w':=by
 have hx:=hρ x;have hy:=hρ y;rw[EE]at hx;rw[zD]at hy;simp only[qe]at hx hy;obtain⟨c2,I3,Ku⟩:=hy;obtain⟨hin,sY,ej⟩:=hx R hR e m xs hf;obtain⟨base,c0,F,q1,o8,q3,q4,q5,q6⟩:=st.m4 hR hf hin;rw[ej]at q1;simp only[aK,aY]at q1;obtain⟨rfl,rfl⟩:=q1;have bO:(S.root r).isSome:=by rw[hR];rfl
 obtain⟨ow,e9,cX,Fs1,DZ,nO,Ev,xk,Wt,tX,xe⟩:=Kf (by simp) (by simp) o8;simp only[eZ,iQ]at DZ;rw[DZ]at q4 q6 o8;obtain⟨sX,lO,aT,pP,rfl,iJ,KX,ng,zo,nX,_⟩:=Kf (by simp) (by simp) I3;obtain⟨u,vM,C9,Lx⟩:=bn.desc hT;obtain⟨u',si,_,_⟩:=bn.desc CT;have ku:=bn u Lx;obtain⟨i,i1,i2,i3,i4⟩:=ku.info;have hp:=ku.pos;rw[C9]at i2 hp;have z9:a.eval y=.slice sX ys.length lO:=Ku;have EF:(Mk.own s m).whole=true:=by show m.whole=true;exact Gu hm
 have hsrc:∀{ad:Option Addr}{n:Nat}{cells:List Value},((n=0/\cells=[])\/∃b o cs,ad=some ⟨b,o,none⟩/\sV w.heap b cs/\o+n * e.width<=cs.size/\cells=sub cs o (n * e.width))->
   (n=0/\cells=[])\/∃b o,ad=some ⟨b,o,none⟩/\w.rangeAt b o cells:=by
  rintro ad n cells (h | ⟨b,o,cs,h1,h2,h3,h4⟩)
  .exact .inl h
  .exact .inr ⟨b,o,h1,h4 ▸ Dw h2 h3⟩
 have hex:(execOp a.eval o).run P w=((Builtin.append_ c.argTypes o.type #[.slice ow xs.length e9,.slice sX ys.length lO]).run P w).andThen fun a w'=>.ok (.value a) w':=by simp[execOp,ho,resolve,hc,invoke,builtin,hargs,DZ,z9,Sem.run_bind]
 have xb:∀u∈aT,u.oneCell'=true:=by
  intro u hu;obtain⟨k,hk,rfl⟩:=List.getElem_of_mem hu;have hk2:k / e.width<ys.length:=by rw[iJ]at hk;exact Nat.div_lt_of_lt_mul (by rw[uL];exact hk)
  have r:=zo.rep (k / e.width) hk2;refine az.one _ r _ ?_;have h3:k / e.width * e.width+k % e.width=k:=by rw[uL];exact Ge k e.width
  have h4:k % e.width<e.width:=Nat.mod_lt _ hp;rw[mT];refine⟨k % e.width,?_⟩;rw[gm,aj h4,iE,h3,gz hk]
 have hlen:(xs++ys).length=xs.length+ys.length:=cT;have jN:(cX++aT).length=(xs.length+ys.length) * e.width:=by rw[cT,nO,iJ,jD]
 have hn2:=DE (P:=P) (w:=w) (size:=e.width) (n:=ys.length) (len:=ys.length) (cap:=lO) (ad:=sX) iJ (hsrc ng);rw[<-i2]at hn2;have Uc:az w.heap (Un g.Pr F) (.sl e) .no xs [.slice ow xs.length e9] Nil:=az.share _ EF o8
 -- zb elements,shared
 have elx:∀k,k<xs.length->az w.heap g.Pr e .no (xs.getD k e.zero) ((cX.drop (k * e.width)).take e.width) Nil:=fun k hk=>az.eL e hm (Wt.rep k hk);have ely:∀k,k<ys.length->az w.heap g.Pr e .no (ys.getD k e.zero) ((aT.drop (k * e.width)).take e.width) Nil:=fun k hk=>az.eL e rfl (zo.rep k hk);have D4:∀k,k<(xs++ys).length->az w.heap g.Pr e .no ((xs++ys).getD k e.zero) (((cX++aT).drop (k * e.width)).take e.width) Nil:=by have h:=El.append (h:=w.heap) (Pr:=g.Pr) (e:=e) (mi:=.no) (xs:=xs) (ys:=ys) (c1:=cX) (c2:=aT) (F1:=fun _=>Nil) (F2:=fun _=>Nil) ⟨elx,fun _ _ _=>cB.nil _⟩ ⟨ely,fun _ _ _=>cB.nil _⟩ nO iJ (fun _ _=>cB.nil _);intro k hk;have:=h.rep k hk;exact az.mono (Sub.refl _) (fun _ _=>rfl) _ this (by intro b hb;split at hb<;>exact hb) (fun _ _=>rfl)
 have pW:∀b,F b->g.G r b:=q3;have hPF:∀b,g.Pr b->¬ F b:=fun b hb hF=>st.er r bO b (q3 b hF) hb
 -- zb state behind
 have fin:∀(h2:Array Obj)(Dd:BS),(∀b,b<w.heap.size->¬ F b->h2[b]? = w.heap[b]?)->w.heap.size<=h2.size->(∀b,F b->Dd b)->(∀b,Dd b->F b\/w.heap.size<=b)->(∀b,Dd b->b<h2.size)->
   az h2 (Un g.Pr Dd) (.sl e) .no xs [.slice ow xs.length e9] Nil->∀val,(∃c3,az h2 (Un g.Pr Dd) (.sl e) .no (xs++ys) c3 Nil/\val=dL (.sl e) c3)->
   ∃g',aE h2 (S.aI r (some { R with ms:=m',x:=x' })) g' tmps Nil/\qe h2 (S.aI r (some { R with ms:=m',x:=x' })) g' (.val (.sl e) (xs++ys)) val/\g'.cR g:=by
  intro h2 Dd k1 k2 k3 k4 k5 k6 val hval;obtain⟨g2,s1,s2,s3,s4,s5,s6,s7⟩:=q6 0 0 h2 .no xs [.slice ow xs.length e9] Nil Dd m' x' (fun u=>J5 _) (fun b hb hF _=>k1 b hb hF) k2
   (adq q4 fun b o e0=>k1 b (st.cg r b bO (q5 b o e0)) (q4 b o e0).1) k6 (fun b _ h=>h.elim) (fun b hb=>by
    rcases hb with hb | hb
    .exact hb.elim
    .rcases k4 b hb with h | h
     .exact .inl h
     .exact .inr (.inr h)) (fun b hb=>hb.elim (fun h=>h.elim) (k5 b)) hput trivial (by simp only[aM]) (fun _=>rfl)
   (by
    intro p' t1 n1 _ gX _;cases p' with
    | nil=>simp only[q8,aK,aY]at gX;obtain⟨rfl,rfl⟩:=gX;exact⟨trivial,fun bp cp ha=>⟨cp,by simp only[cr]at ha⊢;exact ha,fun _ _ _ _=>rfl⟩⟩
    | cons z p'=>cases z<;>simp[q8]at gX)
  obtain⟨c3,r3,ev3⟩:=hval;refine⟨g2,s1.bB (Sub.nil _),?_,s4⟩;simp only[qe];exact⟨c3,az.mono (fun b hb=>hb.elim (s2 b) (s3 b)) (fun _ _=>rfl) _ r3 (Sub.refl _) (fun _ _=>rfl),ev3⟩
 by_cases hroom:xs.length+ys.length<=e9
 .rcases xe s m rfl with hc0 | ⟨b,cs,Ee,rK,zq,oz,Ec,jM⟩
  .have hx0:xs.length=0:=by omega
   have hy0:ys.length=0:=by omega
   have g9:aT=[]:=lG.1 (by rw[iJ,hy0];simp);have hr:=Wi (P:=P) w (ty:=o.type) h0 h1 vM si i1 hn2 hroom (w':=w) (xa:=ow) (fun ad _=>by rw[g9];simp[storeCells]) (fun _=>rfl);obtain⟨g',z1,z2,z3⟩:=fin w.heap F (fun _ _ _=>rfl) (cq _) (fun _ h=>h) (fun _ h=>.inl h) (fun b h=>st.cg r b bO (q3 b h)) Uc (.slice ow (xs.length+ys.length) e9)
    ⟨[.slice ow (xs++ys).length e9],by
     simp only[az];exact⟨ow,e9,rfl,by rw[hlen];exact hroom,fun hne=>absurd (lG.1 (by rw[hlen];omega)) hne⟩,by rw[hlen];rfl⟩
   exact⟨_,_,by rw[hex,hr];rfl,g',z1,z2,z3,.refl _ _⟩
  .subst Ee;have hfit:xs.length * e.width+aT.length<=cs.size:=by rw[iJ,<-jD];exact nL (fu _ hroom) oz
   have r_:(storeCells (⟨b,xs.length * e.width,none⟩:Addr) aT).run P w=.ok () (w.setCells b (xs.length * e.width) aT):=by have th:=AT (w:=w) zq hfit;have:=run_storeCells_cells (P:=P) b (xs.length * e.width) aT 0 w (fun j hj=>by simpa using (th j hj).1) (fun j hj=>by simpa using (th j hj).2) xb;simpa using this
   have hr:=Wi (P:=P) w (ty:=o.type) h0 h1 vM si i1 hn2 hroom (w':=w.setCells b (xs.length * e.width) aT) (xa:=some ⟨b,0,none⟩)
    (fun ad e0=>by simp only[aK]at e0;subst e0;rw[Addr.add_mid,kB,i2];exact r_) (fun h=>by simp at h)
   have cY:∀b',b'≠b->(w.setCells b (xs.length * e.width) aT).heap[b']? = w.heap[b']?:=fun b' hb'=>J1 aT _ w b' hb';have al0:=zq;obtain⟨ty,lo,hi,he,hfz⟩:=zq;obtain⟨gC,Ej,pZ⟩:=U1 aT (xs.length * e.width) w cs he hfit;have se:gC.size=cs.size:=by rw[<-iP,pZ,Dx (by simpa using hfit),iP]
   have CU:sV (w.setCells b (xs.length * e.width) aT).heap b gC:=⟨ty,(lo,hi),Ej⟩
   have xm:gC.toList.take ((xs.length+ys.length) * e.width)=cX++aT:=by
    have hmin:min (xs.length * e.width) cs.toList.length=xs.length * e.width:=by have h7:cs.toList.length=cs.size:=iP;omega
    rw[pZ,jM];simp only[bT,sub,jW];rw[pn (by
     rw[cT,eR,iJ,hmin,jD];exact cq _)]
    rw[jT (by
     rw[cT,eR,iJ,hmin,jD];exact cq _)]
   have hmono:∀{t:Ty}{z:t.den}{c:List Value},az w.heap g.Pr t .no z c Nil->az (w.setCells b (xs.length * e.width) aT).heap (Un g.Pr F) t .no z c Nil:=fun h=>
    az.mono (fun b' hb'=>.inl hb') (fun b' hb'=>cY b' (fun e0=>hPF b' hb' (e0 ▸ rK))) _ h (Sub.refl _) (fun _ h=>h.elim)
   have C7:∀k,k<xs.length+ys.length->sub gC (k * e.width) e.width=((cX++aT).drop (k * e.width)).take e.width:=fun k hk=>U2 xm (by
    have:=fu e.width (show k+1<=xs.length+ys.length by exact hk);rw[mg]at this;exact this)
   obtain⟨g',z1,z2,z3⟩:=fin (w.setCells b (xs.length * e.width) aT).heap F (fun b' _ hb'=>cY b' (fun e0=>hb' (e0 ▸ rK))) (by rw[vR];exact cq _) (fun _ h=>h) (fun _ h=>.inl h)
    (fun b h=>by rw[vR];exact st.cg r b bO (q3 b h))
    (Fy (cells:=cX++aT) (.inr rK) CU (by rw[se];exact nL (fu _ Ev) oz) Ev (fun k hk=>C7 k (by omega)) (fun k hk=>by
     have:=D4 k (by rw[hlen];omega);have e1:(xs++ys).getD k e.zero=xs.getD k e.zero:=by simp[List.getD,kz hk]
     rw[e1]at this;exact hmono this)) (.slice (some ⟨b,0,none⟩) (xs.length+ys.length) e9)
    ⟨[.slice (some ⟨b,0,none⟩) (xs++ys).length e9],Fy (cells:=cX++aT) (.inr rK) CU (by rw[se,hlen];exact nL (fu _ hroom) oz) (by rw[hlen];exact hroom) (fun k hk=>C7 k (by rw[hlen]at hk;exact hk)) (fun k hk=>hmono (D4 k hk)),by rw[hlen];rfl⟩
   have fS:=TP (b:=b) aT (xs.length * e.width) w;have WO:g.L b:=st.own r b bO (q3 b rK);exact⟨_,_,by rw[hex,hr];rfl,g',z1,z2,z3,⟨fS.1,fS.2.1,fS.2.2,by rw[vR];exact cq _,fun b' _ hb'=>cY b' (fun e0=>hb' (e0 ▸ WO))⟩⟩
 .have WQ:xs.length+ys.length<=274877906944:=hbd;have w6:=DE (P:=P) (w:=w.drew) (size:=e.width) (n:=ys.length) (len:=ys.length) (cap:=lO) (ad:=sX) iJ (by
   rcases hsrc ng with h | ⟨b,o',h3,h4⟩
   .exact .inl h
   .exact .inr ⟨b,o',h3,Wh h4⟩)
  have w5:=DE (P:=P) (w:=w.drew) (size:=e.width) (n:=xs.length) (len:=xs.length) (cap:=e9) (ad:=ow) nO (by
   rcases hsrc xk with h | ⟨b,o',h3,h4⟩
   .exact .inl h
   .exact .inr ⟨b,o',h3,Wh h4⟩)
  rw[<-i2]at w6 w5;have hg:e9<xs.length+ys.length:=by omega
  have oC:=Room.nextslicecap_le' (need:=xs.length+ys.length) (old:=e9) hg;have hfit:Builtin.nextslicecap (xs.length+ys.length) e9 * i.bytes<=281474976710656:=by have h5:Builtin.nextslicecap (xs.length+ys.length) e9 * i.bytes<=549755813888 * 255:=Nat.mul_le_mul (by omega) i4;omega
  have hr:=PI (P:=P) w (ty:=o.type) h0 h1 vM si i1 i3 w6 w5 hg (by omega) hfit;have hge:=grownCap_ge w (xs.length+ys.length) e9 u;generalize grownCap w (xs.length+ys.length) e9 u=cap' at hr hge;generalize mj:(cX.toArray++aT.toArray++Builtin.zeroCells (dL (C.ty u) (zc (C.ty u))).cells (cap'-(xs.length+ys.length)))=cs at hr;have Ek:cs.toList.take ((xs.length+ys.length) * e.width)=cX++aT:=by rw[<-mj];simp only[Array.toList_append,eI];rw[<-eI,pn (by rw[jN];exact cq _),jT (by rw[jN];exact cq _)]
  have Em:(xs.length+ys.length) * e.width<=cs.size:=by
   rw[<-mj];have h9:cX.length+aT.length=(xs.length+ys.length) * e.width:=by rw[<-cT];exact jN
   simp only[Array.size_append,List.size_toArray,h9];omega
  have hold:∀b,b<w.heap.size->(w.heap.push (.cells cs u))[b]? = w.heap[b]?:=fun b hb=>zU b hb;have r6:sV (w.heap.push (.cells cs u)) w.heap.size cs:=(jz.new (h:=w.heap) (cs:=cs) (e:=u)).CO;have hmono:∀{t:Ty}{z:t.den}{c:List Value},az w.heap g.Pr t .no z c Nil->az (w.heap.push (.cells cs u)) (Un g.Pr fun b=>F b\/b=w.heap.size) t .no z c Nil:=fun h=>
   az.mono (fun b' hb'=>.inl hb') (fun b' hb'=>hold b' (st.bQ b' hb')) _ h (Sub.refl _) (fun _ h=>h.elim)
  obtain⟨g',z1,z2,z3⟩:=fin (w.heap.push (.cells cs u)) (fun b=>F b\/b=w.heap.size) (fun b hb _=>hold b hb) (by simp) (fun _ h=>.inl h) (fun b h=>h.imp id (fun h=>by omega))
   (fun b h=>by
    rw[Array.size_push];rcases h with h | h
    .have:=st.cg r b bO (q3 b h);omega
    .omega)
   (az.mono (fun b hb=>hb.imp id .inl) (fun b hb=>hold b (hb.elim (st.bQ b) fun h=>st.cg r b bO (q3 b h))) _ Uc (Sub.refl _) (fun _ h=>h.elim)) (.slice (some ⟨w.heap.size,0,none⟩) (xs.length+ys.length) cap')
   ⟨[.slice (some ⟨w.heap.size,0,none⟩) (xs++ys).length cap'],Fy (cells:=cX++aT) (.inr (.inr rfl)) r6 (by rw[hlen];exact Em) (by rw[hlen];exact hge) (fun k hk=>U2 Ek (by
    rw[hlen]at hk;have:=fu e.width (show k+1<=xs.length+ys.length by exact hk);rw[mg]at this;exact this)) (fun k hk=>hmono (D4 k hk)),by rw[hlen];rfl⟩
  refine⟨_,w.drew.alloc (.cells cs u),by rw[hex,hr];rfl,g',z1,z2,z3,?_⟩;exact⟨rfl,rfl,rfl,by show w.heap.size<=(w.heap.push _).size;simp,fun b hb _=>zU b hb⟩
theorem ac5{o:Oper}{c:Call}{x y:Operand}{t t':TypeId}{e:Ty}(ho:o.op=.call c)(hc:c.callee=.builtin .append)(hargs:c.args = #[x,y])
  (h0:c.argTypes[0]? = some t) (h1:c.argTypes[1]? = some t') (hT:C.ty t=.sl e) (CT:C.ty t'=.sl e)
  (ht:bZ (qP S.rt e (ρ x) (ρ y))):fC P S g w tmps (qP S.rt e (ρ x) (ρ y)) ((execOp a.eval o).run P w):=by
 cases EE:ρ x with
 | b9 r p s=>
  cases zD:ρ y with
  | val ty ys=>
   cases ty with
   | sl t2=>
    rw[EE,zD]at ht;unfold qP at ht⊢;simp only at ht⊢;cases hR:S.rt.root r with
    | none=>rw[hR]at ht;exact absurd ht bZ.fail
    | some R=>
     rw[hR]at ht;simp only at ht⊢;cases hf:focus R.ty R.ms R.x p with
     | none=>rw[hf]at ht;exact absurd ht bZ.fail
     | some d=>
      obtain⟨dt,dm,dx⟩:=d;cases dt with
      | sl e'=>
       cases dm with
       | own s' m=>
        rw[hf]at ht;simp only at ht⊢;by_cases hs:s=s'/\e'=e/\t2=e/\m.still=true
        .simp only[aj hs]at ht⊢;obtain⟨rfl,rfl,rfl,hm⟩:=hs;rw[T6,T6]at ht⊢;cases hput:put R.ty R.ms R.x p (.sl t2) .no dx with
         | none=>rw[hput]at ht;exact absurd ht bZ.fail
         | some r'=>
          rw[hput]at ht;simp only at ht⊢;obtain⟨⟨v,rt'⟩,hd⟩:=ht true;simp only[Tr.dec]at hd;by_cases hbd:(dx:List t2.den).length+(ys:List t2.den).length<=ga
          .obtain⟨val,w',hrun,hpost⟩:=akT (m':=r'.1) (x':=r'.2) bn st hρ ho hc hargs h0 h1 hT CT EE zD hR hf hm hput hbd;exact fC.value hrun ⟨true,_,_,by simp only[Tr.dec,bw hbd];rfl,hpost⟩
          .rw[b7 hbd]at hd;simp at hd
        .rw[af hs]at ht;exact absurd ht bZ.fail
       | _=>rw[hf]at ht;exact absurd ht bZ.fail
      | _=>rw[hf]at ht;exact absurd ht bZ.fail
   | _=>rw[EE,zD]at ht;exact absurd ht bZ.fail
  | _=>rw[EE,zD]at ht;exact absurd ht bZ.fail
 | _=>rw[EE]at ht;exact absurd ht bZ.fail
end
end Go.V
namespace Go.V
noncomputable section
open Go
theorem Qv{t:Ty}{xs ys:List t.den}:(v9 t xs ys).length=xs.length:=by simp only[v9,cT,eR,yj];omega
theorem Qu{t:Ty}{xs ys:List t.den}(i:Nat)(hi:i<xs.length):(v9 t xs ys).getD i t.zero=if i<min ys.length xs.length then ys.getD i t.zero else xs.getD i t.zero:=by
 unfold v9;simp only[List.getD];by_cases h:i<ys.length
 .rw[aj (by omega),kz (by rw[eR];omega),gm,aj hi]
 .rw[af (by omega),mc (by rw[eR];omega),iE,eR];congr 2;omega
theorem adm{w k:Nat}{cs gC:Array Value}{news:List Value}(hl:news.length=k * w)(hfit:k * w<=cs.size)(e:gC.toList=bT cs.toList 0 news)(i:Nat) :
  sub gC (i * w) w=if i<k then (news.drop (i * w)).take w else sub cs (i * w) w:=by
 have hf:0+news.length<=cs.toList.length:=by rw[hl,iP];omega
 unfold sub;apply rI;intro j;rw[gm,iE,e,adg hf,hl];by_cases hj:j<w
 .rw[aj hj,af (by omega)];by_cases h1:i<k
  .have a2:=fu w (show i+1<=k by omega);rw[mg]at a2;rw[aj h1,aj (by omega),gm,aj hj,iE];congr 1
  .have:=fu w (show k<=i by omega);rw[af h1,af (by omega),gm,aj hj,iE]
 .rw[af hj];split
  .rw[gm,af hj]
  .rw[gm,af hj]
theorem aj1{w:World}{S:St}{g:aA}{tmps:Array Value}(st:aE w.heap S g tmps Nil){r:Nat}{p:Path}{R:aC}{t:Ty}{s:Nat}{xs ys:List t.den}{sY:fK}{ad:Option Addr}{n cap:Nat}
  (hR:S.root r=some R) (hf:focus R.ty R.ms R.x p=some ⟨.sl t,.own s .no,xs⟩) (hin:bu R.ty R.x p) (ej:cr w.heap R.ty (g.C r) (g.base r) p=some (sY,[.slice ad n cap])) (hs:s<1048576)
  {k:Nat} (hk:k=min ys.length xs.length) (h1:0<k) {news:List Value} (C2:news.length=k * t.width)
  (hy:∀i,i<k->az w.heap g.Pr t .no (ys.getD i t.zero) ((news.drop (i * t.width)).take t.width) Nil)
  {m':Mk} {x':R.ty.den} (hput:put R.ty R.ms R.x p (.sl t) (.own s .no) (v9 t xs ys)=some (m',x')) :
  n=xs.length/\∃b,ad=some ⟨b,0,none⟩/\g.L b/\w.there b 0 (k * t.width)/\∃g',aE (w.setCells b 0 news).heap (S.aI r (some { R with ms:=m',x:=x' })) g' tmps Nil/\g'.cR g:=by
 have hm:Mk.still .no=true:=rfl;obtain⟨base,c,F,q1,q2,q3,q4,q5,q6⟩:=st.update hR hf hin;rw[ej]at q1;simp only[aK,aY]at q1;obtain⟨rfl,rfl⟩:=q1;have q2':=q2;simp only[az]at q2;obtain⟨ad',cap',e0,hl,hr⟩:=q2;simp only[eZ,Value.slice.injEq,iQ]at e0;obtain⟨rfl,rfl,rfl⟩:=e0;refine⟨rfl,?_⟩;rcases hr with hr | ⟨b,cs,rfl,fb,hb,hsz,Fs,pX,hd,re⟩
 .omega
 have bO:(S.root r).isSome:=by rw[hR];rfl
 have Jg:=q3 b fb;have KQ:k * t.width<=cs.size:=nL (fu _ (by omega)) hsz;have hfit:0+news.length<=cs.size:=by omega
 have cY:∀b',b'≠b->(w.setCells b 0 news).heap[b']? = w.heap[b']?:=fun b' hb'=>J1 _ _ w b' hb';obtain⟨gC,ug,Ks⟩:=PJ (w:=w) (base:=some (b,0)) (c2:=news) rfl hb hfit b 0 rfl cs hb;have se:gC.size=cs.size:=by rw[<-iP,Ks,Dx (by rw[iP];exact hfit),iP]
 have hsub:=adm (w:=t.width) C2 KQ Ks;have Ux:¬ g.Pr b:=fun hb'=>st.er r bO b Jg hb';have oE:(Mk.own s .no).ax=true:=by simp only[Mk.ax,bI];exact⟨rD hs,trivial⟩
 have hlen:(v9 t xs ys).length=xs.length:=Qv;have jR:az (w.setCells b 0 news).heap g.Pr (.sl t) (.own s .no) (v9 t xs ys) [.slice (some ⟨b,0,none⟩) xs.length cap] F:=by
  simp only[az];refine⟨_,cap,by rw[hlen],by rw[hlen];exact hl,.inr ⟨b,gC,rfl,fb,ug,by rw[se];exact hsz,Fs,pX,hd,fun i hi'=>?_⟩⟩;rw[hlen]at hi';rw[Qu i hi',hsub,<-hk];by_cases hz:i<k
  .rw[aj hz,aj hz];exact az.mono (Sub.refl _) (fun b' hb'=>cY b' (fun e=>Ux (e ▸ hb'))) _ (hy i hz) (Sub.nil _) (fun b' hb'=>hb'.elim)
  .rw[af hz,af hz];exact az.mono (Sub.refl _) (fun b' hb'=>cY b' (fun e=>Ux (e ▸ hb'))) _ (re i hi') (Sub.refl _) (fun b' hb'=>cY b' (fun e=>(pX i).2 (e ▸ hb')))
 obtain⟨g2,s1,s2,s3,s4,s5,s6⟩:=q6 0 0 (w.setCells b 0 news).heap (.own s .no) (v9 t xs ys) [.slice (some ⟨b,0,none⟩) xs.length cap] F m' x'
  (fun u=>J5 _) (fun b' _ hb' _=>cY b' (fun e=>hb' (e ▸ fb))) (by rw[vR];exact cq _)
  (by
   intro b' o e cs' w9;obtain⟨Am,cs3,Ew,wU,xl⟩:=q4 b' o e;have hne:b'≠b:=fun e=>Am (e ▸ fb);refine⟨cs',w9.congr (cY b' hne),?_⟩;have:=w9.uniq Ew;subst this;have hr:=Hq (c:=cs'.toList) (n:=o) (k:=1) (by rw[iP];exact wU);have zC:(cs'.toList.drop o).take 1=[Value.slice (some ⟨b,0,none⟩) xs.length cap]:=xl;rw[zC]at hr;exact hr.symm)
  jR (fun b' hb'=>.inl hb') (fun b' hb'=>by rw[vR];exact st.cg r b' bO (q3 b' hb')) hput (Mk.fO 0 0 _)
  (aM.ax _ oE) (fun _=>oE)
  (by
   intro p' t1 n1 _ gX hi';cases p' with
   | nil=>refine⟨trivial,fun bp cp ha=>⟨cp,?_,fun _ _ _ _=>rfl⟩⟩;simp only[cr]at ha⊢;exact ha
   | cons x p'=>
    cases x with
    | fst=>simp[q8]at gX
    | snd=>simp[q8]at gX
    | idx i s'=>
     simp only[q8]at gX;split at gX
     .obtain⟨UJ,zx⟩:=GQ p' hm gX;simp only[bu]at hi';refine⟨?_,fun bp cp ha=>?_⟩
      .simp only[bu];exact⟨by rw[hlen];exact hi'.1,zQ p' _ UJ gX⟩
      .obtain⟨e1,l1,u1,he1,_⟩:=hb;obtain⟨e2,l2,u2,UB,_⟩:=ug;simp only[cr,he1]at ha;obtain⟨iR,h3⟩:=IT (h':=(w.setCells b 0 news).heap) p' _ (sub gC (i * t.width) t.width) _ UJ ha;refine⟨iR,by simp only[cr,UB];exact h3,fun s4 a4 e4 _=>?_⟩;rw[e4]at zx;simp[Mk.still]at zx
     .simp at gX)
 exact⟨b,rfl,st.own r b bO Jg,AT hb (by omega),g2,s1.bB (Sub.nil _),s3⟩
section
variable {P:Program} {C:Ctx} {D:Den C} {S:St} {g:aA} {w:World} {tmps:Array Value} {a:Act} {ρ:Operand->AV}
variable {A:bY} {site:Nat} {hint:Bool} (bn:iC P C) (st:aE w.heap S g tmps Nil) (hρ:∀x,qe w.heap S g (ρ x) (a.eval x))
include bn st hρ
theorem acP{o:Oper}{c:Call}{x y:Operand}{t:TypeId}{e:Ty}(ho:o.op=.call c)(hc:c.callee=.builtin .copy)(hargs:c.args = #[x,y])
  (h0:c.argTypes[0]? = some t) (hT:C.ty t=.sl e) (ht:bZ (yb S.rt e (ρ x) (ρ y))):fC P S g w tmps (yb S.rt e (ρ x) (ρ y)) ((execOp a.eval o).run P w):=by
 have hx:=hρ x;have XU:=hρ y;unfold yb at ht⊢;cases hv:ρ x with
 | b9 r p s=>
  cases zD:ρ y with
  | val ty nF=>
   rw[hv,zD]at ht;rw[hv]at hx;rw[zD]at XU;cases ty with
   | sl t2=>
    simp only at ht⊢;cases hR:S.rt.root r with
    | none=>rw[hR]at ht;exact absurd ht bZ.fail
    | some R=>
     rw[hR]at ht;simp only at ht⊢;cases hf:focus R.ty R.ms R.x p with
     | none=>rw[hf]at ht;exact absurd ht bZ.fail
     | some d=>
      obtain⟨dt,dm,dx⟩:=d;cases dt with
      | sl e'=>
       cases dm with
       | own s' m=>
        cases m with
        | no=>
         rw[hf]at ht;simp only at ht⊢;by_cases hs:s=s'/\e'=e/\t2=e/\s'<1048576
         .simp only[aj hs]at ht⊢;obtain⟨rfl,rfl,rfl,hs6⟩:=hs;cases En:qbv (.sl t2) (.sl t2) nF with
          | none=>rw[En]at ht;exact absurd ht bZ.fail
          | some ys=>
           rw[En]at ht;simp only at ht⊢;obtain⟨ee,hys⟩:=Dv En;simp only at hys;subst hys;cases hput:put R.ty R.ms R.x p (.sl t2) (.own s .no) (v9 t2 dx nF) with
           | none=>rw[hput]at ht;exact absurd ht bZ.fail
           | some r'=>
            simp only;obtain⟨u,vM,C9,Lx⟩:=bn.desc hT;have ku:=bn u Lx;obtain⟨i,i1,i2,i3,i4⟩:=ku.info;rw[C9]at i2;simp only[qe]at hx XU;obtain⟨hin,sY,ej⟩:=hx R hR t2 .no dx hf;obtain⟨c2,I3,Ku⟩:=XU;obtain⟨sX,lO,aT,pP,rfl,iJ,KX,ng,zo,nX,_⟩:=Kf (by simp) (by simp) I3;have z9:a.eval y=.slice sX (List.length nF) lO:=Ku;obtain⟨base,c0,F,q1,o8,_⟩:=st.update hR hf hin;rw[ej]at q1;simp only[aK,aY]at q1;obtain⟨rfl,rfl⟩:=q1;obtain⟨ow,e9,cX,Fs1,DZ,_⟩:=Kf (by simp) (by simp) o8;simp only[eZ,iQ]at DZ;have Ur:=DZ;rw[DZ]at ej;have hex:∀k news w',k=min (List.length nF) (List.length dx)->(Builtin.firstCells i.size k (.slice sX (List.length nF) lO)).run P w=.ok (List.toArray news) w->
              (∀ad,ow=some ad->(storeCells ad news).run P w=.ok () w')->(ow=none->w'=w)->
              (execOp a.eval o).run P w=.ok (.value (goInt k)) w':=by
             intro k news w' hk hn hst hno;have hk':Nat.min (List.length nF) (List.length dx)=k:=hk.symm;cases ow with
             | none=>obtain rfl:=hno rfl;simp[execOp,ho,resolve,hc,invoke,builtin,hargs,Ur,z9,Sem.run_bind,Builtin.copy_,h0,run_underlying vM,Builtin.lenOf,sizeOf,typeInfo,i1,hk',hn]
             | some ad=>have:=hst ad rfl;simp[execOp,ho,resolve,hc,invoke,builtin,hargs,Ur,z9,Sem.run_bind,Builtin.copy_,h0,run_underlying vM,Builtin.lenOf,sizeOf,typeInfo,i1,hk',hn,this]
            by_cases hpos:0<List.length nF/\0<List.length dx
            .have tr:∃b o,sX=some ⟨b,o,none⟩/\w.rangeAt b o (aT.take (min (List.length nF) (List.length dx) * t2.width)):=by
              rcases ng with⟨h0,_⟩ | ⟨b,o,cs,h1,h2,h3,h4⟩
              .omega
              .refine⟨b,o,h1,?_⟩;have mV:min (List.length nF) (List.length dx) * t2.width<=List.length nF * t2.width:=fu _ (by omega);have:=Dw (n:=min (List.length nF) (List.length dx) * t2.width) (o:=o) h2 (by omega);have e3:aT.take (min (List.length nF) (List.length dx) * t2.width)=sub cs o (min (List.length nF) (List.length dx) * t2.width):=by rw[h4];simp only[sub,uK];congr 1;omega
               rw[e3];exact this
             have C2:(aT.take (min (List.length nF) (List.length dx) * t2.width)).length=min (List.length nF) (List.length dx) * t2.width:=by rw[eR,iJ];have mV:min (List.length nF) (List.length dx) * t2.width<=List.length nF * t2.width:=fu _ (by omega);omega
             generalize hk:min (List.length nF) (List.length dx)=k at tr C2;generalize hnews:aT.take (k * t2.width)=news at tr C2;have uj:∀j,j<k->az w.heap g.Pr t2 .no (List.getD nF j t2.zero) ((news.drop (j * t2.width)).take t2.width) Nil:=by
              intro j hj;have:=zo.rep j (by omega);have e4:(news.drop (j * t2.width)).take t2.width=(aT.drop (j * t2.width)).take t2.width:=by rw[<-hnews,yo,uK];congr 1;have:=fu t2.width (show j+1<=k by omega);rw[mg]at this;omega
              rw[e4];exact az.room _ this (fun b hb=>(nX j b hb).elim)
             obtain⟨_,b,hb,hgL,xo,g',st',hsame⟩:=aj1 (m':=r'.1) (x':=r'.2) (ys:=nF) st hR hf hin ej hs6 hk.symm (by omega) C2 uj hput;have h1c:∀v∈news,v.oneCell'=true:=by
              obtain⟨b2,o2,_,zB⟩:=tr;intro v hv;obtain⟨j,hj,rfl⟩:=nJ.1 hv;have hj2:j<k * t2.width:=by omega
              have hw:0<t2.width:=by
               rcases Nat.eq_zero_or_pos t2.width with h | h
               .rw[h]at hj2;omega
               .exact h
              have WY:=Ge j t2.width;have oB:j / t2.width<k:=(Nat.div_lt_iff_lt_mul hw).2 hj2;have hmod:=Nat.mod_lt j hw;refine az.one _ (uj (j / t2.width) oB) _ ?_;apply mT.2;refine⟨j % t2.width,?_⟩;rw[gm,aj hmod,iE,show j / t2.width * t2.width+j % t2.width=j by rw[uL];exact WY,gz hj]
             have Lw:=run_storeCells_cells (P:=P) b 0 news 0 w (fun j hj=>by have:=(xo j (by omega)).1;simpa using this) (fun j hj=>by have:=(xo j (by omega)).2;simpa using this) h1c;simp only[qS]at Lw;have Eo:(Builtin.firstCells i.size k (.slice sX (List.length nF) lO)).run P w=.ok (List.toArray news) w:=
              DE (by rw[i2];exact C2) (.inr (by obtain⟨b2,o2,e2,zB⟩:=tr;exact⟨b2,o2,e2,zB⟩))
             have hrun:=hex k news (w.setCells b 0 news) hk.symm Eo (fun ad ha=>by rw[hb]at ha;injection ha with ha;rw[<-ha];exact Lw) (fun ha=>by rw[hb]at ha;exact absurd ha (by simp));have fS:=TP (b:=b) news 0 w;refine fC.value (val:=goInt k) (w':=w.setCells b 0 news) hrun ⟨true,.val (.int .i64) ((k:Nat):Int),_,by simp only[Tr.dec,bw hpos.1,bw hpos.2,Gl],g',st',vf _ _,hsame,⟨fS.1,fS.2.1,fS.2.2,by rw[vR];exact cq _,fun b' _ hb'=>J1 _ _ w b' (fun e=>hb' (e ▸ hgL))⟩⟩
            .have hk0:0=min (List.length nF) (List.length dx):=by omega
             have hrun:=hex 0 [] w hk0 (DE (by simp) (.inl ⟨rfl,rfl⟩)) (fun ad _=>rfl) (fun _=>rfl);refine fC.value (val:=goInt 0) (w':=w) hrun ⟨true,.val (.int .i64) ((0:Nat):Int),_,?_,Post.same st (vf _ _)⟩;have:(decide (0<List.length nF)&&decide (0<List.length dx))=false:=by rw[<-Bool.not_eq_true,bI,decide_eq_true_iff,decide_eq_true_iff];exact hpos
             simp only[Tr.dec,this]
         .rw[af hs]at ht;exact absurd ht bZ.fail
        | _=>rw[hf]at ht;exact absurd ht bZ.fail
       | _=>rw[hf]at ht;exact absurd ht bZ.fail
      | _=>rw[hf]at ht;exact absurd ht bZ.fail
   | _=>exact absurd ht bZ.fail
  | _=>rw[hv,zD]at ht;exact absurd ht bZ.fail
 | _=>rw[hv]at ht;exact absurd ht bZ.fail
end
end
section
variable {P:Program} {C:Ctx} {D:Den C} {S:St} {g:aA} {w:World} {tmps:Array Value} {a:Act} {ρ:Operand->AV}
variable {A:bY} {site:Nat} {hint:Bool} (bn:iC P C) (st:aE w.heap S g tmps Nil) (hρ:∀x,qe w.heap S g (ρ x) (a.eval x))
theorem Bp{α β:Type}{f:α->β}{l:List α}{x y:β}(h:l.map f=[x,y]):∃u v,l=[u,v]/\f u=x/\f v=y:=by
 match l,h with
 | [u,v],h=>simp only[cv,f6,eZ,iQ]at h;exact⟨u,v,rfl,h.1,h.2⟩
theorem aj0{α β:Type}{f:α->β}{l:List α}{x y:β}{r:List β}(h:l.map f=x::y::r):l[0]?.map f=some x/\l[1]?.map f=some y:=by
 match l,h with
 | u::v::l,h=>simp only[cv,eZ]at h;simp[h.1,h.2.1]
include bn st hρ
theorem Rr{o:Oper}{c:Call}{b:Builtin}(ho:o.op=.call c)(hc:c.callee=.builtin b)(hb:b=.min\/b=.max):Goal P C D S g w tmps a ρ A site hint o:=by
 intro ht;rcases hb with rfl | rfl
 .simp only[aV,ho,hc]at ht⊢;split at ht<;>try (first | contradiction | exact absurd ht bZ.fail)
  rename_i hargs;obtain⟨u,v,hl,hu,hv⟩:=Bp hargs;have e1:c.args = #[u,v]:=by rw[<-pE (xs:=c.args),hl]
  split at ht
  .rename_i ka x kb y;by_cases hk:ka=kb
   .subst hk;simp only[aX]at ht⊢;have hx:=hρ u;have hy:=hρ v;rw[hu]at hx;rw[hv]at hy;refine fC.ret (val:=.int ka (if y<x then y else x)) ?_ st (vf _ _);simp[execOp,ho,resolve,hc,invoke,builtin,Builtin.min_,Builtin.min2,e1,CA hx,CA hy,Sem.run_bind]
   .rw[af hk]at ht;exact absurd ht bZ.fail
  .exact absurd ht bZ.fail
 .simp only[aV,ho,hc]at ht⊢;split at ht<;>try (first | contradiction | exact absurd ht bZ.fail)
  rename_i hargs;obtain⟨u,v,hl,hu,hv⟩:=Bp hargs;have e1:c.args = #[u,v]:=by rw[<-pE (xs:=c.args),hl]
  split at ht
  .rename_i ka x kb y;by_cases hk:ka=kb
   .subst hk;simp only[aX]at ht⊢;have hx:=hρ u;have hy:=hρ v;rw[hu]at hx;rw[hv]at hy;refine fC.ret (val:=.int ka (if y>x then y else x)) ?_ st (vf _ _);simp[execOp,ho,resolve,hc,invoke,builtin,Builtin.max_,Builtin.max2,e1,CA hx,CA hy,Sem.run_bind]
   .rw[af hk]at ht;exact absurd ht bZ.fail
  .exact absurd ht bZ.fail
theorem aba{o:Oper}{c:Call}{b:Builtin}(ho:o.op=.call c)(hc:c.callee=.builtin b)(ok:nM A S o.dst site):Goal P C D S g w tmps a ρ A site hint o:=by
 cases b with
 | len=>exact alu bn st hρ ho hc
 | min=>exact Rr bn st hρ ho hc (.inl rfl)
 | max=>exact Rr bn st hρ ho hc (.inr rfl)
 | append=>
  intro ht;simp only[aV,ho,hc]at ht⊢;split at ht<;>try (first | contradiction | exact absurd ht bZ.fail)
  rename_i x0 y0 e e' _ _ hargs j8;obtain⟨u,v,hl,hu,hv⟩:=Bp hargs;obtain⟨q1,q2⟩:=aj0 j8;simp only[fq,ye]at q1 q2;obtain⟨t,C8,hT⟩:=q1;obtain⟨t',Jk,CT⟩:=q2;have e1:c.args = #[u,v]:=by rw[<-pE (xs:=c.args),hl]
  by_cases hee:e=e'
  .subst hee;simp only[aX]at ht⊢;subst hu;subst hv;cases hint with
   | false=>simp only[fh,dZ]at ht⊢;exact abA bn st hρ ho hc e1 C8 Jk hT CT ok ht
   | true=>simp only[aX]at ht⊢;exact ac5 bn st hρ ho hc e1 C8 Jk hT CT ht
  .rw[af hee]at ht;exact absurd ht bZ.fail
 | clear=>intro ht;simp only[aV,ho,hc]at ht⊢;split at ht<;>try (first | contradiction | exact absurd ht bZ.fail)
 | copy=>
  intro ht;simp only[aV,ho,hc]at ht⊢;split at ht<;>try (first | contradiction | exact absurd ht bZ.fail)
  rename_i x0 y0 e _ _ hargs j8;obtain⟨u,v,hl,hu,hv⟩:=Bp hargs;obtain⟨t,C8,hT⟩:∃t,c.argTypes[0]? = some t/\C.ty t=.sl e:=by
   match hq:c.argTypes.toList,j8 with
   | t::l,h=>simp only[hq,cv,eZ]at h;exact⟨t,by rw[<-ye,hq];rfl,h.1⟩
  have e1:c.args = #[u,v]:=by rw[<-pE (xs:=c.args),hl]
  subst hu;subst hv;exact acP bn st hρ ho hc e1 C8 hT ht
 | _=>intro ht;simp only[aV,ho,hc]at ht⊢;exact absurd ht bZ.fail
theorem alH{o:Oper}(ok:nM A S o.dst site)(s9:∀c f,o.op=.call c->c.callee=.value f->Goal P C D S g w tmps a ρ A site hint o):Goal P C D S g w tmps a ρ A site hint o:=by
 cases ho:o.op with
 | move x=>exact akQ st hρ ho
 | assign x=>exact abC bn st hρ ho ok
 | pick c x y=>exact akX st hρ ho
 | alloc t=>exact acw bn st hρ ho ok
 | box t x=>exact alf bn st hρ ho ok
 | build t ps=>exact acf bn st hρ ho ok
 | buildSlice t n ps=>exact aiw bn st hρ ho ok
 | load t x=>exact akN bn st hρ ho
 | store t x y=>exact adl bn st hρ ho ok
 | nilCheck x=>exact alx st hρ ho
 | binOp op t x y t2=>exact ace bn st hρ ho
 | unOp op t x=>exact akw st hρ ho
 | convert s d x=>exact aaW bn st hρ ho
 | makeFunc f x y=>exact aaM bn st hρ ho
 | makeSlice t x y=>exact ajZ bn st hρ ho ok
 | slice t x lo hi mx=>
  cases mx with
  | none=>exact adj bn st hρ ho ok
  | some v=>intro ht;simp only[aV,ho]at ht;exact absurd ht bZ.fail
 | fieldAddr t x f=>exact ajL bn st hρ ho
 | field t x f=>exact acT bn st hρ ho
 | indexAddr t x i=>exact ajW bn st hρ ho
 | index t x i=>exact acX bn st hρ ho
 | extract x i=>exact abe bn st hρ ho
 | call c=>
  cases hc:c.callee with
  | builtin b=>exact aba bn st hρ ho hc ok
  | value f=>exact s9 c f ho hc
  | invoke r m=>intro ht;simp only[aV,ho,hc]at ht;exact absurd ht bZ.fail
 | _=>intro ht;simp only[aV,ho]at ht;exact absurd ht bZ.fail
end
end Go.V
namespace Go.V
noncomputable section
open Go
def PG(Pr:BS):aA:=⟨Pr,fun _=>[],fun _=>none,fun _=>Nil,fun _=>undef,Nil,Nil⟩
def v8(h:Array Obj)(Pr:BS)(t:Ty)(m:Mk)(x:t.den)(v:Value)(F:BS):Prop:=
 ∃b c F0,v=.pointer (some ⟨b,0,none⟩)/\az h Pr t m x c F0/\jz h b c.toArray/\F b/\Sub F0 F/\¬ F0 b
def pM(h:Array Obj)(Pr:BS)(t:Ty)(m:Mk)(x:t.den)(v:Value)(F:BS):Prop:=
 ∃c,az h Pr t m x c F/\v=dL t c
def Wm(h:Array Obj)(Pr:BS):(k:PK)->k.den->Value->BS->Prop
 | .val t,x,v,_=>pM h Pr t .no x v Nil
 | .own t m,x,v,F=>pM h Pr t m x v F
 | .cO t m _,x,v,F=>pM h Pr t m x v F
 | .cC t m _,x,v,F=>v8 h Pr t m x v F
 | .cm t,x,v,_=>yK h (PG Pr) t x v
 | .fn,c,v,_=>∃vs,v=.func (.func c.f) #[] vs.toArray/\nT h (PG Pr) c.caps vs
def yU(h:Array Obj)(Pr:BS)(Fs:Nat->BS):Nat->(ks:List PK)->gf ks->List Value->Prop
 | _,[],_,vs=>vs=[]
 | i,k::ks,a,vs=>∃v vs',vs=v::vs'/\Wm h Pr k a.1 v (Fs i)/\yU h Pr Fs (i+1) ks a.2 vs'
def n_(h:Array Obj)(Pr:BS)(Fs:Nat->BS):Nat->(ks:List PK)->ju ks->List Value->Prop
 | _,[],_,vs=>vs=[]
 | i,.own t m::ks,a,vs=>∃v vs',vs=v::vs'/\pM h Pr t m a.1 v (Fs i)/\n_ h Pr Fs (i+1) ks a.2 vs'
 | i,.val _::ks,a,vs=>∃v vs',vs=v::vs'/\n_ h Pr Fs (i+1) ks a vs'
 | i,.cC _ _ _::ks,a,vs=>∃v vs',vs=v::vs'/\n_ h Pr Fs (i+1) ks a vs'
 | i,.cO _ _ _::ks,a,vs=>∃v vs',vs=v::vs'/\n_ h Pr Fs (i+1) ks a vs'
 | i,.cm _::ks,a,vs=>∃v vs',vs=v::vs'/\n_ h Pr Fs (i+1) ks a vs'
 | i,.fn::ks,a,vs=>∃v vs',vs=v::vs'/\n_ h Pr Fs (i+1) ks a vs'
def nw(h:Array Obj)(Pr:BS)(Fs:Nat->BS):Nat->(ks:List PK)->dI ks->List Value->Prop
 | _,[],_,vs=>vs=[]
 | i,.cC t _ m::ks,o,vs=>∃v vs',vs=v::vs'/\v8 h Pr t m o.1 v (Fs i)/\nw h Pr Fs (i+1) ks o.2 vs'
 | i,.cO t _ m::ks,o,vs=>∃v vs',vs=v::vs'/\pM h Pr t m o.1 v (Fs i)/\nw h Pr Fs (i+1) ks o.2 vs'
 | i,.val _::ks,o,vs=>∃v vs',vs=v::vs'/\nw h Pr Fs (i+1) ks o vs'
 | i,.own _ _::ks,o,vs=>∃v vs',vs=v::vs'/\nw h Pr Fs (i+1) ks o vs'
 | i,.cm _::ks,o,vs=>∃v vs',vs=v::vs'/\nw h Pr Fs (i+1) ks o vs'
 | i,.fn::ks,o,vs=>∃v vs',vs=v::vs'/\nw h Pr Fs (i+1) ks o vs'
def rX(h:Array Obj)(Pr:BS):(k:RK)->k.den->Value->BS->Prop
 | .val t m,x,v,F=>pM h Pr t m x v F
 | .ptr t m,x,v,F=>v8 h Pr t m x v F
def lu(h:Array Obj)(Pr:BS)(Fs:Nat->BS):Nat->(ks:List RK)->f9 ks->List Value->Prop
 | _,[],_,vs=>vs=[]
 | i,k::ks,a,vs=>∃v vs',vs=v::vs'/\rX h Pr k a.1 v (Fs i)/\lu h Pr Fs (i+1) ks a.2 vs'
def tJ:List Value->Value
 | [v]=>v
 | vs=>.tuple vs.toArray
structure Pre (h:Array Obj) (Pr:BS) (Fs:Nat->BS) (ks:List PK) (a:gf ks) (vs:List Value):Prop where
 rel:yU h Pr Fs 0 ks a vs
 d5:∀i j,i≠j->cB (Fs i) (Fs j)
 er:∀i,cB (Fs i) Pr
 lim:∀i b,Fs i b->b<h.size
 bQ:∀b,Pr b->b<h.size
def tS(n:Nat)(Fs:Nat->BS):BS:=fun b=>n<=b\/∃i,Fs i b
structure Uo (w w':World) (Pr:BS) (Fs:Nat->BS) (ks:List PK) (rs:List RK) (r:f9 rs) (o:dI ks) (vs:List Value) (val:Value) (fP:BS) (Gs Os:Nat->BS) (us:List Value):Prop where
 res:lu w'.heap fP Gs 0 rs r us
 val:val=tJ us
 out:nw w'.heap fP Os 0 ks o vs
 pr:Sub Pr fP
 kZ:∀b,fP b->Pr b\/tS w.heap.size Fs b
 gL:∀i b,Gs i b->tS w.heap.size Fs b
 oL:∀i b,Os i b->tS w.heap.size Fs b
 z_:∀i j,i≠j->cB (Gs i) (Gs j)
 X1:∀i j,i≠j->cB (Os i) (Os j)
 go:∀i j,cB (Gs i) (Os j)
 gp:∀i,cB (Gs i) fP
 op:∀i,cB (Os i) fP
 wJ:∀i b,Gs i b->b<w'.heap.size
 Ay:∀i b,Os i b->b<w'.heap.size
 AD:∀b,fP b->b<w'.heap.size
 fr:kK (tS w.heap.size Fs) w w'
def DQ(P:Program)(C:Ctx)(D:Den C)(f:FuncId):Prop:=
 ∀a r,D f a=some r->∀(w:World)(Pr:BS)(Fs:Nat->BS)(vs:List Value),Pre w.heap Pr Fs (C.sig f).params a vs->
  Calls P f vs.toArray w fun e w'=>∃val fP Gs Os us,e=.returned val/\Uo w w' Pr Fs (C.sig f).params (C.sig f).res r.1 r.2 vs val fP Gs Os us
def Jv (P:Program) (f:FuncId):Prop:=∃fn,P.funcs[f]? = some fn/\fn.name≠ "runtime.NumGoroutine" /\ fn.body.isSome
structure ot (P:Program) (C:Ctx) (D:Den C):Prop where
 ok:∀f,DQ P C D f
 call:∀f a r,D f a=some r->Jv P f
theorem az.lR{h:Array Obj}{Pr gh:BS}:∀(t:Ty){m:Mk}{x:t.den}{c:List Value}{F:BS},m.full t=true->az h Pr t m x c F->az h gh t m x c F
 | .unit,_,_,_,_,_,r=>by simpa only [az] using r
 | .int k,_,_,_,_,_,r=>by simpa only [az] using r
 | .bool,_,_,_,_,_,r=>by simpa only [az] using r
 | .str,_,_,_,_,_,r=>by simpa only [az] using r
 | .pair a b,m,_,_,_,hm,r=>by
  simp only[Mk.full,bI]at hm;simp only[az]at r⊢;obtain⟨ca,cb,Fa,Fb,e,ra,rb,k⟩:=r;exact⟨ca,cb,Fa,Fb,e,az.lR a hm.1 ra,az.lR b hm.2 rb,k⟩
 | .sl t,m,_,_,_,hm,r=>by
  cases m with
  | own s mi=>simp only[Mk.full]at hm;simp only[az]at r⊢;obtain⟨a,cap,e,hl,r⟩:=r;refine⟨a,cap,e,hl,r.imp id ?_⟩;rintro⟨b,cs,e,fb,hb,hs,Fs,hF,hd,re⟩;exact⟨b,cs,e,fb,hb,hs,Fs,hF,hd,fun i hi=>az.lR t hm (re i hi)⟩
  | _=>simp[Mk.full]at hm
theorem pM.mono{h:Array Obj}{Pr gh:BS}{t:Ty}{m:Mk}{x:t.den}{v:Value}{F:BS}(hp:Sub Pr gh)(r:pM h Pr t m x v F):pM h gh t m x v F:=by obtain⟨c,r,e⟩:=r;exact⟨c,az.mono hp (fun _ _=>rfl) t r (Sub.refl _) (fun _ _=>rfl),e⟩
theorem n_.mono{h:Array Obj}{Pr gh:BS}{Fs pP:Nat->BS}(hp:Sub Pr gh):∀(ks:List PK)(i:Nat){a:ju ks}{vs:List Value},(∀j,i<=j->pP j=Fs j)->
  n_ h Pr Fs i ks a vs->n_ h gh pP i ks a vs
 | [],_,_,_,_,r=>r
 | .own t m::ks,i,_,_,hj,r=>by
  obtain⟨v,vs',e,r1,r2⟩:=r;exact⟨v,vs',e,by rw[hj i (cq _)];exact r1.mono hp,n_.mono hp ks (i+1) (fun j h=>hj j (by omega)) r2⟩
 | .val _::ks,i,_,_,hj,r=>by obtain⟨v,vs',e,r2⟩:=r;exact⟨v,vs',e,n_.mono hp ks (i+1) (fun j h=>hj j (by omega)) r2⟩
 | .cC _ _ _::ks,i,_,_,hj,r=>by obtain⟨v,vs',e,r2⟩:=r;exact⟨v,vs',e,n_.mono hp ks (i+1) (fun j h=>hj j (by omega)) r2⟩
 | .cO _ _ _::ks,i,_,_,hj,r=>by obtain⟨v,vs',e,r2⟩:=r;exact⟨v,vs',e,n_.mono hp ks (i+1) (fun j h=>hj j (by omega)) r2⟩
 | .cm _::ks,i,_,_,hj,r=>by obtain⟨v,vs',e,r2⟩:=r;exact⟨v,vs',e,n_.mono hp ks (i+1) (fun j h=>hj j (by omega)) r2⟩
 | .fn::ks,i,_,_,hj,r=>by obtain⟨v,vs',e,r2⟩:=r;exact⟨v,vs',e,n_.mono hp ks (i+1) (fun j h=>hj j (by omega)) r2⟩
def l9(h:Array Obj)(S:St)(g:aA):List AV->List Value->Prop
 | [],vs=>vs=[]
 | a::aJ,vs=>∃v vs',vs=v::vs'/\qe h S g a v/\l9 h S g aJ vs'
theorem l9.kp{h:Array Obj}{S S':St}{g g':aA}(k:Kp h S g S' g'):∀{aJ:List AV}{vs:List Value},l9 h S g aJ vs->l9 h S' g' aJ vs
 | [],_,r=>r
 | a::aJ,_,r=>by obtain⟨v,vs',e,r1,r2⟩:=r;exact⟨v,vs',e,k _ _ r1,l9.kp k r2⟩
theorem Cn{h:Array Obj}{tmps:Array Value}{sl:List AV}:∀(ks:List PK)(aJ:List AV)(vs:List Value)(rt:aO)(g:aA)(H:BS)(i:Nat)(gd:ju ks)(d8:aO),
  l9 h ⟨sl,rt⟩ g aJ vs->aE h ⟨sl,rt⟩ g tmps H->f5 rt ks aJ=some (gd,d8)->
  ∃g1 H1 Fs,aE h ⟨sl,d8⟩ g1 tmps H1/\Kp h ⟨sl,rt⟩ g ⟨sl,d8⟩ g1/\g1.cR g/\Sub g.Pr g1.Pr/\n_ h g1.Pr Fs i ks gd vs/\(∀j,j<i->Fs j=Nil)/\
   (∀j,Sub (Fs j) H1)/\(∀j k,j≠k->cB (Fs j) (Fs k))/\(∀j,cB (Fs j) H)/\Sub H H1
 | [],aJ,vs,rt,g,H,i,gd,d8,ha,st,hb=>by
  cases aJ with
  | nil=>simp only[f5,aK,aY]at hb;obtain⟨_,rfl⟩:=hb;exact⟨g,H,fun _=>Nil,st,Kp.refl,.refl _,Sub.refl _,ha,fun _ _=>rfl,fun _=>Sub.nil _,fun _ _ _=>cB.nil _,fun _=>cB.nil _,Sub.refl _⟩
  | cons a aJ=>simp[f5]at hb
 | .own t m::ks,aJ,vs,rt,g,H,i,gd,d8,ha,st,hb=>by
  cases aJ with
  | nil=>simp[f5]at hb
  | cons a aJ=>
   obtain⟨v,vs',rfl,r1,r2⟩:=ha;simp only[f5,cM]at hb;obtain⟨⟨mx,x,fk⟩,sg,hb⟩:=hb;split at hb
   .rename_i hs;simp only[cM,aK,aY]at hb;obtain⟨⟨gd2,y_⟩,hb,e1,e2⟩:=hb;subst e2;obtain⟨c,g2,F,ev,cI⟩:=yW (S:=⟨sl,rt⟩) _ st sg r1;obtain⟨F1,F2,q1,q2,q3,q4⟩:=az.aP t hs cI.rep;have pe:=cI.st.cP F2 (fun b hb=>.inr (q2 b hb));have Au:Kp h ⟨sl,rt⟩ g ⟨sl,fk⟩ { g2 with Pr:=Un g2.Pr F2 }:=Kp.trans cI.kp (Jz cI.st F2);obtain⟨g1,H1,Fs,k1,k2,k3,k4,k5,k6,k7,k8,k9,js⟩:=Cn ks aJ vs' fk _ _ (i+1) gd2 y_ (r2.kp Au) pe hb;refine⟨g1,H1,fun j=>if j=i then F1 else Fs j,k1,Au.trans k2,cI.same.trans (aA.cR.trans ⟨rfl,rfl,rfl⟩ k3),cI.pr.trans (fun b hb=>k4 b (Or.inl hb)),?_,?_,?_,?_,?_,?_⟩
    .subst e1;refine⟨v,vs',rfl,?_,?_⟩
     .show pM h g1.Pr t m x v (if i=i then F1 else Fs i);rw[aj rfl];exact⟨c,az.mono k4 (fun _ _=>rfl) t q4 (Sub.refl _) (fun _ _=>rfl),ev⟩
     .exact n_.mono (Sub.refl _) ks (i+1) (fun j hj=>by show(if j=i then F1 else Fs j)=Fs j;rw[af (by omega)]) k5
    .intro j hj;show(if j=i then F1 else Fs j)=Nil;rw[af (by omega)];exact k6 j (by omega)
    .intro j b hb;split at hb
     .exact js b ⟨.inr (q1 b hb),fun h2=>q3 b hb h2⟩
     .exact k7 j b hb
    .intro j k oB b h1 h2;split at h1<;>split at h2
     .omega
     .exact k9 k b h2 ⟨.inr (q1 b h1),fun h3=>q3 b h1 h3⟩
     .exact k9 j b h1 ⟨.inr (q1 b h2),fun h3=>q3 b h2 h3⟩
     .exact k8 j k oB b h1 h2
    .intro j b h1 h2;split at h1
     .exact cI.d5 b (q1 b h1) h2
     .exact k9 j b h1 ⟨.inl h2,fun h3=>cI.d5 b (q2 b h3) h2⟩
    .intro b hb;exact js b ⟨.inl hb,fun h3=>cI.d5 b (q2 b h3) hb⟩
   .simp at hb
 | .val t::ks,aJ,vs,rt,g,H,i,gd,d8,ha,st,hb=>by
  cases aJ with
  | nil=>simp[f5]at hb
  | cons a aJ=>obtain⟨v,vs',rfl,r1,r2⟩:=ha;obtain⟨g1,H1,Fs,k1,k2,k3,k4,k5,k6,k⟩:=Cn ks aJ vs' rt g H (i+1) gd d8 r2 st hb;exact⟨g1,H1,Fs,k1,k2,k3,k4,⟨v,vs',rfl,k5⟩,fun j hj=>k6 j (by omega),k⟩
 | .cC _ _ _::ks,aJ,vs,rt,g,H,i,gd,d8,ha,st,hb=>by
  cases aJ with
  | nil=>simp[f5]at hb
  | cons a aJ=>obtain⟨v,vs',rfl,r1,r2⟩:=ha;obtain⟨g1,H1,Fs,k1,k2,k3,k4,k5,k6,k⟩:=Cn ks aJ vs' rt g H (i+1) gd d8 r2 st hb;exact⟨g1,H1,Fs,k1,k2,k3,k4,⟨v,vs',rfl,k5⟩,fun j hj=>k6 j (by omega),k⟩
 | .cO _ _ _::ks,aJ,vs,rt,g,H,i,gd,d8,ha,st,hb=>by
  cases aJ with
  | nil=>simp[f5]at hb
  | cons a aJ=>obtain⟨v,vs',rfl,r1,r2⟩:=ha;obtain⟨g1,H1,Fs,k1,k2,k3,k4,k5,k6,k⟩:=Cn ks aJ vs' rt g H (i+1) gd d8 r2 st hb;exact⟨g1,H1,Fs,k1,k2,k3,k4,⟨v,vs',rfl,k5⟩,fun j hj=>k6 j (by omega),k⟩
 | .cm _::ks,aJ,vs,rt,g,H,i,gd,d8,ha,st,hb=>by
  cases aJ with
  | nil=>simp[f5]at hb
  | cons a aJ=>obtain⟨v,vs',rfl,r1,r2⟩:=ha;obtain⟨g1,H1,Fs,k1,k2,k3,k4,k5,k6,k⟩:=Cn ks aJ vs' rt g H (i+1) gd d8 r2 st hb;exact⟨g1,H1,Fs,k1,k2,k3,k4,⟨v,vs',rfl,k5⟩,fun j hj=>k6 j (by omega),k⟩
 | .fn::ks,aJ,vs,rt,g,H,i,gd,d8,ha,st,hb=>by
  cases aJ with
  | nil=>simp[f5]at hb
  | cons a aJ=>obtain⟨v,vs',rfl,r1,r2⟩:=ha;obtain⟨g1,H1,Fs,k1,k2,k3,k4,k5,k6,k⟩:=Cn ks aJ vs' rt g H (i+1) gd d8 r2 st hb;exact⟨g1,H1,Fs,k1,k2,k3,k4,⟨v,vs',rfl,k5⟩,fun j hj=>k6 j (by omega),k⟩
end
end Go.V
namespace Go.V
noncomputable section
open Go
def Seen(sh:Bool)(S:St)(g:aA):BS:=if sh then g.Pr else zk S g
theorem Fl(sh:Bool)(S:St)(g:aA):Sub g.Pr (Seen sh S g):=by
 intro b hb;unfold Seen;split
 .exact hb
 .exact .inl hb
section
variable {h:Array Obj} {S:St} {g:aA} {tmps:Array Value} {H:BS} (st:aE h S g tmps H)
include st
theorem Fx:∀(t:Ty){a:AV}{x:t.den}{c:List Value},a.shared=true->rd S.rt t a=some x->dh h S g a c->az h g.Pr t .no x c Nil
 | t,a,x,c,hs,hr,y=>by
  cases a with
  | val t' x'=>
   have hc:qbv t' t x'=some x:=by cases t<;>simpa only [rd] using hr
   simp only[dh]at y;exact(az.cast hc y).2
  | unit=>
   cases t with
   | unit=>simp only[dh]at y;simp only[az];exact y
   | _=>simp[rd]at hr
  | pair u v=>
   cases t with
   | pair a b=>simp only[AV.shared,bI]at hs;simp only[rd,cM,aK]at hr;obtain⟨x1,h1,x2,h2,rfl⟩:=hr;simp only[dh]at y;obtain⟨ca,cb,rfl,y1,y2⟩:=y;simp only[az];exact⟨ca,cb,Nil,Nil,rfl,Fx a hs.1 h1 y1,Fx b hs.2 h2 y2,Sub.nil _,Sub.nil _,cB.nil _⟩
   | _=>simp[rd]at hr
  | undef=>cases t<;>simp[rd]at hr
  | b9 r p s=>simp[AV.shared]at hs
  | _=>simp only[dh]at y
theorem alK(t:Ty){a:AV}{x:t.den}{v:Value}(hs:a.shared=true)(hr:rd S.rt t a=some x)(y:qe h S g a v):pM h g.Pr t .no x v Nil:=by
 cases a with
 | val t' x'=>
  have hc:qbv t' t x'=some x:=by cases t<;>simpa only [rd] using hr
  simp only[qe]at y;obtain⟨c,r,rfl⟩:=y;obtain⟨rfl,r2⟩:=az.cast hc r;exact⟨c,r2,rfl⟩
 | cG b=>
  cases t with
  | bool=>simp only[rd,aK]at hr;simp only[qe]at y;subst hr;subst y;exact⟨[.bool b],by simp only[az],rfl⟩
  | _=>simp[rd]at hr
 | unit=>
  cases t with
  | unit=>simp only[qe]at y;exact⟨[],by simp only[az],by rw[y];rfl⟩
  | _=>simp[rd]at hr
 | fm=>
  cases t with
  | sl e=>simp only[rd,aK]at hr;simp only[qe]at y;subst hr;subst y;exact⟨[.slice none 0 0],by simp only[az];exact⟨none,0,by simp,by simp,by simp⟩,rfl⟩
  | _=>simp[rd]at hr
 | pair u w=>
  cases t with
  | pair a b=>simp only[qe]at y;obtain⟨ca,cb,rfl,y1,y2⟩:=y;exact⟨ca++cb,Fx st (.pair a b) (a:=.pair u w) hs hr (by simp only[dh];exact⟨ca,cb,rfl,y1,y2⟩),rfl⟩
  | _=>simp[rd]at hr
 | b9 r p s=>simp[AV.shared]at hs
 | _=>cases t<;>simp[rd]at hr
theorem akq{sh:Bool}(t:Ty){a:AV}{x:t.den}{v:Value}(hs:sh=true->a.shared=true)(hr:rd S.rt t a=some x)(y:qe h S g a v) :
  pM h (Seen sh S g) t .no x v Nil:=by
 cases sh with
 | true=>exact alK st t (hs rfl) hr y
 | false=>obtain⟨c,e,r⟩:=qL st t hr y;exact⟨c,r,e⟩
theorem Hy{Pr:BS}(hp:Sub g.Pr Pr){t:Ty}{x:t.den}{v:Value}(y:yK h g t x v):yK h (PG Pr) t x v:=by obtain⟨b,o,cs,e,pb,hb,hs,r⟩:=y;exact⟨b,o,cs,e,hp b pb,hb,hs,az.mono hp (fun _ _=>rfl) t r (Sub.refl _) (fun _ _=>rfl)⟩
theorem Q1{r:Nat}{p:Path}{d:Dy}{v:Value}(hf:S.rt.focus r p=some d)(hw:d.ms.whole=true)(x:qe h S g (.addr r p) v):yK h (PG (zk S g)) d.ty d.x v:=by
 simp only[aO.focus]at hf;split at hf
 .rename_i R hR;simp only[qe]at x;obtain⟨h1,b,off,c,h2,h3⟩:=x R hR d hf;obtain⟨base,c',F,q1,q2,q3,q4,q5,_⟩:=st.update hR hf h1;rw[h2]at q1;simp only[aK,aY]at q1;obtain⟨rfl,rfl⟩:=q1;have bO:(S.root r).isSome:=by show(S.rt.root r).isSome=true;rw[hR];rfl
  obtain⟨_,cs,w8,hs,hsub⟩:=q4 b off rfl;have hl:=az.width _ q2;refine⟨b,off,cs,h3,.inr ⟨r,bO,q5 b off rfl⟩,w8.CO,by omega,?_⟩;rw[<-hl,hsub];exact az.mono (fun b hb=>hb.elim .inl (fun hb=>.inr ⟨r,bO,q3 b hb⟩)) (fun _ _=>rfl) _ (az.share _ hw q2) (Sub.refl _) (fun _ _=>rfl)
 .simp at hf
theorem AO{sh:Bool}:∀{a:AV}{l:List bL}{vs:List Value},(sh=true->a.shared=true)->lZ S.rt a=some l->aN h S g a vs->nT h (PG (Seen sh S g)) l vs
 | .unit,l,vs,_,hc,y=>by
  simp only[lZ,aK]at hc;subst hc;simp only[aN]at y;exact y
 | .pair u w,l,vs,hs,hc,y=>by
  simp only[aN]at y;obtain⟨v,vs',rfl,y1,y2⟩:=y;have lS:sh=true->w.shared=true:=fun h=>by have:=hs h;simp only[AV.shared,bI]at this;exact this.2
  have tj:sh=true->u.shared=true:=fun h=>by have:=hs h;simp only[AV.shared,bI]at this;exact this.1
  cases u with
  | addr r p=>
   simp only[lZ]at hc;split at hc
   .rename_i d hf;split at hc
    .rename_i hw;simp only[cM,aK]at hc;obtain⟨l',hc,rfl⟩:=hc;refine⟨v,vs',rfl,?_,AO lS hc y2⟩;cases sh with
     | true=>have:=tj rfl;simp[AV.shared]at this
     | false=>exact Q1 st hf hw y1
    .simp at hc
   .simp at hc
  | cj t x=>simp only[lZ,cM,aK]at hc;obtain⟨l',hc,rfl⟩:=hc;simp only[qe]at y1;exact⟨v,vs',rfl,Hy st (Fl sh S g) y1,AO lS hc y2⟩
  | val t x=>simp only[lZ,cM,aK]at hc;obtain⟨l',hc,rfl⟩:=hc;simp only[qe]at y1;obtain⟨c,r,e⟩:=y1;exact⟨v,vs',rfl,⟨c,az.mono (Fl sh S g) (fun _ _=>rfl) t r (Sub.refl _) (fun _ _=>rfl),e⟩,AO lS hc y2⟩
  | _=>simp[lZ]at hc
 | .undef,_,_,_,hc,_=>by simp[lZ]at hc
 | .skip,_,_,_,hc,_=>by simp[lZ]at hc
 | .cG _,_,_,_,hc,_=>by simp[lZ]at hc
 | .fm,_,_,_,hc,_=>by simp[lZ]at hc
 | .val _ _,_,_,_,hc,_=>by simp[lZ]at hc
 | .b9 _ _ _,_,_,_,hc,_=>by simp[lZ]at hc
 | .view _ _ _ _ _,_,_,_,hc,_=>by simp[lZ]at hc
 | .addr _ _,_,_,_,hc,_=>by simp[lZ]at hc
 | .cj _ _,_,_,_,hc,_=>by simp[lZ]at hc
 | .jJ _,_,_,_,hc,_=>by simp[lZ]at hc
 | .gH _ _,_,_,_,hc,_=>by simp[lZ]at hc
 | .eA _,_,_,_,hc,_=>by simp[lZ]at hc
theorem H7{Pr:BS}(hp:Sub g.Pr Pr):∀{l:List bL}{vs:List Value},nT h g l vs->nT h (PG Pr) l vs
 | [],_,y=>y
 | c::l,_,y=>by
  obtain⟨v,vs',e,h1,h2⟩:=y;refine⟨v,vs',e,?_,H7 hp h2⟩;cases c with
  | val t x=>obtain⟨c,r,e⟩:=h1;exact⟨c,az.mono hp (fun _ _=>rfl) t r (Sub.refl _) (fun _ _=>rfl),e⟩
  | cm t x=>exact Hy st hp h1
def vp(h:Array Obj)(Pr:BS)(Fs:Nat->BS):Nat->(ks:List PK)->dI ks->List Value->Prop
 | _,[],_,vs=>vs=[]
 | i,.cC t m _::ks,o,vs=>∃v vs',vs=v::vs'/\v8 h Pr t m o.1 v (Fs i)/\vp h Pr Fs (i+1) ks o.2 vs'
 | i,.cO t m _::ks,o,vs=>∃v vs',vs=v::vs'/\pM h Pr t m o.1 v (Fs i)/\vp h Pr Fs (i+1) ks o.2 vs'
 | i,.val _::ks,o,vs=>∃v vs',vs=v::vs'/\vp h Pr Fs (i+1) ks o vs'
 | i,.own _ _::ks,o,vs=>∃v vs',vs=v::vs'/\vp h Pr Fs (i+1) ks o vs'
 | i,.cm _::ks,o,vs=>∃v vs',vs=v::vs'/\vp h Pr Fs (i+1) ks o vs'
 | i,.fn::ks,o,vs=>∃v vs',vs=v::vs'/\vp h Pr Fs (i+1) ks o vs'
theorem yG{sh:Bool}{Fs:Nat->BS}:∀(ks:List PK)(aJ:List AV)(vs:List Value)(i:Nat)(gd:ju ks)(od:dI ks)(a:gf ks),(sh=true->mL ks aJ=true)->
  l9 h S g aJ vs->n_ h g.Pr Fs i ks gd vs->vp h g.Pr Fs i ks od vs->jk S.rt ks aJ gd od=some a->yU h (Seen sh S g) Fs i ks a vs
 | [],aJ,vs,i,gd,od,a,_,ha,hg,_,hd=>by
  simp only[n_]at hg;exact hg
 | k::ks,[],vs,i,gd,od,a,_,ha,hg,_,hd=>by cases k<;>simp[jk]at hd
 | k::ks,u::aJ,vs,i,gd,od,a,hs,ha,hg,hl,hd=>by
  obtain⟨v,vs',rfl,r1,r2⟩:=ha;have lS:sh=true->mL ks aJ=true:=fun e=>by have:=hs e;simp only[mL,bI]at this;exact this.2
  have tj:sh=true->k.plain=true->u.shared=true:=fun e e2=>by
   have:=hs e;simp only[mL,bI,jB,kA]at this;rcases this.1 with h3 | h3
   .rw[e2]at h3;simp at h3
   .exact h3
  cases k with
  | val t=>simp only[jk,cM,aK]at hd;obtain⟨x,hx,r,hr,rfl⟩:=hd;obtain⟨_,_,e,hg⟩:=hg;obtain⟨_,_,e2,hl⟩:=hl;simp only[eZ]at e e2;obtain⟨rfl,rfl⟩:=e;obtain⟨-,rfl⟩:=e2;exact⟨v,vs',rfl,akq st t (fun e=>tj e rfl) hx r1,yG ks aJ vs' (i+1) gd od r lS r2 hg hl hr⟩
  | own t m=>simp only[jk,cM,aK]at hd;obtain⟨r,hr,rfl⟩:=hd;obtain⟨_,_,e,hv,hg⟩:=hg;obtain⟨_,_,e2,hl⟩:=hl;simp only[eZ]at e e2;obtain⟨rfl,rfl⟩:=e;obtain⟨-,rfl⟩:=e2;exact⟨v,vs',rfl,hv.mono (Fl sh S g),yG ks aJ vs' (i+1) gd.2 od r lS r2 hg hl hr⟩
  | cC t m m'=>simp only[jk,cM,aK]at hd;obtain⟨r,hr,rfl⟩:=hd;obtain⟨_,_,e,hg⟩:=hg;obtain⟨_,_,e2,hv,hl⟩:=hl;simp only[eZ]at e e2;obtain⟨rfl,rfl⟩:=e;obtain⟨rfl,rfl⟩:=e2;refine⟨v,vs',rfl,?_,yG ks aJ vs' (i+1) gd od.2 r lS r2 hg hl hr⟩;obtain⟨b,c,F0,e,r,k⟩:=hv;exact⟨b,c,F0,e,az.mono (Fl sh S g) (fun _ _=>rfl) t r (Sub.refl _) (fun _ _=>rfl),k⟩
  | cO t m m'=>simp only[jk,cM,aK]at hd;obtain⟨r,hr,rfl⟩:=hd;obtain⟨_,_,e,hg⟩:=hg;obtain⟨_,_,e2,hv,hl⟩:=hl;simp only[eZ]at e e2;obtain⟨rfl,rfl⟩:=e;obtain⟨rfl,rfl⟩:=e2;exact⟨v,vs',rfl,hv.mono (Fl sh S g),yG ks aJ vs' (i+1) gd od.2 r lS r2 hg hl hr⟩
  | cm t=>
   obtain⟨_,_,e,hg⟩:=hg;obtain⟨_,_,e2,hl⟩:=hl;simp only[eZ]at e e2;obtain⟨rfl,rfl⟩:=e;obtain⟨-,rfl⟩:=e2;cases u with
   | cj t' x=>simp only[jk,cM,aK]at hd;obtain⟨y,hc,r,hr,rfl⟩:=hd;simp only[qe]at r1;obtain⟨e1,e2⟩:=Dv hc;subst e1;simp only at e2;subst e2;exact⟨v,vs',rfl,Hy st (Fl sh S g) r1,yG ks aJ vs' (i+1) gd od r lS r2 hg hl hr⟩
   | addr q p=>
    simp only[jk]at hd;split at hd
    .rename_i d hf;split at hd
     .rename_i hw;simp only[cM,aK]at hd;obtain⟨y,hc,r,hr,rfl⟩:=hd;refine⟨v,vs',rfl,?_,yG ks aJ vs' (i+1) gd od r lS r2 hg hl hr⟩;obtain⟨dt,dm,dx⟩:=d;simp only at hc hw;obtain⟨e1,e2⟩:=Dv hc;subst e1;simp only at e2;subst e2;cases sh with
      | true=>have:=tj rfl rfl;simp[AV.shared]at this
      | false=>exact Q1 st hf hw r1
     .simp at hd
    .simp at hd
   | _=>simp[jk]at hd
  | fn=>
   obtain⟨_,_,e,hg⟩:=hg;obtain⟨_,_,e2,hl⟩:=hl;simp only[eZ]at e e2;obtain⟨rfl,rfl⟩:=e;obtain⟨-,rfl⟩:=e2;cases u with
   | gH f caps=>simp only[jk,cM,aK]at hd;obtain⟨l,hc,r,hr,rfl⟩:=hd;simp only[qe]at r1;obtain⟨ws,e,ht⟩:=r1;exact⟨v,vs',rfl,⟨ws,e,AO st (fun e=>by have:=tj e rfl;simpa [AV.shared] using this) hc ht⟩,yG ks aJ vs' (i+1) gd od r lS r2 hg hl hr⟩
   | eA c=>simp only[jk,cM,aK]at hd;obtain⟨r,hr,rfl⟩:=hd;simp only[qe]at r1;obtain⟨ws,e,ht⟩:=r1;exact⟨v,vs',rfl,⟨ws,e,H7 st (Fl sh S g) ht⟩,yG ks aJ vs' (i+1) gd od r lS r2 hg hl hr⟩
   | _=>simp[jk]at hd
end
end
end Go.V
namespace Go.V
noncomputable section
open Go
theorem lu.conv{h:Array Obj}{Pr gh:BS}{Gs:Nat->BS}:∀(rs:List RK)(i:Nat){r:f9 rs}{us:List Value},(Sub Pr gh\/rs.all RK.full=true)->lu h Pr Gs i rs r us->lu h gh Gs i rs r us
 | [],_,_,_,_,k=>k
 | q::rs,i,r,us,hc,k=>by
  obtain⟨v,vs',e,k1,k2⟩:=k;have g9:Sub Pr gh\/rs.all RK.full=true:=hc.imp id fun h=>by simp only[gV,bI]at h;exact h.2
  refine⟨v,vs',e,?_,lu.conv rs (i+1) g9 k2⟩;have conv:∀(t:Ty)(m:Mk)(x:t.den)(c:List Value)(F:BS),(m.full t=true\/Sub Pr gh)->az h Pr t m x c F->az h gh t m x c F:=fun t m x c F hh rr=>
   hh.elim (fun h=>az.lR t h rr) (fun h=>az.mono h (fun _ _=>rfl) t rr (Sub.refl _) (fun _ _=>rfl))
  have hf:q.ms.full q.ty=true\/Sub Pr gh:=hc.symm.imp (fun h=>by simp only[gV,bI]at h;cases q<;>exact h.1) id;cases q with
  | val t m=>obtain⟨c,rr,e⟩:=k1;exact⟨c,conv t m _ c _ hf rr,e⟩
  | ptr t m=>obtain⟨b,c,F0,e,rr,k⟩:=k1;exact⟨b,c,F0,e,conv t m _ c _ hf rr,k⟩
theorem akc{w w':World}{sl:List AV}{rt:aO}{g:aA}{tmps:Array Value}{H:BS}(st:aE w.heap ⟨sl,rt⟩ g tmps H){Fs:Nat->BS}(hF:∀i,Sub (Fs i) H)
  {sh:Bool} {ks:List PK} {rs:List RK} {r:f9 rs} {o:dI ks} {vs:List Value} {val:Value} {fP:BS} {Gs Os:Nat->BS} {us:List Value}
  (p:Uo w w' (Seen sh ⟨sl,rt⟩ g) Fs ks rs r o vs val fP Gs Os us) (hfull:sh=false->rs.all RK.full=true) :
  ∃g3 H3,aE w'.heap ⟨sl,rt⟩ g3 tmps H3/\lu w'.heap g3.Pr Gs 0 rs r us/\(∀i,Sub (Gs i) H3)/\g3.cR g:=by
 have hk:∀b,b<w.heap.size->¬ H b->w'.heap[b]? = w.heap[b]?:=fun b hb hn=>p.fr.block b hb (by
  rintro(h1 | ⟨i,h1⟩)
  .omega
  .exact hn (hF i b h1))
 have DN:=st.oy hk p.fr.size (fun b=>H b\/(w.heap.size<=b/\b<w'.heap.size)) (fun b hb=>hb);have jf:∀b,tS w.heap.size Fs b->b<w'.heap.size->H b\/(w.heap.size<=b/\b<w'.heap.size):=by
  rintro b (h1 | ⟨i,h1⟩) h2
  .exact .inr ⟨h1,h2⟩
  .exact .inl (hF i b h1)
 cases sh with
 | false=>exact⟨g,_,DN,lu.conv rs 0 (.inr (hfull rfl)) p.res,fun i b hb=>jf b (p.gL i b hb) (p.wJ i b hb),.refl _⟩
 | true=>
  have hD:Sub (fun b=>fP b/\¬ g.Pr b) (fun b=>H b\/(w.heap.size<=b/\b<w'.heap.size)):=by
   rintro b ⟨h1,h2⟩;rcases p.kZ b h1 with h3 | h3
   .exact absurd h3 h2
   .exact jf b h3 (p.AD b h1)
  refine⟨_,_,DN.cP _ hD,lu.conv rs 0 (.inl ?_) p.res,fun i b hb=>⟨jf b (p.gL i b hb) (p.wJ i b hb),fun h=>p.gp i b hb h.1⟩,⟨rfl,rfl,rfl⟩⟩;intro b hb;by_cases h1:g.Pr b
  .exact .inl h1
  .exact .inr ⟨hb,h1⟩
def mP:List RK->List Value->List Value
 | [],_=>[]
 | k::ks,c=>dL k.ty (c.take k.ty.width)::mP ks (c.drop k.ty.width)
theorem MP{h:Array Obj}{Pr:BS}{Gs:Nat->BS}(hd:∀i j,i≠j->cB (Gs i) (Gs j)):∀(rs:List RK)(i:Nat){r:f9 rs}{us:List Value},rs.all (fun k=>!k.kT&&k.ty.nz)=true->lu h Pr Gs i rs r us->
  ∃c F,az h Pr (jt rs) (pO rs) (kj rs r) c F/\(∀b,F b->∃j,i<=j/\Gs j b)/\us=mP rs c
 | [],i,r,us,_,k=>⟨[],Nil,by simp only[jt,az],fun b h=>h.elim,k⟩
 | .ptr t m::rs,i,r,us,hp,k=>by simp[RK.kT]at hp
 | .val t m::rs,i,r,us,hp,k=>by
  simp only[gV,bI]at hp;obtain⟨v,vs',rfl,⟨c1,r1,rfl⟩,k2⟩:=k;obtain⟨c2,F2,r2,tW,rfl⟩:=MP hd rs (i+1) hp.2 k2;refine⟨c1++c2,Un (Gs i) F2,?_,?_,?_⟩
  .simp only[jt,pO,kj,az,Mk.fst,Mk.snd];refine⟨c1,c2,Gs i,F2,rfl,r1,r2,fun b hb=>.inl hb,fun b hb=>.inr hb,?_⟩;intro b h1 h2;obtain⟨j,hj,h3⟩:=tW b h2;exact hd i j (by omega) b h1 h3
  .rintro b (hb | hb)
   .exact⟨i,cq _,hb⟩
   .obtain⟨j,hj,h3⟩:=tW b hb;exact⟨j,by omega,h3⟩
  .have hl:=az.width t r1;simp only[mP,RK.ty];rw[jq hl,i5 hl]
theorem Im{h:Array Obj}{S:St}{g:aA}:∀(rs:List RK){x:(jt rs).den}{c:List Value}{F:BS},az h g.Pr (jt rs) .no x c F->aN h S g (ze (jt rs) x) (mP rs c)
 | [],x,c,F,r=>by simp only[jt,ze,aN,mP]
 | k::rs,x,c,F,r=>by
  simp only[jt,az]at r;obtain⟨ca,cb,Fa,Fb,rfl,ra,rb,_⟩:=r;have hl:=az.width _ ra;simp only[jt,ze,aN,mP];rw[jq hl,i5 hl];refine⟨_,_,rfl,?_,Im rs rb⟩;simp only[qe];exact⟨ca,az.eL (m:=.no) _ rfl ra,rfl⟩
theorem NS{h:Array Obj}{S:St}{g:aA}{r:Nat}{R:aC}(hR:S.root r=some R):∀(rs:List RK)(p:Path)(m:Mk)(x:(jt rs).den)(base:fK)(c:List Value)(F:BS),
  focus R.ty R.ms R.x p=some ⟨jt rs,m,x⟩->bu R.ty R.x p->cr h R.ty (g.C r) (g.base r) p=some (base,c)->az h g.Pr (jt rs) m x c F->rs.all (fun k=>!k.kT&&k.ty.nz)=true->
  aN h S g (yh (cW r (jt rs) m x p)) (mP rs c)
 | [],p,m,x,base,c,F,_,_,_,_,_=>by simp only[jt,cW,yh,aN,mP]
 | k::rs,p,m,x,base,c,F,hf,hin,ej,rep,hall=>by
  simp only[gV,bI]at hall;simp only[jt,cW];by_cases hs:m.still=true
  .rw[aj hs];have:=Im (S:=S) (k::rs) (az.eL (F':=Nil) _ hs rep);exact this
  .rw[af hs];have oc:=rep;simp only[jt,az]at oc;obtain⟨ca,cb,Fa,Fb,rfl,ra,rb,_⟩:=oc;have hl:=az.width _ ra;have W1:focus R.ty R.ms R.x (p++[.fst])=some ⟨k.ty,m.fst,x.1⟩:=by rw[uU p _ hf];simp only[jt,focus]
   have W3:focus R.ty R.ms R.x (p++[.snd])=some ⟨jt rs,m.snd,x.2⟩:=by rw[uU p _ hf];simp only[jt,focus]
   have hia:bu R.ty R.x (p++[.fst]):=(yN p _ hf).2 ⟨hin,by simp only[jt,bu]⟩;have hib:bu R.ty R.x (p++[.snd]):=(yN p _ hf).2 ⟨hin,by simp only[jt,bu]⟩;have haa:cr h R.ty (g.C r) (g.base r) (p++[.fst])=some (base,ca):=by rw[vc p _ hf ej];simp only[jt,cr];rw[jq hl]
   have hab:cr h R.ty (g.C r) (g.base r) (p++[.snd])=some (base.map fun x=>(x.1,x.2+k.ty.width),cb):=by rw[vc p _ hf ej];simp only[jt,cr];rw[i5 hl]
   simp only[yh,aN,mP];rw[jq hl,i5 hl];refine⟨_,_,rfl,dh.rel ra (EY hR _ _ _ _ _ _ _ W1 hia haa ra) (Ty.kV hall.1.2),?_⟩;exact NS hR rs (p++[.snd]) m.snd x.2 _ cb Fb W3 hib hab rb hall.2
theorem aaO{a b:RK}{rs:List RK}{c:List Value}:tJ (mP (a::b::rs) c)=.tuple (mP (a::b::rs) c).toArray:=by simp only[mP,tJ]
theorem G_{h:Array Obj}{S:St}{d8:aO}{g:aA}{tmps:Array Value}{H:BS}(st:aE h ⟨S.sl,d8⟩ g tmps H){Gs:Nat->BS}(hG:∀i,Sub (Gs i) H)(hd:∀i j,i≠j->cB (Gs i) (Gs j))
  {A:bY} {d:Option Nat} {site:Nat} (ok:nM A S d site):∀(rs:List RK){r:f9 rs}{us:List Value}{β:Bool}{v:AV}{rt':aO},lu h g.Pr Gs 0 rs r us->
  (mA A d8 d site rs r).dec β=some (v,rt')->∃g',aE h ⟨S.sl,rt'⟩ g' tmps Nil/\qe h ⟨S.sl,rt'⟩ g' v (tJ us)/\g'.cR g
 | [],r,us,β,v,rt',k,e=>by
  simp only[lu]at k;subst k;simp only[mA,Tr.dec,aK,aY]at e;obtain⟨rfl,rfl⟩:=e;refine⟨g,st.bB (Sub.nil _),?_,.refl _⟩;simp only[qe,tJ];exact⟨[],rfl,by simp only[aN]⟩
 | [.val t m],r,us,β,v,rt',k,e=>by
  obtain⟨u,vs',rfl,⟨c,rr,rfl⟩,k2⟩:=k;simp only[lu]at k2;subst k2;simp only[mA]at e;by_cases hsh:A.sh=true
  .rw[aj hsh]at e;by_cases hw:m.whole=true
   .rw[aj hw]at e;simp only[Tr.dec,aK,aY]at e;obtain⟨rfl,rfl⟩:=e;obtain⟨g',s1,s2,s3,_⟩:=U8 st rr (hG 0) hw;exact⟨g',s1.bB (Sub.nil _),by simp only[qe,tJ];exact⟨c,s2,rfl⟩,s3⟩
   .rw[af hw]at e;simp[Tr.dec]at e
  rw[af hsh]at e;by_cases hm:m.ax=true
  .rw[aj hm]at e;obtain⟨g',s1,s2,s3⟩:=Cy st rr (aM.ax _ hm) (hG 0) ok e;exact⟨g',s1,s2,s3⟩
  .rw[af hm]at e;simp[Tr.dec]at e
 | [.ptr t m],r,us,β,v,rt',k,e=>by
  obtain⟨u,vs',rfl,⟨b,c,F0,rfl,rr,ho,hb,hF0,hn⟩,k2⟩:=k;simp only[lu]at k2;subst k2;simp only[mA]at e;by_cases hm:m.ax=true
  .rw[aj hm]at e;obtain⟨g',s1,s2,s3⟩:=Fg st rr (aM.ax _ hm) (fun x hx=>hG 0 x (hF0 x hx)) (hG 0 b hb) hn ho ok e;exact⟨g',s1,s2,s3⟩
  .rw[af hm]at e;simp[Tr.dec]at e
 | q1::q2::rs,r,us,β,v,rt',k,e=>by
  have e':(Cx A d8 d site (q1::q2::rs) r).dec β=some (v,rt'):=by cases q1<;>simpa only [mA] using e
  unfold Cx at e';by_cases hc:((pO (q1::q2::rs)).ax&&(q1::q2::rs).all (fun k=>!k.kT&&k.ty.nz))=true
  .rw[aj hc]at e';simp only[bI]at hc;obtain⟨c,F,rep,hF,rfl⟩:=MP hd _ 0 hc.2 k;have hFH:Sub F H:=fun b hb=>by obtain⟨j,_,h3⟩:=hF b hb;exact hG j b h3
   rw[aaO];cases d with
   | none=>simp only[Tr.dec,aK,aY]at e';obtain⟨rfl,rfl⟩:=e';exact⟨g,st.bB (Sub.nil _),by simp only[qe],.refl _⟩
   | some d=>
    simp only at e';cases hl:dU A d8 (some d) site (jt (q1::q2::rs)) (pO (q1::q2::rs)) (kj (q1::q2::rs) r) false with
    | ret z=>
     obtain⟨v1,fk⟩:=z;rw[hl]at e';simp only[Tr.dec,aK,aY]at e';obtain⟨rfl,rfl⟩:=e';simp only[dU,fh,dZ]at hl;split at hl
     .simp at hl
     .rename_i hn;simp only[jB,kA,zI,FM,n8]at hn;split at hl
      .rename_i hs;simp only[Tr.ret.injEq,aY]at hl;obtain⟨rfl,rfl⟩:=hl;refine⟨g,st.bB (Sub.nil _),?_,.refl _⟩;simp only[qe];exact⟨_,rfl,Im _ (az.eL (F':=Nil) _ hs rep)⟩
      .split at hl
       .rename_i mj;simp only[Tr.ret.injEq,aY]at hl;obtain⟨rfl,rfl⟩:=hl;have oc:=(az.stamp (h:=h) (Pr:=g.Pr) site _).1 rep;have key:∀u,((⟨S.sl,d8⟩:St).get u).roots.contains d=false\/(∃lo hi,((⟨S.sl,d8⟩:St).get u).aQ lo hi=true/\((⟨S.sl,d8⟩:St).get u).gJ d=true/\((pO (q1::q2::rs)).stamp site).fresh lo hi/\(none:Option Nat)=none):=by
         intro u;simp only[jB,bI]at mj;rcases mj with mj | ⟨⟨jM,g9⟩,rL⟩
         .exact .inl (ok.xB mj d rfl u)
         .exact .inr ⟨site,site+1,(ok.fr jM).2 u,ok.pl rL d rfl u,Mk.dQ site g9,rfl⟩
        obtain⟨g',s1,s2,s3,s4,s5,s6⟩:=st.kU hn.1 oc (aM.stamp hn.2 _ (aM.ax _ hc.1)) hFH none (fun b hb=>by simp at hb) key;refine⟨g',s1.bB (Sub.nil _),?_,s3⟩;have hR:(⟨S.sl,d8.aI d (some ⟨jt (q1::q2::rs),(pO (q1::q2::rs)).stamp site,kj (q1::q2::rs) r,false⟩)⟩:St).root d=some ⟨jt (q1::q2::rs),(pO (q1::q2::rs)).stamp site,kj (q1::q2::rs) r,false⟩:=by have:=St.b6 (⟨S.sl,d8⟩:St) d (some ⟨jt (q1::q2::rs),(pO (q1::q2::rs)).stamp site,kj (q1::q2::rs) r,false⟩) d;rw[aj ⟨rfl,hn.1⟩]at this;exact this
        simp only[qe];refine⟨_,rfl,?_⟩;refine NS hR (q1::q2::rs) [] _ _ (g'.base d) c F (L4 _ _ _) (xP _ _) ?_ (by rw[s2];exact oc) hc.2;rw[s4];exact EX _ _ _ _
       .simp at hl
    | _=>rw[hl]at e';simp[Tr.dec]at e'
  .rw[af hc]at e';simp[Tr.dec]at e'
end
theorem J6{h:Array Obj}{Pr:BS}{Fs:Nat->BS}:∀(ks:List PK)(aJ:List AV)(vs:List Value)(i:Nat)(rt fk:aO)(od:dI ks){S:St}{g:aA},ks.all (fun k=>!k.eG)=true->
  l9 h S g aJ vs->gE rt ks aJ=some (od,fk)->fk=rt/\vp h Pr Fs i ks od vs
 | [],aJ,vs,i,rt,fk,od,S,g,_,ha,hb=>by
  cases aJ with
  | nil=>simp only[gE,aK,aY]at hb;exact⟨hb.2.symm,ha⟩
  | cons a aJ=>simp[gE]at hb
 | k::ks,[],vs,i,rt,fk,od,S,g,_,ha,hb=>by cases k<;>simp[gE]at hb
 | k::ks,a::aJ,vs,i,rt,fk,od,S,g,hn,ha,hb=>by
  simp only[gV,bI]at hn;obtain⟨v,vs',rfl,r1,r2⟩:=ha;cases k with
  | cC t m m'=>simp[PK.eG]at hn
  | cO t m m'=>simp[PK.eG]at hn
  | val t=>obtain⟨e,k⟩:=J6 (Fs:=Fs) ks aJ vs' (i+1) rt fk od hn.2 r2 (by simpa only [gE] using hb);exact⟨e,v,vs',rfl,k⟩
  | own t m=>obtain⟨e,k⟩:=J6 (Fs:=Fs) ks aJ vs' (i+1) rt fk od hn.2 r2 (by simpa only [gE] using hb);exact⟨e,v,vs',rfl,k⟩
  | cm t=>obtain⟨e,k⟩:=J6 (Fs:=Fs) ks aJ vs' (i+1) rt fk od hn.2 r2 (by simpa only [gE] using hb);exact⟨e,v,vs',rfl,k⟩
  | fn=>obtain⟨e,k⟩:=J6 (Fs:=Fs) ks aJ vs' (i+1) rt fk od hn.2 r2 (by simpa only [gE] using hb);exact⟨e,v,vs',rfl,k⟩
theorem Bc{h:Array Obj}{S:St}{g:aA}{tmps:Array Value}{H:BS}(st:aE h S g tmps H)(sh:Bool):∀b,Seen sh S g b->b<h.size:=by
 intro b hb;unfold Seen at hb;split at hb
 .exact st.bQ b hb
 .rcases hb with hb | ⟨r,h1,h2⟩
  .exact st.bQ b hb
  .exact st.cg r b h1 h2
theorem Bb{h:Array Obj}{S:St}{g:aA}{tmps:Array Value}{H:BS}(st:aE h S g tmps H)(sh:Bool):cB H (Seen sh S g):=by
 intro b hH hb;unfold Seen at hb;split at hb
 .exact st.bM b hH hb
 .rcases hb with hb | ⟨r,h1,h2⟩
  .exact st.bM b hH hb
  .exact st.hand r h1 b h2 hH
section
variable {P:Program} {C:Ctx} {D:Den C} {S:St} {g:aA} {w:World} {tmps:Array Value}
variable {A:bY} {site:Nat} (dz:ot P C D) (st:aE w.heap S g tmps Nil)
include dz st
theorem ajU{f:FuncId}{aJ:List AV}{vs:List Value}{d:Option Nat}(ok:nM A S d site)(ha:l9 w.heap S g aJ vs){gd:ju (C.sig f).params}{d8:aO}
  (h1:f5 S.rt (C.sig f).params aJ=some (gd,d8)) (hn:(C.sig f).params.all (fun k=>!k.eG)=true) {od:dI (C.sig f).params} {fk:aO}
  (h2:gE d8 (C.sig f).params aJ=some (od,fk)) {a:gf (C.sig f).params} (h3:jk fk (C.sig f).params aJ gd od=some a)
  (hs:mL (C.sig f).params aJ=true\/(C.sig f).full=true) {r:f9 (C.sig f).res×dI (C.sig f).params} (hD:D f a=some r) {β:Bool} {v:AV} {rt':aO}
  (he:(mA A d8 d site (C.sig f).res r.1).dec β=some (v,rt')) :
  Calls P f vs.toArray w fun e w'=>∃val,e=.returned val/\Post S g w tmps v rt' val w':=by
 obtain⟨g1,H1,Fs,k1,k2,k3,k4,k5,k6,k7,k8,k9,js⟩:=Cn (sl:=S.sl) (C.sig f).params aJ vs S.rt g Nil 0 gd d8 ha st h1;obtain⟨e2,hL⟩:=J6 (h:=w.heap) (Pr:=g1.Pr) (Fs:=Fs) (C.sig f).params aJ vs 0 d8 fk od hn ha h2;subst e2;have hps:=yG (S:=⟨S.sl,fk⟩) k1 (sh:=mL (C.sig f).params aJ) (Fs:=Fs) (C.sig f).params aJ vs 0 gd od a (fun h=>h) (ha.kp k2) k5 hL h3;have pre:Pre w.heap (Seen (mL (C.sig f).params aJ) ⟨S.sl,fk⟩ g1) Fs (C.sig f).params a vs:=
  ⟨hps,k8,fun i b hb=>Bb k1 _ b (k7 i b hb),fun i b hb=>k1.ep b (k7 i b hb),Bc k1 _⟩
 refine(dz.ok f a r hD w _ Fs vs pre).mono ?_;rintro e w' ⟨val,fP,Gs,Os,us,rfl,p⟩;obtain⟨g3,H3,q1,q2,q3,q4⟩:=akc k1 k7 p (fun h=>by
  rcases hs with h5 | h5
  .rw[h]at h5;simp at h5
  .simp only[wE.full,bI]at h5;exact h5.2)
 obtain⟨g4,s1,s2,s3⟩:=G_ q1 q3 p.z_ ok (C.sig f).res q2 he;refine⟨val,rfl,g4,s1,by rw[p.val];exact s2,(k3.trans q4).trans s3,p.fr.mono ?_⟩;rintro b hb (h | ⟨i,h⟩)
 .omega
 .have:=k1.fc b (k7 i b h);rw[k3.2.1]at this;exact this
end
theorem J_:∀(ks:List PK)(aJ:List AV)(rt d8:aO)(gd:ju ks),ks.all (fun k=>!k.mh)=true->f5 rt ks aJ=some (gd,d8)->d8=rt
 | [],aJ,rt,d8,gd,_,hb=>by
  cases aJ with
  | nil=>simp only[f5,aK,aY]at hb;exact hb.2.symm
  | cons a aJ=>simp[f5]at hb
 | k::ks,[],rt,d8,gd,_,hb=>by cases k<;>simp[f5]at hb
 | k::ks,a::aJ,rt,d8,gd,hn,hb=>by
  simp only[gV,bI]at hn;cases k with
  | own t m=>simp[PK.mh]at hn
  | val t=>exact J_ ks aJ rt d8 gd hn.2 (by simpa only [f5] using hb)
  | cC t m m'=>exact J_ ks aJ rt d8 gd hn.2 (by simpa only [f5] using hb)
  | cO t m m'=>exact J_ ks aJ rt d8 gd hn.2 (by simpa only [f5] using hb)
  | cm t=>exact J_ ks aJ rt d8 gd hn.2 (by simpa only [f5] using hb)
  | fn=>exact J_ ks aJ rt d8 gd hn.2 (by simpa only [f5] using hb)
theorem Fe{h h2:Array Obj}{Pr gh:BS}{Fs pP:Nat->BS}:∀(ks:List PK)(i:Nat){gd:ju ks}{vs:List Value},ks.all (fun k=>!k.mh)=true->n_ h Pr Fs i ks gd vs->n_ h2 gh pP i ks gd vs
 | [],_,_,_,_,k=>k
 | q::ks,i,gd,vs,hn,k=>by
  simp only[gV,bI]at hn;cases q with
  | own t m=>simp[PK.mh]at hn
  | val t=>obtain⟨v,vs',e,k⟩:=k;exact⟨v,vs',e,Fe ks (i+1) hn.2 k⟩
  | cC t m m'=>obtain⟨v,vs',e,k⟩:=k;exact⟨v,vs',e,Fe ks (i+1) hn.2 k⟩
  | cO t m m'=>obtain⟨v,vs',e,k⟩:=k;exact⟨v,vs',e,Fe ks (i+1) hn.2 k⟩
  | cm t=>obtain⟨v,vs',e,k⟩:=k;exact⟨v,vs',e,Fe ks (i+1) hn.2 k⟩
  | fn=>obtain⟨v,vs',e,k⟩:=k;exact⟨v,vs',e,Fe ks (i+1) hn.2 k⟩
structure wB (h:Array Obj) (ks:List PK) (aJ:List AV) (vs:List Value) (rt fk:aO) (od:dI ks) (n:Nat) (v:Value) (q:Nat) (t:Ty) (m m':Mk) (R:aC) (x:t.den):Prop where
 root:rt.root q=some R
 Ud:m.aP R.ms=true
 mem:R.mem=true
 cast:qbv R.ty t R.x=some x
 fk:fk=rt.aI q none
 ls:∀Pr Fs i,v8 h Pr t m x v (Fs (i+n))->vp h Pr Fs i ks od vs
 out:∀o:dI ks,∃y:t.den,(∀tO site nV,gb tO site ks aJ o=some nV->m'.ax=true/\nV=tO.aI q (some ⟨t,m'.stamp site,y,true⟩))/\
  ∀h' fP Os i,nw h' fP Os i ks o vs->v8 h' fP t m' y v (Os (i+n))
 full:ks.all PK.full=true->m'.full t=true
structure wC (h:Array Obj) (ks:List PK) (aJ:List AV) (vs:List Value) (rt fk:aO) (od:dI ks) (n:Nat) (a:AV) (v:Value) (q:Nat) (p:Path) (R:aC) (md:Mk) (t:Ty) (xd:t.den) (m m' mx:Mk) (x:t.den):Prop where
 place:kF a=some (q,p)
 root:rt.root q=some R
 D6:focus R.ty R.ms R.x p=some ⟨t,md,xd⟩
 xz:kg q t a p md xd=some (mx,x)
 paths:u6 a p=true
 Ud:m.aP mx=true
 fk:fk=rt.aI q none
 ls:∀Pr Fs i,pM h Pr t m x v (Fs (i+n))->vp h Pr Fs i ks od vs
 out:∀o:dI ks,∃y:t.den,(∀tO site nV,gb tO site ks aJ o=some nV->xV tO site t a m' y=some nV)/\
  ∀h' fP Os i,nw h' fP Os i ks o vs->pM h' fP t m' y v (Os (i+n))
 full:ks.all PK.full=true->m'.full t=true
theorem Wd{h:Array Obj}{Pr:BS}{Fs:Nat->BS}{S:St}{g:aA}{ks:List PK}{aJ:List AV}{vs:List Value}{i:Nat}{rt fk:aO}{od:dI ks}(hn:(ks.filter PK.eG).length=0)
  (ha:l9 h S g aJ vs) (hb:gE rt ks aJ=some (od,fk)):fk=rt/\vp h Pr Fs i ks od vs:=by
 refine J6 ks aJ vs i rt fk od ?_ ha hb;rw[lG,SK]at hn;simpa using hn
theorem JB{site:Nat}:∀(ks:List PK)(aJ:List AV)(o:dI ks)(rt nV:aO),(ks.filter PK.eG).length=0->gb rt site ks aJ o=some nV->nV=rt
 | [],aJ,o,rt,nV,_,hb=>by
  cases aJ with
  | nil=>simp only[gb,aK]at hb;exact hb.symm
  | cons a aJ=>simp[gb]at hb
 | k::ks,[],o,rt,nV,_,hb=>by cases k<;>simp[gb]at hb
 | k::ks,a::aJ,o,rt,nV,hn,hb=>by
  cases k with
  | cC t m m'=>simp[PK.eG]at hn
  | cO t m m'=>simp[PK.eG]at hn
  | val t=>exact JB ks aJ o rt nV (by simpa [PK.eG] using hn) (by simpa only [gb] using hb)
  | own t m=>exact JB ks aJ o rt nV (by simpa [PK.eG] using hn) (by simpa only [gb] using hb)
  | cm t=>exact JB ks aJ o rt nV (by simpa [PK.eG] using hn) (by simpa only [gb] using hb)
  | fn=>exact JB ks aJ o rt nV (by simpa [PK.eG] using hn) (by simpa only [gb] using hb)
theorem Sx{h:Array Obj}{S:St}{g:aA}:∀(ks:List PK)(aJ:List AV)(vs:List Value)(rt fk:aO)(od:dI ks),(ks.filter PK.eG).length=1->l9 h S g aJ vs->gE rt ks aJ=some (od,fk)->v5 ks aJ=true->
  ∃n a v,qe h S g a v/\((∃q t m m' R x,a=.addr q []/\wB h ks aJ vs rt fk od n v q t m m' R x)\/(∃q p R md t xd m m' mx x,wC h ks aJ vs rt fk od n a v q p R md t xd m m' mx x))
 | [],aJ,vs,rt,fk,od,hn,ha,hb,hlo=>by simp at hn
 | k::ks,[],vs,rt,fk,od,hn,ha,hb,hlo=>by cases k<;>simp[gE]at hb
 | k::ks,a::aJ,vs,rt,fk,od,hn,ha,hb,hlo=>by
  obtain⟨v,vs',rfl,r1,r2⟩:=ha;have step:∀(hk:k.eG=false)(KZ:v5 ks aJ=true)(UW:dI ks),gE rt ks aJ=some (UW,fk)->
    (∀h Pr Fs i,vp h Pr Fs (i+1) ks UW vs'->vp h Pr Fs i (k::ks) od (v::vs'))->
    (∀o:dI (k::ks),∃o':dI ks,(∀tO site,gb tO site (k::ks) (a::aJ) o=gb tO site ks aJ o')/\∀h' fP Os i,nw h' fP Os i (k::ks) o (v::vs')->nw h' fP Os (i+1) ks o' vs')->
    ∃n a' v',qe h S g a' v'/\((∃q t m m' R x,a'=.addr q []/\wB h (k::ks) (a::aJ) (v::vs') rt fk od n v' q t m m' R x)\/(∃q p R md t xd m m' mx x,wC h (k::ks) (a::aJ) (v::vs') rt fk od n a' v' q p R md t xd m m' mx x)):=by
   intro hk KZ UW hb' hls hout;have hn':(ks.filter PK.eG).length=1:=by rw[List.filter_cons_of_neg (by simp[hk])]at hn;exact hn
   obtain⟨n,a',v',ra,wM⟩:=Sx ks aJ vs' rt fk UW hn' r2 hb' KZ;refine⟨n+1,a',v',ra,?_⟩;rcases wM with⟨q,t,m,m',R,x,e,L⟩ | ⟨q,p,R,md,t,xd,m,m',mx,x,L⟩
   .refine .inl ⟨q,t,m,m',R,x,e,L.root,L.Ud,L.mem,L.cast,L.fk,?_,?_,?_⟩
    .intro Pr Fs i hp;exact hls _ _ _ _ (L.ls Pr Fs (i+1) (by rw[show i+1+n=i+(n+1) by omega];exact hp))
    .intro o;obtain⟨o',Ao,nZ⟩:=hout o;obtain⟨y,hy1,EH⟩:=L.out o';refine⟨y,fun tO site nV hh=>hy1 tO site nV (by rw[<-Ao];exact hh),fun h' fP Os i hh=>?_⟩;have:=EH h' fP Os (i+1) (nZ h' fP Os i hh)
     rwa [show i+1+n=i+(n+1) by omega]at this
    .intro hf;simp only[gV,bI]at hf;exact L.full hf.2
   .refine .inr ⟨q,p,R,md,t,xd,m,m',mx,x,L.place,L.root,L.D6,L.xz,L.paths,L.Ud,L.fk,?_,?_,?_⟩
    .intro Pr Fs i hp;exact hls _ _ _ _ (L.ls Pr Fs (i+1) (by rw[show i+1+n=i+(n+1) by omega];exact hp))
    .intro o;obtain⟨o',Ao,nZ⟩:=hout o;obtain⟨y,hy1,EH⟩:=L.out o';refine⟨y,fun tO site nV hh=>hy1 tO site nV (by rw[<-Ao];exact hh),fun h' fP Os i hh=>?_⟩;have:=EH h' fP Os (i+1) (nZ h' fP Os i hh)
     rwa [show i+1+n=i+(n+1) by omega]at this
    .intro hf;simp only[gV,bI]at hf;exact L.full hf.2
  cases k with
  | val t=>exact step rfl (by simpa only [v5] using hlo) od (by simpa only [gE] using hb) (fun h Pr Fs i k=>⟨v,vs',rfl,k⟩) (fun o=>⟨o,fun _ _=>by simp only[gb],fun h' fP Os i k=>by obtain⟨_,_,e,k⟩:=k;simp only[eZ]at e;obtain⟨-,rfl⟩:=e;exact k⟩)
  | own t m=>exact step rfl (by simpa only [v5] using hlo) od (by simpa only [gE] using hb) (fun h Pr Fs i k=>⟨v,vs',rfl,k⟩) (fun o=>⟨o,fun _ _=>by simp only[gb],fun h' fP Os i k=>by obtain⟨_,_,e,k⟩:=k;simp only[eZ]at e;obtain⟨-,rfl⟩:=e;exact k⟩)
  | cm t=>exact step rfl (by simpa only [v5] using hlo) od (by simpa only [gE] using hb) (fun h Pr Fs i k=>⟨v,vs',rfl,k⟩) (fun o=>⟨o,fun _ _=>by simp only[gb],fun h' fP Os i k=>by obtain⟨_,_,e,k⟩:=k;simp only[eZ]at e;obtain⟨-,rfl⟩:=e;exact k⟩)
  | fn=>exact step rfl (by simpa only [v5] using hlo) od (by simpa only [gE] using hb) (fun h Pr Fs i k=>⟨v,vs',rfl,k⟩) (fun o=>⟨o,fun _ _=>by simp only[gb],fun h' fP Os i k=>by obtain⟨_,_,e,k⟩:=k;simp only[eZ]at e;obtain⟨-,rfl⟩:=e;exact k⟩)
  | cC t m m'=>
   have hn':(ks.filter PK.eG).length=0:=by rw[SI (by rfl)]at hn;simpa using hn
   cases a with
   | addr q p=>
    cases p with
    | nil=>
     simp only[gE]at hb;split at hb
     .rename_i R hR;split at hb
      .rename_i hc;simp only[cM,aK,aY]at hb;obtain⟨x,hx,⟨od2,y_⟩,hb,e1,e2⟩:=hb;subst e2;obtain⟨e3,_⟩:=Wd (h:=h) (Pr:=Nil) (Fs:=fun _=>Nil) (i:=0) hn' r2 hb;refine⟨0,.addr q [],v,r1,.inl ⟨q,t,m,m',R,x,rfl,hR,hc.1,hc.2,hx,e3,?_,?_,?_⟩⟩
       .intro Pr Fs i hp;subst e1;exact⟨v,vs',rfl,hp,(Wd hn' r2 hb).2⟩
       .intro o;refine⟨o.1,fun tO site nV hh=>?_,fun h' fP Os i hh=>?_⟩
        .simp only[gb]at hh;split at hh
         .rename_i ht;exact⟨ht,JB ks aJ o.2 _ _ hn' hh⟩
         .simp at hh
        .obtain⟨_,_,e,k,_⟩:=hh;simp only[eZ]at e;obtain⟨rfl,-⟩:=e;exact k
       .intro hf;simp only[gV,bI]at hf;exact hf.1
      .simp at hb
     .simp at hb
    | cons _ _=>simp[gE]at hb
   | _=>simp[gE]at hb
  | cO t m m'=>
   have hn':(ks.filter PK.eG).length=0:=by rw[SI (by rfl)]at hn;simpa using hn
   simp only[gE]at hb;split at hb
   .rename_i q p uh;split at hb
    .rename_i R hR;simp only[cM]at hb;obtain⟨⟨td,md,xd⟩,hf,hb⟩:=hb;split at hb
     .rename_i htd;simp only at htd;subst htd;simp only[cM]at hb;obtain⟨⟨mx,x⟩,sg,hb⟩:=hb;split at hb
      .rename_i hs;simp only[cM,aK,aY]at hb;obtain⟨⟨od2,nV⟩,hb,e1,e2⟩:=hb;subst e2;obtain⟨e3,_⟩:=Wd (h:=h) (Pr:=Nil) (Fs:=fun _=>Nil) (i:=0) hn' r2 hb;refine⟨0,a,v,r1,.inr ⟨q,p,R,md,_,xd,m,m',mx,x,uh,hR,hf,sg,(by simp only[v5,uh,bI]at hlo;exact hlo.1),hs,e3,?_,?_,?_⟩⟩
       .intro Pr Fs i hp;subst e1;exact⟨v,vs',rfl,hp,(Wd hn' r2 hb).2⟩
       .intro o;refine⟨o.1,fun tO site nV hh=>?_,fun h' fP Os i hh=>?_⟩
        .simp only[gb,cM]at hh;obtain⟨rt5,h5,h6⟩:=hh;rw[JB ks aJ o.2 _ _ hn' h6];exact h5
        .obtain⟨_,_,e,k,_⟩:=hh;simp only[eZ]at e;obtain⟨rfl,-⟩:=e;exact k
       .intro hf;simp only[gV,bI]at hf;exact hf.1
      .simp at hb
     .simp at hb
    .simp at hb
   .simp at hb
end Go.V

import Derived.Laws.StructEq
import Derived.Laws.BytesString
import Derived.Laws.Tables
import Derived.Great.BuildSlice
import Derived.Laws.Append
import Derived.Room.Entries
import Derived.Test.YtpmimbgkiindbaaGreatAV0
set_option linter.unusedVariables false
set_option linter.unusedSimpArgs false
set_option linter.unusedSectionVars false
namespace Go.V
noncomputable section
open Go
structure nL (A:bU) (S:St) (d:Option Nat) (site:Nat):Prop where
 xo:A.xo=true->∀d',d=some d'->∀u,(S.get u).roots.contains d'=false
 pl:A.pl=true->∀d',d=some d'->∀u,(S.get u).gG d'=true
 fr:A.fr=true->site<1048576/\∀u,(S.get u).aR site (site+1)=true
theorem Mk.dP(s:Nat):∀{m:Mk},m.ax=true->(m.stamp s).fresh s (s+1)
 | .no,_=>trivial
 | .gone,_=>trivial
 | .own s0 m,h=>by
  simp only[Mk.ax,bH,n8]at h;simp only[Mk.stamp,aj h.1];exact⟨ck _,Nat.lt_succ_self _⟩
 | .pr a b,h=>by
  simp only[Mk.ax,bH]at h;exact⟨Mk.dP s h.1,Mk.dP s h.2⟩
theorem L4(t:Ty)(m:Mk)(x:t.den):focus t m x []=some ⟨t,m,x⟩:=by cases t<;>rfl
theorem Er(h:Array Obj)(t:Ty)(c:List Value)(base:fH):cm h t c base []=some (base,c):=by cases t<;>rfl
theorem xI(t:Ty)(x:t.den):bt t x []:=by cases t<;>trivial
theorem ab8{h:Array Obj}{S:St}{g:aA}{r:Nat}{R:aB}(hR:S.root r=some R){c:List Value}{F:BS}(hC:g.C r=c)
  (rep:az h g.Pr R.ty R.ms R.x c F):qe h S g (cV r R.ty R.ms R.x []) (dJ R.ty c):=by
 by_cases hu:R.ty=.unit
 .obtain⟨t,m,x,mem⟩:=R;simp only at hu rep⊢;subst hu;simp only[az]at rep;subst rep;simp only[cV,qe,dJ,Ty.agg];rfl
 .refine dc.rel rep (Es hR _ _ _ [] (g.base r) c F (L4 _ _ _) (xI _ _) ?_ rep) hu;rw[hC];exact Er _ _ _ _
theorem Cb{h:Array Obj}{S:St}{d5:aP}{g1:aA}{tmps:Array Value}{H:BS}(st:aD h ⟨S.sl,d5⟩ g1 tmps H){t:Ty}{m:Mk}{x:t.den}{c:List Value}{F:BS}
  (rep:az h g1.Pr t m x c F) (tg:aL g1.hd t m c) (hF:Sub F H) {A:bU} {d:Option Nat} {site:Nat} (ok:nL A S d site) {β:Bool} {v:AV} {rt':aP}
  (e:(dQ A d5 d site t m x false).dec β=some (v,rt')) :
  ∃g',aD h ⟨S.sl,rt'⟩ g' tmps Nil/\qe h ⟨S.sl,rt'⟩ g' v (dJ t c)/\g'.cR g1:=by
 cases d with
 | none=>simp only[dQ,Tr.dec,aK,aZ]at e;obtain⟨rfl,rfl⟩:=e;exact⟨g1,st.bx (Sub.nil _),by simp only[qe],.refl _⟩
 | some d=>
  simp only[dQ,e8,dV]at e;split at e
  .simp[Tr.dec]at e
  .rename_i hn;simp only[jy,kr,n6,Ff,n8]at hn;split at e
   .rename_i hs;simp only[Tr.dec,aK,aZ]at e;obtain⟨rfl,rfl⟩:=e;exact⟨g1,st.bx (Sub.nil _),by simp only[qe];exact⟨c,az.eK t hs rep,rfl⟩,.refl _⟩
   .split at e
    .rename_i hc;simp only[Tr.dec,aK,aZ]at e;obtain⟨rfl,rfl⟩:=e;have oc:=(az.stamp (h:=h) (Pr:=g1.Pr) site t).1 rep;have key:∀u,((⟨S.sl,d5⟩:St).get u).roots.contains d=false\/(∃lo hi,((⟨S.sl,d5⟩:St).get u).aR lo hi=true/\((⟨S.sl,d5⟩:St).get u).gG d=true/\(m.stamp site).fresh lo hi/\(none:Option Nat)=none):=by
      intro u;simp only[jy,bH]at hc;rcases hc with hc | ⟨⟨jJ,g8⟩,rO⟩
      .exact .inl (ok.xo hc d rfl u)
      .exact .inr ⟨site,site+1,(ok.fr jJ).2 u,ok.pl rO d rfl u,Mk.dP site g8,rfl⟩
     obtain⟨g',s1,s2,s3,s4,s5,s6⟩:=st.kT hn.1 oc (aL.stamp hn.2 t tg) hF none (fun b hb=>by simp at hb) key;refine⟨g',s1.bx (Sub.nil _),?_,s3⟩;have hR:(⟨S.sl,d5.aG d (some ⟨t,m.stamp site,x,false⟩)⟩:St).root d=some ⟨t,m.stamp site,x,false⟩:=by have:=St.bY (⟨S.sl,d5⟩:St) d (some ⟨t,m.stamp site,x,false⟩) d;rw[aj ⟨rfl,hn.1⟩]at this;exact this
     exact ab8 (R:=⟨t,m.stamp site,x,false⟩) hR s4 (by rw[s2];exact oc)
    .simp[Tr.dec]at e
theorem EB{h:Array Obj}{S:St}{d5:aP}{g1:aA}{tmps:Array Value}{H:BS}(st:aD h ⟨S.sl,d5⟩ g1 tmps H){t:Ty}{m:Mk}{x:t.den}{c:List Value}{F:BS}
  (rep:az h g1.Pr t m x c F) (tg:aL g1.hd t m c) (hF:Sub F H) {b:Nat} (hb:H b) (rN:¬ F b) (ho:ju h b c.toArray)
  {A:bU} {d:Option Nat} {site:Nat} (ok:nL A S d site) {β:Bool} {v:AV} {rt':aP}
  (e:(dQ A d5 d site t m x true).dec β=some (v,rt')) :
  ∃g',aD h ⟨S.sl,rt'⟩ g' tmps Nil/\qe h ⟨S.sl,rt'⟩ g' v (.pointer (some ⟨b,0,none⟩))/\g'.cR g1:=by
 cases d with
 | none=>simp only[dQ,Tr.dec,aK,aZ]at e;obtain⟨rfl,rfl⟩:=e;exact⟨g1,st.bx (Sub.nil _),by simp only[qe],.refl _⟩
 | some d=>
  simp only[dQ,aY]at e;split at e
  .simp[Tr.dec]at e
  .rename_i hn;simp only[jy,kr,n6,Ff,n8]at hn;split at e
   .rename_i hc;simp only[Tr.dec,aK,aZ]at e;obtain⟨rfl,rfl⟩:=e;have oc:=(az.stamp (h:=h) (Pr:=g1.Pr) site t).1 rep;obtain⟨g',s1,s2,s3,s4,s5,s6⟩:=st.kT hn.1 oc (aL.stamp hn.2 t tg) hF (some b)
     (fun b' hb'=>by simp only[aK]at hb';subst hb';exact⟨hb,rN,ho⟩) (fun u=>.inl (ok.xo hc d rfl u))
    refine⟨g',s1.bx (Sub.nil _),?_,s3⟩;simp only[qe];intro R hR d' hf';have cg:(⟨S.sl,d5.aG d (some ⟨t,m.stamp site,x,true⟩)⟩:St).root d=some ⟨t,m.stamp site,x,true⟩:=by have:=St.bY (⟨S.sl,d5⟩:St) d (some ⟨t,m.stamp site,x,true⟩) d;rw[aj ⟨rfl,hn.1⟩]at this;exact this
    rw[cg]at hR;simp only[aK]at hR;subst hR;refine⟨xI _ _,b,0,c,?_,rfl⟩;rw[Er];simp only[aA.base,s5,s4,d7]
   .simp[Tr.dec]at e
def Post(S:St)(g:aA)(w:World)(tmps:Array Value)(v:AV)(rt':aP)(val:Value)(w':World):Prop:=
 ∃g',aD w'.heap ⟨S.sl,rt'⟩ g' tmps Nil/\qe w'.heap ⟨S.sl,rt'⟩ g' v val/\g'.cR g/\kI g.L w w'
theorem Post.same{S:St}{g:aA}{w:World}{tmps:Array Value}{v:AV}{val:Value}(st:aD w.heap S g tmps Nil)(x:qe w.heap S g v val):Post S g w tmps v S.rt val w:=
 ⟨g,st,x,.refl g,.refl _ _⟩
end
end Go.V
namespace Go.V
noncomputable section
open Go
def r6(S:St)(g:aA)(w:World)(tmps:Array Value)(T:Tr (AV×aP))(val:Value)(w':World):Prop:=
 ∃β v rt',T.dec β=some (v,rt')/\Post S g w tmps v rt' val w'
def fy(P:Program)(S:St)(g:aA)(w:World)(tmps:Array Value)(T:Tr (AV×aP)):Result Next->Prop
 | .ok (.value val) w'=>r6 S g w tmps T val w'
 | .ok .skip w'=>r6 S g w tmps T undef w'
 | .ok (.enter f args) w'=>Calls P f args w' fun
   | .returned val,w''=>r6 S g w tmps T val w''
   | _,_=>False
 | _=>False
def bX(T:Tr (AV×aP)):Prop:=∀β,∃x,T.dec β=some x
theorem bX.fail:¬ bX .fail:=fun h=>by obtain⟨x,hx⟩:=h true;simp[Tr.dec]at hx
abbrev Goal(P:Program)(C:Ctx)(D:Den C)(S:St)(g:aA)(w:World)(tmps:Array Value)(a:Act)(ρ:Operand->AV)(A:bU)(site:Nat)(hint:Bool)(o:Oper):Prop:=
 bX (aX C D A ρ S.rt site hint o)->fy P S g w tmps (aX C D A ρ S.rt site hint o) ((execOp a.eval o).run P w)
section
variable {P:Program} {C:Ctx} {D:Den C} {S:St} {g:aA} {w:World} {tmps:Array Value} {a:Act} {ρ:Operand->AV}
theorem fy.value{T:Tr (AV×aP)}{r:Result Next}{val:Value}{w':World}(hr:r=.ok (.value val) w')(h:r6 S g w tmps T val w'):fy P S g w tmps T r:=by subst hr;exact h
theorem fy.ret{r:Result Next}{val:Value}{v:AV}(hr:r=.ok (.value val) w)(st:aD w.heap S g tmps Nil)(x:qe w.heap S g v val) :
  fy P S g w tmps (.ret (v,S.rt)) r:=
 fy.value hr ⟨true,v,S.rt,rfl,Post.same st x⟩
theorem QJ{v:AV}{b:Bool}{val:Value}(h:asBool v=some b)(x:qe w.heap S g v val):val=.bool b:=by
 cases v with
 | val t y=>cases t<;>simp[asBool]at h;subst h;simp only[qe,az]at x;obtain⟨c,rfl,rfl⟩:=x;rfl
 | cD y=>simp[asBool]at h;subst h;simpa only [qe] using x
 | _=>simp[asBool]at h
theorem Cd{k:IntKind}{n:Int}{val:Value}(x:qe w.heap S g (.val (.int k) n) val):val=.int k n:=by simp only[qe,az]at x;obtain⟨c,rfl,rfl⟩:=x;rfl
theorem AJ{b:Bool}{val:Value}(x:qe w.heap S g (.val .bool b) val):val=.bool b:=by simp only[qe,az]at x;obtain⟨c,rfl,rfl⟩:=x;rfl
theorem Jz{s:ByteArray}{val:Value}(x:qe w.heap S g (.val .str s) val):val=.string s:=by simp only[qe,az]at x;obtain⟨c,rfl,rfl⟩:=x;rfl
theorem u_(k:IntKind)(n:Int):qe w.heap S g (.val (.int k) n) (.int k n):=by simp only[qe,az];exact⟨_,rfl,rfl⟩
theorem De(b:Bool):qe w.heap S g (.val .bool b) (.bool b):=by simp only[qe,az];exact⟨_,rfl,rfl⟩
theorem Bg(s:ByteArray):qe w.heap S g (.val .str s) (.string s):=by simp only[qe,az];exact⟨_,rfl,rfl⟩
theorem Jh{v:AV}{k:IntKind}{n:Int}{val:Value}(h:v9 v=some (k,n))(x:qe w.heap S g v val):val=.int k n:=by
 cases v with
 | val t y=>cases t<;>simp[v9]at h;obtain⟨rfl,rfl⟩:=h;exact Cd x
 | _=>simp[v9]at h
variable {A:bU} {site:Nat} {hint:Bool} (bn:iC P C) (st:aD w.heap S g tmps Nil) (hρ:∀x,qe w.heap S g (ρ x) (a.eval x))
include st hρ
theorem ajY{o:Oper}{x:Operand}(ho:o.op=.move x):Goal P C D S g w tmps a ρ A site hint o:=by intro _;simp only[aX,ho];exact fy.ret (by simp[execOp,ho]) st (hρ x)
theorem aj5{o:Oper}{c x y:Operand}(ho:o.op=.pick c x y):Goal P C D S g w tmps a ρ A site hint o:=by
 intro ht;simp only[aX,ho]at ht⊢;cases hb:V.asBool (ρ c) with
 | none=>rw[hb]at ht;exact absurd ht bX.fail
 | some b=>
  have hv:=QJ hb (hρ c);cases b with
  | true=>exact fy.value (val:=a.eval x) (w':=w) (by simp[execOp,ho,hv,Go.asBool]) ⟨true,_,_,rfl,Post.same st (hρ x)⟩
  | false=>exact fy.value (val:=a.eval y) (w':=w) (by simp[execOp,ho,hv,Go.asBool]) ⟨true,_,_,rfl,Post.same st (hρ y)⟩
omit hρ in
theorem HF{r:Nat}{p:Path}{d:Dy}{v:Value}(hf:S.rt.focus r p=some d)(x:qe w.heap S g (.addr r p) v) :
  ∃R b off c F,S.root r=some R/\focus R.ty R.ms R.x p=some d/\bt R.ty R.x p/\cm w.heap R.ty (g.C r) (g.base r) p=some (some (b,off),c)/\v=.pointer (some ⟨b,off,none⟩)/\
   az w.heap g.Pr d.ty d.ms d.x c F/\yG w.heap (some (b,off)) c F/\g.G r b:=by
 simp only[aP.focus]at hf;split at hf
 .rename_i R hR;simp only[qe]at x;obtain⟨h1,b,off,c,h2,h3⟩:=x R hR d hf;obtain⟨base,c',F,q1,q2,q3,q4,q5,_⟩:=st.update hR hf h1;rw[h2]at q1;simp only[aK,aZ]at q1;obtain⟨rfl,rfl⟩:=q1;exact⟨R,b,off,c,F,hR,hf,h1,h2,h3,q2,q4,q5 b off rfl⟩
 .simp at hf
theorem akE{o:Oper}{x:Operand}(ho:o.op=.nilCheck x):Goal P C D S g w tmps a ρ A site hint o:=by
 intro ht;simp only[aX,ho]at ht⊢;have hx:=hρ x;cases hv:ρ x with
 | addr r p=>
  rw[hv]at hx ht;simp only at ht⊢;cases hf:S.rt.focus r p with
  | none=>rw[hf]at ht;exact absurd ht bX.fail
  | some d=>obtain⟨R,b,off,c,F,_,_,_,_,e,_⟩:=HF st hf hx;exact fy.ret (val:=a.eval x) (by simp[execOp,ho,e]) st hx
 | b_ t y=>rw[hv]at hx;have hx':=hx;simp only[qe]at hx';obtain⟨b,off,cs,e,_⟩:=hx';exact fy.ret (val:=a.eval x) (by simp[execOp,ho,e]) st hx
 | gE f c=>rw[hv]at hx;have hx':=hx;simp only[qe]at hx';obtain⟨vs,e,_⟩:=hx';exact fy.ret (val:=a.eval x) (by simp[execOp,ho,e]) st hx
 | _=>rw[hv]at ht;exact absurd ht bX.fail
theorem ajF{o:Oper}{op:UnOp}{t:TypeId}{x:Operand}(ho:o.op=.unOp op t x):Goal P C D S g w tmps a ρ A site hint o:=by
 intro ht;simp only[aX,ho]at ht⊢;have hx:=hρ x;cases op with
 | not=>
  split at ht
  .rename_i b _ hv;rw[hv]at hx;exact fy.ret (val:=.bool (!b)) (by simp[execOp,ho,AJ hx,Op.unary]) st (De _)
  .rename_i _ _ hc _;simp at hc
  .exact absurd ht bX.fail
 | neg=>
  split at ht
  .rename_i _ _ hc _;simp at hc
  .rename_i kd n _ hv;rw[hv]at hx;exact fy.ret (val:=.int kd (kd.wrap (0-n))) (by simp[execOp,ho,Cd hx,Op.unary,Op.intArith]) st (u_ _ _)
  .exact absurd ht bX.fail
 | _=>exact absurd ht bX.fail
omit st hρ in
theorem VU:∀(p:Path){t:Ty}{x:t.den}{d:Dy},focus t .no x p=some d->d.ms=.no/\qx p=false
 | [],t,x,d,h=>by rw[L4]at h;simp only[aK]at h;subst h;exact⟨rfl,rfl⟩
 | .fst::p,t,x,d,h=>by
  cases t with
  | pair a b=>simp only[focus,Mk.fst]at h;exact VU p h
  | _=>simp[focus]at h
 | .snd::p,t,x,d,h=>by
  cases t with
  | pair a b=>simp only[focus,Mk.snd]at h;exact VU p h
  | _=>simp[focus]at h
 | .idx i s::p,t,x,d,h=>by cases t<;>simp[focus]at h
end
end
theorem VV{C:Ctx}:∀(f:Nat){fs:List Field}{off:Nat}{T:Ty}{m:Mk}{x:T.den}{d:Dy},mX C fs off T->focus T m x (ic f)=some d->
  ∃fd,fs[f]? = some fd/\d.ty=C.ty fd.type/\fd.offset=off+eA T (ic f)/\(C.ty fd.type).nz=true/\qx (ic f)=false
 | 0,fs,off,T,m,x,d,hs,hf=>by
  cases fs with
  | nil=>simp only[mX]at hs;subst hs;simp[ic,focus]at hf
  | cons fd fs=>
   simp only[mX]at hs;obtain⟨b,rfl,h1,_,h2,h3⟩:=hs;simp only[ic,focus,aK]at hf;subst hf;refine⟨fd,rfl,rfl,?_,h2,rfl⟩;have:eA (Ty.pair (C.ty fd.type) b) (ic 0)=eA (C.ty fd.type) []:=rfl;rw[this];have:eA (C.ty fd.type) []=0:=by cases C.ty fd.type<;>rfl
   omega
 | f+1,fs,off,T,m,x,d,hs,hf=>by
  cases fs with
  | nil=>simp only[mX]at hs;subst hs;simp[ic,focus]at hf
  | cons fd fs=>simp only[mX]at hs;obtain⟨b,rfl,h1,_,h2,h3⟩:=hs;simp only[ic,focus]at hf;obtain⟨fd',q1,q2,q3,q4,q5⟩:=VV f h3 hf;refine⟨fd',by simpa using q1,q2,?_,q4,by simpa [ic,qx] using q5⟩;have:eA (Ty.pair (C.ty fd.type) b) (ic (f+1))=(C.ty fd.type).width+eA b (ic f):=rfl;omega
theorem Ty.kU{t:Ty}(h:t.nz=true):t≠.unit:=by rintro rfl;simp[Ty.nz]at h
theorem Gu{t:Ty}(h:t.nz=true)(ha:t.agg=false):t.width=1:=by cases t<;>simp_all [Ty.nz,Ty.agg,Ty.width]
section
variable {P:Program} {C:Ctx} {D:Den C} {S:St} {g:aA} {w:World} {tmps:Array Value} {a:Act} {ρ:Operand->AV}
variable {A:bU} {site:Nat} {hint:Bool} (bn:iC P C) (st:aD w.heap S g tmps Nil) (hρ:∀x,qe w.heap S g (ρ x) (a.eval x))
theorem GP{t:TypeId}(k:mD P C t)(hz:(C.ty t).nz=true){b o:Nat}{c:List Value}(hr:w.rangeAt b o c)(hl:c.length=(C.ty t).width) :
  (Instr.loadAt t (.pointer (some ⟨b,o,none⟩))).run P w=.ok (dJ (C.ty t) c) w:=by
 simp only[Instr.loadAt,Instr.sureAddr,loadVar,Sem.run_bind,Sem.run_pure,Result.andThen_ok,k.pg];by_cases ha:(C.ty t).agg=true
 .have h1:(loadCells ⟨b,o,none⟩ c.length).run P w=.ok c.toArray w:=run_loadCells_list (P:=P) w ⟨b,o,none⟩ c (fun j v hv=>by rw[Addr.add_mid];exact hr j v hv);rw[hl]at h1;simp only[ha,aY,Sem.run_bind,k.fL,Result.andThen_ok,h1,Sem.run_pure,dJ]
 .have vH:(C.ty t).agg=false:=by simpa using ha
  have hw:=Gu hz vH;have:∃v,c=[v]:=by
   rw[hw]at hl
   match c,hl with
   | [v],_=>exact⟨v,rfl⟩
  obtain⟨v,rfl⟩:=this;have:=hr 0 v rfl;simp only[qS]at this;simp[vH,Go.load,Go.run_load,this,dJ,Sem.run]
include bn st hρ
theorem ajV{o:Oper}{t:TypeId}{x:Operand}(ho:o.op=.load t x):Goal P C D S g w tmps a ρ A site hint o:=by
 intro ht;simp only[aX,ho]at ht⊢;have hx:=hρ x;by_cases hz:(C.ty t).nz=true
 .have k:=bn t hz;simp only[hz,aY]at ht⊢;cases hv:ρ x with
  | b_ t' y=>
   rw[hv]at hx ht;simp only[vf]at ht⊢;cases hc:qbv t' (C.ty t) y with
   | none=>rw[hc]at ht;exact absurd ht bX.fail
   | some z=>simp only[qe]at hx;obtain⟨b,off,cs,e,hp,hb,hs,rep⟩:=hx;have hw:=az.width t' rep;obtain⟨e1,jR⟩:=az.cast hc rep;subst e1;have hrun:=GP (w:=w) k hz (C9 hb hs) hw;refine fy.ret (v:=.val (C.ty t) z) (val:=dJ (C.ty t) (sub cs off (C.ty t).width)) ?_ st (by simp only[qe];exact⟨_,jR,rfl⟩);simp[execOp,ho,e,hrun]
  | addr r p=>
   rw[hv]at hx ht;simp only[vf]at ht⊢;cases hf:S.rt.focus r p with
   | none=>rw[hf]at ht;exact absurd ht bX.fail
   | some d=>
    rw[hf]at ht;simp only at ht⊢;by_cases hd:d.ty=C.ty t
    .simp only[hd,aY]at ht⊢;obtain⟨R,b,off,c,F,hR,ze,hin,ef,e,rep,zd,_⟩:=HF st hf hx;obtain⟨_,cs,z9,hs,hsub⟩:=zd b off rfl;have hw:=az.width d.ty rep;have m_:w.rangeAt b off c:=by have:=C9 (w:=w) z9.Cq hs;rw[hsub]at this;exact this
     have hrun:=GP (w:=w) k hz m_ (by rw[hw,hd]);obtain⟨dt,dm,dx⟩:=d;simp only at hd;subst hd;refine fy.ret (val:=dJ (C.ty t) c) ?_ st ?_
     .simp[execOp,ho,e,hrun]
     .exact dc.rel rep (Es hR _ _ _ p (some (b,off)) c F ze hin ef rep) (Ty.kU hz)
    .rw[af hd]at ht;exact absurd ht bX.fail
  | _=>rw[hv]at ht;exact absurd ht bX.fail
 .rw[af hz]at ht;exact absurd ht bX.fail
end
theorem bX.of{x:Option (AV×aP)}(h:bX (.of x)):∃y,x=some y:=by
 cases x with
 | none=>exact absurd h bX.fail
 | some y=>exact⟨y,rfl⟩
theorem iC.desc{P:Program}{C:Ctx}(h:iC P C){t:TypeId}{e:Ty}(ht:C.ty t=.sl e):∃u,P.underlying t=some (.slice u)/\C.ty u=e/\(C.ty u).nz=true:=by
 have k:=h t (by rw[ht];rfl);obtain⟨d,h1,h2⟩:=k.desc;rw[ht]at h2;cases d<;>simp only[oN]at h2<;>try (simp at h2)
 case slice u=>exact⟨u,h1,h2.1.symm,h2.2⟩
 case struct fs=>cases hl:fs.toList<;>rw[hl]at h2<;>simp[mX]at h2
theorem iC.str{P:Program}{C:Ctx}(h:iC P C){t:TypeId}(ht:C.ty t=.str):P.underlying t=some .string:=by
 have k:=h t (by rw[ht];rfl);obtain⟨d,h1,h2⟩:=k.desc;rw[ht]at h2;cases d<;>simp only[oN]at h2<;>try (simp at h2)
 case string=>exact h1
 case struct fs=>cases hl:fs.toList<;>rw[hl]at h2<;>simp[mX]at h2
theorem iC.bool{P:Program}{C:Ctx}(h:iC P C){t:TypeId}(ht:C.ty t=.bool):P.underlying t=some .bool:=by
 have k:=h t (by rw[ht];rfl);obtain⟨d,h1,h2⟩:=k.desc;rw[ht]at h2;cases d<;>simp only[oN]at h2<;>try (simp at h2)
 case bool=>exact h1
 case struct fs=>cases hl:fs.toList<;>rw[hl]at h2<;>simp[mX]at h2
theorem iC.int{P:Program}{C:Ctx}(h:iC P C){t:TypeId}{k:IntKind}(ht:C.ty t=.int k):P.underlying t=some (.int k):=by
 have kk:=h t (by rw[ht];rfl);obtain⟨d,h1,h2⟩:=kk.desc;rw[ht]at h2;cases d<;>simp only[oN]at h2<;>try (simp at h2)
 case int=>subst h2;exact h1
 case struct fs=>cases hl:fs.toList<;>rw[hl]at h2<;>simp[mX]at h2
theorem iC.pair{P:Program}{C:Ctx}(h:iC P C){t:TypeId}{a b:Ty}(ht:C.ty t=.pair a b):∃fs,P.underlying t=some (.struct fs)/\mX C fs.toList 0 (.pair a b):=by
 have kk:=h t (by rw[ht];rfl);obtain⟨d,h1,h2⟩:=kk.desc;rw[ht]at h2;cases d<;>simp only[oN]at h2<;>try (simp at h2)
 case struct fs=>exact⟨fs,h1,h2⟩
section
variable {P:Program} {C:Ctx} {D:Den C} {S:St} {g:aA} {w:World} {tmps:Array Value} {a:Act} {ρ:Operand->AV}
variable {A:bU} {site:Nat} {hint:Bool} (bn:iC P C) (st:aD w.heap S g tmps Nil) (hρ:∀x,qe w.heap S g (ρ x) (a.eval x))
include bn st hρ
theorem aiZ{o:Oper}{s:TypeId}{x:Operand}{f:Nat}(ho:o.op=.fieldAddr s x f):Goal P C D S g w tmps a ρ A site hint o:=by
 intro ht;simp only[aX,ho]at ht⊢;have hx:=hρ x;obtain⟨y,hy⟩:=bX.of ht;rw[hy];simp only[fk]at hy;obtain⟨v,hv,rfl⟩:=hy;have hsome:∀(T:Ty),C.ty s=T->∀(m:Mk)(z:T.den)(d:Dy),focus T m z (ic f)=some d->∃fs fd,P.underlying s=some (.struct fs)/\fs[f]? = some fd/\d.ty=C.ty fd.type/\
   fd.offset=eA T (ic f)/\(C.ty fd.type).nz=true/\qx (ic f)=false:=by
  intro T hT m z d hf;cases T with
  | pair a b=>obtain⟨fs,h1,h2⟩:=bn.pair hT;obtain⟨fd,q1,q2,q3,q4,q5⟩:=VV f h2 hf;exact⟨fs,fd,h1,by simpa using q1,q2,by omega,q4,q5⟩
  | _=>cases f<;>simp[ic,focus]at hf
 have hrun:∀(fs:Array Field)(fd:Field)(b off:Nat),P.underlying s=some (.struct fs)->fs[f]? = some fd->(C.ty fd.type).nz=true->
   (Instr.fieldAt s (.pointer (some ⟨b,off,none⟩)) f).run P w=.ok (.pointer (some ⟨b,off+fd.offset,none⟩)) w:=by
  intro fs fd b off h1 h2 h3;have k:=bn fd.type h3;have hp:=k.pos;have hne:(C.ty fd.type).width≠0:=by omega
  simp only[Instr.fieldAt,Instr.sureAddr,fieldPlace,Sem.run_bind,run_underlying h1,Result.andThen_ok,h2,Sem.run_pure,k.fL,af hne,Addr.add_mid]
 cases hρx:ρ x with
 | addr r p=>
  rw[hρx]at hx hv;simp only[BV]at hv;split at hv
  .rename_i d hf;split at hv
   .rename_i hc;simp only[aK]at hv;subst hv;obtain⟨d',hf'⟩:=xX.1 hc.2;obtain⟨R,b,off,c,F,hR,ze,hin,ef,e,rep,zd,_⟩:=HF st hf hx;obtain⟨fs,fd,h1,h2,h3,h4,h5,h6⟩:=hsome d.ty hc.1.symm _ _ _ hf';refine fy.ret (val:=.pointer (some ⟨b,off+fd.offset,none⟩)) (by simp[execOp,ho,e,hrun fs fd b off h1 h2 h5]) st ?_;simp only[qe];intro R' cg d2 ud;rw[hR]at cg;simp only[aK]at cg;subst cg;have KN:bt d.ty d.x (ic f):=zx _ _ h6 (u9 _ hf');obtain⟨base',c',F2,Fr,z⟩:=zip (ic f) _ _ _ c F (some (b,off)) d' rep hf' KN zd;refine⟨(yC p _ ze).2 ⟨hin,KN⟩,b,off+fd.offset,c',?_,rfl⟩;rw[u7 p _ ze ef,z.at_];obtain⟨q1,_,_⟩:=z.plain h6;rw[q1,h4];rfl
   .simp at hv
  .simp at hv
 | b_ t y=>
  rw[hρx]at hx hv;simp only[BV]at hv;split at hv
  .rename_i hT;cases hf:focus t .no y (ic f) with
   | none=>rw[hf]at hv;simp at hv
   | some d=>
    rw[hf]at hv;simp only[dw,aK]at hv;subst hv;simp only[qe]at hx;obtain⟨b,off,cs,e,hp,hb,hs,rep⟩:=hx;obtain⟨fs,fd,h1,h2,h3,h4,h5,h6⟩:=hsome t hT.symm _ _ _ hf;obtain⟨hm,_⟩:=VU _ hf;obtain⟨base',c',F2,Fr,z⟩:=zip (ic f) _ _ _ _ Nil none d rep hf (zx _ _ h6 (u9 _ hf)) (fun b o e=>by simp at e);obtain⟨q1,q2,q3⟩:=z.plain h6;have hl:=az.width t rep;refine fy.ret (val:=.pointer (some ⟨b,off+fd.offset,none⟩)) (by simp[execOp,ho,e,hrun fs fd b off h1 h2 h5]) st ?_;simp only[qe];refine⟨b,off+fd.offset,cs,rfl,hp,hb,by rw[h4];omega,?_⟩;have r2:=z.rep;rw[hm]at r2;have r3:=az.eK (F':=Nil) d.ty rfl r2;have e3:c'=sub cs (off+fd.offset) d.ty.width:=by rw[q2,h4];simp only[sub,yg,qU,uI];congr 1;omega
    rw[<-e3];exact r3
  .simp at hv
 | _=>rw[hρx]at hv;simp[BV]at hv
theorem ai8{o:Oper}{t:TypeId}{x i:Operand}(ho:o.op=.indexAddr t x i):Goal P C D S g w tmps a ρ A site hint o:=by
 intro ht;simp only[aX,ho]at ht⊢;have hx:=hρ x;have hi:=hρ i;simp only[xQ]at ht⊢;cases hn:v9 (ρ i) with
 | none=>rw[hn]at ht;exact absurd ht bX.fail
 | some kn=>
  obtain⟨k,n⟩:=kn;rw[hn]at ht;have ei:=Jh hn hi;simp only at ht⊢;have hrun:∀(u:TypeId)(b off len cap:Nat),P.underlying t=some (.slice u)->(C.ty u).nz=true->0<=n->n<(len:Int)->a.eval x=.slice (some ⟨b,off,none⟩) len cap->
    (execOp a.eval o).run P w=.ok (.value (.pointer (some ⟨b,off+n.toNat * (C.ty u).width,none⟩))) w:=by
   intro u b off len cap h1 h2 h3 h4 h5;simp[execOp,ho,ei,h5,Instr.indexAt,asIntOf,run_underlying h1,(bn u h2).fL,h3,h4,Addr.add_mid,Sem.run_bind]
  cases hv:ρ x with
  | val t' xs=>
   cases t' with
   | sl e=>
    rw[hv]at hx ht;simp only at ht⊢;by_cases hT:C.ty t=.sl e
    .simp only[hT,aY]at ht⊢;obtain⟨u,h1,h2,h3⟩:=bn.desc hT;obtain⟨⟨v,rt'⟩,hd⟩:=ht true;simp only[Tr.dec]at hd;by_cases hc:0<=n/\n<(xs.length:Int)
     .simp only[qe,az]at hx;obtain⟨c,⟨ad,cap,rfl,hl,hr⟩,e0⟩:=hx;have hne:xs≠[]:=by rintro rfl;simp at hc;omega
      obtain⟨b,off,cs,rfl,hp,hb,hs,re⟩:=hr hne;refine fy.value (hrun u b off _ cap h1 h3 hc.1 hc.2 (by rw[e0];rfl)) ⟨true,.b_ e (xs.getD n.toNat e.zero),S.rt,by simp[Tr.dec,hc.1,hc.2],Post.same st ?_⟩;simp only[qe];have hlt:n.toNat<xs.length:=by omega
      refine⟨b,off+n.toNat * (C.ty u).width,cs,rfl,hp,hb,?_,?_⟩
      .rw[h2];have:n.toNat * e.width+e.width<=xs.length * e.width:=by have:=fl e.width (show n.toNat+1<=xs.length by omega);rw[mb]at this;exact this
       omega
      .rw[h2];exact re n.toNat hlt
     .have:(decide (0<=n)&&decide (n<(xs.length:Int)))=false:=by simp only[oh,nH];omega
      rw[this]at hd;simp[Tr.dec]at hd
    .rw[af hT]at ht;exact absurd ht bX.fail
   | _=>rw[hv]at ht;exact absurd ht bX.fail
  | b7 r p s=>
   rw[hv]at hx ht;simp only at ht⊢;cases hf:S.rt.focus r p with
   | none=>rw[hf]at ht;exact absurd ht bX.fail
   | some d=>
    obtain⟨dt,dm,dx⟩:=d;cases dt with
    | sl e=>
     cases dm with
     | own s' m=>
      rw[hf]at ht;simp only at ht⊢;by_cases hT:s=s'/\C.ty t=.sl e
      .simp only[aj hT]at ht⊢;obtain⟨rfl,hT⟩:=hT;obtain⟨u,h1,h2,h3⟩:=bn.desc hT;obtain⟨⟨v,rt'⟩,hd⟩:=ht true;simp only[Tr.dec]at hd;by_cases hc:0<=n/\n<((dx:List e.den).length:Int)
       .simp only[qe]at hx;obtain⟨R,base,F,hR,ze,hin,ef,rep,hF⟩:=L9 st hf rfl hx;simp only[az]at rep;obtain⟨ad,cap,e0,hl,hr⟩:=rep;simp only[eS,iO]at e0;rcases hr with hr | ⟨b,cs,rfl,fb,hb,hs,Fs,pZ,zV,re⟩
        .omega
        .refine fy.value (hrun u b 0 _ cap h1 h3 hc.1 hc.2 e0) ⟨true,.addr r (p++[.idx n.toNat s]),S.rt,by simp[Tr.dec,hc.1,hc.2],Post.same st ?_⟩;have hlt:n.toNat<(dx:List e.den).length:=by omega
         simp only[qe];intro R' cg d2 ud;rw[hR]at cg;simp only[aK]at cg;subst cg;refine⟨(yC p _ ze).2 ⟨hin,?_⟩,b,0+n.toNat * (C.ty u).width,?_⟩
         .simp only[bt];exact⟨hlt,trivial⟩
         .refine⟨sub cs (n.toNat * e.width) e.width,?_,rfl⟩;rw[u7 p _ ze ef];obtain⟨ty,lo,hi',he,_⟩:=hb;simp only[e0,cm,he,Er,h2,kz]
       .have:(decide (0<=n)&&decide (n<((dx:List e.den).length:Int)))=false:=by simp only[oh,nH];omega
        rw[this]at hd;simp[Tr.dec]at hd
      .rw[af hT]at ht;exact absurd ht bX.fail
     | _=>rw[hf]at ht;exact absurd ht bX.fail
    | _=>rw[hf]at ht;exact absurd ht bX.fail
  | _=>rw[hv]at ht;exact absurd ht bX.fail
end
theorem az.len{h:Array Obj}{Pr:BS}{t:Ty}{m:Mk}{xs:(Ty.sl t).den}{c:List Value}{F:BS}(hm:m≠.gone)(r:az h Pr (.sl t) m xs c F):∃a cap,c=[.slice a xs.length cap]/\(xs.length≠0->a.isSome):=by
 cases m with
 | gone=>exact absurd rfl hm
 | no=>simp only[az]at r;obtain⟨a,cap,rfl,_,h2⟩:=r;refine⟨a,cap,rfl,fun hl=>?_⟩;obtain⟨b,o,cs,e,_⟩:=h2 (by rintro rfl;simp at hl);rw[e];rfl
 | pr _ _=>simp only[az]at r;obtain⟨a,cap,rfl,_,h2⟩:=r;refine⟨a,cap,rfl,fun hl=>?_⟩;obtain⟨b,o,cs,e,_⟩:=h2 (by rintro rfl;simp at hl);rw[e];rfl
 | own s mi=>
  simp only[az]at r;obtain⟨a,cap,rfl,h1,h2⟩:=r;refine⟨a,cap,rfl,fun hl=>?_⟩;rcases h2 with h2 | ⟨b,cs,e,_⟩
  .omega
  .rw[e];rfl
section
variable {P:Program} {C:Ctx} {D:Den C} {S:St} {g:aA} {w:World} {tmps:Array Value} {a:Act} {ρ:Operand->AV}
variable {A:bU} {site:Nat} {hint:Bool} (bn:iC P C) (st:aD w.heap S g tmps Nil) (hρ:∀x,qe w.heap S g (ρ x) (a.eval x))
include st in
theorem Hp{v:AV}{n:Int}{val:Value}(h:yJ S.rt v=some n)(x:qe w.heap S g v val):∃ad len cap,val=.slice ad len cap/\n=(len:Int)/\(len≠0->ad.isSome):=by
 cases v with
 | val t xs=>
  cases t with
  | sl e=>simp only[yJ,aK]at h;simp only[qe]at x;obtain⟨c,r,rfl⟩:=x;obtain⟨ad,cap,rfl,hs⟩:=az.len (by simp) r;exact⟨ad,_,cap,rfl,h.symm,hs⟩
  | _=>simp[yJ]at h
 | fh=>simp only[yJ,aK]at h;simp only[qe]at x;exact⟨none,0,0,x,by rw[<-h];rfl,by simp⟩
 | b7 r p s=>
  simp only[yJ]at h;split at h
  .rename_i e s' m xs hf;split at h
   .rename_i hs;simp only[aK]at h;simp only[qe]at x;obtain⟨R,base,F,_,_,_,_,rep,_⟩:=L9 st hf hs x;obtain⟨ad,cap,e0,lN⟩:=az.len (by simp) rep;simp only[eS,iO]at e0;exact⟨ad,_,cap,e0,h.symm,lN⟩
   .simp at h
  .simp at h
 | _=>simp[yJ]at h
include bn st hρ
theorem akB{o:Oper}{c:Call}(ho:o.op=.call c)(hc:c.callee=.builtin .len):Goal P C D S g w tmps a ρ A site hint o:=by
 intro ht;simp only[aX,ho,hc]at ht⊢;split at ht<;>try (rename_i hb _ _;simp at hb;done)
 .rename_i s _ _ hargs j6;have:∃x,c.args.toList=[x]/\ρ x=.val .str s:=by
   match jK:c.args.toList with
   | []=>rw[jK]at hargs;simp at hargs
   | [x]=>rw[jK]at hargs;simp only[cr,fY,eS,iO]at hargs;exact⟨x,rfl,hargs⟩
   | _::_::_=>rw[jK]at hargs;simp at hargs
  obtain⟨x,hx1,Xt⟩:=this;obtain⟨t,l,I6,Xk⟩:∃t l,c.argTypes.toList=t::l/\C.ty t=.str:=by
   match jK:c.argTypes.toList with
   | []=>rw[jK]at j6;simp at j6
   | t::l=>rw[jK]at j6;simp only[cr,eS]at j6;exact⟨t,l,rfl,j6.1⟩
  have hv:=hρ x;rw[Xt]at hv;have e1:c.args = #[x]:=by rw[<-pG (xs:=c.args),hx1]
  have e2:c.argTypes[0]? = some t:=by rw[<-xO,I6];rfl
  refine fy.ret (val:=.int .i64 (s.size:Nat)) ?_ st (u_ _ _);simp[execOp,ho,resolve,hc,invoke,builtin,Builtin.len_,e1,e2,Jz hv,run_underlying (bn.str Xk),goInt,Sem.run_bind]
 .rename_i x0 e _ _ hargs j6;have:∃x,c.args.toList=[x]/\ρ x=x0:=by
   match jK:c.args.toList with
   | []=>rw[jK]at hargs;simp at hargs
   | [x]=>rw[jK]at hargs;simp only[cr,fY,eS,iO]at hargs;exact⟨x,rfl,hargs⟩
   | _::_::_=>rw[jK]at hargs;simp at hargs
  obtain⟨x,hx1,Xt⟩:=this;obtain⟨t,l,I6,Xk⟩:∃t l,c.argTypes.toList=t::l/\C.ty t=.sl e:=by
   match jK:c.argTypes.toList with
   | []=>rw[jK]at j6;simp at j6
   | t::l=>rw[jK]at j6;simp only[cr,eS]at j6;exact⟨t,l,rfl,j6.1⟩
  have hv:=hρ x;rw[Xt]at hv;obtain⟨y,hy⟩:=bX.of ht;rw[hy];simp only[fk]at hy;obtain⟨n,hn,rfl⟩:=hy;obtain⟨ad,len,cap,ev,en,_⟩:=Hp st hn hv;obtain⟨u,h1,_,_⟩:=bn.desc Xk;have e1:c.args = #[x]:=by rw[<-pG (xs:=c.args),hx1]
  have e2:c.argTypes[0]? = some t:=by rw[<-xO,I6];rfl
  subst en;refine fy.ret (val:=.int .i64 (len:Nat)) ?_ st (u_ _ _);simp[execOp,ho,resolve,hc,invoke,builtin,Builtin.len_,e1,e2,ev,run_underlying h1,goInt,Sem.run_bind]
 all_goals (first | exact absurd ht bX.fail | (exfalso;contradiction) | trace_state)
end
section
variable {P:Program} {C:Ctx} {D:Den C} {S:St} {g:aA} {w:World} {tmps:Array Value} {a:Act} {ρ:Operand->AV}
variable {A:bU} {site:Nat} {hint:Bool} (bn:iC P C) (st:aD w.heap S g tmps Nil) (hρ:∀x,qe w.heap S g (ρ x) (a.eval x))
include bn st hρ
theorem acS{o:Oper}{s:TypeId}{x:Operand}{f:Nat}(ho:o.op=.field s x f):Goal P C D S g w tmps a ρ A site hint o:=by
 intro ht;simp only[aX,ho]at ht⊢;have hx:=hρ x;cases hv:ρ x with
 | val t y=>
  rw[hv]at hx ht;simp only at ht⊢;by_cases hT:t=C.ty s
  .subst hT;simp only[aY]at ht⊢;cases hf:focus (C.ty s) .no y (ic f) with
   | none=>rw[hf]at ht;exact absurd ht bX.fail
   | some d=>
    obtain⟨ta,tb,Wl⟩:∃ta tb,C.ty s=.pair ta tb:=by
     cases hs:C.ty s with
     | pair ta tb=>exact⟨ta,tb,rfl⟩
     | _=>exfalso;revert y;rw[hs];intro y _ _ _ hf;cases f<;>simp[ic,focus]at hf
    obtain⟨fs,h1,h2⟩:=bn.pair Wl;rw[<-Wl]at h2;obtain⟨fd,q1,q2,q3,q4,q5⟩:=VV f h2 hf;simp only[qe]at hx;obtain⟨c,rep,e⟩:=hx;have hm:=(VU _ hf).1;obtain⟨base',c',F2,Fr,z⟩:=zip (ic f) _ _ _ _ Nil none d rep hf (zx _ _ q5 (u9 _ hf)) (fun b o e=>by simp at e);obtain⟨_,e2,e3⟩:=z.plain q5;have r2:=z.rep;rw[hm]at r2;have r3:=az.eK (F':=Nil) d.ty rfl r2;have k:=bn fd.type q4;have q1':fs[f]? = some fd:=by simpa using q1
    have Wo:(C.ty s).agg=true:=by rw[Wl];rfl
    have hoff:fd.offset=eA (C.ty s) (ic f):=by omega
    have hrun:(part fd.type c.toArray fd.offset).run P w=.ok (dJ d.ty c') w:=by
     rw[e2];simp only[part,Sem.run_bind,k.pg,Result.andThen_ok];rw[<-q2];by_cases ha:d.ty.agg=true
     .have hsz:=k.fL w;rw[<-q2]at hsz;simp only[ha,aY,Sem.run_bind,hsz,Result.andThen_ok,Sem.run_pure,dJ];congr 2;apply nt;simp only[Array.toList_extract,Sm];rw[hoff];congr 2;omega
     .have vH:d.ty.agg=false:=by simpa using ha
      have hw:=Gu (by rw[q2];exact q4) vH;rw[hw]at e3⊢;have hlt:eA (C.ty s) (ic f)<c.length:=by omega
      have:(c.drop (eA (C.ty s) (ic f))).take 1=[c[eA (C.ty s) (ic f)]]:=by rw[Sn hlt];rfl
      simp[vH,hoff,dJ,this,gP hlt]
    refine fy.ret (v:=.val d.ty d.x) (val:=dJ d.ty c') ?_ st (by simp only[qe];exact⟨c',r3,rfl⟩);have:dJ (C.ty s) c=.agg c.toArray:=by simp[dJ,Wo]
    simp[execOp,ho,e,this,Instr.field,run_underlying h1,q1',asAgg,hrun,Sem.run_bind]
  .rw[af hT]at ht;exact absurd ht bX.fail
 | _=>rw[hv]at ht;exact absurd ht bX.fail
theorem acW{o:Oper}{t:TypeId}{x i:Operand}(ho:o.op=.index t x i):Goal P C D S g w tmps a ρ A site hint o:=by
 intro ht;simp only[aX,ho]at ht⊢;have hx:=hρ x;have hi:=hρ i;split at ht
 .rename_i s k n hT hv hn;rw[hv]at hx;have ei:=Jh hn hi;have ex:=Jz hx;obtain⟨⟨v,rt'⟩,hd⟩:=ht true;simp only[Tr.dec]at hd;by_cases hc:0<=n/\n<(s.size:Int)
  .have hlt:n.toNat<s.size:=by omega
   have e1:s[n.toNat]? = some (s.data.getD n.toNat 0):=by
    have:s[n.toNat]? = some s[n.toNat]:=by simp[hlt]
    rw[this];congr 1;have h2:n.toNat<s.data.size:=hlt;show s[n.toNat]=s.data.getD n.toNat 0;rw[pE,vB h2];rfl
   refine fy.value (val:=.int .u8 ((s.data.getD n.toNat 0).toNat:Int)) (w':=w) ?_ ⟨true,_,S.rt,by simp[Tr.dec,hc.1,hc.2],Post.same st (u_ _ _)⟩;simp[execOp,ho,ei,ex,Instr.index,asIntOf,run_underlying (bn.str hT),hc.1,e1,Sem.run_bind]
  .have:(decide (0<=n)&&decide (n<(s.size:Int)))=false:=by simp only[oh,nH];omega
   rw[this]at hd;simp[Tr.dec]at hd
 .exact absurd ht bX.fail
theorem aiY:∀{i:Nat}{v y:AV}{val:Value},L3 v i=some y->qe w.heap S g v val->∃vs u,val=.tuple vs/\vs[i]? = some u/\qe w.heap S g y u:=by
 intro i
 induction i with
 | zero=>
  intro v y val h x;unfold L3 at h;split at h
  .simp only[aK]at h;subst h;simp only[qe,aO]at x;obtain⟨vs,rfl,u,vs',rfl,h1,h2⟩:=x;exact⟨_,u,rfl,by simp,h1⟩
  .rename_i h0;simp at h0
  .simp at h
 | succ i ih=>
  intro v y val h x;unfold L3 at h;split at h
  .rename_i h0;simp at h0
  .rename_i a b n he;simp only[Nat.succ.injEq]at he;subst he;simp only[qe,aO]at x;obtain⟨vs,rfl,u,vs',rfl,h1,h2⟩:=x;obtain⟨vs2,u2,e1,e2,e3⟩:=ih h (val:=.tuple vs'.toArray) (by simp only[qe];exact⟨vs',rfl,h2⟩);simp only[Value.tuple.injEq]at e1;subst e1;exact⟨_,u2,rfl,by simpa using e2,e3⟩
  .simp at h
theorem abd{o:Oper}{x:Operand}{i:Nat}(ho:o.op=.extract x i):Goal P C D S g w tmps a ρ A site hint o:=by intro ht;simp only[aX,ho]at ht⊢;obtain⟨y,hy⟩:=bX.of ht;rw[hy];simp only[fk]at hy;obtain⟨v,hv,rfl⟩:=hy;obtain⟨vs,u,e1,e2,e3⟩:=aiY bn st hρ hv (hρ x);exact fy.ret (val:=u) (by simp[execOp,ho,e1,Instr.extract,e2]) st e3
theorem aaM{o:Oper}{f:Fn}{first caps:Array Operand}(ho:o.op=.makeFunc f first caps):Goal P C D S g w tmps a ρ A site hint o:=by
 intro ht;simp only[aX,ho]at ht⊢;cases f with
 | func f=>
  simp only at ht⊢;by_cases he:first.isEmpty=true
  .simp only[he,aY]at ht⊢;have e0:first = #[]:=by simpa using he
   refine fy.ret (val:=.func (.func f) #[] (caps.map a.eval)) (by simp only[execOp,ho,Instr.makeFunc,e0,Array.map_empty,Sem.run_bind,Sem.run_pure,Result.andThen_ok]) st ?_;simp only[qe];refine⟨(caps.map a.eval).toList,by rw[pG],?_⟩;rw[Array.toList_map];generalize caps.toList=l
   induction l with
   | nil=>simp only[List.foldr_nil,fY,aO]
   | cons x l ih=>simp only[Fy,cr,aO];exact⟨_,_,rfl,hρ x,ih⟩
  .rw[af he]at ht;exact absurd ht bX.fail
 | _=>exact absurd ht bX.fail
end
end Go.V
namespace Go.V
noncomputable section
open Go
section
variable {P:Program} {C:Ctx} {D:Den C} {S:St} {g:aA} {w:World} {tmps:Array Value} {a:Act} {ρ:Operand->AV}
variable {A:bU} {site:Nat} {hint:Bool} (bn:iC P C) (st:aD w.heap S g tmps Nil) (hρ:∀x,qe w.heap S g (ρ x) (a.eval x))
include bn in
theorem NH:∀(n d:Nat)(t:TypeId)(T:Ty),C.ty t=T->T.deep<=n->n<d->T.comp=true->T.nz=true->
  ∀{h:Array Obj}{Pr:BS}{x y:T.den}{cx cy:List Value}{F F':BS},az h Pr T .no x cx F->az h Pr T .no y cy F'->
  (Op.equalIn d t (dJ T cx) (dJ T cy)).run P w=.ok (pP T x y) w
 | 0,d,t,T,hT,hn,_,_,_,_,_,_,_,_,_,_,_,_,_=>by cases T<;>simp[Ty.deep]at hn
 | n+1,d,t,T,hT,hn,hd,hc,hz,h,Pr,x,y,cx,cy,F,F',rx,ry=>by
  obtain⟨d,rfl⟩:∃d',d=d'+1:=⟨d-1,by omega⟩
  cases T with
  | unit=>simp[Ty.nz]at hz
  | sl _=>simp[Ty.comp]at hc
  | int k=>simp only[az]at rx ry;subst rx;subst ry;exact run_equalIn_int w d t k k x y (bn.int hT)
  | bool=>simp only[az]at rx ry;subst rx;subst ry;exact run_equalIn_bool' w d t x y (bn.bool hT)
  | str=>simp only[az]at rx ry;subst rx;subst ry;exact run_equalIn_string w d t x y (bn.str hT)
  | pair ta tb=>
   obtain⟨fs,h1,h2⟩:=bn.pair hT;have k:=bn t (by rw[hT];rfl);obtain⟨hp,_⟩:=k.eq (by rw[hT];rfl) (by rw[hT];exact hc);have hfs:P.fieldsOf t=fs:=by simp[Program.fieldsOf,h1]
   have e1:dJ (Ty.pair ta tb) cx=.agg cx.toArray:=rfl;have e2:dJ (Ty.pair ta tb) cy=.agg cy.toArray:=rfl;rw[e1,e2,run_equalIn_struct w d t _ _ (by rw[hfs];exact h1) hp,hfs]
   -- yP fields,one behind yP other
   have key:∀(l:List Field)(off:Nat)(U:Ty),mX C l off U->U.comp=true->U.deep<=n+1->∀(px py:List Value){x y:U.den}{cx cy:List Value}{F F':BS},px.length=off->py.length=off->
     az h Pr U .no x cx F->az h Pr U .no y cy F'->(Op.eqFields d (px++cx).toArray (py++cy).toArray l).run P w=.ok (pP U x y) w:=by
    intro l
    induction l with
    | nil=>intro off U hs hc hdp px py x y cx cy F F' hpx W_ rx ry;simp only[mX]at hs;subst hs;simp[Op.eqFields,pP]
    | cons fd l ih=>
     intro off U hs hc hdp px py x y cx cy F F' hpx W_ rx ry;simp only[mX]at hs;obtain⟨b,rfl,q1,q2,q3,q4⟩:=hs;simp only[Ty.comp,bH]at hc;simp only[Ty.deep]at hdp;simp only[az]at rx ry;obtain⟨ca,cb,Fa,Fb,rfl,ra,rb,_⟩:=rx;obtain⟨ca',cb',Fa',Fb',rfl,ra',rb',_⟩:=ry;have kf:=bn fd.type q3;have hwa:=az.width _ ra;have Lw:=az.width _ ra';have hpart:∀(px ca cb:List Value),px.length=off->ca.length=(C.ty fd.type).width->(part fd.type (px++(ca++cb)).toArray fd.offset).run P w=.ok (dJ (C.ty fd.type) ca) w:=by
      intro px ca cb hpx hca;simp only[part,Sem.run_bind,kf.pg,Result.andThen_ok];by_cases ha:(C.ty fd.type).agg=true
      .simp only[ha,aY,Sem.run_bind,kf.fL,Result.andThen_ok,Sem.run_pure,dJ];congr 2;apply nt;simp only[Array.toList_extract,Sm];rw[q1,<-hpx,List.drop_left,<-hca];have:px.length+ca.length-px.length=ca.length:=by omega
       rw[this,List.take_left]
      .have vH:(C.ty fd.type).agg=false:=by simpa using ha
       have hw:=Gu q3 vH;rw[hw]at hca
       match ca,hca with
       | [v],_=>simp[vH,dJ,q1,<-hpx]
     have hne:fd.name≠ "_" := q2;simp only[Op.eqFields,hne,ne_eq,not_false_eq_true,aY,Sem.run_bind,hpart px ca cb hpx hwa,hpart py ca' cb' W_ Lw,Result.andThen_ok];have ih0:=NH n d fd.type _ rfl (by omega) (by omega) hc.1 q3 ra ra';rw[ih0];simp only[Result.andThen_ok,pP];cases hq:pP (C.ty fd.type) x.1 y.1 with
     | false=>simp
     | true=>simp only[cQ,e8,dV,qW];have:=ih (off+(C.ty fd.type).width) b q4 hc.2 (by omega) (px++ca) (py++ca') (by simp[hpx,hwa]) (by simp[W_,Lw]) rb rb';simpa [eG] using this
   have:=key fs.toList 0 _ h2 hc hn [] [] rfl rfl rx ry;simpa using this
def BO(S:aP):Tr AV->Tr (AV×aP)
 | .ret v=>.ret (v,S)
 | .br c (.ret v) .fail=>.br c (.ret (v,S)) .fail
 | .br c .fail (.ret v)=>.br c .fail (.ret (v,S))
 | _=>.fail
theorem Q1{S:aP}{T:Tr AV}{β:Bool}{v:AV}{rt:aP}(h:(BO S T).dec β=some (v,rt)):T.dec β=some v/\rt=S:=by
 unfold BO at h;split at h
 .simp only[Tr.dec,aK,aZ]at h;simp[Tr.dec,h.1,h.2]
 .rename_i c v';cases c<;>simp only[Tr.dec,aK,aZ]at h
  .simp at h
  .simp[Tr.dec,h.1,h.2]
 .rename_i c v';cases c<;>simp only[Tr.dec,aK,aZ]at h
  .simp[Tr.dec,h.1,h.2]
  .simp at h
 .simp[Tr.dec]at h
theorem LZ{op:BinOp}{t:TypeId}{x y:Operand}{va vb:Value}(h:(∃xs ys,va=.agg xs/\vb=.agg ys/\P.eqGuardType P.depth t=false)\/(va≠.nilIface/\∀xs,va≠.agg xs)) :
  (eqGuard op t x y va vb).run P w=.ok () w:=by
 unfold eqGuard;rcases h with⟨xs,ys,rfl,rfl,h⟩ | ⟨h1,h2⟩
 .cases op<;>simp[Sem.run_bind,h]
 .cases op<;>cases va<;>simp_all [Sem.run_bind]<;>cases vb<;>simp[Sem.run_bind]
include bn in
theorem ajp{op:BinOp}{t:TypeId}{x y:Operand}{v1 v2:AV}{va vb:Value}{v:AV}(h:(kJ (C.ty t) op v1 v2).dec true=some v)
    (ha:qe w.heap S g v1 va) (hb:qe w.heap S g v2 vb) :
    ∃val,(do eqGuard op t x y va vb;binOp op t va vb:Sem Value).run P w=.ok val w/\qe w.heap S g v val:=by
  cases v1 with
  | val t1 x1=>
    cases v2 with
    | val t2 x2=>
      cases t1 with
      | int ka=>
        cases t2 with
        | int kb=>
          obtain rfl:=Cd ha;obtain rfl:=Cd hb;have hg:(eqGuard op t x y (.int ka x1) (.int kb x2)).run P w=.ok () w:=LZ (.inr ⟨by simp,by simp⟩);simp only[Sem.run_bind,hg,Result.andThen_ok];cases op<;>simp only[kJ]at h
          case shl=>
            by_cases hc:x2<0
            . simp[hc,Tr.dec]at h
            . simp[hc,Tr.dec]at h
              subst h;exact⟨_,by simp[binOp,Op.shift,hc],u_ _ _⟩
          case shr=>
            by_cases hc:x2<0
            . simp[hc,Tr.dec]at h
            . simp[hc,Tr.dec]at h
              subst h;exact⟨_,by simp[binOp,Op.shift,hc],u_ _ _⟩
          case andNot=>simp[Tr.dec]at h
          all_goals
            by_cases hk:ka=kb
            . subst hk
              simp only[aY]at h
              first
              | (simp only[Tr.dec,aK]at h;subst h
                 first
                 | exact⟨_,by simp[binOp,Op.intArith,Op.intBits,Op.intCmp],u_ _ _⟩
                 | exact⟨_,by simp[binOp,Op.intArith,Op.intBits,Op.intCmp];rfl,De _⟩
                 | exact⟨_,by simp[binOp,Op.intArith,Op.intBits,Op.intCmp],De _⟩)
              | (by_cases hc:x2=0
                 . simp[hc,Tr.dec]at h
                 . simp[hc,Tr.dec]at h
                   subst h;exact⟨_,by simp[binOp,Op.intDiv,hc],u_ _ _⟩)
            . simp[hk,Tr.dec]at h
        | _=>simp[kJ,Tr.dec]at h
      | str=>
        cases t2 with
        | str=>
          obtain rfl:=Jz ha;obtain rfl:=Jz hb;have hg:(eqGuard op t x y (.string x1) (.string x2)).run P w=.ok () w:=LZ (.inr ⟨by simp,by simp⟩);simp only[Sem.run_bind,hg,Result.andThen_ok];cases op<;>simp only[kJ]at h
          case add=>
            by_cases hc:x1.size+x2.size<=2 ^ 47
            . simp only[hc,qT,Tr.dec,aK]at h
              subst h;refine⟨_,?_,Bg _⟩;have:¬ (((x1.size+x2.size:Nat):Int)>IntKind.i64.max):=by
                have:IntKind.i64.max=9223372036854775807:=by decide
                rw[this];omega
              simp only[binOp,Op.stringOp,this,dV];rfl
            . simp only[hc,decide_false,Tr.dec]at h
              simp at h
          all_goals first
            | (simp only[Tr.dec,aK]at h;subst h;exact⟨_,by simp[binOp,Op.stringOp],De _⟩)
            | simp[Tr.dec]at h
        | _=>simp[kJ,Tr.dec]at h
      | bool=>
        cases t2 with
        | bool=>
          obtain rfl:=AJ ha;obtain rfl:=AJ hb;have hg:(eqGuard op t x y (.bool x1) (.bool x2)).run P w=.ok () w:=LZ (.inr ⟨by simp,by simp⟩);simp only[Sem.run_bind,hg,Result.andThen_ok];simp only[kJ]at h;by_cases hT:C.ty t=.bool
          . simp only[hT,aY]at h
            have hu:=bn.bool hT;cases op<;>first
              | (simp only[Tr.dec,aK]at h;subst h;exact⟨_,by simp[binOp,Op.equal,Op.maxDepth,run_equalIn_bool' w 9999 t x1 x2 hu,Sem.run_bind],De _⟩)
              | simp[Tr.dec]at h
          . simp[hT,Tr.dec]at h
        | _=>simp[kJ,Tr.dec]at h
      | pair ta tb=>
        have h':(Fi (C.ty t) op (.pair ta tb) x1 t2 x2).dec true=some v:=by cases t2<;>simpa only [kJ] using h
        unfold Fi at h';by_cases hT:(Ty.pair ta tb).comp=true/\C.ty t=Ty.pair ta tb
        . rw[aj hT]at h'
          have kk:=bn t (by rw[hT.2];rfl);obtain⟨hp,hq⟩:=kk.eq (by rw[hT.2];rfl) (by rw[hT.2];exact hT.1);cases hc:qbv t2 (Ty.pair ta tb) x2 with
          | none=>rw[hc]at h';cases op<;>simp[Tr.dec]at h'
          | some z=>
            rw[hc]at h';simp only[qe]at ha hb;obtain⟨c1,r1,rfl⟩:=ha;obtain⟨c2,r2,rfl⟩:=hb;obtain⟨rfl,Dl⟩:=az.cast hc r2;have KK:(Ty.pair ta tb).deep<10000:=by rw[<-hT.2];exact kk.deep
            . have he:=NH (w:=w) bn _ 10000 t _ hT.2 (ck _) KK hT.1 rfl r1 Dl
              have e1:dJ (Ty.pair ta tb) c1=.agg c1.toArray:=rfl;have e2:dJ (Ty.pair ta tb) c2=.agg c2.toArray:=rfl;rw[e1,e2]at he⊢;have hg:(eqGuard op t x y (.agg c1.toArray) (.agg c2.toArray)).run P w=.ok () w:=LZ (.inl ⟨_,_,rfl,rfl,hq⟩);simp only[Sem.run_bind,hg,Result.andThen_ok];cases op<;>first
                | (simp only[Tr.dec,aK]at h';subst h';exact⟨_,by simp only[binOp,Op.equal,Op.maxDepth,Sem.run_bind,he,Result.andThen_ok,Sem.run_pure],De _⟩)
                | simp[Tr.dec]at h'
        . rw[af hT]at h';simp[Tr.dec]at h'
      | _=>simp[kJ,Tr.dec]at h
    | _=>cases t1<;>simp[kJ,Tr.dec]at h
  | _=>simp[kJ,Tr.dec]at h
end
end
section
variable {P:Program} {C:Ctx} {D:Den C} {S:St} {g:aA} {w:World} {tmps:Array Value} {a:Act} {ρ:Operand->AV}
variable {A:bU} {site:Nat} {hint:Bool} (bn:iC P C) (st:aD w.heap S g tmps Nil) (hρ:∀x,qe w.heap S g (ρ x) (a.eval x))
include bn st hρ
theorem acd{o:Oper}{op:BinOp}{t t2:TypeId}{x y:Operand}(ho:o.op=.binOp op t x y t2):Goal P C D S g w tmps a ρ A site hint o:=by
 intro ht;have hx:=hρ x;have hy:=hρ y;have WJ:ρ y≠.fh->aX C D A ρ S.rt site hint o=BO S.rt (kJ (C.ty t) op (ρ x) (ρ y)):=by
  intro hn;simp only[aX,ho];cases hv:ρ y with
  | fh=>exact absurd hv hn
  | _=>rfl
 by_cases hn:ρ y=.fh
 .simp only[aX,ho,hn]at ht⊢;rw[hn]at hy;simp only[qe]at hy;have hrun:∀(u:TypeId)(ad:Option Addr)(len cap:Nat),P.underlying t=some (.slice u)->a.eval x=.slice ad len cap->
    (Op.equal t (.slice ad len cap) (.slice none 0 0)).run P w=.ok ad.isNone w:=by
   intro u ad len cap h1 h2;have e0:Op.equal t (.slice ad len cap) (.slice none 0 0)=Op.equalIn (9999+1) t (.slice ad len cap) (.slice none 0 0):=rfl;rw[e0];unfold Op.equalIn;cases ad<;>simp only[Sem.run_bind,run_underlying h1,Result.andThen_ok,Sem.run_pure,Option.isNone_none,Option.isNone_some]
  have hg:∀ad len cap,(eqGuard op t x y (.slice ad len cap) (.slice none 0 0)).run P w=.ok () w:=fun ad len cap=>LZ (.inr ⟨by simp,by simp⟩);split at ht
  .rename_i e n hT hl;obtain⟨ad,len,cap,ev,en,hs⟩:=Hp st hl hx;obtain⟨u,h1,_,_⟩:=bn.desc hT;subst en;refine fy.value (val:=.bool ad.isNone) (w':=w) ?_ ⟨ad.isNone,.val .bool ad.isNone,S.rt,?_,Post.same st (De _)⟩
   .have:=hg ad len cap;simp[execOp,ho,ev,hy,this,binOp,hrun u ad len cap h1 ev,Sem.run_bind]
   .simp only[Tr.dec,eB];by_cases h0:len=0
    .simp[h0]
    .have:=hs h0;have h3:ad.isNone=false:=by simpa using this
     simp[h0,h3]
  .rename_i e n hT hl;obtain⟨ad,len,cap,ev,en,hs⟩:=Hp st hl hx;obtain⟨u,h1,_,_⟩:=bn.desc hT;subst en;refine fy.value (val:=.bool (!ad.isNone)) (w':=w) ?_ ⟨!ad.isNone,.val .bool (!ad.isNone),S.rt,?_,Post.same st (De _)⟩
   .have:=hg ad len cap;simp[execOp,ho,ev,hy,this,binOp,hrun u ad len cap h1 ev,Sem.run_bind]
   .simp only[Tr.dec,eB];by_cases h0:len=0
    .simp[h0]
    .have:=hs h0;have h3:ad.isNone=false:=by simpa using this
     simp[h0,h3]
  .exact absurd ht bX.fail
 .rw[WJ hn]at ht⊢;obtain⟨⟨v,rt'⟩,hd⟩:=ht true;obtain⟨h1,rfl⟩:=Q1 hd;obtain⟨val,h2,h3⟩:=ajp bn (x:=x) (y:=y) h1 hx hy;refine fy.value (val:=val) (w':=w) ?_ ⟨true,v,S.rt,hd,Post.same st h3⟩;have:execOp a.eval o=(do pure (.value (<- (do eqGuard op t x y (a.eval x) (a.eval y);binOp op t (a.eval x) (a.eval y))))):=by simp[execOp,ho]
  rw[this];rw[Sem.run_bind,h2];rfl
theorem HV:∀(ns:List Int)(s:ByteArray),ns.foldl (fun r n=>r.push (UInt8.ofNat n.toNat)) s=⟨s.data++(ns.map fun n=>UInt8.ofNat n.toNat).toArray⟩
 | [],s=>by simp
 | n::ns,s=>by
  simp only[nJ];rw[HV ns];simp[ByteArray.push]
theorem aaW{o:Oper}{src dst:TypeId}{x:Operand}(ho:o.op=.convert src dst x):Goal P C D S g w tmps a ρ A site hint o:=by
 intro ht;simp only[aX,ho]at ht⊢;have hx:=hρ x;split at ht
 .rename_i k1 kd k2 n h1 h2 hv;rw[hv]at hx;exact fy.ret (val:=.int kd (kd.wrap n)) (by simp[execOp,ho,convert,run_underlying (bn.int h1),run_underlying (bn.int h2),Cd hx,Conv.intToInt,Sem.run_bind]) st (u_ _ _)
 .rename_i s h1 h2 hv;rw[hv]at hx;exact fy.ret (val:=.string s) (by simp[execOp,ho,convert,run_underlying (bn.str h1),run_underlying (bn.str h2),Jz hx,Sem.run_bind]) st (Bg _)
 .rename_i _ h1 h2;cases hr:rd S.rt (.sl (.int .u8)) (ρ x) with
  | none=>rw[hr]at ht;exact absurd ht bX.fail
  | some xs=>
   obtain⟨c,ev,rep⟩:=qM st _ hr hx;simp only[az]at rep;obtain⟨ad,cap,rfl,hl,re⟩:=rep;have ev':a.eval x=.slice ad xs.length cap:=by rw[ev];rfl
   obtain⟨u,q1,q2,_⟩:=bn.desc h1;have hu:=bn.int q2;simp only;refine fy.ret (val:=.string ⟨(xs.map fun n=>UInt8.ofNat n.toNat).toArray⟩) ?_ st (Bg _);have KI:(Conv.bytesToString (.slice ad xs.length cap)).run P w=.ok (.string ⟨(xs.map fun n=>UInt8.ofNat n.toNat).toArray⟩) w:=by
    by_cases hne:xs=[]
    .subst hne;cases ad with
     | none=>simp[Conv.bytesToString];rfl
     | some ad=>have:=run_bytesToString (P:=P) w ad 0 cap [] (by simp[loadCells,loadCellsFrom]);simpa [HV bn st hρ] using this
    .obtain⟨b,off,cs,rfl,hp,hb,hs,re⟩:=re hne;have fS:sub cs off xs.length=xs.map (Value.int .u8):=by
      apply rL;intro i;by_cases hi:i<xs.length
      .have:=re i hi;have mF:(Ty.int .u8).width=1:=rfl;simp only[mF,Nat.mul_one]at this hs;have e1:(sub cs (off+i) 1)[0]? = some (Value.int .u8 xs[i]):=by
        rw[this];have:xs.getD i (Ty.zero (.int .u8))=xs[i]:=by simp[List.getD,hi]
        rw[this];rfl
       simp only[sub,gj,iE]at e1⊢;simp only[hi,aY,Fg,gP hi,d7];simpa using e1
      .rw[pF (by simp[sub];omega),pF (by simp;omega)]
     have mF:(Ty.int .u8).width=1:=rfl;simp only[mF,Nat.mul_one]at hs;have m_:=C9 (w:=w) hb hs;have iI:=run_loadCells_list (P:=P) w ⟨b,off,none⟩ (sub cs off xs.length) (fun j v hv=>by rw[Addr.add_mid];exact m_ j v hv);rw[Gl hs,fS]at iI;have:=run_bytesToString (P:=P) w ⟨b,off,none⟩ xs.length cap xs iI;rw[this,HV bn st hρ];simp
   have:=run_convert_bytes_string (P:=P) w src dst u ad xs.length cap q1 hu (bn.str h2);simp[execOp,ho,ev',this,KI,Sem.run_bind]
 .exact absurd ht bX.fail
end
section
variable {P:Program} {C:Ctx} {D:Den C} {S:St} {g:aA} {w:World} {tmps:Array Value} {a:Act} {ρ:Operand->AV}
variable {A:bU} {site:Nat} {hint:Bool} (bn:iC P C) (st:aD w.heap S g tmps Nil) (hρ:∀x,qe w.heap S g (ρ x) (a.eval x))
theorem Rg{v:Value}{k:IntKind}{n:Int}{y:Nat}{code:BoundsCode}(hv:v=.int k n)(h0:0<=n)(h1:n<=(y:Int)) :
  (Instr.sliceBound v y code).run P w=.ok n.toNat w:=by
 subst hv;simp[Instr.sliceBound,asIntOf,h0,h1,Sem.run_bind]
include hρ in
theorem Aw{lo hi:Option Operand}{len cap:Nat}{l h:Int}{I_:Bool}(hl:Js (lo.map ρ)=some l)(hh:Eo (len:Int) (hi.map ρ)=some h)(h0:0<=l)(h1:l<=h)(h2:h<=(len:Int))(h3:len<=cap) :
  (Instr.sliceBounds I_ len cap (lo.map a.eval) (hi.map a.eval) none).run P w=.ok (l.toNat,h.toNat,cap) w:=by
 have ehi:∀(code:BoundsCode),hi=none/\h=(len:Int)\/∃v,hi=some v/\(Instr.sliceBound (a.eval v) cap code).run P w=.ok h.toNat w:=by
  intro code;cases hi with
  | none=>simp only[Fz,Eo,aK]at hh;exact .inl ⟨rfl,hh.symm⟩
  | some v=>simp only[d7,Eo,fk]at hh;obtain⟨⟨k,n⟩,hn,e⟩:=hh;simp only at e;subst e;exact .inr ⟨v,rfl,Rg (Jh hn (hρ v)) (by omega) (by omega)⟩
 have elo:lo=none/\l=0\/∃v,lo=some v/\(Instr.sliceBound (a.eval v) h.toNat .sliceB).run P w=.ok l.toNat w:=by
  cases lo with
  | none=>simp only[Fz,Js,aK]at hl;exact .inl ⟨rfl,hl.symm⟩
  | some v=>simp only[d7,Js,fk]at hl;obtain⟨⟨k,n⟩,hn,e⟩:=hl;simp only at e;subst e;exact .inr ⟨v,rfl,Rg (Jh hn (hρ v)) h0 (by omega)⟩
 unfold Instr.sliceBounds;rcases ehi (if I_ then .sliceAcap else .sliceAlen) with⟨rfl,rfl⟩ | ⟨vh,rfl,eh⟩<;>rcases elo with⟨rfl,rfl⟩ | ⟨vl,rfl,el⟩
 .simp[Sem.run_bind]
 .simp only[eB]at el;simp[Sem.run_bind,el]
 .simp[Sem.run_bind,eh]
 .simp[Sem.run_bind,eh,el]
include bn st hρ
theorem ado{o:Oper}{t:TypeId}{x lop:Operand}{hi:Option Operand}(ho:o.op=.slice t x (some lop) hi none){r:Nat}{p:Path}{s:Nat}{e:Ty}(hv:ρ x=.b7 r p s)(hT:C.ty t=.sl e)
  (ht:bX (uL S.rt e r p s (ρ lop) (hi.map ρ))):fy P S g w tmps (uL S.rt e r p s (ρ lop) (hi.map ρ)) ((execOp a.eval o).run P w):=by
 have hx:=hρ x;rw[hv]at hx;unfold uL at ht⊢;cases hl:v9 (ρ lop) with
 | none=>rw[hl]at ht;exact absurd ht bX.fail
 | some kl=>
  cases hhi:hi.map ρ with
  | some _=>rw[hl,hhi]at ht;exact absurd ht bX.fail
  | none=>
   rw[hl,hhi]at ht;simp only at ht⊢;cases hf:S.rt.focus r p with
   | none=>rw[hf]at ht;exact absurd ht bX.fail
   | some d=>
    obtain⟨dt,dm,dx⟩:=d;cases dt with
    | sl e'=>
     cases dm with
     | own s' m=>
      rw[hf]at ht;simp only at ht⊢;by_cases hs:s=s'/\e=e'
      .simp only[aj hs]at ht⊢;obtain⟨rfl,rfl⟩:=hs;obtain⟨⟨v,rt'⟩,hd⟩:=ht true;simp only[Tr.dec]at hd;by_cases hc:0<=kl.2/\kl.2<=((dx:List e.den).length:Int)
       .obtain⟨u,h1,h2,h3⟩:=bn.desc hT;simp only[qe]at hx;obtain⟨R,base,F,hR,ze,hin,ef,rep,hF⟩:=L9 st hf rfl hx;simp only[az]at rep;obtain⟨ad,cap,e0,hlc,hr⟩:=rep;simp only[eS,iO]at e0;have hb:=Aw (P:=P) (I_:=true) hρ (lo:=some lop) (hi:=hi) (l:=kl.2) (h:=((dx:List e.den).length:Int)) (len:=(dx:List e.den).length) (cap:=cap) (by simp[Js,hl]) (by rw[hhi];rfl) hc.1 hc.2 (e_ _) hlc;rw[d7,eB]at hb;have ku:=bn u h3;refine fy.value (val:=.slice (if cap=kl.2.toNat then ad else ad.map (·.add (kl.2.toNat * (C.ty u).width))) ((dx:List e.den).length-kl.2.toNat) (cap-kl.2.toNat)) (w':=w) ?_
         ⟨true,.view r p s kl.2.toNat (dx:List e.den).length,S.rt,by simp[Tr.dec,hc.1,hc.2],Post.same st ?_⟩
        .simp[execOp,ho,e0,Instr.sliceAt,Instr.slice,run_underlying h1,Sem.run_bind,hb,ku.fL]
        .simp only[qe];intro R' cg t2 m2 xs2 ud;rw[hR]at cg;simp only[aK]at cg;subst cg;rw[ze]at ud;simp only[aK,Dy.mk.injEq,Ty.sl.injEq]at ud;obtain⟨rfl,_⟩:=ud;refine⟨hin,base,ad,(dx:List e.den).length,cap,by rw[ef,e0],by omega,ck _,by rw[h2]⟩
       .have:(decide (0<=kl.2)&&decide (kl.2<=((dx:List e.den).length:Int)))=false:=by simp only[oh,nH];omega
        rw[this]at hd;simp[Tr.dec]at hd
      .rw[af hs]at ht;exact absurd ht bX.fail
     | _=>rw[hf]at ht;exact absurd ht bX.fail
    | _=>rw[hf]at ht;exact absurd ht bX.fail
theorem adg{o:Oper}{t:TypeId}{x:Operand}{lo hi:Option Operand}(ho:o.op=.slice t x lo hi none)(ok:nL A S o.dst site):Goal P C D S g w tmps a ρ A site hint o:=by
 intro ht;simp only[aX,ho]at ht⊢;have hx:=hρ x;unfold uE at ht⊢;split at ht
 . -- a string
  rename_i s hv hT;rw[hv]at hx;have ex:=Jz hx;split at ht
  .rename_i l h hl hh;obtain⟨⟨v,rt'⟩,hd⟩:=ht true;by_cases hc:0<=l/\l<=h/\h<=(s.size:Int)
   .have hb:=Aw (P:=P) (I_:=false) hρ (cap:=s.size) hl hh hc.1 hc.2.1 hc.2.2 (ck _);refine fy.value (val:=.string (s.extract l.toNat h.toNat)) (w':=w) ?_ ⟨true,.val .str (s.extract l.toNat h.toNat),S.rt,?_,Post.same st (Bg _)⟩
    .simp[execOp,ho,ex,Instr.sliceAt,Instr.slice,run_underlying (bn.str hT),Sem.run_bind,hb]
    .simp[Tr.dec,hc.1,hc.2.1,hc.2.2]
   .have:(decide (0<=l)&&decide (l<=h)&&decide (h<=(s.size:Int)))=false:=by simp only[oh,nH];omega
    rw[this]at hd;simp[Tr.dec]at hd
  .exact absurd ht bX.fail
 . -- a shared row
  rename_i e xs e' hv hT;rw[hv]at hx;split at ht
  .rename_i l h hl hh;by_cases hee:e=e'
   .subst hee;simp only[aY]at ht⊢;obtain⟨⟨v,rt'⟩,hd⟩:=ht true;by_cases hc:0<=l/\l<=h/\h<=(xs.length:Int)
    .obtain⟨u,h1,h2,h3⟩:=bn.desc hT;simp only[qe,az]at hx;obtain⟨c,⟨ad,cap,rfl,hlc,re⟩,ev⟩:=hx;have ev':a.eval x=.slice ad xs.length cap:=ev;have hb:=Aw (P:=P) (I_:=true) hρ (cap:=cap) hl hh hc.1 hc.2.1 hc.2.2 hlc;have ku:=bn u h3;refine fy.value (val:=.slice (if cap=l.toNat then ad else ad.map (·.add (l.toNat * (C.ty u).width))) (h.toNat-l.toNat) (cap-l.toNat)) (w':=w) ?_
      ⟨true,.val (.sl e) ((xs.take h.toNat).drop l.toNat),S.rt,?_,Post.same st ?_⟩
     .simp[execOp,ho,ev',Instr.sliceAt,Instr.slice,run_underlying h1,Sem.run_bind,hb,ku.fL]
     .simp[Tr.dec,hc.1,hc.2.1,hc.2.2]
     .simp only[qe,az];have hlen:((xs.take h.toNat).drop l.toNat).length=h.toNat-l.toNat:=by rw[x9,e9];omega
      refine⟨_,⟨_,cap-l.toNat,rfl,by omega,?_⟩,by rw[hlen];rfl⟩;intro hne;have hpos:0<h.toNat-l.toNat:=by rw[<-hlen];exact pH.2 hne
      obtain⟨b,off,cs,rfl,hp,se,hs,re⟩:=re (by rintro rfl;simp at hc;omega);have jK:¬ cap=l.toNat:=by omega
      refine⟨b,off+l.toNat * e.width,cs,by rw[af jK,h2];simp[Addr.add_mid],hp,se,?_,fun i hi=>?_⟩
      .rw[hlen];have:l.toNat * e.width+(h.toNat-l.toNat) * e.width<=xs.length * e.width:=by rw[<-jA];exact fl _ (by omega)
       omega
      .rw[hlen]at hi;have:=re (l.toNat+i) (by omega);have e1:((xs.take h.toNat).drop l.toNat).getD i e.zero=xs.getD (l.toNat+i) e.zero:=by simp only[List.getD,iE,gj];rw[aj (by omega)]
       rw[e1];have e2:off+l.toNat * e.width+i * e.width=off+(l.toNat+i) * e.width:=by rw[jA];omega
       rw[e2];exact this
    .have:(decide (0<=l)&&decide (l<=h)&&decide (h<=(xs.length:Int)))=false:=by simp only[oh,nH];omega
     rw[this]at hd;simp[Tr.dec]at hd
   .rw[af hee]at ht;exact absurd ht bX.fail
  .exact absurd ht bX.fail
 . -- an own row,from its begin
  rename_i r p s e hv hT;rw[hv]at hx;cases hlo:lo.map ρ with
  | some v=>
   rw[hlo]at ht;simp only at ht⊢;cases lo with
   | none=>simp at hlo
   | some lop=>simp only[d7,aK]at hlo;subst hlo;exact ado bn st hρ ho hv hT ht
  | none=>
   rw[hlo]at ht;simp only at ht⊢;cases sq:tk S.rt (.sl e) (.b7 r p s) with
   | none=>rw[sq]at ht;exact absurd ht bX.fail
   | some z=>
    obtain⟨m,xs,d5⟩:=z;rw[sq]at ht;cases m with
    | own s1 m=>
     simp only at ht⊢;cases hh:Eo (xs.length:Int) (hi.map ρ) with
     | none=>rw[hh]at ht;exact absurd ht bX.fail
     | some h=>
      rw[hh]at ht;simp only at ht⊢;by_cases oF:m.ax=true
      .simp only[oF,aY]at ht⊢;obtain⟨⟨v,rt'⟩,hd⟩:=ht true;by_cases hc:0<=h/\h<=(xs.length:Int)
       .have hd':(dQ A d5 o.dst site (.sl e) (.own 0 m) (xs.take h.toNat) false).dec true=some (v,rt'):=by simpa only [hc.1,hc.2,qT,Bool.and_true,Tr.dec] using hd
        obtain⟨u,h1,h2,h3⟩:=bn.desc hT;have ku:=bn u h3;obtain⟨c,g1,F,ev,cF⟩:=yK _ st sq hx;have rep:=cF.rep;simp only[az]at rep;obtain⟨ad,cap,rfl,hlc,re⟩:=rep;have ev':a.eval x=.slice ad xs.length cap:=ev;have hb:=Aw (P:=P) (lo:=none) (I_:=true) hρ (cap:=cap) (l:=0) rfl hh (by omega) hc.1 hc.2 hlc;have WN:lo=none:=by
         cases lo with
         | none=>rfl
         | some v=>simp at hlo
        subst WN;have hlen:(xs.take h.toNat).length=h.toNat:=by rw[e9];omega
        have jR:az w.heap g1.Pr (.sl e) (.own 0 m) (xs.take h.toNat) [.slice ad h.toNat cap] F:=by
         simp only[az];refine⟨ad,cap,by rw[hlen],by rw[hlen];omega,?_⟩;rcases re with re | ⟨b,cs,rfl,fb,hbk,hs,Fs,pZ,lC,re⟩
         .exact .inl re
         .refine .inr ⟨b,cs,rfl,fb,hbk,hs,Fs,pZ,lC,fun i hi=>?_⟩;rw[hlen]at hi;have:=re i (by omega);have e1:(xs.take h.toNat).getD i e.zero=xs.getD i e.zero:=by simp only[List.getD,gj];rw[aj hi]
          rw[e1];exact this
        obtain⟨g2,s1',s2,s3⟩:=Cb (st:=cF.st) jR (aL.ax _ (by simp[Mk.ax,oF,n8])) (fun b hb=>.inr hb) ok hd';have ead:(if cap=0 then ad else ad.map (·.add (0 * (C.ty u).width)))=ad:=by
         split
         .rfl
         .cases ad<;>simp[Addr.add]
        refine fy.value (val:=.slice ad h.toNat cap) (w':=w) ?_ ⟨true,v,rt',hd,g2,s1',s2,cF.same.trans s3,.refl _ _⟩;simp only[Fz]at hb;simp[execOp,ho,ev',Instr.sliceAt,Instr.slice,run_underlying h1,Sem.run_bind,hb,ku.fL];intro _;cases ad<;>simp[Addr.add]
       .have:(decide (0<=h)&&decide (h<=(xs.length:Int)))=false:=by simp only[oh,nH];omega
        rw[this]at hd;simp[Tr.dec]at hd
      .rw[af oF]at ht;exact absurd ht bX.fail
    | _=>exact absurd ht bX.fail
 .exact absurd ht bX.fail
end
theorem UO{h:Array Obj}{S:St}{g:aA}{tmps:Array Value}{H:BS}(st:aD h S g tmps H){t:Ty}{m:Mk}{x:t.den}{c:List Value}{F:BS}
  (rep:az h g.Pr t m x c F) (hF:Sub F H) (hm:m.whole=true) :
  ∃g',aD h S g' tmps (fun b=>H b/\¬ F b)/\az h g'.Pr t .no x c Nil/\g'.cR g/\Sub g.Pr g'.Pr:=
 ⟨_,st.cO F hF,az.share t hm rep,⟨rfl,rfl,rfl⟩,fun b hb=>.inl hb⟩
theorem aD.jB{h:Array Obj}{S:St}{g:aA}{tmps:Array Value}{H:BS}(st:aD h S g tmps H)(cs:Array Value)(e:TypeId) :
  aD (h.push (.cells cs e)) S g tmps (fun b=>H b\/b=h.size):=
 st.grow (fun b hb=>zD b hb) (by simp) _ (fun b hb=>by rcases hb with hb | rfl;exact .inl hb;exact .inr ⟨ck _,by simp⟩)
theorem az.push{h:Array Obj}{S:St}{g:aA}{tmps:Array Value}{H:BS}(st:aD h S g tmps H){t:Ty}{m:Mk}{x:t.den}{c:List Value}{F:BS}(rep:az h g.Pr t m x c F)(hF:Sub F H)
  {o:Obj}:az (h.push o) g.Pr t m x c F:=
 az.mono (Sub.refl _) (fun b hb=>zD b (st.bO b hb)) t rep (Sub.refl _) (fun b hb=>zD b (st.eg b (hF b hb)))
section
variable {P:Program} {C:Ctx} {D:Den C} {S:St} {g:aA} {w:World} {tmps:Array Value} {a:Act} {ρ:Operand->AV}
variable {A:bU} {site:Nat} {hint:Bool} (bn:iC P C) (st:aD w.heap S g tmps Nil) (hρ:∀x,qe w.heap S g (ρ x) (a.eval x))
include bn st hρ
theorem Rj{o:Oper}{x:Operand}{u:AV}(hu:ρ x=u)(ok:nL A S o.dst site){r:Result Next}(hr:r=.ok (.value (a.eval x)) w)
  (ht:bX (EL A S.rt o.dst site hint u)):fy P S g w tmps (EL A S.rt o.dst site hint u) r:=by
 have hx:=hρ x;rw[hu]at hx;unfold EL at ht⊢;cases h1:By S.rt u with
 | none=>rw[h1]at ht;exact absurd ht bX.fail
 | some t=>
  rw[h1]at ht;simp only at ht⊢;cases h2:tk S.rt t u with
  | none=>rw[h2]at ht;exact absurd ht bX.fail
  | some z=>
   obtain⟨m,y,d5⟩:=z;rw[h2]at ht;simp only at ht⊢;obtain⟨c,g1,F,ev,cF⟩:=yK _ st h2 hx;by_cases hh:hint=true
   .simp only[hh,aY]at ht⊢;by_cases hm:m.whole=true
    .simp only[hm,aY]at ht⊢;obtain⟨g2,s1,s2,s3,_⟩:=UO cF.st cF.rep (fun b hb=>.inr hb) hm;exact fy.value (val:=a.eval x) (w':=w) hr ⟨true,_,_,rfl,g2,s1.bx (Sub.nil _),by simp only[qe];exact⟨c,s2,ev⟩,cF.same.trans s3,.refl _ _⟩
    .rw[af hm]at ht;exact absurd ht bX.fail
   .rw[af hh]at ht⊢;obtain⟨⟨v,rt'⟩,hd⟩:=ht true;obtain⟨g2,s1,s2,s3⟩:=Cb cF.st cF.rep (by rw[cF.same.1];exact cF.tag) (fun b hb=>.inr hb) ok hd;exact fy.value (val:=a.eval x) (w':=w) hr ⟨true,v,rt',hd,g2,s1,by rw[ev];exact s2,cF.same.trans s3,.refl _ _⟩
theorem abA{o:Oper}{x:Operand}(ho:o.op=.assign x)(ok:nL A S o.dst site):Goal P C D S g w tmps a ρ A site hint o:=by
 intro ht;simp only[aX,ho]at ht⊢;have hr:(execOp a.eval o).run P w=.ok (.value (a.eval x)) w:=by simp[execOp,ho]
 split at ht
 .rename_i r p s hv;by_cases hc:(qx p&&!hint)=true
  .simp only[hc,aY]at ht⊢;have:=hρ x;rw[hv]at this;exact fy.ret hr st this
  .simp only[hc,e8,dV]at ht⊢;exact Rj bn st hρ hv ok hr ht
 .rename_i u v hv;exact Rj bn st hρ hv ok hr ht
 .exact fy.ret hr st (hρ x)
theorem acv{o:Oper}{t:TypeId}(ho:o.op=.alloc t)(ok:nL A S o.dst site):Goal P C D S g w tmps a ρ A site hint o:=by
 intro ht;simp only[aX,ho]at ht⊢;by_cases hz:(C.ty t).nz=true
 .simp only[hz,aY]at ht⊢;have k:=bn t hz;obtain⟨⟨v,rt'⟩,hd⟩:=ht true;have hc:(dJ (C.ty t) (zc (C.ty t))).cells=(zc (C.ty t)).toArray:=by apply nt;rw[Ii]
  have s0:=st.jB (zc (C.ty t)).toArray t;obtain⟨g2,s1,s2,s3⟩:=EB (h:=w.heap.push (.cells (zc (C.ty t)).toArray t)) (c:=zc (C.ty t)) (F:=Nil) s0 (az.zero _ _) (aL.ax _ (Mk.cY _)) (Sub.nil _)
   (b:=w.heap.size) (.inr rfl) (fun h=>h) ju.new ok hd
  refine fy.value (val:=.pointer (some ⟨w.heap.size,0,none⟩)) (w':={ w with heap:=w.heap.push (.cells (zc (C.ty t)).toArray t) }) ?_ ⟨true,v,rt',hd,g2,s1,s2,s3,kI.push _⟩;simp[execOp,ho,Instr.alloc,newVar,newRow,newObj,Sem.run_bind,k.yO,hc,Sem.run]
 .rw[af hz]at ht;exact absurd ht bX.fail
theorem akn{o:Oper}{t:TypeId}{x:Operand}(ho:o.op=.box t x)(ok:nL A S o.dst site):Goal P C D S g w tmps a ρ A site hint o:=by
 intro ht;simp only[aX,ho]at ht⊢;by_cases hz:(C.ty t).nz=true
 .simp only[hz,aY]at ht⊢;cases h2:tk S.rt (C.ty t) (ρ x) with
  | none=>rw[h2]at ht;exact absurd ht bX.fail
  | some z=>
   obtain⟨m,y,d5⟩:=z;rw[h2]at ht;simp only at ht⊢;obtain⟨c,g1,F,ev,cF⟩:=yK _ st h2 (hρ x);have hc:(a.eval x).cells=c.toArray:=by apply nt;rw[ev,B3 cF.rep]
   have hrun:(execOp a.eval o).run P w=.ok (.value (.pointer (some ⟨w.heap.size,0,none⟩))) { w with heap:=w.heap.push (.cells c.toArray t) }:=by simp[execOp,ho,Instr.box,newVar,newRow,newObj,Sem.run_bind,hc,Sem.run]
   by_cases hh:hint=true
   .simp only[hh,aY]at ht⊢;by_cases hm:m.whole=true
    .simp only[hm,aY]at ht⊢;obtain⟨⟨v,rt'⟩,hd⟩:=ht true;obtain⟨g2,s1,s2,s3,_⟩:=UO cF.st cF.rep (fun b hb=>.inr hb) hm;have s4:=(s1.bx (Sub.nil _)).jB c.toArray t;have r4:az (w.heap.push (.cells c.toArray t)) g2.Pr (C.ty t) .no y c Nil:=az.push (s1.bx (Sub.nil _)) s2 (Sub.nil _);obtain⟨g3,q1,q2,q3⟩:=EB s4 r4 (aL.no _ _) (Sub.nil _) (b:=w.heap.size) (.inr rfl) (fun h=>h) ju.new ok hd;exact fy.value (w':={ w with heap:=w.heap.push (.cells c.toArray t) }) hrun ⟨true,v,rt',hd,g3,q1,q2,(cF.same.trans s3).trans q3,kI.push _⟩
    .rw[af hm]at ht;exact absurd ht bX.fail
   .rw[af hh]at ht⊢;obtain⟨⟨v,rt'⟩,hd⟩:=ht true;have s4:=cF.st.jB c.toArray t;have r4:az (w.heap.push (.cells c.toArray t)) g1.Pr (C.ty t) m y c F:=az.push cF.st cF.rep (fun b hb=>.inr hb);obtain⟨g3,q1,q2,q3⟩:=EB s4 r4 (by rw[cF.same.1];exact cF.tag) (fun b hb=>.inl (.inr hb)) (b:=w.heap.size) (.inr rfl)
     (fun hb=>FH _ (cF.st.eg _ (.inr hb))) ju.new ok hd
    exact fy.value (w':={ w with heap:=w.heap.push (.cells c.toArray t) }) hrun ⟨true,v,rt',hd,g3,q1,q2,cF.same.trans q3,kI.push _⟩
 .rw[af hz]at ht;exact absurd ht bX.fail
end
theorem GW{h:Array Obj}{S:St}{g:aA}{tmps:Array Value}{H:BS}(st:aD h S g tmps H){r:Nat}{p:Path}{R:aB}{d:Dy}{v:Value}(hR:S.root r=some R)
  (hf:focus R.ty R.ms R.x p=some d) (x:qe h S g (.addr r p) v) :
  ∃b off c,bt R.ty R.x p/\cm h R.ty (g.C r) (g.base r) p=some (some (b,off),c)/\v=.pointer (some ⟨b,off,none⟩):=by
 simp only[qe]at x;exact⟨_,_,_,(x R hR d hf).1,(x R hR d hf).2.choose_spec.choose_spec.choose_spec.1,(x R hR d hf).2.choose_spec.choose_spec.choose_spec.2⟩
theorem Mh{h h':Array Obj}{S S':St}{g g1:aA}(Q:BS):∀(a:AV),a.dh h h' S S' g g1->a.dh h h' S S' g { g1 with Pr:=Q }
 | .b7 r p s,k=>k
 | .view r p s _ _,k=>k
 | .addr r p,k=>k
 | .pair a b,k=>⟨Mh Q a k.1,Mh Q b k.2⟩
 | .jF a,k=>Mh Q a k
 | .gE _ a,k=>Mh Q a k
 | .undef,_=>trivial
 | .skip,_=>trivial
 | .cD _,_=>trivial
 | .unit,_=>trivial
 | .fh,_=>trivial
 | .val _ _,_=>trivial
 | .b_ _ _,_=>trivial
 | .d9 _,_=>trivial
theorem aka{h:Array Obj}{tmps:Array Value}(t:Ty){S:St}{rt':aP}{g:aA}{H:BS}{hint:Bool}{a:AV}{m:Mk}{x:t.den}{v:Value}(st:aD h S g tmps H)
  (ht:TU S.rt hint t a=some (m,x,rt')) (y:qe h S g a v):∃c g' F,v=dJ t c/\kH h S ⟨S.sl,rt'⟩ g tmps H t m x c g' F:=by
 simp only[TU,cJ]at ht;obtain⟨⟨m1,x1,d5⟩,h1,ht⟩:=ht;obtain⟨c,g1,F,ev,cF⟩:=yK t st h1 y;by_cases hh:hint=true
 .rw[aj hh]at ht;by_cases hm:m1.whole=true
  .rw[aj hm]at ht;simp only[aK,aZ]at ht;obtain⟨rfl,rfl,rfl⟩:=ht;have s1:=(cF.st.cO F (fun b hb=>.inr hb)).bx (H':=Un H Nil) (fun b hb=>by
    rcases hb with hb | hb
    .exact⟨.inl hb,fun hf=>cF.dY b hf hb⟩
    .exact hb.elim)
   exact⟨c,{ g1 with Pr:=Un g1.Pr F },Nil,ev,⟨s1,fun b hb=>.inl (cF.pr b hb),az.share t hm cF.rep,cv.nil _,cv.nil _,fun a=>Mh _ a (cF.keeps a),cF.sl,cF.rl,aL.ax _ rfl,aA.cR.trans ⟨rfl,rfl,rfl⟩ cF.same⟩⟩
  .rw[af hm]at ht;simp at ht
 .rw[af hh]at ht;simp only[aK,aZ]at ht;obtain⟨rfl,rfl,rfl⟩:=ht;exact⟨c,g1,F,ev,cF⟩
section
variable {P:Program} {C:Ctx} {D:Den C} {S:St} {g:aA} {w:World} {tmps:Array Value} {a:Act} {ρ:Operand->AV}
variable {A:bU} {site:Nat} {hint:Bool} (bn:iC P C) (st:aD w.heap S g tmps Nil) (hρ:∀x,qe w.heap S g (ρ x) (a.eval x))
include bn st hρ
theorem acp{t:TypeId}(k:mD P C t){b off:Nat}{c:List Value}{v:Value}(hv:v.cells.toList=c)(hl:c.length=(C.ty t).width)(ht:w.there b off c.length)
  (h1:∀u∈c,u.oneCell'=true):(Instr.storeAt t (.pointer (some ⟨b,off,none⟩)) v).run P w=.ok () (w.setCells b off c):=by
 have hs:v.cells.size=(C.ty t).width:=by rw[<-iM,hv,hl]
 have:=run_storeCells_cells (P:=P) b off c 0 w (fun j hj=>by simpa using (ht j hj).1) (fun j hj=>by simpa using (ht j hj).2) h1;simp only[qS]at this;simp[Instr.storeAt,Instr.sureAddr,storeVar,Sem.run_bind,k.fL,hs,hv,this]
theorem adi{o:Oper}{t:TypeId}{x y:Operand}(ho:o.op=.store t x y)(ok:nL A S o.dst site):Goal P C D S g w tmps a ρ A site hint o:=by
 intro ht;simp only[aX,ho]at ht⊢;by_cases hz:(C.ty t).nz=true/\A.fr=true
 .have Xw:((C.ty t).nz&&A.fr)=true:=by simp[hz.1,hz.2]
  simp only[Xw,aY]at ht⊢;obtain⟨⟨v0,rt'⟩,hy⟩:=bX.of ht;rw[hy];simp only[fk]at hy;obtain⟨fe,hst,e0⟩:=hy;simp only[aZ]at e0;obtain⟨rfl,rfl⟩:=e0;have k:=bn t hz.1;obtain⟨CJ,DR⟩:=ok.fr hz.2;have hx:=hρ x;unfold Bf at hst;split at hst
  .rename_i r p hv;rw[hv]at hx;simp only[cJ]at hst;obtain⟨⟨m,z,d5⟩,h2,hst⟩:=hst;split at hst
   .rename_i R hR;simp only[cJ]at hst;obtain⟨d,hf,hst⟩:=hst;split at hst
    .rename_i hd;obtain⟨hdt,wS⟩:=hd;simp only[cJ,aK]at hst;obtain⟨⟨m',x'⟩,hput,rfl⟩:=hst;simp only at hR hf wS hput;obtain⟨c,g1,F,ev,cF⟩:=aka _ st h2 (hρ y);have hx1:=(qe.keep cF.pr (fun _ _=>rfl) (.addr r p)).1 _ hx (cF.keeps _);obtain⟨b,off,c0,hin,ef,e⟩:=GW cF.st hR hf hx1;obtain⟨base,c0',F0,q1,q2,q3,q4,q5,q6⟩:=cF.st.update hR hf hin;rw[ef]at q1;simp only[aK,aZ]at q1;obtain⟨rfl,rfl⟩:=q1;obtain⟨dt,dm,dx⟩:=d;simp only at hdt;subst hdt;have hl:=az.width _ cF.rep;have hl0:=az.width _ q2;simp only at hl0;obtain⟨z7,cs,wW,hfit,hsub⟩:=q4 b off rfl;have IZ:=q5 b off rfl;have bM:((⟨S.sl,d5⟩:St).root r).isSome:=by show(d5.root r).isSome=true;rw[hR];rfl
     have rN:¬ F b:=fun hb=>cF.st.hand r bM b IZ (.inr hb);have Ue:¬ g1.Pr b:=fun hb=>cF.st.ej r bM b IZ hb;have cX:∀b',b'≠b->(w.setCells b off c).heap[b']? = w.heap[b']?:=fun b' hb'=>JQ c off w b' hb';have CA:off+c.length<=cs.size:=by omega
     have jR:az (w.setCells b off c).heap g1.Pr (C.ty t) (m.stamp site) z c F:=
      (az.stamp site _).1 (az.mono (Sub.refl _) (fun b' hb'=>cX b' (fun e=>Ue (e ▸ hb'))) _ cF.rep (Sub.refl _) (fun b' hb'=>cX b' (fun e=>rN (e ▸ hb'))))
     have kO:(m.stamp site).fresh site (site+1):=Mk.dP site wS;obtain⟨g2,s1,s2,s3,s4,s5,s6⟩:=q6 site (site+1) (w.setCells b off c).heap (m.stamp site) z c F m' x' DR
      (fun b' _ _ hb'=>cX b' (fun e=>hb' off (by rw[e]))) (by rw[vM];exact ck _) (Pm rfl wW CA) jR
      (fun b' hb'=>.inr (.inl (.inr hb'))) (fun b' hb'=>by rw[vM];exact cF.st.eg b' (.inr hb')) hput (Mk.eN _ kO)
      (aL.ax _ (Mk.cL CJ wS)) (fun _=>Mk.cL CJ wS)
      (by
       intro p' t1 n1 hp gV _;obtain⟨hi',zg⟩:=C6 p' kO hp gV;refine⟨zx _ _ hi' gV,fun bp cp ha=>?_⟩;obtain⟨iP,h3⟩:=IC (h':=(w.setCells b off c).heap) p' _ c _ hi' ha;refine⟨iP,h3,fun s a' e hs=>?_⟩;subst e;exact absurd zg hs)
     have fS:(a.eval y).cells.toList=c:=by rw[ev,B3 cF.rep]
     have hrun:=acp (w:=w) bn st hρ k fS hl (AE wW CA) (az.one _ cF.rep);have fP:=Tt (b:=b) c off w;have Xf:(execOp a.eval o).run P w=.ok .skip (w.setCells b off c):=by simp[execOp,ho,e,hrun,Sem.run_bind]
     rw[Xf];exact⟨true,.undef,_,rfl,g2,s1.bx (Sub.nil _),by simp only[qe],cF.same.trans s3,
       ⟨fP.1,fP.2.1,fP.2.2,by rw[vM];exact ck _,fun b' _ hb'=>cX b' (fun e=>hb' (by
        have:=cF.st.own r b bM IZ;rw[cF.same.2.1]at this;rw[e];exact this))⟩⟩
    .simp at hst
   .simp at hst
  .simp at hst
 .have Xw:((C.ty t).nz&&A.fr)=false:=by
   simp only[oh];by_cases h1:(C.ty t).nz=true
   .exact .inr (by simpa using fun h2=>hz ⟨h1,h2⟩)
   .exact .inl (by simpa using h1)
  simp only[Xw,e8,dV]at ht;exact absurd ht bX.fail
end
end Go.V
namespace Go.V
noncomputable section
open Go
theorem adb{l:List Value}{o:Nat}{c:List Value}(h:o+c.length<=l.length)(k:Nat):(bP l o c)[k]? = if k<o then l[k]? else if k<o+c.length then c[k-o]? else l[k]?:=by
 unfold bP;by_cases h1:k<o
 .rw[aj h1,eG,ko (by rw[e9];omega),gj,aj h1]
 .rw[af h1];by_cases h2:k<o+c.length
  .rw[aj h2,ko (by rw[cI,e9];omega),lZ (by rw[e9];omega),e9,Fx (by omega)]
  .rw[af h2,lZ (by rw[cI,e9];omega),cI,e9,Fx (by omega),iE];congr 1;omega
theorem Gk:∀(p:Path){t:Ty}{m:Mk}{t':Ty}{m':Mk},m.still=true->q8 t m p=some (t',m')->qx p=false/\m'.still=true
 | [],t,m,t',m',hm,h=>by simp only[q8,aK,aZ]at h;obtain⟨rfl,rfl⟩:=h;exact⟨rfl,hm⟩
 | .fst::p,t,m,t',m',hm,h=>by
  cases t with
  | pair a b=>
   simp only[q8]at h;have:m.fst.still=true:=by cases m<;>simp_all [Mk.still,Mk.fst]
   have:=Gk p this h;exact⟨by simpa [qx] using this.1,this.2⟩
  | _=>simp[q8]at h
 | .snd::p,t,m,t',m',hm,h=>by
  cases t with
  | pair a b=>
   simp only[q8]at h;have:m.snd.still=true:=by cases m<;>simp_all [Mk.still,Mk.snd]
   have:=Gk p this h;exact⟨by simpa [qx] using this.1,this.2⟩
  | _=>simp[q8]at h
 | .idx i s::p,t,m,t',m',hm,h=>by
  cases t with
  | sl a=>cases m<;>simp_all [q8,Mk.still]
  | _=>simp[q8]at h
theorem JU:∀v:AV,v.aR 0 0=true
 | .addr r p=>BX p
 | .b7 r p s=>by simp only[AV.aR,bH];exact⟨by cases s<;>rfl,BX p⟩
 | .view r p s _ _=>by simp only[AV.aR,bH];exact⟨by cases s<;>rfl,BX p⟩
 | .pair a b=>by simp only[AV.aR,bH];exact⟨JU a,JU b⟩
 | .jF a=>JU a
 | .gE _ a=>JU a
 | .undef=>rfl
 | .skip=>rfl
 | .cD _=>rfl
 | .unit=>rfl
 | .fh=>rfl
 | .val _ _=>rfl
 | .b_ _ _=>rfl
 | .d9 _=>rfl
section
variable {P:Program} {C:Ctx} {D:Den C} {S:St} {g:aA} {w:World} {tmps:Array Value} {a:Act} {ρ:Operand->AV}
variable {A:bU} {site:Nat} {hint:Bool} (bn:iC P C) (st:aD w.heap S g tmps Nil) (hρ:∀x,qe w.heap S g (ρ x) (a.eval x))
include bn st hρ
end
end
end Go.V
namespace Go.V
noncomputable section
open Go
theorem QD(off:Nat):∀(l:List Value)(k:Nat)(cs:Array Value),off+k+l.length<=cs.size->
  ((l.zipIdx k).foldl (fun cs p=>cs.setIfInBounds (off+p.2) p.1) cs).toList=bP cs.toList (off+k) l
 | [],k,cs,_=>by simp[bP]
 | v::l,k,cs,h=>by
  simp only[cq]at h;rw[List.zipIdx_cons,nJ,QD off l (k+1) _ (by simp;omega),NX];exact Re (by simp;omega)
theorem QB{off:Nat}{v:Value}{cs:Array Value}(h:off+v.cells.size<=cs.size) :
  (v.cells.zipIdx.foldl (fun cs (c,j)=>cs.setIfInBounds (off+j) c) cs).toList=bP cs.toList off v.cells.toList:=by
 rw[<-E_,Array.toList_zipIdx];exact QD off v.cells.toList 0 cs (by simpa using h)
def Kp(h:Array Obj)(S:St)(g:aA)(S':St)(g':aA):Prop:=∀u v,qe h S g u v->qe h S' g' u v
theorem Kp.refl{h:Array Obj}{S:St}{g:aA}:Kp h S g S g:=fun _ _ x=>x
theorem Kp.trans{h:Array Obj}{S S' wz:St}{g g' tV:aA}(x:Kp h S g S' g')(y:Kp h S' g' wz tV):Kp h S g wz tV:=fun u v z=>y u v (x u v z)
theorem kH.kp{h:Array Obj}{S S':St}{g g':aA}{tmps:Array Value}{H F:BS}{t:Ty}{m:Mk}{x:t.den}{c:List Value}(k:kH h S S' g tmps H t m x c g' F):Kp h S g S' g':=
 fun u v y=>(qe.keep k.pr (fun _ _=>rfl) u).1 v y (k.keeps u)
theorem Jl{h:Array Obj}{S:St}{g:aA}{tmps:Array Value}{H:BS}(st:aD h S g tmps H)(D:BS):Kp h S g S { g with Pr:=Un g.Pr D }:=by
 intro u v y;refine(qe.keep (g':={ g with Pr:=Un g.Pr D }) (fun b hb=>Or.inl hb) (fun _ _=>rfl) u).1 v y (AV.d8 (fun r p=>?_) (fun r p s=>?_) u)
 .exact(nN (g':={ g with Pr:=Un g.Pr D }) st (.inl rfl) rfl rfl (fun _ _ _=>rfl)).1 p
 .exact(nN (g':={ g with Pr:=Un g.Pr D }) st (.inl rfl) rfl rfl (fun _ _ _=>rfl)).2 p s
theorem OX{C:Ctx}{h:Array Obj}{tmps:Array Value}{sl:List AV}{T:Ty}{fs:List Field}{place:Nat->Option (Nat×Nat)}
  (hs:mX C fs 0 T) (oU:∀i fd,fs[i]? = some fd->place i=some (fd.offset,(C.ty fd.type).width)) (ev:Operand->Value) :
  ∀(l:List (Nat×Operand))(rt:aP)(g:aA)(H F:BS)(m:Mk)(x:T.den)(cells:List Value)(ρ:Operand->AV)(m':Mk)(x':T.den)(rt':aP),
   aD h ⟨sl,rt⟩ g tmps H->az h g.Pr T m x cells F->Sub F H->aL g.hd T m cells->(∀x,qe h ⟨sl,rt⟩ g (ρ x) (ev x))->
   oI rt T (m,x) (l.map fun p=>(p.1,ρ p.2))=some (m',x',rt')->
   ∃g' H' F' cells',aD h ⟨sl,rt'⟩ g' tmps H'/\az h g'.Pr T m' x' cells' F'/\Sub F' H'/\aL g'.hd T m' cells'/\g'.cR g/\
    Instr.fill place cells.toArray (l.map fun p=>(p.1,ev p.2))=some cells'.toArray
 | [],rt,g,H,F,m,x,cells,ρ,m',x',rt',st,rep,hF,ni,hρ,hb=>by
  simp only[fY,oI,aK,aZ]at hb;obtain⟨rfl,rfl,rfl⟩:=hb;exact⟨g,H,F,cells,st,rep,hF,ni,.refl _,rfl⟩
 | (i,op)::l,rt,g,H,F,m,x,cells,ρ,m',x',rt',st,rep,hF,ni,hρ,hb=>by
  simp only[cr,oI,cJ]at hb;obtain⟨d,hf,⟨m1,x1,d5⟩,h2,⟨m2,x2⟩,hput,hb⟩:=hb;obtain⟨fd,q1,q2,q3,q4,q5⟩:=VV i hs hf;obtain⟨c1,g1,F1,e1,cF⟩:=yK (S:=⟨sl,rt⟩) _ st h2 (hρ op);have o9:az h g1.Pr T m x cells F:=az.mono cF.pr (fun _ _=>rfl) T rep (Sub.refl _) (fun _ _=>rfl);obtain⟨base',c',F2,Fr,z⟩:=zip (ic i) _ _ _ cells F none d o9 hf (zx _ _ q5 (u9 _ hf)) (fun b o e=>by simp at e);obtain⟨eb,ec,V6⟩:=z.plain q5;have nM:=az.width _ cF.rep;have oT:cv F1 Fr:=fun b hb gu=>cF.dY b hb (hF b (z.fr b gu));obtain⟨F3,D3,s3,sd,d3,r3⟩:=z.vz h g1.Pr m1 x1 c1 F1 m2 x2 (Sub.refl _) (fun _ _=>rfl) (fun _ _ _=>rfl) (by rw[eb];intro b o e;simp at e) cF.rep oT hput;have WK:(if qx (ic i)=true then cells else bP cells (eA T (ic i)) c1)=bP cells (eA T (ic i)) c1:=by rw[af (by simp[q5])]
  rw[WK]at r3;have hin:∀b,Fr b\/F1 b->Un H F1 b:=by
   rintro b (hb | hb)
   .exact .inl (hF b (z.fr b hb))
   .exact .inr hb
  have pn:=cF.st.cO D3 (fun b hb=>hin b (sd b hb));have hoff:fd.offset=eA T (ic i):=by omega
  have Xm:aL g1.hd T m2 (bP cells (eA T (ic i)) c1):=by
   have:=aL.put (hd:=g1.hd) (ic i) hput (by rw[cF.same.1];exact ni) (by rw[cF.same.1];exact cF.tag) (fun h=>by rw[q5]at h;simp at h) (az.width _ rep) nM
   rwa [af (by simp[q5])]at this
  obtain⟨g',H',F',cells',k1,k2,k3,k4,k5,k6⟩:=OX hs oU ev l d5 _ _ F3 m2 x2 _ ρ m' x' rt' pn r3
   (fun b hb=>⟨hin b (s3 b hb),fun gu=>d3 b hb gu⟩) Xm (fun x=>Jl cF.st D3 _ _ (cF.kp _ _ (hρ x))) hb
  refine⟨g',H',F',cells',k1,k2,k3,k4,cF.same.trans (aA.cR.trans ⟨rfl,rfl,rfl⟩ k5),?_⟩;have fS:(ev op).cells.toList=c1:=by rw[e1,B3 cF.rep]
  have hsize:(ev op).cells.size=(C.ty fd.type).width:=by rw[<-iM,fS,nM,q2]
  simp only[cr,Instr.fill,oU i fd q1];have wN:fd.offset+(ev op).cells.size<=cells.toArray.size:=by rw[hsize,<-q2,hoff];simpa using V6
  have gm:((decide ((ev op).cells.size≠(C.ty fd.type).width))||decide (fd.offset+(ev op).cells.size>cells.toArray.size))=false:=by simp only[Bool.or_eq_false_iff,nH];exact⟨fun h=>h hsize,by omega⟩
  have kM:(ev op).cells.zipIdx.foldl (fun cs (c,j)=>cs.setIfInBounds (fd.offset+j) c) cells.toArray=(bP cells (eA T (ic i)) c1).toArray:=by apply nt;rw[QB wN,fS,hoff]
  rw[kM];have:(if (decide ((ev op).cells.size≠(C.ty fd.type).width)||decide (fd.offset+(ev op).cells.size>cells.toArray.size))=true then (none:Option (Array Value))
    else Instr.fill place (bP cells (eA T (ic i)) c1).toArray (l.map fun p=>(p.1,ev p.2)))=some cells'.toArray:=by
   rw[gm];exact k6
  exact this
theorem PT{P:Program}{C:Ctx}(bn:iC P C):∀(fs:List Field)(off:Nat)(T:Ty),mX C fs off T->
  fs.mapM (fun f=>(P.info? f.type).map fun i=>(f.offset,i.size))=some (fs.map fun f=>(f.offset,(C.ty f.type).width))
 | [],_,_,_=>rfl
 | f::fs,off,T,h=>by
  simp only[mX]at h;obtain⟨b,rfl,h1,_,h2,h3⟩:=h;obtain⟨i,q1,q2,_⟩:=(bn f.type h2).info;simp only[List.mapM_cons,q1,d7,Option.bind_eq_bind,dw,PT bn fs _ b h3,Option.pure_def,cr,q2]
section
variable {P:Program} {C:Ctx} {D:Den C} {S:St} {g:aA} {w:World} {tmps:Array Value} {a:Act} {ρ:Operand->AV}
variable {A:bU} {site:Nat} {hint:Bool} (bn:iC P C) (st:aD w.heap S g tmps Nil) (hρ:∀x,qe w.heap S g (ρ x) (a.eval x))
include bn st hρ
theorem ace{o:Oper}{t:TypeId}{parts:Array (Nat×Operand)}(ho:o.op=.build t parts)(ok:nL A S o.dst site):Goal P C D S g w tmps a ρ A site hint o:=by
 intro ht;simp only[aX,ho]at ht⊢;by_cases I9:((C.ty t).nz&&(C.ty t).agg)=true
 .have hz:(C.ty t).nz=true:=by simp only[bH]at I9;exact I9.1
  have hag:(C.ty t).agg=true:=by simp only[bH]at I9;exact I9.2
  simp only[I9,aY]at ht⊢;cases hb:oI S.rt (C.ty t) (Mk.zM hint (C.ty t),(C.ty t).zero) (parts.toList.map fun p=>(p.1,ρ p.2)) with
  | none=>rw[hb]at ht;exact absurd ht bX.fail
  | some z=>
   obtain⟨m,y,d5⟩:=z;rw[hb]at ht;simp only at ht⊢;obtain⟨⟨v,rt'⟩,hd⟩:=ht true;have hp:∃ta tb,C.ty t=.pair ta tb:=by
    cases hT:C.ty t with
    | pair ta tb=>exact⟨ta,tb,rfl⟩
    | unit=>rw[hT]at hz;simp[Ty.nz]at hz
    | _=>rw[hT]at hag;simp[Ty.agg]at hag
   .obtain⟨ta,tb,hT⟩:=hp;obtain⟨fs,h1,h2⟩:=bn.pair hT;rw[<-hT]at h2;have oU:∀(i:Nat)(fd:Field),fs.toList[i]? = some fd->((fs.toList.map fun f=>(f.offset,(C.ty f.type).width)).toArray[·]?) i=some (fd.offset,(C.ty fd.type).width):=by intro i fd h;simp only[List.getElem?_toArray,Fg,h,d7]
    obtain⟨g',H',F',cells',k1,k2,k3,k4,k5,k6⟩:=OX (sl:=S.sl) h2 oU a.eval parts.toList S.rt g Nil Nil (Mk.zM hint (C.ty t)) (C.ty t).zero (zc (C.ty t)) ρ m y d5
     st (az.zero _ _) (Sub.nil _) (aL.ax _ (Mk.rC _ _)) hρ hb
    obtain⟨g2,s1,s2,s3⟩:=Cb k1 k2 k4 k3 ok hd;obtain⟨it,i1,i2,i3,_⟩:=(bn t hz).info;have DK:P.built t (parts.toList.map fun p=>(p.1,a.eval p.2))=some cells'.toArray:=by
     unfold Program.built;simp only[i1,h1,i3,PT bn fs.toList 0 _ h2];have:(dJ (C.ty t) (zc (C.ty t))).cells=(zc (C.ty t)).toArray:=by apply nt;rw[Ii]
     rw[this];exact k6
    have hrun:=run_build (P:=P) w t (parts.map fun p=>(p.1,a.eval p.2)) cells'.toArray (by simpa using DK);refine fy.value (val:=dJ (C.ty t) cells') (w':=w) ?_ ⟨true,v,rt',hd,g2,s1,s2,k5.trans s3,.refl _ _⟩;have:dJ (C.ty t) cells'=.agg cells'.toArray:=by rw[hT];rfl
    rw[this];simp[execOp,ho,hrun,Sem.run_bind]
 .rw[af I9]at ht;exact absurd ht bX.fail
end
end
structure El (h:Array Obj) (Pr:BS) (e:Ty) (mi:Mk) (xs:List e.den) (cells:List Value) (Fs:Nat->BS):Prop where
 rep:∀i,i<xs.length->az h Pr e mi (xs.getD i e.zero) ((cells.drop (i * e.width)).take e.width) (Fs i)
 dY:∀i j,i≠j->cv (Fs i) (Fs j)
theorem El.mono{h h':Array Obj}{Pr fN:BS}{e:Ty}{mi:Mk}{xs:List e.den}{cells:List Value}{Fs:Nat->BS}(k:El h Pr e mi xs cells Fs)(hp:Sub Pr fN)
  (gW:∀b,Pr b->h'[b]? = h[b]?) (hk:∀i b,Fs i b->h'[b]? = h[b]?):El h' fN e mi xs cells Fs:=
 ⟨fun i hi=>az.mono hp gW e (k.rep i hi) (Sub.refl _) (fun b hb=>hk i b hb),k.dY⟩
theorem El.aQ{h:Array Obj}{Pr:BS}{e:Ty}{w m:Mk}{xs:List e.den}{cells:List Value}{Fs:Nat->BS}(hw:w.aQ m=true)(k:El h Pr e m xs cells Fs) :
  ∃(wo:Nat->BS)(D:BS),(∀i,Sub (wo i) (Fs i))/\(∀b,D b->∃i,Fs i b)/\(∀i,cv (wo i) D)/\El h (Un Pr D) e w xs cells wo:=by
 have key:∀i,∃F1 F2:BS,Sub F1 (Fs i)/\Sub F2 (Fs i)/\cv F1 F2/\
   (i<xs.length->az h (fun b=>Pr b\/F2 b) e w (xs.getD i e.zero) ((cells.drop (i * e.width)).take e.width) F1):=by
  intro i;by_cases hi:i<xs.length
  .obtain⟨F1,F2,s1,s2,dd,rr⟩:=az.aQ e hw (k.rep i hi);exact⟨F1,F2,s1,s2,dd,fun _=>rr⟩
  .exact⟨Nil,Nil,Sub.nil _,Sub.nil _,cv.nil _,fun h=>absurd h hi⟩
 obtain⟨F1,key⟩:=sX key;obtain⟨F2,key⟩:=sX key;refine⟨F1,fun b=>∃i,F2 i b,fun i=>(key i).1,fun b ⟨i,hb⟩=>⟨i,(key i).2.1 b hb⟩,?_,?_,?_⟩
 .rintro i b hb ⟨j,hj⟩;by_cases e:i=j
  .subst e;exact(key i).2.2.1 b hb hj
  .exact k.dY i j e b ((key i).1 b hb) ((key j).2.1 b hj)
 .intro i hi;exact az.mono (fun b hb=>hb.imp id fun hb=>⟨i,hb⟩) (fun _ _=>rfl) e ((key i).2.2.2 hi) (Sub.refl _) (fun _ _=>rfl)
 .intro i j e;exact(k.dY i j e).mono (key i).1 (key j).1
theorem El.row{h:Array Obj}{Pr:BS}{e:Ty}{mi:Mk}{xs:List e.den}{cells:List Value}{Fs:Nat->BS}(k:El h Pr e mi xs cells Fs){b:Nat}{cs:Array Value}(hb:ju h b cs)
  {cap:Nat} (hcap:cap * e.width<=cs.size) (hl:xs.length<=cap) (hcs:∀i,i<xs.length->sub cs (i * e.width) e.width=(cells.drop (i * e.width)).take e.width)
  (hF:∀i,¬ Fs i b) (s:Nat):az h Pr (.sl e) (.own s mi) xs [.slice (some ⟨b,0,none⟩) xs.length cap] (fun z=>z=b\/∃i,Fs i z):=by
 simp only[az];exact⟨_,cap,rfl,hl,.inr ⟨b,cs,rfl,.inl rfl,hb,hcap,Fs,fun i=>⟨fun z hz=>.inr ⟨i,hz⟩,hF i⟩,k.dY,fun i hi=>by rw[hcs i hi];exact k.rep i hi⟩⟩
theorem pK{α:Type}(l:List α)(k i:Nat)(x d:α)(hk:k<l.length):(l.set k x).getD i d=if i=k then x else l.getD i d:=by
 simp only[List.getD,jU];by_cases e:k=i
 .subst e;simp[hk]
 .have:¬ i=k:=fun h=>e h.symm;simp[e,this]
theorem PS{h:Array Obj}{tmps:Array Value}{sl:List AV}{e:Ty}(ev:Operand->Value) :
  ∀(l:List (Nat×Operand))(rt:aP)(g:aA)(H:BS)(Fs:Nat->BS)(m:Mk)(xs:List e.den)(cells:List Value)(ρ:Operand->AV)(m':Mk)(xs':List e.den)(rt':aP),
   aD h ⟨sl,rt⟩ g tmps H->El h g.Pr e m xs cells Fs->(∀i,Sub (Fs i) H)->cells.length=xs.length * e.width->(∀x,qe h ⟨sl,rt⟩ g (ρ x) (ev x))->
   tF rt e (m,xs) (l.map fun p=>(p.1,ρ p.2))=some (m',xs',rt')->
   ∃g' H' wo cells',aD h ⟨sl,rt'⟩ g' tmps H'/\El h g'.Pr e m' xs' cells' wo/\(∀i,Sub (wo i) H')/\cells'.length=xs'.length * e.width/\xs'.length=xs.length/\g'.cR g/\
    Instr.fill (fun i=>some (i * e.width,e.width)) cells.toArray (l.map fun p=>(p.1,ev p.2))=some cells'.toArray
 | [],rt,g,H,Fs,m,xs,cells,ρ,m',xs',rt',st,el,hF,hlen,hρ,hb=>by
  simp only[fY,tF,aK,aZ]at hb;obtain⟨rfl,rfl,rfl⟩:=hb;exact⟨g,H,Fs,cells,st,el,hF,hlen,rfl,.refl _,rfl⟩
 | (k,op)::l,rt,g,H,Fs,m,xs,cells,ρ,m',xs',rt',st,el,hF,hlen,hρ,hb=>by
  simp only[cr,tF]at hb;split at hb
  .rename_i hk;simp only[cJ]at hb;obtain⟨⟨m1,x1,d5⟩,h2,hb⟩:=hb;obtain⟨c1,g1,F1,e1,cF⟩:=yK (S:=⟨sl,rt⟩) _ st h2 (hρ op);have nM:=az.width _ cF.rep;obtain⟨tr,lN⟩:=Mk.fm m m1;obtain⟨wo,D,q1,q2,q3,q4⟩:=(el.mono cF.pr (fun _ _=>rfl) (fun _ _ _=>rfl)).aQ tr;obtain⟨Fa,Fb,p1,p2,p3,p4⟩:=az.aQ e lN cF.rep;have hin:∀b,(D b\/Fb b)->Un H F1 b:=by
    rintro b (hb' | hb')
    .obtain⟨i,hi⟩:=q2 b hb';exact .inl (hF i b hi)
    .exact .inr (p2 b hb')
   have pn:=cF.st.cO (fun b=>D b\/Fb b) hin;have hfit:k * e.width+c1.length<=cells.length:=by rw[nM,hlen];have:=fl e.width (show k+1<=xs.length by exact hk);rw[mb]at this;exact this
   let pR:Nat->BS:=fun i=>if i=k then Fa else wo i
   have uc:∀i,cv F1 (Fs i):=fun i b bN gu=>cF.dY b bN (hF i b gu);have za:El h (Un g1.Pr fun b=>D b\/Fb b) e (m.meet m1) (xs.set k x1) (bP cells (k * e.width) c1) pR:=by
    refine⟨fun i hi=>?_,fun i j hij=>?_⟩
    .rw[b6]at hi;rw[pK _ _ _ _ _ hk];by_cases hik:i=k
     .subst hik;simp only[aY,pR];have hsame:=acn hfit;rw[nM]at hsame;rw[hsame];exact az.mono (fun b hb'=>hb'.imp id .inr) (fun _ _=>rfl) e p4 (Sub.refl _) (fun _ _=>rfl)
     .simp only[af hik,pR];rw[Gi hfit (by
       rw[nM];rcases BQ i k with h3 | h3
       .left;have:=fl e.width (show i+1<=k by exact h3);rw[mb]at this;exact this
       .right;have:=fl e.width (show k+1<=i by omega);rw[mb]at this;exact this)]
      exact az.mono (fun b hb'=>hb'.imp id .inl) (fun _ _=>rfl) e (q4.rep i hi) (Sub.refl _) (fun _ _=>rfl)
    .intro b bN gu;simp only[pR]at bN gu;by_cases h1:i=k
     .rw[aj h1]at bN;rw[af (fun h=>hij (h1.trans h.symm))]at gu;exact uc j b (p1 b bN) (q1 j b gu)
     .rw[af h1]at bN;by_cases h2:j=k
      .rw[aj h2]at gu;exact uc i b (p1 b gu) (q1 i b bN)
      .rw[af h2]at gu;exact q4.dY i j hij b bN gu
   have tX:∀i,Sub (pR i) (fun b=>Un H F1 b/\¬ (D b\/Fb b)):=by
    intro i b hb';simp only[pR]at hb';split at hb'
    .refine⟨.inr (p1 b hb'),?_⟩;rintro(h3 | h3)
     .obtain⟨j,hj⟩:=q2 b h3;exact uc j b (p1 b hb') hj
     .exact p3 b hb' h3
    .refine⟨.inl (hF i b (q1 i b hb')),?_⟩;rintro(h3 | h3)
     .exact q3 i b hb' h3
     .exact uc i b (p2 b h3) (q1 i b hb')
   obtain⟨g',H',Fs3,cells',k1,k2,k3,k4,k5,k6,k7⟩:=PS ev l d5 _ _ pR (m.meet m1) (xs.set k x1) (bP cells (k * e.width) c1) ρ m' xs' rt' pn za tX
    (by rw[C_ hfit,b6,hlen]) (fun x=>Jl cF.st _ _ _ (cF.kp _ _ (hρ x))) hb
   refine⟨g',H',Fs3,cells',k1,k2,k3,k4,by rw[k5,b6],cF.same.trans (aA.cR.trans ⟨rfl,rfl,rfl⟩ k6),?_⟩;have fS:(ev op).cells.toList=c1:=by rw[e1,B3 cF.rep]
   have hsize:(ev op).cells.size=e.width:=by rw[<-iM,fS,nM]
   simp only[cr,Instr.fill];have wN:k * e.width+(ev op).cells.size<=cells.toArray.size:=by rw[hsize];have:=hfit;rw[nM]at this;simpa using this
   have gm:((decide ((ev op).cells.size≠e.width))||decide (k * e.width+(ev op).cells.size>cells.toArray.size))=false:=by simp only[Bool.or_eq_false_iff,nH];exact⟨fun h=>h hsize,by omega⟩
   have kM:(ev op).cells.zipIdx.foldl (fun cs (c,j)=>cs.setIfInBounds (k * e.width+j) c) cells.toArray=(bP cells (k * e.width) c1).toArray:=by apply nt;rw[QB wN,fS]
   rw[kM];have:(if (decide ((ev op).cells.size≠e.width)||decide (k * e.width+(ev op).cells.size>cells.toArray.size))=true then (none:Option (Array Value))
     else Instr.fill (fun i=>some (i * e.width,e.width)) (bP cells (k * e.width) c1).toArray (l.map fun p=>(p.1,ev p.2)))=some cells'.toArray:=by
    rw[gm];exact k7
   exact this
  .simp at hb
theorem Sg{e:Ty}(hp:0<e.width){n:Nat}{i:Nat}(hi:(i+1) * e.width<=n):sub (madeCells (zc e).toArray n) (i * e.width) e.width=zc e:=by
 rw[mb]at hi;apply rL;intro j;simp only[sub,gj,iE];by_cases hj:j<e.width
 .rw[aj hj];have h1:i * e.width+j<n:=by omega
  have h2:(i * e.width+j) % e.width=j:=by rw[uN,Nat.mul_add_mod,Nat.mod_eq_of_lt hj]
  have h3:j<(zc e).length:=by rw[J_];exact hj
  simp[madeCells,h1,J_,h2,h3];rw[gP h3];rfl
 .rw[af hj,pF (by rw[J_];omega)]
theorem akh{h:Array Obj}{Pr:BS}{e:Ty}(hp:0<e.width)(mi:Mk)(n:Nat):El h Pr e mi (List.replicate n e.zero) (madeCells (zc e).toArray (n * e.width)).toList (fun _=>Nil):=by
 refine⟨fun i hi=>?_,fun i j _=>cv.nil _⟩;rw[om]at hi;have e1:(List.replicate n e.zero).getD i e.zero=e.zero:=by simp[List.getD,hi]
 have:=Sg (e:=e) hp (n:=n * e.width) (i:=i) (fl _ hi);simp only[sub]at this;rw[e1,this];exact az.zero e mi
section
variable {P:Program} {C:Ctx} {D:Den C} {S:St} {g:aA} {w:World} {tmps:Array Value} {a:Act} {ρ:Operand->AV}
variable {A:bU} {site:Nat} {hint:Bool} (bn:iC P C) (st:aD w.heap S g tmps Nil) (hρ:∀x,qe w.heap S g (ρ x) (a.eval x))
include bn st hρ
theorem Hv{T:Ty}:(dJ T (zc T)).cells=(zc T).toArray:=by apply nt;rw[Ii]
theorem aja{o:Oper}{t:TypeId}{x y:Operand}(ho:o.op=.makeSlice t x y)(ok:nL A S o.dst site):Goal P C D S g w tmps a ρ A site hint o:=by
 intro ht;simp only[aX,ho]at ht⊢;split at ht
 .rename_i e l c hT hl hc;have el:=Jh hl (hρ x);have ec:=Jh hc (hρ y);obtain⟨u,h1,h2,h3⟩:=bn.desc hT;have ku:=bn u h3;obtain⟨i,i1,i2,i3,i4⟩:=ku.info;obtain⟨⟨v,rt'⟩,hd⟩:=ht true;by_cases hb:0<=l/\l<=c/\c<=(f_:Int)
  .have hd':(dQ A S.rt o.dst site (.sl e) (.own 0 (Mk.top e)) (List.replicate l.toNat e.zero) false).dec true=some (v,rt'):=by
    have gm:(decide (0<=l)&&decide (l<=c)&&decide (c<=(f_:Int)))=true:=by rw[bC hb.1,bC hb.2.1,bC hb.2.2];rfl
    rw[gm]at hd;exact hd
   have hbn:(f_:Int)=274877906944:=rfl;have hbytes:(i.bytes:Int) * c<=281474976710656:=by
    have h5:(i.bytes:Int)<=255:=Int.ofNat_le.2 i4;have h6:c<=274877906944:=by rw[<-hbn];exact hb.2.2
    have h7:(i.bytes:Int) * c<=255 * c:=Int.mul_le_mul_of_nonneg_right h5 (by omega);omega
   have hrun:=run_make (P:=P) w t u i _ h1 i1 i3 .i64 .i64 l c hb.1 hb.2.1 hbytes (by rw[hbn]at hb;omega);rw[Hv bn st hρ,i2,h2]at hrun;have hp:=ku.pos;rw[h2]at hp;have V7:El (w.heap.push (.cells (madeCells (zc e).toArray (c.toNat * e.width)) u)) g.Pr e (Mk.top e) (List.replicate l.toNat e.zero) (madeCells (zc e).toArray (c.toNat * e.width)).toList (fun _=>Nil):=by
    refine⟨fun i hi=>?_,fun i j _=>cv.nil _⟩;rw[om]at hi;have e1:(List.replicate l.toNat e.zero).getD i e.zero=e.zero:=by simp[List.getD,hi]
    have:=Sg (e:=e) hp (n:=c.toNat * e.width) (i:=i) (fl _ (by omega));simp only[sub]at this;rw[e1,this];exact az.zero e _
   have s0:=st.jB (madeCells (zc e).toArray (c.toNat * e.width)) u;have rep:=V7.row (b:=w.heap.size) ju.new (cap:=c.toNat) (by rw[size_madeCells];exact ck _) (by rw[om];omega) (fun i hi=>rfl) (fun i h=>h) 0;obtain⟨g2,s1,s2,s3⟩:=Cb s0 rep (aL.ax _ (by simp[Mk.ax,n8,Mk.cY])) (fun b hb=>by rcases hb with rfl | ⟨_,hb⟩;exact .inr rfl;exact hb.elim) ok hd';rw[om]at s2;refine fy.value (w':=w.alloc (.cells (madeCells (zc e).toArray (c.toNat * e.width)) u)) ?_ ⟨true,v,rt',hd,g2,s1,s2,s3,kI.push _⟩;simp[execOp,ho,el,ec,hrun,Sem.run_bind,dJ,Ty.agg]
  .have:(decide (0<=l)&&decide (l<=c)&&decide (c<=(f_:Int)))=false:=by simp only[oh,nH];omega
   rw[this]at hd;simp[Tr.dec]at hd
 .exact absurd ht bX.fail
theorem ahT{o:Oper}{t:TypeId}{n:Nat}{parts:Array (Nat×Operand)}(ho:o.op=.buildSlice t n parts)(ok:nL A S o.dst site):Goal P C D S g w tmps a ρ A site hint o:=by
 intro ht;simp only[aX,ho]at ht⊢;split at ht
 .rename_i e hT;cases hb:tF S.rt e (Mk.top e,List.replicate n e.zero) (parts.toList.map fun p=>(p.1,ρ p.2)) with
  | none=>rw[hb]at ht;exact absurd ht bX.fail
  | some z=>
   obtain⟨m,xs,d5⟩:=z;rw[hb]at ht;simp only at ht⊢;by_cases mV:(m.ax&&Nat.ble (n * e.width) 16777216)=true
   .have hm:m.ax=true:=by simp only[bH]at mV;exact mV.1
    have iJ:n * e.width<=2 ^ 24:=by simp only[bH]at mV;exact rI mV.2
    simp only[mV,aY]at ht⊢;obtain⟨u,h1,h2,h3⟩:=bn.desc hT;have ku:=bn u h3;obtain⟨i,i1,i2,i3,i4⟩:=ku.info;have hp:=ku.pos;rw[h2]at hp i2;obtain⟨g',H',wo,cells',k1,k2,k3,k4,k5,k6,k7⟩:=PS (sl:=S.sl) a.eval parts.toList S.rt g Nil (fun _=>Nil) (Mk.top e) (List.replicate n e.zero)
     (madeCells (zc e).toArray (n * e.width)).toList ρ m xs d5 st (akh hp _ n) (fun _=>Sub.nil _) (by simp[size_madeCells]) hρ hb
    rw[om]at k5;have hrun:n * e.width<=2 ^ 24->(Instr.buildSlice t n (parts.map fun p=>(p.1,a.eval p.2))).run P w=.ok (.slice (some ⟨w.heap.size,0,none⟩) n n) { w with heap:=w.heap.push (.cells cells'.toArray u) }:=by
     intro iJ;by_cases h0:n * i.size=0
     .have hn0:n=0:=by
       rw[i2]at h0;rcases Nat.mul_eq_zero.1 h0 with h | h
       .exact h
       .omega
      subst hn0;have k7':Instr.fill (fun i=>some (i * e.width,e.width)) #[] (parts.toList.map fun p=>(p.1,a.eval p.2))=some cells'.toArray:=by
       have:(madeCells (zc e).toArray (0 * e.width)).toList.toArray = #[]:=by simp[madeCells]
       rw[<-this];exact k7
      have e0:Array.range 0 = #[]:=rfl;simp[Instr.buildSlice,run_underlying h1,sizeOf,typeInfo,i1,i2,e0,k7',newRow,newObj,Sem.run_bind,Sem.run]
     .have:=run_buildSlice (P:=P) w t u n (parts.map fun p=>(p.1,a.eval p.2)) cells'.toArray i _ h1 i1 i3 (by rw[i2];omega) h0 (by
       rw[Hv bn st hρ,i2];have e2:((Array.range (n * e.width)).map fun x=>(zc e).toArray[x % (zc e).toArray.size]!)=(madeCells (zc e).toArray (n * e.width)).toList.toArray:=by rw[pG];rfl
       rw[h2,e2];simpa using k7)
      exact this
    have s0:=k1.jB cells'.toArray u;have KU:∀i b,wo i b->b<w.heap.size:=fun i b hb=>k1.eg b (k3 i b hb);have V7:El (w.heap.push (.cells cells'.toArray u)) g'.Pr e m xs cells' wo:=
     k2.mono (Sub.refl _) (fun b hb=>zD b (k1.bO b hb)) (fun i b hb=>zD b (KU i b hb))
    have rep:=V7.row (b:=w.heap.size) ju.new (cap:=n) (by simp[k4,k5]) (by omega) (fun i hi=>by simp[sub])
     (fun i h=>FH _ (KU i _ h)) 0
    by_cases hh:hint=true
    .simp only[hh,aY]at ht⊢;by_cases hw:m.whole=true
     .simp only[hw,aY]at ht⊢;obtain⟨g2,s1,s2,s3,_⟩:=UO s0 rep (fun b hb=>by
       rcases hb with rfl | ⟨i,hb⟩
       .exact .inr rfl
       .exact .inl (k3 i b hb)) (by simpa [Mk.whole] using hw)
      refine fy.value (w':={ w with heap:=w.heap.push (.cells cells'.toArray u) }) ?_ ⟨true,_,_,rfl,g2,s1.bx (Sub.nil _),by simp only[qe];exact⟨_,s2,rfl⟩,k6.trans s3,kI.push _⟩;rw[k5];simp[execOp,ho,hrun iJ,Sem.run_bind,dJ,Ty.agg]
     .rw[af hw]at ht;exact absurd ht bX.fail
    .rw[af hh]at ht⊢;obtain⟨⟨v,rt'⟩,hd⟩:=ht true;obtain⟨g2,s1,s2,s3⟩:=Cb s0 rep (aL.ax _ (by simp[Mk.ax,n8,hm])) (fun b hb=>by
      rcases hb with rfl | ⟨i,hb⟩
      .exact .inr rfl
      .exact .inl (k3 i b hb)) ok hd
     rw[k5]at s2;refine fy.value (w':={ w with heap:=w.heap.push (.cells cells'.toArray u) }) ?_ ⟨true,v,rt',hd,g2,s1,s2,k6.trans s3,kI.push _⟩;simp[execOp,ho,hrun iJ,Sem.run_bind,dJ,Ty.agg]
   .rw[af mV]at ht;exact absurd ht bX.fail
 .exact absurd ht bX.fail
end
end Go.V
namespace Go.V
noncomputable section
open Go
section
variable {P:Program} (w:World)
theorem VX{ats:Array TypeId}{t t' u u' ty:TypeId}{i:TypeInfo}(h0:ats[0]? = some t)(h1:ats[1]? = some t')(ht:P.underlying t=some (.slice u))(ht':P.underlying t'=some (.slice u'))
  (hi:P.info? u=some i) {xa:Option Addr} {n cap:Nat} {ya:Option Addr} {m c:Nat} {news:List Value}
  (hnews:(Builtin.firstCells i.size m (.slice ya m c)).run P w=.ok news.toArray w) (hroom:n+m<=cap)
  {w':World} (hst:∀ad,xa=some ad->(storeCells (ad.add (n * i.size)) news).run P w=.ok () w') (hno:xa=none->w'=w) :
  (Builtin.append_ ats ty #[.slice xa n cap,.slice ya m c]).run P w=.ok (.slice xa (n+m) cap) w':=by
 cases xa with
 | none=>obtain rfl:=hno rfl;simp[Builtin.append_,h0,h1,run_underlying ht,run_underlying ht',sizeOf,typeInfo,hi,Builtin.lenOf,hroom,hnews,Sem.run_bind]
 | some ad=>have:=hst ad rfl;simp[Builtin.append_,h0,h1,run_underlying ht,run_underlying ht',sizeOf,typeInfo,hi,Builtin.lenOf,hroom,hnews,this,Sem.run_bind]
theorem Pk{ats:Array TypeId}{t t' u u' ty:TypeId}{i:TypeInfo}{z:Value}(h0:ats[0]? = some t)(h1:ats[1]? = some t')(ht:P.underlying t=some (.slice u))(ht':P.underlying t'=some (.slice u'))
  (hi:P.info? u=some i) (hz:i.zero=some z) {xa:Option Addr} {n cap:Nat} {ya:Option Addr} {m c:Nat} {olds news:List Value}
  (hnews:(Builtin.firstCells i.size m (.slice ya m c)).run P w.drew=.ok news.toArray w.drew)
  (holds:(Builtin.firstCells i.size n (.slice xa n cap)).run P w.drew=.ok olds.toArray w.drew) (hg:cap<n+m) (h63:((n+m:Nat):Int)<=9223372036854775807)
  (hfit:Builtin.nextslicecap (n+m) cap * i.bytes<=281474976710656) :
  (Builtin.append_ ats ty #[.slice xa n cap,.slice ya m c]).run P w =
   .ok (.slice (some ⟨w.heap.size,0,none⟩) (n+m) (grownCap w (n+m) cap u))
    (w.drew.alloc (.cells (olds.toArray++news.toArray++Builtin.zeroCells z.cells (grownCap w (n+m) cap u-(n+m))) u)):=by
 have hn:¬ (n+m<=cap):=by omega
 have h63':¬ (9223372036854775807<((n:Int)+(m:Int))):=by omega
 have Wc:¬ (281474976710656<Builtin.nextslicecap (n+m) cap * i.bytes):=by omega
 simp[Builtin.append_,h0,h1,run_underlying ht,run_underlying ht',sizeOf,typeInfo,zeroValue,hi,hz,Builtin.lenOf,hn,h63',Wc,Question.forced,hnews,holds,newRow,grownCap];congr 2;apply nt;simp[eG]
end
theorem Df{P:Program}{w:World}{size n len cap:Nat}{ad:Option Addr}{cs:List Value}(hl:cs.length=n * size)
  (h:(n=0/\cs=[])\/∃b o,ad=some ⟨b,o,none⟩/\w.rangeAt b o cs):(Builtin.firstCells size n (.slice ad len cap)).run P w=.ok cs.toArray w:=by
 rcases h with⟨rfl,rfl⟩ | ⟨b,o,rfl,hr⟩
 .cases ad with
  | none=>exact run_firstCells_none w size 0 len cap
  | some ad=>simp[Builtin.firstCells,loadCells,loadCellsFrom]
 .exact run_firstCells_some w size n ⟨b,o,none⟩ len cap cs hl (fun j v hv=>by rw[Addr.add_mid];exact hr j v hv)
theorem VW{w:World}{b o:Nat}{cs:List Value}(h:w.rangeAt b o cs):w.drew.rangeAt b o cs:=by simpa using h
def Lx:Mk->Mk
 | .own _ m=>m
 | _=>.no
theorem aje{my m':Mk}(h:pV my=some m'):my≠.gone/\(∀a b,my≠.pr a b)/\Lx my=m':=by
 cases my with
 | no=>simp only[pV,aK]at h;exact⟨by simp,by simp,h⟩
 | own s m=>simp only[pV,aK]at h;exact⟨by simp,by simp,h⟩
 | gone=>simp[pV]at h
 | pr a b=>simp[pV]at h
theorem J7{h:Array Obj}{Pr:BS}{e:Ty}{m:Mk}{xs:(Ty.sl e).den}{c:List Value}{F:BS}(hm:m≠.gone)(hp:∀a b,m≠.pr a b)(rep:az h Pr (.sl e) m xs c F) :
  ∃ad cap cells Fs,c=[.slice ad xs.length cap]/\cells.length=xs.length * e.width/\xs.length<=cap/\
   ((xs.length=0/\cells=[])\/∃b o cs,ad=some ⟨b,o,none⟩/\sY h b cs/\o+xs.length * e.width<=cs.size/\cells=sub cs o (xs.length * e.width))/\
   El h Pr e (Lx m) xs cells Fs/\(∀i,Sub (Fs i) F)/\
   (∀s m',m=.own s m'->cap=0\/∃b cs,ad=some ⟨b,0,none⟩/\F b/\ju h b cs/\cap * e.width<=cs.size/\(∀i,¬ Fs i b)/\cells=sub cs 0 (xs.length * e.width)):=by
 have hsub:∀(cs:Array Value)(o i:Nat),i<xs.length->o+xs.length * e.width<=cs.size->((sub cs o (xs.length * e.width)).drop (i * e.width)).take e.width=sub cs (o+i * e.width) e.width:=by
  intro cs o i hi hs;have:i * e.width+e.width<=xs.length * e.width:=by have:=fl e.width (show i+1<=xs.length by exact hi);rw[mb]at this;exact this
  simp only[sub,yg,qU,uI];congr 1;omega
 cases m with
 | gone=>exact absurd rfl hm
 | pr a b=>exact absurd rfl (hp a b)
 | no=>
  simp only[az]at rep;obtain⟨ad,cap,rfl,hl,re⟩:=rep;by_cases hne:xs=[]
  .subst hne;exact⟨ad,cap,[],fun _=>Nil,rfl,by simp,hl,.inl ⟨rfl,rfl⟩,⟨fun i hi=>by simp at hi,fun i j _=>cv.nil _⟩,fun i=>Sub.nil _,fun s m' e=>by simp at e⟩
  .obtain⟨b,o,cs,rfl,hp,hb,hs,re⟩:=re hne;refine⟨_,cap,sub cs o (xs.length * e.width),fun _=>Nil,rfl,Gl hs,hl,.inr ⟨b,o,cs,rfl,hb,hs,rfl⟩,⟨fun i hi=>?_,fun i j _=>cv.nil _⟩,fun i=>Sub.nil _,fun s m' e=>by simp at e⟩;rw[hsub cs o i hi hs];exact re i hi
 | own s m'=>
  simp only[az]at rep;obtain⟨ad,cap,rfl,hl,re⟩:=rep;rcases re with rfl | ⟨b,cs,rfl,fb,hb,hs,Fs,pZ,lC,re⟩
  .have hx:xs=[]:=lB.1 (by omega);subst hx;exact⟨ad,0,[],fun _=>Nil,rfl,by simp,hl,.inl ⟨rfl,rfl⟩,⟨fun i hi=>by simp at hi,fun i j _=>cv.nil _⟩,fun i=>Sub.nil _,fun s m' e=>.inl rfl⟩
  .have hfit:0+xs.length * e.width<=cs.size:=by have:=fl e.width hl;omega
   refine⟨_,cap,sub cs 0 (xs.length * e.width),Fs,rfl,Gl hfit,hl,.inr ⟨b,0,cs,rfl,hb.Cq,hfit,rfl⟩,⟨fun i hi=>?_,lC⟩,fun i=>(pZ i).1,
    fun s m' e=>.inr ⟨b,cs,rfl,fb,hb,hs,fun i=>(pZ i).2,rfl⟩⟩
   rw[hsub cs 0 i hi hfit,kz];exact re i hi
end
theorem aD.oz{h h2:Array Obj}{S:St}{g:aA}{tmps:Array Value}{H:BS}(st:aD h S g tmps H)(hk:∀b,b<h.size->¬ H b->h2[b]? = h[b]?)(hsz:h.size<=h2.size)
  (H2:BS) (zQ:∀b,H2 b->H b\/(h.size<=b/\b<h2.size)):aD h2 S g tmps H2:=by
 have kP:∀b,g.Pr b->h2[b]? = h[b]?:=fun b hb=>hk b (st.bO b hb) (fun hH=>st.bK b hH hb);have kG:∀r,(S.root r).isSome->∀b,g.G r b->h2[b]? = h[b]?:=fun r h1 b hb=>hk b (st.b9 r b h1 hb) (fun hH=>st.hand r h1 b hb hH);refine { len:=st.len,gw:=st.gw,slots:=?_,roots:=?_,dY:=st.dY,ej:=st.ej,hand:=?_,bK:=?_,bO:=?_,b9:=?_,eg:=?_,tag:=st.tag,own:=st.own,e7:=?_,fV:=fun b hb=>st.fV b (by omega),p0:=st.p0,kY:=st.kY }
 .intro t;refine(qe.keep (Sub.refl _) kP _).1 _ (st.slots t) (AV.d8 (fun r p=>?_) (fun r p s=>?_) _)
  .exact(nN st (.inl rfl) rfl rfl (fun h1 b hb=>kG r h1 b hb)).1 p
  .exact(nN st (.inl rfl) rfl rfl (fun h1 b hb=>kG r h1 b hb)).2 p s
 .intro r R hR;have h1:(S.root r).isSome:=by rw[hR];rfl
  obtain⟨F,q1,q2,q3,q4,q5⟩:=st.roots r R hR;refine⟨F,az.mono (Sub.refl _) kP _ q1 (Sub.refl _) (fun b hb=>kG r h1 b (q2 b hb)),q2,q3,?_,q5⟩;intro hm;obtain⟨b,e1,e2,e3⟩:=q4 hm;exact⟨b,e1,e2,e3.congr (kG r h1 b e2)⟩
 .intro r h1 b hb hz;rcases zQ b hz with h3 | h3
  .exact st.hand r h1 b hb h3
  .have:=st.b9 r b h1 hb;omega
 .intro b hz hb;rcases zQ b hz with h3 | h3
  .exact st.bK b h3 hb
  .have:=st.bO b hb;omega
 .intro b hb;have:=st.bO b hb;omega
 .intro r b h1 hb;have:=st.b9 r b h1 hb;omega
 .intro b hz;rcases zQ b hz with h3 | h3
  .have:=st.eg b h3;omega
  .exact h3.2
 .intro b hz;rcases zQ b hz with h3 | h3
  .exact st.e7 b h3
  .exact st.fV b h3.1
theorem El.append{h:Array Obj}{Pr:BS}{e:Ty}{mi:Mk}{xs ys:List e.den}{c1 c2:List Value}{F1 F2:Nat->BS}(k1:El h Pr e mi xs c1 F1)(k2:El h Pr e mi ys c2 F2)
  (nM:c1.length=xs.length * e.width) (iI:c2.length=ys.length * e.width) (hd:∀i j,cv (F1 i) (F2 j)) :
  El h Pr e mi (xs++ys) (c1++c2) (fun i=>if i<xs.length then F1 i else F2 (i-xs.length)):=by
 refine⟨fun i hi=>?_,fun i j hij=>?_⟩
 .rw[cI]at hi;by_cases h1:i<xs.length
  .simp only[h1,aY];have e1:(xs++ys).getD i e.zero=xs.getD i e.zero:=by simp[List.getD,ko h1]
   have hw:i * e.width+e.width<=c1.length:=by rw[nM];have:=fl e.width (show i+1<=xs.length by exact h1);rw[mb]at this;exact this
   have e2:((c1++c2).drop (i * e.width)).take e.width=(c1.drop (i * e.width)).take e.width:=by rw[Bz (by omega),og (by rw[x9];omega)]
   rw[e1,e2];exact k1.rep i h1
  .simp only[h1,dV];have e1:(xs++ys).getD i e.zero=ys.getD (i-xs.length) e.zero:=by simp[List.getD,lZ (by omega:xs.length<=i)]
   have e2:(c1++c2).drop (i * e.width)=c2.drop ((i-xs.length) * e.width):=by
    have h3:c1.length<=i * e.width:=by rw[nM];exact fl _ (by omega)
    rw[Fw,vD h3,gx,nM,Nat.sub_mul]
   rw[e1,e2];exact k2.rep (i-xs.length) (by omega)
 .intro b bN gu;by_cases h1:i<xs.length<;>by_cases h2:j<xs.length<;>simp only[h1,h2,aY,dV]at bN gu
  .exact k1.dY i j hij b bN gu
  .exact hd i _ b bN gu
  .exact hd j _ b gu bN
  .exact k2.dY _ _ (by omega) b bN gu
theorem UK{cs:Array Value}{l:List Value}{i w n:Nat}(h:cs.toList.take n=l)(hi:i * w+w<=n):sub cs (i * w) w=(l.drop (i * w)).take w:=by rw[<-h];simp only[sub,yg,uI];congr 1;omega
section
variable {P:Program} {C:Ctx} {D:Den C} {S:St} {g:aA} {w:World} {tmps:Array Value} {a:Act} {ρ:Operand->AV}
variable {A:bU} {site:Nat} {hint:Bool} (bn:iC P C) (st:aD w.heap S g tmps Nil) (hρ:∀x,qe w.heap S g (ρ x) (a.eval x))
include bn st hρ
theorem aby{o:Oper}{c:Call}{x y:Operand}{t t':TypeId}{e:Ty}(ho:o.op=.call c)(hc:c.callee=.builtin .append)(hargs:c.args = #[x,y])
  (h0:c.argTypes[0]? = some t) (h1:c.argTypes[1]? = some t') (hT:C.ty t=.sl e) (Cw:C.ty t'=.sl e) (ok:nL A S o.dst site)
  (ht:bX (Dj A S.rt o.dst site e (ρ x) (ρ y))):fy P S g w tmps (Dj A S.rt o.dst site e (ρ x) (ρ y)) ((execOp a.eval o).run P w):=by
 unfold Dj at ht⊢;cases hx:tk S.rt (.sl e) (ρ x) with
 | none=>rw[hx]at ht;exact absurd ht bX.fail
 | some z=>
  obtain⟨mx,xs,d5⟩:=z;rw[hx]at ht;cases mx with
  | own s m=>
   simp only at ht⊢;cases hy:tk d5 (.sl e) (ρ y) with
   | none=>rw[hy]at ht;exact absurd ht bX.fail
   | some z=>
    obtain⟨my,ys,fe⟩:=z;rw[hy]at ht;simp only at ht⊢;cases hmk:pV my with
    | none=>rw[hmk]at ht;exact absurd ht bX.fail
    | some m'=>
     rw[hmk]at ht;simp only at ht⊢;by_cases oF:(m.meet m').ax=true
     .simp only[oF,aY]at ht⊢;obtain⟨⟨v,rt'⟩,hd⟩:=ht true;by_cases hbd:xs.length+ys.length<=f_
      .have gm:decide (xs.length+ys.length<=f_)=true:=bC hbd;rw[gm]at hd⊢;have hd':(dQ A fe o.dst site (.sl e) (.own 0 (m.meet m')) (xs++ys) false).dec true=some (v,rt'):=hd;obtain⟨c1,g1,F1,ev1,cF⟩:=yK _ st hx (hρ x);obtain⟨c2,g2,F2,DA,IN⟩:=yK (S:=⟨S.sl,d5⟩) _ cF.st hy (cF.kp _ _ (hρ y));have o9:az w.heap g2.Pr (.sl e) (.own s m) xs c1 F1:=az.mono IN.pr (fun _ _=>rfl) _ cF.rep (Sub.refl _) (fun _ _=>rfl);obtain⟨ow,eX,cW,Fs1,rfl,nM,DW,w8,V8,tY,w4⟩:=J7 (by simp) (by simp) o9;obtain⟨WU,WV,em'⟩:=aje hmk;obtain⟨s8,lJ,aV,pR,rfl,iI,KS,ng,za,nW,_⟩:=J7 WU WV IN.rep;rw[em']at za;obtain⟨tr,lN⟩:=Mk.fm m m';obtain⟨Ke,D1,p1,p2,p3,p4⟩:=V8.aQ tr;obtain⟨Kf,D2,q1,q2,q3,q4⟩:=za.aQ lN;have h12:cv F1 F2:=fun b bN gu=>IN.dY b gu (.inr bN);have hD:∀b,(D1 b\/D2 b)->Un (Un Nil F1) F2 b:=by
        rintro b (hb | hb)
        .obtain⟨i,hi⟩:=p2 b hb;exact .inl (.inr (tY i b hi))
        .obtain⟨i,hi⟩:=q2 b hb;exact .inr (nW i b hi)
       have r5:=IN.st.cO (fun b=>D1 b\/D2 b) hD
       let g3:aA:={ g2 with Pr:=Un g2.Pr fun b=>D1 b\/D2 b }
       have ela:El w.heap g3.Pr e (m.meet m') xs cW Ke:=p4.mono (fun b hb=>hb.imp id .inl) (fun _ _=>rfl) (fun _ _ _=>rfl);have elb:El w.heap g3.Pr e (m.meet m') ys aV Kf:=q4.mono (fun b hb=>hb.imp id .inr) (fun _ _=>rfl) (fun _ _ _=>rfl);have V9:=El.append ela elb nM iI (fun i j b bN gu=>h12 b (tY i b (p1 i b bN)) (nW j b (q1 j b gu)));generalize hFF:(fun i=>if i<xs.length then Ke i else Kf (i-xs.length))=FF at V9;have DE:∀i b,FF i b->Un (Un Nil F1) F2 b/\¬ (D1 b\/D2 b):=by
        intro i b hb;rw[<-hFF]at hb;split at hb
        .refine⟨.inl (.inr (tY i b (p1 i b hb))),?_⟩;rintro(h3 | h3)
         .exact p3 i b hb h3
         .obtain⟨j,hj⟩:=q2 b h3;exact h12 b (tY i b (p1 i b hb)) (nW j b hj)
        .refine⟨.inr (nW _ b (q1 _ b hb)),?_⟩;rintro(h3 | h3)
         .obtain⟨j,hj⟩:=p2 b h3;exact h12 b (tY j b hj) (nW _ b (q1 _ b hb))
         .exact q3 _ b hb h3
       obtain⟨u,vK,CN,Lt⟩:=bn.desc hT;obtain⟨u',su,_,_⟩:=bn.desc Cw;have ku:=bn u Lt;obtain⟨i,i1,i2,i3,i4⟩:=ku.info;have hp:=ku.pos;rw[CN]at i2 hp;have T9:a.eval x=.slice ow xs.length eX:=ev1;have Ko:a.eval y=.slice s8 ys.length lJ:=DA;have hsame:g3.cR g:=cF.same.trans (IN.same.trans ⟨rfl,rfl,rfl⟩);have hsrc:∀{ad:Option Addr}{n:Nat}{cells:List Value},((n=0/\cells=[])\/∃b o cs,ad=some ⟨b,o,none⟩/\sY w.heap b cs/\o+n * e.width<=cs.size/\cells=sub cs o (n * e.width))->
         (n=0/\cells=[])\/∃b o,ad=some ⟨b,o,none⟩/\w.rangeAt b o cells:=by
        rintro ad n cells (h | ⟨b,o,cs,h1,h2,h3,h4⟩)
        .exact .inl h
        .exact .inr ⟨b,o,h1,h4 ▸ C9 h2 h3⟩
       have hex:(execOp a.eval o).run P w=((Builtin.append_ c.argTypes o.type #[.slice ow xs.length eX,.slice s8 ys.length lJ]).run P w).andThen fun a w'=>.ok (.value a) w':=by simp[execOp,ho,resolve,hc,invoke,builtin,hargs,T9,Ko,Sem.run_bind]
       have wZ:∀u∈aV,u.oneCell'=true:=by
        intro u hu;obtain⟨k,hk,rfl⟩:=List.getElem_of_mem hu;have hk2:k / e.width<ys.length:=by rw[iI]at hk;exact Nat.div_lt_of_lt_mul (by rw[uN];exact hk)
        have r:=za.rep (k / e.width) hk2;refine az.one _ r _ ?_;have h3:k / e.width * e.width+k % e.width=k:=by rw[uN];exact FA k e.width
        have h4:k % e.width<e.width:=Nat.mod_lt _ hp;rw[mS];refine⟨k % e.width,?_⟩;rw[gj,aj h4,iE,h3,gP hk]
       have hlen:(xs++ys).length=xs.length+ys.length:=cI;have jK:(cW++aV).length=(xs.length+ys.length) * e.width:=by rw[cI,nM,iI,jA]
       have hn2:=Df (P:=P) (w:=w) (size:=e.width) (n:=ys.length) (len:=ys.length) (cap:=lJ) (ad:=s8) iI (hsrc ng);rw[<-i2]at hn2;by_cases hroom:xs.length+ys.length<=eX
       .rcases w4 s m rfl with hc0 | ⟨b,cs,DH,rN,zd,oA,DF,jJ⟩
        .have hx0:xs=[]:=lB.1 (by omega);have hy0:ys=[]:=lB.1 (by omega);subst hx0;subst hy0;have g8:aV=[]:=lB.1 (by rw[iI];simp);subst g8;have hr:=VX (P:=P) w (ty:=o.type) h0 h1 vK su i1 hn2 hroom (w':=w) (xa:=ow) (fun ad _=>by simp[storeCells]) (fun _=>rfl);have yM:az w.heap g3.Pr (.sl e) (.own 0 (m.meet m')) ([]++[]) [.slice ow (([]:List e.den).length+([]:List e.den).length) eX] Nil:=by simp only[az];exact⟨ow,eX,rfl,by simp,.inl hc0⟩
         obtain⟨g4,s1,s2,s3⟩:=Cb (S:=S) (g1:=g3) r5 yM (aL.ax _ (by simp[Mk.ax,oF,n8])) (Sub.nil _) ok hd';exact fy.value (w':=w) (by rw[hex,hr];rfl) ⟨true,v,rt',hd,g4,s1,s2,hsame.trans s3,.refl _ _⟩
        .subst DH;have hfit:xs.length * e.width+aV.length<=cs.size:=by rw[iI,<-jA];exact nK (fl _ hroom) oA
         have sk:(storeCells (⟨b,xs.length * e.width,none⟩:Addr) aV).run P w=.ok () (w.setCells b (xs.length * e.width) aV):=by have th:=AE (w:=w) zd hfit;have:=run_storeCells_cells (P:=P) b (xs.length * e.width) aV 0 w (fun j hj=>by simpa using (th j hj).1) (fun j hj=>by simpa using (th j hj).2) wZ;simpa using this
         have hr:=VX (P:=P) w (ty:=o.type) h0 h1 vK su i1 hn2 hroom (w':=w.setCells b (xs.length * e.width) aV) (xa:=some ⟨b,0,none⟩)
          (fun ad e0=>by simp only[aK]at e0;subst e0;rw[Addr.add_mid,kz,i2];exact sk) (fun h=>by simp at h)
         have cX:∀b',b'≠b->(w.setCells b (xs.length * e.width) aV).heap[b']? = w.heap[b']?:=fun b' hb'=>JQ aV _ w b' hb';have Ud:Un (Un Nil F1) F2 b:=.inl (.inr rN);have WX:¬ (D1 b\/D2 b):=by
          rintro(h3 | h3)
          .obtain⟨j,hj⟩:=p2 b h3;exact DF j hj
          .obtain⟨j,hj⟩:=q2 b h3;exact h12 b rN (nW j b hj)
         have Ku:∀i,¬ FF i b:=by
          intro i hb;rw[<-hFF]at hb;split at hb
          .exact DF i (p1 i b hb)
          .exact h12 b rN (nW _ b (q1 _ b hb))
         have hPb:¬ g3.Pr b:=fun h=>r5.bK b ⟨Ud,WX⟩ h;have st4:=r5.oz (h2:=(w.setCells b (xs.length * e.width) aV).heap) (fun b' _ hb'=>cX b' (fun e0=>hb' (e0 ▸ ⟨Ud,WX⟩))) (by rw[vM];exact ck _)
          (fun b=>Un (Un Nil F1) F2 b/\¬ (D1 b\/D2 b)) (fun b' hb'=>.inl hb')
         obtain⟨ty,lo,hi,he,hfz⟩:=zd;obtain⟨gz,DM,qA⟩:=UJ aV (xs.length * e.width) w cs he hfit;have sn:gz.size=cs.size:=by rw[<-iM,qA,C_ (by simpa using hfit),iM]
         have ug:ju (w.setCells b (xs.length * e.width) aV).heap b gz:=⟨ty,lo,hi,DM,fun i hi'=>hfz i (by omega)⟩
         have w_:gz.toList.take ((xs.length+ys.length) * e.width)=cW++aV:=by
          have hmin:min (xs.length * e.width) cs.toList.length=xs.length * e.width:=by have h7:cs.toList.length=cs.size:=iM;omega
          rw[qA,jJ];simp only[bP,sub,jV];rw[og (by
           rw[cI,e9,iI,hmin,jA];exact ck _)]
          rw[kq (by
           rw[cI,e9,iI,hmin,jA];exact ck _)]
         have V_:El (w.setCells b (xs.length * e.width) aV).heap g3.Pr e (m.meet m') (xs++ys) (cW++aV) FF:=
          V9.mono (Sub.refl _) (fun b' hb'=>cX b' (fun e0=>hPb (e0 ▸ hb'))) (fun i b' hb'=>cX b' (fun e0=>Ku i (e0 ▸ hb')))
         have rz:=V_.row ug (cap:=eX) (by rw[sn];exact oA) (by rw[hlen];exact hroom)
          (fun i hi'=>UK w_ (by
           rw[hlen]at hi';have:=fl e.width (show i+1<=xs.length+ys.length by exact hi');rw[mb]at this;exact this)) Ku 0
         rw[hlen]at rz;obtain⟨g4,s1,s2,s3⟩:=Cb (S:=S) (g1:=g3) st4 rz (aL.ax _ (by simp[Mk.ax,oF,n8]))
          (fun b' hb'=>by rcases hb' with rfl | ⟨i,hb'⟩;exact⟨Ud,WX⟩;exact DE i b' hb') ok hd'
         have fP:=Tt (b:=b) aV (xs.length * e.width) w;have Wr:g.L b:=by have:=IN.st.e7 b Ud;rw[(cF.same.trans IN.same).2.1]at this;exact this
         exact fy.value (w':=w.setCells b (xs.length * e.width) aV) (by rw[hex,hr];rfl) ⟨true,v,rt',hd,g4,s1,s2,hsame.trans s3,
          ⟨fP.1,fP.2.1,fP.2.2,by rw[vM];exact ck _,fun b' _ hb'=>cX b' (fun e0=>hb' (e0 ▸ Wr))⟩⟩
       .have Ws:xs.length+ys.length<=274877906944:=hbd;have wU:=Df (P:=P) (w:=w.drew) (size:=e.width) (n:=ys.length) (len:=ys.length) (cap:=lJ) (ad:=s8) iI (by
         rcases hsrc ng with h | ⟨b,o',h3,h4⟩
         .exact .inl h
         .exact .inr ⟨b,o',h3,VW h4⟩)
        have wT:=Df (P:=P) (w:=w.drew) (size:=e.width) (n:=xs.length) (len:=xs.length) (cap:=eX) (ad:=ow) nM (by
         rcases hsrc w8 with h | ⟨b,o',h3,h4⟩
         .exact .inl h
         .exact .inr ⟨b,o',h3,VW h4⟩)
        rw[<-i2]at wU wT;have hg:eX<xs.length+ys.length:=by omega
        have oD:=Room.nextslicecap_le' (need:=xs.length+ys.length) (old:=eX) hg;have hfit:Builtin.nextslicecap (xs.length+ys.length) eX * i.bytes<=281474976710656:=by have h5:Builtin.nextslicecap (xs.length+ys.length) eX * i.bytes<=549755813888 * 255:=Nat.mul_le_mul (by omega) i4;omega
        have hr:=Pk (P:=P) w (ty:=o.type) h0 h1 vK su i1 i3 wU wT hg (by omega) hfit;have hge:=grownCap_ge w (xs.length+ys.length) eX u;generalize grownCap w (xs.length+ys.length) eX u=cap' at hr hge;generalize me:(cW.toArray++aV.toArray++Builtin.zeroCells (dJ (C.ty u) (zc (C.ty u))).cells (cap'-(xs.length+ys.length)))=cs at hr;have DN:cs.toList.take ((xs.length+ys.length) * e.width)=cW++aV:=by rw[<-me];simp only[Array.toList_append,eG];rw[<-eG,og (by rw[jK];exact ck _),kq (by rw[jK];exact ck _)]
        have DO:cs.size=cap' * e.width:=by
         rw[<-me];have hz:(dJ (C.ty u) (zc (C.ty u))).cells.size=e.width:=by rw[Hv bn st hρ,CN];simp[J_]
         have h9:cW.length+aV.length=(xs.length+ys.length) * e.width:=by rw[<-cI];exact jK
         simp only[Array.size_append,List.size_toArray,size_zeroCells,hz,h9];rw[<-jA];congr 1;omega
        have st4:=r5.jB cs u;have Kv:∀i b,FF i b->b<w.heap.size:=fun i b hb=>r5.eg b (DE i b hb);have V_:El (w.heap.push (.cells cs u)) g3.Pr e (m.meet m') (xs++ys) (cW++aV) FF:=
         V9.mono (Sub.refl _) (fun b hb=>zD b (r5.bO b hb)) (fun i b hb=>zD b (Kv i b hb))
        have rz:=V_.row (b:=w.heap.size) ju.new (cap:=cap') (by rw[DO];exact ck _) (by rw[hlen];exact hge)
          (fun i hi'=>UK DN (by
           rw[hlen]at hi';have:=fl e.width (show i+1<=xs.length+ys.length by exact hi');rw[mb]at this;exact this)) (fun i hb=>FH _ (Kv i _ hb)) 0
        rw[hlen]at rz;obtain⟨g4,s1,s2,s3⟩:=Cb (S:=S) (g1:=g3) st4 rz (aL.ax _ (by simp[Mk.ax,oF,n8]))
          (fun b' hb'=>by rcases hb' with rfl | ⟨i,hb'⟩;exact .inr rfl;exact .inl (DE i b' hb')) ok hd'
        refine fy.value (w':=w.drew.alloc (.cells cs u)) (by rw[hex,hr];rfl) ⟨true,v,rt',hd,g4,s1,s2,hsame.trans s3,?_⟩;exact⟨rfl,rfl,rfl,by show w.heap.size<=(w.heap.push _).size;simp,fun b hb _=>zD b hb⟩
      .have gm:decide (xs.length+ys.length<=f_)=false:=b8 hbd;rw[gm]at hd;simp[Tr.dec]at hd
     .rw[af oF]at ht;exact absurd ht bX.fail
  | _=>exact absurd ht bX.fail
end
theorem adn{h h2:Array Obj}{base:fH}{v:Value}{F:BS}(hq:yG h base [v] F)(hk:∀b o,base=some (b,o)->h2[b]? = h[b]?):yW h h2 base [v]:=by intro b' o e cs' wX;obtain⟨z7,cs3,DY,wO,w9⟩:=hq b' o e;refine⟨cs',wX.congr (hk b' o e),?_⟩;have:=wX.uniq DY;subst this;have hr:=GN (c:=cs'.toList) (n:=o) (k:=1) (by rw[iM];exact wO);have zj:(cs'.toList.drop o).take 1=[v]:=w9;rw[zj]at hr;exact hr.symm
theorem FV:∀{m:Mk},m.still=true->m.whole=true
 | .no,_=>rfl
 | .gone,h=>by simp[Mk.still]at h
 | .own _ _,h=>by simp[Mk.still]at h
 | .pr a b,h=>by
  simp only[Mk.still,bH]at h;simp only[Mk.whole,bH];exact⟨FV h.1,FV h.2⟩
theorem ER{h:Array Obj}{Pr:BS}{e:Ty}{l:List e.den}{cells:List Value}{b cap:Nat}{cs:Array Value}(hp:Pr b)(hb:sY h b cs)(hfit:l.length * e.width<=cs.size)(hcap:l.length<=cap)
  (sq:∀i,i<l.length->sub cs (i * e.width) e.width=(cells.drop (i * e.width)).take e.width) (el:∀i,i<l.length->az h Pr e .no (l.getD i e.zero) ((cells.drop (i * e.width)).take e.width) Nil) :
  az h Pr (.sl e) .no l [.slice (some ⟨b,0,none⟩) l.length cap] Nil:=by
 simp only[az];exact⟨_,cap,rfl,hcap,fun _=>⟨b,0,cs,rfl,hp,hb,by omega,fun i hi=>by rw[kz,sq i hi];exact el i hi⟩⟩
section
variable {P:Program} {C:Ctx} {D:Den C} {S:St} {g:aA} {w:World} {tmps:Array Value} {a:Act} {ρ:Operand->AV}
variable {A:bU} {site:Nat} {hint:Bool} (bn:iC P C) (st:aD w.heap S g tmps Nil) (hρ:∀x,qe w.heap S g (ρ x) (a.eval x))
include bn st hρ
theorem aj1{o:Oper}{c:Call}{x y:Operand}{t t':TypeId}{e:Ty}(ho:o.op=.call c)(hc:c.callee=.builtin .append)(hargs:c.args = #[x,y])
  (h0:c.argTypes[0]? = some t) (h1:c.argTypes[1]? = some t') (hT:C.ty t=.sl e) (Cw:C.ty t'=.sl e)
  {r:Nat} {p:Path} {R:aB} {s:Nat} {m:Mk} {xs ys:List e.den} (D_:ρ x=.b7 r p s) (zk:ρ y=.val (.sl e) ys) (hR:S.root r=some R) (hf:focus R.ty R.ms R.x p=some ⟨.sl e,.own s m,xs⟩)
  (hm:m.still=true) {m':Mk} {x':R.ty.den} (hput:put R.ty R.ms R.x p (.sl e) .no xs=some (m',x')) (hbd:xs.length+ys.length<=f_) :
  ∃val w',(execOp a.eval o).run P w=.ok (.value val) w'/\Post S g w tmps (.val (.sl e) (xs++ys)) (S.aG r (some { R with ms:=m',x:=x' })).rt val w':=by
 have hx:=hρ x;have hy:=hρ y;rw[D_]at hx;rw[zk]at hy;simp only[qe]at hx hy;obtain⟨c2,IK,Ko⟩:=hy;obtain⟨hin,s9,ef⟩:=hx R hR e m xs hf;obtain⟨base,c0,F,q1,o9,q3,q4,q5,q6⟩:=st.m4 hR hf hin;rw[ef]at q1;simp only[aK,aZ]at q1;obtain⟨rfl,rfl⟩:=q1;have bM:(S.root r).isSome:=by rw[hR];rfl
 obtain⟨ow,eX,cW,Fs1,Dx,nM,DW,w8,V8,tY,w4⟩:=J7 (by simp) (by simp) o9;simp only[eS,iO]at Dx;rw[Dx]at q4 q6 o9;obtain⟨s8,lJ,aV,pR,rfl,iI,KS,ng,za,nW,_⟩:=J7 (by simp) (by simp) IK;obtain⟨u,vK,CN,Lt⟩:=bn.desc hT;obtain⟨u',su,_,_⟩:=bn.desc Cw;have ku:=bn u Lt;obtain⟨i,i1,i2,i3,i4⟩:=ku.info;have hp:=ku.pos;rw[CN]at i2 hp;have zN:a.eval y=.slice s8 ys.length lJ:=Ko;have Ec:(Mk.own s m).whole=true:=by show m.whole=true;exact FV hm
 have hsrc:∀{ad:Option Addr}{n:Nat}{cells:List Value},((n=0/\cells=[])\/∃b o cs,ad=some ⟨b,o,none⟩/\sY w.heap b cs/\o+n * e.width<=cs.size/\cells=sub cs o (n * e.width))->
   (n=0/\cells=[])\/∃b o,ad=some ⟨b,o,none⟩/\w.rangeAt b o cells:=by
  rintro ad n cells (h | ⟨b,o,cs,h1,h2,h3,h4⟩)
  .exact .inl h
  .exact .inr ⟨b,o,h1,h4 ▸ C9 h2 h3⟩
 have hex:(execOp a.eval o).run P w=((Builtin.append_ c.argTypes o.type #[.slice ow xs.length eX,.slice s8 ys.length lJ]).run P w).andThen fun a w'=>.ok (.value a) w':=by simp[execOp,ho,resolve,hc,invoke,builtin,hargs,Dx,zN,Sem.run_bind]
 have wZ:∀u∈aV,u.oneCell'=true:=by
  intro u hu;obtain⟨k,hk,rfl⟩:=List.getElem_of_mem hu;have hk2:k / e.width<ys.length:=by rw[iI]at hk;exact Nat.div_lt_of_lt_mul (by rw[uN];exact hk)
  have r:=za.rep (k / e.width) hk2;refine az.one _ r _ ?_;have h3:k / e.width * e.width+k % e.width=k:=by rw[uN];exact FA k e.width
  have h4:k % e.width<e.width:=Nat.mod_lt _ hp;rw[mS];refine⟨k % e.width,?_⟩;rw[gj,aj h4,iE,h3,gP hk]
 have hlen:(xs++ys).length=xs.length+ys.length:=cI;have jK:(cW++aV).length=(xs.length+ys.length) * e.width:=by rw[cI,nM,iI,jA]
 have hn2:=Df (P:=P) (w:=w) (size:=e.width) (n:=ys.length) (len:=ys.length) (cap:=lJ) (ad:=s8) iI (hsrc ng);rw[<-i2]at hn2;have TN:az w.heap (Un g.Pr F) (.sl e) .no xs [.slice ow xs.length eX] Nil:=az.share _ Ec o9
 -- yP elements,shared
 have elx:∀k,k<xs.length->az w.heap g.Pr e .no (xs.getD k e.zero) ((cW.drop (k * e.width)).take e.width) Nil:=fun k hk=>az.eK e hm (V8.rep k hk);have ely:∀k,k<ys.length->az w.heap g.Pr e .no (ys.getD k e.zero) ((aV.drop (k * e.width)).take e.width) Nil:=fun k hk=>az.eK e rfl (za.rep k hk);have Dz:∀k,k<(xs++ys).length->az w.heap g.Pr e .no ((xs++ys).getD k e.zero) (((cW++aV).drop (k * e.width)).take e.width) Nil:=by have h:=El.append (h:=w.heap) (Pr:=g.Pr) (e:=e) (mi:=.no) (xs:=xs) (ys:=ys) (c1:=cW) (c2:=aV) (F1:=fun _=>Nil) (F2:=fun _=>Nil) ⟨elx,fun _ _ _=>cv.nil _⟩ ⟨ely,fun _ _ _=>cv.nil _⟩ nM iI (fun _ _=>cv.nil _);intro k hk;have:=h.rep k hk;exact az.mono (Sub.refl _) (fun _ _=>rfl) _ this (by intro b hb;split at hb<;>exact hb) (fun _ _=>rfl)
 have pY:∀b,F b->g.G r b:=q3;have hPF:∀b,g.Pr b->¬ F b:=fun b hb hF=>st.ej r bM b (q3 b hF) hb
 -- yP state behind
 have fin:∀(h2:Array Obj)(Dd:BS),(∀b,b<w.heap.size->¬ F b->h2[b]? = w.heap[b]?)->w.heap.size<=h2.size->(∀b,F b->Dd b)->(∀b,Dd b->F b\/w.heap.size<=b)->(∀b,Dd b->b<h2.size)->
   az h2 (Un g.Pr Dd) (.sl e) .no xs [.slice ow xs.length eX] Nil->∀val,(∃c3,az h2 (Un g.Pr Dd) (.sl e) .no (xs++ys) c3 Nil/\val=dJ (.sl e) c3)->
   ∃g',aD h2 (S.aG r (some { R with ms:=m',x:=x' })) g' tmps Nil/\qe h2 (S.aG r (some { R with ms:=m',x:=x' })) g' (.val (.sl e) (xs++ys)) val/\g'.cR g:=by
  intro h2 Dd k1 k2 k3 k4 k5 k6 val hval;obtain⟨g2,s1,s2,s3,s4,s5,s6,s7⟩:=q6 0 0 h2 .no xs [.slice ow xs.length eX] Nil Dd m' x' (fun u=>JU _) (fun b hb hF _=>k1 b hb hF) k2
   (adn q4 fun b o e0=>k1 b (st.b9 r b bM (q5 b o e0)) (q4 b o e0).1) k6 (fun b _ h=>h.elim) (fun b hb=>by
    rcases hb with hb | hb
    .exact hb.elim
    .rcases k4 b hb with h | h
     .exact .inl h
     .exact .inr (.inr h)) (fun b hb=>hb.elim (fun h=>h.elim) (k5 b)) hput trivial (by simp only[aL]) (fun _=>rfl)
   (by
    intro p' t1 n1 _ gV _;cases p' with
    | nil=>simp only[q8,aK,aZ]at gV;obtain⟨rfl,rfl⟩:=gV;exact⟨trivial,fun bp cp ha=>⟨cp,by simp only[cm]at ha⊢;exact ha,fun _ _ _ _=>rfl⟩⟩
    | cons z p'=>cases z<;>simp[q8]at gV)
  obtain⟨c3,r3,ev3⟩:=hval;refine⟨g2,s1.bx (Sub.nil _),?_,s4⟩;simp only[qe];exact⟨c3,az.mono (fun b hb=>hb.elim (s2 b) (s3 b)) (fun _ _=>rfl) _ r3 (Sub.refl _) (fun _ _=>rfl),ev3⟩
 by_cases hroom:xs.length+ys.length<=eX
 .rcases w4 s m rfl with hc0 | ⟨b,cs,DH,rN,zd,oA,DF,jJ⟩
  .have hx0:xs.length=0:=by omega
   have hy0:ys.length=0:=by omega
   have g8:aV=[]:=lB.1 (by rw[iI,hy0];simp);have hr:=VX (P:=P) w (ty:=o.type) h0 h1 vK su i1 hn2 hroom (w':=w) (xa:=ow) (fun ad _=>by rw[g8];simp[storeCells]) (fun _=>rfl);obtain⟨g',z1,z2,z3⟩:=fin w.heap F (fun _ _ _=>rfl) (ck _) (fun _ h=>h) (fun _ h=>.inl h) (fun b h=>st.b9 r b bM (q3 b h)) TN (.slice ow (xs.length+ys.length) eX)
    ⟨[.slice ow (xs++ys).length eX],by
     simp only[az];exact⟨ow,eX,rfl,by rw[hlen];exact hroom,fun hne=>absurd (lB.1 (by rw[hlen];omega)) hne⟩,by rw[hlen];rfl⟩
   exact⟨_,_,by rw[hex,hr];rfl,g',z1,z2,z3,.refl _ _⟩
  .subst DH;have hfit:xs.length * e.width+aV.length<=cs.size:=by rw[iI,<-jA];exact nK (fl _ hroom) oA
   have sk:(storeCells (⟨b,xs.length * e.width,none⟩:Addr) aV).run P w=.ok () (w.setCells b (xs.length * e.width) aV):=by have th:=AE (w:=w) zd hfit;have:=run_storeCells_cells (P:=P) b (xs.length * e.width) aV 0 w (fun j hj=>by simpa using (th j hj).1) (fun j hj=>by simpa using (th j hj).2) wZ;simpa using this
   have hr:=VX (P:=P) w (ty:=o.type) h0 h1 vK su i1 hn2 hroom (w':=w.setCells b (xs.length * e.width) aV) (xa:=some ⟨b,0,none⟩)
    (fun ad e0=>by simp only[aK]at e0;subst e0;rw[Addr.add_mid,kz,i2];exact sk) (fun h=>by simp at h)
   have cX:∀b',b'≠b->(w.setCells b (xs.length * e.width) aV).heap[b']? = w.heap[b']?:=fun b' hb'=>JQ aV _ w b' hb';have alp:=zd;obtain⟨ty,lo,hi,he,hfz⟩:=zd;obtain⟨gz,DM,qA⟩:=UJ aV (xs.length * e.width) w cs he hfit;have sn:gz.size=cs.size:=by rw[<-iM,qA,C_ (by simpa using hfit),iM]
   have Cx:sY (w.setCells b (xs.length * e.width) aV).heap b gz:=⟨ty,(lo,hi),DM⟩
   have w_:gz.toList.take ((xs.length+ys.length) * e.width)=cW++aV:=by
    have hmin:min (xs.length * e.width) cs.toList.length=xs.length * e.width:=by have h7:cs.toList.length=cs.size:=iM;omega
    rw[qA,jJ];simp only[bP,sub,jV];rw[og (by
     rw[cI,e9,iI,hmin,jA];exact ck _)]
    rw[kq (by
     rw[cI,e9,iI,hmin,jA];exact ck _)]
   have hmono:∀{t:Ty}{z:t.den}{c:List Value},az w.heap g.Pr t .no z c Nil->az (w.setCells b (xs.length * e.width) aV).heap (Un g.Pr F) t .no z c Nil:=fun h=>
    az.mono (fun b' hb'=>.inl hb') (fun b' hb'=>cX b' (fun e0=>hPF b' hb' (e0 ▸ rN))) _ h (Sub.refl _) (fun _ h=>h.elim)
   have CL:∀k,k<xs.length+ys.length->sub gz (k * e.width) e.width=((cW++aV).drop (k * e.width)).take e.width:=fun k hk=>UK w_ (by
    have:=fl e.width (show k+1<=xs.length+ys.length by exact hk);rw[mb]at this;exact this)
   obtain⟨g',z1,z2,z3⟩:=fin (w.setCells b (xs.length * e.width) aV).heap F (fun b' _ hb'=>cX b' (fun e0=>hb' (e0 ▸ rN))) (by rw[vM];exact ck _) (fun _ h=>h) (fun _ h=>.inl h)
    (fun b h=>by rw[vM];exact st.b9 r b bM (q3 b h))
    (ER (cells:=cW++aV) (.inr rN) Cx (by rw[sn];exact nK (fl _ DW) oA) DW (fun k hk=>CL k (by omega)) (fun k hk=>by
     have:=Dz k (by rw[hlen];omega);have e1:(xs++ys).getD k e.zero=xs.getD k e.zero:=by simp[List.getD,ko hk]
     rw[e1]at this;exact hmono this)) (.slice (some ⟨b,0,none⟩) (xs.length+ys.length) eX)
    ⟨[.slice (some ⟨b,0,none⟩) (xs++ys).length eX],ER (cells:=cW++aV) (.inr rN) Cx (by rw[sn,hlen];exact nK (fl _ hroom) oA) (by rw[hlen];exact hroom) (fun k hk=>CL k (by rw[hlen]at hk;exact hk)) (fun k hk=>hmono (Dz k hk)),by rw[hlen];rfl⟩
   have fP:=Tt (b:=b) aV (xs.length * e.width) w;have Wr:g.L b:=st.own r b bM (q3 b rN);exact⟨_,_,by rw[hex,hr];rfl,g',z1,z2,z3,⟨fP.1,fP.2.1,fP.2.2,by rw[vM];exact ck _,fun b' _ hb'=>cX b' (fun e0=>hb' (e0 ▸ Wr))⟩⟩
 .have Ws:xs.length+ys.length<=274877906944:=hbd;have wU:=Df (P:=P) (w:=w.drew) (size:=e.width) (n:=ys.length) (len:=ys.length) (cap:=lJ) (ad:=s8) iI (by
   rcases hsrc ng with h | ⟨b,o',h3,h4⟩
   .exact .inl h
   .exact .inr ⟨b,o',h3,VW h4⟩)
  have wT:=Df (P:=P) (w:=w.drew) (size:=e.width) (n:=xs.length) (len:=xs.length) (cap:=eX) (ad:=ow) nM (by
   rcases hsrc w8 with h | ⟨b,o',h3,h4⟩
   .exact .inl h
   .exact .inr ⟨b,o',h3,VW h4⟩)
  rw[<-i2]at wU wT;have hg:eX<xs.length+ys.length:=by omega
  have oD:=Room.nextslicecap_le' (need:=xs.length+ys.length) (old:=eX) hg;have hfit:Builtin.nextslicecap (xs.length+ys.length) eX * i.bytes<=281474976710656:=by have h5:Builtin.nextslicecap (xs.length+ys.length) eX * i.bytes<=549755813888 * 255:=Nat.mul_le_mul (by omega) i4;omega
  have hr:=Pk (P:=P) w (ty:=o.type) h0 h1 vK su i1 i3 wU wT hg (by omega) hfit;have hge:=grownCap_ge w (xs.length+ys.length) eX u;generalize grownCap w (xs.length+ys.length) eX u=cap' at hr hge;generalize me:(cW.toArray++aV.toArray++Builtin.zeroCells (dJ (C.ty u) (zc (C.ty u))).cells (cap'-(xs.length+ys.length)))=cs at hr;have DN:cs.toList.take ((xs.length+ys.length) * e.width)=cW++aV:=by rw[<-me];simp only[Array.toList_append,eG];rw[<-eG,og (by rw[jK];exact ck _),kq (by rw[jK];exact ck _)]
  have DO:(xs.length+ys.length) * e.width<=cs.size:=by
   rw[<-me];have h9:cW.length+aV.length=(xs.length+ys.length) * e.width:=by rw[<-cI];exact jK
   simp only[Array.size_append,List.size_toArray,h9];omega
  have hold:∀b,b<w.heap.size->(w.heap.push (.cells cs u))[b]? = w.heap[b]?:=fun b hb=>zD b hb;have se:sY (w.heap.push (.cells cs u)) w.heap.size cs:=(ju.new (h:=w.heap) (cs:=cs) (e:=u)).Cq;have hmono:∀{t:Ty}{z:t.den}{c:List Value},az w.heap g.Pr t .no z c Nil->az (w.heap.push (.cells cs u)) (Un g.Pr fun b=>F b\/b=w.heap.size) t .no z c Nil:=fun h=>
   az.mono (fun b' hb'=>.inl hb') (fun b' hb'=>hold b' (st.bO b' hb')) _ h (Sub.refl _) (fun _ h=>h.elim)
  obtain⟨g',z1,z2,z3⟩:=fin (w.heap.push (.cells cs u)) (fun b=>F b\/b=w.heap.size) (fun b hb _=>hold b hb) (by simp) (fun _ h=>.inl h) (fun b h=>h.imp id (fun h=>by omega))
   (fun b h=>by
    rw[Array.size_push];rcases h with h | h
    .have:=st.b9 r b bM (q3 b h);omega
    .omega)
   (az.mono (fun b hb=>hb.imp id .inl) (fun b hb=>hold b (hb.elim (st.bO b) fun h=>st.b9 r b bM (q3 b h))) _ TN (Sub.refl _) (fun _ h=>h.elim)) (.slice (some ⟨w.heap.size,0,none⟩) (xs.length+ys.length) cap')
   ⟨[.slice (some ⟨w.heap.size,0,none⟩) (xs++ys).length cap'],ER (cells:=cW++aV) (.inr (.inr rfl)) se (by rw[hlen];exact DO) (by rw[hlen];exact hge) (fun k hk=>UK DN (by
    rw[hlen]at hk;have:=fl e.width (show k+1<=xs.length+ys.length by exact hk);rw[mb]at this;exact this)) (fun k hk=>hmono (Dz k hk)),by rw[hlen];rfl⟩
  refine⟨_,w.drew.alloc (.cells cs u),by rw[hex,hr];rfl,g',z1,z2,z3,?_⟩;exact⟨rfl,rfl,rfl,by show w.heap.size<=(w.heap.push _).size;simp,fun b hb _=>zD b hb⟩
theorem ac4{o:Oper}{c:Call}{x y:Operand}{t t':TypeId}{e:Ty}(ho:o.op=.call c)(hc:c.callee=.builtin .append)(hargs:c.args = #[x,y])
  (h0:c.argTypes[0]? = some t) (h1:c.argTypes[1]? = some t') (hT:C.ty t=.sl e) (Cw:C.ty t'=.sl e)
  (ht:bX (qR S.rt e (ρ x) (ρ y))):fy P S g w tmps (qR S.rt e (ρ x) (ρ y)) ((execOp a.eval o).run P w):=by
 cases D_:ρ x with
 | b7 r p s=>
  cases zk:ρ y with
  | val ty ys=>
   cases ty with
   | sl t2=>
    rw[D_,zk]at ht;unfold qR at ht⊢;simp only at ht⊢;cases hR:S.rt.root r with
    | none=>rw[hR]at ht;exact absurd ht bX.fail
    | some R=>
     rw[hR]at ht;simp only at ht⊢;cases hf:focus R.ty R.ms R.x p with
     | none=>rw[hf]at ht;exact absurd ht bX.fail
     | some d=>
      obtain⟨dt,dm,dx⟩:=d;cases dt with
      | sl e'=>
       cases dm with
       | own s' m=>
        rw[hf]at ht;simp only at ht⊢;by_cases hs:s=s'/\e'=e/\t2=e/\m.still=true
        .simp only[aj hs]at ht⊢;obtain⟨rfl,rfl,rfl,hm⟩:=hs;rw[TH,TH]at ht⊢;cases hput:put R.ty R.ms R.x p (.sl t2) .no dx with
         | none=>rw[hput]at ht;exact absurd ht bX.fail
         | some r'=>
          rw[hput]at ht;simp only at ht⊢;obtain⟨⟨v,rt'⟩,hd⟩:=ht true;simp only[Tr.dec]at hd;by_cases hbd:(dx:List t2.den).length+(ys:List t2.den).length<=f_
          .obtain⟨val,w',hrun,hpost⟩:=aj1 (m':=r'.1) (x':=r'.2) bn st hρ ho hc hargs h0 h1 hT Cw D_ zk hR hf hm hput hbd;exact fy.value hrun ⟨true,_,_,by simp only[Tr.dec,bC hbd];rfl,hpost⟩
          .rw[b8 hbd]at hd;simp at hd
        .rw[af hs]at ht;exact absurd ht bX.fail
       | _=>rw[hf]at ht;exact absurd ht bX.fail
      | _=>rw[hf]at ht;exact absurd ht bX.fail
   | _=>rw[D_,zk]at ht;exact absurd ht bX.fail
  | _=>rw[D_,zk]at ht;exact absurd ht bX.fail
 | _=>rw[D_]at ht;exact absurd ht bX.fail
end
end Go.V
namespace Go.V
noncomputable section
open Go
theorem P_{t:Ty}{xs ys:List t.den}:(vZ t xs ys).length=xs.length:=by simp only[vZ,cI,e9,x9];omega
theorem P9{t:Ty}{xs ys:List t.den}(i:Nat)(hi:i<xs.length):(vZ t xs ys).getD i t.zero=if i<min ys.length xs.length then ys.getD i t.zero else xs.getD i t.zero:=by
 unfold vZ;simp only[List.getD];by_cases h:i<ys.length
 .rw[aj (by omega),ko (by rw[e9];omega),gj,aj hi]
 .rw[af (by omega),lZ (by rw[e9];omega),iE,e9];congr 2;omega
theorem adj{w k:Nat}{cs gz:Array Value}{news:List Value}(hl:news.length=k * w)(hfit:k * w<=cs.size)(e:gz.toList=bP cs.toList 0 news)(i:Nat) :
  sub gz (i * w) w=if i<k then (news.drop (i * w)).take w else sub cs (i * w) w:=by
 have hf:0+news.length<=cs.toList.length:=by rw[hl,iM];omega
 unfold sub;apply rL;intro j;rw[gj,iE,e,adb hf,hl];by_cases hj:j<w
 .rw[aj hj,af (by omega)];by_cases h1:i<k
  .have a2:=fl w (show i+1<=k by omega);rw[mb]at a2;rw[aj h1,aj (by omega),gj,aj hj,iE];congr 1
  .have:=fl w (show k<=i by omega);rw[af h1,af (by omega),gj,aj hj,iE]
 .rw[af hj];split
  .rw[gj,af hj]
  .rw[gj,af hj]
theorem ajc{w:World}{S:St}{g:aA}{tmps:Array Value}(st:aD w.heap S g tmps Nil){r:Nat}{p:Path}{R:aB}{t:Ty}{s:Nat}{xs ys:List t.den}{s9:fH}{ad:Option Addr}{n cap:Nat}
  (hR:S.root r=some R) (hf:focus R.ty R.ms R.x p=some ⟨.sl t,.own s .no,xs⟩) (hin:bt R.ty R.x p) (ef:cm w.heap R.ty (g.C r) (g.base r) p=some (s9,[.slice ad n cap])) (hs:s<1048576)
  {k:Nat} (hk:k=min ys.length xs.length) (h1:0<k) {news:List Value} (CG:news.length=k * t.width)
  (hy:∀i,i<k->az w.heap g.Pr t .no (ys.getD i t.zero) ((news.drop (i * t.width)).take t.width) Nil)
  {m':Mk} {x':R.ty.den} (hput:put R.ty R.ms R.x p (.sl t) (.own s .no) (vZ t xs ys)=some (m',x')) :
  n=xs.length/\∃b,ad=some ⟨b,0,none⟩/\g.L b/\w.there b 0 (k * t.width)/\∃g',aD (w.setCells b 0 news).heap (S.aG r (some { R with ms:=m',x:=x' })) g' tmps Nil/\g'.cR g:=by
 have hm:Mk.still .no=true:=rfl;obtain⟨base,c,F,q1,q2,q3,q4,q5,q6⟩:=st.update hR hf hin;rw[ef]at q1;simp only[aK,aZ]at q1;obtain⟨rfl,rfl⟩:=q1;have q2':=q2;simp only[az]at q2;obtain⟨ad',cap',e0,hl,hr⟩:=q2;simp only[eS,Value.slice.injEq,iO]at e0;obtain⟨rfl,rfl,rfl⟩:=e0;refine⟨rfl,?_⟩;rcases hr with hr | ⟨b,cs,rfl,fb,hb,hsz,Fs,pZ,hd,re⟩
 .omega
 have bM:(S.root r).isSome:=by rw[hR];rfl
 have IZ:=q3 b fb;have KM:k * t.width<=cs.size:=nK (fl _ (by omega)) hsz;have hfit:0+news.length<=cs.size:=by omega
 have cX:∀b',b'≠b->(w.setCells b 0 news).heap[b']? = w.heap[b']?:=fun b' hb'=>JQ _ _ w b' hb';obtain⟨gz,ug,Km⟩:=Pm (w:=w) (base:=some (b,0)) (c2:=news) rfl hb hfit b 0 rfl cs hb;have sn:gz.size=cs.size:=by rw[<-iM,Km,C_ (by rw[iM];exact hfit),iM]
 have hsub:=adj (w:=t.width) CG KM Km;have Ue:¬ g.Pr b:=fun hb'=>st.ej r bM b IZ hb';have oF:(Mk.own s .no).ax=true:=by simp only[Mk.ax,bH];exact⟨rH hs,trivial⟩
 have hlen:(vZ t xs ys).length=xs.length:=P_;have jR:az (w.setCells b 0 news).heap g.Pr (.sl t) (.own s .no) (vZ t xs ys) [.slice (some ⟨b,0,none⟩) xs.length cap] F:=by
  simp only[az];refine⟨_,cap,by rw[hlen],by rw[hlen];exact hl,.inr ⟨b,gz,rfl,fb,ug,by rw[sn];exact hsz,Fs,pZ,hd,fun i hi'=>?_⟩⟩;rw[hlen]at hi';rw[P9 i hi',hsub,<-hk];by_cases hz:i<k
  .rw[aj hz,aj hz];exact az.mono (Sub.refl _) (fun b' hb'=>cX b' (fun e=>Ue (e ▸ hb'))) _ (hy i hz) (Sub.nil _) (fun b' hb'=>hb'.elim)
  .rw[af hz,af hz];exact az.mono (Sub.refl _) (fun b' hb'=>cX b' (fun e=>Ue (e ▸ hb'))) _ (re i hi') (Sub.refl _) (fun b' hb'=>cX b' (fun e=>(pZ i).2 (e ▸ hb')))
 obtain⟨g2,s1,s2,s3,s4,s5,s6⟩:=q6 0 0 (w.setCells b 0 news).heap (.own s .no) (vZ t xs ys) [.slice (some ⟨b,0,none⟩) xs.length cap] F m' x'
  (fun u=>JU _) (fun b' _ hb' _=>cX b' (fun e=>hb' (e ▸ fb))) (by rw[vM];exact ck _)
  (by
   intro b' o e cs' wX;obtain⟨z7,cs3,DY,wO,w9⟩:=q4 b' o e;have hne:b'≠b:=fun e=>z7 (e ▸ fb);refine⟨cs',wX.congr (cX b' hne),?_⟩;have:=wX.uniq DY;subst this;have hr:=GN (c:=cs'.toList) (n:=o) (k:=1) (by rw[iM];exact wO);have zj:(cs'.toList.drop o).take 1=[Value.slice (some ⟨b,0,none⟩) xs.length cap]:=w9;rw[zj]at hr;exact hr.symm)
  jR (fun b' hb'=>.inl hb') (fun b' hb'=>by rw[vM];exact st.b9 r b' bM (q3 b' hb')) hput (Mk.fM 0 0 _)
  (aL.ax _ oF) (fun _=>oF)
  (by
   intro p' t1 n1 _ gV hi';cases p' with
   | nil=>refine⟨trivial,fun bp cp ha=>⟨cp,?_,fun _ _ _ _=>rfl⟩⟩;simp only[cm]at ha⊢;exact ha
   | cons x p'=>
    cases x with
    | fst=>simp[q8]at gV
    | snd=>simp[q8]at gV
    | idx i s'=>
     simp only[q8]at gV;split at gV
     .obtain⟨Ur,zg⟩:=Gk p' hm gV;simp only[bt]at hi';refine⟨?_,fun bp cp ha=>?_⟩
      .simp only[bt];exact⟨by rw[hlen];exact hi'.1,zx p' _ Ur gV⟩
      .obtain⟨e1,l1,u1,he1,_⟩:=hb;obtain⟨e2,l2,u2,Ui,_⟩:=ug;simp only[cm,he1]at ha;obtain⟨iP,h3⟩:=IC (h':=(w.setCells b 0 news).heap) p' _ (sub gz (i * t.width) t.width) _ Ur ha;refine⟨iP,by simp only[cm,Ui];exact h3,fun s4 a4 e4 _=>?_⟩;rw[e4]at zg;simp[Mk.still]at zg
     .simp at gV)
 exact⟨b,rfl,st.own r b bM IZ,AE hb (by omega),g2,s1.bx (Sub.nil _),s3⟩
section
variable {P:Program} {C:Ctx} {D:Den C} {S:St} {g:aA} {w:World} {tmps:Array Value} {a:Act} {ρ:Operand->AV}
variable {A:bU} {site:Nat} {hint:Bool} (bn:iC P C) (st:aD w.heap S g tmps Nil) (hρ:∀x,qe w.heap S g (ρ x) (a.eval x))
include bn st hρ
theorem acO{o:Oper}{c:Call}{x y:Operand}{t:TypeId}{e:Ty}(ho:o.op=.call c)(hc:c.callee=.builtin .copy)(hargs:c.args = #[x,y])
  (h0:c.argTypes[0]? = some t) (hT:C.ty t=.sl e) (ht:bX (xW S.rt e (ρ x) (ρ y))):fy P S g w tmps (xW S.rt e (ρ x) (ρ y)) ((execOp a.eval o).run P w):=by
 have hx:=hρ x;have Xv:=hρ y;unfold xW at ht⊢;cases hv:ρ x with
 | b7 r p s=>
  cases zk:ρ y with
  | val ty nF=>
   rw[hv,zk]at ht;rw[hv]at hx;rw[zk]at Xv;cases ty with
   | sl t2=>
    simp only at ht⊢;cases hR:S.rt.root r with
    | none=>rw[hR]at ht;exact absurd ht bX.fail
    | some R=>
     rw[hR]at ht;simp only at ht⊢;cases hf:focus R.ty R.ms R.x p with
     | none=>rw[hf]at ht;exact absurd ht bX.fail
     | some d=>
      obtain⟨dt,dm,dx⟩:=d;cases dt with
      | sl e'=>
       cases dm with
       | own s' m=>
        cases m with
        | no=>
         rw[hf]at ht;simp only at ht⊢;by_cases hs:s=s'/\e'=e/\t2=e/\s'<1048576
         .simp only[aj hs]at ht⊢;obtain⟨rfl,rfl,rfl,hs6⟩:=hs;cases DP:qbv (.sl t2) (.sl t2) nF with
          | none=>rw[DP]at ht;exact absurd ht bX.fail
          | some ys=>
           rw[DP]at ht;simp only at ht⊢;obtain⟨ee,hys⟩:=C8 DP;simp only at hys;subst hys;cases hput:put R.ty R.ms R.x p (.sl t2) (.own s .no) (vZ t2 dx nF) with
           | none=>rw[hput]at ht;exact absurd ht bX.fail
           | some r'=>
            simp only;obtain⟨u,vK,CN,Lt⟩:=bn.desc hT;have ku:=bn u Lt;obtain⟨i,i1,i2,i3,i4⟩:=ku.info;rw[CN]at i2;simp only[qe]at hx Xv;obtain⟨hin,s9,ef⟩:=hx R hR t2 .no dx hf;obtain⟨c2,IK,Ko⟩:=Xv;obtain⟨s8,lJ,aV,pR,rfl,iI,KS,ng,za,nW,_⟩:=J7 (by simp) (by simp) IK;have zN:a.eval y=.slice s8 (List.length nF) lJ:=Ko;obtain⟨base,c0,F,q1,o9,_⟩:=st.update hR hf hin;rw[ef]at q1;simp only[aK,aZ]at q1;obtain⟨rfl,rfl⟩:=q1;obtain⟨ow,eX,cW,Fs1,Dx,_⟩:=J7 (by simp) (by simp) o9;simp only[eS,iO]at Dx;have T9:=Dx;rw[Dx]at ef;have hex:∀k news w',k=min (List.length nF) (List.length dx)->(Builtin.firstCells i.size k (.slice s8 (List.length nF) lJ)).run P w=.ok (List.toArray news) w->
              (∀ad,ow=some ad->(storeCells ad news).run P w=.ok () w')->(ow=none->w'=w)->
              (execOp a.eval o).run P w=.ok (.value (goInt k)) w':=by
             intro k news w' hk hn hst hno;have hk':Nat.min (List.length nF) (List.length dx)=k:=hk.symm;cases ow with
             | none=>obtain rfl:=hno rfl;simp[execOp,ho,resolve,hc,invoke,builtin,hargs,T9,zN,Sem.run_bind,Builtin.copy_,h0,run_underlying vK,Builtin.lenOf,sizeOf,typeInfo,i1,hk',hn]
             | some ad=>have:=hst ad rfl;simp[execOp,ho,resolve,hc,invoke,builtin,hargs,T9,zN,Sem.run_bind,Builtin.copy_,h0,run_underlying vK,Builtin.lenOf,sizeOf,typeInfo,i1,hk',hn,this]
            by_cases hpos:0<List.length nF/\0<List.length dx
            .have tA:∃b o,s8=some ⟨b,o,none⟩/\w.rangeAt b o (aV.take (min (List.length nF) (List.length dx) * t2.width)):=by
              rcases ng with⟨h0,_⟩ | ⟨b,o,cs,h1,h2,h3,h4⟩
              .omega
              .refine⟨b,o,h1,?_⟩;have mV:min (List.length nF) (List.length dx) * t2.width<=List.length nF * t2.width:=fl _ (by omega);have:=C9 (n:=min (List.length nF) (List.length dx) * t2.width) (o:=o) h2 (by omega);have e3:aV.take (min (List.length nF) (List.length dx) * t2.width)=sub cs o (min (List.length nF) (List.length dx) * t2.width):=by rw[h4];simp only[sub,uI];congr 1;omega
               rw[e3];exact this
             have CG:(aV.take (min (List.length nF) (List.length dx) * t2.width)).length=min (List.length nF) (List.length dx) * t2.width:=by rw[e9,iI];have mV:min (List.length nF) (List.length dx) * t2.width<=List.length nF * t2.width:=fl _ (by omega);omega
             generalize hk:min (List.length nF) (List.length dx)=k at tA CG;generalize hnews:aV.take (k * t2.width)=news at tA CG;have oW:∀j,j<k->az w.heap g.Pr t2 .no (List.getD nF j t2.zero) ((news.drop (j * t2.width)).take t2.width) Nil:=by
              intro j hj;have:=za.rep j (by omega);have e4:(news.drop (j * t2.width)).take t2.width=(aV.drop (j * t2.width)).take t2.width:=by rw[<-hnews,yg,uI];congr 1;have:=fl t2.width (show j+1<=k by omega);rw[mb]at this;omega
              rw[e4];exact az.room _ this (fun b hb=>(nW j b hb).elim)
             obtain⟨_,b,hb,hgL,xb,g',st',hsame⟩:=ajc (m':=r'.1) (x':=r'.2) (ys:=nF) st hR hf hin ef hs6 hk.symm (by omega) CG oW hput;have h1c:∀v∈news,v.oneCell'=true:=by
              obtain⟨b2,o2,_,zi⟩:=tA;intro v hv;obtain⟨j,hj,rfl⟩:=mT.1 hv;have hj2:j<k * t2.width:=by omega
              have hw:0<t2.width:=by
               rcases Nat.eq_zero_or_pos t2.width with h | h
               .rw[h]at hj2;omega
               .exact h
              have WB:=FA j t2.width;have oC:j / t2.width<k:=(Nat.div_lt_iff_lt_mul hw).2 hj2;have hmod:=Nat.mod_lt j hw;refine az.one _ (oW (j / t2.width) oC) _ ?_;apply mS.2;refine⟨j % t2.width,?_⟩;rw[gj,aj hmod,iE,show j / t2.width * t2.width+j % t2.width=j by rw[uN];exact WB,gP hj]
             have Ls:=run_storeCells_cells (P:=P) b 0 news 0 w (fun j hj=>by have:=(xb j (by omega)).1;simpa using this) (fun j hj=>by have:=(xb j (by omega)).2;simpa using this) h1c;simp only[qS]at Ls;have DQ:(Builtin.firstCells i.size k (.slice s8 (List.length nF) lJ)).run P w=.ok (List.toArray news) w:=
              Df (by rw[i2];exact CG) (.inr (by obtain⟨b2,o2,e2,zi⟩:=tA;exact⟨b2,o2,e2,zi⟩))
             have hrun:=hex k news (w.setCells b 0 news) hk.symm DQ (fun ad ha=>by rw[hb]at ha;injection ha with ha;rw[<-ha];exact Ls) (fun ha=>by rw[hb]at ha;exact absurd ha (by simp));have fP:=Tt (b:=b) news 0 w;refine fy.value (val:=goInt k) (w':=w.setCells b 0 news) hrun ⟨true,.val (.int .i64) ((k:Nat):Int),_,by simp only[Tr.dec,bC hpos.1,bC hpos.2,FJ],g',st',u_ _ _,hsame,⟨fP.1,fP.2.1,fP.2.2,by rw[vM];exact ck _,fun b' _ hb'=>JQ _ _ w b' (fun e=>hb' (e ▸ hgL))⟩⟩
            .have KQ:0=min (List.length nF) (List.length dx):=by omega
             have hrun:=hex 0 [] w KQ (Df (by simp) (.inl ⟨rfl,rfl⟩)) (fun ad _=>rfl) (fun _=>rfl);refine fy.value (val:=goInt 0) (w':=w) hrun ⟨true,.val (.int .i64) ((0:Nat):Int),_,?_,Post.same st (u_ _ _)⟩;have:(decide (0<List.length nF)&&decide (0<List.length dx))=false:=by rw[<-Bool.not_eq_true,bH,decide_eq_true_iff,decide_eq_true_iff];exact hpos
             simp only[Tr.dec,this]
         .rw[af hs]at ht;exact absurd ht bX.fail
        | _=>rw[hf]at ht;exact absurd ht bX.fail
       | _=>rw[hf]at ht;exact absurd ht bX.fail
      | _=>rw[hf]at ht;exact absurd ht bX.fail
   | _=>exact absurd ht bX.fail
  | _=>rw[hv,zk]at ht;exact absurd ht bX.fail
 | _=>rw[hv]at ht;exact absurd ht bX.fail
end
end
section
variable {P:Program} {C:Ctx} {D:Den C} {S:St} {g:aA} {w:World} {tmps:Array Value} {a:Act} {ρ:Operand->AV}
variable {A:bU} {site:Nat} {hint:Bool} (bn:iC P C) (st:aD w.heap S g tmps Nil) (hρ:∀x,qe w.heap S g (ρ x) (a.eval x))
theorem Ba{α β:Type}{f:α->β}{l:List α}{x y:β}(h:l.map f=[x,y]):∃u v,l=[u,v]/\f u=x/\f v=y:=by
 match l,h with
 | [u,v],h=>simp only[cr,fY,eS,iO]at h;exact⟨u,v,rfl,h.1,h.2⟩
theorem ajb{α β:Type}{f:α->β}{l:List α}{x y:β}{r:List β}(h:l.map f=x::y::r):l[0]?.map f=some x/\l[1]?.map f=some y:=by
 match l,h with
 | u::v::l,h=>simp only[cr,eS]at h;simp[h.1,h.2.1]
include bn st hρ
theorem Q9{o:Oper}{c:Call}{b:Builtin}(ho:o.op=.call c)(hc:c.callee=.builtin b)(hb:b=.min\/b=.max):Goal P C D S g w tmps a ρ A site hint o:=by
 intro ht;rcases hb with rfl | rfl
 .simp only[aX,ho,hc]at ht⊢;split at ht<;>try (first | contradiction | exact absurd ht bX.fail)
  rename_i hargs;obtain⟨u,v,hl,hu,hv⟩:=Ba hargs;have e1:c.args = #[u,v]:=by rw[<-pG (xs:=c.args),hl]
  split at ht
  .rename_i ka x kb y;by_cases hk:ka=kb
   .subst hk;simp only[aY]at ht⊢;have hx:=hρ u;have hy:=hρ v;rw[hu]at hx;rw[hv]at hy;refine fy.ret (val:=.int ka (if y<x then y else x)) ?_ st (u_ _ _);simp[execOp,ho,resolve,hc,invoke,builtin,Builtin.min_,Builtin.min2,e1,Cd hx,Cd hy,Sem.run_bind]
   .rw[af hk]at ht;exact absurd ht bX.fail
  .exact absurd ht bX.fail
 .simp only[aX,ho,hc]at ht⊢;split at ht<;>try (first | contradiction | exact absurd ht bX.fail)
  rename_i hargs;obtain⟨u,v,hl,hu,hv⟩:=Ba hargs;have e1:c.args = #[u,v]:=by rw[<-pG (xs:=c.args),hl]
  split at ht
  .rename_i ka x kb y;by_cases hk:ka=kb
   .subst hk;simp only[aY]at ht⊢;have hx:=hρ u;have hy:=hρ v;rw[hu]at hx;rw[hv]at hy;refine fy.ret (val:=.int ka (if y>x then y else x)) ?_ st (u_ _ _);simp[execOp,ho,resolve,hc,invoke,builtin,Builtin.max_,Builtin.max2,e1,Cd hx,Cd hy,Sem.run_bind]
   .rw[af hk]at ht;exact absurd ht bX.fail
  .exact absurd ht bX.fail
theorem aba{o:Oper}{c:Call}{b:Builtin}(ho:o.op=.call c)(hc:c.callee=.builtin b)(ok:nL A S o.dst site):Goal P C D S g w tmps a ρ A site hint o:=by
 cases b with
 | len=>exact akB bn st hρ ho hc
 | min=>exact Q9 bn st hρ ho hc (.inl rfl)
 | max=>exact Q9 bn st hρ ho hc (.inr rfl)
 | append=>
  intro ht;simp only[aX,ho,hc]at ht⊢;split at ht<;>try (first | contradiction | exact absurd ht bX.fail)
  rename_i x0 y0 e e' _ _ hargs j6;obtain⟨u,v,hl,hu,hv⟩:=Ba hargs;obtain⟨q1,q2⟩:=ajb j6;simp only[fk,xO]at q1 q2;obtain⟨t,CM,hT⟩:=q1;obtain⟨t',I6,Cw⟩:=q2;have e1:c.args = #[u,v]:=by rw[<-pG (xs:=c.args),hl]
  by_cases hee:e=e'
  .subst hee;simp only[aY]at ht⊢;subst hu;subst hv;cases hint with
   | false=>simp only[e8,dV]at ht⊢;exact aby bn st hρ ho hc e1 CM I6 hT Cw ok ht
   | true=>simp only[aY]at ht⊢;exact ac4 bn st hρ ho hc e1 CM I6 hT Cw ht
  .rw[af hee]at ht;exact absurd ht bX.fail
 | clear=>intro ht;simp only[aX,ho,hc]at ht⊢;split at ht<;>try (first | contradiction | exact absurd ht bX.fail)
 | copy=>
  intro ht;simp only[aX,ho,hc]at ht⊢;split at ht<;>try (first | contradiction | exact absurd ht bX.fail)
  rename_i x0 y0 e _ _ hargs j6;obtain⟨u,v,hl,hu,hv⟩:=Ba hargs;obtain⟨t,CM,hT⟩:∃t,c.argTypes[0]? = some t/\C.ty t=.sl e:=by
   match hq:c.argTypes.toList,j6 with
   | t::l,h=>simp only[hq,cr,eS]at h;exact⟨t,by rw[<-xO,hq];rfl,h.1⟩
  have e1:c.args = #[u,v]:=by rw[<-pG (xs:=c.args),hl]
  subst hu;subst hv;exact acO bn st hρ ho hc e1 CM hT ht
 | _=>intro ht;simp only[aX,ho,hc]at ht⊢;exact absurd ht bX.fail
theorem akU{o:Oper}(ok:nL A S o.dst site)(tf:∀c f,o.op=.call c->c.callee=.value f->Goal P C D S g w tmps a ρ A site hint o):Goal P C D S g w tmps a ρ A site hint o:=by
 cases ho:o.op with
 | move x=>exact ajY st hρ ho
 | assign x=>exact abA bn st hρ ho ok
 | pick c x y=>exact aj5 st hρ ho
 | alloc t=>exact acv bn st hρ ho ok
 | box t x=>exact akn bn st hρ ho ok
 | build t ps=>exact ace bn st hρ ho ok
 | buildSlice t n ps=>exact ahT bn st hρ ho ok
 | load t x=>exact ajV bn st hρ ho
 | store t x y=>exact adi bn st hρ ho ok
 | nilCheck x=>exact akE st hρ ho
 | binOp op t x y t2=>exact acd bn st hρ ho
 | unOp op t x=>exact ajF st hρ ho
 | convert s d x=>exact aaW bn st hρ ho
 | makeFunc f x y=>exact aaM bn st hρ ho
 | makeSlice t x y=>exact aja bn st hρ ho ok
 | slice t x lo hi mx=>
  cases mx with
  | none=>exact adg bn st hρ ho ok
  | some v=>intro ht;simp only[aX,ho]at ht;exact absurd ht bX.fail
 | fieldAddr t x f=>exact aiZ bn st hρ ho
 | field t x f=>exact acS bn st hρ ho
 | indexAddr t x i=>exact ai8 bn st hρ ho
 | index t x i=>exact acW bn st hρ ho
 | extract x i=>exact abd bn st hρ ho
 | call c=>
  cases hc:c.callee with
  | builtin b=>exact aba bn st hρ ho hc ok
  | value f=>exact tf c f ho hc
  | invoke r m=>intro ht;simp only[aX,ho,hc]at ht;exact absurd ht bX.fail
 | _=>intro ht;simp only[aX,ho]at ht;exact absurd ht bX.fail
end
end Go.V
namespace Go.V
noncomputable section
open Go
def PG(Pr:BS):aA:=⟨Pr,fun _=>[],fun _=>none,fun _=>Nil,fun _=>undef,Nil,Nil⟩
def vY(h:Array Obj)(Pr:BS)(t:Ty)(m:Mk)(x:t.den)(v:Value)(F:BS):Prop:=
 ∃b c F0,v=.pointer (some ⟨b,0,none⟩)/\az h Pr t m x c F0/\ju h b c.toArray/\F b/\Sub F0 F/\¬ F0 b
def pO(h:Array Obj)(Pr:BS)(t:Ty)(m:Mk)(x:t.den)(v:Value)(F:BS):Prop:=
 ∃c,az h Pr t m x c F/\v=dJ t c
def V1(h:Array Obj)(Pr:BS):(k:PK)->k.den->Value->BS->Prop
 | .val t,x,v,_=>pO h Pr t .no x v Nil
 | .own t m,x,v,F=>pO h Pr t m x v F
 | .cN t m _,x,v,F=>pO h Pr t m x v F
 | .cw t m _,x,v,F=>vY h Pr t m x v F
 | .cj t,x,v,_=>yz h (PG Pr) t x v
 | .fn,c,v,_=>∃vs,v=.func (.func c.f) #[] vs.toArray/\nR h (PG Pr) c.caps vs
def yI(h:Array Obj)(Pr:BS)(Fs:Nat->BS):Nat->(ks:List PK)->gb ks->List Value->Prop
 | _,[],_,vs=>vs=[]
 | i,k::ks,a,vs=>∃v vs',vs=v::vs'/\V1 h Pr k a.1 v (Fs i)/\yI h Pr Fs (i+1) ks a.2 vs'
def n_(h:Array Obj)(Pr:BS)(Fs:Nat->BS):Nat->(ks:List PK)->jq ks->List Value->Prop
 | _,[],_,vs=>vs=[]
 | i,.own t m::ks,a,vs=>∃v vs',vs=v::vs'/\pO h Pr t m a.1 v (Fs i)/\n_ h Pr Fs (i+1) ks a.2 vs'
 | i,.val _::ks,a,vs=>∃v vs',vs=v::vs'/\n_ h Pr Fs (i+1) ks a vs'
 | i,.cw _ _ _::ks,a,vs=>∃v vs',vs=v::vs'/\n_ h Pr Fs (i+1) ks a vs'
 | i,.cN _ _ _::ks,a,vs=>∃v vs',vs=v::vs'/\n_ h Pr Fs (i+1) ks a vs'
 | i,.cj _::ks,a,vs=>∃v vs',vs=v::vs'/\n_ h Pr Fs (i+1) ks a vs'
 | i,.fn::ks,a,vs=>∃v vs',vs=v::vs'/\n_ h Pr Fs (i+1) ks a vs'
def nx(h:Array Obj)(Pr:BS)(Fs:Nat->BS):Nat->(ks:List PK)->dy ks->List Value->Prop
 | _,[],_,vs=>vs=[]
 | i,.cw t _ m::ks,o,vs=>∃v vs',vs=v::vs'/\vY h Pr t m o.1 v (Fs i)/\nx h Pr Fs (i+1) ks o.2 vs'
 | i,.cN t _ m::ks,o,vs=>∃v vs',vs=v::vs'/\pO h Pr t m o.1 v (Fs i)/\nx h Pr Fs (i+1) ks o.2 vs'
 | i,.val _::ks,o,vs=>∃v vs',vs=v::vs'/\nx h Pr Fs (i+1) ks o vs'
 | i,.own _ _::ks,o,vs=>∃v vs',vs=v::vs'/\nx h Pr Fs (i+1) ks o vs'
 | i,.cj _::ks,o,vs=>∃v vs',vs=v::vs'/\nx h Pr Fs (i+1) ks o vs'
 | i,.fn::ks,o,vs=>∃v vs',vs=v::vs'/\nx h Pr Fs (i+1) ks o vs'
def r7(h:Array Obj)(Pr:BS):(k:RK)->k.den->Value->BS->Prop
 | .val t m,x,v,F=>pO h Pr t m x v F
 | .ptr t m,x,v,F=>vY h Pr t m x v F
def lu(h:Array Obj)(Pr:BS)(Fs:Nat->BS):Nat->(ks:List RK)->f5 ks->List Value->Prop
 | _,[],_,vs=>vs=[]
 | i,k::ks,a,vs=>∃v vs',vs=v::vs'/\r7 h Pr k a.1 v (Fs i)/\lu h Pr Fs (i+1) ks a.2 vs'
def tK:List Value->Value
 | [v]=>v
 | vs=>.tuple vs.toArray
structure Pre (h:Array Obj) (Pr:BS) (Fs:Nat->BS) (ks:List PK) (a:gb ks) (vs:List Value):Prop where
 rel:yI h Pr Fs 0 ks a vs
 dY:∀i j,i≠j->cv (Fs i) (Fs j)
 ej:∀i,cv (Fs i) Pr
 lim:∀i b,Fs i b->b<h.size
 bO:∀b,Pr b->b<h.size
def tT(n:Nat)(Fs:Nat->BS):BS:=fun b=>n<=b\/∃i,Fs i b
structure T6 (w w':World) (Pr:BS) (Fs:Nat->BS) (ks:List PK) (rs:List RK) (r:f5 rs) (o:dy ks) (vs:List Value) (val:Value) (fN:BS) (Gs Os:Nat->BS) (us:List Value):Prop where
 res:lu w'.heap fN Gs 0 rs r us
 val:val=tK us
 out:nx w'.heap fN Os 0 ks o vs
 pr:Sub Pr fN
 kY:∀b,fN b->Pr b\/tT w.heap.size Fs b
 gL:∀i b,Gs i b->tT w.heap.size Fs b
 oL:∀i b,Os i b->tT w.heap.size Fs b
 zO:∀i j,i≠j->cv (Gs i) (Gs j)
 XC:∀i j,i≠j->cv (Os i) (Os j)
 go:∀i j,cv (Gs i) (Os j)
 gp:∀i,cv (Gs i) fN
 op:∀i,cv (Os i) fN
 wD:∀i b,Gs i b->b<w'.heap.size
 Ah:∀i b,Os i b->b<w'.heap.size
 Aj:∀b,fN b->b<w'.heap.size
 fr:kI (tT w.heap.size Fs) w w'
def Dt(P:Program)(C:Ctx)(D:Den C)(f:FuncId):Prop:=
 ∀a r,D f a=some r->∀(w:World)(Pr:BS)(Fs:Nat->BS)(vs:List Value),Pre w.heap Pr Fs (C.sig f).params a vs->
  Calls P f vs.toArray w fun e w'=>∃val fN Gs Os us,e=.returned val/\T6 w w' Pr Fs (C.sig f).params (C.sig f).res r.1 r.2 vs val fN Gs Os us
def Jg (P:Program) (f:FuncId):Prop:=∃fn,P.funcs[f]? = some fn/\fn.name≠ "runtime.NumGoroutine" /\ fn.body.isSome
structure ot (P:Program) (C:Ctx) (D:Den C):Prop where
 ok:∀f,Dt P C D f
 call:∀f a r,D f a=some r->Jg P f
theorem az.lM{h:Array Obj}{Pr gf:BS}:∀(t:Ty){m:Mk}{x:t.den}{c:List Value}{F:BS},m.full t=true->az h Pr t m x c F->az h gf t m x c F
 | .unit,_,_,_,_,_,r=>by simpa only [az] using r
 | .int k,_,_,_,_,_,r=>by simpa only [az] using r
 | .bool,_,_,_,_,_,r=>by simpa only [az] using r
 | .str,_,_,_,_,_,r=>by simpa only [az] using r
 | .pair a b,m,_,_,_,hm,r=>by
  simp only[Mk.full,bH]at hm;simp only[az]at r⊢;obtain⟨ca,cb,Fa,Fb,e,ra,rb,k⟩:=r;exact⟨ca,cb,Fa,Fb,e,az.lM a hm.1 ra,az.lM b hm.2 rb,k⟩
 | .sl t,m,_,_,_,hm,r=>by
  cases m with
  | own s mi=>simp only[Mk.full]at hm;simp only[az]at r⊢;obtain⟨a,cap,e,hl,r⟩:=r;refine⟨a,cap,e,hl,r.imp id ?_⟩;rintro⟨b,cs,e,fb,hb,hs,Fs,hF,hd,re⟩;exact⟨b,cs,e,fb,hb,hs,Fs,hF,hd,fun i hi=>az.lM t hm (re i hi)⟩
  | _=>simp[Mk.full]at hm
theorem pO.mono{h:Array Obj}{Pr gf:BS}{t:Ty}{m:Mk}{x:t.den}{v:Value}{F:BS}(hp:Sub Pr gf)(r:pO h Pr t m x v F):pO h gf t m x v F:=by obtain⟨c,r,e⟩:=r;exact⟨c,az.mono hp (fun _ _=>rfl) t r (Sub.refl _) (fun _ _=>rfl),e⟩
theorem n_.mono{h:Array Obj}{Pr gf:BS}{Fs pR:Nat->BS}(hp:Sub Pr gf):∀(ks:List PK)(i:Nat){a:jq ks}{vs:List Value},(∀j,i<=j->pR j=Fs j)->
  n_ h Pr Fs i ks a vs->n_ h gf pR i ks a vs
 | [],_,_,_,_,r=>r
 | .own t m::ks,i,_,_,hj,r=>by
  obtain⟨v,vs',e,r1,r2⟩:=r;exact⟨v,vs',e,by rw[hj i (ck _)];exact r1.mono hp,n_.mono hp ks (i+1) (fun j h=>hj j (by omega)) r2⟩
 | .val _::ks,i,_,_,hj,r=>by obtain⟨v,vs',e,r2⟩:=r;exact⟨v,vs',e,n_.mono hp ks (i+1) (fun j h=>hj j (by omega)) r2⟩
 | .cw _ _ _::ks,i,_,_,hj,r=>by obtain⟨v,vs',e,r2⟩:=r;exact⟨v,vs',e,n_.mono hp ks (i+1) (fun j h=>hj j (by omega)) r2⟩
 | .cN _ _ _::ks,i,_,_,hj,r=>by obtain⟨v,vs',e,r2⟩:=r;exact⟨v,vs',e,n_.mono hp ks (i+1) (fun j h=>hj j (by omega)) r2⟩
 | .cj _::ks,i,_,_,hj,r=>by obtain⟨v,vs',e,r2⟩:=r;exact⟨v,vs',e,n_.mono hp ks (i+1) (fun j h=>hj j (by omega)) r2⟩
 | .fn::ks,i,_,_,hj,r=>by obtain⟨v,vs',e,r2⟩:=r;exact⟨v,vs',e,n_.mono hp ks (i+1) (fun j h=>hj j (by omega)) r2⟩
def lW(h:Array Obj)(S:St)(g:aA):List AV->List Value->Prop
 | [],vs=>vs=[]
 | a::aI,vs=>∃v vs',vs=v::vs'/\qe h S g a v/\lW h S g aI vs'
theorem lW.kp{h:Array Obj}{S S':St}{g g':aA}(k:Kp h S g S' g'):∀{aI:List AV}{vs:List Value},lW h S g aI vs->lW h S' g' aI vs
 | [],_,r=>r
 | a::aI,_,r=>by obtain⟨v,vs',e,r1,r2⟩:=r;exact⟨v,vs',e,k _ _ r1,lW.kp k r2⟩
theorem B0{h:Array Obj}{tmps:Array Value}{sl:List AV}:∀(ks:List PK)(aI:List AV)(vs:List Value)(rt:aP)(g:aA)(H:BS)(i:Nat)(gd:jq ks)(d5:aP),
  lW h ⟨sl,rt⟩ g aI vs->aD h ⟨sl,rt⟩ g tmps H->fX rt ks aI=some (gd,d5)->
  ∃g1 H1 Fs,aD h ⟨sl,d5⟩ g1 tmps H1/\Kp h ⟨sl,rt⟩ g ⟨sl,d5⟩ g1/\g1.cR g/\Sub g.Pr g1.Pr/\n_ h g1.Pr Fs i ks gd vs/\(∀j,j<i->Fs j=Nil)/\
   (∀j,Sub (Fs j) H1)/\(∀j k,j≠k->cv (Fs j) (Fs k))/\(∀j,cv (Fs j) H)/\Sub H H1
 | [],aI,vs,rt,g,H,i,gd,d5,ha,st,hb=>by
  cases aI with
  | nil=>simp only[fX,aK,aZ]at hb;obtain⟨_,rfl⟩:=hb;exact⟨g,H,fun _=>Nil,st,Kp.refl,.refl _,Sub.refl _,ha,fun _ _=>rfl,fun _=>Sub.nil _,fun _ _ _=>cv.nil _,fun _=>cv.nil _,Sub.refl _⟩
  | cons a aI=>simp[fX]at hb
 | .own t m::ks,aI,vs,rt,g,H,i,gd,d5,ha,st,hb=>by
  cases aI with
  | nil=>simp[fX]at hb
  | cons a aI=>
   obtain⟨v,vs',rfl,r1,r2⟩:=ha;simp only[fX,cJ]at hb;obtain⟨⟨mx,x,fe⟩,sq,hb⟩:=hb;split at hb
   .rename_i hs;simp only[cJ,aK,aZ]at hb;obtain⟨⟨gd2,yN⟩,hb,e1,e2⟩:=hb;subst e2;obtain⟨c,g2,F,ev,cF⟩:=yK (S:=⟨sl,rt⟩) _ st sq r1;obtain⟨F1,F2,q1,q2,q3,q4⟩:=az.aQ t hs cF.rep;have pn:=cF.st.cO F2 (fun b hb=>.inr (q2 b hb));have Ad:Kp h ⟨sl,rt⟩ g ⟨sl,fe⟩ { g2 with Pr:=Un g2.Pr F2 }:=Kp.trans cF.kp (Jl cF.st F2);obtain⟨g1,H1,Fs,k1,k2,k3,k4,k5,k6,k7,k8,k9,jn⟩:=B0 ks aI vs' fe _ _ (i+1) gd2 yN (r2.kp Ad) pn hb;refine⟨g1,H1,fun j=>if j=i then F1 else Fs j,k1,Ad.trans k2,cF.same.trans (aA.cR.trans ⟨rfl,rfl,rfl⟩ k3),cF.pr.trans (fun b hb=>k4 b (Or.inl hb)),?_,?_,?_,?_,?_,?_⟩
    .subst e1;refine⟨v,vs',rfl,?_,?_⟩
     .show pO h g1.Pr t m x v (if i=i then F1 else Fs i);rw[aj rfl];exact⟨c,az.mono k4 (fun _ _=>rfl) t q4 (Sub.refl _) (fun _ _=>rfl),ev⟩
     .exact n_.mono (Sub.refl _) ks (i+1) (fun j hj=>by show(if j=i then F1 else Fs j)=Fs j;rw[af (by omega)]) k5
    .intro j hj;show(if j=i then F1 else Fs j)=Nil;rw[af (by omega)];exact k6 j (by omega)
    .intro j b hb;split at hb
     .exact jn b ⟨.inr (q1 b hb),fun h2=>q3 b hb h2⟩
     .exact k7 j b hb
    .intro j k oC b h1 h2;split at h1<;>split at h2
     .omega
     .exact k9 k b h2 ⟨.inr (q1 b h1),fun h3=>q3 b h1 h3⟩
     .exact k9 j b h1 ⟨.inr (q1 b h2),fun h3=>q3 b h2 h3⟩
     .exact k8 j k oC b h1 h2
    .intro j b h1 h2;split at h1
     .exact cF.dY b (q1 b h1) h2
     .exact k9 j b h1 ⟨.inl h2,fun h3=>cF.dY b (q2 b h3) h2⟩
    .intro b hb;exact jn b ⟨.inl hb,fun h3=>cF.dY b (q2 b h3) hb⟩
   .simp at hb
 | .val t::ks,aI,vs,rt,g,H,i,gd,d5,ha,st,hb=>by
  cases aI with
  | nil=>simp[fX]at hb
  | cons a aI=>obtain⟨v,vs',rfl,r1,r2⟩:=ha;obtain⟨g1,H1,Fs,k1,k2,k3,k4,k5,k6,k⟩:=B0 ks aI vs' rt g H (i+1) gd d5 r2 st hb;exact⟨g1,H1,Fs,k1,k2,k3,k4,⟨v,vs',rfl,k5⟩,fun j hj=>k6 j (by omega),k⟩
 | .cw _ _ _::ks,aI,vs,rt,g,H,i,gd,d5,ha,st,hb=>by
  cases aI with
  | nil=>simp[fX]at hb
  | cons a aI=>obtain⟨v,vs',rfl,r1,r2⟩:=ha;obtain⟨g1,H1,Fs,k1,k2,k3,k4,k5,k6,k⟩:=B0 ks aI vs' rt g H (i+1) gd d5 r2 st hb;exact⟨g1,H1,Fs,k1,k2,k3,k4,⟨v,vs',rfl,k5⟩,fun j hj=>k6 j (by omega),k⟩
 | .cN _ _ _::ks,aI,vs,rt,g,H,i,gd,d5,ha,st,hb=>by
  cases aI with
  | nil=>simp[fX]at hb
  | cons a aI=>obtain⟨v,vs',rfl,r1,r2⟩:=ha;obtain⟨g1,H1,Fs,k1,k2,k3,k4,k5,k6,k⟩:=B0 ks aI vs' rt g H (i+1) gd d5 r2 st hb;exact⟨g1,H1,Fs,k1,k2,k3,k4,⟨v,vs',rfl,k5⟩,fun j hj=>k6 j (by omega),k⟩
 | .cj _::ks,aI,vs,rt,g,H,i,gd,d5,ha,st,hb=>by
  cases aI with
  | nil=>simp[fX]at hb
  | cons a aI=>obtain⟨v,vs',rfl,r1,r2⟩:=ha;obtain⟨g1,H1,Fs,k1,k2,k3,k4,k5,k6,k⟩:=B0 ks aI vs' rt g H (i+1) gd d5 r2 st hb;exact⟨g1,H1,Fs,k1,k2,k3,k4,⟨v,vs',rfl,k5⟩,fun j hj=>k6 j (by omega),k⟩
 | .fn::ks,aI,vs,rt,g,H,i,gd,d5,ha,st,hb=>by
  cases aI with
  | nil=>simp[fX]at hb
  | cons a aI=>obtain⟨v,vs',rfl,r1,r2⟩:=ha;obtain⟨g1,H1,Fs,k1,k2,k3,k4,k5,k6,k⟩:=B0 ks aI vs' rt g H (i+1) gd d5 r2 st hb;exact⟨g1,H1,Fs,k1,k2,k3,k4,⟨v,vs',rfl,k5⟩,fun j hj=>k6 j (by omega),k⟩
end
end Go.V
namespace Go.V
noncomputable section
open Go
def Seen(sh:Bool)(S:St)(g:aA):BS:=if sh then g.Pr else yX S g
theorem EG(sh:Bool)(S:St)(g:aA):Sub g.Pr (Seen sh S g):=by
 intro b hb;unfold Seen;split
 .exact hb
 .exact .inl hb
section
variable {h:Array Obj} {S:St} {g:aA} {tmps:Array Value} {H:BS} (st:aD h S g tmps H)
include st
theorem EP:∀(t:Ty){a:AV}{x:t.den}{c:List Value},a.shared=true->rd S.rt t a=some x->dc h S g a c->az h g.Pr t .no x c Nil
 | t,a,x,c,hs,hr,y=>by
  cases a with
  | val t' x'=>
   have hc:qbv t' t x'=some x:=by cases t<;>simpa only [rd] using hr
   simp only[dc]at y;exact(az.cast hc y).2
  | unit=>
   cases t with
   | unit=>simp only[dc]at y;simp only[az];exact y
   | _=>simp[rd]at hr
  | pair u v=>
   cases t with
   | pair a b=>simp only[AV.shared,bH]at hs;simp only[rd,cJ,aK]at hr;obtain⟨x1,h1,x2,h2,rfl⟩:=hr;simp only[dc]at y;obtain⟨ca,cb,rfl,y1,y2⟩:=y;simp only[az];exact⟨ca,cb,Nil,Nil,rfl,EP a hs.1 h1 y1,EP b hs.2 h2 y2,Sub.nil _,Sub.nil _,cv.nil _⟩
   | _=>simp[rd]at hr
  | undef=>cases t<;>simp[rd]at hr
  | b7 r p s=>simp[AV.shared]at hs
  | _=>simp only[dc]at y
theorem akX(t:Ty){a:AV}{x:t.den}{v:Value}(hs:a.shared=true)(hr:rd S.rt t a=some x)(y:qe h S g a v):pO h g.Pr t .no x v Nil:=by
 cases a with
 | val t' x'=>
  have hc:qbv t' t x'=some x:=by cases t<;>simpa only [rd] using hr
  simp only[qe]at y;obtain⟨c,r,rfl⟩:=y;obtain⟨rfl,r2⟩:=az.cast hc r;exact⟨c,r2,rfl⟩
 | cD b=>
  cases t with
  | bool=>simp only[rd,aK]at hr;simp only[qe]at y;subst hr;subst y;exact⟨[.bool b],by simp only[az],rfl⟩
  | _=>simp[rd]at hr
 | unit=>
  cases t with
  | unit=>simp only[qe]at y;exact⟨[],by simp only[az],by rw[y];rfl⟩
  | _=>simp[rd]at hr
 | fh=>
  cases t with
  | sl e=>simp only[rd,aK]at hr;simp only[qe]at y;subst hr;subst y;exact⟨[.slice none 0 0],by simp only[az];exact⟨none,0,by simp,by simp,by simp⟩,rfl⟩
  | _=>simp[rd]at hr
 | pair u w=>
  cases t with
  | pair a b=>simp only[qe]at y;obtain⟨ca,cb,rfl,y1,y2⟩:=y;exact⟨ca++cb,EP st (.pair a b) (a:=.pair u w) hs hr (by simp only[dc];exact⟨ca,cb,rfl,y1,y2⟩),rfl⟩
  | _=>simp[rd]at hr
 | b7 r p s=>simp[AV.shared]at hs
 | _=>cases t<;>simp[rd]at hr
theorem ajz{sh:Bool}(t:Ty){a:AV}{x:t.den}{v:Value}(hs:sh=true->a.shared=true)(hr:rd S.rt t a=some x)(y:qe h S g a v) :
  pO h (Seen sh S g) t .no x v Nil:=by
 cases sh with
 | true=>exact akX st t (hs rfl) hr y
 | false=>obtain⟨c,e,r⟩:=qM st t hr y;exact⟨c,r,e⟩
theorem G6{Pr:BS}(hp:Sub g.Pr Pr){t:Ty}{x:t.den}{v:Value}(y:yz h g t x v):yz h (PG Pr) t x v:=by obtain⟨b,o,cs,e,pb,hb,hs,r⟩:=y;exact⟨b,o,cs,e,hp b pb,hb,hs,az.mono hp (fun _ _=>rfl) t r (Sub.refl _) (fun _ _=>rfl)⟩
theorem QH{r:Nat}{p:Path}{d:Dy}{v:Value}(hf:S.rt.focus r p=some d)(hw:d.ms.whole=true)(x:qe h S g (.addr r p) v):yz h (PG (yX S g)) d.ty d.x v:=by
 simp only[aP.focus]at hf;split at hf
 .rename_i R hR;simp only[qe]at x;obtain⟨h1,b,off,c,h2,h3⟩:=x R hR d hf;obtain⟨base,c',F,q1,q2,q3,q4,q5,_⟩:=st.update hR hf h1;rw[h2]at q1;simp only[aK,aZ]at q1;obtain⟨rfl,rfl⟩:=q1;have bM:(S.root r).isSome:=by show(S.rt.root r).isSome=true;rw[hR];rfl
  obtain⟨_,cs,wW,hs,hsub⟩:=q4 b off rfl;have hl:=az.width _ q2;refine⟨b,off,cs,h3,.inr ⟨r,bM,q5 b off rfl⟩,wW.Cq,by omega,?_⟩;rw[<-hl,hsub];exact az.mono (fun b hb=>hb.elim .inl (fun hb=>.inr ⟨r,bM,q3 b hb⟩)) (fun _ _=>rfl) _ (az.share _ hw q2) (Sub.refl _) (fun _ _=>rfl)
 .simp at hf
theorem Ay{sh:Bool}:∀{a:AV}{l:List bD}{vs:List Value},(sh=true->a.shared=true)->lV S.rt a=some l->aO h S g a vs->nR h (PG (Seen sh S g)) l vs
 | .unit,l,vs,_,hc,y=>by
  simp only[lV,aK]at hc;subst hc;simp only[aO]at y;exact y
 | .pair u w,l,vs,hs,hc,y=>by
  simp only[aO]at y;obtain⟨v,vs',rfl,y1,y2⟩:=y;have lN:sh=true->w.shared=true:=fun h=>by have:=hs h;simp only[AV.shared,bH]at this;exact this.2
  have tr:sh=true->u.shared=true:=fun h=>by have:=hs h;simp only[AV.shared,bH]at this;exact this.1
  cases u with
  | addr r p=>
   simp only[lV]at hc;split at hc
   .rename_i d hf;split at hc
    .rename_i hw;simp only[cJ,aK]at hc;obtain⟨l',hc,rfl⟩:=hc;refine⟨v,vs',rfl,?_,Ay lN hc y2⟩;cases sh with
     | true=>have:=tr rfl;simp[AV.shared]at this
     | false=>exact QH st hf hw y1
    .simp at hc
   .simp at hc
  | b_ t x=>simp only[lV,cJ,aK]at hc;obtain⟨l',hc,rfl⟩:=hc;simp only[qe]at y1;exact⟨v,vs',rfl,G6 st (EG sh S g) y1,Ay lN hc y2⟩
  | val t x=>simp only[lV,cJ,aK]at hc;obtain⟨l',hc,rfl⟩:=hc;simp only[qe]at y1;obtain⟨c,r,e⟩:=y1;exact⟨v,vs',rfl,⟨c,az.mono (EG sh S g) (fun _ _=>rfl) t r (Sub.refl _) (fun _ _=>rfl),e⟩,Ay lN hc y2⟩
  | _=>simp[lV]at hc
 | .undef,_,_,_,hc,_=>by simp[lV]at hc
 | .skip,_,_,_,hc,_=>by simp[lV]at hc
 | .cD _,_,_,_,hc,_=>by simp[lV]at hc
 | .fh,_,_,_,hc,_=>by simp[lV]at hc
 | .val _ _,_,_,_,hc,_=>by simp[lV]at hc
 | .b7 _ _ _,_,_,_,hc,_=>by simp[lV]at hc
 | .view _ _ _ _ _,_,_,_,hc,_=>by simp[lV]at hc
 | .addr _ _,_,_,_,hc,_=>by simp[lV]at hc
 | .b_ _ _,_,_,_,hc,_=>by simp[lV]at hc
 | .jF _,_,_,_,hc,_=>by simp[lV]at hc
 | .gE _ _,_,_,_,hc,_=>by simp[lV]at hc
 | .d9 _,_,_,_,hc,_=>by simp[lV]at hc
theorem HH{Pr:BS}(hp:Sub g.Pr Pr):∀{l:List bD}{vs:List Value},nR h g l vs->nR h (PG Pr) l vs
 | [],_,y=>y
 | c::l,_,y=>by
  obtain⟨v,vs',e,h1,h2⟩:=y;refine⟨v,vs',e,?_,HH hp h2⟩;cases c with
  | val t x=>obtain⟨c,r,e⟩:=h1;exact⟨c,az.mono hp (fun _ _=>rfl) t r (Sub.refl _) (fun _ _=>rfl),e⟩
  | cj t x=>exact G6 st hp h1
def vj(h:Array Obj)(Pr:BS)(Fs:Nat->BS):Nat->(ks:List PK)->dy ks->List Value->Prop
 | _,[],_,vs=>vs=[]
 | i,.cw t m _::ks,o,vs=>∃v vs',vs=v::vs'/\vY h Pr t m o.1 v (Fs i)/\vj h Pr Fs (i+1) ks o.2 vs'
 | i,.cN t m _::ks,o,vs=>∃v vs',vs=v::vs'/\pO h Pr t m o.1 v (Fs i)/\vj h Pr Fs (i+1) ks o.2 vs'
 | i,.val _::ks,o,vs=>∃v vs',vs=v::vs'/\vj h Pr Fs (i+1) ks o vs'
 | i,.own _ _::ks,o,vs=>∃v vs',vs=v::vs'/\vj h Pr Fs (i+1) ks o vs'
 | i,.cj _::ks,o,vs=>∃v vs',vs=v::vs'/\vj h Pr Fs (i+1) ks o vs'
 | i,.fn::ks,o,vs=>∃v vs',vs=v::vs'/\vj h Pr Fs (i+1) ks o vs'
theorem yq{sh:Bool}{Fs:Nat->BS}:∀(ks:List PK)(aI:List AV)(vs:List Value)(i:Nat)(gd:jq ks)(od:dy ks)(a:gb ks),(sh=true->mJ ks aI=true)->
  lW h S g aI vs->n_ h g.Pr Fs i ks gd vs->vj h g.Pr Fs i ks od vs->jh S.rt ks aI gd od=some a->yI h (Seen sh S g) Fs i ks a vs
 | [],aI,vs,i,gd,od,a,_,ha,hg,_,hd=>by
  simp only[n_]at hg;exact hg
 | k::ks,[],vs,i,gd,od,a,_,ha,hg,_,hd=>by cases k<;>simp[jh]at hd
 | k::ks,u::aI,vs,i,gd,od,a,hs,ha,hg,hl,hd=>by
  obtain⟨v,vs',rfl,r1,r2⟩:=ha;have lN:sh=true->mJ ks aI=true:=fun e=>by have:=hs e;simp only[mJ,bH]at this;exact this.2
  have tr:sh=true->k.plain=true->u.shared=true:=fun e e2=>by
   have:=hs e;simp only[mJ,bH,jy,kr]at this;rcases this.1 with h3 | h3
   .rw[e2]at h3;simp at h3
   .exact h3
  cases k with
  | val t=>simp only[jh,cJ,aK]at hd;obtain⟨x,hx,r,hr,rfl⟩:=hd;obtain⟨_,_,e,hg⟩:=hg;obtain⟨_,_,e2,hl⟩:=hl;simp only[eS]at e e2;obtain⟨rfl,rfl⟩:=e;obtain⟨-,rfl⟩:=e2;exact⟨v,vs',rfl,ajz st t (fun e=>tr e rfl) hx r1,yq ks aI vs' (i+1) gd od r lN r2 hg hl hr⟩
  | own t m=>simp only[jh,cJ,aK]at hd;obtain⟨r,hr,rfl⟩:=hd;obtain⟨_,_,e,hv,hg⟩:=hg;obtain⟨_,_,e2,hl⟩:=hl;simp only[eS]at e e2;obtain⟨rfl,rfl⟩:=e;obtain⟨-,rfl⟩:=e2;exact⟨v,vs',rfl,hv.mono (EG sh S g),yq ks aI vs' (i+1) gd.2 od r lN r2 hg hl hr⟩
  | cw t m m'=>simp only[jh,cJ,aK]at hd;obtain⟨r,hr,rfl⟩:=hd;obtain⟨_,_,e,hg⟩:=hg;obtain⟨_,_,e2,hv,hl⟩:=hl;simp only[eS]at e e2;obtain⟨rfl,rfl⟩:=e;obtain⟨rfl,rfl⟩:=e2;refine⟨v,vs',rfl,?_,yq ks aI vs' (i+1) gd od.2 r lN r2 hg hl hr⟩;obtain⟨b,c,F0,e,r,k⟩:=hv;exact⟨b,c,F0,e,az.mono (EG sh S g) (fun _ _=>rfl) t r (Sub.refl _) (fun _ _=>rfl),k⟩
  | cN t m m'=>simp only[jh,cJ,aK]at hd;obtain⟨r,hr,rfl⟩:=hd;obtain⟨_,_,e,hg⟩:=hg;obtain⟨_,_,e2,hv,hl⟩:=hl;simp only[eS]at e e2;obtain⟨rfl,rfl⟩:=e;obtain⟨rfl,rfl⟩:=e2;exact⟨v,vs',rfl,hv.mono (EG sh S g),yq ks aI vs' (i+1) gd od.2 r lN r2 hg hl hr⟩
  | cj t=>
   obtain⟨_,_,e,hg⟩:=hg;obtain⟨_,_,e2,hl⟩:=hl;simp only[eS]at e e2;obtain⟨rfl,rfl⟩:=e;obtain⟨-,rfl⟩:=e2;cases u with
   | b_ t' x=>simp only[jh,cJ,aK]at hd;obtain⟨y,hc,r,hr,rfl⟩:=hd;simp only[qe]at r1;obtain⟨e1,e2⟩:=C8 hc;subst e1;simp only at e2;subst e2;exact⟨v,vs',rfl,G6 st (EG sh S g) r1,yq ks aI vs' (i+1) gd od r lN r2 hg hl hr⟩
   | addr q p=>
    simp only[jh]at hd;split at hd
    .rename_i d hf;split at hd
     .rename_i hw;simp only[cJ,aK]at hd;obtain⟨y,hc,r,hr,rfl⟩:=hd;refine⟨v,vs',rfl,?_,yq ks aI vs' (i+1) gd od r lN r2 hg hl hr⟩;obtain⟨dt,dm,dx⟩:=d;simp only at hc hw;obtain⟨e1,e2⟩:=C8 hc;subst e1;simp only at e2;subst e2;cases sh with
      | true=>have:=tr rfl rfl;simp[AV.shared]at this
      | false=>exact QH st hf hw r1
     .simp at hd
    .simp at hd
   | _=>simp[jh]at hd
  | fn=>
   obtain⟨_,_,e,hg⟩:=hg;obtain⟨_,_,e2,hl⟩:=hl;simp only[eS]at e e2;obtain⟨rfl,rfl⟩:=e;obtain⟨-,rfl⟩:=e2;cases u with
   | gE f caps=>simp only[jh,cJ,aK]at hd;obtain⟨l,hc,r,hr,rfl⟩:=hd;simp only[qe]at r1;obtain⟨ws,e,ht⟩:=r1;exact⟨v,vs',rfl,⟨ws,e,Ay st (fun e=>by have:=tr e rfl;simpa [AV.shared] using this) hc ht⟩,yq ks aI vs' (i+1) gd od r lN r2 hg hl hr⟩
   | d9 c=>simp only[jh,cJ,aK]at hd;obtain⟨r,hr,rfl⟩:=hd;simp only[qe]at r1;obtain⟨ws,e,ht⟩:=r1;exact⟨v,vs',rfl,⟨ws,e,HH st (EG sh S g) ht⟩,yq ks aI vs' (i+1) gd od r lN r2 hg hl hr⟩
   | _=>simp[jh]at hd
end
end
end Go.V
namespace Go.V
noncomputable section
open Go
theorem lu.conv{h:Array Obj}{Pr gf:BS}{Gs:Nat->BS}:∀(rs:List RK)(i:Nat){r:f5 rs}{us:List Value},(Sub Pr gf\/rs.all RK.full=true)->lu h Pr Gs i rs r us->lu h gf Gs i rs r us
 | [],_,_,_,_,k=>k
 | q::rs,i,r,us,hc,k=>by
  obtain⟨v,vs',e,k1,k2⟩:=k;have g8:Sub Pr gf\/rs.all RK.full=true:=hc.imp id fun h=>by simp only[gT,bH]at h;exact h.2
  refine⟨v,vs',e,?_,lu.conv rs (i+1) g8 k2⟩;have conv:∀(t:Ty)(m:Mk)(x:t.den)(c:List Value)(F:BS),(m.full t=true\/Sub Pr gf)->az h Pr t m x c F->az h gf t m x c F:=fun t m x c F hh rr=>
   hh.elim (fun h=>az.lM t h rr) (fun h=>az.mono h (fun _ _=>rfl) t rr (Sub.refl _) (fun _ _=>rfl))
  have hf:q.ms.full q.ty=true\/Sub Pr gf:=hc.symm.imp (fun h=>by simp only[gT,bH]at h;cases q<;>exact h.1) id;cases q with
  | val t m=>obtain⟨c,rr,e⟩:=k1;exact⟨c,conv t m _ c _ hf rr,e⟩
  | ptr t m=>obtain⟨b,c,F0,e,rr,k⟩:=k1;exact⟨b,c,F0,e,conv t m _ c _ hf rr,k⟩
theorem ajo{w w':World}{sl:List AV}{rt:aP}{g:aA}{tmps:Array Value}{H:BS}(st:aD w.heap ⟨sl,rt⟩ g tmps H){Fs:Nat->BS}(hF:∀i,Sub (Fs i) H)
  {sh:Bool} {ks:List PK} {rs:List RK} {r:f5 rs} {o:dy ks} {vs:List Value} {val:Value} {fN:BS} {Gs Os:Nat->BS} {us:List Value}
  (p:T6 w w' (Seen sh ⟨sl,rt⟩ g) Fs ks rs r o vs val fN Gs Os us) (hfull:sh=false->rs.all RK.full=true) :
  ∃g3 H3,aD w'.heap ⟨sl,rt⟩ g3 tmps H3/\lu w'.heap g3.Pr Gs 0 rs r us/\(∀i,Sub (Gs i) H3)/\g3.cR g:=by
 have hk:∀b,b<w.heap.size->¬ H b->w'.heap[b]? = w.heap[b]?:=fun b hb hn=>p.fr.block b hb (by
  rintro(h1 | ⟨i,h1⟩)
  .omega
  .exact hn (hF i b h1))
 have Dq:=st.oz hk p.fr.size (fun b=>H b\/(w.heap.size<=b/\b<w'.heap.size)) (fun b hb=>hb);have ja:∀b,tT w.heap.size Fs b->b<w'.heap.size->H b\/(w.heap.size<=b/\b<w'.heap.size):=by
  rintro b (h1 | ⟨i,h1⟩) h2
  .exact .inr ⟨h1,h2⟩
  .exact .inl (hF i b h1)
 cases sh with
 | false=>exact⟨g,_,Dq,lu.conv rs 0 (.inr (hfull rfl)) p.res,fun i b hb=>ja b (p.gL i b hb) (p.wD i b hb),.refl _⟩
 | true=>
  have hD:Sub (fun b=>fN b/\¬ g.Pr b) (fun b=>H b\/(w.heap.size<=b/\b<w'.heap.size)):=by
   rintro b ⟨h1,h2⟩;rcases p.kY b h1 with h3 | h3
   .exact absurd h3 h2
   .exact ja b h3 (p.Aj b h1)
  refine⟨_,_,Dq.cO _ hD,lu.conv rs 0 (.inl ?_) p.res,fun i b hb=>⟨ja b (p.gL i b hb) (p.wD i b hb),fun h=>p.gp i b hb h.1⟩,⟨rfl,rfl,rfl⟩⟩;intro b hb;by_cases h1:g.Pr b
  .exact .inl h1
  .exact .inr ⟨hb,h1⟩
def mO:List RK->List Value->List Value
 | [],_=>[]
 | k::ks,c=>dJ k.ty (c.take k.ty.width)::mO ks (c.drop k.ty.width)
theorem ML{h:Array Obj}{Pr:BS}{Gs:Nat->BS}(hd:∀i j,i≠j->cv (Gs i) (Gs j)):∀(rs:List RK)(i:Nat){r:f5 rs}{us:List Value},rs.all (fun k=>!k.kS&&k.ty.nz)=true->lu h Pr Gs i rs r us->
  ∃c F,az h Pr (jo rs) (pQ rs) (kg rs r) c F/\(∀b,F b->∃j,i<=j/\Gs j b)/\us=mO rs c
 | [],i,r,us,_,k=>⟨[],Nil,by simp only[jo,az],fun b h=>h.elim,k⟩
 | .ptr t m::rs,i,r,us,hp,k=>by simp[RK.kS]at hp
 | .val t m::rs,i,r,us,hp,k=>by
  simp only[gT,bH]at hp;obtain⟨v,vs',rfl,⟨c1,r1,rfl⟩,k2⟩:=k;obtain⟨c2,F2,r2,tX,rfl⟩:=ML hd rs (i+1) hp.2 k2;refine⟨c1++c2,Un (Gs i) F2,?_,?_,?_⟩
  .simp only[jo,pQ,kg,az,Mk.fst,Mk.snd];refine⟨c1,c2,Gs i,F2,rfl,r1,r2,fun b hb=>.inl hb,fun b hb=>.inr hb,?_⟩;intro b h1 h2;obtain⟨j,hj,h3⟩:=tX b h2;exact hd i j (by omega) b h1 h3
  .rintro b (hb | hb)
   .exact⟨i,ck _,hb⟩
   .obtain⟨j,hj,h3⟩:=tX b hb;exact⟨j,by omega,h3⟩
  .have hl:=az.width t r1;simp only[mO,RK.ty];rw[jm hl,iZ hl]
theorem HU{h:Array Obj}{S:St}{g:aA}:∀(rs:List RK){x:(jo rs).den}{c:List Value}{F:BS},az h g.Pr (jo rs) .no x c F->aO h S g (yR (jo rs) x) (mO rs c)
 | [],x,c,F,r=>by simp only[jo,yR,aO,mO]
 | k::rs,x,c,F,r=>by
  simp only[jo,az]at r;obtain⟨ca,cb,Fa,Fb,rfl,ra,rb,_⟩:=r;have hl:=az.width _ ra;simp only[jo,yR,aO,mO];rw[jm hl,iZ hl];refine⟨_,_,rfl,?_,HU rs rb⟩;simp only[qe];exact⟨ca,az.eK (m:=.no) _ rfl ra,rfl⟩
theorem NN{h:Array Obj}{S:St}{g:aA}{r:Nat}{R:aB}(hR:S.root r=some R):∀(rs:List RK)(p:Path)(m:Mk)(x:(jo rs).den)(base:fH)(c:List Value)(F:BS),
  focus R.ty R.ms R.x p=some ⟨jo rs,m,x⟩->bt R.ty R.x p->cm h R.ty (g.C r) (g.base r) p=some (base,c)->az h g.Pr (jo rs) m x c F->rs.all (fun k=>!k.kS&&k.ty.nz)=true->
  aO h S g (xZ (cV r (jo rs) m x p)) (mO rs c)
 | [],p,m,x,base,c,F,_,_,_,_,_=>by simp only[jo,cV,xZ,aO,mO]
 | k::rs,p,m,x,base,c,F,hf,hin,ef,rep,hall=>by
  simp only[gT,bH]at hall;simp only[jo,cV];by_cases hs:m.still=true
  .rw[aj hs];have:=HU (S:=S) (k::rs) (az.eK (F':=Nil) _ hs rep);exact this
  .rw[af hs];have oc:=rep;simp only[jo,az]at oc;obtain⟨ca,cb,Fa,Fb,rfl,ra,rb,_⟩:=oc;have hl:=az.width _ ra;have WE:focus R.ty R.ms R.x (p++[.fst])=some ⟨k.ty,m.fst,x.1⟩:=by rw[uT p _ hf];simp only[jo,focus]
   have WG:focus R.ty R.ms R.x (p++[.snd])=some ⟨jo rs,m.snd,x.2⟩:=by rw[uT p _ hf];simp only[jo,focus]
   have hia:bt R.ty R.x (p++[.fst]):=(yC p _ hf).2 ⟨hin,by simp only[jo,bt]⟩;have hib:bt R.ty R.x (p++[.snd]):=(yC p _ hf).2 ⟨hin,by simp only[jo,bt]⟩;have haa:cm h R.ty (g.C r) (g.base r) (p++[.fst])=some (base,ca):=by rw[u7 p _ hf ef];simp only[jo,cm];rw[jm hl]
   have hab:cm h R.ty (g.C r) (g.base r) (p++[.snd])=some (base.map fun x=>(x.1,x.2+k.ty.width),cb):=by rw[u7 p _ hf ef];simp only[jo,cm];rw[iZ hl]
   simp only[xZ,aO,mO];rw[jm hl,iZ hl];refine⟨_,_,rfl,dc.rel ra (Es hR _ _ _ _ _ _ _ WE hia haa ra) (Ty.kU hall.1.2),?_⟩;exact NN hR rs (p++[.snd]) m.snd x.2 _ cb Fb WG hib hab rb hall.2
theorem aaO{a b:RK}{rs:List RK}{c:List Value}:tK (mO (a::b::rs) c)=.tuple (mO (a::b::rs) c).toArray:=by simp only[mO,tK]
theorem GD{h:Array Obj}{S:St}{d5:aP}{g:aA}{tmps:Array Value}{H:BS}(st:aD h ⟨S.sl,d5⟩ g tmps H){Gs:Nat->BS}(hG:∀i,Sub (Gs i) H)(hd:∀i j,i≠j->cv (Gs i) (Gs j))
  {A:bU} {d:Option Nat} {site:Nat} (ok:nL A S d site):∀(rs:List RK){r:f5 rs}{us:List Value}{β:Bool}{v:AV}{rt':aP},lu h g.Pr Gs 0 rs r us->
  (mu A d5 d site rs r).dec β=some (v,rt')->∃g',aD h ⟨S.sl,rt'⟩ g' tmps Nil/\qe h ⟨S.sl,rt'⟩ g' v (tK us)/\g'.cR g
 | [],r,us,β,v,rt',k,e=>by
  simp only[lu]at k;subst k;simp only[mu,Tr.dec,aK,aZ]at e;obtain⟨rfl,rfl⟩:=e;refine⟨g,st.bx (Sub.nil _),?_,.refl _⟩;simp only[qe,tK];exact⟨[],rfl,by simp only[aO]⟩
 | [.val t m],r,us,β,v,rt',k,e=>by
  obtain⟨u,vs',rfl,⟨c,rr,rfl⟩,k2⟩:=k;simp only[lu]at k2;subst k2;simp only[mu]at e;by_cases hsh:A.sh=true
  .rw[aj hsh]at e;by_cases hw:m.whole=true
   .rw[aj hw]at e;simp only[Tr.dec,aK,aZ]at e;obtain⟨rfl,rfl⟩:=e;obtain⟨g',s1,s2,s3,_⟩:=UO st rr (hG 0) hw;exact⟨g',s1.bx (Sub.nil _),by simp only[qe,tK];exact⟨c,s2,rfl⟩,s3⟩
   .rw[af hw]at e;simp[Tr.dec]at e
  rw[af hsh]at e;by_cases hm:m.ax=true
  .rw[aj hm]at e;obtain⟨g',s1,s2,s3⟩:=Cb st rr (aL.ax _ hm) (hG 0) ok e;exact⟨g',s1,s2,s3⟩
  .rw[af hm]at e;simp[Tr.dec]at e
 | [.ptr t m],r,us,β,v,rt',k,e=>by
  obtain⟨u,vs',rfl,⟨b,c,F0,rfl,rr,ho,hb,hF0,hn⟩,k2⟩:=k;simp only[lu]at k2;subst k2;simp only[mu]at e;by_cases hm:m.ax=true
  .rw[aj hm]at e;obtain⟨g',s1,s2,s3⟩:=EB st rr (aL.ax _ hm) (fun x hx=>hG 0 x (hF0 x hx)) (hG 0 b hb) hn ho ok e;exact⟨g',s1,s2,s3⟩
  .rw[af hm]at e;simp[Tr.dec]at e
 | q1::q2::rs,r,us,β,v,rt',k,e=>by
  have e':(Ca A d5 d site (q1::q2::rs) r).dec β=some (v,rt'):=by cases q1<;>simpa only [mu] using e
  unfold Ca at e';by_cases hc:((pQ (q1::q2::rs)).ax&&(q1::q2::rs).all (fun k=>!k.kS&&k.ty.nz))=true
  .rw[aj hc]at e';simp only[bH]at hc;obtain⟨c,F,rep,hF,rfl⟩:=ML hd _ 0 hc.2 k;have hFH:Sub F H:=fun b hb=>by obtain⟨j,_,h3⟩:=hF b hb;exact hG j b h3
   rw[aaO];cases d with
   | none=>simp only[Tr.dec,aK,aZ]at e';obtain⟨rfl,rfl⟩:=e';exact⟨g,st.bx (Sub.nil _),by simp only[qe],.refl _⟩
   | some d=>
    simp only at e';cases hl:dQ A d5 (some d) site (jo (q1::q2::rs)) (pQ (q1::q2::rs)) (kg (q1::q2::rs) r) false with
    | ret z=>
     obtain⟨v1,fe⟩:=z;rw[hl]at e';simp only[Tr.dec,aK,aZ]at e';obtain⟨rfl,rfl⟩:=e';simp only[dQ,e8,dV]at hl;split at hl
     .simp at hl
     .rename_i hn;simp only[jy,kr,n6,Ff,n8]at hn;split at hl
      .rename_i hs;simp only[Tr.ret.injEq,aZ]at hl;obtain⟨rfl,rfl⟩:=hl;refine⟨g,st.bx (Sub.nil _),?_,.refl _⟩;simp only[qe];exact⟨_,rfl,HU _ (az.eK (F':=Nil) _ hs rep)⟩
      .split at hl
       .rename_i me;simp only[Tr.ret.injEq,aZ]at hl;obtain⟨rfl,rfl⟩:=hl;have oc:=(az.stamp (h:=h) (Pr:=g.Pr) site _).1 rep;have key:∀u,((⟨S.sl,d5⟩:St).get u).roots.contains d=false\/(∃lo hi,((⟨S.sl,d5⟩:St).get u).aR lo hi=true/\((⟨S.sl,d5⟩:St).get u).gG d=true/\((pQ (q1::q2::rs)).stamp site).fresh lo hi/\(none:Option Nat)=none):=by
         intro u;simp only[jy,bH]at me;rcases me with me | ⟨⟨jJ,g8⟩,rO⟩
         .exact .inl (ok.xo me d rfl u)
         .exact .inr ⟨site,site+1,(ok.fr jJ).2 u,ok.pl rO d rfl u,Mk.dP site g8,rfl⟩
        obtain⟨g',s1,s2,s3,s4,s5,s6⟩:=st.kT hn.1 oc (aL.stamp hn.2 _ (aL.ax _ hc.1)) hFH none (fun b hb=>by simp at hb) key;refine⟨g',s1.bx (Sub.nil _),?_,s3⟩;have hR:(⟨S.sl,d5.aG d (some ⟨jo (q1::q2::rs),(pQ (q1::q2::rs)).stamp site,kg (q1::q2::rs) r,false⟩)⟩:St).root d=some ⟨jo (q1::q2::rs),(pQ (q1::q2::rs)).stamp site,kg (q1::q2::rs) r,false⟩:=by have:=St.bY (⟨S.sl,d5⟩:St) d (some ⟨jo (q1::q2::rs),(pQ (q1::q2::rs)).stamp site,kg (q1::q2::rs) r,false⟩) d;rw[aj ⟨rfl,hn.1⟩]at this;exact this
        simp only[qe];refine⟨_,rfl,?_⟩;refine NN hR (q1::q2::rs) [] _ _ (g'.base d) c F (L4 _ _ _) (xI _ _) ?_ (by rw[s2];exact oc) hc.2;rw[s4];exact Er _ _ _ _
       .simp at hl
    | _=>rw[hl]at e';simp[Tr.dec]at e'
  .rw[af hc]at e';simp[Tr.dec]at e'
end
theorem JW{h:Array Obj}{Pr:BS}{Fs:Nat->BS}:∀(ks:List PK)(aI:List AV)(vs:List Value)(i:Nat)(rt fe:aP)(od:dy ks){S:St}{g:aA},ks.all (fun k=>!k.eD)=true->
  lW h S g aI vs->gB rt ks aI=some (od,fe)->fe=rt/\vj h Pr Fs i ks od vs
 | [],aI,vs,i,rt,fe,od,S,g,_,ha,hb=>by
  cases aI with
  | nil=>simp only[gB,aK,aZ]at hb;exact⟨hb.2.symm,ha⟩
  | cons a aI=>simp[gB]at hb
 | k::ks,[],vs,i,rt,fe,od,S,g,_,ha,hb=>by cases k<;>simp[gB]at hb
 | k::ks,a::aI,vs,i,rt,fe,od,S,g,hn,ha,hb=>by
  simp only[gT,bH]at hn;obtain⟨v,vs',rfl,r1,r2⟩:=ha;cases k with
  | cw t m m'=>simp[PK.eD]at hn
  | cN t m m'=>simp[PK.eD]at hn
  | val t=>obtain⟨e,k⟩:=JW (Fs:=Fs) ks aI vs' (i+1) rt fe od hn.2 r2 (by simpa only [gB] using hb);exact⟨e,v,vs',rfl,k⟩
  | own t m=>obtain⟨e,k⟩:=JW (Fs:=Fs) ks aI vs' (i+1) rt fe od hn.2 r2 (by simpa only [gB] using hb);exact⟨e,v,vs',rfl,k⟩
  | cj t=>obtain⟨e,k⟩:=JW (Fs:=Fs) ks aI vs' (i+1) rt fe od hn.2 r2 (by simpa only [gB] using hb);exact⟨e,v,vs',rfl,k⟩
  | fn=>obtain⟨e,k⟩:=JW (Fs:=Fs) ks aI vs' (i+1) rt fe od hn.2 r2 (by simpa only [gB] using hb);exact⟨e,v,vs',rfl,k⟩
theorem AX{h:Array Obj}{S:St}{g:aA}{tmps:Array Value}{H:BS}(st:aD h S g tmps H)(sh:Bool):∀b,Seen sh S g b->b<h.size:=by
 intro b hb;unfold Seen at hb;split at hb
 .exact st.bO b hb
 .rcases hb with hb | ⟨r,h1,h2⟩
  .exact st.bO b hb
  .exact st.b9 r b h1 h2
theorem AW{h:Array Obj}{S:St}{g:aA}{tmps:Array Value}{H:BS}(st:aD h S g tmps H)(sh:Bool):cv H (Seen sh S g):=by
 intro b hH hb;unfold Seen at hb;split at hb
 .exact st.bK b hH hb
 .rcases hb with hb | ⟨r,h1,h2⟩
  .exact st.bK b hH hb
  .exact st.hand r h1 b h2 hH
section
variable {P:Program} {C:Ctx} {D:Den C} {S:St} {g:aA} {w:World} {tmps:Array Value}
variable {A:bU} {site:Nat} (dj:ot P C D) (st:aD w.heap S g tmps Nil)
include dj st
theorem ai6{f:FuncId}{aI:List AV}{vs:List Value}{d:Option Nat}(ok:nL A S d site)(ha:lW w.heap S g aI vs){gd:jq (C.sig f).params}{d5:aP}
  (h1:fX S.rt (C.sig f).params aI=some (gd,d5)) (hn:(C.sig f).params.all (fun k=>!k.eD)=true) {od:dy (C.sig f).params} {fe:aP}
  (h2:gB d5 (C.sig f).params aI=some (od,fe)) {a:gb (C.sig f).params} (h3:jh fe (C.sig f).params aI gd od=some a)
  (hs:mJ (C.sig f).params aI=true\/(C.sig f).full=true) {r:f5 (C.sig f).res×dy (C.sig f).params} (hD:D f a=some r) {β:Bool} {v:AV} {rt':aP}
  (he:(mu A d5 d site (C.sig f).res r.1).dec β=some (v,rt')) :
  Calls P f vs.toArray w fun e w'=>∃val,e=.returned val/\Post S g w tmps v rt' val w':=by
 obtain⟨g1,H1,Fs,k1,k2,k3,k4,k5,k6,k7,k8,k9,jn⟩:=B0 (sl:=S.sl) (C.sig f).params aI vs S.rt g Nil 0 gd d5 ha st h1;obtain⟨e2,hL⟩:=JW (h:=w.heap) (Pr:=g1.Pr) (Fs:=Fs) (C.sig f).params aI vs 0 d5 fe od hn ha h2;subst e2;have hps:=yq (S:=⟨S.sl,fe⟩) k1 (sh:=mJ (C.sig f).params aI) (Fs:=Fs) (C.sig f).params aI vs 0 gd od a (fun h=>h) (ha.kp k2) k5 hL h3;have pre:Pre w.heap (Seen (mJ (C.sig f).params aI) ⟨S.sl,fe⟩ g1) Fs (C.sig f).params a vs:=
  ⟨hps,k8,fun i b hb=>AW k1 _ b (k7 i b hb),fun i b hb=>k1.eg b (k7 i b hb),AX k1 _⟩
 refine(dj.ok f a r hD w _ Fs vs pre).mono ?_;rintro e w' ⟨val,fN,Gs,Os,us,rfl,p⟩;obtain⟨g3,H3,q1,q2,q3,q4⟩:=ajo k1 k7 p (fun h=>by
  rcases hs with h5 | h5
  .rw[h]at h5;simp at h5
  .simp only[wA.full,bH]at h5;exact h5.2)
 obtain⟨g4,s1,s2,s3⟩:=GD q1 q3 p.zO ok (C.sig f).res q2 he;refine⟨val,rfl,g4,s1,by rw[p.val];exact s2,(k3.trans q4).trans s3,p.fr.mono ?_⟩;rintro b hb (h | ⟨i,h⟩)
 .omega
 .have:=k1.e7 b (k7 i b h);rw[k3.2.1]at this;exact this
end
theorem JZ:∀(ks:List PK)(aI:List AV)(rt d5:aP)(gd:jq ks),ks.all (fun k=>!k.mc)=true->fX rt ks aI=some (gd,d5)->d5=rt
 | [],aI,rt,d5,gd,_,hb=>by
  cases aI with
  | nil=>simp only[fX,aK,aZ]at hb;exact hb.2.symm
  | cons a aI=>simp[fX]at hb
 | k::ks,[],rt,d5,gd,_,hb=>by cases k<;>simp[fX]at hb
 | k::ks,a::aI,rt,d5,gd,hn,hb=>by
  simp only[gT,bH]at hn;cases k with
  | own t m=>simp[PK.mc]at hn
  | val t=>exact JZ ks aI rt d5 gd hn.2 (by simpa only [fX] using hb)
  | cw t m m'=>exact JZ ks aI rt d5 gd hn.2 (by simpa only [fX] using hb)
  | cN t m m'=>exact JZ ks aI rt d5 gd hn.2 (by simpa only [fX] using hb)
  | cj t=>exact JZ ks aI rt d5 gd hn.2 (by simpa only [fX] using hb)
  | fn=>exact JZ ks aI rt d5 gd hn.2 (by simpa only [fX] using hb)
theorem Ez{h h2:Array Obj}{Pr gf:BS}{Fs pR:Nat->BS}:∀(ks:List PK)(i:Nat){gd:jq ks}{vs:List Value},ks.all (fun k=>!k.mc)=true->n_ h Pr Fs i ks gd vs->n_ h2 gf pR i ks gd vs
 | [],_,_,_,_,k=>k
 | q::ks,i,gd,vs,hn,k=>by
  simp only[gT,bH]at hn;cases q with
  | own t m=>simp[PK.mc]at hn
  | val t=>obtain⟨v,vs',e,k⟩:=k;exact⟨v,vs',e,Ez ks (i+1) hn.2 k⟩
  | cw t m m'=>obtain⟨v,vs',e,k⟩:=k;exact⟨v,vs',e,Ez ks (i+1) hn.2 k⟩
  | cN t m m'=>obtain⟨v,vs',e,k⟩:=k;exact⟨v,vs',e,Ez ks (i+1) hn.2 k⟩
  | cj t=>obtain⟨v,vs',e,k⟩:=k;exact⟨v,vs',e,Ez ks (i+1) hn.2 k⟩
  | fn=>obtain⟨v,vs',e,k⟩:=k;exact⟨v,vs',e,Ez ks (i+1) hn.2 k⟩
structure wq (h:Array Obj) (ks:List PK) (aI:List AV) (vs:List Value) (rt fe:aP) (od:dy ks) (n:Nat) (v:Value) (q:Nat) (t:Ty) (m m':Mk) (R:aB) (x:t.den):Prop where
 root:rt.root q=some R
 TS:m.aQ R.ms=true
 mem:R.mem=true
 cast:qbv R.ty t R.x=some x
 fe:fe=rt.aG q none
 ls:∀Pr Fs i,vY h Pr t m x v (Fs (i+n))->vj h Pr Fs i ks od vs
 out:∀o:dy ks,∃y:t.den,(∀tP site nU,ga tP site ks aI o=some nU->m'.ax=true/\nU=tP.aG q (some ⟨t,m'.stamp site,y,true⟩))/\
  ∀h' fN Os i,nx h' fN Os i ks o vs->vY h' fN t m' y v (Os (i+n))
 full:ks.all PK.full=true->m'.full t=true
structure wv (h:Array Obj) (ks:List PK) (aI:List AV) (vs:List Value) (rt fe:aP) (od:dy ks) (n:Nat) (a:AV) (v:Value) (q:Nat) (p:Path) (R:aB) (md:Mk) (t:Ty) (xd:t.den) (m m' mx:Mk) (x:t.den):Prop where
 place:kC a=some (q,p)
 root:rt.root q=some R
 DB:focus R.ty R.ms R.x p=some ⟨t,md,xd⟩
 xm:j9 q t a p md xd=some (mx,x)
 paths:uZ a p=true
 TS:m.aQ mx=true
 fe:fe=rt.aG q none
 ls:∀Pr Fs i,pO h Pr t m x v (Fs (i+n))->vj h Pr Fs i ks od vs
 out:∀o:dy ks,∃y:t.den,(∀tP site nU,ga tP site ks aI o=some nU->xP tP site t a m' y=some nU)/\
  ∀h' fN Os i,nx h' fN Os i ks o vs->pO h' fN t m' y v (Os (i+n))
 full:ks.all PK.full=true->m'.full t=true
theorem VT{h:Array Obj}{Pr:BS}{Fs:Nat->BS}{S:St}{g:aA}{ks:List PK}{aI:List AV}{vs:List Value}{i:Nat}{rt fe:aP}{od:dy ks}(hn:(ks.filter PK.eD).length=0)
  (ha:lW h S g aI vs) (hb:gB rt ks aI=some (od,fe)):fe=rt/\vj h Pr Fs i ks od vs:=by
 refine JW ks aI vs i rt fe od ?_ ha hb;rw[lB,Sr]at hn;simpa using hn
theorem Jn{site:Nat}:∀(ks:List PK)(aI:List AV)(o:dy ks)(rt nU:aP),(ks.filter PK.eD).length=0->ga rt site ks aI o=some nU->nU=rt
 | [],aI,o,rt,nU,_,hb=>by
  cases aI with
  | nil=>simp only[ga,aK]at hb;exact hb.symm
  | cons a aI=>simp[ga]at hb
 | k::ks,[],o,rt,nU,_,hb=>by cases k<;>simp[ga]at hb
 | k::ks,a::aI,o,rt,nU,hn,hb=>by
  cases k with
  | cw t m m'=>simp[PK.eD]at hn
  | cN t m m'=>simp[PK.eD]at hn
  | val t=>exact Jn ks aI o rt nU (by simpa [PK.eD] using hn) (by simpa only [ga] using hb)
  | own t m=>exact Jn ks aI o rt nU (by simpa [PK.eD] using hn) (by simpa only [ga] using hb)
  | cj t=>exact Jn ks aI o rt nU (by simpa [PK.eD] using hn) (by simpa only [ga] using hb)
  | fn=>exact Jn ks aI o rt nU (by simpa [PK.eD] using hn) (by simpa only [ga] using hb)
theorem Sd{h:Array Obj}{S:St}{g:aA}:∀(ks:List PK)(aI:List AV)(vs:List Value)(rt fe:aP)(od:dy ks),(ks.filter PK.eD).length=1->lW h S g aI vs->gB rt ks aI=some (od,fe)->vW ks aI=true->
  ∃n a v,qe h S g a v/\((∃q t m m' R x,a=.addr q []/\wq h ks aI vs rt fe od n v q t m m' R x)\/(∃q p R md t xd m m' mx x,wv h ks aI vs rt fe od n a v q p R md t xd m m' mx x))
 | [],aI,vs,rt,fe,od,hn,ha,hb,hlo=>by simp at hn
 | k::ks,[],vs,rt,fe,od,hn,ha,hb,hlo=>by cases k<;>simp[gB]at hb
 | k::ks,a::aI,vs,rt,fe,od,hn,ha,hb,hlo=>by
  obtain⟨v,vs',rfl,r1,r2⟩:=ha;have step:∀(hk:k.eD=false)(KV:vW ks aI=true)(UE:dy ks),gB rt ks aI=some (UE,fe)->
    (∀h Pr Fs i,vj h Pr Fs (i+1) ks UE vs'->vj h Pr Fs i (k::ks) od (v::vs'))->
    (∀o:dy (k::ks),∃o':dy ks,(∀tP site,ga tP site (k::ks) (a::aI) o=ga tP site ks aI o')/\∀h' fN Os i,nx h' fN Os i (k::ks) o (v::vs')->nx h' fN Os (i+1) ks o' vs')->
    ∃n a' v',qe h S g a' v'/\((∃q t m m' R x,a'=.addr q []/\wq h (k::ks) (a::aI) (v::vs') rt fe od n v' q t m m' R x)\/(∃q p R md t xd m m' mx x,wv h (k::ks) (a::aI) (v::vs') rt fe od n a' v' q p R md t xd m m' mx x)):=by
   intro hk KV UE hb' hls hout;have hn':(ks.filter PK.eD).length=1:=by rw[List.filter_cons_of_neg (by simp[hk])]at hn;exact hn
   obtain⟨n,a',v',ra,wG⟩:=Sd ks aI vs' rt fe UE hn' r2 hb' KV;refine⟨n+1,a',v',ra,?_⟩;rcases wG with⟨q,t,m,m',R,x,e,L⟩ | ⟨q,p,R,md,t,xd,m,m',mx,x,L⟩
   .refine .inl ⟨q,t,m,m',R,x,e,L.root,L.TS,L.mem,L.cast,L.fe,?_,?_,?_⟩
    .intro Pr Fs i hp;exact hls _ _ _ _ (L.ls Pr Fs (i+1) (by rw[show i+1+n=i+(n+1) by omega];exact hp))
    .intro o;obtain⟨o',z9,nY⟩:=hout o;obtain⟨y,hy1,Ee⟩:=L.out o';refine⟨y,fun tP site nU hh=>hy1 tP site nU (by rw[<-z9];exact hh),fun h' fN Os i hh=>?_⟩;have:=Ee h' fN Os (i+1) (nY h' fN Os i hh)
     rwa [show i+1+n=i+(n+1) by omega]at this
    .intro hf;simp only[gT,bH]at hf;exact L.full hf.2
   .refine .inr ⟨q,p,R,md,t,xd,m,m',mx,x,L.place,L.root,L.DB,L.xm,L.paths,L.TS,L.fe,?_,?_,?_⟩
    .intro Pr Fs i hp;exact hls _ _ _ _ (L.ls Pr Fs (i+1) (by rw[show i+1+n=i+(n+1) by omega];exact hp))
    .intro o;obtain⟨o',z9,nY⟩:=hout o;obtain⟨y,hy1,Ee⟩:=L.out o';refine⟨y,fun tP site nU hh=>hy1 tP site nU (by rw[<-z9];exact hh),fun h' fN Os i hh=>?_⟩;have:=Ee h' fN Os (i+1) (nY h' fN Os i hh)
     rwa [show i+1+n=i+(n+1) by omega]at this
    .intro hf;simp only[gT,bH]at hf;exact L.full hf.2
  cases k with
  | val t=>exact step rfl (by simpa only [vW] using hlo) od (by simpa only [gB] using hb) (fun h Pr Fs i k=>⟨v,vs',rfl,k⟩) (fun o=>⟨o,fun _ _=>by simp only[ga],fun h' fN Os i k=>by obtain⟨_,_,e,k⟩:=k;simp only[eS]at e;obtain⟨-,rfl⟩:=e;exact k⟩)
  | own t m=>exact step rfl (by simpa only [vW] using hlo) od (by simpa only [gB] using hb) (fun h Pr Fs i k=>⟨v,vs',rfl,k⟩) (fun o=>⟨o,fun _ _=>by simp only[ga],fun h' fN Os i k=>by obtain⟨_,_,e,k⟩:=k;simp only[eS]at e;obtain⟨-,rfl⟩:=e;exact k⟩)
  | cj t=>exact step rfl (by simpa only [vW] using hlo) od (by simpa only [gB] using hb) (fun h Pr Fs i k=>⟨v,vs',rfl,k⟩) (fun o=>⟨o,fun _ _=>by simp only[ga],fun h' fN Os i k=>by obtain⟨_,_,e,k⟩:=k;simp only[eS]at e;obtain⟨-,rfl⟩:=e;exact k⟩)
  | fn=>exact step rfl (by simpa only [vW] using hlo) od (by simpa only [gB] using hb) (fun h Pr Fs i k=>⟨v,vs',rfl,k⟩) (fun o=>⟨o,fun _ _=>by simp only[ga],fun h' fN Os i k=>by obtain⟨_,_,e,k⟩:=k;simp only[eS]at e;obtain⟨-,rfl⟩:=e;exact k⟩)
  | cw t m m'=>
   have hn':(ks.filter PK.eD).length=0:=by rw[Sp (by rfl)]at hn;simpa using hn
   cases a with
   | addr q p=>
    cases p with
    | nil=>
     simp only[gB]at hb;split at hb
     .rename_i R hR;split at hb
      .rename_i hc;simp only[cJ,aK,aZ]at hb;obtain⟨x,hx,⟨od2,yN⟩,hb,e1,e2⟩:=hb;subst e2;obtain⟨e3,_⟩:=VT (h:=h) (Pr:=Nil) (Fs:=fun _=>Nil) (i:=0) hn' r2 hb;refine⟨0,.addr q [],v,r1,.inl ⟨q,t,m,m',R,x,rfl,hR,hc.1,hc.2,hx,e3,?_,?_,?_⟩⟩
       .intro Pr Fs i hp;subst e1;exact⟨v,vs',rfl,hp,(VT hn' r2 hb).2⟩
       .intro o;refine⟨o.1,fun tP site nU hh=>?_,fun h' fN Os i hh=>?_⟩
        .simp only[ga]at hh;split at hh
         .rename_i ht;exact⟨ht,Jn ks aI o.2 _ _ hn' hh⟩
         .simp at hh
        .obtain⟨_,_,e,k,_⟩:=hh;simp only[eS]at e;obtain⟨rfl,-⟩:=e;exact k
       .intro hf;simp only[gT,bH]at hf;exact hf.1
      .simp at hb
     .simp at hb
    | cons _ _=>simp[gB]at hb
   | _=>simp[gB]at hb
  | cN t m m'=>
   have hn':(ks.filter PK.eD).length=0:=by rw[Sp (by rfl)]at hn;simpa using hn
   simp only[gB]at hb;split at hb
   .rename_i q p uh;split at hb
    .rename_i R hR;simp only[cJ]at hb;obtain⟨⟨td,md,xd⟩,hf,hb⟩:=hb;split at hb
     .rename_i htd;simp only at htd;subst htd;simp only[cJ]at hb;obtain⟨⟨mx,x⟩,sq,hb⟩:=hb;split at hb
      .rename_i hs;simp only[cJ,aK,aZ]at hb;obtain⟨⟨od2,nU⟩,hb,e1,e2⟩:=hb;subst e2;obtain⟨e3,_⟩:=VT (h:=h) (Pr:=Nil) (Fs:=fun _=>Nil) (i:=0) hn' r2 hb;refine⟨0,a,v,r1,.inr ⟨q,p,R,md,_,xd,m,m',mx,x,uh,hR,hf,sq,(by simp only[vW,uh,bH]at hlo;exact hlo.1),hs,e3,?_,?_,?_⟩⟩
       .intro Pr Fs i hp;subst e1;exact⟨v,vs',rfl,hp,(VT hn' r2 hb).2⟩
       .intro o;refine⟨o.1,fun tP site nU hh=>?_,fun h' fN Os i hh=>?_⟩
        .simp only[ga,cJ]at hh;obtain⟨rt5,h5,h6⟩:=hh;rw[Jn ks aI o.2 _ _ hn' h6];exact h5
        .obtain⟨_,_,e,k,_⟩:=hh;simp only[eS]at e;obtain⟨rfl,-⟩:=e;exact k
       .intro hf;simp only[gT,bH]at hf;exact hf.1
      .simp at hb
     .simp at hb
    .simp at hb
   .simp at hb
end Go.V

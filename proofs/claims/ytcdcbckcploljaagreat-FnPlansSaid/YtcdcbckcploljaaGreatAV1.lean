import Derived.Laws.StructEq
import Derived.Laws.BytesString
import Derived.Laws.Tables
import Derived.Great.BuildSlice
import Derived.Laws.Append
import Derived.Room.Entries
import Derived.Test.YtcdcbckcploljaaGreatAV0
set_option linter.unusedVariables false
set_option linter.unusedSimpArgs false
set_option linter.unusedSectionVars false
namespace Go.V
noncomputable section
open Go
structure AOk (A:Asks) (S:St) (d:Option Nat) (site:Nat):Prop where
 men:A.men=true→∀ d',d=some d'→∀ u,(S.get u).roots.contains d'=false
 pl:A.pl=true→∀ d',d=some d'→∀ u,(S.get u).noPl d'=true
 fr:A.fr=true→site<1048576∧∀ u,(S.get u).stampsOk site (site+1)=true
theorem Mk.fresh_stamp (s:Nat):∀ {m:Mk},m.tagFree=true→(m.stamp s).fresh s (s+1)
 | .no,_=>trivial
 | .gone,_=>trivial
 | .own s0 m,h=>by
  simp only[Mk.tagFree,Bool.and_eq_true,qfi] at h
  simp only[Mk.stamp,if_pos h.1]
  exact ⟨Nat.le_refl _,Nat.lt_succ_self _⟩
 | .pr a b,h=>by
  simp only[Mk.tagFree,Bool.and_eq_true] at h
  exact ⟨Mk.fresh_stamp s h.1,Mk.fresh_stamp s h.2⟩
theorem qtl (t:Ty) (m:Mk) (x:t.den):focus t m x []=some ⟨t,m,x⟩:=by cases t<;>rfl
theorem qtd (h:Array Obj) (t:Ty) (c:List Value) (base:Base):atP h t c base []=some (base,c):=by cases t<;>rfl
theorem qzt (t:Ty) (x:t.den):inR t x []:=by cases t<;>trivial
theorem qbjz {h:Array Obj} {S:St} {g:Ghost} {r:Nat} {R:Root} (hR:S.root r=some R) {c:List Value} {F:BS} (hC:g.C r=c)
  (rep:Rep h g.Pr R.ty R.ms R.x c F):qf h S g (avOf r R.ty R.ms R.x []) (mkV R.ty c):=by
 by_cases hu:R.ty=.unit
 ·obtain ⟨t,m,x,mem⟩:=R
  simp only at hu rep ⊢
  subst hu
  simp only[Rep] at rep
  subst rep
  simp only[avOf,qf,mkV,Ty.agg]
  rfl
 ·refine AVC.rel rep (qsm hR _ _ _ [] (g.base r) c F (qtl _ _ _) (qzt _ _) ?_ rep) hu
  rw[hC];exact qtd _ _ _ _
theorem qod {h:Array Obj} {S:St} {rt1:Rts} {g1:Ghost} {tmps:Array Value} {H:BS} (st:StRel h ⟨S.sl,rt1⟩ g1 tmps H) {t:Ty} {m:Mk} {x:t.den} {c:List Value} {F:BS}
  (rep:Rep h g1.Pr t m x c F) (tg:TagC g1.hd t m c) (hF:Sub F H) {A:Asks} {d:Option Nat} {site:Nat} (ok:AOk A S d site) {β:Bool} {v:AV} {rt':Rts}
  (e:(layT A rt1 d site t m x false).dec β=some (v,rt')) :
  ∃ g',StRel h ⟨S.sl,rt'⟩ g' tmps Nil∧qf h ⟨S.sl,rt'⟩ g' v (mkV t c)∧g'.Same g1:=by
 cases d with
 | none=>
  simp only[layT,Tr.dec,Option.some.injEq,Prod.mk.injEq] at e
  obtain ⟨rfl,rfl⟩:=e
  exact ⟨g1,st.lessHand (Sub.nil _),by simp only[qf],.refl _⟩
 | some d=>
  simp only[layT,Bool.false_eq_true,if_false] at e
  split at e
  ·simp[Tr.dec] at e
  ·rename_i hn
   simp only[Bool.or_eq_true,Bool.not_eq_true',not_or,Bool.not_eq_false,qfi] at hn
   split at e
   ·rename_i hs
    simp only[Tr.dec,Option.some.injEq,Prod.mk.injEq] at e
    obtain ⟨rfl,rfl⟩:=e
    exact ⟨g1,st.lessHand (Sub.nil _),by simp only[qf];exact ⟨c,Rep.no_room t hs rep,rfl⟩,.refl _⟩
   ·split at e
    ·rename_i hc
     simp only[Tr.dec,Option.some.injEq,Prod.mk.injEq] at e
     obtain ⟨rfl,rfl⟩:=e
     have rep':=(Rep.stamp (h:=h) (Pr:=g1.Pr) site t).1 rep
     have key:∀ u,((⟨S.sl,rt1⟩:St).get u).roots.contains d=false∨(∃ lo hi,((⟨S.sl,rt1⟩:St).get u).stampsOk lo hi=true∧((⟨S.sl,rt1⟩:St).get u).noPl d=true∧(m.stamp site).fresh lo hi∧(none:Option Nat)=none):=by
      intro u
      simp only[Bool.or_eq_true,Bool.and_eq_true] at hc
      rcases hc with hc | ⟨⟨hc1,hc2⟩,hc3⟩
      ·exact .inl (ok.men hc d rfl u)
      ·exact .inr ⟨site,site+1,(ok.fr hc1).2 u,ok.pl hc3 d rfl u,Mk.fresh_stamp site hc2,rfl⟩
     obtain ⟨g',s1,s2,s3,s4,s5,s6⟩:=st.newRoot hn.1 rep' (TagC.stamp hn.2 t tg) hF none (fun b hb=>by simp at hb) key
     refine ⟨g',s1.lessHand (Sub.nil _),?_,s3⟩
     have hR:(⟨S.sl,rt1.setRoot d (some ⟨t,m.stamp site,x,false⟩)⟩:St).root d=some ⟨t,m.stamp site,x,false⟩:=by
      have:=St.root_setRoot (⟨S.sl,rt1⟩:St) d (some ⟨t,m.stamp site,x,false⟩) d
      rw[if_pos ⟨rfl,hn.1⟩] at this;exact this
     exact qbjz (R:=⟨t,m.stamp site,x,false⟩) hR s4 (by rw[s2];exact rep')
    ·simp[Tr.dec] at e
theorem q2x {h:Array Obj} {S:St} {rt1:Rts} {g1:Ghost} {tmps:Array Value} {H:BS} (st:StRel h ⟨S.sl,rt1⟩ g1 tmps H) {t:Ty} {m:Mk} {x:t.den} {c:List Value} {F:BS}
  (rep:Rep h g1.Pr t m x c F) (tg:TagC g1.hd t m c) (hF:Sub F H) {b:Nat} (hb:H b) (hbF:¬ F b) (ho:qci h b c.toArray)
  {A:Asks} {d:Option Nat} {site:Nat} (ok:AOk A S d site) {β:Bool} {v:AV} {rt':Rts}
  (e:(layT A rt1 d site t m x true).dec β=some (v,rt')) :
  ∃ g',StRel h ⟨S.sl,rt'⟩ g' tmps Nil∧qf h ⟨S.sl,rt'⟩ g' v (.pointer (some ⟨b,0,none⟩))∧g'.Same g1:=by
 cases d with
 | none=>
  simp only[layT,Tr.dec,Option.some.injEq,Prod.mk.injEq] at e
  obtain ⟨rfl,rfl⟩:=e
  exact ⟨g1,st.lessHand (Sub.nil _),by simp only[qf],.refl _⟩
 | some d=>
  simp only[layT,if_true] at e
  split at e
  ·simp[Tr.dec] at e
  ·rename_i hn
   simp only[Bool.or_eq_true,Bool.not_eq_true',not_or,Bool.not_eq_false,qfi] at hn
   split at e
   ·rename_i hc
    simp only[Tr.dec,Option.some.injEq,Prod.mk.injEq] at e
    obtain ⟨rfl,rfl⟩:=e
    have rep':=(Rep.stamp (h:=h) (Pr:=g1.Pr) site t).1 rep
    obtain ⟨g',s1,s2,s3,s4,s5,s6⟩:=st.newRoot hn.1 rep' (TagC.stamp hn.2 t tg) hF (some b)
     (fun b' hb'=>by simp only[Option.some.injEq] at hb';subst hb';exact ⟨hb,hbF,ho⟩) (fun u=>.inl (ok.men hc d rfl u))
    refine ⟨g',s1.lessHand (Sub.nil _),?_,s3⟩
    simp only[qf]
    intro R hR d' hf'
    have hR':(⟨S.sl,rt1.setRoot d (some ⟨t,m.stamp site,x,true⟩)⟩:St).root d=some ⟨t,m.stamp site,x,true⟩:=by
     have:=St.root_setRoot (⟨S.sl,rt1⟩:St) d (some ⟨t,m.stamp site,x,true⟩) d
     rw[if_pos ⟨rfl,hn.1⟩] at this;exact this
    rw[hR'] at hR
    simp only[Option.some.injEq] at hR
    subst hR
    refine ⟨qzt _ _,b,0,c,?_,rfl⟩
    rw[qtd]
    simp only[Ghost.base,s5,s4,Option.map_some]
   ·simp[Tr.dec] at e
def Post (S:St) (g:Ghost) (w:World) (tmps:Array Value) (v:AV) (rt':Rts) (val:Value) (w':World):Prop:=
 ∃ g',StRel w'.heap ⟨S.sl,rt'⟩ g' tmps Nil∧qf w'.heap ⟨S.sl,rt'⟩ g' v val∧g'.Same g∧WFr g.L w w'
theorem Post.same {S:St} {g:Ghost} {w:World} {tmps:Array Value} {v:AV} {val:Value} (st:StRel w.heap S g tmps Nil) (x:qf w.heap S g v val):Post S g w tmps v S.rt val w:=
 ⟨g,st,x,.refl g,.refl _ _⟩
end
end Go.V

namespace Go.V
noncomputable section
open Go
def Outs (S:St) (g:Ghost) (w:World) (tmps:Array Value) (T:Tr (AV×Rts)) (val:Value) (w':World):Prop:=
 ∃ β v rt',T.dec β=some (v,rt')∧Post S g w tmps v rt' val w'
def Res (P:Program) (S:St) (g:Ghost) (w:World) (tmps:Array Value) (T:Tr (AV×Rts)):Result Next→Prop
 | .ok (.value val) w'=>Outs S g w tmps T val w'
 | .ok .skip w'=>Outs S g w tmps T undef w'
 | .ok (.enter f args) w'=>Calls P f args w' fun
   | .returned val,w''=>Outs S g w tmps T val w''
   | _,_=>False
 | _=>False
def Tot (T:Tr (AV×Rts)):Prop:=∀ β,∃ x,T.dec β=some x
theorem Tot.fail:¬ Tot .fail:=fun h=>by obtain ⟨x,hx⟩:=h true;simp[Tr.dec] at hx
abbrev Goal (P:Program) (C:Ctx) (D:Den C) (S:St) (g:Ghost) (w:World) (tmps:Array Value) (a:Act) (ρ:Operand→AV) (A:Asks) (site:Nat) (hint:Bool) (o:Oper):Prop:=
 Tot (opT C D A ρ S.rt site hint o)→Res P S g w tmps (opT C D A ρ S.rt site hint o) ((execOp a.eval o).run P w)
section
variable {P:Program} {C:Ctx} {D:Den C} {S:St} {g:Ghost} {w:World} {tmps:Array Value} {a:Act} {ρ:Operand→AV}
theorem Res.value {T:Tr (AV×Rts)} {r:Result Next} {val:Value} {w':World} (hr:r=.ok (.value val) w') (h:Outs S g w tmps T val w'):Res P S g w tmps T r:=by
 subst hr;exact h
theorem Res.ret {r:Result Next} {val:Value} {v:AV} (hr:r=.ok (.value val) w) (st:StRel w.heap S g tmps Nil) (x:qf w.heap S g v val) :
  Res P S g w tmps (.ret (v,S.rt)) r:=
 Res.value hr ⟨true,v,S.rt,rfl,Post.same st x⟩
theorem q91 {v:AV} {b:Bool} {val:Value} (h:asBool v=some b) (x:qf w.heap S g v val):val=.bool b:=by
 cases v with
 | val t y=>
  cases t<;>simp[asBool] at h
  subst h
  simp only[qf,Rep] at x
  obtain ⟨c,rfl,rfl⟩:=x
  rfl
 | litB y=>simp[asBool] at h;subst h;simpa only [qf] using x
 | _=>simp[asBool] at h
theorem qol {k:IntKind} {n:Int} {val:Value} (x:qf w.heap S g (.val (.int k) n) val):val=.int k n:=by
 simp only[qf,Rep] at x
 obtain ⟨c,rfl,rfl⟩:=x
 rfl
theorem q0q {b:Bool} {val:Value} (x:qf w.heap S g (.val .bool b) val):val=.bool b:=by
 simp only[qf,Rep] at x
 obtain ⟨c,rfl,rfl⟩:=x
 rfl
theorem qvh {s:ByteArray} {val:Value} (x:qf w.heap S g (.val .str s) val):val=.string s:=by
 simp only[qf,Rep] at x
 obtain ⟨c,rfl,rfl⟩:=x
 rfl
theorem qih (k:IntKind) (n:Int):qf w.heap S g (.val (.int k) n) (.int k n):=by
 simp only[qf,Rep];exact ⟨_,rfl,rfl⟩
theorem qnz (b:Bool):qf w.heap S g (.val .bool b) (.bool b):=by
 simp only[qf,Rep];exact ⟨_,rfl,rfl⟩
theorem q2m (s:ByteArray):qf w.heap S g (.val .str s) (.string s):=by
 simp only[qf,Rep];exact ⟨_,rfl,rfl⟩
theorem qr0 {v:AV} {k:IntKind} {n:Int} {val:Value} (h:qo8 v=some (k,n)) (x:qf w.heap S g v val):val=.int k n:=by
 cases v with
 | val t y=>
  cases t<;>simp[qo8] at h
  obtain ⟨rfl,rfl⟩:=h
  exact qol x
 | _=>simp[qo8] at h
variable {A:Asks} {site:Nat} {hint:Bool} (hty:qcg P C) (st:StRel w.heap S g tmps Nil) (hρ:∀ x,qf w.heap S g (ρ x) (a.eval x))
include st hρ
theorem qblo {o:Oper} {x:Operand} (ho:o.op=.move x):Goal P C D S g w tmps a ρ A site hint o:=by
 intro _
 simp only[opT,ho]
 exact Res.ret (by simp[execOp,ho]) st (hρ x)
theorem qbk2 {o:Oper} {c x y:Operand} (ho:o.op=.pick c x y):Goal P C D S g w tmps a ρ A site hint o:=by
 intro ht
 simp only[opT,ho] at ht ⊢
 cases hb:V.asBool (ρ c) with
 | none=>rw[hb] at ht;exact absurd ht Tot.fail
 | some b=>
  have hv:=q91 hb (hρ c)
  cases b with
  | true=>exact Res.value (val:=a.eval x) (w':=w) (by simp[execOp,ho,hv,Go.asBool]) ⟨true,_,_,rfl,Post.same st (hρ x)⟩
  | false=>exact Res.value (val:=a.eval y) (w':=w) (by simp[execOp,ho,hv,Go.asBool]) ⟨true,_,_,rfl,Post.same st (hρ y)⟩
omit hρ in
theorem q8t {r:Nat} {p:Path} {d:Dy} {v:Value} (hf:S.rt.focus r p=some d) (x:qf w.heap S g (.addr r p) v) :
  ∃ R b off c F,S.root r=some R∧focus R.ty R.ms R.x p=some d∧inR R.ty R.x p∧atP w.heap R.ty (g.C r) (g.base r) p=some (some (b,off),c)∧v=.pointer (some ⟨b,off,none⟩)∧
   Rep w.heap g.Pr d.ty d.ms d.x c F∧qny w.heap (some (b,off)) c F∧g.G r b:=by
 simp only[Rts.focus] at hf
 split at hf
 ·rename_i R hR
  simp only[qf] at x
  obtain ⟨h1,b,off,c,h2,h3⟩:=x R hR d hf
  obtain ⟨base,c',F,q1,q2,q3,q4,q5,_⟩:=st.update hR hf h1
  rw[h2] at q1
  simp only[Option.some.injEq,Prod.mk.injEq] at q1
  obtain ⟨rfl,rfl⟩:=q1
  exact ⟨R,b,off,c,F,hR,hf,h1,h2,h3,q2,q4,q5 b off rfl⟩
 ·simp at hf
theorem qbmm {o:Oper} {x:Operand} (ho:o.op=.nilCheck x):Goal P C D S g w tmps a ρ A site hint o:=by
 intro ht
 simp only[opT,ho] at ht ⊢
 have hx:=hρ x
 cases hv:ρ x with
 | addr r p=>
  rw[hv] at hx ht
  simp only at ht ⊢
  cases hf:S.rt.focus r p with
  | none=>rw[hf] at ht;exact absurd ht Tot.fail
  | some d=>
   obtain ⟨R,b,off,c,F,_,_,_,_,e,_⟩:=q8t st hf hx
   exact Res.ret (val:=a.eval x) (by simp[execOp,ho,e]) st hx
 | raddr t y=>
  rw[hv] at hx
  have hx':=hx
  simp only[qf] at hx'
  obtain ⟨b,off,cs,e,_⟩:=hx'
  exact Res.ret (val:=a.eval x) (by simp[execOp,ho,e]) st hx
 | clo f c=>
  rw[hv] at hx
  have hx':=hx
  simp only[qf] at hx'
  obtain ⟨vs,e,_⟩:=hx'
  exact Res.ret (val:=a.eval x) (by simp[execOp,ho,e]) st hx
 | _=>rw[hv] at ht;exact absurd ht Tot.fail
theorem qbls {o:Oper} {op:UnOp} {t:TypeId} {x:Operand} (ho:o.op=.unOp op t x):Goal P C D S g w tmps a ρ A site hint o:=by
 intro ht
 simp only[opT,ho] at ht ⊢
 have hx:=hρ x
 cases op with
 | not=>
  split at ht
  ·rename_i b _ hv
   rw[hv] at hx
   exact Res.ret (val:=.bool (!b)) (by simp[execOp,ho,q0q hx,Op.unary]) st (qnz _)
  ·rename_i _ _ hc _;simp at hc
  ·exact absurd ht Tot.fail
 | neg=>
  split at ht
  ·rename_i _ _ hc _;simp at hc
  ·rename_i kd n _ hv
   rw[hv] at hx
   exact Res.ret (val:=.int kd (kd.wrap (0 - n))) (by simp[execOp,ho,qol hx,Op.unary,Op.intArith]) st (qih _ _)
  ·exact absurd ht Tot.fail
 | _=>exact absurd ht Tot.fail
omit st hρ in
theorem qqf:∀ (p:Path) {t:Ty} {x:t.den} {d:Dy},focus t .no x p=some d→d.ms=.no∧qs p=false
 | [],t,x,d,h=>by rw[qtl] at h;simp only[Option.some.injEq] at h;subst h;exact ⟨rfl,rfl⟩
 | .fst::p,t,x,d,h=>by
  cases t with
  | pair a b=>simp only[focus,Mk.fst] at h;exact qqf p h
  | _=>simp[focus] at h
 | .snd::p,t,x,d,h=>by
  cases t with
  | pair a b=>simp only[focus,Mk.snd] at h;exact qqf p h
  | _=>simp[focus] at h
 | .idx i s::p,t,x,d,h=>by cases t<;>simp[focus] at h
end
end
end Go.V

namespace Go.V
open Go
theorem qqd {C:Ctx}:∀ (f:Nat) {fs:List Field} {off:Nat} {T:Ty} {m:Mk} {x:T.den} {d:Dy},qc0 C fs off T→focus T m x (qbb f)=some d→
  ∃ fd,fs[f]? = some fd∧d.ty=C.ty fd.type∧fd.offset=off+qbf T (qbb f)∧(C.ty fd.type).nz=true∧qs (qbb f)=false
 | 0,fs,off,T,m,x,d,hs,hf=>by
  cases fs with
  | nil=>simp only[qc0] at hs;subst hs;simp[qbb,focus] at hf
  | cons fd fs=>
   simp only[qc0] at hs
   obtain ⟨b,rfl,h1,_,h2,h3⟩:=hs
   simp only[qbb,focus,Option.some.injEq] at hf
   subst hf
   refine ⟨fd,rfl,rfl,?_,h2,rfl⟩
   have:qbf (Ty.pair (C.ty fd.type) b) (qbb 0)=qbf (C.ty fd.type) []:=rfl
   rw[this]
   have:qbf (C.ty fd.type) []=0:=by cases C.ty fd.type<;>rfl
   omega
 | f+1,fs,off,T,m,x,d,hs,hf=>by
  cases fs with
  | nil=>simp only[qc0] at hs;subst hs;simp[qbb,focus] at hf
  | cons fd fs=>
   simp only[qc0] at hs
   obtain ⟨b,rfl,h1,_,h2,h3⟩:=hs
   simp only[qbb,focus] at hf
   obtain ⟨fd',q1,q2,q3,q4,q5⟩:=qqd f h3 hf
   refine ⟨fd',by simpa using q1,q2,?_,q4,by simpa [qbb,qs] using q5⟩
   have:qbf (Ty.pair (C.ty fd.type) b) (qbb (f+1))=(C.ty fd.type).width+qbf b (qbb f):=rfl
   omega
theorem Ty.nz_unit {t:Ty} (h:t.nz=true):t≠.unit:=by rintro rfl;simp[Ty.nz] at h
theorem q0u {t:Ty} (h:t.nz=true) (ha:t.agg=false):t.width=1:=by cases t<;>simp_all [Ty.nz,Ty.agg,Ty.width]
section
variable {P:Program} {C:Ctx} {D:Den C} {S:St} {g:Ghost} {w:World} {tmps:Array Value} {a:Act} {ρ:Operand→AV}
variable {A:Asks} {site:Nat} {hint:Bool} (hty:qcg P C) (st:StRel w.heap S g tmps Nil) (hρ:∀ x,qf w.heap S g (ρ x) (a.eval x))
theorem q1b {t:TypeId} (k:TyOk P C t) (hz:(C.ty t).nz=true) {b o:Nat} {c:List Value} (hr:w.rangeAt b o c) (hl:c.length=(C.ty t).width) :
  (Instr.loadAt t (.pointer (some ⟨b,o,none⟩))).run P w=.ok (mkV (C.ty t) c) w:=by
 simp only[Instr.loadAt,Instr.sureAddr,loadVar,Sem.run_bind,Sem.run_pure,Result.andThen_ok,k.run_agg]
 by_cases ha:(C.ty t).agg=true
 ·have h1:(loadCells ⟨b,o,none⟩ c.length).run P w=.ok c.toArray w:=run_loadCells_list (P:=P) w ⟨b,o,none⟩ c (fun j v hv=>by rw[Addr.add_mid];exact hr j v hv)
  rw[hl] at h1
  simp only[ha,if_true,Sem.run_bind,k.run_size,Result.andThen_ok,h1,Sem.run_pure,mkV]
 ·have ha':(C.ty t).agg=false:=by simpa using ha
  have hw:=q0u hz ha'
  have:∃ v,c=[v]:=by
   rw[hw] at hl
   match c,hl with
   | [v],_=>exact ⟨v,rfl⟩
  obtain ⟨v,rfl⟩:=this
  have:=hr 0 v rfl
  simp only[Nat.add_zero] at this
  simp[ha',Go.load,Go.run_load,this,mkV,Sem.run]
include hty st hρ
theorem qbkp {o:Oper} {t:TypeId} {x:Operand} (ho:o.op=.load t x):Goal P C D S g w tmps a ρ A site hint o:=by
 intro ht
 simp only[opT,ho] at ht ⊢
 have hx:=hρ x
 by_cases hz:(C.ty t).nz=true
 ·have k:=hty t hz
  simp only[hz,if_true] at ht ⊢
  cases hv:ρ x with
  | raddr t' y=>
   rw[hv] at hx ht
   simp only[qk4] at ht ⊢
   cases hc:qbs t' (C.ty t) y with
   | none=>rw[hc] at ht;exact absurd ht Tot.fail
   | some z=>
    simp only[qf] at hx
    obtain ⟨b,off,cs,e,hp,hb,hs,rep⟩:=hx
    have hw:=Rep.width t' rep
    obtain ⟨e1,rep2⟩:=Rep.cast hc rep
    subst e1
    have hrun:=q1b (w:=w) k hz (qie hb hs) hw
    refine Res.ret (v:=.val (C.ty t) z) (val:=mkV (C.ty t) (sub cs off (C.ty t).width)) ?_ st (by simp only[qf];exact ⟨_,rep2,rfl⟩)
    simp[execOp,ho,e,hrun]
  | addr r p=>
   rw[hv] at hx ht
   simp only[qk4] at ht ⊢
   cases hf:S.rt.focus r p with
   | none=>rw[hf] at ht;exact absurd ht Tot.fail
   | some d=>
    rw[hf] at ht
    simp only at ht ⊢
    by_cases hd:d.ty=C.ty t
    ·simp only[hd,if_true] at ht ⊢
     obtain ⟨R,b,off,c,F,hR,hfR,hin,hat,e,rep,hbo,_⟩:=q8t st hf hx
     obtain ⟨_,cs,ho1,hs,hsub⟩:=hbo b off rfl
     have hw:=Rep.width d.ty rep
     have hrange:w.rangeAt b off c:=by
      have:=qie (w:=w) ho1.blk hs
      rw[hsub] at this;exact this
     have hrun:=q1b (w:=w) k hz hrange (by rw[hw,hd])
     obtain ⟨dt,dm,dx⟩:=d
     simp only at hd
     subst hd
     refine Res.ret (val:=mkV (C.ty t) c) ?_ st ?_
     ·simp[execOp,ho,e,hrun]
     ·exact AVC.rel rep (qsm hR _ _ _ p (some (b,off)) c F hfR hin hat rep) (Ty.nz_unit hz)
    ·rw[if_neg hd] at ht;exact absurd ht Tot.fail
  | _=>rw[hv] at ht;exact absurd ht Tot.fail
 ·rw[if_neg hz] at ht;exact absurd ht Tot.fail
end
end Go.V

namespace Go.V
open Go
theorem Tot.of {x:Option (AV×Rts)} (h:Tot (.of x)):∃ y,x=some y:=by
 cases x with
 | none=>exact absurd h Tot.fail
 | some y=>exact ⟨y,rfl⟩
theorem qcg.desc {P:Program} {C:Ctx} (h:qcg P C) {t:TypeId} {e:Ty} (ht:C.ty t=.sl e):∃ u,P.underlying t=some (.slice u)∧C.ty u=e∧(C.ty u).nz=true:=by
 have k:=h t (by rw[ht];rfl)
 obtain ⟨d,h1,h2⟩:=k.desc
 rw[ht] at h2
 cases d<;>simp only[qfu] at h2<;>try (simp at h2)
 case slice u=>exact ⟨u,h1,h2.1.symm,h2.2⟩
 case struct fs=>cases hl:fs.toList<;>rw[hl] at h2<;>simp[qc0] at h2
theorem qcg.str {P:Program} {C:Ctx} (h:qcg P C) {t:TypeId} (ht:C.ty t=.str):P.underlying t=some .string:=by
 have k:=h t (by rw[ht];rfl)
 obtain ⟨d,h1,h2⟩:=k.desc
 rw[ht] at h2
 cases d<;>simp only[qfu] at h2<;>try (simp at h2)
 case string=>exact h1
 case struct fs=>cases hl:fs.toList<;>rw[hl] at h2<;>simp[qc0] at h2
theorem qcg.bool {P:Program} {C:Ctx} (h:qcg P C) {t:TypeId} (ht:C.ty t=.bool):P.underlying t=some .bool:=by
 have k:=h t (by rw[ht];rfl)
 obtain ⟨d,h1,h2⟩:=k.desc
 rw[ht] at h2
 cases d<;>simp only[qfu] at h2<;>try (simp at h2)
 case bool=>exact h1
 case struct fs=>cases hl:fs.toList<;>rw[hl] at h2<;>simp[qc0] at h2
theorem qcg.int {P:Program} {C:Ctx} (h:qcg P C) {t:TypeId} {k:IntKind} (ht:C.ty t=.int k):P.underlying t=some (.int k):=by
 have kk:=h t (by rw[ht];rfl)
 obtain ⟨d,h1,h2⟩:=kk.desc
 rw[ht] at h2
 cases d<;>simp only[qfu] at h2<;>try (simp at h2)
 case int=>subst h2;exact h1
 case struct fs=>cases hl:fs.toList<;>rw[hl] at h2<;>simp[qc0] at h2
theorem qcg.pair {P:Program} {C:Ctx} (h:qcg P C) {t:TypeId} {a b:Ty} (ht:C.ty t=.pair a b):∃ fs,P.underlying t=some (.struct fs)∧qc0 C fs.toList 0 (.pair a b):=by
 have kk:=h t (by rw[ht];rfl)
 obtain ⟨d,h1,h2⟩:=kk.desc
 rw[ht] at h2
 cases d<;>simp only[qfu] at h2<;>try (simp at h2)
 case struct fs=>exact ⟨fs,h1,h2⟩
section
variable {P:Program} {C:Ctx} {D:Den C} {S:St} {g:Ghost} {w:World} {tmps:Array Value} {a:Act} {ρ:Operand→AV}
variable {A:Asks} {site:Nat} {hint:Bool} (hty:qcg P C) (st:StRel w.heap S g tmps Nil) (hρ:∀ x,qf w.heap S g (ρ x) (a.eval x))
include hty st hρ
theorem qbbx {o:Oper} {s:TypeId} {x:Operand} {f:Nat} (ho:o.op=.fieldAddr s x f):Goal P C D S g w tmps a ρ A site hint o:=by
 intro ht
 simp only[opT,ho] at ht ⊢
 have hx:=hρ x
 obtain ⟨y,hy⟩:=Tot.of ht
 rw[hy]
 simp only[Option.map_eq_some_iff] at hy
 obtain ⟨v,hv,rfl⟩:=hy
 have hsome:∀ (T:Ty),C.ty s=T→∀ (m:Mk) (z:T.den) (d:Dy),focus T m z (qbb f)=some d→∃ fs fd,P.underlying s=some (.struct fs)∧fs[f]? = some fd∧d.ty=C.ty fd.type∧
   fd.offset=qbf T (qbb f)∧(C.ty fd.type).nz=true∧qs (qbb f)=false:=by
  intro T hT m z d hf
  cases T with
  | pair a b=>
   obtain ⟨fs,h1,h2⟩:=hty.pair hT
   obtain ⟨fd,q1,q2,q3,q4,q5⟩:=qqd f h2 hf
   exact ⟨fs,fd,h1,by simpa using q1,q2,by omega,q4,q5⟩
  | _=>cases f<;>simp[qbb,focus] at hf
 have hrun:∀ (fs:Array Field) (fd:Field) (b off:Nat),P.underlying s=some (.struct fs)→fs[f]? = some fd→(C.ty fd.type).nz=true→
   (Instr.fieldAt s (.pointer (some ⟨b,off,none⟩)) f).run P w=.ok (.pointer (some ⟨b,off+fd.offset,none⟩)) w:=by
  intro fs fd b off h1 h2 h3
  have k:=hty fd.type h3
  have hp:=k.pos
  have hne:(C.ty fd.type).width≠0:=by omega
  simp only[Instr.fieldAt,Instr.sureAddr,fieldPlace,Sem.run_bind,run_underlying h1,Result.andThen_ok,h2,Sem.run_pure,k.run_size,if_neg hne,Addr.add_mid]
 cases hρx:ρ x with
 | addr r p=>
  rw[hρx] at hx hv
  simp only[qg7] at hv
  split at hv
  ·rename_i d hf
   split at hv
   ·rename_i hc
    simp only[Option.some.injEq] at hv
    subst hv
    obtain ⟨d',hf'⟩:=Option.isSome_iff_exists.1 hc.2
    obtain ⟨R,b,off,c,F,hR,hfR,hin,hat,e,rep,hbo,_⟩:=q8t st hf hx
    obtain ⟨fs,fd,h1,h2,h3,h4,h5,h6⟩:=hsome d.ty hc.1.symm _ _ _ hf'
    refine Res.ret (val:=.pointer (some ⟨b,off+fd.offset,none⟩)) (by simp[execOp,ho,e,hrun fs fd b off h1 h2 h5]) st ?_
    simp only[qf]
    intro R' hR' d2 hf2
    rw[hR] at hR'
    simp only[Option.some.injEq] at hR'
    subst hR'
    have hin2:inR d.ty d.x (qbb f):=qhd _ _ h6 (qis _ hf')
    obtain ⟨base',c',F2,Fr,z⟩:=zip (qbb f) _ _ _ c F (some (b,off)) d' rep hf' hin2 hbo
    refine ⟨(qle p _ hfR).2 ⟨hin,hin2⟩,b,off+fd.offset,c',?_,rfl⟩
    rw[qiq p _ hfR hat,z.at_]
    obtain ⟨q1,_,_⟩:=z.plain h6
    rw[q1,h4];rfl
   ·simp at hv
  ·simp at hv
 | raddr t y=>
  rw[hρx] at hx hv
  simp only[qg7] at hv
  split at hv
  ·rename_i hT
   cases hf:focus t .no y (qbb f) with
   | none=>rw[hf] at hv;simp at hv
   | some d=>
    rw[hf] at hv
    simp only[Option.bind_some,Option.some.injEq] at hv
    subst hv
    simp only[qf] at hx
    obtain ⟨b,off,cs,e,hp,hb,hs,rep⟩:=hx
    obtain ⟨fs,fd,h1,h2,h3,h4,h5,h6⟩:=hsome t hT.symm _ _ _ hf
    obtain ⟨hm,_⟩:=qqf _ hf
    obtain ⟨base',c',F2,Fr,z⟩:=zip (qbb f) _ _ _ _ Nil none d rep hf (qhd _ _ h6 (qis _ hf)) (fun b o e=>by simp at e)
    obtain ⟨q1,q2,q3⟩:=z.plain h6
    have hl:=Rep.width t rep
    refine Res.ret (val:=.pointer (some ⟨b,off+fd.offset,none⟩)) (by simp[execOp,ho,e,hrun fs fd b off h1 h2 h5]) st ?_
    simp only[qf]
    refine ⟨b,off+fd.offset,cs,rfl,hp,hb,by rw[h4];omega,?_⟩
    have r2:=z.rep
    rw[hm] at r2
    have r3:=Rep.no_room (F':=Nil) d.ty rfl r2
    have e3:c'=sub cs (off+fd.offset) d.ty.width:=by
     rw[q2,h4]
     simp only[sub,List.drop_take,List.drop_drop,List.take_take]
     congr 1
     omega
    rw[←e3];exact r3
  ·simp at hv
 | _=>rw[hρx] at hv;simp[qg7] at hv
theorem qbd0 {o:Oper} {t:TypeId} {x i:Operand} (ho:o.op=.indexAddr t x i):Goal P C D S g w tmps a ρ A site hint o:=by
 intro ht
 simp only[opT,ho] at ht ⊢
 have hx:=hρ x
 have hi:=hρ i
 simp only[q1q] at ht ⊢
 cases hn:qo8 (ρ i) with
 | none=>rw[hn] at ht;exact absurd ht Tot.fail
 | some kn=>
  obtain ⟨k,n⟩:=kn
  rw[hn] at ht
  have ei:=qr0 hn hi
  simp only at ht ⊢
  have hrun:∀ (u:TypeId) (b off len cap:Nat),P.underlying t=some (.slice u)→(C.ty u).nz=true→0≤n→n<(len:Int)→a.eval x=.slice (some ⟨b,off,none⟩) len cap→
    (execOp a.eval o).run P w=.ok (.value (.pointer (some ⟨b,off+n.toNat * (C.ty u).width,none⟩))) w:=by
   intro u b off len cap h1 h2 h3 h4 h5
   simp[execOp,ho,ei,h5,Instr.indexAt,asIntOf,run_underlying h1,(hty u h2).run_size,h3,h4,Addr.add_mid,Sem.run_bind]
  cases hv:ρ x with
  | val t' xs=>
   cases t' with
   | sl e=>
    rw[hv] at hx ht
    simp only at ht ⊢
    by_cases hT:C.ty t=.sl e
    ·simp only[hT,if_true] at ht ⊢
     obtain ⟨u,h1,h2,h3⟩:=hty.desc hT
     obtain ⟨⟨v,rt'⟩,hd⟩:=ht true
     simp only[Tr.dec] at hd
     by_cases hc:0≤n∧n<(xs.length:Int)
     ·simp only[qf,Rep] at hx
      obtain ⟨c,⟨ad,cap,rfl,hl,hr⟩,e0⟩:=hx
      have hne:xs≠[]:=by rintro rfl;simp at hc;omega
      obtain ⟨b,off,cs,rfl,hp,hb,hs,re⟩:=hr hne
      refine Res.value (hrun u b off _ cap h1 h3 hc.1 hc.2 (by rw[e0];rfl)) ⟨true,.raddr e (xs.getD n.toNat e.zero),S.rt,by simp[Tr.dec,hc.1,hc.2],Post.same st ?_⟩
      simp only[qf]
      have hlt:n.toNat<xs.length:=by omega
      refine ⟨b,off+n.toNat * (C.ty u).width,cs,rfl,hp,hb,?_,?_⟩
      ·rw[h2]
       have:n.toNat * e.width+e.width≤xs.length * e.width:=by
        have:=Nat.mul_le_mul_right e.width (show n.toNat+1≤xs.length by omega)
        rw[Nat.succ_mul] at this;exact this
       omega
      ·rw[h2];exact re n.toNat hlt
     ·have:(decide (0≤n)&&decide (n<(xs.length:Int)))=false:=by
       simp only[Bool.and_eq_false_iff,decide_eq_false_iff_not];omega
      rw[this] at hd;simp[Tr.dec] at hd
    ·rw[if_neg hT] at ht;exact absurd ht Tot.fail
   | _=>rw[hv] at ht;exact absurd ht Tot.fail
  | brw r p s=>
   rw[hv] at hx ht
   simp only at ht ⊢
   cases hf:S.rt.focus r p with
   | none=>rw[hf] at ht;exact absurd ht Tot.fail
   | some d=>
    obtain ⟨dt,dm,dx⟩:=d
    cases dt with
    | sl e=>
     cases dm with
     | own s' m=>
      rw[hf] at ht
      simp only at ht ⊢
      by_cases hT:s=s'∧C.ty t=.sl e
      ·simp only[if_pos hT] at ht ⊢
       obtain ⟨rfl,hT⟩:=hT
       obtain ⟨u,h1,h2,h3⟩:=hty.desc hT
       obtain ⟨⟨v,rt'⟩,hd⟩:=ht true
       simp only[Tr.dec] at hd
       by_cases hc:0≤n∧n<((dx:List e.den).length:Int)
       ·simp only[qf] at hx
        obtain ⟨R,base,F,hR,hfR,hin,hat,rep,hF⟩:=qvw st hf rfl hx
        simp only[Rep] at rep
        obtain ⟨ad,cap,e0,hl,hr⟩:=rep
        simp only[List.cons.injEq,and_true] at e0
        rcases hr with hr | ⟨b,cs,rfl,fb,hb,hs,Fs,hFs,hd2,re⟩
        ·omega
        ·refine Res.value (hrun u b 0 _ cap h1 h3 hc.1 hc.2 e0) ⟨true,.addr r (p++[.idx n.toNat s]),S.rt,by simp[Tr.dec,hc.1,hc.2],Post.same st ?_⟩
         have hlt:n.toNat<(dx:List e.den).length:=by omega
         simp only[qf]
         intro R' hR' d2 hf2
         rw[hR] at hR'
         simp only[Option.some.injEq] at hR'
         subst hR'
         refine ⟨(qle p _ hfR).2 ⟨hin,?_⟩,b,0+n.toNat * (C.ty u).width,?_⟩
         ·simp only[inR];exact ⟨hlt,trivial⟩
         ·refine ⟨sub cs (n.toNat * e.width) e.width,?_,rfl⟩
          rw[qiq p _ hfR hat]
          obtain ⟨ty,lo,hi',he,_⟩:=hb
          simp only[e0,atP,he,qtd,h2,Nat.zero_add]
       ·have:(decide (0≤n)&&decide (n<((dx:List e.den).length:Int)))=false:=by
         simp only[Bool.and_eq_false_iff,decide_eq_false_iff_not];omega
        rw[this] at hd;simp[Tr.dec] at hd
      ·rw[if_neg hT] at ht;exact absurd ht Tot.fail
     | _=>rw[hf] at ht;exact absurd ht Tot.fail
    | _=>rw[hf] at ht;exact absurd ht Tot.fail
  | _=>rw[hv] at ht;exact absurd ht Tot.fail
end
end Go.V

namespace Go.V
open Go
theorem Rep.len {h:Array Obj} {Pr:BS} {t:Ty} {m:Mk} {xs:(Ty.sl t).den} {c:List Value} {F:BS} (hm:m≠.gone) (r:Rep h Pr (.sl t) m xs c F):∃ a cap,c=[.slice a xs.length cap]∧(xs.length≠0→a.isSome):=by
 cases m with
 | gone=>exact absurd rfl hm
 | no=>
  simp only[Rep] at r
  obtain ⟨a,cap,rfl,_,h2⟩:=r
  refine ⟨a,cap,rfl,fun hl=>?_⟩
  obtain ⟨b,o,cs,e,_⟩:=h2 (by rintro rfl;simp at hl)
  rw[e];rfl
 | pr _ _=>
  simp only[Rep] at r
  obtain ⟨a,cap,rfl,_,h2⟩:=r
  refine ⟨a,cap,rfl,fun hl=>?_⟩
  obtain ⟨b,o,cs,e,_⟩:=h2 (by rintro rfl;simp at hl)
  rw[e];rfl
 | own s mi=>
  simp only[Rep] at r
  obtain ⟨a,cap,rfl,h1,h2⟩:=r
  refine ⟨a,cap,rfl,fun hl=>?_⟩
  rcases h2 with h2 | ⟨b,cs,e,_⟩
  ·omega
  ·rw[e];rfl
section
variable {P:Program} {C:Ctx} {D:Den C} {S:St} {g:Ghost} {w:World} {tmps:Array Value} {a:Act} {ρ:Operand→AV}
variable {A:Asks} {site:Nat} {hint:Bool} (hty:qcg P C) (st:StRel w.heap S g tmps Nil) (hρ:∀ x,qf w.heap S g (ρ x) (a.eval x))
include st in
theorem q4q {v:AV} {n:Int} {val:Value} (h:qq3 S.rt v=some n) (x:qf w.heap S g v val):∃ ad len cap,val=.slice ad len cap∧n=(len:Int)∧(len≠0→ad.isSome):=by
 cases v with
 | val t xs=>
  cases t with
  | sl e=>
   simp only[qq3,Option.some.injEq] at h
   simp only[qf] at x
   obtain ⟨c,r,rfl⟩:=x
   obtain ⟨ad,cap,rfl,hs⟩:=Rep.len (by simp) r
   exact ⟨ad,_,cap,rfl,h.symm,hs⟩
  | _=>simp[qq3] at h
 | nils=>
  simp only[qq3,Option.some.injEq] at h
  simp only[qf] at x
  exact ⟨none,0,0,x,by rw[←h];rfl,by simp⟩
 | brw r p s=>
  simp only[qq3] at h
  split at h
  ·rename_i e s' m xs hf
   split at h
   ·rename_i hs
    simp only[Option.some.injEq] at h
    simp only[qf] at x
    obtain ⟨R,base,F,_,_,_,_,rep,_⟩:=qvw st hf hs x
    obtain ⟨ad,cap,e0,hs2⟩:=Rep.len (by simp) rep
    simp only[List.cons.injEq,and_true] at e0
    exact ⟨ad,_,cap,e0,h.symm,hs2⟩
   ·simp at h
  ·simp at h
 | _=>simp[qq3] at h
include hty st hρ
theorem qbl7 {o:Oper} {c:Call} (ho:o.op=.call c) (hc:c.callee=.builtin .len):Goal P C D S g w tmps a ρ A site hint o:=by
 intro ht
 simp only[opT,ho,hc] at ht ⊢
 split at ht<;>try (rename_i hb _ _;simp at hb;done)
 ·rename_i s _ _ hargs htys
  have:∃ x,c.args.toList=[x]∧ρ x=.val .str s:=by
   match hcl:c.args.toList with
   | []=>rw[hcl] at hargs;simp at hargs
   | [x]=>rw[hcl] at hargs;simp only[List.map_cons,List.map_nil,List.cons.injEq,and_true] at hargs;exact ⟨x,rfl,hargs⟩
   | _::_::_=>rw[hcl] at hargs;simp at hargs
  obtain ⟨x,hx1,hx2⟩:=this
  obtain ⟨t,l,ht1,ht2⟩:∃ t l,c.argTypes.toList=t::l∧C.ty t=.str:=by
   match hcl:c.argTypes.toList with
   | []=>rw[hcl] at htys;simp at htys
   | t::l=>rw[hcl] at htys;simp only[List.map_cons,List.cons.injEq] at htys;exact ⟨t,l,rfl,htys.1⟩
  have hv:=hρ x
  rw[hx2] at hv
  have e1:c.args = #[x]:=by rw[←Array.toArray_toList (xs:=c.args),hx1]
  have e2:c.argTypes[0]? = some t:=by rw[←Array.getElem?_toList,ht1];rfl
  refine Res.ret (val:=.int .i64 (s.size:Nat)) ?_ st (qih _ _)
  simp[execOp,ho,resolve,hc,invoke,builtin,Builtin.len_,e1,e2,qvh hv,run_underlying (hty.str ht2),goInt,Sem.run_bind]
 ·rename_i x0 e _ _ hargs htys
  have:∃ x,c.args.toList=[x]∧ρ x=x0:=by
   match hcl:c.args.toList with
   | []=>rw[hcl] at hargs;simp at hargs
   | [x]=>rw[hcl] at hargs;simp only[List.map_cons,List.map_nil,List.cons.injEq,and_true] at hargs;exact ⟨x,rfl,hargs⟩
   | _::_::_=>rw[hcl] at hargs;simp at hargs
  obtain ⟨x,hx1,hx2⟩:=this
  obtain ⟨t,l,ht1,ht2⟩:∃ t l,c.argTypes.toList=t::l∧C.ty t=.sl e:=by
   match hcl:c.argTypes.toList with
   | []=>rw[hcl] at htys;simp at htys
   | t::l=>rw[hcl] at htys;simp only[List.map_cons,List.cons.injEq] at htys;exact ⟨t,l,rfl,htys.1⟩
  have hv:=hρ x
  rw[hx2] at hv
  obtain ⟨y,hy⟩:=Tot.of ht
  rw[hy]
  simp only[Option.map_eq_some_iff] at hy
  obtain ⟨n,hn,rfl⟩:=hy
  obtain ⟨ad,len,cap,ev,en,_⟩:=q4q st hn hv
  obtain ⟨u,h1,_,_⟩:=hty.desc ht2
  have e1:c.args = #[x]:=by rw[←Array.toArray_toList (xs:=c.args),hx1]
  have e2:c.argTypes[0]? = some t:=by rw[←Array.getElem?_toList,ht1];rfl
  subst en
  refine Res.ret (val:=.int .i64 (len:Nat)) ?_ st (qih _ _)
  simp[execOp,ho,resolve,hc,invoke,builtin,Builtin.len_,e1,e2,ev,run_underlying h1,goInt,Sem.run_bind]
 all_goals (first | exact absurd ht Tot.fail | (exfalso;contradiction) | trace_state)
end
end Go.V

namespace Go.V
open Go
section
variable {P:Program} {C:Ctx} {D:Den C} {S:St} {g:Ghost} {w:World} {tmps:Array Value} {a:Act} {ρ:Operand→AV}
variable {A:Asks} {site:Nat} {hint:Bool} (hty:qcg P C) (st:StRel w.heap S g tmps Nil) (hρ:∀ x,qf w.heap S g (ρ x) (a.eval x))
include hty st hρ
theorem qbjf {o:Oper} {s:TypeId} {x:Operand} {f:Nat} (ho:o.op=.field s x f):Goal P C D S g w tmps a ρ A site hint o:=by
 intro ht
 simp only[opT,ho] at ht ⊢
 have hx:=hρ x
 cases hv:ρ x with
 | val t y=>
  rw[hv] at hx ht
  simp only at ht ⊢
  by_cases hT:t=C.ty s
  ·subst hT
   simp only[if_true] at ht ⊢
   cases hf:focus (C.ty s) .no y (qbb f) with
   | none=>rw[hf] at ht;exact absurd ht Tot.fail
   | some d=>
    obtain ⟨ta,tb,hTT⟩:∃ ta tb,C.ty s=.pair ta tb:=by
     cases hs:C.ty s with
     | pair ta tb=>exact ⟨ta,tb,rfl⟩
     | _=>exfalso;revert y;rw[hs];intro y _ _ _ hf;cases f<;>simp[qbb,focus] at hf
    obtain ⟨fs,h1,h2⟩:=hty.pair hTT
    rw[←hTT] at h2
    obtain ⟨fd,q1,q2,q3,q4,q5⟩:=qqd f h2 hf
    simp only[qf] at hx
    obtain ⟨c,rep,e⟩:=hx
    have hm:=(qqf _ hf).1
    obtain ⟨base',c',F2,Fr,z⟩:=zip (qbb f) _ _ _ _ Nil none d rep hf (qhd _ _ q5 (qis _ hf)) (fun b o e=>by simp at e)
    obtain ⟨_,e2,e3⟩:=z.plain q5
    have r2:=z.rep
    rw[hm] at r2
    have r3:=Rep.no_room (F':=Nil) d.ty rfl r2
    have k:=hty fd.type q4
    have q1':fs[f]? = some fd:=by simpa using q1
    have hagg:(C.ty s).agg=true:=by rw[hTT];rfl
    have hoff:fd.offset=qbf (C.ty s) (qbb f):=by omega
    have hrun:(part fd.type c.toArray fd.offset).run P w=.ok (mkV d.ty c') w:=by
     rw[e2]
     simp only[part,Sem.run_bind,k.run_agg,Result.andThen_ok]
     rw[←q2]
     by_cases ha:d.ty.agg=true
     ·have hsz:=k.run_size w
      rw[←q2] at hsz
      simp only[ha,if_true,Sem.run_bind,hsz,Result.andThen_ok,Sem.run_pure,mkV]
      congr 2
      apply Array.ext'
      simp only[Array.toList_extract,List.extract_eq_take_drop]
      rw[hoff]
      congr 2
      omega
     ·have ha':d.ty.agg=false:=by simpa using ha
      have hw:=q0u (by rw[q2];exact q4) ha'
      rw[hw] at e3 ⊢
      have hlt:qbf (C.ty s) (qbb f)<c.length:=by omega
      have:(c.drop (qbf (C.ty s) (qbb f))).take 1=[c[qbf (C.ty s) (qbb f)]]:=by
       rw[List.drop_eq_getElem_cons hlt];rfl
      simp[ha',hoff,mkV,this,List.getElem?_eq_getElem hlt]
    refine Res.ret (v:=.val d.ty d.x) (val:=mkV d.ty c') ?_ st (by simp only[qf];exact ⟨c',r3,rfl⟩)
    have:mkV (C.ty s) c=.agg c.toArray:=by simp[mkV,hagg]
    simp[execOp,ho,e,this,Instr.field,run_underlying h1,q1',asAgg,hrun,Sem.run_bind]
  ·rw[if_neg hT] at ht;exact absurd ht Tot.fail
 | _=>rw[hv] at ht;exact absurd ht Tot.fail
theorem qbi1 {o:Oper} {t:TypeId} {x i:Operand} (ho:o.op=.index t x i):Goal P C D S g w tmps a ρ A site hint o:=by
 intro ht
 simp only[opT,ho] at ht ⊢
 have hx:=hρ x
 have hi:=hρ i
 split at ht
 ·rename_i s k n hT hv hn
  rw[hv] at hx
  have ei:=qr0 hn hi
  have ex:=qvh hx
  obtain ⟨⟨v,rt'⟩,hd⟩:=ht true
  simp only[Tr.dec] at hd
  by_cases hc:0≤n∧n<(s.size:Int)
  ·have hlt:n.toNat<s.size:=by omega
   have e1:s[n.toNat]? = some (s.data.getD n.toNat 0):=by
    have:s[n.toNat]? = some s[n.toNat]:=by simp[hlt]
    rw[this]
    congr 1
    have h2:n.toNat<s.data.size:=hlt
    show s[n.toNat]=s.data.getD n.toNat 0
    rw[Array.getD_eq_getD_getElem?,Array.getElem?_eq_getElem h2];rfl
   refine Res.value (val:=.int .u8 ((s.data.getD n.toNat 0).toNat:Int)) (w':=w) ?_ ⟨true,_,S.rt,by simp[Tr.dec,hc.1,hc.2],Post.same st (qih _ _)⟩
   simp[execOp,ho,ei,ex,Instr.index,asIntOf,run_underlying (hty.str hT),hc.1,e1,Sem.run_bind]
  ·have:(decide (0≤n)&&decide (n<(s.size:Int)))=false:=by
    simp only[Bool.and_eq_false_iff,decide_eq_false_iff_not];omega
   rw[this] at hd;simp[Tr.dec] at hd
 ·exact absurd ht Tot.fail
theorem qbb7:∀ {i:Nat} {v y:AV} {val:Value},qt1 v i=some y→qf w.heap S g v val→∃ vs u,val=.tuple vs∧vs[i]? = some u∧qf w.heap S g y u:=by
 intro i
 induction i with
 | zero=>
  intro v y val h x
  unfold qt1 at h
  split at h
  ·simp only[Option.some.injEq] at h
   subst h
   simp only[qf,TupRel] at x
   obtain ⟨vs,rfl,u,vs',rfl,h1,h2⟩:=x
   exact ⟨_,u,rfl,by simp,h1⟩
  ·rename_i h0;simp at h0
  ·simp at h
 | succ i ih=>
  intro v y val h x
  unfold qt1 at h
  split at h
  ·rename_i h0;simp at h0
  ·rename_i a b n he
   simp only[Nat.succ.injEq] at he
   subst he
   simp only[qf,TupRel] at x
   obtain ⟨vs,rfl,u,vs',rfl,h1,h2⟩:=x
   obtain ⟨vs2,u2,e1,e2,e3⟩:=ih h (val:=.tuple vs'.toArray) (by simp only[qf];exact ⟨vs',rfl,h2⟩)
   simp only[Value.tuple.injEq] at e1
   subst e1
   exact ⟨_,u2,rfl,by simpa using e2,e3⟩
  ·simp at h
theorem qbgu {o:Oper} {x:Operand} {i:Nat} (ho:o.op=.extract x i):Goal P C D S g w tmps a ρ A site hint o:=by
 intro ht
 simp only[opT,ho] at ht ⊢
 obtain ⟨y,hy⟩:=Tot.of ht
 rw[hy]
 simp only[Option.map_eq_some_iff] at hy
 obtain ⟨v,hv,rfl⟩:=hy
 obtain ⟨vs,u,e1,e2,e3⟩:=qbb7 hty st hρ hv (hρ x)
 exact Res.ret (val:=u) (by simp[execOp,ho,e1,Instr.extract,e2]) st e3
theorem qbe1 {o:Oper} {f:Fn} {first caps:Array Operand} (ho:o.op=.makeFunc f first caps):Goal P C D S g w tmps a ρ A site hint o:=by
 intro ht
 simp only[opT,ho] at ht ⊢
 cases f with
 | func f=>
  simp only at ht ⊢
  by_cases he:first.isEmpty=true
  ·simp only[he,if_true] at ht ⊢
   have e0:first = #[]:=by simpa using he
   refine Res.ret (val:=.func (.func f) #[] (caps.map a.eval)) (by simp only[execOp,ho,Instr.makeFunc,e0,Array.map_empty,Sem.run_bind,Sem.run_pure,Result.andThen_ok]) st ?_
   simp only[qf]
   refine ⟨(caps.map a.eval).toList,by rw[Array.toArray_toList],?_⟩
   rw[Array.toList_map]
   generalize caps.toList=l
   induction l with
   | nil=>simp only[List.foldr_nil,List.map_nil,TupRel]
   | cons x l ih=>
    simp only[List.foldr_cons,List.map_cons,TupRel]
    exact ⟨_,_,rfl,hρ x,ih⟩
  ·rw[if_neg he] at ht;exact absurd ht Tot.fail
 | _=>exact absurd ht Tot.fail
end
end Go.V

namespace Go.V
noncomputable section
open Go
section
variable {P:Program} {C:Ctx} {D:Den C} {S:St} {g:Ghost} {w:World} {tmps:Array Value} {a:Act} {ρ:Operand→AV}
variable {A:Asks} {site:Nat} {hint:Bool} (hty:qcg P C) (st:StRel w.heap S g tmps Nil) (hρ:∀ x,qf w.heap S g (ρ x) (a.eval x))
include hty in
theorem qbif:∀ (n d:Nat) (t:TypeId) (T:Ty),C.ty t=T→T.deep≤n→n<d→T.comp=true→T.nz=true→
  ∀ {h:Array Obj} {Pr:BS} {x y:T.den} {cx cy:List Value} {F F':BS},Rep h Pr T .no x cx F→Rep h Pr T .no y cy F'→
  (Op.equalIn d t (mkV T cx) (mkV T cy)).run P w=.ok (qo6 T x y) w
 | 0,d,t,T,hT,hn,_,_,_,_,_,_,_,_,_,_,_,_,_=>by cases T<;>simp[Ty.deep] at hn
 | n+1,d,t,T,hT,hn,hd,hc,hz,h,Pr,x,y,cx,cy,F,F',rx,ry=>by
  obtain ⟨d,rfl⟩:∃ d',d=d'+1:=⟨d - 1,by omega⟩
  cases T with
  | unit=>simp[Ty.nz] at hz
  | sl _=>simp[Ty.comp] at hc
  | int k=>
   simp only[Rep] at rx ry
   subst rx;subst ry
   exact run_equalIn_int w d t k k x y (hty.int hT)
  | bool=>
   simp only[Rep] at rx ry
   subst rx;subst ry
   exact run_equalIn_bool' w d t x y (hty.bool hT)
  | str=>
   simp only[Rep] at rx ry
   subst rx;subst ry
   exact run_equalIn_string w d t x y (hty.str hT)
  | pair ta tb=>
   obtain ⟨fs,h1,h2⟩:=hty.pair hT
   have k:=hty t (by rw[hT];rfl)
   obtain ⟨hp,_⟩:=k.eq (by rw[hT];rfl) (by rw[hT];exact hc)
   have hfs:P.fieldsOf t=fs:=by simp[Program.fieldsOf,h1]
   have e1:mkV (Ty.pair ta tb) cx=.agg cx.toArray:=rfl
   have e2:mkV (Ty.pair ta tb) cy=.agg cy.toArray:=rfl
   rw[e1,e2,run_equalIn_struct w d t _ _ (by rw[hfs];exact h1) hp,hfs]
   -- the fields,one behind the other
   have key:∀ (l:List Field) (off:Nat) (U:Ty),qc0 C l off U→U.comp=true→U.deep≤n+1→∀ (px py:List Value) {x y:U.den} {cx cy:List Value} {F F':BS},px.length=off→py.length=off→
     Rep h Pr U .no x cx F→Rep h Pr U .no y cy F'→(Op.eqFields d (px++cx).toArray (py++cy).toArray l).run P w=.ok (qo6 U x y) w:=by
    intro l
    induction l with
    | nil=>
     intro off U hs hc hdp px py x y cx cy F F' hpx hpy rx ry
     simp only[qc0] at hs
     subst hs
     simp[Op.eqFields,qo6]
    | cons fd l ih=>
     intro off U hs hc hdp px py x y cx cy F F' hpx hpy rx ry
     simp only[qc0] at hs
     obtain ⟨b,rfl,q1,q2,q3,q4⟩:=hs
     simp only[Ty.comp,Bool.and_eq_true] at hc
     simp only[Ty.deep] at hdp
     simp only[Rep] at rx ry
     obtain ⟨ca,cb,Fa,Fb,rfl,ra,rb,_⟩:=rx
     obtain ⟨ca',cb',Fa',Fb',rfl,ra',rb',_⟩:=ry
     have kf:=hty fd.type q3
     have hwa:=Rep.width _ ra
     have hwa':=Rep.width _ ra'
     have hpart:∀ (px ca cb:List Value),px.length=off→ca.length=(C.ty fd.type).width→(part fd.type (px++(ca++cb)).toArray fd.offset).run P w=.ok (mkV (C.ty fd.type) ca) w:=by
      intro px ca cb hpx hca
      simp only[part,Sem.run_bind,kf.run_agg,Result.andThen_ok]
      by_cases ha:(C.ty fd.type).agg=true
      ·simp only[ha,if_true,Sem.run_bind,kf.run_size,Result.andThen_ok,Sem.run_pure,mkV]
       congr 2
       apply Array.ext'
       simp only[Array.toList_extract,List.extract_eq_take_drop]
       rw[q1,←hpx,List.drop_left,←hca]
       have:px.length+ca.length - px.length=ca.length:=by omega
       rw[this,List.take_left]
      ·have ha':(C.ty fd.type).agg=false:=by simpa using ha
       have hw:=q0u q3 ha'
       rw[hw] at hca
       match ca,hca with
       | [v],_=>
        simp[ha',mkV,q1,←hpx]
     have hne:fd.name≠ "_" := q2
     simp only[Op.eqFields,hne,ne_eq,not_false_eq_true,if_true,Sem.run_bind,hpart px ca cb hpx hwa,hpart py ca' cb' hpy hwa',Result.andThen_ok]
     have ih0:=qbif n d fd.type _ rfl (by omega) (by omega) hc.1 q3 ra ra'
     rw[ih0]
     simp only[Result.andThen_ok,qo6]
     cases hq:qo6 (C.ty fd.type) x.1 y.1 with
     | false=>simp
     | true=>
      simp only[Bool.not_true,Bool.false_eq_true,if_false,Bool.true_and]
      have:=ih (off+(C.ty fd.type).width) b q4 hc.2 (by omega) (px++ca) (py++ca') (by simp[hpx,hwa]) (by simp[hpy,hwa']) rb rb'
      simpa [List.append_assoc] using this
   have:=key fs.toList 0 _ h2 hc hn [] [] rfl rfl rx ry
   simpa using this
def qbbp (S:Rts):Tr AV→Tr (AV×Rts)
 | .ret v=>.ret (v,S)
 | .br c (.ret v) .fail=>.br c (.ret (v,S)) .fail
 | .br c .fail (.ret v)=>.br c .fail (.ret (v,S))
 | _=>.fail
theorem qbab {S:Rts} {T:Tr AV} {β:Bool} {v:AV} {rt:Rts} (h:(qbbp S T).dec β=some (v,rt)):T.dec β=some v∧rt=S:=by
 unfold qbbp at h
 split at h
 ·simp only[Tr.dec,Option.some.injEq,Prod.mk.injEq] at h;simp[Tr.dec,h.1,h.2]
 ·rename_i c v'
  cases c<;>simp only[Tr.dec,Option.some.injEq,Prod.mk.injEq] at h
  ·simp at h
  ·simp[Tr.dec,h.1,h.2]
 ·rename_i c v'
  cases c<;>simp only[Tr.dec,Option.some.injEq,Prod.mk.injEq] at h
  ·simp[Tr.dec,h.1,h.2]
  ·simp at h
 ·simp[Tr.dec] at h
theorem qtq {op:BinOp} {t:TypeId} {x y:Operand} {va vb:Value} (h:(∃ xs ys,va=.agg xs∧vb=.agg ys∧P.eqGuardType P.depth t=false)∨(va≠.nilIface∧∀ xs,va≠.agg xs)) :
  (eqGuard op t x y va vb).run P w=.ok () w:=by
 unfold eqGuard
 rcases h with ⟨xs,ys,rfl,rfl,h⟩ | ⟨h1,h2⟩
 ·cases op<;>simp[Sem.run_bind,h]
 ·cases op<;>cases va<;>simp_all [Sem.run_bind]<;>cases vb<;>simp[Sem.run_bind]
include hty in
theorem qbks {op:BinOp} {t:TypeId} {x y:Operand} {v1 v2:AV} {va vb:Value} {v:AV} (h:(binT (C.ty t) op v1 v2).dec true=some v)
    (ha:qf w.heap S g v1 va) (hb:qf w.heap S g v2 vb) :
    ∃ val,(do eqGuard op t x y va vb;binOp op t va vb:Sem Value).run P w=.ok val w∧qf w.heap S g v val:=by
  cases v1 with
  | val t1 x1=>
    cases v2 with
    | val t2 x2=>
      cases t1 with
      | int ka=>
        cases t2 with
        | int kb=>
          obtain rfl:=qol ha
          obtain rfl:=qol hb
          have hg:(eqGuard op t x y (.int ka x1) (.int kb x2)).run P w=.ok () w:=qtq (.inr ⟨by simp,by simp⟩)
          simp only[Sem.run_bind,hg,Result.andThen_ok]
          cases op<;>simp only[binT] at h
          case shl=>
            by_cases hc:x2<0
            · simp[hc,Tr.dec] at h
            · simp[hc,Tr.dec] at h
              subst h
              exact ⟨_,by simp[binOp,Op.shift,hc],qih _ _⟩
          case shr=>
            by_cases hc:x2<0
            · simp[hc,Tr.dec] at h
            · simp[hc,Tr.dec] at h
              subst h
              exact ⟨_,by simp[binOp,Op.shift,hc],qih _ _⟩
          case andNot=>simp[Tr.dec] at h
          all_goals
            by_cases hk:ka=kb
            · subst hk
              simp only[if_true] at h
              first
              | (simp only[Tr.dec,Option.some.injEq] at h;subst h
                 first
                 | exact ⟨_,by simp[binOp,Op.intArith,Op.intBits,Op.intCmp],qih _ _⟩
                 | exact ⟨_,by simp[binOp,Op.intArith,Op.intBits,Op.intCmp];rfl,qnz _⟩
                 | exact ⟨_,by simp[binOp,Op.intArith,Op.intBits,Op.intCmp],qnz _⟩)
              | (by_cases hc:x2=0
                 · simp[hc,Tr.dec] at h
                 · simp[hc,Tr.dec] at h
                   subst h
                   exact ⟨_,by simp[binOp,Op.intDiv,hc],qih _ _⟩)
            · simp[hk,Tr.dec] at h
        | _=>simp[binT,Tr.dec] at h
      | str=>
        cases t2 with
        | str=>
          obtain rfl:=qvh ha
          obtain rfl:=qvh hb
          have hg:(eqGuard op t x y (.string x1) (.string x2)).run P w=.ok () w:=qtq (.inr ⟨by simp,by simp⟩)
          simp only[Sem.run_bind,hg,Result.andThen_ok]
          cases op<;>simp only[binT] at h
          case add=>
            by_cases hc:x1.size+x2.size≤2 ^ 47
            · simp only[hc,decide_true,Tr.dec,Option.some.injEq] at h
              subst h
              refine ⟨_,?_,q2m _⟩
              have:¬ (((x1.size+x2.size:Nat):Int)>IntKind.i64.max):=by
                have:IntKind.i64.max=9223372036854775807:=by decide
                rw[this];omega
              simp only[binOp,Op.stringOp,this,if_false]
              rfl
            · simp only[hc,decide_false,Tr.dec] at h
              simp at h
          all_goals first
            | (simp only[Tr.dec,Option.some.injEq] at h;subst h;exact ⟨_,by simp[binOp,Op.stringOp],qnz _⟩)
            | simp[Tr.dec] at h
        | _=>simp[binT,Tr.dec] at h
      | bool=>
        cases t2 with
        | bool=>
          obtain rfl:=q0q ha
          obtain rfl:=q0q hb
          have hg:(eqGuard op t x y (.bool x1) (.bool x2)).run P w=.ok () w:=qtq (.inr ⟨by simp,by simp⟩)
          simp only[Sem.run_bind,hg,Result.andThen_ok]
          simp only[binT] at h
          by_cases hT:C.ty t=.bool
          · simp only[hT,if_true] at h
            have hu:=hty.bool hT
            cases op<;>first
              | (simp only[Tr.dec,Option.some.injEq] at h;subst h;exact ⟨_,by simp[binOp,Op.equal,Op.maxDepth,run_equalIn_bool' w 9999 t x1 x2 hu,Sem.run_bind],qnz _⟩)
              | simp[Tr.dec] at h
          · simp[hT,Tr.dec] at h
        | _=>simp[binT,Tr.dec] at h
      | pair ta tb=>
        have h':(qbgm (C.ty t) op (.pair ta tb) x1 t2 x2).dec true=some v:=by
          cases t2<;>simpa only [binT] using h
        unfold qbgm at h'
        by_cases hT:(Ty.pair ta tb).comp=true∧C.ty t=Ty.pair ta tb
        · rw[if_pos hT] at h'
          have kk:=hty t (by rw[hT.2];rfl)
          obtain ⟨hp,hq⟩:=kk.eq (by rw[hT.2];rfl) (by rw[hT.2];exact hT.1)
          cases hc:qbs t2 (Ty.pair ta tb) x2 with
          | none=>rw[hc] at h';cases op<;>simp[Tr.dec] at h'
          | some z=>
            rw[hc] at h'
            simp only[qf] at ha hb
            obtain ⟨c1,r1,rfl⟩:=ha
            obtain ⟨c2,r2,rfl⟩:=hb
            obtain ⟨rfl,r2'⟩:=Rep.cast hc r2
            have hdeep:(Ty.pair ta tb).deep<10000:=by rw[←hT.2];exact kk.deep
            · have he:=qbif (w:=w) hty _ 10000 t _ hT.2 (Nat.le_refl _) hdeep hT.1 rfl r1 r2'
              have e1:mkV (Ty.pair ta tb) c1=.agg c1.toArray:=rfl
              have e2:mkV (Ty.pair ta tb) c2=.agg c2.toArray:=rfl
              rw[e1,e2] at he ⊢
              have hg:(eqGuard op t x y (.agg c1.toArray) (.agg c2.toArray)).run P w=.ok () w:=qtq (.inl ⟨_,_,rfl,rfl,hq⟩)
              simp only[Sem.run_bind,hg,Result.andThen_ok]
              cases op<;>first
                | (simp only[Tr.dec,Option.some.injEq] at h';subst h';exact ⟨_,by simp only[binOp,Op.equal,Op.maxDepth,Sem.run_bind,he,Result.andThen_ok,Sem.run_pure],qnz _⟩)
                | simp[Tr.dec] at h'
        · rw[if_neg hT] at h';simp[Tr.dec] at h'
      | _=>simp[binT,Tr.dec] at h
    | _=>cases t1<;>simp[binT,Tr.dec] at h
  | _=>simp[binT,Tr.dec] at h
end
end
end Go.V

namespace Go.V
open Go
section
variable {P:Program} {C:Ctx} {D:Den C} {S:St} {g:Ghost} {w:World} {tmps:Array Value} {a:Act} {ρ:Operand→AV}
variable {A:Asks} {site:Nat} {hint:Bool} (hty:qcg P C) (st:StRel w.heap S g tmps Nil) (hρ:∀ x,qf w.heap S g (ρ x) (a.eval x))
include hty st hρ
theorem qbj2 {o:Oper} {op:BinOp} {t t2:TypeId} {x y:Operand} (ho:o.op=.binOp op t x y t2):Goal P C D S g w tmps a ρ A site hint o:=by
 intro ht
 have hx:=hρ x
 have hy:=hρ y
 have hgen:ρ y≠.nils→opT C D A ρ S.rt site hint o=qbbp S.rt (binT (C.ty t) op (ρ x) (ρ y)):=by
  intro hn
  simp only[opT,ho]
  cases hv:ρ y with
  | nils=>exact absurd hv hn
  | _=>rfl
 by_cases hn:ρ y=.nils
 ·simp only[opT,ho,hn] at ht ⊢
  rw[hn] at hy
  simp only[qf] at hy
  have hrun:∀ (u:TypeId) (ad:Option Addr) (len cap:Nat),P.underlying t=some (.slice u)→a.eval x=.slice ad len cap→
    (Op.equal t (.slice ad len cap) (.slice none 0 0)).run P w=.ok ad.isNone w:=by
   intro u ad len cap h1 h2
   have e0:Op.equal t (.slice ad len cap) (.slice none 0 0)=Op.equalIn (9999+1) t (.slice ad len cap) (.slice none 0 0):=rfl
   rw[e0]
   unfold Op.equalIn
   cases ad<;>simp only[Sem.run_bind,run_underlying h1,Result.andThen_ok,Sem.run_pure,Option.isNone_none,Option.isNone_some]
  have hg:∀ ad len cap,(eqGuard op t x y (.slice ad len cap) (.slice none 0 0)).run P w=.ok () w:=fun ad len cap=>qtq (.inr ⟨by simp,by simp⟩)
  split at ht
  ·rename_i e n hT hl
   obtain ⟨ad,len,cap,ev,en,hs⟩:=q4q st hl hx
   obtain ⟨u,h1,_,_⟩:=hty.desc hT
   subst en
   refine Res.value (val:=.bool ad.isNone) (w':=w) ?_ ⟨ad.isNone,.val .bool ad.isNone,S.rt,?_,Post.same st (qnz _)⟩
   ·have:=hg ad len cap
    simp[execOp,ho,ev,hy,this,binOp,hrun u ad len cap h1 ev,Sem.run_bind]
   ·simp only[Tr.dec,Int.toNat_natCast]
    by_cases h0:len=0
    ·simp[h0]
    ·have:=hs h0
     have h3:ad.isNone=false:=by simpa using this
     simp[h0,h3]
  ·rename_i e n hT hl
   obtain ⟨ad,len,cap,ev,en,hs⟩:=q4q st hl hx
   obtain ⟨u,h1,_,_⟩:=hty.desc hT
   subst en
   refine Res.value (val:=.bool (!ad.isNone)) (w':=w) ?_ ⟨!ad.isNone,.val .bool (!ad.isNone),S.rt,?_,Post.same st (qnz _)⟩
   ·have:=hg ad len cap
    simp[execOp,ho,ev,hy,this,binOp,hrun u ad len cap h1 ev,Sem.run_bind]
   ·simp only[Tr.dec,Int.toNat_natCast]
    by_cases h0:len=0
    ·simp[h0]
    ·have:=hs h0
     have h3:ad.isNone=false:=by simpa using this
     simp[h0,h3]
  ·exact absurd ht Tot.fail
 ·rw[hgen hn] at ht ⊢
  obtain ⟨⟨v,rt'⟩,hd⟩:=ht true
  obtain ⟨h1,rfl⟩:=qbab hd
  obtain ⟨val,h2,h3⟩:=qbks hty (x:=x) (y:=y) h1 hx hy
  refine Res.value (val:=val) (w':=w) ?_ ⟨true,v,S.rt,hd,Post.same st h3⟩
  have:execOp a.eval o=(do pure (.value (← (do eqGuard op t x y (a.eval x) (a.eval y);binOp op t (a.eval x) (a.eval y))))):=by
   simp[execOp,ho]
  rw[this]
  rw[Sem.run_bind,h2]
  rfl
theorem q76:∀ (ns:List Int) (s:ByteArray),ns.foldl (fun r n=>r.push (UInt8.ofNat n.toNat)) s=⟨s.data++(ns.map fun n=>UInt8.ofNat n.toNat).toArray⟩
 | [],s=>by simp
 | n::ns,s=>by
  simp only[List.foldl_cons]
  rw[q76 ns]
  simp[ByteArray.push]
theorem qbg7 {o:Oper} {src dst:TypeId} {x:Operand} (ho:o.op=.convert src dst x):Goal P C D S g w tmps a ρ A site hint o:=by
 intro ht
 simp only[opT,ho] at ht ⊢
 have hx:=hρ x
 split at ht
 ·rename_i k1 kd k2 n h1 h2 hv
  rw[hv] at hx
  exact Res.ret (val:=.int kd (kd.wrap n)) (by simp[execOp,ho,convert,run_underlying (hty.int h1),run_underlying (hty.int h2),qol hx,Conv.intToInt,Sem.run_bind]) st (qih _ _)
 ·rename_i s h1 h2 hv
  rw[hv] at hx
  exact Res.ret (val:=.string s) (by simp[execOp,ho,convert,run_underlying (hty.str h1),run_underlying (hty.str h2),qvh hx,Sem.run_bind]) st (q2m _)
 ·rename_i _ h1 h2
  cases hr:rd S.rt (.sl (.int .u8)) (ρ x) with
  | none=>rw[hr] at ht;exact absurd ht Tot.fail
  | some xs=>
   obtain ⟨c,ev,rep⟩:=qbgx st _ hr hx
   simp only[Rep] at rep
   obtain ⟨ad,cap,rfl,hl,re⟩:=rep
   have ev':a.eval x=.slice ad xs.length cap:=by rw[ev];rfl
   obtain ⟨u,q1,q2,_⟩:=hty.desc h1
   have hu:=hty.int q2
   simp only
   refine Res.ret (val:=.string ⟨(xs.map fun n=>UInt8.ofNat n.toNat).toArray⟩) ?_ st (q2m _)
   have hconv:(Conv.bytesToString (.slice ad xs.length cap)).run P w=.ok (.string ⟨(xs.map fun n=>UInt8.ofNat n.toNat).toArray⟩) w:=by
    by_cases hne:xs=[]
    ·subst hne
     cases ad with
     | none=>simp[Conv.bytesToString];rfl
     | some ad=>
      have:=run_bytesToString (P:=P) w ad 0 cap [] (by simp[loadCells,loadCellsFrom])
      simpa [q76 hty st hρ] using this
    ·obtain ⟨b,off,cs,rfl,hp,hb,hs,re⟩:=re hne
     have hcells:sub cs off xs.length=xs.map (Value.int .u8):=by
      apply List.ext_getElem?
      intro i
      by_cases hi:i<xs.length
      ·have:=re i hi
       have hwd:(Ty.int .u8).width=1:=rfl
       simp only[hwd,Nat.mul_one] at this hs
       have e1:(sub cs (off+i) 1)[0]? = some (Value.int .u8 xs[i]):=by
        rw[this]
        have:xs.getD i (Ty.zero (.int .u8))=xs[i]:=by simp[List.getD,hi]
        rw[this];rfl
       simp only[sub,List.getElem?_take,List.getElem?_drop] at e1 ⊢
       simp only[hi,if_true,List.getElem?_map,List.getElem?_eq_getElem hi,Option.map_some]
       simpa using e1
      ·rw[List.getElem?_eq_none (by simp[sub];omega),List.getElem?_eq_none (by simp;omega)]
     have hwd:(Ty.int .u8).width=1:=rfl
     simp only[hwd,Nat.mul_one] at hs
     have hrange:=qie (w:=w) hb hs
     have hl2:=run_loadCells_list (P:=P) w ⟨b,off,none⟩ (sub cs off xs.length) (fun j v hv=>by rw[Addr.add_mid];exact hrange j v hv)
     rw[qz4 hs,hcells] at hl2
     have:=run_bytesToString (P:=P) w ⟨b,off,none⟩ xs.length cap xs hl2
     rw[this,q76 hty st hρ]
     simp
   have:=run_convert_bytes_string (P:=P) w src dst u ad xs.length cap q1 hu (hty.str h2)
   simp[execOp,ho,ev',this,hconv,Sem.run_bind]
 ·exact absurd ht Tot.fail
end
end Go.V

namespace Go.V
open Go
section
variable {P:Program} {C:Ctx} {D:Den C} {S:St} {g:Ghost} {w:World} {tmps:Array Value} {a:Act} {ρ:Operand→AV}
variable {A:Asks} {site:Nat} {hint:Bool} (hty:qcg P C) (st:StRel w.heap S g tmps Nil) (hρ:∀ x,qf w.heap S g (ρ x) (a.eval x))
theorem q9p {v:Value} {k:IntKind} {n:Int} {y:Nat} {code:BoundsCode} (hv:v=.int k n) (h0:0≤n) (h1:n≤(y:Int)) :
  (Instr.sliceBound v y code).run P w=.ok n.toNat w:=by
 subst hv
 simp[Instr.sliceBound,asIntOf,h0,h1,Sem.run_bind]
include hρ in
theorem qxs {lo hi:Option Operand} {len cap:Nat} {l h:Int} {isS:Bool} (hl:qvn (lo.map ρ)=some l) (hh:qs0 (len:Int) (hi.map ρ)=some h) (h0:0≤l) (h1:l≤h) (h2:h≤(len:Int)) (h3:len≤cap) :
  (Instr.sliceBounds isS len cap (lo.map a.eval) (hi.map a.eval) none).run P w=.ok (l.toNat,h.toNat,cap) w:=by
 have ehi:∀ (code:BoundsCode),hi=none∧h=(len:Int)∨∃ v,hi=some v∧(Instr.sliceBound (a.eval v) cap code).run P w=.ok h.toNat w:=by
  intro code
  cases hi with
  | none=>simp only[Option.map_none,qs0,Option.some.injEq] at hh;exact .inl ⟨rfl,hh.symm⟩
  | some v=>
   simp only[Option.map_some,qs0,Option.map_eq_some_iff] at hh
   obtain ⟨⟨k,n⟩,hn,e⟩:=hh
   simp only at e
   subst e
   exact .inr ⟨v,rfl,q9p (qr0 hn (hρ v)) (by omega) (by omega)⟩
 have elo:lo=none∧l=0∨∃ v,lo=some v∧(Instr.sliceBound (a.eval v) h.toNat .sliceB).run P w=.ok l.toNat w:=by
  cases lo with
  | none=>simp only[Option.map_none,qvn,Option.some.injEq] at hl;exact .inl ⟨rfl,hl.symm⟩
  | some v=>
   simp only[Option.map_some,qvn,Option.map_eq_some_iff] at hl
   obtain ⟨⟨k,n⟩,hn,e⟩:=hl
   simp only at e
   subst e
   exact .inr ⟨v,rfl,q9p (qr0 hn (hρ v)) h0 (by omega)⟩
 unfold Instr.sliceBounds
 rcases ehi (if isS then .sliceAcap else .sliceAlen) with ⟨rfl,rfl⟩ | ⟨vh,rfl,eh⟩<;>rcases elo with ⟨rfl,rfl⟩ | ⟨vl,rfl,el⟩
 ·simp[Sem.run_bind]
 ·simp only[Int.toNat_natCast] at el
  simp[Sem.run_bind,el]
 ·simp[Sem.run_bind,eh]
 ·simp[Sem.run_bind,eh,el]
include hty st hρ
theorem qbi5 {o:Oper} {t:TypeId} {x lop:Operand} {hi:Option Operand} (ho:o.op=.slice t x (some lop) hi none) {r:Nat} {p:Path} {s:Nat} {e:Ty} (hv:ρ x=.brw r p s) (hT:C.ty t=.sl e)
  (ht:Tot (q2p S.rt e r p s (ρ lop) (hi.map ρ))):Res P S g w tmps (q2p S.rt e r p s (ρ lop) (hi.map ρ)) ((execOp a.eval o).run P w):=by
 have hx:=hρ x
 rw[hv] at hx
 unfold q2p at ht ⊢
 cases hl:qo8 (ρ lop) with
 | none=>rw[hl] at ht;exact absurd ht Tot.fail
 | some kl=>
  cases hhi:hi.map ρ with
  | some _=>rw[hl,hhi] at ht;exact absurd ht Tot.fail
  | none=>
   rw[hl,hhi] at ht
   simp only at ht ⊢
   cases hf:S.rt.focus r p with
   | none=>rw[hf] at ht;exact absurd ht Tot.fail
   | some d=>
    obtain ⟨dt,dm,dx⟩:=d
    cases dt with
    | sl e'=>
     cases dm with
     | own s' m=>
      rw[hf] at ht
      simp only at ht ⊢
      by_cases hs:s=s'∧e=e'
      ·simp only[if_pos hs] at ht ⊢
       obtain ⟨rfl,rfl⟩:=hs
       obtain ⟨⟨v,rt'⟩,hd⟩:=ht true
       simp only[Tr.dec] at hd
       by_cases hc:0≤kl.2∧kl.2≤((dx:List e.den).length:Int)
       ·obtain ⟨u,h1,h2,h3⟩:=hty.desc hT
        simp only[qf] at hx
        obtain ⟨R,base,F,hR,hfR,hin,hat,rep,hF⟩:=qvw st hf rfl hx
        simp only[Rep] at rep
        obtain ⟨ad,cap,e0,hlc,hr⟩:=rep
        simp only[List.cons.injEq,and_true] at e0
        have hb:=qxs (P:=P) (isS:=true) hρ (lo:=some lop) (hi:=hi) (l:=kl.2) (h:=((dx:List e.den).length:Int)) (len:=(dx:List e.den).length) (cap:=cap) (by simp[qvn,hl]) (by rw[hhi];rfl) hc.1 hc.2 (Int.le_refl _) hlc
        rw[Option.map_some,Int.toNat_natCast] at hb
        have ku:=hty u h3
        refine Res.value (val:=.slice (if cap=kl.2.toNat then ad else ad.map (·.add (kl.2.toNat * (C.ty u).width))) ((dx:List e.den).length - kl.2.toNat) (cap - kl.2.toNat)) (w':=w) ?_
         ⟨true,.view r p s kl.2.toNat (dx:List e.den).length,S.rt,by simp[Tr.dec,hc.1,hc.2],Post.same st ?_⟩
        ·simp[execOp,ho,e0,Instr.sliceAt,Instr.slice,run_underlying h1,Sem.run_bind,hb,ku.run_size]
        ·simp only[qf]
         intro R' hR' t2 m2 xs2 hf2
         rw[hR] at hR'
         simp only[Option.some.injEq] at hR'
         subst hR'
         rw[hfR] at hf2
         simp only[Option.some.injEq,Dy.mk.injEq,Ty.sl.injEq] at hf2
         obtain ⟨rfl,_⟩:=hf2
         refine ⟨hin,base,ad,(dx:List e.den).length,cap,by rw[hat,e0],by omega,Nat.le_refl _,by rw[h2]⟩
       ·have:(decide (0≤kl.2)&&decide (kl.2≤((dx:List e.den).length:Int)))=false:=by
         simp only[Bool.and_eq_false_iff,decide_eq_false_iff_not];omega
        rw[this] at hd;simp[Tr.dec] at hd
      ·rw[if_neg hs] at ht;exact absurd ht Tot.fail
     | _=>rw[hf] at ht;exact absurd ht Tot.fail
    | _=>rw[hf] at ht;exact absurd ht Tot.fail
theorem qbiy {o:Oper} {t:TypeId} {x:Operand} {lo hi:Option Operand} (ho:o.op=.slice t x lo hi none) (ok:AOk A S o.dst site):Goal P C D S g w tmps a ρ A site hint o:=by
 intro ht
 simp only[opT,ho] at ht ⊢
 have hx:=hρ x
 unfold qyy at ht ⊢
 split at ht
 · -- a string
  rename_i s hv hT
  rw[hv] at hx
  have ex:=qvh hx
  split at ht
  ·rename_i l h hl hh
   obtain ⟨⟨v,rt'⟩,hd⟩:=ht true
   by_cases hc:0≤l∧l≤h∧h≤(s.size:Int)
   ·have hb:=qxs (P:=P) (isS:=false) hρ (cap:=s.size) hl hh hc.1 hc.2.1 hc.2.2 (Nat.le_refl _)
    refine Res.value (val:=.string (s.extract l.toNat h.toNat)) (w':=w) ?_ ⟨true,.val .str (s.extract l.toNat h.toNat),S.rt,?_,Post.same st (q2m _)⟩
    ·simp[execOp,ho,ex,Instr.sliceAt,Instr.slice,run_underlying (hty.str hT),Sem.run_bind,hb]
    ·simp[Tr.dec,hc.1,hc.2.1,hc.2.2]
   ·have:(decide (0≤l)&&decide (l≤h)&&decide (h≤(s.size:Int)))=false:=by
     simp only[Bool.and_eq_false_iff,decide_eq_false_iff_not];omega
    rw[this] at hd;simp[Tr.dec] at hd
  ·exact absurd ht Tot.fail
 · -- a shared row
  rename_i e xs e' hv hT
  rw[hv] at hx
  split at ht
  ·rename_i l h hl hh
   by_cases hee:e=e'
   ·subst hee
    simp only[if_true] at ht ⊢
    obtain ⟨⟨v,rt'⟩,hd⟩:=ht true
    by_cases hc:0≤l∧l≤h∧h≤(xs.length:Int)
    ·obtain ⟨u,h1,h2,h3⟩:=hty.desc hT
     simp only[qf,Rep] at hx
     obtain ⟨c,⟨ad,cap,rfl,hlc,re⟩,ev⟩:=hx
     have ev':a.eval x=.slice ad xs.length cap:=ev
     have hb:=qxs (P:=P) (isS:=true) hρ (cap:=cap) hl hh hc.1 hc.2.1 hc.2.2 hlc
     have ku:=hty u h3
     refine Res.value (val:=.slice (if cap=l.toNat then ad else ad.map (·.add (l.toNat * (C.ty u).width))) (h.toNat - l.toNat) (cap - l.toNat)) (w':=w) ?_
      ⟨true,.val (.sl e) ((xs.take h.toNat).drop l.toNat),S.rt,?_,Post.same st ?_⟩
     ·simp[execOp,ho,ev',Instr.sliceAt,Instr.slice,run_underlying h1,Sem.run_bind,hb,ku.run_size]
     ·simp[Tr.dec,hc.1,hc.2.1,hc.2.2]
     ·simp only[qf,Rep]
      have hlen:((xs.take h.toNat).drop l.toNat).length=h.toNat - l.toNat:=by
       rw[List.length_drop,List.length_take];omega
      refine ⟨_,⟨_,cap - l.toNat,rfl,by omega,?_⟩,by rw[hlen];rfl⟩
      intro hne
      have hpos:0<h.toNat - l.toNat:=by rw[←hlen];exact List.length_pos_iff.2 hne
      obtain ⟨b,off,cs,rfl,hp,hblk,hs,re⟩:=re (by rintro rfl;simp at hc;omega)
      have hcl:¬ cap=l.toNat:=by omega
      refine ⟨b,off+l.toNat * e.width,cs,by rw[if_neg hcl,h2];simp[Addr.add_mid],hp,hblk,?_,fun i hi=>?_⟩
      ·rw[hlen]
       have:l.toNat * e.width+(h.toNat - l.toNat) * e.width≤xs.length * e.width:=by
        rw[←Nat.add_mul];exact Nat.mul_le_mul_right _ (by omega)
       omega
      ·rw[hlen] at hi
       have:=re (l.toNat+i) (by omega)
       have e1:((xs.take h.toNat).drop l.toNat).getD i e.zero=xs.getD (l.toNat+i) e.zero:=by
        simp only[List.getD,List.getElem?_drop,List.getElem?_take]
        rw[if_pos (by omega)]
       rw[e1]
       have e2:off+l.toNat * e.width+i * e.width=off+(l.toNat+i) * e.width:=by rw[Nat.add_mul];omega
       rw[e2];exact this
    ·have:(decide (0≤l)&&decide (l≤h)&&decide (h≤(xs.length:Int)))=false:=by
      simp only[Bool.and_eq_false_iff,decide_eq_false_iff_not];omega
     rw[this] at hd;simp[Tr.dec] at hd
   ·rw[if_neg hee] at ht;exact absurd ht Tot.fail
  ·exact absurd ht Tot.fail
 · -- an own row,from its begin
  rename_i r p s e hv hT
  rw[hv] at hx
  cases hlo:lo.map ρ with
  | some v=>
   rw[hlo] at ht
   simp only at ht ⊢
   cases lo with
   | none=>simp at hlo
   | some lop=>
    simp only[Option.map_some,Option.some.injEq] at hlo
    subst hlo
    exact qbi5 hty st hρ ho hv hT ht
  | none=>
   rw[hlo] at ht
   simp only at ht ⊢
   cases htk:tk S.rt (.sl e) (.brw r p s) with
   | none=>rw[htk] at ht;exact absurd ht Tot.fail
   | some z=>
    obtain ⟨m,xs,rt1⟩:=z
    rw[htk] at ht
    cases m with
    | own s1 m=>
     simp only at ht ⊢
     cases hh:qs0 (xs.length:Int) (hi.map ρ) with
     | none=>rw[hh] at ht;exact absurd ht Tot.fail
     | some h=>
      rw[hh] at ht
      simp only at ht ⊢
      by_cases htf:m.tagFree=true
      ·simp only[htf,if_true] at ht ⊢
       obtain ⟨⟨v,rt'⟩,hd⟩:=ht true
       by_cases hc:0≤h∧h≤(xs.length:Int)
       ·have hd':(layT A rt1 o.dst site (.sl e) (.own 0 m) (xs.take h.toNat) false).dec true=some (v,rt'):=by
         simpa only [hc.1,hc.2,decide_true,Bool.and_true,Tr.dec] using hd
        obtain ⟨u,h1,h2,h3⟩:=hty.desc hT
        have ku:=hty u h3
        obtain ⟨c,g1,F,ev,tk1⟩:=qq2 _ st htk hx
        have rep:=tk1.rep
        simp only[Rep] at rep
        obtain ⟨ad,cap,rfl,hlc,re⟩:=rep
        have ev':a.eval x=.slice ad xs.length cap:=ev
        have hb:=qxs (P:=P) (lo:=none) (isS:=true) hρ (cap:=cap) (l:=0) rfl hh (by omega) hc.1 hc.2 hlc
        have hlon:lo=none:=by
         cases lo with
         | none=>rfl
         | some v=>simp at hlo
        subst hlon
        have hlen:(xs.take h.toNat).length=h.toNat:=by rw[List.length_take];omega
        have rep2:Rep w.heap g1.Pr (.sl e) (.own 0 m) (xs.take h.toNat) [.slice ad h.toNat cap] F:=by
         simp only[Rep]
         refine ⟨ad,cap,by rw[hlen],by rw[hlen];omega,?_⟩
         rcases re with re | ⟨b,cs,rfl,fb,hbk,hs,Fs,hFs,hdd,re⟩
         ·exact .inl re
         ·refine .inr ⟨b,cs,rfl,fb,hbk,hs,Fs,hFs,hdd,fun i hi=>?_⟩
          rw[hlen] at hi
          have:=re i (by omega)
          have e1:(xs.take h.toNat).getD i e.zero=xs.getD i e.zero:=by
           simp only[List.getD,List.getElem?_take];rw[if_pos hi]
          rw[e1];exact this
        obtain ⟨g2,s1',s2,s3⟩:=qod (st:=tk1.st) rep2 (TagC.tagFree _ (by simp[Mk.tagFree,htf,qfi])) (fun b hb=>.inr hb) ok hd'
        have ead:(if cap=0 then ad else ad.map (·.add (0 * (C.ty u).width)))=ad:=by
         split
         ·rfl
         ·cases ad<;>simp[Addr.add]
        refine Res.value (val:=.slice ad h.toNat cap) (w':=w) ?_ ⟨true,v,rt',hd,g2,s1',s2,tk1.same.trans s3,.refl _ _⟩
        simp only[Option.map_none] at hb
        simp[execOp,ho,ev',Instr.sliceAt,Instr.slice,run_underlying h1,Sem.run_bind,hb,ku.run_size]
        intro _;cases ad<;>simp[Addr.add]
       ·have:(decide (0≤h)&&decide (h≤(xs.length:Int)))=false:=by
         simp only[Bool.and_eq_false_iff,decide_eq_false_iff_not];omega
        rw[this] at hd;simp[Tr.dec] at hd
      ·rw[if_neg htf] at ht;exact absurd ht Tot.fail
    | _=>exact absurd ht Tot.fail
 ·exact absurd ht Tot.fail
end
end Go.V

namespace Go.V
open Go
theorem qvb {h:Array Obj} {S:St} {g:Ghost} {tmps:Array Value} {H:BS} (st:StRel h S g tmps H) {t:Ty} {m:Mk} {x:t.den} {c:List Value} {F:BS}
  (rep:Rep h g.Pr t m x c F) (hF:Sub F H) (hm:m.whole=true) :
  ∃ g',StRel h S g' tmps (fun b=>H b∧¬ F b)∧Rep h g'.Pr t .no x c Nil∧g'.Same g∧Sub g.Pr g'.Pr:=
 ⟨_,st.shareHand F hF,Rep.share t hm rep,⟨rfl,rfl,rfl⟩,fun b hb=>.inl hb⟩
theorem StRel.pushRow {h:Array Obj} {S:St} {g:Ghost} {tmps:Array Value} {H:BS} (st:StRel h S g tmps H) (cs:Array Value) (e:TypeId) :
  StRel (h.push (.cells cs e)) S g tmps (fun b=>H b∨b=h.size):=
 st.grow (fun b hb=>qkd b hb) (by simp) _ (fun b hb=>by rcases hb with hb | rfl;exact .inl hb;exact .inr ⟨Nat.le_refl _,by simp⟩)
theorem Rep.push {h:Array Obj} {S:St} {g:Ghost} {tmps:Array Value} {H:BS} (st:StRel h S g tmps H) {t:Ty} {m:Mk} {x:t.den} {c:List Value} {F:BS} (rep:Rep h g.Pr t m x c F) (hF:Sub F H)
  {o:Obj}:Rep (h.push o) g.Pr t m x c F:=
 Rep.mono (Sub.refl _) (fun b hb=>qkd b (st.limPr b hb)) t rep (Sub.refl _) (fun b hb=>qkd b (st.limH b (hF b hb)))
section
variable {P:Program} {C:Ctx} {D:Den C} {S:St} {g:Ghost} {w:World} {tmps:Array Value} {a:Act} {ρ:Operand→AV}
variable {A:Asks} {site:Nat} {hint:Bool} (hty:qcg P C) (st:StRel w.heap S g tmps Nil) (hρ:∀ x,qf w.heap S g (ρ x) (a.eval x))
include hty st hρ
theorem qbaj {o:Oper} {x:Operand} {u:AV} (hu:ρ x=u) (ok:AOk A S o.dst site) {r:Result Next} (hr:r=.ok (.value (a.eval x)) w)
  (ht:Tot (qwl A S.rt o.dst site hint u)):Res P S g w tmps (qwl A S.rt o.dst site hint u) r:=by
 have hx:=hρ x
 rw[hu] at hx
 unfold qwl at ht ⊢
 cases h1:q61 S.rt u with
 | none=>rw[h1] at ht;exact absurd ht Tot.fail
 | some t=>
  rw[h1] at ht
  simp only at ht ⊢
  cases h2:tk S.rt t u with
  | none=>rw[h2] at ht;exact absurd ht Tot.fail
  | some z=>
   obtain ⟨m,y,rt1⟩:=z
   rw[h2] at ht
   simp only at ht ⊢
   obtain ⟨c,g1,F,ev,tk1⟩:=qq2 _ st h2 hx
   by_cases hh:hint=true
   ·simp only[hh,if_true] at ht ⊢
    by_cases hm:m.whole=true
    ·simp only[hm,if_true] at ht ⊢
     obtain ⟨g2,s1,s2,s3,_⟩:=qvb tk1.st tk1.rep (fun b hb=>.inr hb) hm
     exact Res.value (val:=a.eval x) (w':=w) hr ⟨true,_,_,rfl,g2,s1.lessHand (Sub.nil _),by simp only[qf];exact ⟨c,s2,ev⟩,tk1.same.trans s3,.refl _ _⟩
    ·rw[if_neg hm] at ht;exact absurd ht Tot.fail
   ·rw[if_neg hh] at ht ⊢
    obtain ⟨⟨v,rt'⟩,hd⟩:=ht true
    obtain ⟨g2,s1,s2,s3⟩:=qod tk1.st tk1.rep (by rw[tk1.same.1];exact tk1.tag) (fun b hb=>.inr hb) ok hd
    exact Res.value (val:=a.eval x) (w':=w) hr ⟨true,v,rt',hd,g2,s1,by rw[ev];exact s2,tk1.same.trans s3,.refl _ _⟩
theorem qbhm {o:Oper} {x:Operand} (ho:o.op=.assign x) (ok:AOk A S o.dst site):Goal P C D S g w tmps a ρ A site hint o:=by
 intro ht
 simp only[opT,ho] at ht ⊢
 have hr:(execOp a.eval o).run P w=.ok (.value (a.eval x)) w:=by simp[execOp,ho]
 split at ht
 ·rename_i r p s hv
  by_cases hc:(qs p&&!hint)=true
  ·simp only[hc,if_true] at ht ⊢
   have:=hρ x
   rw[hv] at this
   exact Res.ret hr st this
  ·simp only[hc,Bool.false_eq_true,if_false] at ht ⊢
   exact qbaj hty st hρ hv ok hr ht
 ·rename_i u v hv
  exact qbaj hty st hρ hv ok hr ht
 ·exact Res.ret hr st (hρ x)
theorem qbjv {o:Oper} {t:TypeId} (ho:o.op=.alloc t) (ok:AOk A S o.dst site):Goal P C D S g w tmps a ρ A site hint o:=by
 intro ht
 simp only[opT,ho] at ht ⊢
 by_cases hz:(C.ty t).nz=true
 ·simp only[hz,if_true] at ht ⊢
  have k:=hty t hz
  obtain ⟨⟨v,rt'⟩,hd⟩:=ht true
  have hc:(mkV (C.ty t) (zc (C.ty t))).cells=(zc (C.ty t)).toArray:=by
   apply Array.ext';rw[q6s]
  have s0:=st.pushRow (zc (C.ty t)).toArray t
  obtain ⟨g2,s1,s2,s3⟩:=q2x (h:=w.heap.push (.cells (zc (C.ty t)).toArray t)) (c:=zc (C.ty t)) (F:=Nil) s0 (Rep.zero _ _) (TagC.tagFree _ (Mk.tagFree_top _)) (Sub.nil _)
   (b:=w.heap.size) (.inr rfl) (fun h=>h) qci.new ok hd
  refine Res.value (val:=.pointer (some ⟨w.heap.size,0,none⟩)) (w':={ w with heap:=w.heap.push (.cells (zc (C.ty t)).toArray t) }) ?_ ⟨true,v,rt',hd,g2,s1,s2,s3,WFr.push _⟩
  simp[execOp,ho,Instr.alloc,newVar,newRow,newObj,Sem.run_bind,k.run_zero,hc,Sem.run]
 ·rw[if_neg hz] at ht;exact absurd ht Tot.fail
theorem qbme {o:Oper} {t:TypeId} {x:Operand} (ho:o.op=.box t x) (ok:AOk A S o.dst site):Goal P C D S g w tmps a ρ A site hint o:=by
 intro ht
 simp only[opT,ho] at ht ⊢
 by_cases hz:(C.ty t).nz=true
 ·simp only[hz,if_true] at ht ⊢
  cases h2:tk S.rt (C.ty t) (ρ x) with
  | none=>rw[h2] at ht;exact absurd ht Tot.fail
  | some z=>
   obtain ⟨m,y,rt1⟩:=z
   rw[h2] at ht
   simp only at ht ⊢
   obtain ⟨c,g1,F,ev,tk1⟩:=qq2 _ st h2 (hρ x)
   have hc:(a.eval x).cells=c.toArray:=by
    apply Array.ext';rw[ev,qjv tk1.rep]
   have hrun:(execOp a.eval o).run P w=.ok (.value (.pointer (some ⟨w.heap.size,0,none⟩))) { w with heap:=w.heap.push (.cells c.toArray t) }:=by
    simp[execOp,ho,Instr.box,newVar,newRow,newObj,Sem.run_bind,hc,Sem.run]
   by_cases hh:hint=true
   ·simp only[hh,if_true] at ht ⊢
    by_cases hm:m.whole=true
    ·simp only[hm,if_true] at ht ⊢
     obtain ⟨⟨v,rt'⟩,hd⟩:=ht true
     obtain ⟨g2,s1,s2,s3,_⟩:=qvb tk1.st tk1.rep (fun b hb=>.inr hb) hm
     have s4:=(s1.lessHand (Sub.nil _)).pushRow c.toArray t
     have r4:Rep (w.heap.push (.cells c.toArray t)) g2.Pr (C.ty t) .no y c Nil:=Rep.push (s1.lessHand (Sub.nil _)) s2 (Sub.nil _)
     obtain ⟨g3,q1,q2,q3⟩:=q2x s4 r4 (TagC.no _ _) (Sub.nil _) (b:=w.heap.size) (.inr rfl) (fun h=>h) qci.new ok hd
     exact Res.value (w':={ w with heap:=w.heap.push (.cells c.toArray t) }) hrun ⟨true,v,rt',hd,g3,q1,q2,(tk1.same.trans s3).trans q3,WFr.push _⟩
    ·rw[if_neg hm] at ht;exact absurd ht Tot.fail
   ·rw[if_neg hh] at ht ⊢
    obtain ⟨⟨v,rt'⟩,hd⟩:=ht true
    have s4:=tk1.st.pushRow c.toArray t
    have r4:Rep (w.heap.push (.cells c.toArray t)) g1.Pr (C.ty t) m y c F:=Rep.push tk1.st tk1.rep (fun b hb=>.inr hb)
    obtain ⟨g3,q1,q2,q3⟩:=q2x s4 r4 (by rw[tk1.same.1];exact tk1.tag) (fun b hb=>.inl (.inr hb)) (b:=w.heap.size) (.inr rfl)
     (fun hb=>Nat.lt_irrefl _ (tk1.st.limH _ (.inr hb))) qci.new ok hd
    exact Res.value (w':={ w with heap:=w.heap.push (.cells c.toArray t) }) hrun ⟨true,v,rt',hd,g3,q1,q2,tk1.same.trans q3,WFr.push _⟩
 ·rw[if_neg hz] at ht;exact absurd ht Tot.fail
end
end Go.V

namespace Go.V
open Go
theorem q44 {h:Array Obj} {S:St} {g:Ghost} {tmps:Array Value} {H:BS} (st:StRel h S g tmps H) {r:Nat} {p:Path} {R:Root} {d:Dy} {v:Value} (hR:S.root r=some R)
  (hf:focus R.ty R.ms R.x p=some d) (x:qf h S g (.addr r p) v) :
  ∃ b off c,inR R.ty R.x p∧atP h R.ty (g.C r) (g.base r) p=some (some (b,off),c)∧v=.pointer (some ⟨b,off,none⟩):=by
 simp only[qf] at x
 exact ⟨_,_,_,(x R hR d hf).1,(x R hR d hf).2.choose_spec.choose_spec.choose_spec.1,(x R hR d hf).2.choose_spec.choose_spec.choose_spec.2⟩
theorem qv8 {h h':Array Obj} {S S':St} {g g1:Ghost} (Q:BS):∀ (a:AV),a.Keeps h h' S S' g g1→a.Keeps h h' S S' g { g1 with Pr:=Q }
 | .brw r p s,k=>k
 | .view r p s _ _,k=>k
 | .addr r p,k=>k
 | .pair a b,k=>⟨qv8 Q a k.1,qv8 Q b k.2⟩
 | .tup a,k=>qv8 Q a k
 | .clo _ a,k=>qv8 Q a k
 | .undef,_=>trivial
 | .skip,_=>trivial
 | .litB _,_=>trivial
 | .unit,_=>trivial
 | .nils,_=>trivial
 | .val _ _,_=>trivial
 | .raddr _ _,_=>trivial
 | .cloV _,_=>trivial
theorem qbmc {h:Array Obj} {tmps:Array Value} (t:Ty) {S:St} {rt':Rts} {g:Ghost} {H:BS} {hint:Bool} {a:AV} {m:Mk} {x:t.den} {v:Value} (st:StRel h S g tmps H)
  (ht:tkS S.rt hint t a=some (m,x,rt')) (y:qf h S g a v):∃ c g' F,v=mkV t c∧Took h S ⟨S.sl,rt'⟩ g tmps H t m x c g' F:=by
 simp only[tkS,Option.bind_eq_some_iff] at ht
 obtain ⟨⟨m1,x1,rt1⟩,h1,ht⟩:=ht
 obtain ⟨c,g1,F,ev,tk1⟩:=qq2 t st h1 y
 by_cases hh:hint=true
 ·rw[if_pos hh] at ht
  by_cases hm:m1.whole=true
  ·rw[if_pos hm] at ht
   simp only[Option.some.injEq,Prod.mk.injEq] at ht
   obtain ⟨rfl,rfl,rfl⟩:=ht
   have s1:=(tk1.st.shareHand F (fun b hb=>.inr hb)).lessHand (H':=Un H Nil) (fun b hb=>by
    rcases hb with hb | hb
    ·exact ⟨.inl hb,fun hf=>tk1.dis b hf hb⟩
    ·exact hb.elim)
   exact ⟨c,{ g1 with Pr:=Un g1.Pr F },Nil,ev,⟨s1,fun b hb=>.inl (tk1.pr b hb),Rep.share t hm tk1.rep,Dis.nil _,Dis.nil _,fun a=>qv8 _ a (tk1.keeps a),tk1.sl,tk1.rl,TagC.tagFree _ rfl,Ghost.Same.trans ⟨rfl,rfl,rfl⟩ tk1.same⟩⟩
  ·rw[if_neg hm] at ht;simp at ht
 ·rw[if_neg hh] at ht
  simp only[Option.some.injEq,Prod.mk.injEq] at ht
  obtain ⟨rfl,rfl,rfl⟩:=ht
  exact ⟨c,g1,F,ev,tk1⟩
section
variable {P:Program} {C:Ctx} {D:Den C} {S:St} {g:Ghost} {w:World} {tmps:Array Value} {a:Act} {ρ:Operand→AV}
variable {A:Asks} {site:Nat} {hint:Bool} (hty:qcg P C) (st:StRel w.heap S g tmps Nil) (hρ:∀ x,qf w.heap S g (ρ x) (a.eval x))
include hty st hρ
theorem qbid {t:TypeId} (k:TyOk P C t) {b off:Nat} {c:List Value} {v:Value} (hv:v.cells.toList=c) (hl:c.length=(C.ty t).width) (ht:w.there b off c.length)
  (h1:∀ u∈c,u.oneCell'=true):(Instr.storeAt t (.pointer (some ⟨b,off,none⟩)) v).run P w=.ok () (w.setCells b off c):=by
 have hs:v.cells.size=(C.ty t).width:=by rw[←Array.length_toList,hv,hl]
 have:=run_storeCells_cells (P:=P) b off c 0 w (fun j hj=>by simpa using (ht j hj).1) (fun j hj=>by simpa using (ht j hj).2) h1
 simp only[Nat.add_zero] at this
 simp[Instr.storeAt,Instr.sureAddr,storeVar,Sem.run_bind,k.run_size,hs,hv,this]
theorem qbiu {o:Oper} {t:TypeId} {x y:Operand} (ho:o.op=.store t x y) (ok:AOk A S o.dst site):Goal P C D S g w tmps a ρ A site hint o:=by
 intro ht
 simp only[opT,ho] at ht ⊢
 by_cases hz:(C.ty t).nz=true∧A.fr=true
 ·have hz':((C.ty t).nz&&A.fr)=true:=by simp[hz.1,hz.2]
  simp only[hz',if_true] at ht ⊢
  obtain ⟨⟨v0,rt'⟩,hy⟩:=Tot.of ht
  rw[hy]
  simp only[Option.map_eq_some_iff] at hy
  obtain ⟨rt2,hst,e0⟩:=hy
  simp only[Prod.mk.injEq] at e0
  obtain ⟨rfl,rfl⟩:=e0
  have k:=hty t hz.1
  obtain ⟨hsite,hfresh⟩:=ok.fr hz.2
  have hx:=hρ x
  unfold q2v at hst
  split at hst
  ·rename_i r p hv
   rw[hv] at hx
   simp only[Option.bind_eq_some_iff] at hst
   obtain ⟨⟨m,z,rt1⟩,h2,hst⟩:=hst
   split at hst
   ·rename_i R hR
    simp only[Option.bind_eq_some_iff] at hst
    obtain ⟨d,hf,hst⟩:=hst
    split at hst
    ·rename_i hd
     obtain ⟨hdt,hmt⟩:=hd
     simp only[Option.bind_eq_some_iff,Option.some.injEq] at hst
     obtain ⟨⟨m',x'⟩,hput,rfl⟩:=hst
     simp only at hR hf hmt hput
     obtain ⟨c,g1,F,ev,tk1⟩:=qbmc _ st h2 (hρ y)
     have hx1:=(qf.keep tk1.pr (fun _ _=>rfl) (.addr r p)).1 _ hx (tk1.keeps _)
     obtain ⟨b,off,c0,hin,hat,e⟩:=q44 tk1.st hR hf hx1
     obtain ⟨base,c0',F0,q1,q2,q3,q4,q5,q6⟩:=tk1.st.update hR hf hin
     rw[hat] at q1
     simp only[Option.some.injEq,Prod.mk.injEq] at q1
     obtain ⟨rfl,rfl⟩:=q1
     obtain ⟨dt,dm,dx⟩:=d
     simp only at hdt
     subst hdt
     have hl:=Rep.width _ tk1.rep
     have hl0:=Rep.width _ q2
     simp only at hl0
     obtain ⟨hnF,cs,hob,hfit,hsub⟩:=q4 b off rfl
     have hbG:=q5 b off rfl
     have hisr:((⟨S.sl,rt1⟩:St).root r).isSome:=by
      show (rt1.root r).isSome=true
      rw[hR];rfl
     have hbF:¬ F b:=fun hb=>tk1.st.hand r hisr b hbG (.inr hb)
     have hbP:¬ g1.Pr b:=fun hb=>tk1.st.prot r hisr b hbG hb
     have hother:∀ b',b'≠b→(w.setCells b off c).heap[b']? = w.heap[b']?:=fun b' hb'=>qfy c off w b' hb'
     have hfit':off+c.length≤cs.size:=by omega
     have rep2:Rep (w.setCells b off c).heap g1.Pr (C.ty t) (m.stamp site) z c F:=
      (Rep.stamp site _).1 (Rep.mono (Sub.refl _) (fun b' hb'=>hother b' (fun e=>hbP (e ▸ hb'))) _ tk1.rep (Sub.refl _) (fun b' hb'=>hother b' (fun e=>hbF (e ▸ hb'))))
     have hfresh2:(m.stamp site).fresh site (site+1):=Mk.fresh_stamp site hmt
     obtain ⟨g2,s1,s2,s3,s4,s5,s6⟩:=q6 site (site+1) (w.setCells b off c).heap (m.stamp site) z c F m' x' hfresh
      (fun b' _ _ hb'=>hother b' (fun e=>hb' off (by rw[e]))) (by rw[qct];exact Nat.le_refl _) (qvz rfl hob hfit') rep2
      (fun b' hb'=>.inr (.inl (.inr hb'))) (fun b' hb'=>by rw[qct];exact tk1.st.limH b' (.inr hb')) hput (Mk.upd_of_fresh _ hfresh2)
      (TagC.tagFree _ (Mk.tagFree_stamp hsite hmt)) (fun _=>Mk.tagFree_stamp hsite hmt)
      (by
       intro p' t1 n1 hp hfm _
       obtain ⟨hi',hn1⟩:=qg9 p' hfresh2 hp hfm
       refine ⟨qhd _ _ hi' hfm,fun bp cp ha=>?_⟩
       obtain ⟨cp',h3⟩:=qlk (h':=(w.setCells b off c).heap) p' _ c _ hi' ha
       refine ⟨cp',h3,fun s a' e hs=>?_⟩
       subst e
       exact absurd hn1 hs)
     have hcells:(a.eval y).cells.toList=c:=by rw[ev,qjv tk1.rep]
     have hrun:=qbid (w:=w) hty st hρ k hcells hl (qtr hob hfit') (Rep.one _ tk1.rep)
     have hrest:=qjc (b:=b) c off w
     have hrr:(execOp a.eval o).run P w=.ok .skip (w.setCells b off c):=by
      simp[execOp,ho,e,hrun,Sem.run_bind]
     rw[hrr]
     exact ⟨true,.undef,_,rfl,g2,s1.lessHand (Sub.nil _),by simp only[qf],tk1.same.trans s3,
       ⟨hrest.1,hrest.2.1,hrest.2.2,by rw[qct];exact Nat.le_refl _,fun b' _ hb'=>hother b' (fun e=>hb' (by
        have:=tk1.st.own r b hisr hbG
        rw[tk1.same.2.1] at this
        rw[e];exact this))⟩⟩
    ·simp at hst
   ·simp at hst
  ·simp at hst
 ·have hz':((C.ty t).nz&&A.fr)=false:=by
   simp only[Bool.and_eq_false_iff]
   by_cases h1:(C.ty t).nz=true
   ·exact .inr (by simpa using fun h2=>hz ⟨h1,h2⟩)
   ·exact .inl (by simpa using h1)
  simp only[hz',Bool.false_eq_true,if_false] at ht
  exact absurd ht Tot.fail
end
end Go.V

namespace Go.V
noncomputable section
open Go
theorem qbb1 {l:List Value} {o:Nat} {c:List Value} (h:o+c.length≤l.length) (k:Nat):(repl l o c)[k]? = if k<o then l[k]? else if k<o+c.length then c[k - o]? else l[k]?:=by
 unfold repl
 by_cases h1:k<o
 ·rw[if_pos h1,List.append_assoc,List.getElem?_append_left (by rw[List.length_take];omega),List.getElem?_take,if_pos h1]
 ·rw[if_neg h1]
  by_cases h2:k<o+c.length
  ·rw[if_pos h2,List.getElem?_append_left (by rw[List.length_append,List.length_take];omega),List.getElem?_append_right (by rw[List.length_take];omega),List.length_take,Nat.min_eq_left (by omega)]
  ·rw[if_neg h2,List.getElem?_append_right (by rw[List.length_append,List.length_take];omega),List.length_append,List.length_take,Nat.min_eq_left (by omega),List.getElem?_drop]
   congr 1;omega
def zs (t:Ty) (n:Nat):List Value:=(Builtin.zeroCells (mkV t (zc t)).cells n).toList
theorem q4m (t:Ty):(mkV t (zc t)).cells.toList=zc t:=q6s t
theorem q1t (t:Ty) (n:Nat):(zs t n).length=n * t.width:=by
 have:(mkV t (zc t)).cells.size=t.width:=by rw[←Array.length_toList,q4m,qju]
 simp[zs,Builtin.zeroCells,this]
theorem qbhu (t:Ty) (n k:Nat) (hk:k<n * t.width):(zs t n)[k]? = (zc t)[k % t.width]?:=by
 have e:(mkV t (zc t)).cells.size=t.width:=by rw[←Array.length_toList,q4m,qju]
 have hw:0<t.width:=by
  rcases Nat.eq_zero_or_pos t.width with h | h
  ·rw[h] at hk;omega
  ·exact h
 have hm:k % t.width<(mkV t (zc t)).cells.size:=by rw[e];exact Nat.mod_lt _ hw
 have e2:(zc t)[k % t.width]? = some ((mkV t (zc t)).cells[k % t.width]!):=by
  have h3:(mkV t (zc t)).cells.toList[k % t.width]? = some ((mkV t (zc t)).cells[k % t.width]!):=by
   rw[Array.getElem?_toList,Array.getElem?_eq_getElem hm]
   congr 1
   exact (getElem!_pos (mkV t (zc t)).cells (k % t.width) hm).symm
  rw[q4m] at h3
  exact h3
 rw[e2]
 unfold zs Builtin.zeroCells
 rw[e,Array.getElem?_toList,Array.getElem?_map,Array.getElem?_eq_getElem (by rw[Array.size_range];exact hk),Array.getElem_range]
 rfl
theorem qbi0 {t:Ty} {cs cs2:Array Value} {lo hi:Nat} (hlh:lo≤hi) (hfit:hi * t.width≤cs.size) (e:cs2.toList=repl cs.toList (lo * t.width) (zs t (hi - lo))) (i:Nat) :
  sub cs2 (i * t.width) t.width=if lo≤i∧i<hi then zc t else sub cs (i * t.width) t.width:=by
 have hz:(zs t (hi - lo)).length=(hi - lo) * t.width:=q1t _ _
 have hs:lo * t.width+(hi - lo) * t.width=hi * t.width:=by rw[←Nat.add_mul];congr 1;omega
 have hf:lo * t.width+(zs t (hi - lo)).length≤cs.toList.length:=by rw[hz,hs,Array.length_toList];exact hfit
 unfold sub
 apply List.ext_getElem?
 intro j
 rw[List.getElem?_take,List.getElem?_drop,e,qbb1 hf,hz,hs]
 by_cases hj:j<t.width
 ·rw[if_pos hj]
  by_cases h1:lo≤i∧i<hi
  ·have a1:=Nat.mul_le_mul_right t.width h1.1
   have a2:=Nat.mul_le_mul_right t.width (show i+1≤hi by omega)
   rw[Nat.succ_mul] at a2
   rw[if_pos h1,if_neg (by omega),if_pos (by omega)]
   have e3:i * t.width+j - lo * t.width=(i - lo) * t.width+j:=by
    rw[Nat.sub_mul];omega
   rw[e3,qbhu]
   ·rw[show (i - lo) * t.width+j=j+t.width * (i - lo) by rw[Nat.mul_comm];omega,Nat.add_mul_mod_self_left,Nat.mod_eq_of_lt hj]
   ·have:=Nat.mul_le_mul_right t.width (show i - lo+1≤hi - lo by omega)
    rw[Nat.succ_mul] at this;omega
  ·rw[if_neg h1,List.getElem?_take,if_pos hj,List.getElem?_drop]
   by_cases h2:i<lo
   ·have:=Nat.mul_le_mul_right t.width (show i+1≤lo by omega)
    rw[Nat.succ_mul] at this
    rw[if_pos (by omega)]
   ·have:=Nat.mul_le_mul_right t.width (show hi≤i by omega)
    have:=Nat.mul_le_mul_right t.width (show lo≤i by omega)
    rw[if_neg (by omega),if_neg (by omega)]
 ·rw[if_neg hj]
  split
  ·rw[List.getElem?_eq_none];rw[qju];omega
  ·rw[List.getElem?_take,if_neg hj]
theorem qbgt {t:Ty} {xs:List t.den} {lo hi:Nat} (h1:lo≤hi) (h2:hi≤xs.length):(qo4 t xs lo hi).length=xs.length:=by
 simp only[qo4,List.length_append,List.length_take,List.length_replicate,List.length_drop];omega
theorem qbgz {t:Ty} {xs:List t.den} {lo hi:Nat} (h1:lo≤hi) (h2:hi≤xs.length) (i:Nat):(qo4 t xs lo hi).getD i t.zero=if lo≤i∧i<hi then t.zero else xs.getD i t.zero:=by
 unfold qo4
 simp only[List.getD]
 by_cases h:i<lo
 ·rw[if_neg (by omega),List.append_assoc,List.getElem?_append_left (by rw[List.length_take];omega),List.getElem?_take,if_pos h]
 ·by_cases h3:i<hi
  ·rw[if_pos ⟨by omega,h3⟩,List.getElem?_append_left (by simp only[List.length_append,List.length_take,List.length_replicate];omega),List.getElem?_append_right (by rw[List.length_take];omega),List.length_take,Nat.min_eq_left (by omega),List.getElem?_replicate,if_pos (by omega)]
   rfl
  ·rw[if_neg (by omega),List.getElem?_append_right (by simp only[List.length_append,List.length_take,List.length_replicate];omega),List.getElem?_drop]
   simp only[List.length_append,List.length_take,List.length_replicate]
   congr 2;omega
theorem qu6:∀ (p:Path) {t:Ty} {m:Mk} {t':Ty} {m':Mk},m.still=true→qx t m p=some (t',m')→qs p=false∧m'.still=true
 | [],t,m,t',m',hm,h=>by simp only[qx,Option.some.injEq,Prod.mk.injEq] at h;obtain ⟨rfl,rfl⟩:=h;exact ⟨rfl,hm⟩
 | .fst::p,t,m,t',m',hm,h=>by
  cases t with
  | pair a b=>
   simp only[qx] at h
   have:m.fst.still=true:=by cases m<;>simp_all [Mk.still,Mk.fst]
   have:=qu6 p this h
   exact ⟨by simpa [qs] using this.1,this.2⟩
  | _=>simp[qx] at h
 | .snd::p,t,m,t',m',hm,h=>by
  cases t with
  | pair a b=>
   simp only[qx] at h
   have:m.snd.still=true:=by cases m<;>simp_all [Mk.still,Mk.snd]
   have:=qu6 p this h
   exact ⟨by simpa [qs] using this.1,this.2⟩
  | _=>simp[qx] at h
 | .idx i s::p,t,m,t',m',hm,h=>by
  cases t with
  | sl a=>cases m<;>simp_all [qx,Mk.still]
  | _=>simp[qx] at h
theorem qh1:∀ v:AV,v.stampsOk 0 0=true
 | .addr r p=>qg6 p
 | .brw r p s=>by simp only[AV.stampsOk,Bool.and_eq_true];exact ⟨by cases s<;>rfl,qg6 p⟩
 | .view r p s _ _=>by simp only[AV.stampsOk,Bool.and_eq_true];exact ⟨by cases s<;>rfl,qg6 p⟩
 | .pair a b=>by simp only[AV.stampsOk,Bool.and_eq_true];exact ⟨qh1 a,qh1 b⟩
 | .tup a=>qh1 a
 | .clo _ a=>qh1 a
 | .undef=>rfl
 | .skip=>rfl
 | .litB _=>rfl
 | .unit=>rfl
 | .nils=>rfl
 | .val _ _=>rfl
 | .raddr _ _=>rfl
 | .cloV _=>rfl
theorem qbjq {w:World} {S:St} {g:Ghost} {tmps:Array Value} (st:StRel w.heap S g tmps Nil) {r:Nat} {p:Path} {R:Root} {t:Ty} {s:Nat} {m:Mk} {xs:(Ty.sl t).den} {base0:Base} {ad:Option Addr} {n cap:Nat}
  (hR:S.root r=some R) (hf:focus R.ty R.ms R.x p=some ⟨.sl t,.own s m,xs⟩) (hin:inR R.ty R.x p) (hat:atP w.heap R.ty (g.C r) (g.base r) p=some (base0,[.slice ad n cap])) (hm:m.still=true) (hs:s<1048576)
  {lo hi:Nat} (h1:lo<hi) (h2:hi≤n) {m':Mk} {x':R.ty.den} (hput:put R.ty R.ms R.x p (.sl t) (.own s m) (qo4 t xs lo hi)=some (m',x')) :
  ∃ b,ad=some ⟨b,0,none⟩∧g.L b∧w.there b (lo * t.width) ((hi - lo) * t.width)∧∃ g',StRel (w.setCells b (lo * t.width) (zs t (hi - lo))).heap (S.setRoot r (some { R with ms:=m',x:=x' })) g' tmps Nil∧g'.Same g:=by
 obtain ⟨base,c,F,q1,q2,q3,q4,q5,q6⟩:=st.update hR hf hin
 rw[hat] at q1
 simp only[Option.some.injEq,Prod.mk.injEq] at q1
 obtain ⟨rfl,rfl⟩:=q1
 have q2':=q2
 simp only[Rep] at q2
 obtain ⟨ad',cap',e0,hl,hr⟩:=q2
 simp only[List.cons.injEq,Value.slice.injEq,and_true] at e0
 obtain ⟨rfl,rfl,rfl⟩:=e0
 rcases hr with hr | ⟨b,cs,rfl,fb,hb,hsz,Fs,hFs,hd,re⟩
 ·omega
 have hisr:(S.root r).isSome:=by rw[hR];rfl
 have hbG:=q3 b fb
 have hwid:(zs t (hi - lo)).length=(hi - lo) * t.width:=q1t _ _
 have hsum:lo * t.width+(hi - lo) * t.width=hi * t.width:=by rw[←Nat.add_mul];congr 1;omega
 have hfit0:hi * t.width≤cs.size:=Nat.le_trans (Nat.mul_le_mul_right _ (by omega)) hsz
 have hfit:lo * t.width+(zs t (hi - lo)).length≤cs.size:=by rw[hwid,hsum];exact hfit0
 have hother:∀ b',b'≠b→(w.setCells b (lo * t.width) (zs t (hi - lo))).heap[b']? = w.heap[b']?:=fun b' hb'=>qfy _ _ w b' hb'
 obtain ⟨cs2,hob2,ecs2⟩:=qvz (w:=w) (base:=some (b,lo * t.width)) (c2:=zs t (hi - lo)) rfl hb hfit b (lo * t.width) rfl cs hb
 have hsz2:cs2.size=cs.size:=by
  rw[←Array.length_toList,ecs2,qg3 (by rw[Array.length_toList];exact hfit),Array.length_toList]
 have hsub:=qbi0 (t:=t) (Nat.le_of_lt h1) hfit0 ecs2
 have hbP:¬ g.Pr b:=fun hb'=>st.prot r hisr b hbG hb'
 have htf:(Mk.own s m).tagFree=true:=by simp only[Mk.tagFree,Bool.and_eq_true];exact ⟨Nat.ble_eq_true_of_le hs,Mk.still_tagFree hm⟩
 have hlen:(qo4 t xs lo hi).length=xs.length:=qbgt (Nat.le_of_lt h1) h2
 have rep2:Rep (w.setCells b (lo * t.width) (zs t (hi - lo))).heap g.Pr (.sl t) (.own s m) (qo4 t xs lo hi) [.slice (some ⟨b,0,none⟩) xs.length cap] F:=by
  simp only[Rep]
  refine ⟨_,cap,by rw[hlen],by rw[hlen];exact hl,.inr ⟨b,cs2,rfl,fb,hob2,by rw[hsz2];exact hsz,Fs,hFs,hd,fun i hi'=>?_⟩⟩
  rw[qbgz (Nat.le_of_lt h1) h2,hsub]
  by_cases hz:lo≤i∧i<hi
  ·rw[if_pos hz,if_pos hz]
   exact Rep.mono (Sub.refl _) (fun _ _=>rfl) _ (Rep.zero t m) (Sub.nil _) (fun _ _=>rfl)
  ·rw[if_neg hz,if_neg hz]
   exact Rep.mono (Sub.refl _) (fun b' hb'=>hother b' (fun e=>hbP (e ▸ hb'))) _ (re i (by rw[hlen] at hi';exact hi')) (Sub.refl _) (fun b' hb'=>hother b' (fun e=>(hFs i).2 (e ▸ hb')))
 obtain ⟨g2,s1,s2,s3,s4,s5,s6⟩:=q6 0 0 (w.setCells b (lo * t.width) (zs t (hi - lo))).heap (.own s m) (qo4 t xs lo hi) [.slice (some ⟨b,0,none⟩) xs.length cap] F m' x'
  (fun u=>qh1 _) (fun b' _ hb' _=>hother b' (fun e=>hb' (e ▸ fb))) (by rw[qct];exact Nat.le_refl _)
  (by
   intro b' o e cs' hob'
   obtain ⟨hnF,cs3,hob3,hfit3,hsub3⟩:=q4 b' o e
   have hne:b'≠b:=fun e=>hnF (e ▸ fb)
   refine ⟨cs',hob'.congr (hother b' hne),?_⟩
   have:=hob'.uniq hob3
   subst this
   have hr:=qxv (c:=cs'.toList) (n:=o) (k:=1) (by rw[Array.length_toList];exact hfit3)
   have hs3:(cs'.toList.drop o).take 1=[Value.slice (some ⟨b,0,none⟩) xs.length cap]:=hsub3
   rw[hs3] at hr
   exact hr.symm)
  rep2 (fun b' hb'=>.inl hb') (fun b' hb'=>by rw[qct];exact st.limG r b' hisr (q3 b' hb')) hput (Mk.upd_refl 0 0 _)
  (TagC.tagFree _ htf) (fun _=>htf)
  (by
   intro p' t1 n1 _ hfm hi'
   cases p' with
   | nil=>
    refine ⟨trivial,fun bp cp ha=>⟨cp,?_,fun _ _ _ _=>rfl⟩⟩
    simp only[atP] at ha ⊢
    exact ha
   | cons x p'=>
    cases x with
    | fst=>simp[qx] at hfm
    | snd=>simp[qx] at hfm
    | idx i s'=>
     simp only[qx] at hfm
     split at hfm
     ·obtain ⟨hp',hn1⟩:=qu6 p' hm hfm
      simp only[inR] at hi'
      refine ⟨?_,fun bp cp ha=>?_⟩
      ·simp only[inR]
       exact ⟨by rw[hlen];exact hi'.1,qhd p' _ hp' hfm⟩
      ·obtain ⟨e1,l1,u1,he1,_⟩:=hb
       obtain ⟨e2,l2,u2,he2,_⟩:=hob2
       simp only[atP,he1] at ha
       obtain ⟨cp',h3⟩:=qlk (h':=(w.setCells b (lo * t.width) (zs t (hi - lo))).heap) p' _ (sub cs2 (i * t.width) t.width) _ hp' ha
       refine ⟨cp',by simp only[atP,he2];exact h3,fun s4 a4 e4 _=>?_⟩
       rw[e4] at hn1;simp[Mk.still] at hn1
     ·simp at hfm)
 exact ⟨b,rfl,st.own r b hisr hbG,qtr hb (by rw[←hwid];exact hfit),g2,s1.lessHand (Sub.nil _),s3⟩
section
variable {P:Program} {C:Ctx} {D:Den C} {S:St} {g:Ghost} {w:World} {tmps:Array Value} {a:Act} {ρ:Operand→AV}
variable {A:Asks} {site:Nat} {hint:Bool} (hty:qcg P C) (st:StRel w.heap S g tmps Nil) (hρ:∀ x,qf w.heap S g (ρ x) (a.eval x))
include hty st hρ
theorem qbik {t u:TypeId} {e:Ty} (h1:P.underlying t=some (.slice u)) (h2:C.ty u=e) (h3:(C.ty u).nz=true) {b o n k:Nat} (hn:0<n) (ht:w.there b o (n * e.width)) (ty:TypeId) (more:List TypeId) (args:Array TypeId) (ha:args[0]? = some t) :
  (Builtin.clear_ args ty #[.slice (some ⟨b,o,none⟩) n k]).run P w=.ok (.tuple #[]) (w.setCells b o (zs e n)):=by
 subst h2
 have ku:=hty u h3
 have hl:=q1t (C.ty u) n
 have h1c:∀ v∈zs (C.ty u) n,v.oneCell'=true:=by
  intro v hv
  obtain ⟨i,hi,rfl⟩:=List.mem_iff_getElem.1 hv
  have:=qbhu (C.ty u) n i (by rw[←hl];exact hi)
  rw[List.getElem?_eq_getElem hi] at this
  exact Rep.one _ (Rep.zero (h:=#[]) (Pr:=Nil) (C.ty u) .no) _ (List.mem_of_getElem? this.symm)
 have:=run_storeCells_cells (P:=P) b o (zs (C.ty u) n) 0 w (fun j hj=>by simpa using (ht j (by rw[←hl];exact hj)).1) (fun j hj=>by simpa using (ht j (by rw[←hl];exact hj)).2) h1c
 simp only[Nat.add_zero] at this
 obtain ⟨n',rfl⟩:∃ n',n=n'+1:=⟨n - 1,by omega⟩
 have e0:(Builtin.zeroCells (mkV (C.ty u) (zc (C.ty u))).cells (n'+1)).toList=zs (C.ty u) (n'+1):=rfl
 simp[Builtin.clear_,ha,run_underlying h1,ku.run_zero,Sem.run_bind,e0,this]
theorem qbhe {o:Oper} {c:Call} {x:Operand} {t:TypeId} {e:Ty} (ho:o.op=.call c) (hc:c.callee=.builtin .clear) (hargs:c.args = #[x])
  (h0:c.argTypes[0]? = some t) (hT:C.ty t=.sl e) (ht:Tot (q1o S.rt e (ρ x))):Res P S g w tmps (q1o S.rt e (ρ x)) ((execOp a.eval o).run P w):=by
 have hx:=hρ x
 unfold q1o at ht ⊢
 cases hv:ρ x with
 | view r p s lo hi=>
  rw[hv] at hx ht
  simp only at ht ⊢
  cases hR:S.rt.root r with
  | none=>rw[hR] at ht;exact absurd ht Tot.fail
  | some R=>
   rw[hR] at ht
   simp only at ht ⊢
   cases hf:focus R.ty R.ms R.x p with
   | none=>rw[hf] at ht;exact absurd ht Tot.fail
   | some d=>
    obtain ⟨dt,dm,dx⟩:=d
    cases dt with
    | sl e'=>
     cases dm with
     | own s' m=>
      rw[hf] at ht
      simp only at ht ⊢
      by_cases hs:s=s'∧e=e'∧m.still=true∧s'<1048576
      ·simp only[if_pos hs] at ht ⊢
       obtain ⟨rfl,rfl,hm,hs6⟩:=hs
       cases hput:put R.ty R.ms R.x p (.sl e) (.own s m) (qo4 e dx lo hi) with
       | none=>rw[hput] at ht;exact absurd ht Tot.fail
       | some r'=>
        simp only
        obtain ⟨u,h1,h2,h3⟩:=hty.desc hT
        simp only[qf] at hx
        obtain ⟨hin,base,ad,n,cap,hat,hlh,hhn,ev⟩:=hx R hR e m dx hf
        by_cases hlt:lo<hi
        ·obtain ⟨b,rfl,hgL,hth,g',st',hsame⟩:=qbjq (m':=r'.1) (x':=r'.2) st hR hf hin hat hm hs6 hlt hhn hput
         have hth2:w.there b (lo * e.width) ((hi - lo) * e.width):=hth
         have eoff:(if cap=lo then (some ⟨b,0,none⟩:Option Addr) else (some ⟨b,0,none⟩:Option Addr).map (·.add (lo * e.width)))=some ⟨b,lo * e.width,none⟩:=by
          have:n≤cap:=by
           obtain ⟨base',c',F,q1,q2,_⟩:=st.update hR hf hin
           rw[hat] at q1
           simp only[Option.some.injEq,Prod.mk.injEq] at q1
           obtain ⟨rfl,rfl⟩:=q1
           simp only[Rep] at q2
           obtain ⟨_,_,e0,hl,_⟩:=q2
           simp only[List.cons.injEq,Value.slice.injEq,and_true] at e0
           omega
          rw[if_neg (by omega)]
          simp[Addr.add_mid]
         rw[eoff] at ev
         have hrun:=qbik (w:=w) hty st hρ h1 h2 h3 (k:=cap - lo) (show 0<hi - lo by omega) hth2 o.type [] c.argTypes h0
         have hrest:=qjc (b:=b) (zs e (hi - lo)) (lo * e.width) w
         refine Res.value (val:=.tuple #[]) (w':=w.setCells b (lo * e.width) (zs e (hi - lo))) ?_ ⟨true,.undef,_,by simp only[Tr.dec,decide_eq_true hlt],g',st',by simp only[qf],hsame,⟨hrest.1,hrest.2.1,hrest.2.2,by rw[qct];exact Nat.le_refl _,fun b' _ hb'=>qfy _ _ w b' (fun e=>hb' (e ▸ hgL))⟩⟩
         simp[execOp,ho,resolve,hc,invoke,builtin,hargs,ev,hrun,Sem.run_bind]
        ·have hlh':hi - lo=0:=by omega
         rw[hlh'] at ev
         refine Res.value (val:=.tuple #[]) (w':=w) ?_ ⟨true,.undef,_,by simp only[Tr.dec,decide_eq_false hlt],Post.same st (by simp only[qf])⟩
         have hcl:(Builtin.clear_ c.argTypes o.type #[a.eval x]).run P w=.ok (.tuple #[]) w:=by
          rw[ev]
          cases hh:(if cap=lo then ad else ad.map (·.add (lo * e.width)))<;>simp[Builtin.clear_,h0,run_underlying h1,Sem.run_bind]
         simp[execOp,ho,resolve,hc,invoke,builtin,hargs,hcl,Sem.run_bind]
      ·rw[if_neg hs] at ht;exact absurd ht Tot.fail
     | _=>rw[hf] at ht;exact absurd ht Tot.fail
    | _=>rw[hf] at ht;exact absurd ht Tot.fail
 | _=>rw[hv] at ht;exact absurd ht Tot.fail
end
end
end Go.V

namespace Go.V
noncomputable section
open Go
theorem q9o (off:Nat):∀ (l:List Value) (k:Nat) (cs:Array Value),off+k+l.length≤cs.size→
  ((l.zipIdx k).foldl (fun cs p=>cs.setIfInBounds (off+p.2) p.1) cs).toList=repl cs.toList (off+k) l
 | [],k,cs,_=>by simp[repl]
 | v::l,k,cs,h=>by
  simp only[List.length_cons] at h
  rw[List.zipIdx_cons,List.foldl_cons,q9o off l (k+1) _ (by simp;omega),Array.toList_setIfInBounds]
  exact q92 (by simp;omega)
theorem q95 {off:Nat} {v:Value} {cs:Array Value} (h:off+v.cells.size≤cs.size) :
  (v.cells.zipIdx.foldl (fun cs (c,j)=>cs.setIfInBounds (off+j) c) cs).toList=repl cs.toList off v.cells.toList:=by
 rw[←Array.foldl_toList,Array.toList_zipIdx]
 exact q9o off v.cells.toList 0 cs (by simpa using h)
def Kp (h:Array Obj) (S:St) (g:Ghost) (S':St) (g':Ghost):Prop:=∀ u v,qf h S g u v→qf h S' g' u v
theorem Kp.refl {h:Array Obj} {S:St} {g:Ghost}:Kp h S g S g:=fun _ _ x=>x
theorem Kp.trans {h:Array Obj} {S S' S'':St} {g g' g'':Ghost} (x:Kp h S g S' g') (y:Kp h S' g' S'' g''):Kp h S g S'' g'':=fun u v z=>y u v (x u v z)
theorem Took.kp {h:Array Obj} {S S':St} {g g':Ghost} {tmps:Array Value} {H F:BS} {t:Ty} {m:Mk} {x:t.den} {c:List Value} (k:Took h S S' g tmps H t m x c g' F):Kp h S g S' g':=
 fun u v y=>(qf.keep k.pr (fun _ _=>rfl) u).1 v y (k.keeps u)
theorem qsr {h:Array Obj} {S:St} {g:Ghost} {tmps:Array Value} {H:BS} (st:StRel h S g tmps H) (D:BS):Kp h S g S { g with Pr:=Un g.Pr D }:=by
 intro u v y
 refine (qf.keep (g':={ g with Pr:=Un g.Pr D }) (fun b hb=>Or.inl hb) (fun _ _=>rfl) u).1 v y (AV.keeps_all (fun r p=>?_) (fun r p s=>?_) u)
 ·exact (qcu (g':={ g with Pr:=Un g.Pr D }) st (.inl rfl) rfl rfl (fun _ _ _=>rfl)).1 p
 ·exact (qcu (g':={ g with Pr:=Un g.Pr D }) st (.inl rfl) rfl rfl (fun _ _ _=>rfl)).2 p s
theorem q01 {C:Ctx} {h:Array Obj} {tmps:Array Value} {sl:List AV} {T:Ty} {fs:List Field} {place:Nat→Option (Nat×Nat)}
  (hs:qc0 C fs 0 T) (hplace:∀ i fd,fs[i]? = some fd→place i=some (fd.offset,(C.ty fd.type).width)) (ev:Operand→Value) :
  ∀ (l:List (Nat×Operand)) (rt:Rts) (g:Ghost) (H F:BS) (m:Mk) (x:T.den) (cells:List Value) (ρ:Operand→AV) (m':Mk) (x':T.den) (rt':Rts),
   StRel h ⟨sl,rt⟩ g tmps H→Rep h g.Pr T m x cells F→Sub F H→TagC g.hd T m cells→(∀ x,qf h ⟨sl,rt⟩ g (ρ x) (ev x))→
   qeb rt T (m,x) (l.map fun p=>(p.1,ρ p.2))=some (m',x',rt')→
   ∃ g' H' F' cells',StRel h ⟨sl,rt'⟩ g' tmps H'∧Rep h g'.Pr T m' x' cells' F'∧Sub F' H'∧TagC g'.hd T m' cells'∧g'.Same g∧
    Instr.fill place cells.toArray (l.map fun p=>(p.1,ev p.2))=some cells'.toArray
 | [],rt,g,H,F,m,x,cells,ρ,m',x',rt',st,rep,hF,htg,hρ,hb=>by
  simp only[List.map_nil,qeb,Option.some.injEq,Prod.mk.injEq] at hb
  obtain ⟨rfl,rfl,rfl⟩:=hb
  exact ⟨g,H,F,cells,st,rep,hF,htg,.refl _,rfl⟩
 | (i,op)::l,rt,g,H,F,m,x,cells,ρ,m',x',rt',st,rep,hF,htg,hρ,hb=>by
  simp only[List.map_cons,qeb,Option.bind_eq_some_iff] at hb
  obtain ⟨d,hf,⟨m1,x1,rt1⟩,h2,⟨m2,x2⟩,hput,hb⟩:=hb
  obtain ⟨fd,q1,q2,q3,q4,q5⟩:=qqd i hs hf
  obtain ⟨c1,g1,F1,e1,tk1⟩:=qq2 (S:=⟨sl,rt⟩) _ st h2 (hρ op)
  have rep1:Rep h g1.Pr T m x cells F:=Rep.mono tk1.pr (fun _ _=>rfl) T rep (Sub.refl _) (fun _ _=>rfl)
  obtain ⟨base',c',F2,Fr,z⟩:=zip (qbb i) _ _ _ cells F none d rep1 hf (qhd _ _ q5 (qis _ hf)) (fun b o e=>by simp at e)
  obtain ⟨eb,ec,efit⟩:=z.plain q5
  have hl1:=Rep.width _ tk1.rep
  have hdis:Dis F1 Fr:=fun b hb hb2=>tk1.dis b hb (hF b (z.fr b hb2))
  obtain ⟨F3,D3,s3,sd,d3,r3⟩:=z.wand h g1.Pr m1 x1 c1 F1 m2 x2 (Sub.refl _) (fun _ _=>rfl) (fun _ _ _=>rfl) (by rw[eb];intro b o e;simp at e) tk1.rep hdis hput
  have hifx:(if qs (qbb i)=true then cells else repl cells (qbf T (qbb i)) c1)=repl cells (qbf T (qbb i)) c1:=by rw[if_neg (by simp[q5])]
  rw[hifx] at r3
  have hin:∀ b,Fr b∨F1 b→Un H F1 b:=by
   rintro b (hb | hb)
   ·exact .inl (hF b (z.fr b hb))
   ·exact .inr hb
  have st2:=tk1.st.shareHand D3 (fun b hb=>hin b (sd b hb))
  have hoff:fd.offset=qbf T (qbb i):=by omega
  have htg2:TagC g1.hd T m2 (repl cells (qbf T (qbb i)) c1):=by
   have:=TagC.put (hd:=g1.hd) (qbb i) hput (by rw[tk1.same.1];exact htg) (by rw[tk1.same.1];exact tk1.tag) (fun h=>by rw[q5] at h;simp at h) (Rep.width _ rep) hl1
   rwa [if_neg (by simp[q5])] at this
  obtain ⟨g',H',F',cells',k1,k2,k3,k4,k5,k6⟩:=q01 hs hplace ev l rt1 _ _ F3 m2 x2 _ ρ m' x' rt' st2 r3
   (fun b hb=>⟨hin b (s3 b hb),fun hb2=>d3 b hb hb2⟩) htg2 (fun x=>qsr tk1.st D3 _ _ (tk1.kp _ _ (hρ x))) hb
  refine ⟨g',H',F',cells',k1,k2,k3,k4,tk1.same.trans (Ghost.Same.trans ⟨rfl,rfl,rfl⟩ k5),?_⟩
  have hcells:(ev op).cells.toList=c1:=by rw[e1,qjv tk1.rep]
  have hsize:(ev op).cells.size=(C.ty fd.type).width:=by rw[←Array.length_toList,hcells,hl1,q2]
  simp only[List.map_cons,Instr.fill,hplace i fd q1]
  have hfit2:fd.offset+(ev op).cells.size≤cells.toArray.size:=by
   rw[hsize,←q2,hoff];simpa using efit
  have hcond:((decide ((ev op).cells.size≠(C.ty fd.type).width))||decide (fd.offset+(ev op).cells.size>cells.toArray.size))=false:=by
   simp only[Bool.or_eq_false_iff,decide_eq_false_iff_not]
   exact ⟨fun h=>h hsize,by omega⟩
  have harr:(ev op).cells.zipIdx.foldl (fun cs (c,j)=>cs.setIfInBounds (fd.offset+j) c) cells.toArray=(repl cells (qbf T (qbb i)) c1).toArray:=by
   apply Array.ext'
   rw[q95 hfit2,hcells,hoff]
  rw[harr]
  have:(if (decide ((ev op).cells.size≠(C.ty fd.type).width)||decide (fd.offset+(ev op).cells.size>cells.toArray.size))=true then (none:Option (Array Value))
    else Instr.fill place (repl cells (qbf T (qbb i)) c1).toArray (l.map fun p=>(p.1,ev p.2)))=some cells'.toArray:=by
   rw[hcond];exact k6
  exact this
theorem q3p {P:Program} {C:Ctx} (hty:qcg P C):∀ (fs:List Field) (off:Nat) (T:Ty),qc0 C fs off T→
  fs.mapM (fun f=>(P.info? f.type).map fun i=>(f.offset,i.size))=some (fs.map fun f=>(f.offset,(C.ty f.type).width))
 | [],_,_,_=>rfl
 | f::fs,off,T,h=>by
  simp only[qc0] at h
  obtain ⟨b,rfl,h1,_,h2,h3⟩:=h
  obtain ⟨i,q1,q2,_⟩:=(hty f.type h2).info
  simp only[List.mapM_cons,q1,Option.map_some,Option.bind_eq_bind,Option.bind_some,q3p hty fs _ b h3,Option.pure_def,List.map_cons,q2]
section
variable {P:Program} {C:Ctx} {D:Den C} {S:St} {g:Ghost} {w:World} {tmps:Array Value} {a:Act} {ρ:Operand→AV}
variable {A:Asks} {site:Nat} {hint:Bool} (hty:qcg P C) (st:StRel w.heap S g tmps Nil) (hρ:∀ x,qf w.heap S g (ρ x) (a.eval x))
include hty st hρ
theorem qbjo {o:Oper} {t:TypeId} {parts:Array (Nat×Operand)} (ho:o.op=.build t parts) (ok:AOk A S o.dst site):Goal P C D S g w tmps a ρ A site hint o:=by
 intro ht
 simp only[opT,ho] at ht ⊢
 by_cases hza:((C.ty t).nz&&(C.ty t).agg)=true
 ·have hz:(C.ty t).nz=true:=by simp only[Bool.and_eq_true] at hza;exact hza.1
  have hag:(C.ty t).agg=true:=by simp only[Bool.and_eq_true] at hza;exact hza.2
  simp only[hza,if_true] at ht ⊢
  cases hb:qeb S.rt (C.ty t) (Mk.bld hint (C.ty t),(C.ty t).zero) (parts.toList.map fun p=>(p.1,ρ p.2)) with
  | none=>rw[hb] at ht;exact absurd ht Tot.fail
  | some z=>
   obtain ⟨m,y,rt1⟩:=z
   rw[hb] at ht
   simp only at ht ⊢
   obtain ⟨⟨v,rt'⟩,hd⟩:=ht true
   have hp:∃ ta tb,C.ty t=.pair ta tb:=by
    cases hT:C.ty t with
    | pair ta tb=>exact ⟨ta,tb,rfl⟩
    | unit=>rw[hT] at hz;simp[Ty.nz] at hz
    | _=>rw[hT] at hag;simp[Ty.agg] at hag
   ·obtain ⟨ta,tb,hT⟩:=hp
    obtain ⟨fs,h1,h2⟩:=hty.pair hT
    rw[←hT] at h2
    have hplace:∀ (i:Nat) (fd:Field),fs.toList[i]? = some fd→((fs.toList.map fun f=>(f.offset,(C.ty f.type).width)).toArray[·]?) i=some (fd.offset,(C.ty fd.type).width):=by
     intro i fd h;simp only[List.getElem?_toArray,List.getElem?_map,h,Option.map_some]
    obtain ⟨g',H',F',cells',k1,k2,k3,k4,k5,k6⟩:=q01 (sl:=S.sl) h2 hplace a.eval parts.toList S.rt g Nil Nil (Mk.bld hint (C.ty t)) (C.ty t).zero (zc (C.ty t)) ρ m y rt1
     st (Rep.zero _ _) (Sub.nil _) (TagC.tagFree _ (Mk.tagFree_bld _ _)) hρ hb
    obtain ⟨g2,s1,s2,s3⟩:=qod k1 k2 k4 k3 ok hd
    obtain ⟨it,i1,i2,i3,_⟩:=(hty t hz).info
    have hbuilt:P.built t (parts.toList.map fun p=>(p.1,a.eval p.2))=some cells'.toArray:=by
     unfold Program.built
     simp only[i1,h1,i3,q3p hty fs.toList 0 _ h2]
     have:(mkV (C.ty t) (zc (C.ty t))).cells=(zc (C.ty t)).toArray:=by apply Array.ext';rw[q6s]
     rw[this];exact k6
    have hrun:=run_build (P:=P) w t (parts.map fun p=>(p.1,a.eval p.2)) cells'.toArray (by simpa using hbuilt)
    refine Res.value (val:=mkV (C.ty t) cells') (w':=w) ?_ ⟨true,v,rt',hd,g2,s1,s2,k5.trans s3,.refl _ _⟩
    have:mkV (C.ty t) cells'=.agg cells'.toArray:=by rw[hT];rfl
    rw[this]
    simp[execOp,ho,hrun,Sem.run_bind]
 ·rw[if_neg hza] at ht;exact absurd ht Tot.fail
end
end
end Go.V

namespace Go.V
open Go
structure El (h:Array Obj) (Pr:BS) (e:Ty) (mi:Mk) (xs:List e.den) (cells:List Value) (Fs:Nat→BS):Prop where
 rep:∀ i,i<xs.length→Rep h Pr e mi (xs.getD i e.zero) ((cells.drop (i * e.width)).take e.width) (Fs i)
 dis:∀ i j,i≠j→Dis (Fs i) (Fs j)
theorem El.mono {h h':Array Obj} {Pr Pr':BS} {e:Ty} {mi:Mk} {xs:List e.den} {cells:List Value} {Fs:Nat→BS} (k:El h Pr e mi xs cells Fs) (hp:Sub Pr Pr')
  (hpr:∀ b,Pr b→h'[b]? = h[b]?) (hk:∀ i b,Fs i b→h'[b]? = h[b]?):El h' Pr' e mi xs cells Fs:=
 ⟨fun i hi=>Rep.mono hp hpr e (k.rep i hi) (Sub.refl _) (fun b hb=>hk i b hb),k.dis⟩
theorem El.serves {h:Array Obj} {Pr:BS} {e:Ty} {w m:Mk} {xs:List e.den} {cells:List Value} {Fs:Nat→BS} (hw:w.serves m=true) (k:El h Pr e m xs cells Fs) :
  ∃ (Fs':Nat→BS) (D:BS),(∀ i,Sub (Fs' i) (Fs i))∧(∀ b,D b→∃ i,Fs i b)∧(∀ i,Dis (Fs' i) D)∧El h (Un Pr D) e w xs cells Fs':=by
 have key:∀ i,∃ F1 F2:BS,Sub F1 (Fs i)∧Sub F2 (Fs i)∧Dis F1 F2∧
   (i<xs.length→Rep h (fun b=>Pr b∨F2 b) e w (xs.getD i e.zero) ((cells.drop (i * e.width)).take e.width) F1):=by
  intro i
  by_cases hi:i<xs.length
  ·obtain ⟨F1,F2,s1,s2,dd,rr⟩:=Rep.serves e hw (k.rep i hi)
   exact ⟨F1,F2,s1,s2,dd,fun _=>rr⟩
  ·exact ⟨Nil,Nil,Sub.nil _,Sub.nil _,Dis.nil _,fun h=>absurd h hi⟩
 obtain ⟨F1,key⟩:=Classical.axiomOfChoice key
 obtain ⟨F2,key⟩:=Classical.axiomOfChoice key
 refine ⟨F1,fun b=>∃ i,F2 i b,fun i=>(key i).1,fun b ⟨i,hb⟩=>⟨i,(key i).2.1 b hb⟩,?_,?_,?_⟩
 ·rintro i b hb ⟨j,hj⟩
  by_cases e:i=j
  ·subst e;exact (key i).2.2.1 b hb hj
  ·exact k.dis i j e b ((key i).1 b hb) ((key j).2.1 b hj)
 ·intro i hi
  exact Rep.mono (fun b hb=>hb.imp id fun hb=>⟨i,hb⟩) (fun _ _=>rfl) e ((key i).2.2.2 hi) (Sub.refl _) (fun _ _=>rfl)
 ·intro i j e
  exact (k.dis i j e).mono (key i).1 (key j).1
theorem El.row {h:Array Obj} {Pr:BS} {e:Ty} {mi:Mk} {xs:List e.den} {cells:List Value} {Fs:Nat→BS} (k:El h Pr e mi xs cells Fs) {b:Nat} {cs:Array Value} (hb:qci h b cs)
  {cap:Nat} (hcap:cap * e.width≤cs.size) (hl:xs.length≤cap) (hcs:∀ i,i<xs.length→sub cs (i * e.width) e.width=(cells.drop (i * e.width)).take e.width)
  (hF:∀ i,¬ Fs i b) (s:Nat):Rep h Pr (.sl e) (.own s mi) xs [.slice (some ⟨b,0,none⟩) xs.length cap] (fun z=>z=b∨∃ i,Fs i z):=by
 simp only[Rep]
 exact ⟨_,cap,rfl,hl,.inr ⟨b,cs,rfl,.inl rfl,hb,hcap,Fs,fun i=>⟨fun z hz=>.inr ⟨i,hz⟩,hF i⟩,k.dis,fun i hi=>by rw[hcs i hi];exact k.rep i hi⟩⟩
theorem qd9 {α:Type} (l:List α) (k i:Nat) (x d:α) (hk:k<l.length):(l.set k x).getD i d=if i=k then x else l.getD i d:=by
 simp only[List.getD,List.getElem?_set]
 by_cases e:k=i
 ·subst e;simp[hk]
 ·have:¬ i=k:=fun h=>e h.symm
  simp[e,this]
theorem q39 {h:Array Obj} {tmps:Array Value} {sl:List AV} {e:Ty} (ev:Operand→Value) :
  ∀ (l:List (Nat×Operand)) (rt:Rts) (g:Ghost) (H:BS) (Fs:Nat→BS) (m:Mk) (xs:List e.den) (cells:List Value) (ρ:Operand→AV) (m':Mk) (xs':List e.den) (rt':Rts),
   StRel h ⟨sl,rt⟩ g tmps H→El h g.Pr e m xs cells Fs→(∀ i,Sub (Fs i) H)→cells.length=xs.length * e.width→(∀ x,qf h ⟨sl,rt⟩ g (ρ x) (ev x))→
   qgd rt e (m,xs) (l.map fun p=>(p.1,ρ p.2))=some (m',xs',rt')→
   ∃ g' H' Fs' cells',StRel h ⟨sl,rt'⟩ g' tmps H'∧El h g'.Pr e m' xs' cells' Fs'∧(∀ i,Sub (Fs' i) H')∧cells'.length=xs'.length * e.width∧xs'.length=xs.length∧g'.Same g∧
    Instr.fill (fun i=>some (i * e.width,e.width)) cells.toArray (l.map fun p=>(p.1,ev p.2))=some cells'.toArray
 | [],rt,g,H,Fs,m,xs,cells,ρ,m',xs',rt',st,el,hF,hlen,hρ,hb=>by
  simp only[List.map_nil,qgd,Option.some.injEq,Prod.mk.injEq] at hb
  obtain ⟨rfl,rfl,rfl⟩:=hb
  exact ⟨g,H,Fs,cells,st,el,hF,hlen,rfl,.refl _,rfl⟩
 | (k,op)::l,rt,g,H,Fs,m,xs,cells,ρ,m',xs',rt',st,el,hF,hlen,hρ,hb=>by
  simp only[List.map_cons,qgd] at hb
  split at hb
  ·rename_i hk
   simp only[Option.bind_eq_some_iff] at hb
   obtain ⟨⟨m1,x1,rt1⟩,h2,hb⟩:=hb
   obtain ⟨c1,g1,F1,e1,tk1⟩:=qq2 (S:=⟨sl,rt⟩) _ st h2 (hρ op)
   have hl1:=Rep.width _ tk1.rep
   obtain ⟨hs1,hs2⟩:=Mk.meet_both m m1
   obtain ⟨Fs',D,q1,q2,q3,q4⟩:=(el.mono tk1.pr (fun _ _=>rfl) (fun _ _ _=>rfl)).serves hs1
   obtain ⟨Fa,Fb,p1,p2,p3,p4⟩:=Rep.serves e hs2 tk1.rep
   have hin:∀ b,(D b∨Fb b)→Un H F1 b:=by
    rintro b (hb' | hb')
    ·obtain ⟨i,hi⟩:=q2 b hb';exact .inl (hF i b hi)
    ·exact .inr (p2 b hb')
   have st2:=tk1.st.shareHand (fun b=>D b∨Fb b) hin
   have hfit:k * e.width+c1.length≤cells.length:=by
    rw[hl1,hlen]
    have:=Nat.mul_le_mul_right e.width (show k+1≤xs.length by exact hk)
    rw[Nat.succ_mul] at this;exact this
   let Fs2:Nat→BS:=fun i=>if i=k then Fa else Fs' i
   have hd1:∀ i,Dis F1 (Fs i):=fun i b hb1 hb2=>tk1.dis b hb1 (hF i b hb2)
   have el2:El h (Un g1.Pr fun b=>D b∨Fb b) e (m.meet m1) (xs.set k x1) (repl cells (k * e.width) c1) Fs2:=by
    refine ⟨fun i hi=>?_,fun i j hij=>?_⟩
    ·rw[List.length_set] at hi
     rw[qd9 _ _ _ _ _ hk]
     by_cases hik:i=k
     ·subst hik
      simp only[if_true,Fs2]
      have hsame:=qbin hfit
      rw[hl1] at hsame
      rw[hsame]
      exact Rep.mono (fun b hb'=>hb'.imp id .inr) (fun _ _=>rfl) e p4 (Sub.refl _) (fun _ _=>rfl)
     ·simp only[if_neg hik,Fs2]
      rw[qz6 hfit (by
       rw[hl1]
       rcases Nat.lt_or_ge i k with h3 | h3
       ·left
        have:=Nat.mul_le_mul_right e.width (show i+1≤k by exact h3)
        rw[Nat.succ_mul] at this;exact this
       ·right
        have:=Nat.mul_le_mul_right e.width (show k+1≤i by omega)
        rw[Nat.succ_mul] at this;exact this)]
      exact Rep.mono (fun b hb'=>hb'.imp id .inl) (fun _ _=>rfl) e (q4.rep i hi) (Sub.refl _) (fun _ _=>rfl)
    ·intro b hb1 hb2
     simp only[Fs2] at hb1 hb2
     by_cases h1:i=k
     ·rw[if_pos h1] at hb1
      rw[if_neg (fun h=>hij (h1.trans h.symm))] at hb2
      exact hd1 j b (p1 b hb1) (q1 j b hb2)
     ·rw[if_neg h1] at hb1
      by_cases h2:j=k
      ·rw[if_pos h2] at hb2
       exact hd1 i b (p1 b hb2) (q1 i b hb1)
      ·rw[if_neg h2] at hb2
       exact q4.dis i j hij b hb1 hb2
   have hF2:∀ i,Sub (Fs2 i) (fun b=>Un H F1 b∧¬ (D b∨Fb b)):=by
    intro i b hb'
    simp only[Fs2] at hb'
    split at hb'
    ·refine ⟨.inr (p1 b hb'),?_⟩
     rintro (h3 | h3)
     ·obtain ⟨j,hj⟩:=q2 b h3;exact hd1 j b (p1 b hb') hj
     ·exact p3 b hb' h3
    ·refine ⟨.inl (hF i b (q1 i b hb')),?_⟩
     rintro (h3 | h3)
     ·exact q3 i b hb' h3
     ·exact hd1 i b (p2 b h3) (q1 i b hb')
   obtain ⟨g',H',Fs3,cells',k1,k2,k3,k4,k5,k6,k7⟩:=q39 ev l rt1 _ _ Fs2 (m.meet m1) (xs.set k x1) (repl cells (k * e.width) c1) ρ m' xs' rt' st2 el2 hF2
    (by rw[qg3 hfit,List.length_set,hlen]) (fun x=>qsr tk1.st _ _ _ (tk1.kp _ _ (hρ x))) hb
   refine ⟨g',H',Fs3,cells',k1,k2,k3,k4,by rw[k5,List.length_set],tk1.same.trans (Ghost.Same.trans ⟨rfl,rfl,rfl⟩ k6),?_⟩
   have hcells:(ev op).cells.toList=c1:=by rw[e1,qjv tk1.rep]
   have hsize:(ev op).cells.size=e.width:=by rw[←Array.length_toList,hcells,hl1]
   simp only[List.map_cons,Instr.fill]
   have hfit2:k * e.width+(ev op).cells.size≤cells.toArray.size:=by
    rw[hsize];have:=hfit;rw[hl1] at this;simpa using this
   have hcond:((decide ((ev op).cells.size≠e.width))||decide (k * e.width+(ev op).cells.size>cells.toArray.size))=false:=by
    simp only[Bool.or_eq_false_iff,decide_eq_false_iff_not]
    exact ⟨fun h=>h hsize,by omega⟩
   have harr:(ev op).cells.zipIdx.foldl (fun cs (c,j)=>cs.setIfInBounds (k * e.width+j) c) cells.toArray=(repl cells (k * e.width) c1).toArray:=by
    apply Array.ext'
    rw[q95 hfit2,hcells]
   rw[harr]
   have:(if (decide ((ev op).cells.size≠e.width)||decide (k * e.width+(ev op).cells.size>cells.toArray.size))=true then (none:Option (Array Value))
     else Instr.fill (fun i=>some (i * e.width,e.width)) (repl cells (k * e.width) c1).toArray (l.map fun p=>(p.1,ev p.2)))=some cells'.toArray:=by
    rw[hcond];exact k7
   exact this
  ·simp at hb
theorem qbdj {e:Ty} (hp:0<e.width) {n:Nat} {i:Nat} (hi:(i+1) * e.width≤n):sub (madeCells (zc e).toArray n) (i * e.width) e.width=zc e:=by
 rw[Nat.succ_mul] at hi
 apply List.ext_getElem?
 intro j
 simp only[sub,List.getElem?_take,List.getElem?_drop]
 by_cases hj:j<e.width
 ·rw[if_pos hj]
  have h1:i * e.width+j<n:=by omega
  have h2:(i * e.width+j) % e.width=j:=by
   rw[Nat.mul_comm,Nat.mul_add_mod,Nat.mod_eq_of_lt hj]
  have h3:j<(zc e).length:=by rw[qju];exact hj
  simp[madeCells,h1,qju,h2,h3]
  rw[List.getElem?_eq_getElem h3];rfl
 ·rw[if_neg hj,List.getElem?_eq_none (by rw[qju];omega)]
theorem qbk7 {h:Array Obj} {Pr:BS} {e:Ty} (hp:0<e.width) (mi:Mk) (n:Nat):El h Pr e mi (List.replicate n e.zero) (madeCells (zc e).toArray (n * e.width)).toList (fun _=>Nil):=by
 refine ⟨fun i hi=>?_,fun i j _=>Dis.nil _⟩
 rw[List.length_replicate] at hi
 have e1:(List.replicate n e.zero).getD i e.zero=e.zero:=by simp[List.getD,hi]
 have:=qbdj (e:=e) hp (n:=n * e.width) (i:=i) (Nat.mul_le_mul_right _ hi)
 simp only[sub] at this
 rw[e1,this]
 exact Rep.zero e mi
section
variable {P:Program} {C:Ctx} {D:Den C} {S:St} {g:Ghost} {w:World} {tmps:Array Value} {a:Act} {ρ:Operand→AV}
variable {A:Asks} {site:Nat} {hint:Bool} (hty:qcg P C) (st:StRel w.heap S g tmps Nil) (hρ:∀ x,qf w.heap S g (ρ x) (a.eval x))
include hty st hρ
theorem q4l {T:Ty}:(mkV T (zc T)).cells=(zc T).toArray:=by apply Array.ext';rw[q6s]
theorem qbed {o:Oper} {t:TypeId} {x y:Operand} (ho:o.op=.makeSlice t x y) (ok:AOk A S o.dst site):Goal P C D S g w tmps a ρ A site hint o:=by
 intro ht
 simp only[opT,ho] at ht ⊢
 split at ht
 ·rename_i e l c hT hl hc
  have el:=qr0 hl (hρ x)
  have ec:=qr0 hc (hρ y)
  obtain ⟨u,h1,h2,h3⟩:=hty.desc hT
  have ku:=hty u h3
  obtain ⟨i,i1,i2,i3,i4⟩:=ku.info
  obtain ⟨⟨v,rt'⟩,hd⟩:=ht true
  by_cases hb:0≤l∧l≤c∧c≤(qeq:Int)
  ·have hd':(layT A S.rt o.dst site (.sl e) (.own 0 (Mk.top e)) (List.replicate l.toNat e.zero) false).dec true=some (v,rt'):=by
    have hcond:(decide (0≤l)&&decide (l≤c)&&decide (c≤(qeq:Int)))=true:=by rw[decide_eq_true hb.1,decide_eq_true hb.2.1,decide_eq_true hb.2.2];rfl
    rw[hcond] at hd;exact hd
   have hbn:(qeq:Int)=274877906944:=rfl
   have hbytes:(i.bytes:Int) * c≤281474976710656:=by
    have h5:(i.bytes:Int)≤255:=Int.ofNat_le.2 i4
    have h6:c≤274877906944:=by rw[←hbn];exact hb.2.2
    have h7:(i.bytes:Int) * c≤255 * c:=Int.mul_le_mul_of_nonneg_right h5 (by omega)
    omega
   have hrun:=run_make (P:=P) w t u i _ h1 i1 i3 .i64 .i64 l c hb.1 hb.2.1 hbytes (by rw[hbn] at hb;omega)
   rw[q4l hty st hρ,i2,h2] at hrun
   have hp:=ku.pos
   rw[h2] at hp
   have el0:El (w.heap.push (.cells (madeCells (zc e).toArray (c.toNat * e.width)) u)) g.Pr e (Mk.top e) (List.replicate l.toNat e.zero) (madeCells (zc e).toArray (c.toNat * e.width)).toList (fun _=>Nil):=by
    refine ⟨fun i hi=>?_,fun i j _=>Dis.nil _⟩
    rw[List.length_replicate] at hi
    have e1:(List.replicate l.toNat e.zero).getD i e.zero=e.zero:=by simp[List.getD,hi]
    have:=qbdj (e:=e) hp (n:=c.toNat * e.width) (i:=i) (Nat.mul_le_mul_right _ (by omega))
    simp only[sub] at this
    rw[e1,this]
    exact Rep.zero e _
   have s0:=st.pushRow (madeCells (zc e).toArray (c.toNat * e.width)) u
   have rep:=el0.row (b:=w.heap.size) qci.new (cap:=c.toNat) (by rw[size_madeCells];exact Nat.le_refl _) (by rw[List.length_replicate];omega) (fun i hi=>rfl) (fun i h=>h) 0
   obtain ⟨g2,s1,s2,s3⟩:=qod s0 rep (TagC.tagFree _ (by simp[Mk.tagFree,qfi,Mk.tagFree_top])) (fun b hb=>by rcases hb with rfl | ⟨_,hb⟩;exact .inr rfl;exact hb.elim) ok hd'
   rw[List.length_replicate] at s2
   refine Res.value (w':=w.alloc (.cells (madeCells (zc e).toArray (c.toNat * e.width)) u)) ?_ ⟨true,v,rt',hd,g2,s1,s2,s3,WFr.push _⟩
   simp[execOp,ho,el,ec,hrun,Sem.run_bind,mkV,Ty.agg]
  ·have:(decide (0≤l)&&decide (l≤c)&&decide (c≤(qeq:Int)))=false:=by
    simp only[Bool.and_eq_false_iff,decide_eq_false_iff_not];omega
   rw[this] at hd;simp[Tr.dec] at hd
 ·exact absurd ht Tot.fail
theorem qbay {o:Oper} {t:TypeId} {n:Nat} {parts:Array (Nat×Operand)} (ho:o.op=.buildSlice t n parts) (ok:AOk A S o.dst site):Goal P C D S g w tmps a ρ A site hint o:=by
 intro ht
 simp only[opT,ho] at ht ⊢
 split at ht
 ·rename_i e hT
  cases hb:qgd S.rt e (Mk.top e,List.replicate n e.zero) (parts.toList.map fun p=>(p.1,ρ p.2)) with
  | none=>rw[hb] at ht;exact absurd ht Tot.fail
  | some z=>
   obtain ⟨m,xs,rt1⟩:=z
   rw[hb] at ht
   simp only at ht ⊢
   by_cases hmm:(m.tagFree&&Nat.ble (n * e.width) 16777216)=true
   ·have hm:m.tagFree=true:=by simp only[Bool.and_eq_true] at hmm;exact hmm.1
    have hsm:n * e.width≤2 ^ 24:=by simp only[Bool.and_eq_true] at hmm;exact Nat.le_of_ble_eq_true hmm.2
    simp only[hmm,if_true] at ht ⊢
    obtain ⟨u,h1,h2,h3⟩:=hty.desc hT
    have ku:=hty u h3
    obtain ⟨i,i1,i2,i3,i4⟩:=ku.info
    have hp:=ku.pos
    rw[h2] at hp i2
    obtain ⟨g',H',Fs',cells',k1,k2,k3,k4,k5,k6,k7⟩:=q39 (sl:=S.sl) a.eval parts.toList S.rt g Nil (fun _=>Nil) (Mk.top e) (List.replicate n e.zero)
     (madeCells (zc e).toArray (n * e.width)).toList ρ m xs rt1 st (qbk7 hp _ n) (fun _=>Sub.nil _) (by simp[size_madeCells]) hρ hb
    rw[List.length_replicate] at k5
    have hrun:n * e.width≤2 ^ 24→(Instr.buildSlice t n (parts.map fun p=>(p.1,a.eval p.2))).run P w=.ok (.slice (some ⟨w.heap.size,0,none⟩) n n) { w with heap:=w.heap.push (.cells cells'.toArray u) }:=by
     intro hsm
     by_cases h0:n * i.size=0
     ·have hn0:n=0:=by
       rw[i2] at h0
       rcases Nat.mul_eq_zero.1 h0 with h | h
       ·exact h
       ·omega
      subst hn0
      have k7':Instr.fill (fun i=>some (i * e.width,e.width)) #[] (parts.toList.map fun p=>(p.1,a.eval p.2))=some cells'.toArray:=by
       have:(madeCells (zc e).toArray (0 * e.width)).toList.toArray = #[]:=by simp[madeCells]
       rw[←this];exact k7
      have e0:Array.range 0 = #[]:=rfl
      simp[Instr.buildSlice,run_underlying h1,sizeOf,typeInfo,i1,i2,e0,k7',newRow,newObj,Sem.run_bind,Sem.run]
     ·have:=run_buildSlice (P:=P) w t u n (parts.map fun p=>(p.1,a.eval p.2)) cells'.toArray i _ h1 i1 i3 (by rw[i2];omega) h0 (by
       rw[q4l hty st hρ,i2]
       have e2:((Array.range (n * e.width)).map fun x=>(zc e).toArray[x % (zc e).toArray.size]!)=(madeCells (zc e).toArray (n * e.width)).toList.toArray:=by rw[Array.toArray_toList];rfl
       rw[h2,e2]
       simpa using k7)
      exact this
    have s0:=k1.pushRow cells'.toArray u
    have hlim:∀ i b,Fs' i b→b<w.heap.size:=fun i b hb=>k1.limH b (k3 i b hb)
    have el0:El (w.heap.push (.cells cells'.toArray u)) g'.Pr e m xs cells' Fs':=
     k2.mono (Sub.refl _) (fun b hb=>qkd b (k1.limPr b hb)) (fun i b hb=>qkd b (hlim i b hb))
    have rep:=el0.row (b:=w.heap.size) qci.new (cap:=n) (by simp[k4,k5]) (by omega) (fun i hi=>by simp[sub])
     (fun i h=>Nat.lt_irrefl _ (hlim i _ h)) 0
    by_cases hh:hint=true
    ·simp only[hh,if_true] at ht ⊢
     by_cases hw:m.whole=true
     ·simp only[hw,if_true] at ht ⊢
      obtain ⟨g2,s1,s2,s3,_⟩:=qvb s0 rep (fun b hb=>by
       rcases hb with rfl | ⟨i,hb⟩
       ·exact .inr rfl
       ·exact .inl (k3 i b hb)) (by simpa [Mk.whole] using hw)
      refine Res.value (w':={ w with heap:=w.heap.push (.cells cells'.toArray u) }) ?_ ⟨true,_,_,rfl,g2,s1.lessHand (Sub.nil _),by simp only[qf];exact ⟨_,s2,rfl⟩,k6.trans s3,WFr.push _⟩
      rw[k5]
      simp[execOp,ho,hrun hsm,Sem.run_bind,mkV,Ty.agg]
     ·rw[if_neg hw] at ht;exact absurd ht Tot.fail
    ·rw[if_neg hh] at ht ⊢
     obtain ⟨⟨v,rt'⟩,hd⟩:=ht true
     obtain ⟨g2,s1,s2,s3⟩:=qod s0 rep (TagC.tagFree _ (by simp[Mk.tagFree,qfi,hm])) (fun b hb=>by
      rcases hb with rfl | ⟨i,hb⟩
      ·exact .inr rfl
      ·exact .inl (k3 i b hb)) ok hd
     rw[k5] at s2
     refine Res.value (w':={ w with heap:=w.heap.push (.cells cells'.toArray u) }) ?_ ⟨true,v,rt',hd,g2,s1,s2,k6.trans s3,WFr.push _⟩
     simp[execOp,ho,hrun hsm,Sem.run_bind,mkV,Ty.agg]
   ·rw[if_neg hmm] at ht;exact absurd ht Tot.fail
 ·exact absurd ht Tot.fail
end
end Go.V

namespace Go.V
noncomputable section
open Go
section
variable {P:Program} (w:World)
theorem qqw {ats:Array TypeId} {t t' u u' ty:TypeId} {i:TypeInfo} (h0:ats[0]? = some t) (h1:ats[1]? = some t') (ht:P.underlying t=some (.slice u)) (ht':P.underlying t'=some (.slice u'))
  (hi:P.info? u=some i) {xa:Option Addr} {n cap:Nat} {ya:Option Addr} {m c:Nat} {news:List Value}
  (hnews:(Builtin.firstCells i.size m (.slice ya m c)).run P w=.ok news.toArray w) (hroom:n+m≤cap)
  {w':World} (hst:∀ ad,xa=some ad→(storeCells (ad.add (n * i.size)) news).run P w=.ok () w') (hno:xa=none→w'=w) :
  (Builtin.append_ ats ty #[.slice xa n cap,.slice ya m c]).run P w=.ok (.slice xa (n+m) cap) w':=by
 cases xa with
 | none=>
  obtain rfl:=hno rfl
  simp[Builtin.append_,h0,h1,run_underlying ht,run_underlying ht',sizeOf,typeInfo,hi,Builtin.lenOf,hroom,hnews,Sem.run_bind]
 | some ad=>
  have:=hst ad rfl
  simp[Builtin.append_,h0,h1,run_underlying ht,run_underlying ht',sizeOf,typeInfo,hi,Builtin.lenOf,hroom,hnews,this,Sem.run_bind]
theorem q1v {ats:Array TypeId} {t t' u u' ty:TypeId} {i:TypeInfo} {z:Value} (h0:ats[0]? = some t) (h1:ats[1]? = some t') (ht:P.underlying t=some (.slice u)) (ht':P.underlying t'=some (.slice u'))
  (hi:P.info? u=some i) (hz:i.zero=some z) {xa:Option Addr} {n cap:Nat} {ya:Option Addr} {m c:Nat} {olds news:List Value}
  (hnews:(Builtin.firstCells i.size m (.slice ya m c)).run P w.drew=.ok news.toArray w.drew)
  (holds:(Builtin.firstCells i.size n (.slice xa n cap)).run P w.drew=.ok olds.toArray w.drew) (hg:cap<n+m) (h63:((n+m:Nat):Int)≤9223372036854775807)
  (hfit:Builtin.nextslicecap (n+m) cap * i.bytes≤281474976710656) :
  (Builtin.append_ ats ty #[.slice xa n cap,.slice ya m c]).run P w =
   .ok (.slice (some ⟨w.heap.size,0,none⟩) (n+m) (grownCap w (n+m) cap u))
    (w.drew.alloc (.cells (olds.toArray++news.toArray++Builtin.zeroCells z.cells (grownCap w (n+m) cap u - (n+m))) u)):=by
 have hn:¬ (n+m≤cap):=by omega
 have h63':¬ (9223372036854775807<((n:Int)+(m:Int))):=by omega
 have h48':¬ (281474976710656<Builtin.nextslicecap (n+m) cap * i.bytes):=by omega
 simp[Builtin.append_,h0,h1,run_underlying ht,run_underlying ht',sizeOf,typeInfo,zeroValue,hi,hz,Builtin.lenOf,hn,h63',h48',Question.forced,hnews,holds,newRow,grownCap]
 congr 2
 apply Array.ext'
 simp[List.append_assoc]
end
theorem qnr {P:Program} {w:World} {size n len cap:Nat} {ad:Option Addr} {cs:List Value} (hl:cs.length=n * size)
  (h:(n=0∧cs=[])∨∃ b o,ad=some ⟨b,o,none⟩∧w.rangeAt b o cs):(Builtin.firstCells size n (.slice ad len cap)).run P w=.ok cs.toArray w:=by
 rcases h with ⟨rfl,rfl⟩ | ⟨b,o,rfl,hr⟩
 ·cases ad with
  | none=>exact run_firstCells_none w size 0 len cap
  | some ad=>simp[Builtin.firstCells,loadCells,loadCellsFrom]
 ·exact run_firstCells_some w size n ⟨b,o,none⟩ len cap cs hl (fun j v hv=>by rw[Addr.add_mid];exact hr j v hv)
theorem qrb {w:World} {b o:Nat} {cs:List Value} (h:w.rangeAt b o cs):w.drew.rangeAt b o cs:=by simpa using h
def inMk:Mk→Mk
 | .own _ m=>m
 | _=>.no
theorem qblq {my m':Mk} (h:elMk my=some m'):my≠.gone∧(∀ a b,my≠.pr a b)∧inMk my=m':=by
 cases my with
 | no=>simp only[elMk,Option.some.injEq] at h;exact ⟨by simp,by simp,h⟩
 | own s m=>simp only[elMk,Option.some.injEq] at h;exact ⟨by simp,by simp,h⟩
 | gone=>simp[elMk] at h
 | pr a b=>simp[elMk] at h
theorem qpw {h:Array Obj} {Pr:BS} {e:Ty} {m:Mk} {xs:(Ty.sl e).den} {c:List Value} {F:BS} (hm:m≠.gone) (hp:∀ a b,m≠.pr a b) (rep:Rep h Pr (.sl e) m xs c F) :
  ∃ ad cap cells Fs,c=[.slice ad xs.length cap]∧cells.length=xs.length * e.width∧xs.length≤cap∧
   ((xs.length=0∧cells=[])∨∃ b o cs,ad=some ⟨b,o,none⟩∧Blk h b cs∧o+xs.length * e.width≤cs.size∧cells=sub cs o (xs.length * e.width))∧
   El h Pr e (inMk m) xs cells Fs∧(∀ i,Sub (Fs i) F)∧
   (∀ s m',m=.own s m'→cap=0∨∃ b cs,ad=some ⟨b,0,none⟩∧F b∧qci h b cs∧cap * e.width≤cs.size∧(∀ i,¬ Fs i b)∧cells=sub cs 0 (xs.length * e.width)):=by
 have hsub:∀ (cs:Array Value) (o i:Nat),i<xs.length→o+xs.length * e.width≤cs.size→((sub cs o (xs.length * e.width)).drop (i * e.width)).take e.width=sub cs (o+i * e.width) e.width:=by
  intro cs o i hi hs
  have:i * e.width+e.width≤xs.length * e.width:=by
   have:=Nat.mul_le_mul_right e.width (show i+1≤xs.length by exact hi)
   rw[Nat.succ_mul] at this;exact this
  simp only[sub,List.drop_take,List.drop_drop,List.take_take]
  congr 1
  omega
 cases m with
 | gone=>exact absurd rfl hm
 | pr a b=>exact absurd rfl (hp a b)
 | no=>
  simp only[Rep] at rep
  obtain ⟨ad,cap,rfl,hl,re⟩:=rep
  by_cases hne:xs=[]
  ·subst hne
   exact ⟨ad,cap,[],fun _=>Nil,rfl,by simp,hl,.inl ⟨rfl,rfl⟩,⟨fun i hi=>by simp at hi,fun i j _=>Dis.nil _⟩,fun i=>Sub.nil _,fun s m' e=>by simp at e⟩
  ·obtain ⟨b,o,cs,rfl,hp,hb,hs,re⟩:=re hne
   refine ⟨_,cap,sub cs o (xs.length * e.width),fun _=>Nil,rfl,qz4 hs,hl,.inr ⟨b,o,cs,rfl,hb,hs,rfl⟩,⟨fun i hi=>?_,fun i j _=>Dis.nil _⟩,fun i=>Sub.nil _,fun s m' e=>by simp at e⟩
   rw[hsub cs o i hi hs];exact re i hi
 | own s m'=>
  simp only[Rep] at rep
  obtain ⟨ad,cap,rfl,hl,re⟩:=rep
  rcases re with rfl | ⟨b,cs,rfl,fb,hb,hs,Fs,hFs,hdd,re⟩
  ·have hx:xs=[]:=List.length_eq_zero_iff.1 (by omega)
   subst hx
   exact ⟨ad,0,[],fun _=>Nil,rfl,by simp,hl,.inl ⟨rfl,rfl⟩,⟨fun i hi=>by simp at hi,fun i j _=>Dis.nil _⟩,fun i=>Sub.nil _,fun s m' e=>.inl rfl⟩
  ·have hfit:0+xs.length * e.width≤cs.size:=by
    have:=Nat.mul_le_mul_right e.width hl;omega
   refine ⟨_,cap,sub cs 0 (xs.length * e.width),Fs,rfl,qz4 hfit,hl,.inr ⟨b,0,cs,rfl,hb.blk,hfit,rfl⟩,⟨fun i hi=>?_,hdd⟩,fun i=>(hFs i).1,
    fun s m' e=>.inr ⟨b,cs,rfl,fb,hb,hs,fun i=>(hFs i).2,rfl⟩⟩
   rw[hsub cs 0 i hi hfit,Nat.zero_add];exact re i hi
end
end Go.V

namespace Go.V
open Go
theorem StRel.handWrite {h h2:Array Obj} {S:St} {g:Ghost} {tmps:Array Value} {H:BS} (st:StRel h S g tmps H) (hk:∀ b,b<h.size→¬ H b→h2[b]? = h[b]?) (hsz:h.size≤h2.size)
  (H2:BS) (hH2:∀ b,H2 b→H b∨(h.size≤b∧b<h2.size)):StRel h2 S g tmps H2:=by
 have kP:∀ b,g.Pr b→h2[b]? = h[b]?:=fun b hb=>hk b (st.limPr b hb) (fun hH=>st.handPr b hH hb)
 have kG:∀ r,(S.root r).isSome→∀ b,g.G r b→h2[b]? = h[b]?:=fun r h1 b hb=>hk b (st.limG r b h1 hb) (fun hH=>st.hand r h1 b hb hH)
 refine { len:=st.len,rlen:=st.rlen,slots:=?_,roots:=?_,dis:=st.dis,prot:=st.prot,hand:=?_,handPr:=?_,limPr:=?_,limG:=?_,limH:=?_,tag:=st.tag,own:=st.own,ownH:=?_,limL:=fun b hb=>st.limL b (by omega),p0:=st.p0,prL:=st.prL }
 ·intro t
  refine (qf.keep (Sub.refl _) kP _).1 _ (st.slots t) (AV.keeps_all (fun r p=>?_) (fun r p s=>?_) _)
  ·exact (qcu st (.inl rfl) rfl rfl (fun h1 b hb=>kG r h1 b hb)).1 p
  ·exact (qcu st (.inl rfl) rfl rfl (fun h1 b hb=>kG r h1 b hb)).2 p s
 ·intro r R hR
  have h1:(S.root r).isSome:=by rw[hR];rfl
  obtain ⟨F,q1,q2,q3,q4,q5⟩:=st.roots r R hR
  refine ⟨F,Rep.mono (Sub.refl _) kP _ q1 (Sub.refl _) (fun b hb=>kG r h1 b (q2 b hb)),q2,q3,?_,q5⟩
  intro hm
  obtain ⟨b,e1,e2,e3⟩:=q4 hm
  exact ⟨b,e1,e2,e3.congr (kG r h1 b e2)⟩
 ·intro r h1 b hb hz
  rcases hH2 b hz with h3 | h3
  ·exact st.hand r h1 b hb h3
  ·have:=st.limG r b h1 hb;omega
 ·intro b hz hb
  rcases hH2 b hz with h3 | h3
  ·exact st.handPr b h3 hb
  ·have:=st.limPr b hb;omega
 ·intro b hb;have:=st.limPr b hb;omega
 ·intro r b h1 hb;have:=st.limG r b h1 hb;omega
 ·intro b hz
  rcases hH2 b hz with h3 | h3
  ·have:=st.limH b h3;omega
  ·exact h3.2
 ·intro b hz
  rcases hH2 b hz with h3 | h3
  ·exact st.ownH b h3
  ·exact st.limL b h3.1
theorem El.append {h:Array Obj} {Pr:BS} {e:Ty} {mi:Mk} {xs ys:List e.den} {c1 c2:List Value} {F1 F2:Nat→BS} (k1:El h Pr e mi xs c1 F1) (k2:El h Pr e mi ys c2 F2)
  (hl1:c1.length=xs.length * e.width) (hl2:c2.length=ys.length * e.width) (hd:∀ i j,Dis (F1 i) (F2 j)) :
  El h Pr e mi (xs++ys) (c1++c2) (fun i=>if i<xs.length then F1 i else F2 (i - xs.length)):=by
 refine ⟨fun i hi=>?_,fun i j hij=>?_⟩
 ·rw[List.length_append] at hi
  by_cases h1:i<xs.length
  ·simp only[h1,if_true]
   have e1:(xs++ys).getD i e.zero=xs.getD i e.zero:=by simp[List.getD,List.getElem?_append_left h1]
   have hw:i * e.width+e.width≤c1.length:=by
    rw[hl1]
    have:=Nat.mul_le_mul_right e.width (show i+1≤xs.length by exact h1)
    rw[Nat.succ_mul] at this;exact this
   have e2:((c1++c2).drop (i * e.width)).take e.width=(c1.drop (i * e.width)).take e.width:=by
    rw[List.drop_append_of_le_length (by omega),List.take_append_of_le_length (by rw[List.length_drop];omega)]
   rw[e1,e2];exact k1.rep i h1
  ·simp only[h1,if_false]
   have e1:(xs++ys).getD i e.zero=ys.getD (i - xs.length) e.zero:=by simp[List.getD,List.getElem?_append_right (by omega:xs.length≤i)]
   have e2:(c1++c2).drop (i * e.width)=c2.drop ((i - xs.length) * e.width):=by
    have h3:c1.length≤i * e.width:=by rw[hl1];exact Nat.mul_le_mul_right _ (by omega)
    rw[List.drop_append,List.drop_eq_nil_of_le h3,List.nil_append,hl1,Nat.sub_mul]
   rw[e1,e2];exact k2.rep (i - xs.length) (by omega)
 ·intro b hb1 hb2
  by_cases h1:i<xs.length<;>by_cases h2:j<xs.length<;>simp only[h1,h2,if_true,if_false] at hb1 hb2
  ·exact k1.dis i j hij b hb1 hb2
  ·exact hd i _ b hb1 hb2
  ·exact hd j _ b hb2 hb1
  ·exact k2.dis _ _ (by omega) b hb1 hb2
theorem qtk {cs:Array Value} {l:List Value} {i w n:Nat} (h:cs.toList.take n=l) (hi:i * w+w≤n):sub cs (i * w) w=(l.drop (i * w)).take w:=by
 rw[←h]
 simp only[sub,List.drop_take,List.take_take]
 congr 1
 omega
section
variable {P:Program} {C:Ctx} {D:Den C} {S:St} {g:Ghost} {w:World} {tmps:Array Value} {a:Act} {ρ:Operand→AV}
variable {A:Asks} {site:Nat} {hint:Bool} (hty:qcg P C) (st:StRel w.heap S g tmps Nil) (hρ:∀ x,qf w.heap S g (ρ x) (a.eval x))
include hty st hρ
theorem qbh5 {o:Oper} {c:Call} {x y:Operand} {t t':TypeId} {e:Ty} (ho:o.op=.call c) (hc:c.callee=.builtin .append) (hargs:c.args = #[x,y])
  (h0:c.argTypes[0]? = some t) (h1:c.argTypes[1]? = some t') (hT:C.ty t=.sl e) (hT':C.ty t'=.sl e) (ok:AOk A S o.dst site)
  (ht:Tot (qpx A S.rt o.dst site e (ρ x) (ρ y))):Res P S g w tmps (qpx A S.rt o.dst site e (ρ x) (ρ y)) ((execOp a.eval o).run P w):=by
 unfold qpx at ht ⊢
 cases hx:tk S.rt (.sl e) (ρ x) with
 | none=>rw[hx] at ht;exact absurd ht Tot.fail
 | some z=>
  obtain ⟨mx,xs,rt1⟩:=z
  rw[hx] at ht
  cases mx with
  | own s m=>
   simp only at ht ⊢
   cases hy:tk rt1 (.sl e) (ρ y) with
   | none=>rw[hy] at ht;exact absurd ht Tot.fail
   | some z=>
    obtain ⟨my,ys,rt2⟩:=z
    rw[hy] at ht
    simp only at ht ⊢
    cases hmk:elMk my with
    | none=>rw[hmk] at ht;exact absurd ht Tot.fail
    | some m'=>
     rw[hmk] at ht
     simp only at ht ⊢
     by_cases htf:(m.meet m').tagFree=true
     ·simp only[htf,if_true] at ht ⊢
      obtain ⟨⟨v,rt'⟩,hd⟩:=ht true
      by_cases hbd:xs.length+ys.length≤qeq
      ·have hcond:decide (xs.length+ys.length≤qeq)=true:=decide_eq_true hbd
       rw[hcond] at hd ⊢
       have hd':(layT A rt2 o.dst site (.sl e) (.own 0 (m.meet m')) (xs++ys) false).dec true=some (v,rt'):=hd
       obtain ⟨c1,g1,F1,ev1,tk1⟩:=qq2 _ st hx (hρ x)
       obtain ⟨c2,g2,F2,ev2,tk2⟩:=qq2 (S:=⟨S.sl,rt1⟩) _ tk1.st hy (tk1.kp _ _ (hρ y))
       have rep1:Rep w.heap g2.Pr (.sl e) (.own s m) xs c1 F1:=Rep.mono tk2.pr (fun _ _=>rfl) _ tk1.rep (Sub.refl _) (fun _ _=>rfl)
       obtain ⟨ad1,cap1,cells1,Fs1,rfl,hl1,hlc1,hsrc1,el1,hFs1,hown1⟩:=qpw (by simp) (by simp) rep1
       obtain ⟨hmy1,hmy2,em'⟩:=qblq hmk
       obtain ⟨ad2,cap2,cells2,Fs2,rfl,hl2,hlc2,hsrc2,el2,hFs2,_⟩:=qpw hmy1 hmy2 tk2.rep
       rw[em'] at el2
       obtain ⟨hs1,hs2⟩:=Mk.meet_both m m'
       obtain ⟨Fs1',D1,p1,p2,p3,p4⟩:=el1.serves hs1
       obtain ⟨Fs2',D2,q1,q2,q3,q4⟩:=el2.serves hs2
       have h12:Dis F1 F2:=fun b hb1 hb2=>tk2.dis b hb2 (.inr hb1)
       have hD:∀ b,(D1 b∨D2 b)→Un (Un Nil F1) F2 b:=by
        rintro b (hb | hb)
        ·obtain ⟨i,hi⟩:=p2 b hb;exact .inl (.inr (hFs1 i b hi))
        ·obtain ⟨i,hi⟩:=q2 b hb;exact .inr (hFs2 i b hi)
       have st3:=tk2.st.shareHand (fun b=>D1 b∨D2 b) hD
       let g3:Ghost:={ g2 with Pr:=Un g2.Pr fun b=>D1 b∨D2 b }
       have ela:El w.heap g3.Pr e (m.meet m') xs cells1 Fs1':=p4.mono (fun b hb=>hb.imp id .inl) (fun _ _=>rfl) (fun _ _ _=>rfl)
       have elb:El w.heap g3.Pr e (m.meet m') ys cells2 Fs2':=q4.mono (fun b hb=>hb.imp id .inr) (fun _ _=>rfl) (fun _ _ _=>rfl)
       have el3:=El.append ela elb hl1 hl2 (fun i j b hb1 hb2=>h12 b (hFs1 i b (p1 i b hb1)) (hFs2 j b (q1 j b hb2)))
       generalize hFF:(fun i=>if i<xs.length then Fs1' i else Fs2' (i - xs.length))=FF at el3
       have hFFH:∀ i b,FF i b→Un (Un Nil F1) F2 b∧¬ (D1 b∨D2 b):=by
        intro i b hb
        rw[←hFF] at hb
        split at hb
        ·refine ⟨.inl (.inr (hFs1 i b (p1 i b hb))),?_⟩
         rintro (h3 | h3)
         ·exact p3 i b hb h3
         ·obtain ⟨j,hj⟩:=q2 b h3;exact h12 b (hFs1 i b (p1 i b hb)) (hFs2 j b hj)
        ·refine ⟨.inr (hFs2 _ b (q1 _ b hb)),?_⟩
         rintro (h3 | h3)
         ·obtain ⟨j,hj⟩:=p2 b h3;exact h12 b (hFs1 j b hj) (hFs2 _ b (q1 _ b hb))
         ·exact q3 _ b hb h3
       obtain ⟨u,hu1,hu2,hu3⟩:=hty.desc hT
       obtain ⟨u',hu1',_,_⟩:=hty.desc hT'
       have ku:=hty u hu3
       obtain ⟨i,i1,i2,i3,i4⟩:=ku.info
       have hp:=ku.pos
       rw[hu2] at i2 hp
       have evx:a.eval x=.slice ad1 xs.length cap1:=ev1
       have evy:a.eval y=.slice ad2 ys.length cap2:=ev2
       have hsame:g3.Same g:=tk1.same.trans (tk2.same.trans ⟨rfl,rfl,rfl⟩)
       have hsrc:∀ {ad:Option Addr} {n:Nat} {cells:List Value},((n=0∧cells=[])∨∃ b o cs,ad=some ⟨b,o,none⟩∧Blk w.heap b cs∧o+n * e.width≤cs.size∧cells=sub cs o (n * e.width))→
         (n=0∧cells=[])∨∃ b o,ad=some ⟨b,o,none⟩∧w.rangeAt b o cells:=by
        rintro ad n cells (h | ⟨b,o,cs,h1,h2,h3,h4⟩)
        ·exact .inl h
        ·exact .inr ⟨b,o,h1,h4 ▸ qie h2 h3⟩
       have hex:(execOp a.eval o).run P w=((Builtin.append_ c.argTypes o.type #[.slice ad1 xs.length cap1,.slice ad2 ys.length cap2]).run P w).andThen fun a w'=>.ok (.value a) w':=by
        simp[execOp,ho,resolve,hc,invoke,builtin,hargs,evx,evy,Sem.run_bind]
       have hone2:∀ u∈cells2,u.oneCell'=true:=by
        intro u hu
        obtain ⟨k,hk,rfl⟩:=List.getElem_of_mem hu
        have hk2:k / e.width<ys.length:=by rw[hl2] at hk;exact Nat.div_lt_of_lt_mul (by rw[Nat.mul_comm];exact hk)
        have r:=el2.rep (k / e.width) hk2
        refine Rep.one _ r _ ?_
        have h3:k / e.width * e.width+k % e.width=k:=by rw[Nat.mul_comm];exact Nat.div_add_mod k e.width
        have h4:k % e.width<e.width:=Nat.mod_lt _ hp
        rw[List.mem_iff_getElem?]
        refine ⟨k % e.width,?_⟩
        rw[List.getElem?_take,if_pos h4,List.getElem?_drop,h3,List.getElem?_eq_getElem hk]
       have hlen:(xs++ys).length=xs.length+ys.length:=List.length_append
       have hcl:(cells1++cells2).length=(xs.length+ys.length) * e.width:=by rw[List.length_append,hl1,hl2,Nat.add_mul]
       have hn2:=qnr (P:=P) (w:=w) (size:=e.width) (n:=ys.length) (len:=ys.length) (cap:=cap2) (ad:=ad2) hl2 (hsrc hsrc2)
       rw[←i2] at hn2
       by_cases hroom:xs.length+ys.length≤cap1
       ·rcases hown1 s m rfl with hc0 | ⟨b,cs,hadb,hbF,hbo,hcapb,hFsb,hc1⟩
        ·have hx0:xs=[]:=List.length_eq_zero_iff.1 (by omega)
         have hy0:ys=[]:=List.length_eq_zero_iff.1 (by omega)
         subst hx0;subst hy0
         have hc2:cells2=[]:=List.length_eq_zero_iff.1 (by rw[hl2];simp)
         subst hc2
         have hr:=qqw (P:=P) w (ty:=o.type) h0 h1 hu1 hu1' i1 hn2 hroom (w':=w) (xa:=ad1) (fun ad _=>by simp[storeCells]) (fun _=>rfl)
         have rep3:Rep w.heap g3.Pr (.sl e) (.own 0 (m.meet m')) ([]++[]) [.slice ad1 (([]:List e.den).length+([]:List e.den).length) cap1] Nil:=by
          simp only[Rep]
          exact ⟨ad1,cap1,rfl,by simp,.inl hc0⟩
         obtain ⟨g4,s1,s2,s3⟩:=qod (S:=S) (g1:=g3) st3 rep3 (TagC.tagFree _ (by simp[Mk.tagFree,htf,qfi])) (Sub.nil _) ok hd'
         exact Res.value (w':=w) (by rw[hex,hr];rfl) ⟨true,v,rt',hd,g4,s1,s2,hsame.trans s3,.refl _ _⟩
        ·subst hadb
         have hfit:xs.length * e.width+cells2.length≤cs.size:=by
          rw[hl2,←Nat.add_mul]
          exact Nat.le_trans (Nat.mul_le_mul_right _ hroom) hcapb
         have hstore:(storeCells (⟨b,xs.length * e.width,none⟩:Addr) cells2).run P w=.ok () (w.setCells b (xs.length * e.width) cells2):=by
          have th:=qtr (w:=w) hbo hfit
          have:=run_storeCells_cells (P:=P) b (xs.length * e.width) cells2 0 w (fun j hj=>by simpa using (th j hj).1) (fun j hj=>by simpa using (th j hj).2) hone2
          simpa using this
         have hr:=qqw (P:=P) w (ty:=o.type) h0 h1 hu1 hu1' i1 hn2 hroom (w':=w.setCells b (xs.length * e.width) cells2) (xa:=some ⟨b,0,none⟩)
          (fun ad e0=>by simp only[Option.some.injEq] at e0;subst e0;rw[Addr.add_mid,Nat.zero_add,i2];exact hstore) (fun h=>by simp at h)
         have hother:∀ b',b'≠b→(w.setCells b (xs.length * e.width) cells2).heap[b']? = w.heap[b']?:=fun b' hb'=>qfy cells2 _ w b' hb'
         have hbH:Un (Un Nil F1) F2 b:=.inl (.inr hbF)
         have hnD:¬ (D1 b∨D2 b):=by
          rintro (h3 | h3)
          ·obtain ⟨j,hj⟩:=p2 b h3;exact hFsb j hj
          ·obtain ⟨j,hj⟩:=q2 b h3;exact h12 b hbF (hFs2 j b hj)
         have hFFb:∀ i,¬ FF i b:=by
          intro i hb
          rw[←hFF] at hb
          split at hb
          ·exact hFsb i (p1 i b hb)
          ·exact h12 b hbF (hFs2 _ b (q1 _ b hb))
         have hPb:¬ g3.Pr b:=fun h=>st3.handPr b ⟨hbH,hnD⟩ h
         have st4:=st3.handWrite (h2:=(w.setCells b (xs.length * e.width) cells2).heap) (fun b' _ hb'=>hother b' (fun e0=>hb' (e0 ▸ ⟨hbH,hnD⟩))) (by rw[qct];exact Nat.le_refl _)
          (fun b=>Un (Un Nil F1) F2 b∧¬ (D1 b∨D2 b)) (fun b' hb'=>.inl hb')
         obtain ⟨ty,lo,hi,he,hfz⟩:=hbo
         obtain ⟨cs2,hcs2,hcs2l⟩:=qtf cells2 (xs.length * e.width) w cs he hfit
         have hsz2:cs2.size=cs.size:=by rw[←Array.length_toList,hcs2l,qg3 (by simpa using hfit),Array.length_toList]
         have hob2:qci (w.setCells b (xs.length * e.width) cells2).heap b cs2:=⟨ty,lo,hi,hcs2,fun i hi'=>hfz i (by omega)⟩
         have htake:cs2.toList.take ((xs.length+ys.length) * e.width)=cells1++cells2:=by
          have hmin:min (xs.length * e.width) cs.toList.length=xs.length * e.width:=by
           have h7:cs.toList.length=cs.size:=Array.length_toList
           omega
          rw[hcs2l,hc1]
          simp only[repl,sub,List.drop_zero]
          rw[List.take_append_of_le_length (by
           rw[List.length_append,List.length_take,hl2,hmin,Nat.add_mul];exact Nat.le_refl _)]
          rw[List.take_of_length_le (by
           rw[List.length_append,List.length_take,hl2,hmin,Nat.add_mul];exact Nat.le_refl _)]
         have el4:El (w.setCells b (xs.length * e.width) cells2).heap g3.Pr e (m.meet m') (xs++ys) (cells1++cells2) FF:=
          el3.mono (Sub.refl _) (fun b' hb'=>hother b' (fun e0=>hPb (e0 ▸ hb'))) (fun i b' hb'=>hother b' (fun e0=>hFFb i (e0 ▸ hb')))
         have rep4:=el4.row hob2 (cap:=cap1) (by rw[hsz2];exact hcapb) (by rw[hlen];exact hroom)
          (fun i hi'=>qtk htake (by
           rw[hlen] at hi'
           have:=Nat.mul_le_mul_right e.width (show i+1≤xs.length+ys.length by exact hi')
           rw[Nat.succ_mul] at this;exact this)) hFFb 0
         rw[hlen] at rep4
         obtain ⟨g4,s1,s2,s3⟩:=qod (S:=S) (g1:=g3) st4 rep4 (TagC.tagFree _ (by simp[Mk.tagFree,htf,qfi]))
          (fun b' hb'=>by rcases hb' with rfl | ⟨i,hb'⟩;exact ⟨hbH,hnD⟩;exact hFFH i b' hb') ok hd'
         have hrest:=qjc (b:=b) cells2 (xs.length * e.width) w
         have hbL:g.L b:=by
          have:=tk2.st.ownH b hbH
          rw[(tk1.same.trans tk2.same).2.1] at this;exact this
         exact Res.value (w':=w.setCells b (xs.length * e.width) cells2) (by rw[hex,hr];rfl) ⟨true,v,rt',hd,g4,s1,s2,hsame.trans s3,
          ⟨hrest.1,hrest.2.1,hrest.2.2,by rw[qct];exact Nat.le_refl _,fun b' _ hb'=>hother b' (fun e0=>hb' (e0 ▸ hbL))⟩⟩
       ·have hbd2:xs.length+ys.length≤274877906944:=hbd
        have hn2d:=qnr (P:=P) (w:=w.drew) (size:=e.width) (n:=ys.length) (len:=ys.length) (cap:=cap2) (ad:=ad2) hl2 (by
         rcases hsrc hsrc2 with h | ⟨b,o',h3,h4⟩
         ·exact .inl h
         ·exact .inr ⟨b,o',h3,qrb h4⟩)
        have hn1d:=qnr (P:=P) (w:=w.drew) (size:=e.width) (n:=xs.length) (len:=xs.length) (cap:=cap1) (ad:=ad1) hl1 (by
         rcases hsrc hsrc1 with h | ⟨b,o',h3,h4⟩
         ·exact .inl h
         ·exact .inr ⟨b,o',h3,qrb h4⟩)
        rw[←i2] at hn2d hn1d
        have hg:cap1<xs.length+ys.length:=by omega
        have hnx:=Room.nextslicecap_le' (need:=xs.length+ys.length) (old:=cap1) hg
        have hfit:Builtin.nextslicecap (xs.length+ys.length) cap1 * i.bytes≤281474976710656:=by
         have h5:Builtin.nextslicecap (xs.length+ys.length) cap1 * i.bytes≤549755813888 * 255:=Nat.mul_le_mul (by omega) i4
         omega
        have hr:=q1v (P:=P) w (ty:=o.type) h0 h1 hu1 hu1' i1 i3 hn2d hn1d hg (by omega) hfit
        have hge:=grownCap_ge w (xs.length+ys.length) cap1 u
        generalize grownCap w (xs.length+ys.length) cap1 u=cap' at hr hge
        generalize hcc:(cells1.toArray++cells2.toArray++Builtin.zeroCells (mkV (C.ty u) (zc (C.ty u))).cells (cap' - (xs.length+ys.length)))=cs at hr
        have hcsl:cs.toList.take ((xs.length+ys.length) * e.width)=cells1++cells2:=by
         rw[←hcc]
         simp only[Array.toList_append,List.append_assoc]
         rw[←List.append_assoc,List.take_append_of_le_length (by rw[hcl];exact Nat.le_refl _),List.take_of_length_le (by rw[hcl];exact Nat.le_refl _)]
        have hcss:cs.size=cap' * e.width:=by
         rw[←hcc]
         have hz:(mkV (C.ty u) (zc (C.ty u))).cells.size=e.width:=by rw[q4l hty st hρ,hu2];simp[qju]
         have h9:cells1.length+cells2.length=(xs.length+ys.length) * e.width:=by rw[←List.length_append];exact hcl
         simp only[Array.size_append,List.size_toArray,size_zeroCells,hz,h9]
         rw[←Nat.add_mul]
         congr 1
         omega
        have st4:=st3.pushRow cs u
        have hFFl:∀ i b,FF i b→b<w.heap.size:=fun i b hb=>st3.limH b (hFFH i b hb)
        have el4:El (w.heap.push (.cells cs u)) g3.Pr e (m.meet m') (xs++ys) (cells1++cells2) FF:=
         el3.mono (Sub.refl _) (fun b hb=>qkd b (st3.limPr b hb)) (fun i b hb=>qkd b (hFFl i b hb))
        have rep4:=el4.row (b:=w.heap.size) qci.new (cap:=cap') (by rw[hcss];exact Nat.le_refl _) (by rw[hlen];exact hge)
          (fun i hi'=>qtk hcsl (by
           rw[hlen] at hi'
           have:=Nat.mul_le_mul_right e.width (show i+1≤xs.length+ys.length by exact hi')
           rw[Nat.succ_mul] at this;exact this)) (fun i hb=>Nat.lt_irrefl _ (hFFl i _ hb)) 0
        rw[hlen] at rep4
        obtain ⟨g4,s1,s2,s3⟩:=qod (S:=S) (g1:=g3) st4 rep4 (TagC.tagFree _ (by simp[Mk.tagFree,htf,qfi]))
          (fun b' hb'=>by rcases hb' with rfl | ⟨i,hb'⟩;exact .inr rfl;exact .inl (hFFH i b' hb')) ok hd'
        refine Res.value (w':=w.drew.alloc (.cells cs u)) (by rw[hex,hr];rfl) ⟨true,v,rt',hd,g4,s1,s2,hsame.trans s3,?_⟩
        exact ⟨rfl,rfl,rfl,by show w.heap.size≤(w.heap.push _).size;simp,fun b hb _=>qkd b hb⟩
      ·have hcond:decide (xs.length+ys.length≤qeq)=false:=decide_eq_false hbd
       rw[hcond] at hd;simp[Tr.dec] at hd
     ·rw[if_neg htf] at ht;exact absurd ht Tot.fail
  | _=>exact absurd ht Tot.fail
end
end Go.V

namespace Go.V
open Go
theorem qbj8 {h h2:Array Obj} {base:Base} {v:Value} {F:BS} (hq:qny h base [v] F) (hk:∀ b o,base=some (b,o)→h2[b]? = h[b]?):Upd h h2 base [v]:=by
 intro b' o e cs' hob'
 obtain ⟨hnF,cs3,hob3,hfit3,hsub3⟩:=hq b' o e
 refine ⟨cs',hob'.congr (hk b' o e),?_⟩
 have:=hob'.uniq hob3
 subst this
 have hr:=qxv (c:=cs'.toList) (n:=o) (k:=1) (by rw[Array.length_toList];exact hfit3)
 have hs3:(cs'.toList.drop o).take 1=[v]:=hsub3
 rw[hs3] at hr
 exact hr.symm
theorem qyc:∀ {m:Mk},m.still=true→m.whole=true
 | .no,_=>rfl
 | .gone,h=>by simp[Mk.still] at h
 | .own _ _,h=>by simp[Mk.still] at h
 | .pr a b,h=>by
  simp only[Mk.still,Bool.and_eq_true] at h
  simp only[Mk.whole,Bool.and_eq_true]
  exact ⟨qyc h.1,qyc h.2⟩
theorem qbcq {h:Array Obj} {Pr:BS} {e:Ty} {l:List e.den} {cells:List Value} {b cap:Nat} {cs:Array Value} (hp:Pr b) (hb:Blk h b cs) (hfit:l.length * e.width≤cs.size) (hcap:l.length≤cap)
  (htk:∀ i,i<l.length→sub cs (i * e.width) e.width=(cells.drop (i * e.width)).take e.width) (el:∀ i,i<l.length→Rep h Pr e .no (l.getD i e.zero) ((cells.drop (i * e.width)).take e.width) Nil) :
  Rep h Pr (.sl e) .no l [.slice (some ⟨b,0,none⟩) l.length cap] Nil:=by
 simp only[Rep]
 exact ⟨_,cap,rfl,hcap,fun _=>⟨b,0,cs,rfl,hp,hb,by omega,fun i hi=>by rw[Nat.zero_add,htk i hi];exact el i hi⟩⟩
section
variable {P:Program} {C:Ctx} {D:Den C} {S:St} {g:Ghost} {w:World} {tmps:Array Value} {a:Act} {ρ:Operand→AV}
variable {A:Asks} {site:Nat} {hint:Bool} (hty:qcg P C) (st:StRel w.heap S g tmps Nil) (hρ:∀ x,qf w.heap S g (ρ x) (a.eval x))
include hty st hρ
theorem qbkm {o:Oper} {c:Call} {x y:Operand} {t t':TypeId} {e:Ty} (ho:o.op=.call c) (hc:c.callee=.builtin .append) (hargs:c.args = #[x,y])
  (h0:c.argTypes[0]? = some t) (h1:c.argTypes[1]? = some t') (hT:C.ty t=.sl e) (hT':C.ty t'=.sl e)
  {r:Nat} {p:Path} {R:Root} {s:Nat} {m:Mk} {xs ys:List e.den} (hvx:ρ x=.brw r p s) (hvy:ρ y=.val (.sl e) ys) (hR:S.root r=some R) (hf:focus R.ty R.ms R.x p=some ⟨.sl e,.own s m,xs⟩)
  (hm:m.still=true) {m':Mk} {x':R.ty.den} (hput:put R.ty R.ms R.x p (.sl e) .no xs=some (m',x')) (hbd:xs.length+ys.length≤qeq) :
  ∃ val w',(execOp a.eval o).run P w=.ok (.value val) w'∧Post S g w tmps (.val (.sl e) (xs++ys)) (S.setRoot r (some { R with ms:=m',x:=x' })).rt val w':=by
 have hx:=hρ x
 have hy:=hρ y
 rw[hvx] at hx
 rw[hvy] at hy
 simp only[qf] at hx hy
 obtain ⟨c2,repy,evy⟩:=hy
 obtain ⟨hin,base0,hat⟩:=hx R hR e m xs hf
 obtain ⟨base,c0,F,q1,rep1,q3,q4,q5,q6⟩:=st.updateD hR hf hin
 rw[hat] at q1
 simp only[Option.some.injEq,Prod.mk.injEq] at q1
 obtain ⟨rfl,rfl⟩:=q1
 have hisr:(S.root r).isSome:=by rw[hR];rfl
 obtain ⟨ad1,cap1,cells1,Fs1,ec1,hl1,hlc1,hsrc1,el1,hFs1,hown1⟩:=qpw (by simp) (by simp) rep1
 simp only[List.cons.injEq,and_true] at ec1
 rw[ec1] at q4 q6 rep1
 obtain ⟨ad2,cap2,cells2,Fs2,rfl,hl2,hlc2,hsrc2,el2,hFs2,_⟩:=qpw (by simp) (by simp) repy
 obtain ⟨u,hu1,hu2,hu3⟩:=hty.desc hT
 obtain ⟨u',hu1',_,_⟩:=hty.desc hT'
 have ku:=hty u hu3
 obtain ⟨i,i1,i2,i3,i4⟩:=ku.info
 have hp:=ku.pos
 rw[hu2] at i2 hp
 have evy':a.eval y=.slice ad2 ys.length cap2:=evy
 have hwhole:(Mk.own s m).whole=true:=by
  show m.whole=true
  exact qyc hm
 have hsrc:∀ {ad:Option Addr} {n:Nat} {cells:List Value},((n=0∧cells=[])∨∃ b o cs,ad=some ⟨b,o,none⟩∧Blk w.heap b cs∧o+n * e.width≤cs.size∧cells=sub cs o (n * e.width))→
   (n=0∧cells=[])∨∃ b o,ad=some ⟨b,o,none⟩∧w.rangeAt b o cells:=by
  rintro ad n cells (h | ⟨b,o,cs,h1,h2,h3,h4⟩)
  ·exact .inl h
  ·exact .inr ⟨b,o,h1,h4 ▸ qie h2 h3⟩
 have hex:(execOp a.eval o).run P w=((Builtin.append_ c.argTypes o.type #[.slice ad1 xs.length cap1,.slice ad2 ys.length cap2]).run P w).andThen fun a w'=>.ok (.value a) w':=by
  simp[execOp,ho,resolve,hc,invoke,builtin,hargs,ec1,evy',Sem.run_bind]
 have hone2:∀ u∈cells2,u.oneCell'=true:=by
  intro u hu
  obtain ⟨k,hk,rfl⟩:=List.getElem_of_mem hu
  have hk2:k / e.width<ys.length:=by rw[hl2] at hk;exact Nat.div_lt_of_lt_mul (by rw[Nat.mul_comm];exact hk)
  have r:=el2.rep (k / e.width) hk2
  refine Rep.one _ r _ ?_
  have h3:k / e.width * e.width+k % e.width=k:=by rw[Nat.mul_comm];exact Nat.div_add_mod k e.width
  have h4:k % e.width<e.width:=Nat.mod_lt _ hp
  rw[List.mem_iff_getElem?]
  refine ⟨k % e.width,?_⟩
  rw[List.getElem?_take,if_pos h4,List.getElem?_drop,h3,List.getElem?_eq_getElem hk]
 have hlen:(xs++ys).length=xs.length+ys.length:=List.length_append
 have hcl:(cells1++cells2).length=(xs.length+ys.length) * e.width:=by rw[List.length_append,hl1,hl2,Nat.add_mul]
 have hn2:=qnr (P:=P) (w:=w) (size:=e.width) (n:=ys.length) (len:=ys.length) (cap:=cap2) (ad:=ad2) hl2 (hsrc hsrc2)
 rw[←i2] at hn2
 have repS:Rep w.heap (Un g.Pr F) (.sl e) .no xs [.slice ad1 xs.length cap1] Nil:=Rep.share _ hwhole rep1
 -- the elements,shared
 have elx:∀ k,k<xs.length→Rep w.heap g.Pr e .no (xs.getD k e.zero) ((cells1.drop (k * e.width)).take e.width) Nil:=fun k hk=>Rep.no_room e hm (el1.rep k hk)
 have ely:∀ k,k<ys.length→Rep w.heap g.Pr e .no (ys.getD k e.zero) ((cells2.drop (k * e.width)).take e.width) Nil:=fun k hk=>Rep.no_room e rfl (el2.rep k hk)
 have elxy:∀ k,k<(xs++ys).length→Rep w.heap g.Pr e .no ((xs++ys).getD k e.zero) (((cells1++cells2).drop (k * e.width)).take e.width) Nil:=by
  have h:=El.append (h:=w.heap) (Pr:=g.Pr) (e:=e) (mi:=.no) (xs:=xs) (ys:=ys) (c1:=cells1) (c2:=cells2) (F1:=fun _=>Nil) (F2:=fun _=>Nil) ⟨elx,fun _ _ _=>Dis.nil _⟩ ⟨ely,fun _ _ _=>Dis.nil _⟩ hl1 hl2 (fun _ _=>Dis.nil _)
  intro k hk
  have:=h.rep k hk
  exact Rep.mono (Sub.refl _) (fun _ _=>rfl) _ this (by intro b hb;split at hb<;>exact hb) (fun _ _=>rfl)
 have hFG:∀ b,F b→g.G r b:=q3
 have hPF:∀ b,g.Pr b→¬ F b:=fun b hb hF=>st.prot r hisr b (q3 b hF) hb
 -- the state behind
 have fin:∀ (h2:Array Obj) (Dd:BS),(∀ b,b<w.heap.size→¬ F b→h2[b]? = w.heap[b]?)→w.heap.size≤h2.size→(∀ b,F b→Dd b)→(∀ b,Dd b→F b∨w.heap.size≤b)→(∀ b,Dd b→b<h2.size)→
   Rep h2 (Un g.Pr Dd) (.sl e) .no xs [.slice ad1 xs.length cap1] Nil→∀ val,(∃ c3,Rep h2 (Un g.Pr Dd) (.sl e) .no (xs++ys) c3 Nil∧val=mkV (.sl e) c3)→
   ∃ g',StRel h2 (S.setRoot r (some { R with ms:=m',x:=x' })) g' tmps Nil∧qf h2 (S.setRoot r (some { R with ms:=m',x:=x' })) g' (.val (.sl e) (xs++ys)) val∧g'.Same g:=by
  intro h2 Dd k1 k2 k3 k4 k5 k6 val hval
  obtain ⟨g2,s1,s2,s3,s4,s5,s6,s7⟩:=q6 0 0 h2 .no xs [.slice ad1 xs.length cap1] Nil Dd m' x' (fun u=>qh1 _) (fun b hb hF _=>k1 b hb hF) k2
   (qbj8 q4 fun b o e0=>k1 b (st.limG r b hisr (q5 b o e0)) (q4 b o e0).1) k6 (fun b _ h=>h.elim) (fun b hb=>by
    rcases hb with hb | hb
    ·exact hb.elim
    ·rcases k4 b hb with h | h
     ·exact .inl h
     ·exact .inr (.inr h)) (fun b hb=>hb.elim (fun h=>h.elim) (k5 b)) hput trivial (by simp only[TagC]) (fun _=>rfl)
   (by
    intro p' t1 n1 _ hfm _
    cases p' with
    | nil=>
     simp only[qx,Option.some.injEq,Prod.mk.injEq] at hfm
     obtain ⟨rfl,rfl⟩:=hfm
     exact ⟨trivial,fun bp cp ha=>⟨cp,by simp only[atP] at ha ⊢;exact ha,fun _ _ _ _=>rfl⟩⟩
    | cons z p'=>cases z<;>simp[qx] at hfm)
  obtain ⟨c3,r3,ev3⟩:=hval
  refine ⟨g2,s1.lessHand (Sub.nil _),?_,s4⟩
  simp only[qf]
  exact ⟨c3,Rep.mono (fun b hb=>hb.elim (s2 b) (s3 b)) (fun _ _=>rfl) _ r3 (Sub.refl _) (fun _ _=>rfl),ev3⟩
 by_cases hroom:xs.length+ys.length≤cap1
 ·rcases hown1 s m rfl with hc0 | ⟨b,cs,hadb,hbF,hbo,hcapb,hFsb,hc1⟩
  ·have hx0:xs.length=0:=by omega
   have hy0:ys.length=0:=by omega
   have hc2:cells2=[]:=List.length_eq_zero_iff.1 (by rw[hl2,hy0];simp)
   have hr:=qqw (P:=P) w (ty:=o.type) h0 h1 hu1 hu1' i1 hn2 hroom (w':=w) (xa:=ad1) (fun ad _=>by rw[hc2];simp[storeCells]) (fun _=>rfl)
   obtain ⟨g',z1,z2,z3⟩:=fin w.heap F (fun _ _ _=>rfl) (Nat.le_refl _) (fun _ h=>h) (fun _ h=>.inl h) (fun b h=>st.limG r b hisr (q3 b h)) repS (.slice ad1 (xs.length+ys.length) cap1)
    ⟨[.slice ad1 (xs++ys).length cap1],by
     simp only[Rep]
     exact ⟨ad1,cap1,rfl,by rw[hlen];exact hroom,fun hne=>absurd (List.length_eq_zero_iff.1 (by rw[hlen];omega)) hne⟩,by rw[hlen];rfl⟩
   exact ⟨_,_,by rw[hex,hr];rfl,g',z1,z2,z3,.refl _ _⟩
  ·subst hadb
   have hfit:xs.length * e.width+cells2.length≤cs.size:=by
    rw[hl2,←Nat.add_mul]
    exact Nat.le_trans (Nat.mul_le_mul_right _ hroom) hcapb
   have hstore:(storeCells (⟨b,xs.length * e.width,none⟩:Addr) cells2).run P w=.ok () (w.setCells b (xs.length * e.width) cells2):=by
    have th:=qtr (w:=w) hbo hfit
    have:=run_storeCells_cells (P:=P) b (xs.length * e.width) cells2 0 w (fun j hj=>by simpa using (th j hj).1) (fun j hj=>by simpa using (th j hj).2) hone2
    simpa using this
   have hr:=qqw (P:=P) w (ty:=o.type) h0 h1 hu1 hu1' i1 hn2 hroom (w':=w.setCells b (xs.length * e.width) cells2) (xa:=some ⟨b,0,none⟩)
    (fun ad e0=>by simp only[Option.some.injEq] at e0;subst e0;rw[Addr.add_mid,Nat.zero_add,i2];exact hstore) (fun h=>by simp at h)
   have hother:∀ b',b'≠b→(w.setCells b (xs.length * e.width) cells2).heap[b']? = w.heap[b']?:=fun b' hb'=>qfy cells2 _ w b' hb'
   have hbo':=hbo
   obtain ⟨ty,lo,hi,he,hfz⟩:=hbo
   obtain ⟨cs2,hcs2,hcs2l⟩:=qtf cells2 (xs.length * e.width) w cs he hfit
   have hsz2:cs2.size=cs.size:=by rw[←Array.length_toList,hcs2l,qg3 (by simpa using hfit),Array.length_toList]
   have hblk2:Blk (w.setCells b (xs.length * e.width) cells2).heap b cs2:=⟨ty,(lo,hi),hcs2⟩
   have htake:cs2.toList.take ((xs.length+ys.length) * e.width)=cells1++cells2:=by
    have hmin:min (xs.length * e.width) cs.toList.length=xs.length * e.width:=by
     have h7:cs.toList.length=cs.size:=Array.length_toList
     omega
    rw[hcs2l,hc1]
    simp only[repl,sub,List.drop_zero]
    rw[List.take_append_of_le_length (by
     rw[List.length_append,List.length_take,hl2,hmin,Nat.add_mul];exact Nat.le_refl _)]
    rw[List.take_of_length_le (by
     rw[List.length_append,List.length_take,hl2,hmin,Nat.add_mul];exact Nat.le_refl _)]
   have hmono:∀ {t:Ty} {z:t.den} {c:List Value},Rep w.heap g.Pr t .no z c Nil→Rep (w.setCells b (xs.length * e.width) cells2).heap (Un g.Pr F) t .no z c Nil:=fun h=>
    Rep.mono (fun b' hb'=>.inl hb') (fun b' hb'=>hother b' (fun e0=>hPF b' hb' (e0 ▸ hbF))) _ h (Sub.refl _) (fun _ h=>h.elim)
   have hsubk:∀ k,k<xs.length+ys.length→sub cs2 (k * e.width) e.width=((cells1++cells2).drop (k * e.width)).take e.width:=fun k hk=>qtk htake (by
    have:=Nat.mul_le_mul_right e.width (show k+1≤xs.length+ys.length by exact hk)
    rw[Nat.succ_mul] at this;exact this)
   obtain ⟨g',z1,z2,z3⟩:=fin (w.setCells b (xs.length * e.width) cells2).heap F (fun b' _ hb'=>hother b' (fun e0=>hb' (e0 ▸ hbF))) (by rw[qct];exact Nat.le_refl _) (fun _ h=>h) (fun _ h=>.inl h)
    (fun b h=>by rw[qct];exact st.limG r b hisr (q3 b h))
    (qbcq (cells:=cells1++cells2) (.inr hbF) hblk2 (by rw[hsz2];exact Nat.le_trans (Nat.mul_le_mul_right _ hlc1) hcapb) hlc1 (fun k hk=>hsubk k (by omega)) (fun k hk=>by
     have:=elxy k (by rw[hlen];omega)
     have e1:(xs++ys).getD k e.zero=xs.getD k e.zero:=by simp[List.getD,List.getElem?_append_left hk]
     rw[e1] at this
     exact hmono this)) (.slice (some ⟨b,0,none⟩) (xs.length+ys.length) cap1)
    ⟨[.slice (some ⟨b,0,none⟩) (xs++ys).length cap1],qbcq (cells:=cells1++cells2) (.inr hbF) hblk2 (by rw[hsz2,hlen];exact Nat.le_trans (Nat.mul_le_mul_right _ hroom) hcapb) (by rw[hlen];exact hroom) (fun k hk=>hsubk k (by rw[hlen] at hk;exact hk)) (fun k hk=>hmono (elxy k hk)),by rw[hlen];rfl⟩
   have hrest:=qjc (b:=b) cells2 (xs.length * e.width) w
   have hbL:g.L b:=st.own r b hisr (q3 b hbF)
   exact ⟨_,_,by rw[hex,hr];rfl,g',z1,z2,z3,⟨hrest.1,hrest.2.1,hrest.2.2,by rw[qct];exact Nat.le_refl _,fun b' _ hb'=>hother b' (fun e0=>hb' (e0 ▸ hbL))⟩⟩
 ·have hbd2:xs.length+ys.length≤274877906944:=hbd
  have hn2d:=qnr (P:=P) (w:=w.drew) (size:=e.width) (n:=ys.length) (len:=ys.length) (cap:=cap2) (ad:=ad2) hl2 (by
   rcases hsrc hsrc2 with h | ⟨b,o',h3,h4⟩
   ·exact .inl h
   ·exact .inr ⟨b,o',h3,qrb h4⟩)
  have hn1d:=qnr (P:=P) (w:=w.drew) (size:=e.width) (n:=xs.length) (len:=xs.length) (cap:=cap1) (ad:=ad1) hl1 (by
   rcases hsrc hsrc1 with h | ⟨b,o',h3,h4⟩
   ·exact .inl h
   ·exact .inr ⟨b,o',h3,qrb h4⟩)
  rw[←i2] at hn2d hn1d
  have hg:cap1<xs.length+ys.length:=by omega
  have hnx:=Room.nextslicecap_le' (need:=xs.length+ys.length) (old:=cap1) hg
  have hfit:Builtin.nextslicecap (xs.length+ys.length) cap1 * i.bytes≤281474976710656:=by
   have h5:Builtin.nextslicecap (xs.length+ys.length) cap1 * i.bytes≤549755813888 * 255:=Nat.mul_le_mul (by omega) i4
   omega
  have hr:=q1v (P:=P) w (ty:=o.type) h0 h1 hu1 hu1' i1 i3 hn2d hn1d hg (by omega) hfit
  have hge:=grownCap_ge w (xs.length+ys.length) cap1 u
  generalize grownCap w (xs.length+ys.length) cap1 u=cap' at hr hge
  generalize hcc:(cells1.toArray++cells2.toArray++Builtin.zeroCells (mkV (C.ty u) (zc (C.ty u))).cells (cap' - (xs.length+ys.length)))=cs at hr
  have hcsl:cs.toList.take ((xs.length+ys.length) * e.width)=cells1++cells2:=by
   rw[←hcc]
   simp only[Array.toList_append,List.append_assoc]
   rw[←List.append_assoc,List.take_append_of_le_length (by rw[hcl];exact Nat.le_refl _),List.take_of_length_le (by rw[hcl];exact Nat.le_refl _)]
  have hcss:(xs.length+ys.length) * e.width≤cs.size:=by
   rw[←hcc]
   have h9:cells1.length+cells2.length=(xs.length+ys.length) * e.width:=by rw[←List.length_append];exact hcl
   simp only[Array.size_append,List.size_toArray,h9]
   omega
  have hold:∀ b,b<w.heap.size→(w.heap.push (.cells cs u))[b]? = w.heap[b]?:=fun b hb=>qkd b hb
  have hblk:Blk (w.heap.push (.cells cs u)) w.heap.size cs:=(qci.new (h:=w.heap) (cs:=cs) (e:=u)).blk
  have hmono:∀ {t:Ty} {z:t.den} {c:List Value},Rep w.heap g.Pr t .no z c Nil→Rep (w.heap.push (.cells cs u)) (Un g.Pr fun b=>F b∨b=w.heap.size) t .no z c Nil:=fun h=>
   Rep.mono (fun b' hb'=>.inl hb') (fun b' hb'=>hold b' (st.limPr b' hb')) _ h (Sub.refl _) (fun _ h=>h.elim)
  obtain ⟨g',z1,z2,z3⟩:=fin (w.heap.push (.cells cs u)) (fun b=>F b∨b=w.heap.size) (fun b hb _=>hold b hb) (by simp) (fun _ h=>.inl h) (fun b h=>h.imp id (fun h=>by omega))
   (fun b h=>by
    rw[Array.size_push]
    rcases h with h | h
    ·have:=st.limG r b hisr (q3 b h);omega
    ·omega)
   (Rep.mono (fun b hb=>hb.imp id .inl) (fun b hb=>hold b (hb.elim (st.limPr b) fun h=>st.limG r b hisr (q3 b h))) _ repS (Sub.refl _) (fun _ h=>h.elim)) (.slice (some ⟨w.heap.size,0,none⟩) (xs.length+ys.length) cap')
   ⟨[.slice (some ⟨w.heap.size,0,none⟩) (xs++ys).length cap'],qbcq (cells:=cells1++cells2) (.inr (.inr rfl)) hblk (by rw[hlen];exact hcss) (by rw[hlen];exact hge) (fun k hk=>qtk hcsl (by
    rw[hlen] at hk
    have:=Nat.mul_le_mul_right e.width (show k+1≤xs.length+ys.length by exact hk)
    rw[Nat.succ_mul] at this;exact this)) (fun k hk=>hmono (elxy k hk)),by rw[hlen];rfl⟩
  refine ⟨_,w.drew.alloc (.cells cs u),by rw[hex,hr];rfl,g',z1,z2,z3,?_⟩
  exact ⟨rfl,rfl,rfl,by show w.heap.size≤(w.heap.push _).size;simp,fun b hb _=>qkd b hb⟩
theorem qbjc {o:Oper} {c:Call} {x y:Operand} {t t':TypeId} {e:Ty} (ho:o.op=.call c) (hc:c.callee=.builtin .append) (hargs:c.args = #[x,y])
  (h0:c.argTypes[0]? = some t) (h1:c.argTypes[1]? = some t') (hT:C.ty t=.sl e) (hT':C.ty t'=.sl e)
  (ht:Tot (qx3 S.rt e (ρ x) (ρ y))):Res P S g w tmps (qx3 S.rt e (ρ x) (ρ y)) ((execOp a.eval o).run P w):=by
 cases hvx:ρ x with
 | brw r p s=>
  cases hvy:ρ y with
  | val ty ys=>
   cases ty with
   | sl t2=>
    rw[hvx,hvy] at ht
    unfold qx3 at ht ⊢
    simp only at ht ⊢
    cases hR:S.rt.root r with
    | none=>rw[hR] at ht;exact absurd ht Tot.fail
    | some R=>
     rw[hR] at ht
     simp only at ht ⊢
     cases hf:focus R.ty R.ms R.x p with
     | none=>rw[hf] at ht;exact absurd ht Tot.fail
     | some d=>
      obtain ⟨dt,dm,dx⟩:=d
      cases dt with
      | sl e'=>
       cases dm with
       | own s' m=>
        rw[hf] at ht
        simp only at ht ⊢
        by_cases hs:s=s'∧e'=e∧t2=e∧m.still=true
        ·simp only[if_pos hs] at ht ⊢
         obtain ⟨rfl,rfl,rfl,hm⟩:=hs
         rw[qov,qov] at ht ⊢
         cases hput:put R.ty R.ms R.x p (.sl t2) .no dx with
         | none=>rw[hput] at ht;exact absurd ht Tot.fail
         | some r'=>
          rw[hput] at ht
          simp only at ht ⊢
          obtain ⟨⟨v,rt'⟩,hd⟩:=ht true
          simp only[Tr.dec] at hd
          by_cases hbd:(dx:List t2.den).length+(ys:List t2.den).length≤qeq
          ·obtain ⟨val,w',hrun,hpost⟩:=qbkm (m':=r'.1) (x':=r'.2) hty st hρ ho hc hargs h0 h1 hT hT' hvx hvy hR hf hm hput hbd
           exact Res.value hrun ⟨true,_,_,by simp only[Tr.dec,decide_eq_true hbd];rfl,hpost⟩
          ·rw[decide_eq_false hbd] at hd;simp at hd
        ·rw[if_neg hs] at ht;exact absurd ht Tot.fail
       | _=>rw[hf] at ht;exact absurd ht Tot.fail
      | _=>rw[hf] at ht;exact absurd ht Tot.fail
   | _=>rw[hvx,hvy] at ht;exact absurd ht Tot.fail
  | _=>rw[hvx,hvy] at ht;exact absurd ht Tot.fail
 | _=>rw[hvx] at ht;exact absurd ht Tot.fail
end
end Go.V

namespace Go.V
noncomputable section
open Go
theorem q6k {t:Ty} {xs ys:List t.den}:(qmc t xs ys).length=xs.length:=by
 simp only[qmc,List.length_append,List.length_take,List.length_drop];omega
theorem q6l {t:Ty} {xs ys:List t.den} (i:Nat) (hi:i<xs.length):(qmc t xs ys).getD i t.zero=if i<min ys.length xs.length then ys.getD i t.zero else xs.getD i t.zero:=by
 unfold qmc
 simp only[List.getD]
 by_cases h:i<ys.length
 ·rw[if_pos (by omega),List.getElem?_append_left (by rw[List.length_take];omega),List.getElem?_take,if_pos hi]
 ·rw[if_neg (by omega),List.getElem?_append_right (by rw[List.length_take];omega),List.getElem?_drop,List.length_take]
  congr 2;omega
theorem qbji {w k:Nat} {cs cs2:Array Value} {news:List Value} (hl:news.length=k * w) (hfit:k * w≤cs.size) (e:cs2.toList=repl cs.toList 0 news) (i:Nat) :
  sub cs2 (i * w) w=if i<k then (news.drop (i * w)).take w else sub cs (i * w) w:=by
 have hf:0+news.length≤cs.toList.length:=by rw[hl,Array.length_toList];omega
 unfold sub
 apply List.ext_getElem?
 intro j
 rw[List.getElem?_take,List.getElem?_drop,e,qbb1 hf,hl]
 by_cases hj:j<w
 ·rw[if_pos hj,if_neg (by omega)]
  by_cases h1:i<k
  ·have a2:=Nat.mul_le_mul_right w (show i+1≤k by omega)
   rw[Nat.succ_mul] at a2
   rw[if_pos h1,if_pos (by omega),List.getElem?_take,if_pos hj,List.getElem?_drop]
   congr 1
  ·have:=Nat.mul_le_mul_right w (show k≤i by omega)
   rw[if_neg h1,if_neg (by omega),List.getElem?_take,if_pos hj,List.getElem?_drop]
 ·rw[if_neg hj]
  split
  ·rw[List.getElem?_take,if_neg hj]
  ·rw[List.getElem?_take,if_neg hj]
theorem qbl5 {w:World} {S:St} {g:Ghost} {tmps:Array Value} (st:StRel w.heap S g tmps Nil) {r:Nat} {p:Path} {R:Root} {t:Ty} {s:Nat} {xs ys:List t.den} {base0:Base} {ad:Option Addr} {n cap:Nat}
  (hR:S.root r=some R) (hf:focus R.ty R.ms R.x p=some ⟨.sl t,.own s .no,xs⟩) (hin:inR R.ty R.x p) (hat:atP w.heap R.ty (g.C r) (g.base r) p=some (base0,[.slice ad n cap])) (hs:s<1048576)
  {k:Nat} (hk:k=min ys.length xs.length) (h1:0<k) {news:List Value} (hnl:news.length=k * t.width)
  (hy:∀ i,i<k→Rep w.heap g.Pr t .no (ys.getD i t.zero) ((news.drop (i * t.width)).take t.width) Nil)
  {m':Mk} {x':R.ty.den} (hput:put R.ty R.ms R.x p (.sl t) (.own s .no) (qmc t xs ys)=some (m',x')) :
  n=xs.length∧∃ b,ad=some ⟨b,0,none⟩∧g.L b∧w.there b 0 (k * t.width)∧∃ g',StRel (w.setCells b 0 news).heap (S.setRoot r (some { R with ms:=m',x:=x' })) g' tmps Nil∧g'.Same g:=by
 have hm:Mk.still .no=true:=rfl
 obtain ⟨base,c,F,q1,q2,q3,q4,q5,q6⟩:=st.update hR hf hin
 rw[hat] at q1
 simp only[Option.some.injEq,Prod.mk.injEq] at q1
 obtain ⟨rfl,rfl⟩:=q1
 have q2':=q2
 simp only[Rep] at q2
 obtain ⟨ad',cap',e0,hl,hr⟩:=q2
 simp only[List.cons.injEq,Value.slice.injEq,and_true] at e0
 obtain ⟨rfl,rfl,rfl⟩:=e0
 refine ⟨rfl,?_⟩
 rcases hr with hr | ⟨b,cs,rfl,fb,hb,hsz,Fs,hFs,hd,re⟩
 ·omega
 have hisr:(S.root r).isSome:=by rw[hR];rfl
 have hbG:=q3 b fb
 have hfit0:k * t.width≤cs.size:=Nat.le_trans (Nat.mul_le_mul_right _ (by omega)) hsz
 have hfit:0+news.length≤cs.size:=by omega
 have hother:∀ b',b'≠b→(w.setCells b 0 news).heap[b']? = w.heap[b']?:=fun b' hb'=>qfy _ _ w b' hb'
 obtain ⟨cs2,hob2,ecs2⟩:=qvz (w:=w) (base:=some (b,0)) (c2:=news) rfl hb hfit b 0 rfl cs hb
 have hsz2:cs2.size=cs.size:=by
  rw[←Array.length_toList,ecs2,qg3 (by rw[Array.length_toList];exact hfit),Array.length_toList]
 have hsub:=qbji (w:=t.width) hnl hfit0 ecs2
 have hbP:¬ g.Pr b:=fun hb'=>st.prot r hisr b hbG hb'
 have htf:(Mk.own s .no).tagFree=true:=by simp only[Mk.tagFree,Bool.and_eq_true];exact ⟨Nat.ble_eq_true_of_le hs,trivial⟩
 have hlen:(qmc t xs ys).length=xs.length:=q6k
 have rep2:Rep (w.setCells b 0 news).heap g.Pr (.sl t) (.own s .no) (qmc t xs ys) [.slice (some ⟨b,0,none⟩) xs.length cap] F:=by
  simp only[Rep]
  refine ⟨_,cap,by rw[hlen],by rw[hlen];exact hl,.inr ⟨b,cs2,rfl,fb,hob2,by rw[hsz2];exact hsz,Fs,hFs,hd,fun i hi'=>?_⟩⟩
  rw[hlen] at hi'
  rw[q6l i hi',hsub,←hk]
  by_cases hz:i<k
  ·rw[if_pos hz,if_pos hz]
   exact Rep.mono (Sub.refl _) (fun b' hb'=>hother b' (fun e=>hbP (e ▸ hb'))) _ (hy i hz) (Sub.nil _) (fun b' hb'=>hb'.elim)
  ·rw[if_neg hz,if_neg hz]
   exact Rep.mono (Sub.refl _) (fun b' hb'=>hother b' (fun e=>hbP (e ▸ hb'))) _ (re i hi') (Sub.refl _) (fun b' hb'=>hother b' (fun e=>(hFs i).2 (e ▸ hb')))
 obtain ⟨g2,s1,s2,s3,s4,s5,s6⟩:=q6 0 0 (w.setCells b 0 news).heap (.own s .no) (qmc t xs ys) [.slice (some ⟨b,0,none⟩) xs.length cap] F m' x'
  (fun u=>qh1 _) (fun b' _ hb' _=>hother b' (fun e=>hb' (e ▸ fb))) (by rw[qct];exact Nat.le_refl _)
  (by
   intro b' o e cs' hob'
   obtain ⟨hnF,cs3,hob3,hfit3,hsub3⟩:=q4 b' o e
   have hne:b'≠b:=fun e=>hnF (e ▸ fb)
   refine ⟨cs',hob'.congr (hother b' hne),?_⟩
   have:=hob'.uniq hob3
   subst this
   have hr:=qxv (c:=cs'.toList) (n:=o) (k:=1) (by rw[Array.length_toList];exact hfit3)
   have hs3:(cs'.toList.drop o).take 1=[Value.slice (some ⟨b,0,none⟩) xs.length cap]:=hsub3
   rw[hs3] at hr
   exact hr.symm)
  rep2 (fun b' hb'=>.inl hb') (fun b' hb'=>by rw[qct];exact st.limG r b' hisr (q3 b' hb')) hput (Mk.upd_refl 0 0 _)
  (TagC.tagFree _ htf) (fun _=>htf)
  (by
   intro p' t1 n1 _ hfm hi'
   cases p' with
   | nil=>
    refine ⟨trivial,fun bp cp ha=>⟨cp,?_,fun _ _ _ _=>rfl⟩⟩
    simp only[atP] at ha ⊢
    exact ha
   | cons x p'=>
    cases x with
    | fst=>simp[qx] at hfm
    | snd=>simp[qx] at hfm
    | idx i s'=>
     simp only[qx] at hfm
     split at hfm
     ·obtain ⟨hp',hn1⟩:=qu6 p' hm hfm
      simp only[inR] at hi'
      refine ⟨?_,fun bp cp ha=>?_⟩
      ·simp only[inR]
       exact ⟨by rw[hlen];exact hi'.1,qhd p' _ hp' hfm⟩
      ·obtain ⟨e1,l1,u1,he1,_⟩:=hb
       obtain ⟨e2,l2,u2,he2,_⟩:=hob2
       simp only[atP,he1] at ha
       obtain ⟨cp',h3⟩:=qlk (h':=(w.setCells b 0 news).heap) p' _ (sub cs2 (i * t.width) t.width) _ hp' ha
       refine ⟨cp',by simp only[atP,he2];exact h3,fun s4 a4 e4 _=>?_⟩
       rw[e4] at hn1;simp[Mk.still] at hn1
     ·simp at hfm)
 exact ⟨b,rfl,st.own r b hisr hbG,qtr hb (by omega),g2,s1.lessHand (Sub.nil _),s3⟩
section
variable {P:Program} {C:Ctx} {D:Den C} {S:St} {g:Ghost} {w:World} {tmps:Array Value} {a:Act} {ρ:Operand→AV}
variable {A:Asks} {site:Nat} {hint:Bool} (hty:qcg P C) (st:StRel w.heap S g tmps Nil) (hρ:∀ x,qf w.heap S g (ρ x) (a.eval x))
include hty st hρ
theorem qbj7 {o:Oper} {c:Call} {x y:Operand} {t:TypeId} {e:Ty} (ho:o.op=.call c) (hc:c.callee=.builtin .copy) (hargs:c.args = #[x,y])
  (h0:c.argTypes[0]? = some t) (hT:C.ty t=.sl e) (ht:Tot (q5w S.rt e (ρ x) (ρ y))):Res P S g w tmps (q5w S.rt e (ρ x) (ρ y)) ((execOp a.eval o).run P w):=by
 have hx:=hρ x
 have hyy:=hρ y
 unfold q5w at ht ⊢
 cases hv:ρ x with
 | brw r p s=>
  cases hvy:ρ y with
  | val ty ys0=>
   rw[hv,hvy] at ht
   rw[hv] at hx
   rw[hvy] at hyy
   cases ty with
   | sl t2=>
    simp only at ht ⊢
    cases hR:S.rt.root r with
    | none=>rw[hR] at ht;exact absurd ht Tot.fail
    | some R=>
     rw[hR] at ht
     simp only at ht ⊢
     cases hf:focus R.ty R.ms R.x p with
     | none=>rw[hf] at ht;exact absurd ht Tot.fail
     | some d=>
      obtain ⟨dt,dm,dx⟩:=d
      cases dt with
      | sl e'=>
       cases dm with
       | own s' m=>
        cases m with
        | no=>
         rw[hf] at ht
         simp only at ht ⊢
         by_cases hs:s=s'∧e'=e∧t2=e∧s'<1048576
         ·simp only[if_pos hs] at ht ⊢
          obtain ⟨rfl,rfl,rfl,hs6⟩:=hs
          cases hcst:qbs (.sl t2) (.sl t2) ys0 with
          | none=>rw[hcst] at ht;exact absurd ht Tot.fail
          | some ys=>
           rw[hcst] at ht
           simp only at ht ⊢
           obtain ⟨ee,hys⟩:=qid hcst
           simp only at hys
           subst hys
           cases hput:put R.ty R.ms R.x p (.sl t2) (.own s .no) (qmc t2 dx ys0) with
           | none=>rw[hput] at ht;exact absurd ht Tot.fail
           | some r'=>
            simp only
            obtain ⟨u,hu1,hu2,hu3⟩:=hty.desc hT
            have ku:=hty u hu3
            obtain ⟨i,i1,i2,i3,i4⟩:=ku.info
            rw[hu2] at i2
            simp only[qf] at hx hyy
            obtain ⟨hin,base0,hat⟩:=hx R hR t2 .no dx hf
            obtain ⟨c2,repy,evy⟩:=hyy
            obtain ⟨ad2,cap2,cells2,Fs2,rfl,hl2,hlc2,hsrc2,el2,hFs2,_⟩:=qpw (by simp) (by simp) repy
            have evy':a.eval y=.slice ad2 (List.length ys0) cap2:=evy
            obtain ⟨base,c0,F,q1,rep1,_⟩:=st.update hR hf hin
            rw[hat] at q1
            simp only[Option.some.injEq,Prod.mk.injEq] at q1
            obtain ⟨rfl,rfl⟩:=q1
            obtain ⟨ad1,cap1,cells1,Fs1,ec1,_⟩:=qpw (by simp) (by simp) rep1
            simp only[List.cons.injEq,and_true] at ec1
            have evx:=ec1
            rw[ec1] at hat
            have hex:∀ k news w',k=min (List.length ys0) (List.length dx)→(Builtin.firstCells i.size k (.slice ad2 (List.length ys0) cap2)).run P w=.ok (List.toArray news) w→
              (∀ ad,ad1=some ad→(storeCells ad news).run P w=.ok () w')→(ad1=none→w'=w)→
              (execOp a.eval o).run P w=.ok (.value (goInt k)) w':=by
             intro k news w' hk hn hst hno
             have hk':Nat.min (List.length ys0) (List.length dx)=k:=hk.symm
             cases ad1 with
             | none=>
              obtain rfl:=hno rfl
              simp[execOp,ho,resolve,hc,invoke,builtin,hargs,evx,evy',Sem.run_bind,Builtin.copy_,h0,run_underlying hu1,Builtin.lenOf,sizeOf,typeInfo,i1,hk',hn]
             | some ad=>
              have:=hst ad rfl
              simp[execOp,ho,resolve,hc,invoke,builtin,hargs,evx,evy',Sem.run_bind,Builtin.copy_,h0,run_underlying hu1,Builtin.lenOf,sizeOf,typeInfo,i1,hk',hn,this]
            by_cases hpos:0<List.length ys0∧0<List.length dx
            ·have hsrc':∃ b o,ad2=some ⟨b,o,none⟩∧w.rangeAt b o (cells2.take (min (List.length ys0) (List.length dx) * t2.width)):=by
              rcases hsrc2 with ⟨h0,_⟩ | ⟨b,o,cs,h1,h2,h3,h4⟩
              ·omega
              ·refine ⟨b,o,h1,?_⟩
               have hmm:min (List.length ys0) (List.length dx) * t2.width≤List.length ys0 * t2.width:=Nat.mul_le_mul_right _ (by omega)
               have:=qie (n:=min (List.length ys0) (List.length dx) * t2.width) (o:=o) h2 (by omega)
               have e3:cells2.take (min (List.length ys0) (List.length dx) * t2.width)=sub cs o (min (List.length ys0) (List.length dx) * t2.width):=by
                rw[h4]
                simp only[sub,List.take_take]
                congr 1;omega
               rw[e3];exact this
             have hnl:(cells2.take (min (List.length ys0) (List.length dx) * t2.width)).length=min (List.length ys0) (List.length dx) * t2.width:=by
              rw[List.length_take,hl2]
              have hmm:min (List.length ys0) (List.length dx) * t2.width≤List.length ys0 * t2.width:=Nat.mul_le_mul_right _ (by omega)
              omega
             generalize hk:min (List.length ys0) (List.length dx)=k at hsrc' hnl
             generalize hnews:cells2.take (k * t2.width)=news at hsrc' hnl
             have hrep:∀ j,j<k→Rep w.heap g.Pr t2 .no (List.getD ys0 j t2.zero) ((news.drop (j * t2.width)).take t2.width) Nil:=by
              intro j hj
              have:=el2.rep j (by omega)
              have e4:(news.drop (j * t2.width)).take t2.width=(cells2.drop (j * t2.width)).take t2.width:=by
               rw[←hnews,List.drop_take,List.take_take]
               congr 1
               have:=Nat.mul_le_mul_right t2.width (show j+1≤k by omega)
               rw[Nat.succ_mul] at this;omega
              rw[e4]
              exact Rep.room _ this (fun b hb=>(hFs2 j b hb).elim)
             obtain ⟨_,b,hb,hgL,hth,g',st',hsame⟩:=qbl5 (m':=r'.1) (x':=r'.2) (ys:=ys0) st hR hf hin hat hs6 hk.symm (by omega) hnl hrep hput
             have h1c:∀ v∈news,v.oneCell'=true:=by
              obtain ⟨b2,o2,_,hr2⟩:=hsrc'
              intro v hv
              obtain ⟨j,hj,rfl⟩:=List.mem_iff_getElem.1 hv
              have hj2:j<k * t2.width:=by omega
              have hw:0<t2.width:=by
               rcases Nat.eq_zero_or_pos t2.width with h | h
               ·rw[h] at hj2;omega
               ·exact h
              have hdm:=Nat.div_add_mod j t2.width
              have hjk:j / t2.width<k:=(Nat.div_lt_iff_lt_mul hw).2 hj2
              have hmod:=Nat.mod_lt j hw
              refine Rep.one _ (hrep (j / t2.width) hjk) _ ?_
              apply List.mem_iff_getElem?.2
              refine ⟨j % t2.width,?_⟩
              rw[List.getElem?_take,if_pos hmod,List.getElem?_drop,show j / t2.width * t2.width+j % t2.width=j by rw[Nat.mul_comm];exact hdm,List.getElem?_eq_getElem hj]
             have hsto:=run_storeCells_cells (P:=P) b 0 news 0 w (fun j hj=>by have:=(hth j (by omega)).1;simpa using this) (fun j hj=>by have:=(hth j (by omega)).2;simpa using this) h1c
             simp only[Nat.add_zero] at hsto
             have hfirst:(Builtin.firstCells i.size k (.slice ad2 (List.length ys0) cap2)).run P w=.ok (List.toArray news) w:=
              qnr (by rw[i2];exact hnl) (.inr (by obtain ⟨b2,o2,e2,hr2⟩:=hsrc';exact ⟨b2,o2,e2,hr2⟩))
             have hrun:=hex k news (w.setCells b 0 news) hk.symm hfirst (fun ad ha=>by rw[hb] at ha;injection ha with ha;rw[←ha];exact hsto) (fun ha=>by rw[hb] at ha;exact absurd ha (by simp))
             have hrest:=qjc (b:=b) news 0 w
             refine Res.value (val:=goInt k) (w':=w.setCells b 0 news) hrun ⟨true,.val (.int .i64) ((k:Nat):Int),_,by simp only[Tr.dec,decide_eq_true hpos.1,decide_eq_true hpos.2,Bool.and_self],g',st',qih _ _,hsame,⟨hrest.1,hrest.2.1,hrest.2.2,by rw[qct];exact Nat.le_refl _,fun b' _ hb'=>qfy _ _ w b' (fun e=>hb' (e ▸ hgL))⟩⟩
            ·have hk0:0=min (List.length ys0) (List.length dx):=by omega
             have hrun:=hex 0 [] w hk0 (qnr (by simp) (.inl ⟨rfl,rfl⟩)) (fun ad _=>rfl) (fun _=>rfl)
             refine Res.value (val:=goInt 0) (w':=w) hrun ⟨true,.val (.int .i64) ((0:Nat):Int),_,?_,Post.same st (qih _ _)⟩
             have:(decide (0<List.length ys0)&&decide (0<List.length dx))=false:=by
              rw[←Bool.not_eq_true,Bool.and_eq_true,decide_eq_true_iff,decide_eq_true_iff];exact hpos
             simp only[Tr.dec,this]
         ·rw[if_neg hs] at ht;exact absurd ht Tot.fail
        | _=>rw[hf] at ht;exact absurd ht Tot.fail
       | _=>rw[hf] at ht;exact absurd ht Tot.fail
      | _=>rw[hf] at ht;exact absurd ht Tot.fail
   | _=>exact absurd ht Tot.fail
  | _=>rw[hv,hvy] at ht;exact absurd ht Tot.fail
 | _=>rw[hv] at ht;exact absurd ht Tot.fail
end
end
end Go.V

namespace Go.V
open Go
section
variable {P:Program} {C:Ctx} {D:Den C} {S:St} {g:Ghost} {w:World} {tmps:Array Value} {a:Act} {ρ:Operand→AV}
variable {A:Asks} {site:Nat} {hint:Bool} (hty:qcg P C) (st:StRel w.heap S g tmps Nil) (hρ:∀ x,qf w.heap S g (ρ x) (a.eval x))
theorem q2o {α β:Type} {f:α→β} {l:List α} {x y:β} (h:l.map f=[x,y]):∃ u v,l=[u,v]∧f u=x∧f v=y:=by
 match l,h with
 | [u,v],h=>simp only[List.map_cons,List.map_nil,List.cons.injEq,and_true] at h;exact ⟨u,v,rfl,h.1,h.2⟩
theorem qbc2 {α β:Type} {f:α→β} {l:List α} {x y:β} {r:List β} (h:l.map f=x::y::r):l[0]?.map f=some x∧l[1]?.map f=some y:=by
 match l,h with
 | u::v::l,h=>simp only[List.map_cons,List.cons.injEq] at h;simp[h.1,h.2.1]
include hty st hρ
theorem q9x {o:Oper} {c:Call} {b:Builtin} (ho:o.op=.call c) (hc:c.callee=.builtin b) (hb:b=.min∨b=.max):Goal P C D S g w tmps a ρ A site hint o:=by
 intro ht
 rcases hb with rfl | rfl
 ·simp only[opT,ho,hc] at ht ⊢
  split at ht<;>try (first | contradiction | exact absurd ht Tot.fail)
  rename_i hargs
  obtain ⟨u,v,hl,hu,hv⟩:=q2o hargs
  have e1:c.args = #[u,v]:=by rw[←Array.toArray_toList (xs:=c.args),hl]
  split at ht
  ·rename_i ka x kb y
   by_cases hk:ka=kb
   ·subst hk
    simp only[if_true] at ht ⊢
    have hx:=hρ u
    have hy:=hρ v
    rw[hu] at hx;rw[hv] at hy
    refine Res.ret (val:=.int ka (if y<x then y else x)) ?_ st (qih _ _)
    simp[execOp,ho,resolve,hc,invoke,builtin,Builtin.min_,Builtin.min2,e1,qol hx,qol hy,Sem.run_bind]
   ·rw[if_neg hk] at ht;exact absurd ht Tot.fail
  ·exact absurd ht Tot.fail
 ·simp only[opT,ho,hc] at ht ⊢
  split at ht<;>try (first | contradiction | exact absurd ht Tot.fail)
  rename_i hargs
  obtain ⟨u,v,hl,hu,hv⟩:=q2o hargs
  have e1:c.args = #[u,v]:=by rw[←Array.toArray_toList (xs:=c.args),hl]
  split at ht
  ·rename_i ka x kb y
   by_cases hk:ka=kb
   ·subst hk
    simp only[if_true] at ht ⊢
    have hx:=hρ u
    have hy:=hρ v
    rw[hu] at hx;rw[hv] at hy
    refine Res.ret (val:=.int ka (if y>x then y else x)) ?_ st (qih _ _)
    simp[execOp,ho,resolve,hc,invoke,builtin,Builtin.max_,Builtin.max2,e1,qol hx,qol hy,Sem.run_bind]
   ·rw[if_neg hk] at ht;exact absurd ht Tot.fail
  ·exact absurd ht Tot.fail
theorem qbg1 {o:Oper} {c:Call} {b:Builtin} (ho:o.op=.call c) (hc:c.callee=.builtin b) (ok:AOk A S o.dst site):Goal P C D S g w tmps a ρ A site hint o:=by
 cases b with
 | len=>exact qbl7 hty st hρ ho hc
 | min=>exact q9x hty st hρ ho hc (.inl rfl)
 | max=>exact q9x hty st hρ ho hc (.inr rfl)
 | append=>
  intro ht
  simp only[opT,ho,hc] at ht ⊢
  split at ht<;>try (first | contradiction | exact absurd ht Tot.fail)
  rename_i x0 y0 e e' _ _ hargs htys
  obtain ⟨u,v,hl,hu,hv⟩:=q2o hargs
  obtain ⟨q1,q2⟩:=qbc2 htys
  simp only[Option.map_eq_some_iff,Array.getElem?_toList] at q1 q2
  obtain ⟨t,ht0,hT⟩:=q1
  obtain ⟨t',ht1,hT'⟩:=q2
  have e1:c.args = #[u,v]:=by rw[←Array.toArray_toList (xs:=c.args),hl]
  by_cases hee:e=e'
  ·subst hee
   simp only[if_true] at ht ⊢
   subst hu;subst hv
   cases hint with
   | false=>
    simp only[Bool.false_eq_true,if_false] at ht ⊢
    exact qbh5 hty st hρ ho hc e1 ht0 ht1 hT hT' ok ht
   | true=>
    simp only[if_true] at ht ⊢
    exact qbjc hty st hρ ho hc e1 ht0 ht1 hT hT' ht
  ·rw[if_neg hee] at ht;exact absurd ht Tot.fail
 | clear=>
  intro ht
  simp only[opT,ho,hc] at ht ⊢
  split at ht<;>try (first | contradiction | exact absurd ht Tot.fail)
  rename_i x0 e _ _ hargs htys
  obtain ⟨u,hl,hu⟩:∃ u,c.args.toList=[u]∧ρ u=x0:=by
   match hq:c.args.toList,hargs with
   | [u],h=>simp only[hq,List.map_cons,List.map_nil,List.cons.injEq,and_true] at h;exact ⟨u,rfl,h⟩
  obtain ⟨t,ht0,hT⟩:∃ t,c.argTypes[0]? = some t∧C.ty t=.sl e:=by
   match hq:c.argTypes.toList,htys with
   | t::l,h=>simp only[hq,List.map_cons,List.cons.injEq] at h;exact ⟨t,by rw[←Array.getElem?_toList,hq];rfl,h.1⟩
  have e1:c.args = #[u]:=by rw[←Array.toArray_toList (xs:=c.args),hl]
  subst hu
  exact qbhe hty st hρ ho hc e1 ht0 hT ht
 | copy=>
  intro ht
  simp only[opT,ho,hc] at ht ⊢
  split at ht<;>try (first | contradiction | exact absurd ht Tot.fail)
  rename_i x0 y0 e _ _ hargs htys
  obtain ⟨u,v,hl,hu,hv⟩:=q2o hargs
  obtain ⟨t,ht0,hT⟩:∃ t,c.argTypes[0]? = some t∧C.ty t=.sl e:=by
   match hq:c.argTypes.toList,htys with
   | t::l,h=>simp only[hq,List.map_cons,List.cons.injEq] at h;exact ⟨t,by rw[←Array.getElem?_toList,hq];rfl,h.1⟩
  have e1:c.args = #[u,v]:=by rw[←Array.toArray_toList (xs:=c.args),hl]
  subst hu
  subst hv
  exact qbj7 hty st hρ ho hc e1 ht0 hT ht
 | _=>
  intro ht
  simp only[opT,ho,hc] at ht ⊢
  exact absurd ht Tot.fail
theorem qbmp {o:Oper} (ok:AOk A S o.dst site) (hcall:∀ c f,o.op=.call c→c.callee=.value f→Goal P C D S g w tmps a ρ A site hint o):Goal P C D S g w tmps a ρ A site hint o:=by
 cases ho:o.op with
 | move x=>exact qblo st hρ ho
 | assign x=>exact qbhm hty st hρ ho ok
 | pick c x y=>exact qbk2 st hρ ho
 | alloc t=>exact qbjv hty st hρ ho ok
 | box t x=>exact qbme hty st hρ ho ok
 | build t ps=>exact qbjo hty st hρ ho ok
 | buildSlice t n ps=>exact qbay hty st hρ ho ok
 | load t x=>exact qbkp hty st hρ ho
 | store t x y=>exact qbiu hty st hρ ho ok
 | nilCheck x=>exact qbmm st hρ ho
 | binOp op t x y t2=>exact qbj2 hty st hρ ho
 | unOp op t x=>exact qbls st hρ ho
 | convert s d x=>exact qbg7 hty st hρ ho
 | makeFunc f x y=>exact qbe1 hty st hρ ho
 | makeSlice t x y=>exact qbed hty st hρ ho ok
 | slice t x lo hi mx=>
  cases mx with
  | none=>exact qbiy hty st hρ ho ok
  | some v=>intro ht;simp only[opT,ho] at ht;exact absurd ht Tot.fail
 | fieldAddr t x f=>exact qbbx hty st hρ ho
 | field t x f=>exact qbjf hty st hρ ho
 | indexAddr t x i=>exact qbd0 hty st hρ ho
 | index t x i=>exact qbi1 hty st hρ ho
 | extract x i=>exact qbgu hty st hρ ho
 | call c=>
  cases hc:c.callee with
  | builtin b=>exact qbg1 hty st hρ ho hc ok
  | value f=>exact hcall c f ho hc
  | invoke r m=>intro ht;simp only[opT,ho,hc] at ht;exact absurd ht Tot.fail
 | _=>intro ht;simp only[opT,ho] at ht;exact absurd ht Tot.fail
end
end Go.V

namespace Go.V
noncomputable section
open Go
def PG (Pr:BS):Ghost:=⟨Pr,fun _=>[],fun _=>none,fun _=>Nil,fun _=>undef,Nil,Nil⟩
def qmi (h:Array Obj) (Pr:BS) (t:Ty) (m:Mk) (x:t.den) (v:Value) (F:BS):Prop:=
 ∃ b c F0,v=.pointer (some ⟨b,0,none⟩)∧Rep h Pr t m x c F0∧qci h b c.toArray∧F b∧Sub F0 F∧¬ F0 b
def qgr (h:Array Obj) (Pr:BS) (t:Ty) (m:Mk) (x:t.den) (v:Value) (F:BS):Prop:=
 ∃ c,Rep h Pr t m x c F∧v=mkV t c
def PRel (h:Array Obj) (Pr:BS):(k:PK)→k.den→Value→BS→Prop
 | .val t,x,v,_=>qgr h Pr t .no x v Nil
 | .own t m,x,v,F=>qgr h Pr t m x v F
 | .mutv t m _,x,v,F=>qgr h Pr t m x v F
 | .mutp t m _,x,v,F=>qmi h Pr t m x v F
 | .rptr t,x,v,_=>qk8 h (PG Pr) t x v
 | .fn,c,v,_=>∃ vs,v=.func (.func c.f) #[] vs.toArray∧qe7 h (PG Pr) c.caps vs
def qq6 (h:Array Obj) (Pr:BS) (Fs:Nat→BS):Nat→(ks:List PK)→PDen ks→List Value→Prop
 | _,[],_,vs=>vs=[]
 | i,k::ks,a,vs=>∃ v vs',vs=v::vs'∧PRel h Pr k a.1 v (Fs i)∧qq6 h Pr Fs (i+1) ks a.2 vs'
def qg1 (h:Array Obj) (Pr:BS) (Fs:Nat→BS):Nat→(ks:List PK)→GDen ks→List Value→Prop
 | _,[],_,vs=>vs=[]
 | i,.own t m::ks,a,vs=>∃ v vs',vs=v::vs'∧qgr h Pr t m a.1 v (Fs i)∧qg1 h Pr Fs (i+1) ks a.2 vs'
 | i,.val _::ks,a,vs=>∃ v vs',vs=v::vs'∧qg1 h Pr Fs (i+1) ks a vs'
 | i,.mutp _ _ _::ks,a,vs=>∃ v vs',vs=v::vs'∧qg1 h Pr Fs (i+1) ks a vs'
 | i,.mutv _ _ _::ks,a,vs=>∃ v vs',vs=v::vs'∧qg1 h Pr Fs (i+1) ks a vs'
 | i,.rptr _::ks,a,vs=>∃ v vs',vs=v::vs'∧qg1 h Pr Fs (i+1) ks a vs'
 | i,.fn::ks,a,vs=>∃ v vs',vs=v::vs'∧qg1 h Pr Fs (i+1) ks a vs'
def qgb (h:Array Obj) (Pr:BS) (Fs:Nat→BS):Nat→(ks:List PK)→ODen ks→List Value→Prop
 | _,[],_,vs=>vs=[]
 | i,.mutp t _ m::ks,o,vs=>∃ v vs',vs=v::vs'∧qmi h Pr t m o.1 v (Fs i)∧qgb h Pr Fs (i+1) ks o.2 vs'
 | i,.mutv t _ m::ks,o,vs=>∃ v vs',vs=v::vs'∧qgr h Pr t m o.1 v (Fs i)∧qgb h Pr Fs (i+1) ks o.2 vs'
 | i,.val _::ks,o,vs=>∃ v vs',vs=v::vs'∧qgb h Pr Fs (i+1) ks o vs'
 | i,.own _ _::ks,o,vs=>∃ v vs',vs=v::vs'∧qgb h Pr Fs (i+1) ks o vs'
 | i,.rptr _::ks,o,vs=>∃ v vs',vs=v::vs'∧qgb h Pr Fs (i+1) ks o vs'
 | i,.fn::ks,o,vs=>∃ v vs',vs=v::vs'∧qgb h Pr Fs (i+1) ks o vs'
def RRel (h:Array Obj) (Pr:BS):(k:RK)→k.den→Value→BS→Prop
 | .val t m,x,v,F=>qgr h Pr t m x v F
 | .ptr t m,x,v,F=>qmi h Pr t m x v F
def qek (h:Array Obj) (Pr:BS) (Fs:Nat→BS):Nat→(ks:List RK)→RDen ks→List Value→Prop
 | _,[],_,vs=>vs=[]
 | i,k::ks,a,vs=>∃ v vs',vs=v::vs'∧RRel h Pr k a.1 v (Fs i)∧qek h Pr Fs (i+1) ks a.2 vs'
def qjx:List Value→Value
 | [v]=>v
 | vs=>.tuple vs.toArray
structure Pre (h:Array Obj) (Pr:BS) (Fs:Nat→BS) (ks:List PK) (a:PDen ks) (vs:List Value):Prop where
 rel:qq6 h Pr Fs 0 ks a vs
 dis:∀ i j,i≠j→Dis (Fs i) (Fs j)
 prot:∀ i,Dis (Fs i) Pr
 lim:∀ i b,Fs i b→b<h.size
 limPr:∀ b,Pr b→b<h.size
def May (n:Nat) (Fs:Nat→BS):BS:=fun b=>n≤b∨∃ i,Fs i b
structure Pst (w w':World) (Pr:BS) (Fs:Nat→BS) (ks:List PK) (rs:List RK) (r:RDen rs) (o:ODen ks) (vs:List Value) (val:Value) (Pr':BS) (Gs Os:Nat→BS) (us:List Value):Prop where
 res:qek w'.heap Pr' Gs 0 rs r us
 val:val=qjx us
 out:qgb w'.heap Pr' Os 0 ks o vs
 pr:Sub Pr Pr'
 prL:∀ b,Pr' b→Pr b∨May w.heap.size Fs b
 gL:∀ i b,Gs i b→May w.heap.size Fs b
 oL:∀ i b,Os i b→May w.heap.size Fs b
 gdis:∀ i j,i≠j→Dis (Gs i) (Gs j)
 odis:∀ i j,i≠j→Dis (Os i) (Os j)
 go:∀ i j,Dis (Gs i) (Os j)
 gp:∀ i,Dis (Gs i) Pr'
 op:∀ i,Dis (Os i) Pr'
 glim:∀ i b,Gs i b→b<w'.heap.size
 olim:∀ i b,Os i b→b<w'.heap.size
 plim:∀ b,Pr' b→b<w'.heap.size
 fr:WFr (May w.heap.size Fs) w w'
def FnOk (P:Program) (C:Ctx) (D:Den C) (f:FuncId):Prop:=
 ∀ a r,D f a=some r→∀ (w:World) (Pr:BS) (Fs:Nat→BS) (vs:List Value),Pre w.heap Pr Fs (C.sig f).params a vs→
  Calls P f vs.toArray w fun e w'=>∃ val Pr' Gs Os us,e=.returned val∧Pst w w' Pr Fs (C.sig f).params (C.sig f).res r.1 r.2 vs val Pr' Gs Os us
def qrv (P:Program) (f:FuncId):Prop:=∃ fn,P.funcs[f]? = some fn∧fn.name≠ "runtime.NumGoroutine" ∧ fn.body.isSome
structure DOk (P:Program) (C:Ctx) (D:Den C):Prop where
 ok:∀ f,FnOk P C D f
 call:∀ f a r,D f a=some r→qrv P f
theorem Rep.fullMk {h:Array Obj} {Pr Pr2:BS}:∀ (t:Ty) {m:Mk} {x:t.den} {c:List Value} {F:BS},m.full t=true→Rep h Pr t m x c F→Rep h Pr2 t m x c F
 | .unit,_,_,_,_,_,r=>by simpa only [Rep] using r
 | .int k,_,_,_,_,_,r=>by simpa only [Rep] using r
 | .bool,_,_,_,_,_,r=>by simpa only [Rep] using r
 | .str,_,_,_,_,_,r=>by simpa only [Rep] using r
 | .pair a b,m,_,_,_,hm,r=>by
  simp only[Mk.full,Bool.and_eq_true] at hm
  simp only[Rep] at r ⊢
  obtain ⟨ca,cb,Fa,Fb,e,ra,rb,k⟩:=r
  exact ⟨ca,cb,Fa,Fb,e,Rep.fullMk a hm.1 ra,Rep.fullMk b hm.2 rb,k⟩
 | .sl t,m,_,_,_,hm,r=>by
  cases m with
  | own s mi=>
   simp only[Mk.full] at hm
   simp only[Rep] at r ⊢
   obtain ⟨a,cap,e,hl,r⟩:=r
   refine ⟨a,cap,e,hl,r.imp id ?_⟩
   rintro ⟨b,cs,e,fb,hb,hs,Fs,hF,hd,re⟩
   exact ⟨b,cs,e,fb,hb,hs,Fs,hF,hd,fun i hi=>Rep.fullMk t hm (re i hi)⟩
  | _=>simp[Mk.full] at hm
theorem qgr.mono {h:Array Obj} {Pr Pr2:BS} {t:Ty} {m:Mk} {x:t.den} {v:Value} {F:BS} (hp:Sub Pr Pr2) (r:qgr h Pr t m x v F):qgr h Pr2 t m x v F:=by
 obtain ⟨c,r,e⟩:=r
 exact ⟨c,Rep.mono hp (fun _ _=>rfl) t r (Sub.refl _) (fun _ _=>rfl),e⟩
theorem qg1.mono {h:Array Obj} {Pr Pr2:BS} {Fs Fs2:Nat→BS} (hp:Sub Pr Pr2):∀ (ks:List PK) (i:Nat) {a:GDen ks} {vs:List Value},(∀ j,i≤j→Fs2 j=Fs j)→
  qg1 h Pr Fs i ks a vs→qg1 h Pr2 Fs2 i ks a vs
 | [],_,_,_,_,r=>r
 | .own t m::ks,i,_,_,hj,r=>by
  obtain ⟨v,vs',e,r1,r2⟩:=r
  exact ⟨v,vs',e,by rw[hj i (Nat.le_refl _)];exact r1.mono hp,qg1.mono hp ks (i+1) (fun j h=>hj j (by omega)) r2⟩
 | .val _::ks,i,_,_,hj,r=>by obtain ⟨v,vs',e,r2⟩:=r;exact ⟨v,vs',e,qg1.mono hp ks (i+1) (fun j h=>hj j (by omega)) r2⟩
 | .mutp _ _ _::ks,i,_,_,hj,r=>by obtain ⟨v,vs',e,r2⟩:=r;exact ⟨v,vs',e,qg1.mono hp ks (i+1) (fun j h=>hj j (by omega)) r2⟩
 | .mutv _ _ _::ks,i,_,_,hj,r=>by obtain ⟨v,vs',e,r2⟩:=r;exact ⟨v,vs',e,qg1.mono hp ks (i+1) (fun j h=>hj j (by omega)) r2⟩
 | .rptr _::ks,i,_,_,hj,r=>by obtain ⟨v,vs',e,r2⟩:=r;exact ⟨v,vs',e,qg1.mono hp ks (i+1) (fun j h=>hj j (by omega)) r2⟩
 | .fn::ks,i,_,_,hj,r=>by obtain ⟨v,vs',e,r2⟩:=r;exact ⟨v,vs',e,qg1.mono hp ks (i+1) (fun j h=>hj j (by omega)) r2⟩
def qe4 (h:Array Obj) (S:St) (g:Ghost):List AV→List Value→Prop
 | [],vs=>vs=[]
 | a::avs,vs=>∃ v vs',vs=v::vs'∧qf h S g a v∧qe4 h S g avs vs'
theorem qe4.kp {h:Array Obj} {S S':St} {g g':Ghost} (k:Kp h S g S' g'):∀ {avs:List AV} {vs:List Value},qe4 h S g avs vs→qe4 h S' g' avs vs
 | [],_,r=>r
 | a::avs,_,r=>by obtain ⟨v,vs',e,r1,r2⟩:=r;exact ⟨v,vs',e,k _ _ r1,qe4.kp k r2⟩
theorem qjy {h:Array Obj} {tmps:Array Value} {sl:List AV}:∀ (ks:List PK) (avs:List AV) (vs:List Value) (rt:Rts) (g:Ghost) (H:BS) (i:Nat) (gd:GDen ks) (rt1:Rts),
  qe4 h ⟨sl,rt⟩ g avs vs→StRel h ⟨sl,rt⟩ g tmps H→qbj rt ks avs=some (gd,rt1)→
  ∃ g1 H1 Fs,StRel h ⟨sl,rt1⟩ g1 tmps H1∧Kp h ⟨sl,rt⟩ g ⟨sl,rt1⟩ g1∧g1.Same g∧Sub g.Pr g1.Pr∧qg1 h g1.Pr Fs i ks gd vs∧(∀ j,j<i→Fs j=Nil)∧
   (∀ j,Sub (Fs j) H1)∧(∀ j k,j≠k→Dis (Fs j) (Fs k))∧(∀ j,Dis (Fs j) H)∧Sub H H1
 | [],avs,vs,rt,g,H,i,gd,rt1,ha,st,hb=>by
  cases avs with
  | nil=>
   simp only[qbj,Option.some.injEq,Prod.mk.injEq] at hb
   obtain ⟨_,rfl⟩:=hb
   exact ⟨g,H,fun _=>Nil,st,Kp.refl,.refl _,Sub.refl _,ha,fun _ _=>rfl,fun _=>Sub.nil _,fun _ _ _=>Dis.nil _,fun _=>Dis.nil _,Sub.refl _⟩
  | cons a avs=>simp[qbj] at hb
 | .own t m::ks,avs,vs,rt,g,H,i,gd,rt1,ha,st,hb=>by
  cases avs with
  | nil=>simp[qbj] at hb
  | cons a avs=>
   obtain ⟨v,vs',rfl,r1,r2⟩:=ha
   simp only[qbj,Option.bind_eq_some_iff] at hb
   obtain ⟨⟨mx,x,rt2⟩,htk,hb⟩:=hb
   split at hb
   ·rename_i hs
    simp only[Option.bind_eq_some_iff,Option.some.injEq,Prod.mk.injEq] at hb
    obtain ⟨⟨gd2,rt3⟩,hb,e1,e2⟩:=hb
    subst e2
    obtain ⟨c,g2,F,ev,tk1⟩:=qq2 (S:=⟨sl,rt⟩) _ st htk r1
    obtain ⟨F1,F2,q1,q2,q3,q4⟩:=Rep.serves t hs tk1.rep
    have st2:=tk1.st.shareHand F2 (fun b hb=>.inr (q2 b hb))
    have kp2:Kp h ⟨sl,rt⟩ g ⟨sl,rt2⟩ { g2 with Pr:=Un g2.Pr F2 }:=Kp.trans tk1.kp (qsr tk1.st F2)
    obtain ⟨g1,H1,Fs,k1,k2,k3,k4,k5,k6,k7,k8,k9,k10⟩:=qjy ks avs vs' rt2 _ _ (i+1) gd2 rt3 (r2.kp kp2) st2 hb
    refine ⟨g1,H1,fun j=>if j=i then F1 else Fs j,k1,kp2.trans k2,tk1.same.trans (Ghost.Same.trans ⟨rfl,rfl,rfl⟩ k3),tk1.pr.trans (fun b hb=>k4 b (Or.inl hb)),?_,?_,?_,?_,?_,?_⟩
    ·subst e1
     refine ⟨v,vs',rfl,?_,?_⟩
     ·show qgr h g1.Pr t m x v (if i=i then F1 else Fs i)
      rw[if_pos rfl]
      exact ⟨c,Rep.mono k4 (fun _ _=>rfl) t q4 (Sub.refl _) (fun _ _=>rfl),ev⟩
     ·exact qg1.mono (Sub.refl _) ks (i+1) (fun j hj=>by show (if j=i then F1 else Fs j)=Fs j;rw[if_neg (by omega)]) k5
    ·intro j hj;show (if j=i then F1 else Fs j)=Nil;rw[if_neg (by omega)];exact k6 j (by omega)
    ·intro j b hb
     split at hb
     ·exact k10 b ⟨.inr (q1 b hb),fun h2=>q3 b hb h2⟩
     ·exact k7 j b hb
    ·intro j k hjk b h1 h2
     split at h1<;>split at h2
     ·omega
     ·exact k9 k b h2 ⟨.inr (q1 b h1),fun h3=>q3 b h1 h3⟩
     ·exact k9 j b h1 ⟨.inr (q1 b h2),fun h3=>q3 b h2 h3⟩
     ·exact k8 j k hjk b h1 h2
    ·intro j b h1 h2
     split at h1
     ·exact tk1.dis b (q1 b h1) h2
     ·exact k9 j b h1 ⟨.inl h2,fun h3=>tk1.dis b (q2 b h3) h2⟩
    ·intro b hb
     exact k10 b ⟨.inl hb,fun h3=>tk1.dis b (q2 b h3) hb⟩
   ·simp at hb
 | .val t::ks,avs,vs,rt,g,H,i,gd,rt1,ha,st,hb=>by
  cases avs with
  | nil=>simp[qbj] at hb
  | cons a avs=>
   obtain ⟨v,vs',rfl,r1,r2⟩:=ha
   obtain ⟨g1,H1,Fs,k1,k2,k3,k4,k5,k6,k⟩:=qjy ks avs vs' rt g H (i+1) gd rt1 r2 st hb
   exact ⟨g1,H1,Fs,k1,k2,k3,k4,⟨v,vs',rfl,k5⟩,fun j hj=>k6 j (by omega),k⟩
 | .mutp _ _ _::ks,avs,vs,rt,g,H,i,gd,rt1,ha,st,hb=>by
  cases avs with
  | nil=>simp[qbj] at hb
  | cons a avs=>
   obtain ⟨v,vs',rfl,r1,r2⟩:=ha
   obtain ⟨g1,H1,Fs,k1,k2,k3,k4,k5,k6,k⟩:=qjy ks avs vs' rt g H (i+1) gd rt1 r2 st hb
   exact ⟨g1,H1,Fs,k1,k2,k3,k4,⟨v,vs',rfl,k5⟩,fun j hj=>k6 j (by omega),k⟩
 | .mutv _ _ _::ks,avs,vs,rt,g,H,i,gd,rt1,ha,st,hb=>by
  cases avs with
  | nil=>simp[qbj] at hb
  | cons a avs=>
   obtain ⟨v,vs',rfl,r1,r2⟩:=ha
   obtain ⟨g1,H1,Fs,k1,k2,k3,k4,k5,k6,k⟩:=qjy ks avs vs' rt g H (i+1) gd rt1 r2 st hb
   exact ⟨g1,H1,Fs,k1,k2,k3,k4,⟨v,vs',rfl,k5⟩,fun j hj=>k6 j (by omega),k⟩
 | .rptr _::ks,avs,vs,rt,g,H,i,gd,rt1,ha,st,hb=>by
  cases avs with
  | nil=>simp[qbj] at hb
  | cons a avs=>
   obtain ⟨v,vs',rfl,r1,r2⟩:=ha
   obtain ⟨g1,H1,Fs,k1,k2,k3,k4,k5,k6,k⟩:=qjy ks avs vs' rt g H (i+1) gd rt1 r2 st hb
   exact ⟨g1,H1,Fs,k1,k2,k3,k4,⟨v,vs',rfl,k5⟩,fun j hj=>k6 j (by omega),k⟩
 | .fn::ks,avs,vs,rt,g,H,i,gd,rt1,ha,st,hb=>by
  cases avs with
  | nil=>simp[qbj] at hb
  | cons a avs=>
   obtain ⟨v,vs',rfl,r1,r2⟩:=ha
   obtain ⟨g1,H1,Fs,k1,k2,k3,k4,k5,k6,k⟩:=qjy ks avs vs' rt g H (i+1) gd rt1 r2 st hb
   exact ⟨g1,H1,Fs,k1,k2,k3,k4,⟨v,vs',rfl,k5⟩,fun j hj=>k6 j (by omega),k⟩
end
end Go.V

namespace Go.V
noncomputable section
open Go
def Seen (sh:Bool) (S:St) (g:Ghost):BS:=if sh then g.Pr else Vis S g
theorem qsw (sh:Bool) (S:St) (g:Ghost):Sub g.Pr (Seen sh S g):=by
 intro b hb;unfold Seen;split
 ·exact hb
 ·exact .inl hb
section
variable {h:Array Obj} {S:St} {g:Ghost} {tmps:Array Value} {H:BS} (st:StRel h S g tmps H)
include st
theorem qbdt:∀ (t:Ty) {a:AV} {x:t.den} {c:List Value},a.shared=true→rd S.rt t a=some x→AVC h S g a c→Rep h g.Pr t .no x c Nil
 | t,a,x,c,hs,hr,y=>by
  cases a with
  | val t' x'=>
   have hc:qbs t' t x'=some x:=by cases t<;>simpa only [rd] using hr
   simp only[AVC] at y
   exact (Rep.cast hc y).2
  | unit=>
   cases t with
   | unit=>simp only[AVC] at y;simp only[Rep];exact y
   | _=>simp[rd] at hr
  | pair u v=>
   cases t with
   | pair a b=>
    simp only[AV.shared,Bool.and_eq_true] at hs
    simp only[rd,Option.bind_eq_some_iff,Option.some.injEq] at hr
    obtain ⟨x1,h1,x2,h2,rfl⟩:=hr
    simp only[AVC] at y
    obtain ⟨ca,cb,rfl,y1,y2⟩:=y
    simp only[Rep]
    exact ⟨ca,cb,Nil,Nil,rfl,qbdt a hs.1 h1 y1,qbdt b hs.2 h2 y2,Sub.nil _,Sub.nil _,Dis.nil _⟩
   | _=>simp[rd] at hr
  | undef=>cases t<;>simp[rd] at hr
  | brw r p s=>simp[AV.shared] at hs
  | _=>simp only[AVC] at y
theorem qbmy (t:Ty) {a:AV} {x:t.den} {v:Value} (hs:a.shared=true) (hr:rd S.rt t a=some x) (y:qf h S g a v):qgr h g.Pr t .no x v Nil:=by
 cases a with
 | val t' x'=>
  have hc:qbs t' t x'=some x:=by cases t<;>simpa only [rd] using hr
  simp only[qf] at y
  obtain ⟨c,r,rfl⟩:=y
  obtain ⟨rfl,r2⟩:=Rep.cast hc r
  exact ⟨c,r2,rfl⟩
 | litB b=>
  cases t with
  | bool=>
   simp only[rd,Option.some.injEq] at hr
   simp only[qf] at y
   subst hr;subst y
   exact ⟨[.bool b],by simp only[Rep],rfl⟩
  | _=>simp[rd] at hr
 | unit=>
  cases t with
  | unit=>simp only[qf] at y;exact ⟨[],by simp only[Rep],by rw[y];rfl⟩
  | _=>simp[rd] at hr
 | nils=>
  cases t with
  | sl e=>
   simp only[rd,Option.some.injEq] at hr
   simp only[qf] at y
   subst hr;subst y
   exact ⟨[.slice none 0 0],by simp only[Rep];exact ⟨none,0,by simp,by simp,by simp⟩,rfl⟩
  | _=>simp[rd] at hr
 | pair u w=>
  cases t with
  | pair a b=>
   simp only[qf] at y
   obtain ⟨ca,cb,rfl,y1,y2⟩:=y
   exact ⟨ca++cb,qbdt st (.pair a b) (a:=.pair u w) hs hr (by simp only[AVC];exact ⟨ca,cb,rfl,y1,y2⟩),rfl⟩
  | _=>simp[rd] at hr
 | brw r p s=>simp[AV.shared] at hs
 | _=>cases t<;>simp[rd] at hr
theorem qbk0 {sh:Bool} (t:Ty) {a:AV} {x:t.den} {v:Value} (hs:sh=true→a.shared=true) (hr:rd S.rt t a=some x) (y:qf h S g a v) :
  qgr h (Seen sh S g) t .no x v Nil:=by
 cases sh with
 | true=>exact qbmy st t (hs rfl) hr y
 | false=>
  obtain ⟨c,e,r⟩:=qbgx st t hr y
  exact ⟨c,r,e⟩
theorem q4p {Pr:BS} (hp:Sub g.Pr Pr) {t:Ty} {x:t.den} {v:Value} (y:qk8 h g t x v):qk8 h (PG Pr) t x v:=by
 obtain ⟨b,o,cs,e,pb,hb,hs,r⟩:=y
 exact ⟨b,o,cs,e,hp b pb,hb,hs,Rep.mono hp (fun _ _=>rfl) t r (Sub.refl _) (fun _ _=>rfl)⟩
theorem q9q {r:Nat} {p:Path} {d:Dy} {v:Value} (hf:S.rt.focus r p=some d) (hw:d.ms.whole=true) (x:qf h S g (.addr r p) v):qk8 h (PG (Vis S g)) d.ty d.x v:=by
 simp only[Rts.focus] at hf
 split at hf
 ·rename_i R hR
  simp only[qf] at x
  obtain ⟨h1,b,off,c,h2,h3⟩:=x R hR d hf
  obtain ⟨base,c',F,q1,q2,q3,q4,q5,_⟩:=st.update hR hf h1
  rw[h2] at q1
  simp only[Option.some.injEq,Prod.mk.injEq] at q1
  obtain ⟨rfl,rfl⟩:=q1
  have hisr:(S.root r).isSome:=by show (S.rt.root r).isSome=true;rw[hR];rfl
  obtain ⟨_,cs,hob,hs,hsub⟩:=q4 b off rfl
  have hl:=Rep.width _ q2
  refine ⟨b,off,cs,h3,.inr ⟨r,hisr,q5 b off rfl⟩,hob.blk,by omega,?_⟩
  rw[←hl,hsub]
  exact Rep.mono (fun b hb=>hb.elim .inl (fun hb=>.inr ⟨r,hisr,q3 b hb⟩)) (fun _ _=>rfl) _ (Rep.share _ hw q2) (Sub.refl _) (fun _ _=>rfl)
 ·simp at hf
theorem qxi {sh:Bool}:∀ {a:AV} {l:List CapV} {vs:List Value},(sh=true→a.shared=true)→qdz S.rt a=some l→TupRel h S g a vs→qe7 h (PG (Seen sh S g)) l vs
 | .unit,l,vs,_,hc,y=>by
  simp only[qdz,Option.some.injEq] at hc
  subst hc
  simp only[TupRel] at y
  exact y
 | .pair u w,l,vs,hs,hc,y=>by
  simp only[TupRel] at y
  obtain ⟨v,vs',rfl,y1,y2⟩:=y
  have hs2:sh=true→w.shared=true:=fun h=>by have:=hs h;simp only[AV.shared,Bool.and_eq_true] at this;exact this.2
  have hs1:sh=true→u.shared=true:=fun h=>by have:=hs h;simp only[AV.shared,Bool.and_eq_true] at this;exact this.1
  cases u with
  | addr r p=>
   simp only[qdz] at hc
   split at hc
   ·rename_i d hf
    split at hc
    ·rename_i hw
     simp only[Option.bind_eq_some_iff,Option.some.injEq] at hc
     obtain ⟨l',hc,rfl⟩:=hc
     refine ⟨v,vs',rfl,?_,qxi hs2 hc y2⟩
     cases sh with
     | true=>have:=hs1 rfl;simp[AV.shared] at this
     | false=>exact q9q st hf hw y1
    ·simp at hc
   ·simp at hc
  | raddr t x=>
   simp only[qdz,Option.bind_eq_some_iff,Option.some.injEq] at hc
   obtain ⟨l',hc,rfl⟩:=hc
   simp only[qf] at y1
   exact ⟨v,vs',rfl,q4p st (qsw sh S g) y1,qxi hs2 hc y2⟩
  | val t x=>
   simp only[qdz,Option.bind_eq_some_iff,Option.some.injEq] at hc
   obtain ⟨l',hc,rfl⟩:=hc
   simp only[qf] at y1
   obtain ⟨c,r,e⟩:=y1
   exact ⟨v,vs',rfl,⟨c,Rep.mono (qsw sh S g) (fun _ _=>rfl) t r (Sub.refl _) (fun _ _=>rfl),e⟩,qxi hs2 hc y2⟩
  | _=>simp[qdz] at hc
 | .undef,_,_,_,hc,_=>by simp[qdz] at hc
 | .skip,_,_,_,hc,_=>by simp[qdz] at hc
 | .litB _,_,_,_,hc,_=>by simp[qdz] at hc
 | .nils,_,_,_,hc,_=>by simp[qdz] at hc
 | .val _ _,_,_,_,hc,_=>by simp[qdz] at hc
 | .brw _ _ _,_,_,_,hc,_=>by simp[qdz] at hc
 | .view _ _ _ _ _,_,_,_,hc,_=>by simp[qdz] at hc
 | .addr _ _,_,_,_,hc,_=>by simp[qdz] at hc
 | .raddr _ _,_,_,_,hc,_=>by simp[qdz] at hc
 | .tup _,_,_,_,hc,_=>by simp[qdz] at hc
 | .clo _ _,_,_,_,hc,_=>by simp[qdz] at hc
 | .cloV _,_,_,_,hc,_=>by simp[qdz] at hc
theorem q8d {Pr:BS} (hp:Sub g.Pr Pr):∀ {l:List CapV} {vs:List Value},qe7 h g l vs→qe7 h (PG Pr) l vs
 | [],_,y=>y
 | c::l,_,y=>by
  obtain ⟨v,vs',e,h1,h2⟩:=y
  refine ⟨v,vs',e,?_,q8d hp h2⟩
  cases c with
  | val t x=>obtain ⟨c,r,e⟩:=h1;exact ⟨c,Rep.mono hp (fun _ _=>rfl) t r (Sub.refl _) (fun _ _=>rfl),e⟩
  | rptr t x=>exact q4p st hp h1
def qn5 (h:Array Obj) (Pr:BS) (Fs:Nat→BS):Nat→(ks:List PK)→ODen ks→List Value→Prop
 | _,[],_,vs=>vs=[]
 | i,.mutp t m _::ks,o,vs=>∃ v vs',vs=v::vs'∧qmi h Pr t m o.1 v (Fs i)∧qn5 h Pr Fs (i+1) ks o.2 vs'
 | i,.mutv t m _::ks,o,vs=>∃ v vs',vs=v::vs'∧qgr h Pr t m o.1 v (Fs i)∧qn5 h Pr Fs (i+1) ks o.2 vs'
 | i,.val _::ks,o,vs=>∃ v vs',vs=v::vs'∧qn5 h Pr Fs (i+1) ks o vs'
 | i,.own _ _::ks,o,vs=>∃ v vs',vs=v::vs'∧qn5 h Pr Fs (i+1) ks o vs'
 | i,.rptr _::ks,o,vs=>∃ v vs',vs=v::vs'∧qn5 h Pr Fs (i+1) ks o vs'
 | i,.fn::ks,o,vs=>∃ v vs',vs=v::vs'∧qn5 h Pr Fs (i+1) ks o vs'
theorem qha {sh:Bool} {Fs:Nat→BS}:∀ (ks:List PK) (avs:List AV) (vs:List Value) (i:Nat) (gd:GDen ks) (od:ODen ks) (a:PDen ks),(sh=true→qb1 ks avs=true)→
  qe4 h S g avs vs→qg1 h g.Pr Fs i ks gd vs→qn5 h g.Pr Fs i ks od vs→qcc S.rt ks avs gd od=some a→qq6 h (Seen sh S g) Fs i ks a vs
 | [],avs,vs,i,gd,od,a,_,ha,hg,_,hd=>by
  simp only[qg1] at hg
  exact hg
 | k::ks,[],vs,i,gd,od,a,_,ha,hg,_,hd=>by cases k<;>simp[qcc] at hd
 | k::ks,u::avs,vs,i,gd,od,a,hs,ha,hg,hl,hd=>by
  obtain ⟨v,vs',rfl,r1,r2⟩:=ha
  have hs2:sh=true→qb1 ks avs=true:=fun e=>by have:=hs e;simp only[qb1,Bool.and_eq_true] at this;exact this.2
  have hs1:sh=true→k.plain=true→u.shared=true:=fun e e2=>by
   have:=hs e
   simp only[qb1,Bool.and_eq_true,Bool.or_eq_true,Bool.not_eq_true'] at this
   rcases this.1 with h3 | h3
   ·rw[e2] at h3;simp at h3
   ·exact h3
  cases k with
  | val t=>
   simp only[qcc,Option.bind_eq_some_iff,Option.some.injEq] at hd
   obtain ⟨x,hx,r,hr,rfl⟩:=hd
   obtain ⟨_,_,e,hg⟩:=hg
   obtain ⟨_,_,e2,hl⟩:=hl
   simp only[List.cons.injEq] at e e2
   obtain ⟨rfl,rfl⟩:=e
   obtain ⟨-,rfl⟩:=e2
   exact ⟨v,vs',rfl,qbk0 st t (fun e=>hs1 e rfl) hx r1,qha ks avs vs' (i+1) gd od r hs2 r2 hg hl hr⟩
  | own t m=>
   simp only[qcc,Option.bind_eq_some_iff,Option.some.injEq] at hd
   obtain ⟨r,hr,rfl⟩:=hd
   obtain ⟨_,_,e,hv,hg⟩:=hg
   obtain ⟨_,_,e2,hl⟩:=hl
   simp only[List.cons.injEq] at e e2
   obtain ⟨rfl,rfl⟩:=e
   obtain ⟨-,rfl⟩:=e2
   exact ⟨v,vs',rfl,hv.mono (qsw sh S g),qha ks avs vs' (i+1) gd.2 od r hs2 r2 hg hl hr⟩
  | mutp t m m'=>
   simp only[qcc,Option.bind_eq_some_iff,Option.some.injEq] at hd
   obtain ⟨r,hr,rfl⟩:=hd
   obtain ⟨_,_,e,hg⟩:=hg
   obtain ⟨_,_,e2,hv,hl⟩:=hl
   simp only[List.cons.injEq] at e e2
   obtain ⟨rfl,rfl⟩:=e
   obtain ⟨rfl,rfl⟩:=e2
   refine ⟨v,vs',rfl,?_,qha ks avs vs' (i+1) gd od.2 r hs2 r2 hg hl hr⟩
   obtain ⟨b,c,F0,e,r,k⟩:=hv
   exact ⟨b,c,F0,e,Rep.mono (qsw sh S g) (fun _ _=>rfl) t r (Sub.refl _) (fun _ _=>rfl),k⟩
  | mutv t m m'=>
   simp only[qcc,Option.bind_eq_some_iff,Option.some.injEq] at hd
   obtain ⟨r,hr,rfl⟩:=hd
   obtain ⟨_,_,e,hg⟩:=hg
   obtain ⟨_,_,e2,hv,hl⟩:=hl
   simp only[List.cons.injEq] at e e2
   obtain ⟨rfl,rfl⟩:=e
   obtain ⟨rfl,rfl⟩:=e2
   exact ⟨v,vs',rfl,hv.mono (qsw sh S g),qha ks avs vs' (i+1) gd od.2 r hs2 r2 hg hl hr⟩
  | rptr t=>
   obtain ⟨_,_,e,hg⟩:=hg
   obtain ⟨_,_,e2,hl⟩:=hl
   simp only[List.cons.injEq] at e e2
   obtain ⟨rfl,rfl⟩:=e
   obtain ⟨-,rfl⟩:=e2
   cases u with
   | raddr t' x=>
    simp only[qcc,Option.bind_eq_some_iff,Option.some.injEq] at hd
    obtain ⟨y,hc,r,hr,rfl⟩:=hd
    simp only[qf] at r1
    obtain ⟨e1,e2⟩:=qid hc
    subst e1
    simp only at e2
    subst e2
    exact ⟨v,vs',rfl,q4p st (qsw sh S g) r1,qha ks avs vs' (i+1) gd od r hs2 r2 hg hl hr⟩
   | addr q p=>
    simp only[qcc] at hd
    split at hd
    ·rename_i d hf
     split at hd
     ·rename_i hw
      simp only[Option.bind_eq_some_iff,Option.some.injEq] at hd
      obtain ⟨y,hc,r,hr,rfl⟩:=hd
      refine ⟨v,vs',rfl,?_,qha ks avs vs' (i+1) gd od r hs2 r2 hg hl hr⟩
      obtain ⟨dt,dm,dx⟩:=d
      simp only at hc hw
      obtain ⟨e1,e2⟩:=qid hc
      subst e1
      simp only at e2
      subst e2
      cases sh with
      | true=>have:=hs1 rfl rfl;simp[AV.shared] at this
      | false=>exact q9q st hf hw r1
     ·simp at hd
    ·simp at hd
   | _=>simp[qcc] at hd
  | fn=>
   obtain ⟨_,_,e,hg⟩:=hg
   obtain ⟨_,_,e2,hl⟩:=hl
   simp only[List.cons.injEq] at e e2
   obtain ⟨rfl,rfl⟩:=e
   obtain ⟨-,rfl⟩:=e2
   cases u with
   | clo f caps=>
    simp only[qcc,Option.bind_eq_some_iff,Option.some.injEq] at hd
    obtain ⟨l,hc,r,hr,rfl⟩:=hd
    simp only[qf] at r1
    obtain ⟨ws,e,ht⟩:=r1
    exact ⟨v,vs',rfl,⟨ws,e,qxi st (fun e=>by have:=hs1 e rfl;simpa [AV.shared] using this) hc ht⟩,qha ks avs vs' (i+1) gd od r hs2 r2 hg hl hr⟩
   | cloV c=>
    simp only[qcc,Option.bind_eq_some_iff,Option.some.injEq] at hd
    obtain ⟨r,hr,rfl⟩:=hd
    simp only[qf] at r1
    obtain ⟨ws,e,ht⟩:=r1
    exact ⟨v,vs',rfl,⟨ws,e,q8d st (qsw sh S g) ht⟩,qha ks avs vs' (i+1) gd od r hs2 r2 hg hl hr⟩
   | _=>simp[qcc] at hd
end
end
end Go.V

namespace Go.V
noncomputable section
open Go
theorem qek.conv {h:Array Obj} {Pr Pr2:BS} {Gs:Nat→BS}:∀ (rs:List RK) (i:Nat) {r:RDen rs} {us:List Value},(Sub Pr Pr2∨rs.all RK.full=true)→qek h Pr Gs i rs r us→qek h Pr2 Gs i rs r us
 | [],_,_,_,_,k=>k
 | q::rs,i,r,us,hc,k=>by
  obtain ⟨v,vs',e,k1,k2⟩:=k
  have hc2:Sub Pr Pr2∨rs.all RK.full=true:=hc.imp id fun h=>by simp only[List.all_cons,Bool.and_eq_true] at h;exact h.2
  refine ⟨v,vs',e,?_,qek.conv rs (i+1) hc2 k2⟩
  have conv:∀ (t:Ty) (m:Mk) (x:t.den) (c:List Value) (F:BS),(m.full t=true∨Sub Pr Pr2)→Rep h Pr t m x c F→Rep h Pr2 t m x c F:=fun t m x c F hh rr=>
   hh.elim (fun h=>Rep.fullMk t h rr) (fun h=>Rep.mono h (fun _ _=>rfl) t rr (Sub.refl _) (fun _ _=>rfl))
  have hf:q.ms.full q.ty=true∨Sub Pr Pr2:=hc.symm.imp (fun h=>by simp only[List.all_cons,Bool.and_eq_true] at h;cases q<;>exact h.1) id
  cases q with
  | val t m=>obtain ⟨c,rr,e⟩:=k1;exact ⟨c,conv t m _ c _ hf rr,e⟩
  | ptr t m=>obtain ⟨b,c,F0,e,rr,k⟩:=k1;exact ⟨b,c,F0,e,conv t m _ c _ hf rr,k⟩
theorem qbkx {w w':World} {sl:List AV} {rt:Rts} {g:Ghost} {tmps:Array Value} {H:BS} (st:StRel w.heap ⟨sl,rt⟩ g tmps H) {Fs:Nat→BS} (hF:∀ i,Sub (Fs i) H)
  {sh:Bool} {ks:List PK} {rs:List RK} {r:RDen rs} {o:ODen ks} {vs:List Value} {val:Value} {Pr':BS} {Gs Os:Nat→BS} {us:List Value}
  (p:Pst w w' (Seen sh ⟨sl,rt⟩ g) Fs ks rs r o vs val Pr' Gs Os us) (hfull:sh=false→rs.all RK.full=true) :
  ∃ g3 H3,StRel w'.heap ⟨sl,rt⟩ g3 tmps H3∧qek w'.heap g3.Pr Gs 0 rs r us∧(∀ i,Sub (Gs i) H3)∧g3.Same g:=by
 have hk:∀ b,b<w.heap.size→¬ H b→w'.heap[b]? = w.heap[b]?:=fun b hb hn=>p.fr.block b hb (by
  rintro (h1 | ⟨i,h1⟩)
  ·omega
  ·exact hn (hF i b h1))
 have st1:=st.handWrite hk p.fr.size (fun b=>H b∨(w.heap.size≤b∧b<w'.heap.size)) (fun b hb=>hb)
 have hMay:∀ b,May w.heap.size Fs b→b<w'.heap.size→H b∨(w.heap.size≤b∧b<w'.heap.size):=by
  rintro b (h1 | ⟨i,h1⟩) h2
  ·exact .inr ⟨h1,h2⟩
  ·exact .inl (hF i b h1)
 cases sh with
 | false=>
  exact ⟨g,_,st1,qek.conv rs 0 (.inr (hfull rfl)) p.res,fun i b hb=>hMay b (p.gL i b hb) (p.glim i b hb),.refl _⟩
 | true=>
  have hD:Sub (fun b=>Pr' b∧¬ g.Pr b) (fun b=>H b∨(w.heap.size≤b∧b<w'.heap.size)):=by
   rintro b ⟨h1,h2⟩
   rcases p.prL b h1 with h3 | h3
   ·exact absurd h3 h2
   ·exact hMay b h3 (p.plim b h1)
  refine ⟨_,_,st1.shareHand _ hD,qek.conv rs 0 (.inl ?_) p.res,fun i b hb=>⟨hMay b (p.gL i b hb) (p.glim i b hb),fun h=>p.gp i b hb h.1⟩,⟨rfl,rfl,rfl⟩⟩
  intro b hb
  by_cases h1:g.Pr b
  ·exact .inl h1
  ·exact .inr ⟨hb,h1⟩
def vsOf:List RK→List Value→List Value
 | [],_=>[]
 | k::ks,c=>mkV k.ty (c.take k.ty.width)::vsOf ks (c.drop k.ty.width)
theorem qbfr {h:Array Obj} {Pr:BS} {Gs:Nat→BS} (hd:∀ i j,i≠j→Dis (Gs i) (Gs j)):∀ (rs:List RK) (i:Nat) {r:RDen rs} {us:List Value},rs.all (fun k=>!k.isPtr&&k.ty.nz)=true→qek h Pr Gs i rs r us→
  ∃ c F,Rep h Pr (qdc rs) (qi4 rs) (resX rs r) c F∧(∀ b,F b→∃ j,i≤j∧Gs j b)∧us=vsOf rs c
 | [],i,r,us,_,k=>⟨[],Nil,by simp only[qdc,Rep],fun b h=>h.elim,k⟩
 | .ptr t m::rs,i,r,us,hp,k=>by simp[RK.isPtr] at hp
 | .val t m::rs,i,r,us,hp,k=>by
  simp only[List.all_cons,Bool.and_eq_true] at hp
  obtain ⟨v,vs',rfl,⟨c1,r1,rfl⟩,k2⟩:=k
  obtain ⟨c2,F2,r2,hF2,rfl⟩:=qbfr hd rs (i+1) hp.2 k2
  refine ⟨c1++c2,Un (Gs i) F2,?_,?_,?_⟩
  ·simp only[qdc,qi4,resX,Rep,Mk.fst,Mk.snd]
   refine ⟨c1,c2,Gs i,F2,rfl,r1,r2,fun b hb=>.inl hb,fun b hb=>.inr hb,?_⟩
   intro b h1 h2
   obtain ⟨j,hj,h3⟩:=hF2 b h2
   exact hd i j (by omega) b h1 h3
  ·rintro b (hb | hb)
   ·exact ⟨i,Nat.le_refl _,hb⟩
   ·obtain ⟨j,hj,h3⟩:=hF2 b hb;exact ⟨j,by omega,h3⟩
  ·have hl:=Rep.width t r1
   simp only[vsOf,RK.ty]
   rw[List.take_left' hl,List.drop_left' hl]
theorem q7o {h:Array Obj} {S:St} {g:Ghost}:∀ (rs:List RK) {x:(qdc rs).den} {c:List Value} {F:BS},Rep h g.Pr (qdc rs) .no x c F→TupRel h S g (tupV (qdc rs) x) (vsOf rs c)
 | [],x,c,F,r=>by simp only[qdc,tupV,TupRel,vsOf]
 | k::rs,x,c,F,r=>by
  simp only[qdc,Rep] at r
  obtain ⟨ca,cb,Fa,Fb,rfl,ra,rb,_⟩:=r
  have hl:=Rep.width _ ra
  simp only[qdc,tupV,TupRel,vsOf]
  rw[List.take_left' hl,List.drop_left' hl]
  refine ⟨_,_,rfl,?_,q7o rs rb⟩
  simp only[qf]
  exact ⟨ca,Rep.no_room (m:=.no) _ rfl ra,rfl⟩
theorem qbie {h:Array Obj} {S:St} {g:Ghost} {r:Nat} {R:Root} (hR:S.root r=some R):∀ (rs:List RK) (p:Path) (m:Mk) (x:(qdc rs).den) (base:Base) (c:List Value) (F:BS),
  focus R.ty R.ms R.x p=some ⟨qdc rs,m,x⟩→inR R.ty R.x p→atP h R.ty (g.C r) (g.base r) p=some (base,c)→Rep h g.Pr (qdc rs) m x c F→rs.all (fun k=>!k.isPtr&&k.ty.nz)=true→
  TupRel h S g (q58 (avOf r (qdc rs) m x p)) (vsOf rs c)
 | [],p,m,x,base,c,F,_,_,_,_,_=>by simp only[qdc,avOf,q58,TupRel,vsOf]
 | k::rs,p,m,x,base,c,F,hf,hin,hat,rep,hall=>by
  simp only[List.all_cons,Bool.and_eq_true] at hall
  simp only[qdc,avOf]
  by_cases hs:m.still=true
  ·rw[if_pos hs]
   have:=q7o (S:=S) (k::rs) (Rep.no_room (F':=Nil) _ hs rep)
   exact this
  ·rw[if_neg hs]
   have rep':=rep
   simp only[qdc,Rep] at rep'
   obtain ⟨ca,cb,Fa,Fb,rfl,ra,rb,_⟩:=rep'
   have hl:=Rep.width _ ra
   have hfa:focus R.ty R.ms R.x (p++[.fst])=some ⟨k.ty,m.fst,x.1⟩:=by
    rw[qft p _ hf];simp only[qdc,focus]
   have hfb:focus R.ty R.ms R.x (p++[.snd])=some ⟨qdc rs,m.snd,x.2⟩:=by
    rw[qft p _ hf];simp only[qdc,focus]
   have hia:inR R.ty R.x (p++[.fst]):=(qle p _ hf).2 ⟨hin,by simp only[qdc,inR]⟩
   have hib:inR R.ty R.x (p++[.snd]):=(qle p _ hf).2 ⟨hin,by simp only[qdc,inR]⟩
   have haa:atP h R.ty (g.C r) (g.base r) (p++[.fst])=some (base,ca):=by
    rw[qiq p _ hf hat];simp only[qdc,atP];rw[List.take_left' hl]
   have hab:atP h R.ty (g.C r) (g.base r) (p++[.snd])=some (base.map fun x=>(x.1,x.2+k.ty.width),cb):=by
    rw[qiq p _ hf hat];simp only[qdc,atP];rw[List.drop_left' hl]
   simp only[q58,TupRel,vsOf]
   rw[List.take_left' hl,List.drop_left' hl]
   refine ⟨_,_,rfl,AVC.rel ra (qsm hR _ _ _ _ _ _ _ hfa hia haa ra) (Ty.nz_unit hall.1.2),?_⟩
   exact qbie hR rs (p++[.snd]) m.snd x.2 _ cb Fb hfb hib hab rb hall.2
theorem qbez {a b:RK} {rs:List RK} {c:List Value}:qjx (vsOf (a::b::rs) c)=.tuple (vsOf (a::b::rs) c).toArray:=by
 simp only[vsOf,qjx]
theorem q19 {h:Array Obj} {S:St} {rt1:Rts} {g:Ghost} {tmps:Array Value} {H:BS} (st:StRel h ⟨S.sl,rt1⟩ g tmps H) {Gs:Nat→BS} (hG:∀ i,Sub (Gs i) H) (hd:∀ i j,i≠j→Dis (Gs i) (Gs j))
  {A:Asks} {d:Option Nat} {site:Nat} (ok:AOk A S d site):∀ (rs:List RK) {r:RDen rs} {us:List Value} {β:Bool} {v:AV} {rt':Rts},qek h g.Pr Gs 0 rs r us→
  (qd1 A rt1 d site rs r).dec β=some (v,rt')→∃ g',StRel h ⟨S.sl,rt'⟩ g' tmps Nil∧qf h ⟨S.sl,rt'⟩ g' v (qjx us)∧g'.Same g
 | [],r,us,β,v,rt',k,e=>by
  simp only[qek] at k
  subst k
  simp only[qd1,Tr.dec,Option.some.injEq,Prod.mk.injEq] at e
  obtain ⟨rfl,rfl⟩:=e
  refine ⟨g,st.lessHand (Sub.nil _),?_,.refl _⟩
  simp only[qf,qjx]
  exact ⟨[],rfl,by simp only[TupRel]⟩
 | [.val t m],r,us,β,v,rt',k,e=>by
  obtain ⟨u,vs',rfl,⟨c,rr,rfl⟩,k2⟩:=k
  simp only[qek] at k2
  subst k2
  simp only[qd1] at e
  by_cases hsh:A.sh=true
  ·rw[if_pos hsh] at e
   by_cases hw:m.whole=true
   ·rw[if_pos hw] at e
    simp only[Tr.dec,Option.some.injEq,Prod.mk.injEq] at e
    obtain ⟨rfl,rfl⟩:=e
    obtain ⟨g',s1,s2,s3,_⟩:=qvb st rr (hG 0) hw
    exact ⟨g',s1.lessHand (Sub.nil _),by simp only[qf,qjx];exact ⟨c,s2,rfl⟩,s3⟩
   ·rw[if_neg hw] at e;simp[Tr.dec] at e
  rw[if_neg hsh] at e
  by_cases hm:m.tagFree=true
  ·rw[if_pos hm] at e
   obtain ⟨g',s1,s2,s3⟩:=qod st rr (TagC.tagFree _ hm) (hG 0) ok e
   exact ⟨g',s1,s2,s3⟩
  ·rw[if_neg hm] at e;simp[Tr.dec] at e
 | [.ptr t m],r,us,β,v,rt',k,e=>by
  obtain ⟨u,vs',rfl,⟨b,c,F0,rfl,rr,ho,hb,hF0,hn⟩,k2⟩:=k
  simp only[qek] at k2
  subst k2
  simp only[qd1] at e
  by_cases hm:m.tagFree=true
  ·rw[if_pos hm] at e
   obtain ⟨g',s1,s2,s3⟩:=q2x st rr (TagC.tagFree _ hm) (fun x hx=>hG 0 x (hF0 x hx)) (hG 0 b hb) hn ho ok e
   exact ⟨g',s1,s2,s3⟩
  ·rw[if_neg hm] at e;simp[Tr.dec] at e
 | q1::q2::rs,r,us,β,v,rt',k,e=>by
  have e':(qoh A rt1 d site (q1::q2::rs) r).dec β=some (v,rt'):=by
   cases q1<;>simpa only [qd1] using e
  unfold qoh at e'
  by_cases hc:((qi4 (q1::q2::rs)).tagFree&&(q1::q2::rs).all (fun k=>!k.isPtr&&k.ty.nz))=true
  ·rw[if_pos hc] at e'
   simp only[Bool.and_eq_true] at hc
   obtain ⟨c,F,rep,hF,rfl⟩:=qbfr hd _ 0 hc.2 k
   have hFH:Sub F H:=fun b hb=>by obtain ⟨j,_,h3⟩:=hF b hb;exact hG j b h3
   rw[qbez]
   cases d with
   | none=>
    simp only[Tr.dec,Option.some.injEq,Prod.mk.injEq] at e'
    obtain ⟨rfl,rfl⟩:=e'
    exact ⟨g,st.lessHand (Sub.nil _),by simp only[qf],.refl _⟩
   | some d=>
    simp only at e'
    cases hl:layT A rt1 (some d) site (qdc (q1::q2::rs)) (qi4 (q1::q2::rs)) (resX (q1::q2::rs) r) false with
    | ret z=>
     obtain ⟨v1,rt2⟩:=z
     rw[hl] at e'
     simp only[Tr.dec,Option.some.injEq,Prod.mk.injEq] at e'
     obtain ⟨rfl,rfl⟩:=e'
     simp only[layT,Bool.false_eq_true,if_false] at hl
     split at hl
     ·simp at hl
     ·rename_i hn
      simp only[Bool.or_eq_true,Bool.not_eq_true',not_or,Bool.not_eq_false,qfi] at hn
      split at hl
      ·rename_i hs
       simp only[Tr.ret.injEq,Prod.mk.injEq] at hl
       obtain ⟨rfl,rfl⟩:=hl
       refine ⟨g,st.lessHand (Sub.nil _),?_,.refl _⟩
       simp only[qf]
       exact ⟨_,rfl,q7o _ (Rep.no_room (F':=Nil) _ hs rep)⟩
      ·split at hl
       ·rename_i hcc
        simp only[Tr.ret.injEq,Prod.mk.injEq] at hl
        obtain ⟨rfl,rfl⟩:=hl
        have rep':=(Rep.stamp (h:=h) (Pr:=g.Pr) site _).1 rep
        have key:∀ u,((⟨S.sl,rt1⟩:St).get u).roots.contains d=false∨(∃ lo hi,((⟨S.sl,rt1⟩:St).get u).stampsOk lo hi=true∧((⟨S.sl,rt1⟩:St).get u).noPl d=true∧((qi4 (q1::q2::rs)).stamp site).fresh lo hi∧(none:Option Nat)=none):=by
         intro u
         simp only[Bool.or_eq_true,Bool.and_eq_true] at hcc
         rcases hcc with hcc | ⟨⟨hc1,hc2⟩,hc3⟩
         ·exact .inl (ok.men hcc d rfl u)
         ·exact .inr ⟨site,site+1,(ok.fr hc1).2 u,ok.pl hc3 d rfl u,Mk.fresh_stamp site hc2,rfl⟩
        obtain ⟨g',s1,s2,s3,s4,s5,s6⟩:=st.newRoot hn.1 rep' (TagC.stamp hn.2 _ (TagC.tagFree _ hc.1)) hFH none (fun b hb=>by simp at hb) key
        refine ⟨g',s1.lessHand (Sub.nil _),?_,s3⟩
        have hR:(⟨S.sl,rt1.setRoot d (some ⟨qdc (q1::q2::rs),(qi4 (q1::q2::rs)).stamp site,resX (q1::q2::rs) r,false⟩)⟩:St).root d=some ⟨qdc (q1::q2::rs),(qi4 (q1::q2::rs)).stamp site,resX (q1::q2::rs) r,false⟩:=by
         have:=St.root_setRoot (⟨S.sl,rt1⟩:St) d (some ⟨qdc (q1::q2::rs),(qi4 (q1::q2::rs)).stamp site,resX (q1::q2::rs) r,false⟩) d
         rw[if_pos ⟨rfl,hn.1⟩] at this;exact this
        simp only[qf]
        refine ⟨_,rfl,?_⟩
        refine qbie hR (q1::q2::rs) [] _ _ (g'.base d) c F (qtl _ _ _) (qzt _ _) ?_ (by rw[s2];exact rep') hc.2
        rw[s4];exact qtd _ _ _ _
       ·simp at hl
    | _=>rw[hl] at e';simp[Tr.dec] at e'
  ·rw[if_neg hc] at e';simp[Tr.dec] at e'
end
end Go.V

namespace Go.V
open Go
theorem qla {h:Array Obj} {Pr:BS} {Fs:Nat→BS}:∀ (ks:List PK) (avs:List AV) (vs:List Value) (i:Nat) (rt rt2:Rts) (od:ODen ks) {S:St} {g:Ghost},ks.all (fun k=>!k.lends)=true→
  qe4 h S g avs vs→qbi rt ks avs=some (od,rt2)→rt2=rt∧qn5 h Pr Fs i ks od vs
 | [],avs,vs,i,rt,rt2,od,S,g,_,ha,hb=>by
  cases avs with
  | nil=>
   simp only[qbi,Option.some.injEq,Prod.mk.injEq] at hb
   exact ⟨hb.2.symm,ha⟩
  | cons a avs=>simp[qbi] at hb
 | k::ks,[],vs,i,rt,rt2,od,S,g,_,ha,hb=>by cases k<;>simp[qbi] at hb
 | k::ks,a::avs,vs,i,rt,rt2,od,S,g,hn,ha,hb=>by
  simp only[List.all_cons,Bool.and_eq_true] at hn
  obtain ⟨v,vs',rfl,r1,r2⟩:=ha
  cases k with
  | mutp t m m'=>simp[PK.lends] at hn
  | mutv t m m'=>simp[PK.lends] at hn
  | val t=>obtain ⟨e,k⟩:=qla (Fs:=Fs) ks avs vs' (i+1) rt rt2 od hn.2 r2 (by simpa only [qbi] using hb);exact ⟨e,v,vs',rfl,k⟩
  | own t m=>obtain ⟨e,k⟩:=qla (Fs:=Fs) ks avs vs' (i+1) rt rt2 od hn.2 r2 (by simpa only [qbi] using hb);exact ⟨e,v,vs',rfl,k⟩
  | rptr t=>obtain ⟨e,k⟩:=qla (Fs:=Fs) ks avs vs' (i+1) rt rt2 od hn.2 r2 (by simpa only [qbi] using hb);exact ⟨e,v,vs',rfl,k⟩
  | fn=>obtain ⟨e,k⟩:=qla (Fs:=Fs) ks avs vs' (i+1) rt rt2 od hn.2 r2 (by simpa only [qbi] using hb);exact ⟨e,v,vs',rfl,k⟩
theorem q25 {h:Array Obj} {S:St} {g:Ghost} {tmps:Array Value} {H:BS} (st:StRel h S g tmps H) (sh:Bool):∀ b,Seen sh S g b→b<h.size:=by
 intro b hb
 unfold Seen at hb
 split at hb
 ·exact st.limPr b hb
 ·rcases hb with hb | ⟨r,h1,h2⟩
  ·exact st.limPr b hb
  ·exact st.limG r b h1 h2
theorem q2w {h:Array Obj} {S:St} {g:Ghost} {tmps:Array Value} {H:BS} (st:StRel h S g tmps H) (sh:Bool):Dis H (Seen sh S g):=by
 intro b hH hb
 unfold Seen at hb
 split at hb
 ·exact st.handPr b hH hb
 ·rcases hb with hb | ⟨r,h1,h2⟩
  ·exact st.handPr b hH hb
  ·exact st.hand r h1 b h2 hH
section
variable {P:Program} {C:Ctx} {D:Den C} {S:St} {g:Ghost} {w:World} {tmps:Array Value}
variable {A:Asks} {site:Nat} (dok:DOk P C D) (st:StRel w.heap S g tmps Nil)
include dok st
theorem qbd5 {f:FuncId} {avs:List AV} {vs:List Value} {d:Option Nat} (ok:AOk A S d site) (ha:qe4 w.heap S g avs vs) {gd:GDen (C.sig f).params} {rt1:Rts}
  (h1:qbj S.rt (C.sig f).params avs=some (gd,rt1)) (hn:(C.sig f).params.all (fun k=>!k.lends)=true) {od:ODen (C.sig f).params} {rt2:Rts}
  (h2:qbi rt1 (C.sig f).params avs=some (od,rt2)) {a:PDen (C.sig f).params} (h3:qcc rt2 (C.sig f).params avs gd od=some a)
  (hs:qb1 (C.sig f).params avs=true∨(C.sig f).full=true) {r:RDen (C.sig f).res×ODen (C.sig f).params} (hD:D f a=some r) {β:Bool} {v:AV} {rt':Rts}
  (he:(qd1 A rt1 d site (C.sig f).res r.1).dec β=some (v,rt')) :
  Calls P f vs.toArray w fun e w'=>∃ val,e=.returned val∧Post S g w tmps v rt' val w':=by
 obtain ⟨g1,H1,Fs,k1,k2,k3,k4,k5,k6,k7,k8,k9,k10⟩:=qjy (sl:=S.sl) (C.sig f).params avs vs S.rt g Nil 0 gd rt1 ha st h1
 obtain ⟨e2,hL⟩:=qla (h:=w.heap) (Pr:=g1.Pr) (Fs:=Fs) (C.sig f).params avs vs 0 rt1 rt2 od hn ha h2
 subst e2
 have hps:=qha (S:=⟨S.sl,rt2⟩) k1 (sh:=qb1 (C.sig f).params avs) (Fs:=Fs) (C.sig f).params avs vs 0 gd od a (fun h=>h) (ha.kp k2) k5 hL h3
 have pre:Pre w.heap (Seen (qb1 (C.sig f).params avs) ⟨S.sl,rt2⟩ g1) Fs (C.sig f).params a vs:=
  ⟨hps,k8,fun i b hb=>q2w k1 _ b (k7 i b hb),fun i b hb=>k1.limH b (k7 i b hb),q25 k1 _⟩
 refine (dok.ok f a r hD w _ Fs vs pre).mono ?_
 rintro e w' ⟨val,Pr',Gs,Os,us,rfl,p⟩
 obtain ⟨g3,H3,q1,q2,q3,q4⟩:=qbkx k1 k7 p (fun h=>by
  rcases hs with h5 | h5
  ·rw[h] at h5;simp at h5
  ·simp only[Sig.full,Bool.and_eq_true] at h5;exact h5.2)
 obtain ⟨g4,s1,s2,s3⟩:=q19 q1 q3 p.gdis ok (C.sig f).res q2 he
 refine ⟨val,rfl,g4,s1,by rw[p.val];exact s2,(k3.trans q4).trans s3,p.fr.mono ?_⟩
 rintro b hb (h | ⟨i,h⟩)
 ·omega
 ·have:=k1.ownH b (k7 i b h)
  rw[k3.2.1] at this;exact this
end
end Go.V


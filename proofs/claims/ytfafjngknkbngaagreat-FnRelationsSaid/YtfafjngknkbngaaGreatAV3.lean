import Derived.Test.YtfafjngknkbngaaGreatProg
import Derived.KernelRfl
import Derived.WalkKit
import Derived.ProofKit
import Derived.OpenShut
import Derived.Below
import Derived.ChangeOld
import Derived.SizedLaws
import Derived.Test.YtfafjngknkbngaaGreatRows
import Derived.Carry
import Derived.ChangeCalls
import Derived.Shelf.Small.Strs
import Derived.Test.YtfafjngknkbngaaGreatAV2
set_option linter.unusedVariables false
set_option linter.unusedSimpArgs false
set_option linter.unusedSectionVars false
namespace Go.V
noncomputable section
open Go
theorem qoq.mono {h:Array Obj} {Pr Pr2:BS} {t:Ty} {m:Mk} {x:t.den} {v:Value} {F:BS} (hp:Sub Pr Pr2) (r:qoq h Pr t m x v F):qoq h Pr2 t m x v F:=by
 obtain ⟨b,c,F0,e,r,k⟩:=r
 exact ⟨b,c,F0,e,Rep.mono hp (fun _ _=>rfl) t r (Sub.refl _) (fun _ _=>rfl),k⟩
theorem RRel.mono {h:Array Obj} {Pr Pr2:BS} {k:RK} {x:k.den} {v:Value} {F:BS} (hp:Sub Pr Pr2) (r:RRel h Pr k x v F):RRel h Pr2 k x v F:=by
 cases k with
 | val t m=>exact qhn.mono hp r
 | ptr t m=>exact qoq.mono hp r
def q6e (tmps:Array Value):ResultVar→Sem Value
 | .tmp t=>pure (tmps.getD t Go.undef)
 | .cell a t=>do loadVar t (← asAddr (tmps.getD a Go.undef))
theorem qbop {fn:Func} {tmps:Array Value} {P:Program} {w:World} {us:List Value} (h:(fn.results.toList.mapM (q6e tmps)).run P w=.ok us w):(results fn tmps).run P w=.ok (qly us) w:=by
 have e:results fn tmps=(do let vs ← fn.results.mapM (q6e tmps);pure (if h:vs.size=1 then vs[0] else .tuple vs)):=by
  unfold results q6e
  rfl
 rw[e,Array.mapM_eq_mapM_toList]
 simp only[Sem.run_bind,Sem.run_map,h,Result.andThen_ok]
 match us with
 | []=>simp[qly]
 | [v]=>simp[qly]
 | u::v::l=>simp[qly]
section
variable {P:Program} {C:Ctx}
theorem qbig {w:World} {t:TypeId} (k:TyOk P C t) (hz:(C.ty t).nz=true) {b o:Nat} {c:List Value} (hr:w.rangeAt b o c) (hl:c.length=(C.ty t).width) :
  (do loadVar t (← asAddr (.pointer (some ⟨b,o,none⟩))):Sem Value).run P w=.ok (mkV (C.ty t) c) w:=by
 have:=q8i (P:=P) k hz hr hl
 simpa only [Instr.loadAt,Instr.sureAddr,asAddr] using this
theorem qbtx (hty:qck P C) {w:World} {S:St} {g:Ghost} {tmps:Array Value} {H:BS} (st:StRel w.heap S g tmps H) {t:TypeId} (hz:(C.ty t).nz=true) {a v':AV} {va:Value}
  (ha:qh w.heap S g a va) (hl:qnf S.rt (C.ty t) a=some v'):∃ u,(do loadVar t (← asAddr va):Sem Value).run P w=.ok u w∧qh w.heap S g v' u:=by
 have k:=hty t hz
 cases a with
 | raddr t' y=>
  simp only[qnf] at hl
  cases hc:qbs t' (C.ty t) y with
  | none=>rw[hc] at hl;simp at hl
  | some z=>
   rw[hc] at hl
   simp only[qh] at ha
   obtain ⟨b,off,cs,e,hp,hb,hs,rep⟩:=ha
   have hw:=Rep.width t' rep
   obtain ⟨e1,rep2⟩:=Rep.cast hc rep
   subst e1
   have hrun:=qbig (P:=P) (w:=w) k hz (qbt hb hs) hw
   refine ⟨_,by rw[e];exact hrun,?_⟩
   simp at hl
   subst hl
   simp only[qh];exact ⟨_,rep2,rfl⟩
 | addr r p=>
  simp only[qnf] at hl
  cases hf:S.rt.focus r p with
  | none=>rw[hf] at hl;simp at hl
  | some d=>
   rw[hf] at hl
   simp only at hl
   by_cases hd:d.ty=C.ty t
   ·simp only[hd,if_true] at hl
    have hf':=hf
    simp only[Rts.focus] at hf'
    split at hf'
    ·rename_i R hR
     obtain ⟨b,off,c,hin,hat,e⟩:=qbdh st hR hf' ha
     obtain ⟨base,c',F,q1,q2,q3,q4,q5⟩:=st.update hR hf' hin
     rw[hat] at q1
     simp only[Option.some.injEq,Prod.mk.injEq] at q1
     obtain ⟨rfl,rfl⟩:=q1
     obtain ⟨_,cs,ho1,hs,hsub⟩:=q4 b off rfl
     have hw:=Rep.width d.ty q2
     have hrange:w.rangeAt b off c:=by
      have:=qbt (w:=w) ho1.blk hs
      rw[hsub] at this;exact this
     have hrun:=qbig (P:=P) k hz hrange (by rw[hw,hd])
     obtain ⟨dt,dm,dx⟩:=d
     simp only at hd
     subst hd
     refine ⟨_,by rw[e];exact hrun,?_⟩
     simp only[Option.some.injEq] at hl
     subst hl
     exact AVC.rel q2 (qxg hR _ _ _ p (some (b,off)) c F hf' hin hat q2) (Ty.nz_unit hz)
    ·simp at hf'
   ·rw[if_neg hd] at hl;simp at hl
 | _=>simp[qnf] at hl
theorem qbkg (hty:qck P C) {w:World} {S:St} {g:Ghost} {tmps:Array Value} {H:BS} (st:StRel w.heap S g tmps H) {v:ResultVar} {a:AV} (h:qbfc C S v=some a) :
  ∃ u,(q6e tmps v).run P w=.ok u w∧qh w.heap S g a u:=by
 cases v with
 | tmp t=>
  simp only[qbfc,Option.some.injEq] at h
  subst h
  exact ⟨_,by simp only[q6e,Sem.run_pure],st.slots t⟩
 | cell x t=>
  simp only[qbfc] at h
  split at h
  ·rename_i hz
   exact qbtx hty st hz (st.slots x) h
  ·simp at h
theorem qbnm {h:Array Obj} {S:St} {g:Ghost} {tmps:Array Value} {H:BS} (st:StRel h S g tmps H) {q:Nat} {R:Root} (hR:S.root q=some R) (hm:R.mem=true) {t:Ty} {m:Mk} {x:t.den} {v:Value}
  (hs:m.serves R.ms=true) (hc:qbs R.ty t R.x=some x) (hv:qh h S g (.addr q []) v) :
  ∃ g' F,StRel h (S.setRoot q none) g' tmps (Un H F)∧qoq h g'.Pr t m x v F∧Dis F H∧g'.Same g∧Sub g.Pr g'.Pr:=by
 obtain ⟨F,r1,r2,r3,r4,_⟩:=st.roots q R hR
 obtain ⟨b,hb1,hb2,hb3⟩:=r4 hm
 have hq:(S.root q).isSome:=by rw[hR];rfl
 have s1:=st.dropRootH hq
 obtain ⟨_,rx⟩:=Rep.cast hc r1
 obtain ⟨F1,F2,q1,q2,q3,q4⟩:=Rep.serves t hs rx
 have s2:=s1.shareHand F2 (fun z hz=>.inr (r2 z (q2 z hz)))
 obtain ⟨b',off,c,hin,hat,e⟩:=qbdh st hR (p:=[]) (d:=⟨R.ty,R.ms,R.x⟩) (by simp only[focus]) hv
 have hat':atP h R.ty (g.C q) (g.base q) []=some (g.base q,g.C q):=by cases R.ty<;>rfl
 rw[hat'] at hat
 simp only[Option.some.injEq,Prod.mk.injEq,Ghost.base,hb1,Option.map_some] at hat
 obtain ⟨⟨rfl,rfl⟩,rfl⟩:=hat
 refine ⟨{ g with Pr:=Un g.Pr F2 },fun z=>F1 z∨z=b,s2.lessHand ?_,⟨b,g.C q,F1,e,q4,hb3,.inr rfl,fun z hz=>.inl hz,fun hz=>r3 b hb1 (q1 b hz)⟩,?_,⟨rfl,rfl,rfl⟩,fun z hz=>.inl hz⟩
 ·rintro z (hz | hz | rfl)
  ·exact ⟨.inl hz,fun h2=>st.hand q hq z (r2 z (q2 z h2)) hz⟩
  ·exact ⟨.inr (r2 z (q1 z hz)),fun h2=>q3 z hz h2⟩
  ·exact ⟨.inr hb2,fun h2=>r3 z hb1 (q2 z h2)⟩
 ·rintro z (hz | rfl) hh
  ·exact st.hand q hq z (r2 z (q1 z hz)) hh
  ·exact st.hand q hq z hb2 hh
theorem qbiy (hty:qck P C) {w:World} {tmps:Array Value}:∀ (rs:List RK) (vs:List ResultVar) (S:St) (g:Ghost) (H:BS) (i:Nat) (r:RDen rs) (S':St),StRel w.heap S g tmps H→qok C rs vs S=some (r,S')→
  ∃ us g' H' Gs,(vs.mapM (q6e tmps)).run P w=.ok us w∧StRel w.heap S' g' tmps H'∧g'.Same g∧Sub g.Pr g'.Pr∧qel w.heap g'.Pr Gs i rs r us∧(∀ j,j<i→Gs j=Nil)∧
   (∀ j,Sub (Gs j) H')∧(∀ j k,j≠k→Dis (Gs j) (Gs k))∧(∀ j,Dis (Gs j) H)∧Sub H H'
 | [],[],S,g,H,i,r,S',st,h=>by
  simp only[qok,Option.some.injEq,Prod.mk.injEq] at h
  obtain ⟨_,rfl⟩:=h
  exact ⟨[],g,H,fun _=>Nil,by simp,st,.refl g,Sub.refl _,rfl,fun _ _=>rfl,fun _=>Sub.nil _,fun _ _ _=>Dis.nil _,fun _=>Dis.nil _,Sub.refl _⟩
 | [],_::_,S,g,H,i,r,S',st,h=>by simp[qok] at h
 | k::_,[],S,g,H,i,r,S',st,h=>by cases k<;>simp[qok] at h
 | k::ks,v::vs,S,g,H,i,r,S',st,h=>by
  -- one
  have one:∃ u S1 x g1 F rr,(q6e tmps v).run P w=.ok u w∧StRel w.heap S1 g1 tmps (Un H F)∧RRel w.heap g1.Pr k x u F∧Dis F H∧g1.Same g∧Sub g.Pr g1.Pr∧qok C ks vs S1=some (rr,S')∧r=(x,rr):=by
   cases k with
   | val t m=>
    simp only[qok,Option.bind_eq_some_iff] at h
    obtain ⟨a,ha,⟨mx,x,rt'⟩,htk,h⟩:=h
    split at h
    ·rename_i hs
     simp only[Option.bind_eq_some_iff,Option.some.injEq,Prod.mk.injEq] at h
     obtain ⟨⟨rr,S2⟩,hg,rfl,rfl⟩:=h
     obtain ⟨u,hu,hav⟩:=qbkg hty st ha
     obtain ⟨c,g2,F,ev,tk1⟩:=qvp _ st htk hav
     obtain ⟨F1,F2,q1,q2,q3,q4⟩:=Rep.serves t hs tk1.rep
     have s2:=tk1.st.shareHand F2 (fun z hz=>.inr (q2 z hz))
     refine ⟨u,_,x,_,F1,rr,hu,s2.lessHand ?_,⟨c,q4,ev⟩,fun z hz hh=>tk1.dis z (q1 z hz) hh,Ghost.Same.trans tk1.same ⟨rfl,rfl,rfl⟩,fun z hz=>.inl (tk1.pr z hz),hg,rfl⟩
     rintro z (hz | hz)
     ·exact ⟨.inl hz,fun h2=>tk1.dis z (q2 z h2) hz⟩
     ·exact ⟨.inr (q1 z hz),fun h2=>q3 z hz h2⟩
    ·simp at h
   | ptr t m=>
    simp only[qok] at h
    split at h
    ·rename_i q ha
     split at h
     ·rename_i R hR
      split at h
      ·rename_i hs
       simp only[Option.bind_eq_some_iff,Option.some.injEq,Prod.mk.injEq] at h
       obtain ⟨x,hc,⟨rr,S2⟩,hg,rfl,rfl⟩:=h
       obtain ⟨u,hu,hav⟩:=qbkg hty st ha
       obtain ⟨g1,F,p1,p2,p3,p4,p5⟩:=qbnm st hR hs.1 hs.2 hc hav
       exact ⟨u,_,x,g1,F,rr,hu,p1,p2,p3,p4,p5,hg,rfl⟩
      ·simp at h
     ·simp at h
    ·simp at h
  obtain ⟨u,S1,x,g1,F,rr,hu,p1,p2,p3,p4,p5,hg,rfl⟩:=one
  obtain ⟨us,g',H',Gs,k1,k2,k3,k4,k5,k6,k7,k8,k9,k10⟩:=qbiy hty ks vs S1 g1 _ (i+1) rr S' p1 hg
  refine ⟨u::us,g',H',fun j=>if j=i then F else Gs j,?_,k2,p4.trans k3,p5.trans k4,?_,?_,?_,?_,?_,fun z hz=>k10 z (.inl hz)⟩
  ·simp[List.mapM_cons,hu,k1]
  ·refine ⟨u,us,rfl,?_,?_⟩
   ·show RRel w.heap g'.Pr k x u (if i=i then F else Gs i)
    rw[if_pos rfl]
    exact p2.mono k4
   ·have:∀ (ks:List RK) (n:Nat) {a:RDen ks} {us:List Value},i<n→qel w.heap g'.Pr Gs n ks a us→qel w.heap g'.Pr (fun j=>if j=i then F else Gs j) n ks a us:=by
     intro ks
     induction ks with
     | nil=>intro n a us _ h;exact h
     | cons k ks ih=>
      intro n a us hn h
      obtain ⟨v,vs',e,r1,r2⟩:=h
      exact ⟨v,vs',e,by show RRel _ _ _ _ _ (if n=i then F else Gs n);rw[if_neg (by omega)];exact r1,ih (n+1) (by omega) r2⟩
    exact this ks (i+1) (by omega) k5
  ·intro j hj;show (if j=i then F else Gs j)=Nil;rw[if_neg (by omega)];exact k6 j (by omega)
  ·intro j z hz
   split at hz
   ·exact k10 z (.inr hz)
   ·exact k7 j z hz
  ·intro j k hjk z h1 h2
   split at h1<;>split at h2
   ·omega
   ·exact k9 k z h2 (.inr h1)
   ·exact k9 j z h1 (.inr h2)
   ·exact k8 j k hjk z h1 h2
  ·intro j z h1 h2
   split at h1
   ·exact p3 z h1 h2
   ·exact k9 j z h1 (.inl h2)
end
end
end Go.V

namespace Go.V
noncomputable section
open Go
def hdc (hd:Nat→Value) (n w:Nat):List Value:=(List.range w).map fun k=>hd (n+k)
theorem qbnj (hd:Nat→Value) (n a b:Nat):hdc hd n (a+b)=hdc hd n a++hdc hd (n+a) b:=by
 simp only[hdc,List.range_add,List.map_append,List.map_map]
 congr 1
 apply List.map_congr_left
 intro k _
 simp[Nat.add_assoc]
theorem q4p (hd:Nat→Value) (n w:Nat):(hdc hd n w).length=w:=by simp[hdc]
theorem q98:∀ (t:Ty) (m:Mk) (n:Nat),qw t m=true→(m.tag n).2=n+t.width
 | .sl _,.own _ _,n,_=>rfl
 | .pair a b,.pr x y,n,h=>by
  simp only[qw,Bool.and_eq_true] at h
  simp only[Mk.tag,Ty.width]
  rw[q98 b y _ h.2,q98 a x _ h.1]
  omega
 | .unit,.no,_,_=>rfl
 | .unit,.gone,_,h=>by simp[qw] at h
 | .unit,.own _ _,_,h=>by simp[qw] at h
 | .unit,.pr _ _,_,h=>by simp[qw] at h
 | .int _,m,_,h=>by cases m<;>simp[qw] at h
 | .bool,m,_,h=>by cases m<;>simp[qw] at h
 | .str,m,_,h=>by cases m<;>simp[qw] at h
 | .sl _,.no,_,h=>by simp[qw] at h
 | .sl _,.gone,_,h=>by simp[qw] at h
 | .sl _,.pr _ _,_,h=>by simp[qw] at h
 | .pair _ _,.no,_,h=>by simp[qw] at h
 | .pair _ _,.gone,_,h=>by simp[qw] at h
 | .pair _ _,.own _ _,_,h=>by simp[qw] at h
theorem qbe5:∀ (t:Ty) (m:Mk) (n:Nat),qw t m=true→(m.tag n).1.same .no=true→t.width=0
 | .sl _,.own _ _,n,_,h=>by simp[Mk.tag,Mk.same] at h
 | .pair a b,.pr x y,n,hh,h=>by
  simp only[qw,Bool.and_eq_true] at hh
  simp only[Mk.tag,Mk.same,Bool.and_eq_true] at h
  simp only[Ty.width,qbe5 a x n hh.1 h.1,qbe5 b y _ hh.2 h.2]
 | .unit,_,_,_,_=>rfl
 | .int _,m,_,h,_=>by cases m<;>simp[qw] at h
 | .bool,m,_,h,_=>by cases m<;>simp[qw] at h
 | .str,m,_,h,_=>by cases m<;>simp[qw] at h
 | .sl _,.no,_,h,_=>by simp[qw] at h
 | .sl _,.gone,_,h,_=>by simp[qw] at h
 | .sl _,.pr _ _,_,h,_=>by simp[qw] at h
 | .pair _ _,.no,_,h,_=>by simp[qw] at h
 | .pair _ _,.gone,_,h,_=>by simp[qw] at h
 | .pair _ _,.own _ _,_,h,_=>by simp[qw] at h
theorem q6m {hd:Nat→Value}:∀ (t:Ty) (m:Mk) (n:Nat) (m':Mk) (c:List Value),qw t m=true→1048576≤n→(m.tag n).1.same m'=true→TagC hd t m' c→c.length=t.width→c=hdc hd n t.width
 | .sl _,.own _ _,n,m',c,_,hn,hs,ht,hl=>by
  simp only[Mk.tag,Mk.same] at hs
  split at hs
  ·rename_i s' mi'
   simp only[decide_eq_true_eq] at hs
   subst hs
   simp only[TagC] at ht
   rw[ht.1 hn]
   rfl
  ·simp at hs
 | .pair a b,.pr x y,n,m',c,h,hn,hs,ht,hl=>by
  simp only[qw,Bool.and_eq_true] at h
  simp only[Mk.tag,Mk.same] at hs
  split at hs
  ·rename_i c1 d1
   simp only[Bool.and_eq_true] at hs
   simp only[TagC,Mk.fst,Mk.snd] at ht
   simp only[Ty.width] at hl ⊢
   rw[q98 a x n h.1] at hs
   have e1:=q6m a x n c1 _ h.1 hn hs.1 ht.1 (by simp;omega)
   have e2:=q6m b y (n+a.width) d1 _ h.2 (by omega) hs.2 ht.2 (by simp;omega)
   rw[qbnj,←e1,←e2,List.take_append_drop]
  ·simp only[Bool.and_eq_true] at hs
   simp only[Ty.width] at hl ⊢
   rw[qbe5 a x n h.1 hs.1,qbe5 b y _ h.2 hs.2] at hl ⊢
   exact List.length_eq_zero_iff.1 hl
  ·simp at hs
 | .unit,_,_,_,c,_,_,_,_,hl=>List.length_eq_zero_iff.1 hl
 | .int _,m,_,_,_,h,_,_,_,_=>by cases m<;>simp[qw] at h
 | .bool,m,_,_,_,h,_,_,_,_=>by cases m<;>simp[qw] at h
 | .str,m,_,_,_,h,_,_,_,_=>by cases m<;>simp[qw] at h
 | .sl _,.no,_,_,_,h,_,_,_,_=>by simp[qw] at h
 | .sl _,.gone,_,_,_,h,_,_,_,_=>by simp[qw] at h
 | .sl _,.pr _ _,_,_,_,h,_,_,_,_=>by simp[qw] at h
 | .pair _ _,.no,_,_,_,h,_,_,_,_=>by simp[qw] at h
 | .pair _ _,.gone,_,_,_,h,_,_,_,_=>by simp[qw] at h
 | .pair _ _,.own _ _,_,_,_,h,_,_,_,_=>by simp[qw] at h
theorem qbcw {hd:Nat→Value}:∀ (t:Ty) (m:Mk) (n:Nat),qw t m=true→m.tagFree=true→TagC hd t (m.tag n).1 (hdc hd n t.width)
 | .sl _,.own _ _,n,_,hf=>by
  simp only[Mk.tagFree,Bool.and_eq_true] at hf
  simp only[Mk.tag,TagC]
  exact ⟨fun _=>rfl,hf.2⟩
 | .pair a b,.pr x y,n,h,hf=>by
  simp only[qw,Bool.and_eq_true] at h
  simp only[Mk.tagFree,Bool.and_eq_true] at hf
  simp only[Mk.tag,TagC,Mk.fst,Mk.snd,Ty.width,qbnj]
  rw[q98 a x n h.1,List.take_left' (q4p _ _ _),List.drop_left' (q4p _ _ _)]
  exact ⟨qbcw a x n h.1 hf.1,qbcw b y _ h.2 hf.2⟩
 | .unit,_,_,_,_=>by simp only[TagC]
 | .int _,m,_,h,_=>by cases m<;>simp[qw] at h
 | .bool,m,_,h,_=>by cases m<;>simp[qw] at h
 | .str,m,_,h,_=>by cases m<;>simp[qw] at h
 | .sl _,.no,_,h,_=>by simp[qw] at h
 | .sl _,.gone,_,h,_=>by simp[qw] at h
 | .sl _,.pr _ _,_,h,_=>by simp[qw] at h
 | .pair _ _,.no,_,h,_=>by simp[qw] at h
 | .pair _ _,.gone,_,h,_=>by simp[qw] at h
 | .pair _ _,.own _ _,_,h,_=>by simp[qw] at h
theorem qbgo {h:Array Obj} {Pr:BS}:∀ (t:Ty) (m:Mk) (n:Nat) {x:t.den} {c:List Value} {F:BS},qw t m=true→Rep h Pr t m x c F→Rep h Pr t (m.tag n).1 x c F
 | .sl _,.own _ _,n,_,_,_,_,r=>by
  simp only[Mk.tag,Rep] at r ⊢
  exact r
 | .pair a b,.pr x y,n,_,_,_,hh,r=>by
  simp only[qw,Bool.and_eq_true] at hh
  simp only[Mk.tag,Rep,Mk.fst,Mk.snd] at r ⊢
  obtain ⟨ca,cb,Fa,Fb,e,ra,rb,k⟩:=r
  exact ⟨ca,cb,Fa,Fb,e,qbgo a x _ hh.1 ra,qbgo b y _ hh.2 rb,k⟩
 | .unit,m,n,_,_,_,h,r=>by simpa only [Rep] using r
 | .int _,m,_,_,_,_,h,_=>by cases m<;>simp[qw] at h
 | .bool,m,_,_,_,_,h,_=>by cases m<;>simp[qw] at h
 | .str,m,_,_,_,_,h,_=>by cases m<;>simp[qw] at h
 | .sl _,.no,_,_,_,_,h,_=>by simp[qw] at h
 | .sl _,.gone,_,_,_,_,h,_=>by simp[qw] at h
 | .sl _,.pr _ _,_,_,_,_,h,_=>by simp[qw] at h
 | .pair _ _,.no,_,_,_,_,h,_=>by simp[qw] at h
 | .pair _ _,.gone,_,_,_,_,h,_=>by simp[qw] at h
 | .pair _ _,.own _ _,_,_,_,_,h,_=>by simp[qw] at h
def MvOk (hd:Nat→Value):Nat→List PK→List Value→Prop
 | i,.mutv t m _::ks,v::vs=>(v=mkV t (hdc hd (1048576+64 * i) t.width)∧qw t m=true)∧MvOk hd (i+1) ks vs
 | i,.mutp _ _ _::ks,_::vs=>MvOk hd (i+1) ks vs
 | i,.val _::ks,_::vs=>MvOk hd (i+1) ks vs
 | i,.own _ _::ks,_::vs=>MvOk hd (i+1) ks vs
 | i,.rptr _::ks,_::vs=>MvOk hd (i+1) ks vs
 | i,.fn::ks,_::vs=>MvOk hd (i+1) ks vs
 | _,_,_=>True
theorem qbr7 {h:Array Obj} {S:St} {g:Ghost} {tmps:Array Value} {H:BS} (st:StRel h S g tmps H) {q:Nat} {R:Root} (hR:S.root q=some R) {t:Ty} {m:Mk} {x:t.den}
  (hs:m.serves R.ms=true) (hc:qbs R.ty t R.x=some x) :
  ∃ g' F,StRel h (S.setRoot q none) g' tmps (Un H F)∧qhn h g'.Pr t m x (mkV t (g.C q)) F∧Dis F H∧g'.Same g∧Sub g.Pr g'.Pr:=by
 obtain ⟨F,r1,r2,r3,r4,_⟩:=st.roots q R hR
 have hq:(S.root q).isSome:=by rw[hR];rfl
 have s1:=st.dropRootH hq
 obtain ⟨_,rx⟩:=Rep.cast hc r1
 obtain ⟨F1,F2,q1,q2,q3,q4⟩:=Rep.serves t hs rx
 have s2:=s1.shareHand F2 (fun z hz=>.inr (r2 z (q2 z hz)))
 refine ⟨{ g with Pr:=Un g.Pr F2 },F1,s2.lessHand ?_,⟨g.C q,q4,rfl⟩,?_,⟨rfl,rfl,rfl⟩,fun z hz=>.inl hz⟩
 ·rintro z (hz | hz)
  ·exact ⟨.inl hz,fun h2=>st.hand q hq z (r2 z (q2 z h2)) hz⟩
  ·exact ⟨.inr (r2 z (q1 z hz)),fun h2=>q3 z hz h2⟩
 ·intro z hz hh
  exact st.hand q hq z (r2 z (q1 z hz)) hh
theorem qff.shift {h:Array Obj} {Pr:BS} {Os Os2:Nat→BS}:∀ (ks:List PK) (i:Nat) {o:ODen ks} {vs:List Value},(∀ j,i≤j→Os2 j=Os j)→qff h Pr Os i ks o vs→qff h Pr Os2 i ks o vs
 | [],_,_,_,_,r=>r
 | .mutp t _ m::ks,i,_,_,hj,r=>by
  obtain ⟨v,vs',e,r1,r2⟩:=r
  exact ⟨v,vs',e,by rw[hj i (Nat.le_refl _)];exact r1,qff.shift ks (i+1) (fun j h=>hj j (by omega)) r2⟩
 | .mutv t _ m::ks,i,_,_,hj,r=>by
  obtain ⟨v,vs',e,r1,r2⟩:=r
  exact ⟨v,vs',e,by rw[hj i (Nat.le_refl _)];exact r1,qff.shift ks (i+1) (fun j h=>hj j (by omega)) r2⟩
 | .val _::ks,i,_,_,hj,r=>by obtain ⟨v,vs',e,r2⟩:=r;exact ⟨v,vs',e,qff.shift ks (i+1) (fun j h=>hj j (by omega)) r2⟩
 | .own _ _::ks,i,_,_,hj,r=>by obtain ⟨v,vs',e,r2⟩:=r;exact ⟨v,vs',e,qff.shift ks (i+1) (fun j h=>hj j (by omega)) r2⟩
 | .rptr _::ks,i,_,_,hj,r=>by obtain ⟨v,vs',e,r2⟩:=r;exact ⟨v,vs',e,qff.shift ks (i+1) (fun j h=>hj j (by omega)) r2⟩
 | .fn::ks,i,_,_,hj,r=>by obtain ⟨v,vs',e,r2⟩:=r;exact ⟨v,vs',e,qff.shift ks (i+1) (fun j h=>hj j (by omega)) r2⟩
structure OutR (h:Array Obj) (g:Ghost) (tmps:Array Value) (H:BS) (ks:List PK) (i:Nat) (o:ODen ks) (vs:List Value) (g':Ghost) (H':BS) (Os:Nat→BS):Prop where
 st:∃ S',StRel h S' g' tmps H'
 same:g'.Same g
 pr:Sub g.Pr g'.Pr
 rel:qff h g'.Pr Os i ks o vs
 nil:∀ j,j<i→Os j=Nil
 sub:∀ j,Sub (Os j) H'
 dis:∀ j k,j≠k→Dis (Os j) (Os k)
 disH:∀ j,Dis (Os j) H
 hand:Sub H H'
theorem qbpi {i j:Nat} {k:PK} {ks:List PK} (h:j∈qfu (i+1) ks):j∈qfu i (k::ks):=by
 cases k<;>simp only[qfu,List.mem_cons]<;>first | exact h | exact .inr h
theorem q1n {Hh:Hints} {h:Array Obj} {tmps:Array Value}:∀ (ks:List PK) (i:Nat) (vs:List Value) (S:St) (g:Ghost) (H:BS) (o:ODen ks),StRel h S g tmps H→outs Hh i ks S=some o→
  (∀ k v,vs[k]? = some v→i+k∈qfu i ks→tmps.getD (i+k) Go.undef=v)→vs.length=ks.length→MvOk g.hd i ks vs→∃ g' H' Os,OutR h g tmps H ks i o vs g' H' Os
 | [],i,vs,S,g,H,o,st,ho,hv,hl,hm=>by
  refine ⟨g,H,fun _=>Nil,⟨S,st⟩,.refl g,Sub.refl _,List.length_eq_zero_iff.1 hl,fun _ _=>rfl,fun _=>Sub.nil _,fun _ _ _=>Dis.nil _,fun _=>Dis.nil _,Sub.refl _⟩
 | k::ks,i,[],S,g,H,o,st,ho,hv,hl,hm=>by simp at hl
 | k::ks,i,v::vs,S,g,H,o,st,ho,hv,hl,hm=>by
  have hv':∀ k v,vs[k]? = some v→i+1+k∈qfu (i+1) ks→tmps.getD (i+1+k) Go.undef=v:=by
   intro k u hk hm
   have:=hv (k+1) u (by simpa using hk) (by rw[show i+(k+1)=i+1+k by omega];exact qbpi hm)
   rw[←this];congr 1;omega
  have hl':vs.length=ks.length:=by simpa using hl
  -- one that comes back
  have back:∀ (t:Ty) (x:t.den) (oo:ODen ks) (S1:St) (g1:Ghost) (F:BS) (rel:BS→BS→Prop),StRel h S1 g1 tmps (Un H F)→(∀ Pr,Sub g1.Pr Pr→rel Pr F)→Dis F H→g1.Same g→Sub g.Pr g1.Pr→
    outs Hh (i+1) ks S1=some oo→MvOk g.hd (i+1) ks vs→
    ∃ g' H' Os,(∃ S',StRel h S' g' tmps H')∧g'.Same g∧Sub g.Pr g'.Pr∧rel g'.Pr (Os i)∧qff h g'.Pr Os (i+1) ks oo vs∧(∀ j,j<i→Os j=Nil)∧(∀ j,Sub (Os j) H')∧
     (∀ j k,j≠k→Dis (Os j) (Os k))∧(∀ j,Dis (Os j) H)∧Sub H H':=by
   intro t x oo S1 g1 F rel s1 hrel hd hsm hp ho hm
   obtain ⟨g',H',Os,q⟩:=q1n ks (i+1) vs S1 g1 _ oo s1 ho hv' hl' (by rw[hsm.1];exact hm)
   refine ⟨g',H',fun j=>if j=i then F else Os j,q.st,hsm.trans q.same,hp.trans q.pr,?_,?_,?_,?_,?_,?_,fun z hz=>q.hand z (.inl hz)⟩
   ·show rel g'.Pr (if i=i then F else Os i)
    rw[if_pos rfl];exact hrel _ q.pr
   ·exact qff.shift ks (i+1) (fun j hj=>by show (if j=i then F else Os j)=Os j;rw[if_neg (by omega)]) q.rel
   ·intro j hj;show (if j=i then F else Os j)=Nil;rw[if_neg (by omega)];exact q.nil j (by omega)
   ·intro j z hz
    split at hz
    ·exact q.hand z (.inr hz)
    ·exact q.sub j z hz
   ·intro j k hjk z h1 h2
    split at h1<;>split at h2
    ·omega
    ·exact q.disH k z h2 (.inr h1)
    ·exact q.disH j z h1 (.inr h2)
    ·exact q.dis j k hjk z h1 h2
   ·intro j z h1 h2
    split at h1
    ·exact hd z h1 h2
    ·exact q.disH j z h1 (.inl h2)
  cases k with
  | val t=>
   obtain ⟨g',H',Os,q⟩:=q1n ks (i+1) vs S g H o st (by simpa only [outs] using ho) hv' hl' (by simpa only [MvOk] using hm)
   exact ⟨g',H',Os,q.st,q.same,q.pr,⟨v,vs,rfl,q.rel⟩,fun j hj=>q.nil j (by omega),q.sub,q.dis,q.disH,q.hand⟩
  | own t m=>
   obtain ⟨g',H',Os,q⟩:=q1n ks (i+1) vs S g H o st (by simpa only [outs] using ho) hv' hl' (by simpa only [MvOk] using hm)
   exact ⟨g',H',Os,q.st,q.same,q.pr,⟨v,vs,rfl,q.rel⟩,fun j hj=>q.nil j (by omega),q.sub,q.dis,q.disH,q.hand⟩
  | rptr t=>
   obtain ⟨g',H',Os,q⟩:=q1n ks (i+1) vs S g H o st (by simpa only [outs] using ho) hv' hl' (by simpa only [MvOk] using hm)
   exact ⟨g',H',Os,q.st,q.same,q.pr,⟨v,vs,rfl,q.rel⟩,fun j hj=>q.nil j (by omega),q.sub,q.dis,q.disH,q.hand⟩
  | fn=>
   obtain ⟨g',H',Os,q⟩:=q1n ks (i+1) vs S g H o st (by simpa only [outs] using ho) hv' hl' (by simpa only [MvOk] using hm)
   exact ⟨g',H',Os,q.st,q.same,q.pr,⟨v,vs,rfl,q.rel⟩,fun j hj=>q.nil j (by omega),q.sub,q.dis,q.disH,q.hand⟩
  | mutp t m0 m'=>
   simp only[outs] at ho
   split at ho
   ·rename_i qq hslot
    split at ho
    ·rename_i R hR
     split at ho
     ·rename_i hs
      simp only[Option.bind_eq_some_iff,Option.some.injEq] at ho
      obtain ⟨x,hc,oo,ho,rfl⟩:=ho
      have hv0:tmps.getD i Go.undef=v:=by have:=hv 0 v rfl (by simp[qfu]);simpa using this
      have hav:=st.slots i
      rw[hslot,hv0] at hav
      obtain ⟨g1,F,p1,p2,p3,p4,p5⟩:=qbnm st hR hs.1 hs.2 hc hav
      obtain ⟨g',H',Os,k1,k2,k3,k4,k5,k6⟩:=back t x oo _ g1 F (fun Pr F=>qoq h Pr t m' x v F) p1 (fun Pr hp=>p2.mono hp) p3 p4 p5 ho (by simpa only [MvOk] using hm)
      exact ⟨g',H',Os,k1,k2,k3,⟨v,vs,rfl,k4,k5⟩,k6.1,k6.2.1,k6.2.2.1,k6.2.2.2.1,k6.2.2.2.2⟩
     ·simp at ho
    ·simp at ho
   ·simp at ho
  | mutv t m0 m'=>
   simp only[outs] at ho
   split at ho
   ·rename_i R hR
    split at ho
    ·rename_i hs
     simp only[Option.bind_eq_some_iff,Option.some.injEq] at ho
     obtain ⟨x,hc,oo,ho,rfl⟩:=ho
     simp only[MvOk] at hm
     obtain ⟨⟨ev,hh⟩,hm⟩:=hm
     obtain ⟨g1,F,p1,p2,p3,p4,p5⟩:=qbr7 st hR hs.1 hc
     have hcell:g.C ((Hh.outs.lookup i).getD i)=hdc g.hd (1048576+64 * i) t.width:=by
      obtain ⟨F0,r1,_⟩:=st.roots _ R hR
      have ht:=st.tag _ R hR
      obtain ⟨e,_⟩:=qme hc
      have hw:=Rep.width _ r1
      rw[e] at ht hw
      exact q6m t m0 _ _ _ hh (by omega) hs.2 ht hw
     rw[hcell,←ev] at p2
     obtain ⟨g',H',Os,k1,k2,k3,k4,k5,k6⟩:=back t x oo _ g1 F (fun Pr F=>qhn h Pr t m' x v F) p1 (fun Pr hp=>p2.mono hp) p3 p4 p5 ho hm
     exact ⟨g',H',Os,k1,k2,k3,⟨v,vs,rfl,k4,k5⟩,k6.1,k6.2.1,k6.2.2.1,k6.2.2.2.1,k6.2.2.2.2⟩
    ·simp at ho
   ·simp at ho
end
end Go.V

namespace Go.V
open Go
theorem q6x (r:Nat):∀ (t:Ty) (m:Mk) (x:t.den) (p:Path),∀ q∈(avOf r t m x p).roots,q=r
 | .unit,_,_,_,q,h=>by simp[avOf,AV.roots] at h
 | .int _,_,_,_,q,h=>by simp[avOf,AV.roots] at h
 | .bool,_,_,_,q,h=>by simp[avOf,AV.roots] at h
 | .str,_,_,_,q,h=>by simp[avOf,AV.roots] at h
 | .pair a b,m,x,p,q,h=>by
  unfold avOf at h
  split at h
  ·simp[AV.roots] at h
  ·simp only[AV.roots,List.mem_append] at h
   rcases h with h | h
   ·exact q6x r a _ _ _ q h
   ·exact q6x r b _ _ _ q h
 | .sl t,m,x,p,q,h=>by cases m<;>simp[avOf,AV.roots] at h;exact h
theorem qboo {tmps:Array Value} {i:Nat} {v:Value} (h:tmps.getD i Go.undef=v):tmps.setIfInBounds i v=tmps:=by
 apply Array.ext_getElem?
 intro j
 rw[Array.getElem?_setIfInBounds]
 by_cases e:i=j
 ·subst e
  rw[if_pos rfl]
  by_cases hl:i<tmps.size
  ·rw[if_pos hl]
   simp only[Array.getD_eq_getD_getElem?,Array.getElem?_eq_getElem hl,Option.getD_some] at h
   rw[Array.getElem?_eq_getElem hl,h]
  ·rw[if_neg hl,Array.getElem?_eq_none (by omega)]
 ·rw[if_neg e]
theorem qblb {h:Array Obj} {tmps:Array Value} {Pr:BS} {Fs:Nat→BS} (hdis:∀ i j,i≠j→Dis (Fs i) (Fs j)):∀ (ks:List PK) (i:Nat) (a:PDen ks) (vs:List Value) (S:St) (g:Ghost) (H:BS),StRel h S g tmps H→
  qvh h Pr Fs i ks a vs→g.Pr=Pr→(∀ k v,vs[k]? = some v→tmps.getD (i+k) Go.undef=v)→(∀ u r,r∈(S.get u).roots→r<i)→ks.all PK.enterOk=true→(∀ j,i≤j→Sub (Fs j) H)→
  i+ks.length≤tmps.size→MvOk g.hd i ks vs→∃ g' H',StRel h (enter S i ks a) g' tmps H'∧g'.Pr=Pr∧g'.Same g
 | [],i,a,vs,S,g,H,st,hps,hpr,hv,hb,hok,hH,hl,hm=>⟨g,H,st,hpr,.refl g⟩
 | k::ks,i,a,vs,S,g,H,st,hps,hpr,hv,hb,hok,hH,hl,hm=>by
  obtain ⟨v,vs',rfl,r1,r2⟩:=hps
  simp only[List.all_cons,Bool.and_eq_true] at hok
  simp only[List.length_cons] at hl
  have hv':∀ k v,vs'[k]? = some v→tmps.getD (i+1+k) Go.undef=v:=by
   intro k u hk
   have:=hv (k+1) u (by simpa using hk)
   rw[←this];congr 1;omega
  have hv0:tmps.getD i Go.undef=v:=by have:=hv 0 v rfl;simpa using this
  have hil:i<S.rt.length:=by rw[st.rlen];omega
  -- the slot,and on
  have go:∀ (S1:St) (g1:Ghost) (H1:BS) (av:AV),StRel h S1 g1 tmps H1→g1.Pr=Pr→g1.Same g→qh h S1 g1 av v→(∀ r∈av.roots,r=i)→(∀ u r,r∈(S1.get u).roots→r<i)→
    (∀ j,i+1≤j→Sub (Fs j) H1)→MvOk g.hd (i+1) ks vs'→∃ g' H',StRel h (enter (S1.set i av) (i+1) ks a.2) g' tmps H'∧g'.Pr=Pr∧g'.Same g:=by
   intro S1 g1 H1 av s1 hp1 hs1 hav hr hb1 hH1 hm1
   have s2:=s1.setSlot i hav
   rw[qboo hv0] at s2
   obtain ⟨g',H',k1,k2,k3⟩:=qblb hdis ks (i+1) a.2 vs' (S1.set i av) g1 H1 s2 r2 hp1 hv' (by
    intro u r hr'
    rw[St.get_set] at hr'
    split at hr'
    ·have:=hr r hr';omega
    ·have:=hb1 u r hr';omega) hok.2 hH1 (by omega) (by rw[hs1.1];exact hm1)
   exact ⟨g',H',k1,k2,hs1.trans k3⟩
  -- a root,the slot,and on
  have root:∀ (t:Ty) (m:Mk) (x:t.den) (c:List Value),t.nz=true→Rep h Pr t m x c (Fs i)→v=mkV t c→TagC g.hd t m c→MvOk g.hd (i+1) ks vs'→
    ∃ g' H',StRel h (enter ((S.setRoot i (some ⟨t,m,x,false⟩)).set i (avOf i t m x [])) (i+1) ks a.2) g' tmps H'∧g'.Pr=Pr∧g'.Same g:=by
   intro t m x c hz rep ev htg hm1
   obtain ⟨g1,s1,p1,p2,p3,p4,_⟩:=st.newRoot hil (by rw[hpr];exact rep) htg (hH i (Nat.le_refl _)) none (fun b hb=>by simp at hb) (fun u=>.inl (by
    cases hc:(S.get u).roots.contains i with
    | false=>rfl
    | true=>have:=hb u i (by simpa using hc);omega))
   have hroot:(S.setRoot i (some ⟨t,m,x,false⟩)).root i=some ⟨t,m,x,false⟩:=by rw[St.root_setRoot];simp[hil]
   have hat:atP h t c (g1.base i) []=some (g1.base i,c):=by cases t<;>rfl
   refine go _ g1 _ _ s1 (p1.trans hpr) p2 ?_ (q6x i t m x []) (fun u r hr=>hb u r hr) ?_ hm1
   ·rw[ev]
    have rep2:Rep h g1.Pr t m x c (Fs i):=by rw[p1,hpr];exact rep
    refine AVC.rel rep2 (qxg hroot t m x [] (g1.base i) c (Fs i) (by simp only[focus]) (by simp only[inR]) ?_ rep2) (Ty.nz_unit hz)
    rw[p3];exact hat
   ·intro j hj b hb'
    exact ⟨hH j (by omega) b hb',fun h2=>hdis j i (by omega) b hb' h2,by simp⟩
  cases k with
  | val t=>
   simp only[enter]
   refine go S g H _ st hpr (.refl g) ?_ (by simp[AV.roots]) hb (fun j hj=>hH j (by omega)) (by simpa only [MvOk] using hm)
   obtain ⟨c,rep,e⟩:=r1
   simp only[qh];exact ⟨c,by rw[hpr];exact rep,e⟩
  | rptr t=>
   simp only[enter]
   refine go S g H _ st hpr (.refl g) ?_ (by simp[AV.roots]) hb (fun j hj=>hH j (by omega)) (by simpa only [MvOk] using hm)
   simp only[qh]
   obtain ⟨b,o,cs,e1,e2,e3⟩:=r1
   exact ⟨b,o,cs,e1,by rw[hpr];exact e2,by rw[hpr];exact e3⟩
  | fn=>
   simp only[enter]
   refine go S g H _ st hpr (.refl g) ?_ (by simp[AV.roots]) hb (fun j hj=>hH j (by omega)) (by simpa only [MvOk] using hm)
   obtain ⟨us,e,hc⟩:=r1
   simp only[qh]
   refine ⟨us,e,?_⟩
   have:∀ (l:List CapV) (us:List Value),qfg h (PG Pr) l us→qfg h g l us:=by
    intro l
    induction l with
    | nil=>intro us h;exact h
    | cons x l ih=>
     intro us hh
     simp only[qfg] at hh ⊢
     obtain ⟨u,us',e,h1,h2⟩:=hh
     refine ⟨u,us',e,?_,ih us' h2⟩
     cases x with
     | val t y=>simp only[q6k] at h1 ⊢;rw[hpr];exact h1
     | rptr t y=>
      simp only[q6k] at h1 ⊢
      obtain ⟨b,o,cs,e1,e2,e3⟩:=h1
      exact ⟨b,o,cs,e1,by rw[hpr];exact e2,by rw[hpr];exact e3⟩
   exact this _ us hc
  | own t m=>
   simp only[enter]
   simp only[PK.enterOk,Bool.and_eq_true] at hok
   obtain ⟨c,rep,e⟩:=r1
   exact root t m a.1 c hok.1.1 rep e (TagC.tagFree t hok.1.2) (by simpa only [MvOk] using hm)
  | mutv t m m'=>
   simp only[enter]
   simp only[PK.enterOk,Bool.and_eq_true] at hok
   simp only[MvOk] at hm
   obtain ⟨c,rep,e⟩:=r1
   have hc:c=hdc g.hd (1048576+64 * i) t.width:=by
    have e2:=e.symm.trans hm.1.1
    have h1:=qln rep
    rw[e2] at h1
    rw[←h1]
    have:∀ (t:Ty) (m:Mk) (l:List Value),t.nz=true→qw t m=true→l.length=t.width→(mkV t l).cells.toList=l∨∃ y,t=.sl y:=by
     intro t m l hz hh hl
     cases t with
     | pair a b=>left;simp[mkV,Ty.agg,Value.cells]
     | sl y=>exact .inr ⟨y,rfl⟩
     | unit=>simp[Ty.nz] at hz
     | _=>cases m<;>simp[qw] at hh
    rcases this t m _ hok.1.1 hm.1.2 (q4p g.hd (1048576+64 * i) t.width) with h2 | ⟨y,rfl⟩
    ·exact h2
    ·obtain ⟨aa,n,k,hsl⟩:=Rep.slice rep
     have e3:=e2
     simp only[mkV,Ty.agg,Bool.false_eq_true,if_false,Ty.width,hdc,List.range_one,List.map_cons,List.map_nil,List.headD_cons] at e3 ⊢
     rw[hsl] at e3
     simp only[List.headD_cons] at e3
     rw[←e3]
     simp[Value.cells]
   refine root t (qbff i m) a.1 c hok.1.1 (qbgo t m _ hm.1.2 rep) e ?_ hm.2
   rw[hc];exact qbcw t m _ hm.1.2 hok.1.2.1
  | mutp t m m'=>
   simp only[enter]
   simp only[PK.enterOk] at hok
   obtain ⟨b,c,F0,e,rep,ho,hb1,hs0,hn0⟩:=r1
   obtain ⟨g1,s1,p1,p2,p3,p4,_⟩:=st.newRoot hil (by rw[hpr];exact rep) (TagC.tagFree t hok.1) (fun z hz=>hH i (Nat.le_refl _) z (hs0 z hz)) (some b)
    (fun b' hb'=>by simp only[Option.some.injEq] at hb';subst hb';exact ⟨hH i (Nat.le_refl _) b hb1,hn0,ho⟩) (fun u=>.inl (by
    cases hc:(S.get u).roots.contains i with
    | false=>rfl
    | true=>have:=hb u i (by simpa using hc);omega))
   have hroot:(S.setRoot i (some ⟨t,m,a.1,true⟩)).root i=some ⟨t,m,a.1,true⟩:=by rw[St.root_setRoot];simp[hil]
   refine go _ g1 _ _ s1 (p1.trans hpr) p2 ?_ (by simp[AV.roots]) (fun u r hr=>hb u r hr) ?_ (by simpa only [MvOk] using hm)
   ·simp only[qh]
    intro R hR d hf
    have hR2:R=⟨t,m,a.1,true⟩:=by
     have hR':(S.setRoot i (some ⟨t,m,a.1,true⟩)).root i=some R:=hR
     rw[hroot] at hR'
     simp only[Option.some.injEq] at hR'
     exact hR'.symm
    subst hR2
    refine ⟨by simp only[inR],b,0,c,?_,e⟩
    have hat:atP h t c (g1.base i) []=some (g1.base i,c):=by cases t<;>rfl
    rw[p3,hat]
    simp[Ghost.base,p4]
   ·intro j hj z hz
    refine ⟨hH j (by omega) z hz,fun h2=>hdis j i (by omega) z hz (hs0 z h2),?_⟩
    intro h2
    simp only[Option.some.injEq] at h2
    subst h2
    exact hdis j i (by omega) _ hz hb1
end Go.V

namespace Go.V
open Go
theorem qvh.len {h:Array Obj} {Pr:BS} {Fs:Nat→BS}:∀ (ks:List PK) (i:Nat) {a:PDen ks} {vs:List Value},qvh h Pr Fs i ks a vs→vs.length=ks.length
 | [],_,_,_,r=>by rw[show _=[] from r];rfl
 | k::ks,i,_,_,r=>by
  obtain ⟨v,vs',rfl,_,r2⟩:=r
  simp[qvh.len ks (i+1) r2]
theorem qbrx {h:Array Obj} {Pr:BS} {Fs:Nat→BS} (us:List Value):∀ (ks:List PK) (i:Nat) (a:PDen ks) (vs:List Value),qvh h Pr Fs i ks a vs→ks.all PK.enterOk=true→(∀ k,vs[k]? = us[i+k]?)→
  MvOk (fun s=>((us.getD ((s - 1048576) / 64) Go.undef).cells).getD ((s - 1048576) % 64) Go.undef) i ks vs
 | [],_,_,_,_,_,_=>by simp only[MvOk]
 | k::ks,i,a,vs,r,hok,hu=>by
  obtain ⟨v,vs',rfl,r1,r2⟩:=r
  simp only[List.all_cons,Bool.and_eq_true] at hok
  have ih:=qbrx us ks (i+1) a.2 vs' r2 hok.2 (fun k=>by have:=hu (k+1);rw[show i+1+k=i+(k+1) by omega,←this];simp)
  cases k with
  | mutv t m m'=>
   simp only[MvOk]
   refine ⟨⟨?_,?_⟩,ih⟩
   ·simp only[PK.enterOk,Bool.and_eq_true] at hok
    obtain ⟨c,rep,e⟩:=r1
    have hw:=Rep.width t rep
    have h64:=Nat.le_of_ble_eq_true hok.1.2.2.2
    have hcells:=qln rep
    rw[←e] at hcells
    have hui:us.getD i Go.undef=v:=by
     have:=hu 0
     simp only[Nat.add_zero,List.getElem?_cons_zero] at this
     simp only[List.getD,←this,Option.getD_some]
    have:hdc (fun s=>((us.getD ((s - 1048576) / 64) Go.undef).cells).getD ((s - 1048576) % 64) Go.undef) (1048576+64 * i) t.width=c:=by
     apply List.ext_getElem (by rw[q4p,hw])
     intro k h1 h2
     rw[q4p] at h1
     simp only[hdc,List.getElem_map,List.getElem_range]
     rw[show (1048576+64 * i+k - 1048576) / 64=i by omega,show (1048576+64 * i+k - 1048576) % 64=k by omega,hui]
     have hk:k<v.cells.size:=by rw[←Array.length_toList,hcells];omega
     simp only[Array.getD_eq_getD_getElem?,Array.getElem?_eq_getElem hk,Option.getD_some]
     rw[←Array.getElem_toList]
     simp only[hcells]
    rw[this];exact e
   ·simp only[PK.enterOk,Bool.and_eq_true] at hok
    exact hok.1.2.2.1
  | _=>simpa only [MvOk] using ih
theorem qel.mono {h:Array Obj} {Pr Pr2:BS} {Gs:Nat→BS} (hp:Sub Pr Pr2):∀ (ks:List RK) (i:Nat) {a:RDen ks} {us:List Value},qel h Pr Gs i ks a us→qel h Pr2 Gs i ks a us
 | [],_,_,_,r=>r
 | k::ks,i,_,_,r=>by
  obtain ⟨v,vs',e,r1,r2⟩:=r
  exact ⟨v,vs',e,r1.mono hp,qel.mono hp ks (i+1) r2⟩
section
variable {P:Program} {C:Ctx} {D:Den C} (hty:qck P C) (dok:DOk P C D) (hmix:P.follows .mixedOrders=true)
include hty dok hmix
theorem qbsk {f:FuncId} {fn:Func} {n:Nat} {Hh:Hints} {ks:List PK} {rs:List RK} {a:PDen ks} {r:RDen rs×ODen ks} (hf:P.funcs[f]? = some fn) (h:runF C D n fn Hh ks rs a=some r)
    {w:World} {Pr:BS} {Fs:Nat→BS} {vs:List Value} (pre:Pre w.heap Pr Fs ks a vs) :
    Calls P f vs.toArray w fun e w'=>∃ val Pr' Gs Os us,e=.returned val∧Pst w w' Pr Fs ks rs r.1 r.2 vs val Pr' Gs Os us:=by
  unfold runF at h
  split at h
  · simp at h
  · rename_i c hb
    split at h
    · rename_i hchk
      simp only[Bool.and_eq_true] at hchk
      obtain ⟨hok,hle,hcf⟩:=hchk
      have hle:=Nat.le_of_ble_eq_true hle
      have hlen:=qvh.len ks 0 pre.rel
      refine calls_of_wp hf hb ?_
      have hmv:=qbrx vs ks 0 a vs pre.rel hok (fun k=>by simp)
      generalize hhd:(fun s=>((vs.getD ((s - 1048576) / 64) Go.undef).cells).getD ((s - 1048576) % 64) Go.undef)=hd at hmv
      let g0:Ghost:=⟨Pr,fun _=>[],fun _=>none,fun _=>Nil,hd,May w.heap.size Fs,Pr⟩
      generalize htm:vs.toArray++Array.replicate (fn.ntmps - vs.toArray.size) Go.undef=tmps
      have hsz:tmps.size=fn.ntmps:=by rw[←htm];simp;omega
      have hget:∀ k v,vs[k]? = some v→tmps.getD k Go.undef=v:=by
        intro k v hk
        have hkl:k<vs.length:=(List.getElem?_eq_some_iff.1 hk).1
        rw[←htm]
        simp only[Array.getD_eq_getD_getElem?]
        rw[Array.getElem?_append_left (by simpa using hkl)]
        simp[hk]
      have hroot:∀ q,(⟨List.replicate fn.ntmps .undef,List.replicate fn.ntmps none⟩:St).root q=none:=by
        intro q
        simp only[Rts.root_eq,List.getD,List.getElem?_replicate]
        split<;>rfl
      have hslot:∀ t,(⟨List.replicate fn.ntmps .undef,List.replicate fn.ntmps none⟩:St).get t=.undef:=by
        intro t
        simp only[St.get_eq,List.getD,List.getElem?_replicate]
        split<;>rfl
      have st0:StRel w.heap ⟨List.replicate fn.ntmps .undef,List.replicate fn.ntmps none⟩ g0 tmps (fun b=>∃ i,Fs i b):=by
        refine { len:=by simp[hsz],rlen:=by simp[hsz],slots:=fun t=>by rw[hslot];simp only[qh],roots:=fun q R hR=>?_,dis:=fun q q' _ h1 _=>?_,prot:=fun q h1=>?_,hand:=fun q h1=>?_,handPr:=?_,limPr:=pre.limPr,
                 limG:=fun q b h1 _=>?_,limH:=?_,tag:=fun q R hR=>?_,own:=fun q b h1 _=>?_,ownH:=fun b hb=>.inr hb,limL:=fun b hb=>.inl hb,p0:=Sub.refl _,prL:=fun b hb=>.inl hb }
        · rw[hroot] at hR;simp at hR
        · rw[hroot] at h1;simp at h1
        · rw[hroot] at h1;simp at h1
        · rw[hroot] at h1;simp at h1
        · rintro b ⟨i,hb⟩ hp;exact pre.prot i b hb hp
        · rw[hroot] at h1;simp at h1
        · rintro b ⟨i,hb⟩;exact pre.lim i b hb
        · rw[hroot] at hR;simp at hR
        · rw[hroot] at h1;simp at h1
      obtain ⟨g1,H1,st1,hpr1,hsm1⟩:=qblb pre.dis ks 0 a vs _ g0 _ st0 pre.rel rfl (fun k v hk=>by simpa using hget k v hk) (fun u q hq=>by rw[hslot] at hq;simp[AV.roots] at hq) hok
        (fun j _ b hb=>⟨j,hb⟩) (by rw[hsz];omega) hmv
      refine qww (np:=qfu 0 ks) (H:=Hh) hty dok hmix c n _ _ hcf h _ g1 ⟨tmps,[]⟩ w (st1.lessHand (Sub.nil _)) rfl ?_
      intro e S' g' a' w' hk st' hsm hfr hdf hfx
      have fin:((qok C rs fn.results.toList S').bind fun r=>(outs Hh 0 ks r.2).bind fun o=>some (r.1,o))=some r→∃ v,(results fn a'.tmps).run P w'=.ok v w'∧
          ∃ val Pr' Gs Os us,Ending.returned v=.returned val∧Pst w w' Pr Fs ks rs r.1 r.2 vs val Pr' Gs Os us:=by
        intro hk
        simp only[Option.bind_eq_some_iff,Option.some.injEq] at hk
        obtain ⟨⟨rr,S2⟩,hg,o,ho,rfl⟩:=hk
        obtain ⟨us,g2,H2,Gs,k1,k2,k3,k4,k5,k6,k7,k8,k9,k10⟩:=qbiy hty rs _ S' g' Nil 0 rr S2 st' hg
        have hsm2:=(hsm1.trans hsm).trans k3
        obtain ⟨g3,H3,Os,q⟩:=q1n (Hh:=Hh) ks 0 vs S2 g2 H2 o k2 ho (fun k v hk hmem=>by
          rw[Nat.zero_add] at hmem
          rw[Nat.zero_add,hfx k hmem]
          exact hget k v hk) hlen (by rw[hsm2.1];exact hmv)
        obtain ⟨S3,st3⟩:=q.st
        have hsm3:=hsm2.trans q.same
        have hL:g3.L=May w.heap.size Fs:=hsm3.2.1
        have hP0:g3.P0=Pr:=hsm3.2.2
        have hL1:g1.L=May w.heap.size Fs:=hsm1.2.1
        refine ⟨qly us,qbop k1,qly us,g3.Pr,Gs,Os,us,rfl,?_⟩
        exact {
          res:=qel.mono q.pr rs 0 k5
          val:=rfl
          out:=q.rel
          pr:=by rw[←hP0];exact st3.p0
          prL:=fun b hb=>by have:=st3.prL b hb;rw[hP0,hL] at this;exact this
          gL:=fun i b hb=>by rw[←hL];exact st3.ownH b (q.hand b (k7 i b hb))
          oL:=fun i b hb=>by rw[←hL];exact st3.ownH b (q.sub i b hb)
          gdis:=k8
          odis:=q.dis
          go:=fun i j b h1 h2=>q.disH j b h2 (k7 i b h1)
          gp:=fun i b h1 h2=>st3.handPr b (q.hand b (k7 i b h1)) h2
          op:=fun i b h1 h2=>st3.handPr b (q.sub i b h1) h2
          glim:=fun i b h1=>st3.limH b (q.hand b (k7 i b h1))
          olim:=fun i b h1=>st3.limH b (q.sub i b h1)
          plim:=st3.limPr
          fr:=by rw[←hL1];exact hfr }
      cases e with
      | normal=>exact ⟨hdf,fin hk⟩
      | ret=>exact ⟨hdf,fin hk⟩
      | exit id=>simp at hk
    · simp at h
end
theorem qbr3 {P:Program} {C:Ctx} (hty:qck P C) (hmix:P.follows .mixedOrders=true) {E:Den C} {isExt:FuncId→Bool} (hext:∀ f,isExt f=true→FnOk P C E f) (hextc:∀ f a r,isExt f=true→E f a=some r→qma P f)
  (hnm:∀ (f:FuncId) (fn:Func),P.funcs[f]? = some fn→fn.name≠ "runtime.NumGoroutine"):∀ n,DOk P C (Dn C E isExt (fun g=>P.funcs[g]?) n)
 | 0=>⟨fun f a r h=>by simp[Dn] at h,fun f a r h=>by simp[Dn] at h⟩
 | n+1=>by
  have ih:=qbr3 hty hmix hext hextc hnm n
  refine ⟨fun f a r h=>?_,fun f a r h=>?_⟩
  ·simp only[Dn] at h
   by_cases he:isExt f=true
   ·rw[if_pos he] at h
    exact hext f he a r h
   ·rw[if_neg he] at h
    split at h
    ·simp at h
    ·rename_i fn hf
     intro w Pr Fs vs pre
     exact qbsk hty ih hmix hf h pre
  ·simp only[Dn] at h
   by_cases he:isExt f=true
   ·rw[if_pos he] at h
    exact hextc f a r he h
   ·rw[if_neg he] at h
    split at h
    ·simp at h
    ·rename_i fn hf
     refine ⟨fn,hf,hnm f fn hf,?_⟩
     unfold runF at h
     split at h
     ·simp at h
     ·rename_i c hb;rw[hb];rfl
end Go.V

namespace Go.V
noncomputable section
open Go
def zv:Value→Value→Bool
 | .int k a,.int j b=>decide (k=j)&&decide (a=b)
 | .bool a,.bool b=>decide (a=b)
 | .string a,.string b=>Nat.beq a.size 0&&Nat.beq b.size 0
 | .slice none n k,.slice none n' k'=>Nat.beq n n'&&Nat.beq k k'
 | _,_=>false
def zvs:List Value→List Value→Bool
 | [],[]=>true
 | a::l,b::l'=>zv a b&&zvs l l'
 | _,_=>false
def zval:Value→Value→Bool
 | .agg a,.agg b=>zvs a.toList b.toList
 | a,b=>zv a b
theorem qbix {a:ByteArray} (h:Nat.beq a.size 0=true):a=ByteArray.empty:=by
 have h:=Nat.eq_of_beq_eq_true h
 obtain ⟨⟨l⟩⟩:=a
 have:l=[]:=List.length_eq_zero_iff.1 h
 subst this;rfl
theorem qbr2:∀ {a b:Value},zv a b=true→a=b:=by
 intro a b h
 unfold zv at h
 split at h
 ·simp only[Bool.and_eq_true,decide_eq_true_eq] at h;rw[h.1,h.2]
 ·simp only[decide_eq_true_eq] at h;rw[h]
 ·simp only[Bool.and_eq_true] at h;rw[qbix h.1,qbix h.2]
 ·simp only[Bool.and_eq_true] at h;rw[Nat.eq_of_beq_eq_true h.1,Nat.eq_of_beq_eq_true h.2]
 ·simp at h
theorem qbo9:∀ {l l':List Value},zvs l l'=true→l=l'
 | [],[],_=>rfl
 | a::l,b::l',h=>by
  simp only[zvs,Bool.and_eq_true] at h
  rw[qbr2 h.1,qbo9 h.2]
 | [],_::_,h=>by simp[zvs] at h
 | _::_,[],h=>by simp[zvs] at h
theorem qbsl {a b:Value} (h:zval a b=true):a=b:=by
 unfold zval at h
 split at h
 ·rename_i x y
  have:=qbo9 h
  rw[Array.ext' this]
 ·exact qbr2 h
def q1q (C:Ctx):List Field→Nat→Ty→Bool
 | [],_,.unit=>true
 | f::fs,off,.pair a b=>decide (a=C.ty f.type)&&(Nat.beq f.offset off&&((f.name != "_")&&(a.nz&&q1q C fs (off+a.width) b)))
 | _,_,_=>false
theorem qbew {C:Ctx}:∀ (fs:List Field) (off:Nat) (T:Ty),q1q C fs off T=true→qcv C fs off T
 | [],off,T,h=>by
  cases T<;>simp[q1q] at h
  simp only[qcv]
 | f::fs,off,T,h=>by
  cases T with
  | pair a b=>
   simp only[q1q,Bool.and_eq_true,decide_eq_true_eq,bne_iff_ne,ne_eq] at h
   obtain ⟨e,h1,h2,h3,h4⟩:=h
   subst e
   exact ⟨b,rfl,Nat.eq_of_beq_eq_true h1,h2,h3,qbew fs _ b h4⟩
  | _=>simp[q1q] at h
def qbos (C:Ctx):TypeDesc→Ty→Bool
 | .int k,T=>decide (T=.int k)
 | .bool,T=>decide (T=.bool)
 | .string,T=>decide (T=.str)
 | .slice e,T=>decide (T=.sl (C.ty e))&&(C.ty e).nz
 | .struct fs,T=>q1q C fs.toList 0 T&&T.nz
 | _,_=>false
theorem qbrc {C:Ctx} {d:TypeDesc} {T:Ty} (h:qbos C d T=true):qgh C d T:=by
 cases d<;>simp only[qbos,Bool.and_eq_true,decide_eq_true_eq] at h<;>first
  | exact h
  | exact ⟨qbew _ _ _ h.1,Ty.nz_unit h.2⟩
  | simp at h
def qbob (P:Program) (C:Ctx) (t:TypeId):Bool:=
  if (C.ty t).nz then
    (match P.info? t with
     | some i=>Nat.beq i.size (C.ty t).width&&((match i.zero with | some z=>zval z (mkV (C.ty t) (zc (C.ty t))) | none=>false)&&Nat.ble i.bytes 255)
     | none=>false)&&
    (Nat.blt 0 (C.ty t).width&&((match P.underlying t with | some d=>qbos C d (C.ty t) | none=>false)&&(Nat.blt (C.ty t).deep 10000&&
      (!((C.ty t).agg&&(C.ty t).comp)||(!P.stoodInHeld t&&!P.eqGuardType P.depth t)))))
  else true
theorem qbri {P:Program} {C:Ctx} {t:TypeId} (h:qbob P C t=true) (hz:(C.ty t).nz=true):TyOk P C t:=by
 unfold qbob at h
 rw[if_pos hz] at h
 simp only[Bool.and_eq_true] at h
 obtain ⟨h1,h2,h3,h4,h5⟩:=h
 refine ⟨?_,qfs.1 h2,?_,qfs.1 h4,?_⟩
 ·split at h1
  ·rename_i i hi
   simp only[Bool.and_eq_true] at h1
   obtain ⟨k1,k2,k3⟩:=h1
   split at k2
   ·rename_i z hzz
    exact ⟨i,hi,Nat.eq_of_beq_eq_true k1,by rw[hzz,qbsl k2],Nat.le_of_ble_eq_true k3⟩
   ·simp at k2
  ·simp at h1
 ·split at h3
  ·rename_i d hd
   exact ⟨d,hd,qbrc h3⟩
  ·simp at h3
 ·intro ha hc
  rw[ha,hc] at h5
  simp only[Bool.and_self,Bool.not_true,Bool.false_or,Bool.and_eq_true,Bool.not_eq_true'] at h5
  exact h5
theorem qbrn {P:Program} {C:Ctx} (n:Nat) (hmax:∀ t,Nat.ble t n=false→C.ty t=.unit) (h:(List.range (n+1)).all (qbob P C)=true):qck P C:=by
 intro t hz
 cases hb:Nat.ble t n with
 | false=>rw[hmax t hb] at hz;simp[Ty.nz] at hz
 | true=>
  have:=Nat.le_of_ble_eq_true hb
  rw[List.all_eq_true] at h
  exact qbri (h t (List.mem_range.2 (by omega))) hz
theorem qbq2 {P:Program} (h:P.funcs.toList.all (fun fn=>fn.name != "runtime.NumGoroutine")=true):∀ (f:FuncId) (fn:Func),P.funcs[f]? = some fn→fn.name≠ "runtime.NumGoroutine" := by
 intro f fn hf
 rw[List.all_eq_true] at h
 have:=h fn (by rw[Array.mem_toList_iff];exact Array.mem_of_getElem? hf)
 simpa using this
end
end Go.V

namespace Go.V
set_option maxRecDepth 100000
open Go
noncomputable def qboe:Nat:=218
noncomputable def qbtv (n:Nat):Ty:=cond (n.ble qboe) (cond (n.ble 45) (cond (n.ble 25) (cond (n.ble 9) (cond (n.ble 4) (cond (n.ble 2) (cond (n.beq 2) (.int .i64) (.unit)) (cond (n.ble 3) (cond (n.beq 3) (.int .i64) (.unit)) (cond (n.beq 4) (.bool) (.unit)))) (cond (n.ble 5) (cond (n.beq 5) (.int .u8) (.unit)) (cond (n.ble 6) (cond (n.beq 6) (.int .u8) (.unit)) (cond (n.beq 9) (.str) (.unit))))) (cond (n.ble 12) (cond (n.ble 10) (cond (n.beq 10) (.str) (.unit)) (cond (n.ble 11) (cond (n.beq 11) (.str) (.unit)) (cond (n.beq 12) (.int .u64) (.unit)))) (cond (n.ble 22) (cond (n.ble 21) (cond (n.beq 21) (.int .i32) (.unit)) (cond (n.beq 22) (.sl (.int .u8)) (.unit))) (cond (n.ble 24) (cond (n.beq 24) (.sl (.pair (.str) (.pair (.int .i64) (.pair (.bool) (.unit))))) (.unit)) (cond (n.beq 25) (.sl (.int .i64)) (.unit)))))) (cond (n.ble 32) (cond (n.ble 28) (cond (n.ble 26) (cond (n.beq 26) (.sl (.pair (.str) (.pair (.sl (.int .i64)) (.pair (.bool) (.unit))))) (.unit)) (cond (n.ble 27) (cond (n.beq 27) (.pair (.sl (.pair (.str) (.pair (.int .i64) (.pair (.bool) (.unit))))) (.pair (.sl (.int .i64)) (.pair (.sl (.pair (.str) (.pair (.sl (.int .i64)) (.pair (.bool) (.unit))))) (.unit)))) (.unit)) (cond (n.beq 28) (.pair (.sl (.pair (.str) (.pair (.int .i64) (.pair (.bool) (.unit))))) (.pair (.sl (.int .i64)) (.pair (.sl (.pair (.str) (.pair (.sl (.int .i64)) (.pair (.bool) (.unit))))) (.unit)))) (.unit)))) (cond (n.ble 30) (cond (n.ble 29) (cond (n.beq 29) (.sl (.sl (.pair (.int .i64) (.pair (.int .i64) (.pair (.str) (.unit)))))) (.unit)) (cond (n.beq 30) (.pair (.pair (.sl (.pair (.str) (.pair (.int .i64) (.pair (.bool) (.unit))))) (.pair (.sl (.int .i64)) (.pair (.sl (.pair (.str) (.pair (.sl (.int .i64)) (.pair (.bool) (.unit))))) (.unit)))) (.pair (.sl (.sl (.pair (.int .i64) (.pair (.int .i64) (.pair (.str) (.unit)))))) (.unit))) (.unit))) (cond (n.ble 31) (cond (n.beq 31) (.pair (.pair (.sl (.pair (.str) (.pair (.int .i64) (.pair (.bool) (.unit))))) (.pair (.sl (.int .i64)) (.pair (.sl (.pair (.str) (.pair (.sl (.int .i64)) (.pair (.bool) (.unit))))) (.unit)))) (.pair (.sl (.sl (.pair (.int .i64) (.pair (.int .i64) (.pair (.str) (.unit)))))) (.unit))) (.unit)) (cond (n.beq 32) (.sl (.pair (.int .i64) (.pair (.int .i64) (.pair (.str) (.unit))))) (.unit))))) (cond (n.ble 38) (cond (n.ble 35) (cond (n.beq 35) (.sl (.pair (.str) (.pair (.str) (.unit)))) (.unit)) (cond (n.ble 37) (cond (n.beq 37) (.sl (.pair (.str) (.pair (.sl (.int .i64)) (.unit)))) (.unit)) (cond (n.beq 38) (.pair (.sl (.int .i64)) (.pair (.sl (.pair (.str) (.pair (.sl (.int .i64)) (.unit)))) (.unit))) (.unit)))) (cond (n.ble 41) (cond (n.ble 39) (cond (n.beq 39) (.pair (.sl (.int .i64)) (.pair (.sl (.pair (.str) (.pair (.sl (.int .i64)) (.unit)))) (.unit))) (.unit)) (cond (n.beq 41) (.pair (.str) (.pair (.str) (.unit))) (.unit))) (cond (n.ble 42) (cond (n.beq 42) (.pair (.str) (.pair (.str) (.unit))) (.unit)) (cond (n.beq 45) (.sl (.str)) (.unit))))))) (cond (n.ble 130) (cond (n.ble 76) (cond (n.ble 73) (cond (n.ble 71) (cond (n.beq 71) (.sl (.pair (.str) (.pair (.int .i64) (.pair (.bool) (.unit))))) (.unit)) (cond (n.ble 72) (cond (n.beq 72) (.sl (.pair (.str) (.pair (.sl (.int .i64)) (.pair (.bool) (.unit))))) (.unit)) (cond (n.beq 73) (.pair (.sl (.pair (.str) (.pair (.int .i64) (.pair (.bool) (.unit))))) (.pair (.sl (.int .i64)) (.pair (.sl (.pair (.str) (.pair (.sl (.int .i64)) (.pair (.bool) (.unit))))) (.unit)))) (.unit)))) (cond (n.ble 74) (cond (n.beq 74) (.pair (.sl (.pair (.str) (.pair (.int .i64) (.pair (.bool) (.unit))))) (.pair (.sl (.int .i64)) (.pair (.sl (.pair (.str) (.pair (.sl (.int .i64)) (.pair (.bool) (.unit))))) (.unit)))) (.unit)) (cond (n.ble 75) (cond (n.beq 75) (.sl (.sl (.pair (.int .i64) (.pair (.int .i64) (.pair (.str) (.unit)))))) (.unit)) (cond (n.beq 76) (.pair (.pair (.sl (.pair (.str) (.pair (.int .i64) (.pair (.bool) (.unit))))) (.pair (.sl (.int .i64)) (.pair (.sl (.pair (.str) (.pair (.sl (.int .i64)) (.pair (.bool) (.unit))))) (.unit)))) (.pair (.sl (.sl (.pair (.int .i64) (.pair (.int .i64) (.pair (.str) (.unit)))))) (.unit))) (.unit))))) (cond (n.ble 99) (cond (n.ble 77) (cond (n.beq 77) (.pair (.pair (.sl (.pair (.str) (.pair (.int .i64) (.pair (.bool) (.unit))))) (.pair (.sl (.int .i64)) (.pair (.sl (.pair (.str) (.pair (.sl (.int .i64)) (.pair (.bool) (.unit))))) (.unit)))) (.pair (.sl (.sl (.pair (.int .i64) (.pair (.int .i64) (.pair (.str) (.unit)))))) (.unit))) (.unit)) (cond (n.ble 78) (cond (n.beq 78) (.sl (.pair (.int .i64) (.pair (.int .i64) (.pair (.str) (.unit))))) (.unit)) (cond (n.beq 99) (.pair (.str) (.pair (.sl (.int .i64)) (.unit))) (.unit)))) (cond (n.ble 115) (cond (n.ble 100) (cond (n.beq 100) (.pair (.str) (.pair (.sl (.int .i64)) (.unit))) (.unit)) (cond (n.beq 115) (.pair (.int .i64) (.pair (.int .i64) (.pair (.str) (.unit)))) (.unit))) (cond (n.ble 116) (cond (n.beq 116) (.pair (.int .i64) (.pair (.int .i64) (.pair (.str) (.unit)))) (.unit)) (cond (n.beq 130) (.pair (.str) (.pair (.int .i64) (.pair (.bool) (.unit)))) (.unit)))))) (cond (n.ble 192) (cond (n.ble 133) (cond (n.ble 131) (cond (n.beq 131) (.pair (.str) (.pair (.int .i64) (.pair (.bool) (.unit)))) (.unit)) (cond (n.ble 132) (cond (n.beq 132) (.pair (.str) (.pair (.sl (.int .i64)) (.pair (.bool) (.unit)))) (.unit)) (cond (n.beq 133) (.pair (.str) (.pair (.sl (.int .i64)) (.pair (.bool) (.unit)))) (.unit)))) (cond (n.ble 151) (cond (n.ble 142) (cond (n.beq 142) (.pair (.int .i64) (.pair (.int .i64) (.pair (.str) (.unit)))) (.unit)) (cond (n.beq 151) (.pair (.sl (.int .u8)) (.pair (.int .i64) (.pair (.int .i64) (.unit)))) (.unit))) (cond (n.ble 152) (cond (n.beq 152) (.pair (.sl (.int .u8)) (.pair (.int .i64) (.pair (.int .i64) (.unit)))) (.unit)) (cond (n.beq 192) (.int .u64) (.unit))))) (cond (n.ble 212) (cond (n.ble 194) (cond (n.beq 194) (.pair (.str) (.pair (.int .i64) (.pair (.bool) (.unit)))) (.unit)) (cond (n.ble 196) (cond (n.beq 196) (.pair (.str) (.pair (.sl (.int .i64)) (.pair (.bool) (.unit)))) (.unit)) (cond (n.beq 212) (.int .u32) (.unit)))) (cond (n.ble 214) (cond (n.ble 213) (cond (n.beq 213) (.int .u8) (.unit)) (cond (n.beq 214) (.int .u8) (.unit))) (cond (n.ble 217) (cond (n.beq 217) (.int .i32) (.unit)) (cond (n.beq 218) (.int .i32) (.unit)))))))) (.unit)
noncomputable def qbtl (n:Nat):Sig:=cond (n.ble 106) (cond (n.ble 54) (cond (n.ble 28) (cond (n.ble 15) (cond (n.ble 8) (cond (n.ble 5) (cond (n.ble 3) (cond (n.beq 3) (⟨[.val (.sl (.int .u8))],[.val (.bool) (Mk.top (.bool))]⟩) (⟨[],[]⟩)) (cond (n.ble 4) (cond (n.beq 4) (⟨[.val (.sl (.int .u8))],[.val (.bool) (Mk.top (.bool))]⟩) (⟨[],[]⟩)) (cond (n.beq 5) (⟨[.val (.sl (.int .u8))],[.val (.bool) (Mk.top (.bool))]⟩) (⟨[],[]⟩)))) (cond (n.ble 6) (cond (n.beq 6) (⟨[.val (.sl (.int .u8))],[.val (.bool) (Mk.top (.bool))]⟩) (⟨[],[]⟩)) (cond (n.ble 7) (cond (n.beq 7) (⟨[.val (.pair (.pair (.sl (.pair (.str) (.pair (.int .i64) (.pair (.bool) (.unit))))) (.pair (.sl (.int .i64)) (.pair (.sl (.pair (.str) (.pair (.sl (.int .i64)) (.pair (.bool) (.unit))))) (.unit)))) (.pair (.sl (.sl (.pair (.int .i64) (.pair (.int .i64) (.pair (.str) (.unit)))))) (.unit))),.val (.sl (.pair (.int .i64) (.pair (.int .i64) (.pair (.str) (.unit)))))],[.val (.bool) (Mk.top (.bool))]⟩) (⟨[],[]⟩)) (cond (n.beq 8) (⟨[.val (.pair (.pair (.sl (.pair (.str) (.pair (.int .i64) (.pair (.bool) (.unit))))) (.pair (.sl (.int .i64)) (.pair (.sl (.pair (.str) (.pair (.sl (.int .i64)) (.pair (.bool) (.unit))))) (.unit)))) (.pair (.sl (.sl (.pair (.int .i64) (.pair (.int .i64) (.pair (.str) (.unit)))))) (.unit))),.val (.sl (.pair (.int .i64) (.pair (.int .i64) (.pair (.str) (.unit)))))],[.val (.bool) (Mk.top (.bool))]⟩) (⟨[],[]⟩))))) (cond (n.ble 11) (cond (n.ble 9) (cond (n.beq 9) (⟨[.val (.pair (.pair (.sl (.pair (.str) (.pair (.int .i64) (.pair (.bool) (.unit))))) (.pair (.sl (.int .i64)) (.pair (.sl (.pair (.str) (.pair (.sl (.int .i64)) (.pair (.bool) (.unit))))) (.unit)))) (.pair (.sl (.sl (.pair (.int .i64) (.pair (.int .i64) (.pair (.str) (.unit)))))) (.unit))),.val (.int .i64)],[.val (.bool) (Mk.top (.bool))]⟩) (⟨[],[]⟩)) (cond (n.ble 10) (cond (n.beq 10) (⟨[.val (.pair (.pair (.sl (.pair (.str) (.pair (.int .i64) (.pair (.bool) (.unit))))) (.pair (.sl (.int .i64)) (.pair (.sl (.pair (.str) (.pair (.sl (.int .i64)) (.pair (.bool) (.unit))))) (.unit)))) (.pair (.sl (.sl (.pair (.int .i64) (.pair (.int .i64) (.pair (.str) (.unit)))))) (.unit))),.val (.sl (.pair (.int .i64) (.pair (.int .i64) (.pair (.str) (.unit)))))],[.val (.bool) (Mk.top (.bool))]⟩) (⟨[],[]⟩)) (cond (n.beq 11) (⟨[.val (.sl (.int .u8))],[.val (.bool) (Mk.top (.bool))]⟩) (⟨[],[]⟩)))) (cond (n.ble 13) (cond (n.ble 12) (cond (n.beq 12) (⟨[.val (.sl (.int .u8))],[.val (.pair (.pair (.sl (.pair (.str) (.pair (.int .i64) (.pair (.bool) (.unit))))) (.pair (.sl (.int .i64)) (.pair (.sl (.pair (.str) (.pair (.sl (.int .i64)) (.pair (.bool) (.unit))))) (.unit)))) (.pair (.sl (.sl (.pair (.int .i64) (.pair (.int .i64) (.pair (.str) (.unit)))))) (.unit))) (Mk.no),.val (.sl (.pair (.int .i64) (.pair (.int .i64) (.pair (.str) (.unit))))) (Mk.no)]⟩) (⟨[],[]⟩)) (cond (n.beq 13) (⟨[.val (.pair (.pair (.sl (.pair (.str) (.pair (.int .i64) (.pair (.bool) (.unit))))) (.pair (.sl (.int .i64)) (.pair (.sl (.pair (.str) (.pair (.sl (.int .i64)) (.pair (.bool) (.unit))))) (.unit)))) (.pair (.sl (.sl (.pair (.int .i64) (.pair (.int .i64) (.pair (.str) (.unit)))))) (.unit))),.val (.int .i64)],[.val (.sl (.pair (.str) (.pair (.str) (.unit)))) (Mk.top (.sl (.pair (.str) (.pair (.str) (.unit)))))]⟩) (⟨[],[]⟩))) (cond (n.ble 14) (cond (n.beq 14) (⟨[],[.val (.pair (.sl (.int .i64)) (.pair (.sl (.pair (.str) (.pair (.sl (.int .i64)) (.unit)))) (.unit))) (Mk.top (.pair (.sl (.int .i64)) (.pair (.sl (.pair (.str) (.pair (.sl (.int .i64)) (.unit)))) (.unit))))]⟩) (⟨[],[]⟩)) (cond (n.beq 15) (⟨[.val (.pair (.sl (.int .i64)) (.pair (.sl (.pair (.str) (.pair (.sl (.int .i64)) (.unit)))) (.unit))),.val (.str)],[.val (.pair (.sl (.int .i64)) (.pair (.sl (.pair (.str) (.pair (.sl (.int .i64)) (.unit)))) (.unit))) (Mk.top (.pair (.sl (.int .i64)) (.pair (.sl (.pair (.str) (.pair (.sl (.int .i64)) (.unit)))) (.unit)))),.val (.bool) (Mk.top (.bool))]⟩) (⟨[],[]⟩)))))) (cond (n.ble 21) (cond (n.ble 18) (cond (n.ble 16) (cond (n.beq 16) (⟨[.val (.pair (.sl (.int .i64)) (.pair (.sl (.pair (.str) (.pair (.sl (.int .i64)) (.unit)))) (.unit)))],[.val (.sl (.str)) (Mk.top (.sl (.str)))]⟩) (⟨[],[]⟩)) (cond (n.ble 17) (cond (n.beq 17) (⟨[.val (.pair (.pair (.sl (.pair (.str) (.pair (.int .i64) (.pair (.bool) (.unit))))) (.pair (.sl (.int .i64)) (.pair (.sl (.pair (.str) (.pair (.sl (.int .i64)) (.pair (.bool) (.unit))))) (.unit)))) (.pair (.sl (.sl (.pair (.int .i64) (.pair (.int .i64) (.pair (.str) (.unit)))))) (.unit)))],[.val (.bool) (Mk.top (.bool))]⟩) (⟨[],[]⟩)) (cond (n.beq 18) (⟨[.val (.pair (.pair (.sl (.pair (.str) (.pair (.int .i64) (.pair (.bool) (.unit))))) (.pair (.sl (.int .i64)) (.pair (.sl (.pair (.str) (.pair (.sl (.int .i64)) (.pair (.bool) (.unit))))) (.unit)))) (.pair (.sl (.sl (.pair (.int .i64) (.pair (.int .i64) (.pair (.str) (.unit)))))) (.unit))),.val (.sl (.pair (.int .i64) (.pair (.int .i64) (.pair (.str) (.unit)))))],[.val (.pair (.pair (.sl (.pair (.str) (.pair (.int .i64) (.pair (.bool) (.unit))))) (.pair (.sl (.int .i64)) (.pair (.sl (.pair (.str) (.pair (.sl (.int .i64)) (.pair (.bool) (.unit))))) (.unit)))) (.pair (.sl (.sl (.pair (.int .i64) (.pair (.int .i64) (.pair (.str) (.unit)))))) (.unit))) (Mk.top (.pair (.pair (.sl (.pair (.str) (.pair (.int .i64) (.pair (.bool) (.unit))))) (.pair (.sl (.int .i64)) (.pair (.sl (.pair (.str) (.pair (.sl (.int .i64)) (.pair (.bool) (.unit))))) (.unit)))) (.pair (.sl (.sl (.pair (.int .i64) (.pair (.int .i64) (.pair (.str) (.unit)))))) (.unit)))),.val (.int .i64) (Mk.top (.int .i64))]⟩) (⟨[],[]⟩)))) (cond (n.ble 19) (cond (n.beq 19) (⟨[.val (.pair (.pair (.sl (.pair (.str) (.pair (.int .i64) (.pair (.bool) (.unit))))) (.pair (.sl (.int .i64)) (.pair (.sl (.pair (.str) (.pair (.sl (.int .i64)) (.pair (.bool) (.unit))))) (.unit)))) (.pair (.sl (.sl (.pair (.int .i64) (.pair (.int .i64) (.pair (.str) (.unit)))))) (.unit))),.val (.int .i64),.val (.sl (.pair (.int .i64) (.pair (.int .i64) (.pair (.str) (.unit)))))],[.val (.pair (.str) (.pair (.str) (.unit))) (Mk.top (.pair (.str) (.pair (.str) (.unit)))),.val (.bool) (Mk.top (.bool))]⟩) (⟨[],[]⟩)) (cond (n.ble 20) (cond (n.beq 20) (⟨[.val (.sl (.pair (.str) (.pair (.str) (.unit)))),.val (.sl (.pair (.str) (.pair (.str) (.unit))))],[.val (.bool) (Mk.top (.bool))]⟩) (⟨[],[]⟩)) (cond (n.beq 21) (⟨[.val (.sl (.pair (.str) (.pair (.str) (.unit)))),.val (.pair (.str) (.pair (.str) (.unit)))],[.val (.sl (.pair (.str) (.pair (.str) (.unit)))) (Mk.top (.sl (.pair (.str) (.pair (.str) (.unit)))))]⟩) (⟨[],[]⟩))))) (cond (n.ble 24) (cond (n.ble 22) (cond (n.beq 22) (⟨[.val (.pair (.pair (.sl (.pair (.str) (.pair (.int .i64) (.pair (.bool) (.unit))))) (.pair (.sl (.int .i64)) (.pair (.sl (.pair (.str) (.pair (.sl (.int .i64)) (.pair (.bool) (.unit))))) (.unit)))) (.pair (.sl (.sl (.pair (.int .i64) (.pair (.int .i64) (.pair (.str) (.unit)))))) (.unit))),.val (.sl (.pair (.int .i64) (.pair (.int .i64) (.pair (.str) (.unit)))))],[.val (.sl (.pair (.int .i64) (.pair (.int .i64) (.pair (.str) (.unit))))) (Mk.top (.sl (.pair (.int .i64) (.pair (.int .i64) (.pair (.str) (.unit)))))),.val (.bool) (Mk.top (.bool))]⟩) (⟨[],[]⟩)) (cond (n.ble 23) (cond (n.beq 23) (⟨[.val (.pair (.sl (.pair (.str) (.pair (.int .i64) (.pair (.bool) (.unit))))) (.pair (.sl (.int .i64)) (.pair (.sl (.pair (.str) (.pair (.sl (.int .i64)) (.pair (.bool) (.unit))))) (.unit)))),.val (.sl (.pair (.int .i64) (.pair (.int .i64) (.pair (.str) (.unit)))))],[.val (.sl (.pair (.int .i64) (.pair (.int .i64) (.pair (.str) (.unit))))) (Mk.top (.sl (.pair (.int .i64) (.pair (.int .i64) (.pair (.str) (.unit))))))]⟩) (⟨[],[]⟩)) (cond (n.beq 24) (⟨[.val (.pair (.pair (.sl (.pair (.str) (.pair (.int .i64) (.pair (.bool) (.unit))))) (.pair (.sl (.int .i64)) (.pair (.sl (.pair (.str) (.pair (.sl (.int .i64)) (.pair (.bool) (.unit))))) (.unit)))) (.pair (.sl (.sl (.pair (.int .i64) (.pair (.int .i64) (.pair (.str) (.unit)))))) (.unit))),.val (.sl (.pair (.int .i64) (.pair (.int .i64) (.pair (.str) (.unit)))))],[.val (.pair (.pair (.sl (.pair (.str) (.pair (.int .i64) (.pair (.bool) (.unit))))) (.pair (.sl (.int .i64)) (.pair (.sl (.pair (.str) (.pair (.sl (.int .i64)) (.pair (.bool) (.unit))))) (.unit)))) (.pair (.sl (.sl (.pair (.int .i64) (.pair (.int .i64) (.pair (.str) (.unit)))))) (.unit))) (Mk.top (.pair (.pair (.sl (.pair (.str) (.pair (.int .i64) (.pair (.bool) (.unit))))) (.pair (.sl (.int .i64)) (.pair (.sl (.pair (.str) (.pair (.sl (.int .i64)) (.pair (.bool) (.unit))))) (.unit)))) (.pair (.sl (.sl (.pair (.int .i64) (.pair (.int .i64) (.pair (.str) (.unit)))))) (.unit)))),.val (.int .i64) (Mk.top (.int .i64))]⟩) (⟨[],[]⟩)))) (cond (n.ble 26) (cond (n.ble 25) (cond (n.beq 25) (⟨[.val (.sl (.pair (.str) (.pair (.str) (.unit)))),.val (.pair (.str) (.pair (.str) (.unit)))],[.val (.sl (.pair (.str) (.pair (.str) (.unit)))) (Mk.top (.sl (.pair (.str) (.pair (.str) (.unit)))))]⟩) (⟨[],[]⟩)) (cond (n.beq 26) (⟨[.val (.pair (.pair (.sl (.pair (.str) (.pair (.int .i64) (.pair (.bool) (.unit))))) (.pair (.sl (.int .i64)) (.pair (.sl (.pair (.str) (.pair (.sl (.int .i64)) (.pair (.bool) (.unit))))) (.unit)))) (.pair (.sl (.sl (.pair (.int .i64) (.pair (.int .i64) (.pair (.str) (.unit)))))) (.unit))),.val (.sl (.pair (.int .i64) (.pair (.int .i64) (.pair (.str) (.unit)))))],[.val (.pair (.pair (.sl (.pair (.str) (.pair (.int .i64) (.pair (.bool) (.unit))))) (.pair (.sl (.int .i64)) (.pair (.sl (.pair (.str) (.pair (.sl (.int .i64)) (.pair (.bool) (.unit))))) (.unit)))) (.pair (.sl (.sl (.pair (.int .i64) (.pair (.int .i64) (.pair (.str) (.unit)))))) (.unit))) (Mk.top (.pair (.pair (.sl (.pair (.str) (.pair (.int .i64) (.pair (.bool) (.unit))))) (.pair (.sl (.int .i64)) (.pair (.sl (.pair (.str) (.pair (.sl (.int .i64)) (.pair (.bool) (.unit))))) (.unit)))) (.pair (.sl (.sl (.pair (.int .i64) (.pair (.int .i64) (.pair (.str) (.unit)))))) (.unit)))),.val (.int .i64) (Mk.top (.int .i64))]⟩) (⟨[],[]⟩))) (cond (n.ble 27) (cond (n.beq 27) (⟨[.val (.sl (.int .u8))],[.val (.pair (.pair (.sl (.pair (.str) (.pair (.int .i64) (.pair (.bool) (.unit))))) (.pair (.sl (.int .i64)) (.pair (.sl (.pair (.str) (.pair (.sl (.int .i64)) (.pair (.bool) (.unit))))) (.unit)))) (.pair (.sl (.sl (.pair (.int .i64) (.pair (.int .i64) (.pair (.str) (.unit)))))) (.unit))) (Mk.no),.val (.sl (.pair (.int .i64) (.pair (.int .i64) (.pair (.str) (.unit))))) (Mk.no)]⟩) (⟨[],[]⟩)) (cond (n.beq 28) (⟨[.val (.pair (.pair (.sl (.pair (.str) (.pair (.int .i64) (.pair (.bool) (.unit))))) (.pair (.sl (.int .i64)) (.pair (.sl (.pair (.str) (.pair (.sl (.int .i64)) (.pair (.bool) (.unit))))) (.unit)))) (.pair (.sl (.sl (.pair (.int .i64) (.pair (.int .i64) (.pair (.str) (.unit)))))) (.unit))),.val (.sl (.pair (.int .i64) (.pair (.int .i64) (.pair (.str) (.unit)))))],[.val (.pair (.pair (.sl (.pair (.str) (.pair (.int .i64) (.pair (.bool) (.unit))))) (.pair (.sl (.int .i64)) (.pair (.sl (.pair (.str) (.pair (.sl (.int .i64)) (.pair (.bool) (.unit))))) (.unit)))) (.pair (.sl (.sl (.pair (.int .i64) (.pair (.int .i64) (.pair (.str) (.unit)))))) (.unit))) (Mk.pr Mk.no (Mk.pr (Mk.own 0 Mk.no) Mk.no)),.val (.int .i64) (Mk.top (.int .i64))]⟩) (⟨[],[]⟩))))))) (cond (n.ble 41) (cond (n.ble 34) (cond (n.ble 31) (cond (n.ble 29) (cond (n.beq 29) (⟨[.val (.sl (.int .u8))],[.val (.pair (.pair (.sl (.pair (.str) (.pair (.int .i64) (.pair (.bool) (.unit))))) (.pair (.sl (.int .i64)) (.pair (.sl (.pair (.str) (.pair (.sl (.int .i64)) (.pair (.bool) (.unit))))) (.unit)))) (.pair (.sl (.sl (.pair (.int .i64) (.pair (.int .i64) (.pair (.str) (.unit)))))) (.unit))) (Mk.no),.val (.sl (.pair (.int .i64) (.pair (.int .i64) (.pair (.str) (.unit))))) (Mk.no)]⟩) (⟨[],[]⟩)) (cond (n.ble 30) (cond (n.beq 30) (⟨[.val (.pair (.pair (.sl (.pair (.str) (.pair (.int .i64) (.pair (.bool) (.unit))))) (.pair (.sl (.int .i64)) (.pair (.sl (.pair (.str) (.pair (.sl (.int .i64)) (.pair (.bool) (.unit))))) (.unit)))) (.pair (.sl (.sl (.pair (.int .i64) (.pair (.int .i64) (.pair (.str) (.unit)))))) (.unit))),.val (.sl (.pair (.int .i64) (.pair (.int .i64) (.pair (.str) (.unit)))))],[.val (.pair (.pair (.sl (.pair (.str) (.pair (.int .i64) (.pair (.bool) (.unit))))) (.pair (.sl (.int .i64)) (.pair (.sl (.pair (.str) (.pair (.sl (.int .i64)) (.pair (.bool) (.unit))))) (.unit)))) (.pair (.sl (.sl (.pair (.int .i64) (.pair (.int .i64) (.pair (.str) (.unit)))))) (.unit))) (Mk.pr Mk.no (Mk.pr (Mk.own 0 Mk.no) Mk.no)),.val (.int .i64) (Mk.top (.int .i64))]⟩) (⟨[],[]⟩)) (cond (n.beq 31) (⟨[.val (.sl (.int .u8))],[.val (.pair (.pair (.sl (.pair (.str) (.pair (.int .i64) (.pair (.bool) (.unit))))) (.pair (.sl (.int .i64)) (.pair (.sl (.pair (.str) (.pair (.sl (.int .i64)) (.pair (.bool) (.unit))))) (.unit)))) (.pair (.sl (.sl (.pair (.int .i64) (.pair (.int .i64) (.pair (.str) (.unit)))))) (.unit))) (Mk.no),.val (.sl (.pair (.int .i64) (.pair (.int .i64) (.pair (.str) (.unit))))) (Mk.no)]⟩) (⟨[],[]⟩)))) (cond (n.ble 32) (cond (n.beq 32) (⟨[.val (.pair (.pair (.sl (.pair (.str) (.pair (.int .i64) (.pair (.bool) (.unit))))) (.pair (.sl (.int .i64)) (.pair (.sl (.pair (.str) (.pair (.sl (.int .i64)) (.pair (.bool) (.unit))))) (.unit)))) (.pair (.sl (.sl (.pair (.int .i64) (.pair (.int .i64) (.pair (.str) (.unit)))))) (.unit))),.val (.sl (.pair (.int .i64) (.pair (.int .i64) (.pair (.str) (.unit)))))],[.val (.pair (.pair (.sl (.pair (.str) (.pair (.int .i64) (.pair (.bool) (.unit))))) (.pair (.sl (.int .i64)) (.pair (.sl (.pair (.str) (.pair (.sl (.int .i64)) (.pair (.bool) (.unit))))) (.unit)))) (.pair (.sl (.sl (.pair (.int .i64) (.pair (.int .i64) (.pair (.str) (.unit)))))) (.unit))) (Mk.pr Mk.no (Mk.pr (Mk.own 0 Mk.no) Mk.no)),.val (.int .i64) (Mk.top (.int .i64))]⟩) (⟨[],[]⟩)) (cond (n.ble 33) (cond (n.beq 33) (⟨[.val (.sl (.int .u8))],[.val (.pair (.pair (.sl (.pair (.str) (.pair (.int .i64) (.pair (.bool) (.unit))))) (.pair (.sl (.int .i64)) (.pair (.sl (.pair (.str) (.pair (.sl (.int .i64)) (.pair (.bool) (.unit))))) (.unit)))) (.pair (.sl (.sl (.pair (.int .i64) (.pair (.int .i64) (.pair (.str) (.unit)))))) (.unit))) (Mk.no),.val (.sl (.pair (.int .i64) (.pair (.int .i64) (.pair (.str) (.unit))))) (Mk.no)]⟩) (⟨[],[]⟩)) (cond (n.beq 34) (⟨[.val (.pair (.pair (.sl (.pair (.str) (.pair (.int .i64) (.pair (.bool) (.unit))))) (.pair (.sl (.int .i64)) (.pair (.sl (.pair (.str) (.pair (.sl (.int .i64)) (.pair (.bool) (.unit))))) (.unit)))) (.pair (.sl (.sl (.pair (.int .i64) (.pair (.int .i64) (.pair (.str) (.unit)))))) (.unit))),.val (.sl (.pair (.int .i64) (.pair (.int .i64) (.pair (.str) (.unit)))))],[.val (.sl (.pair (.int .i64) (.pair (.int .i64) (.pair (.str) (.unit))))) (Mk.top (.sl (.pair (.int .i64) (.pair (.int .i64) (.pair (.str) (.unit)))))),.val (.bool) (Mk.top (.bool))]⟩) (⟨[],[]⟩))))) (cond (n.ble 37) (cond (n.ble 35) (cond (n.beq 35) (⟨[.val (.sl (.int .u8))],[.val (.pair (.pair (.sl (.pair (.str) (.pair (.int .i64) (.pair (.bool) (.unit))))) (.pair (.sl (.int .i64)) (.pair (.sl (.pair (.str) (.pair (.sl (.int .i64)) (.pair (.bool) (.unit))))) (.unit)))) (.pair (.sl (.sl (.pair (.int .i64) (.pair (.int .i64) (.pair (.str) (.unit)))))) (.unit))) (Mk.no)]⟩) (⟨[],[]⟩)) (cond (n.ble 36) (cond (n.beq 36) (⟨[.val (.sl (.int .u8))],[.val (.pair (.sl (.pair (.str) (.pair (.int .i64) (.pair (.bool) (.unit))))) (.pair (.sl (.int .i64)) (.pair (.sl (.pair (.str) (.pair (.sl (.int .i64)) (.pair (.bool) (.unit))))) (.unit)))) (Mk.no)]⟩) (⟨[],[]⟩)) (cond (n.beq 37) (⟨[.val (.pair (.sl (.pair (.str) (.pair (.int .i64) (.pair (.bool) (.unit))))) (.pair (.sl (.int .i64)) (.pair (.sl (.pair (.str) (.pair (.sl (.int .i64)) (.pair (.bool) (.unit))))) (.unit))))],[.val (.pair (.pair (.sl (.pair (.str) (.pair (.int .i64) (.pair (.bool) (.unit))))) (.pair (.sl (.int .i64)) (.pair (.sl (.pair (.str) (.pair (.sl (.int .i64)) (.pair (.bool) (.unit))))) (.unit)))) (.pair (.sl (.sl (.pair (.int .i64) (.pair (.int .i64) (.pair (.str) (.unit)))))) (.unit))) (Mk.top (.pair (.pair (.sl (.pair (.str) (.pair (.int .i64) (.pair (.bool) (.unit))))) (.pair (.sl (.int .i64)) (.pair (.sl (.pair (.str) (.pair (.sl (.int .i64)) (.pair (.bool) (.unit))))) (.unit)))) (.pair (.sl (.sl (.pair (.int .i64) (.pair (.int .i64) (.pair (.str) (.unit)))))) (.unit)))),.val (.bool) (Mk.top (.bool))]⟩) (⟨[],[]⟩)))) (cond (n.ble 39) (cond (n.ble 38) (cond (n.beq 38) (⟨[.val (.pair (.sl (.pair (.str) (.pair (.int .i64) (.pair (.bool) (.unit))))) (.pair (.sl (.int .i64)) (.pair (.sl (.pair (.str) (.pair (.sl (.int .i64)) (.pair (.bool) (.unit))))) (.unit))))],[.val (.pair (.pair (.sl (.pair (.str) (.pair (.int .i64) (.pair (.bool) (.unit))))) (.pair (.sl (.int .i64)) (.pair (.sl (.pair (.str) (.pair (.sl (.int .i64)) (.pair (.bool) (.unit))))) (.unit)))) (.pair (.sl (.sl (.pair (.int .i64) (.pair (.int .i64) (.pair (.str) (.unit)))))) (.unit))) (Mk.pr Mk.no (Mk.pr (Mk.own 0 Mk.no) Mk.no)),.val (.bool) (Mk.top (.bool))]⟩) (⟨[],[]⟩)) (cond (n.beq 39) (⟨[.val (.pair (.pair (.sl (.pair (.str) (.pair (.int .i64) (.pair (.bool) (.unit))))) (.pair (.sl (.int .i64)) (.pair (.sl (.pair (.str) (.pair (.sl (.int .i64)) (.pair (.bool) (.unit))))) (.unit)))) (.pair (.sl (.sl (.pair (.int .i64) (.pair (.int .i64) (.pair (.str) (.unit)))))) (.unit))),.val (.pair (.pair (.sl (.pair (.str) (.pair (.int .i64) (.pair (.bool) (.unit))))) (.pair (.sl (.int .i64)) (.pair (.sl (.pair (.str) (.pair (.sl (.int .i64)) (.pair (.bool) (.unit))))) (.unit)))) (.pair (.sl (.sl (.pair (.int .i64) (.pair (.int .i64) (.pair (.str) (.unit)))))) (.unit)))],[.val (.bool) (Mk.top (.bool))]⟩) (⟨[],[]⟩))) (cond (n.ble 40) (cond (n.beq 40) (⟨[.val (.sl (.pair (.int .i64) (.pair (.int .i64) (.pair (.str) (.unit))))),.val (.sl (.pair (.int .i64) (.pair (.int .i64) (.pair (.str) (.unit)))))],[.val (.bool) (Mk.top (.bool))]⟩) (⟨[],[]⟩)) (cond (n.beq 41) (⟨[.val (.pair (.pair (.sl (.pair (.str) (.pair (.int .i64) (.pair (.bool) (.unit))))) (.pair (.sl (.int .i64)) (.pair (.sl (.pair (.str) (.pair (.sl (.int .i64)) (.pair (.bool) (.unit))))) (.unit)))) (.pair (.sl (.sl (.pair (.int .i64) (.pair (.int .i64) (.pair (.str) (.unit)))))) (.unit)))],[.val (.bool) (Mk.top (.bool))]⟩) (⟨[],[]⟩)))))) (cond (n.ble 47) (cond (n.ble 44) (cond (n.ble 42) (cond (n.beq 42) (⟨[.val (.sl (.int .u8))],[.val (.sl (.pair (.str) (.pair (.str) (.unit)))) (Mk.no),.val (.pair (.str) (.pair (.str) (.unit))) (Mk.no)]⟩) (⟨[],[]⟩)) (cond (n.ble 43) (cond (n.beq 43) (⟨[.val (.sl (.int .u8))],[.val (.sl (.pair (.str) (.pair (.str) (.unit)))) (Mk.no),.val (.pair (.str) (.pair (.str) (.unit))) (Mk.no)]⟩) (⟨[],[]⟩)) (cond (n.beq 44) (⟨[.val (.sl (.int .u8))],[.val (.pair (.str) (.pair (.str) (.unit))) (Mk.top (.pair (.str) (.pair (.str) (.unit)))),.val (.pair (.str) (.pair (.str) (.unit))) (Mk.top (.pair (.str) (.pair (.str) (.unit))))]⟩) (⟨[],[]⟩)))) (cond (n.ble 45) (cond (n.beq 45) (⟨[.val (.sl (.int .u8))],[.val (.pair (.pair (.sl (.pair (.str) (.pair (.int .i64) (.pair (.bool) (.unit))))) (.pair (.sl (.int .i64)) (.pair (.sl (.pair (.str) (.pair (.sl (.int .i64)) (.pair (.bool) (.unit))))) (.unit)))) (.pair (.sl (.sl (.pair (.int .i64) (.pair (.int .i64) (.pair (.str) (.unit)))))) (.unit))) (Mk.no),.val (.int .i64) (Mk.no),.val (.sl (.pair (.int .i64) (.pair (.int .i64) (.pair (.str) (.unit))))) (Mk.no)]⟩) (⟨[],[]⟩)) (cond (n.ble 46) (cond (n.beq 46) (⟨[.val (.pair (.pair (.sl (.pair (.str) (.pair (.int .i64) (.pair (.bool) (.unit))))) (.pair (.sl (.int .i64)) (.pair (.sl (.pair (.str) (.pair (.sl (.int .i64)) (.pair (.bool) (.unit))))) (.unit)))) (.pair (.sl (.sl (.pair (.int .i64) (.pair (.int .i64) (.pair (.str) (.unit)))))) (.unit))),.val (.int .i64),.val (.sl (.pair (.int .i64) (.pair (.int .i64) (.pair (.str) (.unit)))))],[.val (.pair (.str) (.pair (.str) (.unit))) (Mk.top (.pair (.str) (.pair (.str) (.unit)))),.val (.bool) (Mk.top (.bool))]⟩) (⟨[],[]⟩)) (cond (n.beq 47) (⟨[.val (.sl (.int .u8))],[.val (.pair (.pair (.sl (.pair (.str) (.pair (.int .i64) (.pair (.bool) (.unit))))) (.pair (.sl (.int .i64)) (.pair (.sl (.pair (.str) (.pair (.sl (.int .i64)) (.pair (.bool) (.unit))))) (.unit)))) (.pair (.sl (.sl (.pair (.int .i64) (.pair (.int .i64) (.pair (.str) (.unit)))))) (.unit))) (Mk.no),.val (.int .i64) (Mk.no)]⟩) (⟨[],[]⟩))))) (cond (n.ble 50) (cond (n.ble 48) (cond (n.beq 48) (⟨[.val (.sl (.pair (.str) (.pair (.str) (.unit)))),.val (.pair (.str) (.pair (.str) (.unit)))],[.val (.sl (.pair (.str) (.pair (.str) (.unit)))) (Mk.top (.sl (.pair (.str) (.pair (.str) (.unit)))))]⟩) (⟨[],[]⟩)) (cond (n.ble 49) (cond (n.beq 49) (⟨[.val (.sl (.pair (.str) (.pair (.str) (.unit)))),.val (.pair (.str) (.pair (.str) (.unit)))],[.val (.sl (.pair (.str) (.pair (.str) (.unit)))) (Mk.top (.sl (.pair (.str) (.pair (.str) (.unit)))))]⟩) (⟨[],[]⟩)) (cond (n.beq 50) (⟨[.val (.pair (.str) (.pair (.str) (.unit))),.val (.pair (.str) (.pair (.str) (.unit)))],[.val (.bool) (Mk.top (.bool))]⟩) (⟨[],[]⟩)))) (cond (n.ble 52) (cond (n.ble 51) (cond (n.beq 51) (⟨[.val (.pair (.str) (.pair (.str) (.unit))),.val (.pair (.str) (.pair (.str) (.unit)))],[.val (.bool) (Mk.top (.bool))]⟩) (⟨[],[]⟩)) (cond (n.beq 52) (⟨[.val (.pair (.pair (.sl (.pair (.str) (.pair (.int .i64) (.pair (.bool) (.unit))))) (.pair (.sl (.int .i64)) (.pair (.sl (.pair (.str) (.pair (.sl (.int .i64)) (.pair (.bool) (.unit))))) (.unit)))) (.pair (.sl (.sl (.pair (.int .i64) (.pair (.int .i64) (.pair (.str) (.unit)))))) (.unit))),.val (.int .i64)],[.val (.sl (.pair (.str) (.pair (.str) (.unit)))) (Mk.top (.sl (.pair (.str) (.pair (.str) (.unit)))))]⟩) (⟨[],[]⟩))) (cond (n.ble 53) (cond (n.beq 53) (⟨[.val (.pair (.pair (.sl (.pair (.str) (.pair (.int .i64) (.pair (.bool) (.unit))))) (.pair (.sl (.int .i64)) (.pair (.sl (.pair (.str) (.pair (.sl (.int .i64)) (.pair (.bool) (.unit))))) (.unit)))) (.pair (.sl (.sl (.pair (.int .i64) (.pair (.int .i64) (.pair (.str) (.unit)))))) (.unit))),.val (.int .i64)],[.val (.int .i64) (Mk.top (.int .i64))]⟩) (⟨[],[]⟩)) (cond (n.beq 54) (⟨[.val (.sl (.pair (.int .i64) (.pair (.int .i64) (.pair (.str) (.unit))))),.val (.int .i64)],[.val (.int .i64) (Mk.top (.int .i64))]⟩) (⟨[],[]⟩)))))))) (cond (n.ble 80) (cond (n.ble 67) (cond (n.ble 60) (cond (n.ble 57) (cond (n.ble 55) (cond (n.beq 55) (⟨[.val (.pair (.pair (.sl (.pair (.str) (.pair (.int .i64) (.pair (.bool) (.unit))))) (.pair (.sl (.int .i64)) (.pair (.sl (.pair (.str) (.pair (.sl (.int .i64)) (.pair (.bool) (.unit))))) (.unit)))) (.pair (.sl (.sl (.pair (.int .i64) (.pair (.int .i64) (.pair (.str) (.unit)))))) (.unit)))],[.val (.pair (.pair (.sl (.pair (.str) (.pair (.int .i64) (.pair (.bool) (.unit))))) (.pair (.sl (.int .i64)) (.pair (.sl (.pair (.str) (.pair (.sl (.int .i64)) (.pair (.bool) (.unit))))) (.unit)))) (.pair (.sl (.sl (.pair (.int .i64) (.pair (.int .i64) (.pair (.str) (.unit)))))) (.unit))) (Mk.top (.pair (.pair (.sl (.pair (.str) (.pair (.int .i64) (.pair (.bool) (.unit))))) (.pair (.sl (.int .i64)) (.pair (.sl (.pair (.str) (.pair (.sl (.int .i64)) (.pair (.bool) (.unit))))) (.unit)))) (.pair (.sl (.sl (.pair (.int .i64) (.pair (.int .i64) (.pair (.str) (.unit)))))) (.unit))))]⟩) (⟨[],[]⟩)) (cond (n.ble 56) (cond (n.beq 56) (⟨[.val (.sl (.pair (.int .i64) (.pair (.int .i64) (.pair (.str) (.unit)))))],[.val (.sl (.pair (.int .i64) (.pair (.int .i64) (.pair (.str) (.unit))))) (Mk.top (.sl (.pair (.int .i64) (.pair (.int .i64) (.pair (.str) (.unit))))))]⟩) (⟨[],[]⟩)) (cond (n.beq 57) (⟨[.val (.pair (.pair (.sl (.pair (.str) (.pair (.int .i64) (.pair (.bool) (.unit))))) (.pair (.sl (.int .i64)) (.pair (.sl (.pair (.str) (.pair (.sl (.int .i64)) (.pair (.bool) (.unit))))) (.unit)))) (.pair (.sl (.sl (.pair (.int .i64) (.pair (.int .i64) (.pair (.str) (.unit)))))) (.unit))),.val (.pair (.pair (.sl (.pair (.str) (.pair (.int .i64) (.pair (.bool) (.unit))))) (.pair (.sl (.int .i64)) (.pair (.sl (.pair (.str) (.pair (.sl (.int .i64)) (.pair (.bool) (.unit))))) (.unit)))) (.pair (.sl (.sl (.pair (.int .i64) (.pair (.int .i64) (.pair (.str) (.unit)))))) (.unit)))],[.val (.bool) (Mk.top (.bool))]⟩) (⟨[],[]⟩)))) (cond (n.ble 58) (cond (n.beq 58) (⟨[.val (.sl (.pair (.int .i64) (.pair (.int .i64) (.pair (.str) (.unit))))),.val (.sl (.pair (.int .i64) (.pair (.int .i64) (.pair (.str) (.unit)))))],[.val (.bool) (Mk.top (.bool))]⟩) (⟨[],[]⟩)) (cond (n.ble 59) (cond (n.beq 59) (⟨[.mutv (.pair (.pair (.sl (.pair (.str) (.pair (.int .i64) (.pair (.bool) (.unit))))) (.pair (.sl (.int .i64)) (.pair (.sl (.pair (.str) (.pair (.sl (.int .i64)) (.pair (.bool) (.unit))))) (.unit)))) (.pair (.sl (.sl (.pair (.int .i64) (.pair (.int .i64) (.pair (.str) (.unit)))))) (.unit))) (Mk.top (.pair (.pair (.sl (.pair (.str) (.pair (.int .i64) (.pair (.bool) (.unit))))) (.pair (.sl (.int .i64)) (.pair (.sl (.pair (.str) (.pair (.sl (.int .i64)) (.pair (.bool) (.unit))))) (.unit)))) (.pair (.sl (.sl (.pair (.int .i64) (.pair (.int .i64) (.pair (.str) (.unit)))))) (.unit)))) (Mk.top (.pair (.pair (.sl (.pair (.str) (.pair (.int .i64) (.pair (.bool) (.unit))))) (.pair (.sl (.int .i64)) (.pair (.sl (.pair (.str) (.pair (.sl (.int .i64)) (.pair (.bool) (.unit))))) (.unit)))) (.pair (.sl (.sl (.pair (.int .i64) (.pair (.int .i64) (.pair (.str) (.unit)))))) (.unit)))),.val (.int .i64)],[.val (.int .i64) (Mk.top (.int .i64))]⟩) (⟨[],[]⟩)) (cond (n.beq 60) (⟨[.mutv (.sl (.pair (.int .i64) (.pair (.int .i64) (.pair (.str) (.unit))))) (Mk.top (.sl (.pair (.int .i64) (.pair (.int .i64) (.pair (.str) (.unit)))))) (Mk.top (.sl (.pair (.int .i64) (.pair (.int .i64) (.pair (.str) (.unit)))))),.val (.int .i64)],[.val (.int .i64) (Mk.top (.int .i64))]⟩) (⟨[],[]⟩))))) (cond (n.ble 63) (cond (n.ble 61) (cond (n.beq 61) (⟨[.val (.pair (.pair (.sl (.pair (.str) (.pair (.int .i64) (.pair (.bool) (.unit))))) (.pair (.sl (.int .i64)) (.pair (.sl (.pair (.str) (.pair (.sl (.int .i64)) (.pair (.bool) (.unit))))) (.unit)))) (.pair (.sl (.sl (.pair (.int .i64) (.pair (.int .i64) (.pair (.str) (.unit)))))) (.unit))),.val (.int .i64)],[.val (.int .i64) (Mk.top (.int .i64))]⟩) (⟨[],[]⟩)) (cond (n.ble 62) (cond (n.beq 62) (⟨[.val (.sl (.pair (.str) (.pair (.str) (.unit)))),.val (.sl (.pair (.str) (.pair (.str) (.unit))))],[.val (.bool) (Mk.top (.bool))]⟩) (⟨[],[]⟩)) (cond (n.beq 63) (⟨[.mutv (.sl (.pair (.str) (.pair (.str) (.unit)))) (Mk.top (.sl (.pair (.str) (.pair (.str) (.unit))))) (Mk.top (.sl (.pair (.str) (.pair (.str) (.unit))))),.val (.int .i64)],[.val (.int .i64) (Mk.top (.int .i64))]⟩) (⟨[],[]⟩)))) (cond (n.ble 65) (cond (n.ble 64) (cond (n.beq 64) (⟨[.val (.sl (.pair (.str) (.pair (.str) (.unit)))),.val (.int .i64)],[.val (.int .i64) (Mk.top (.int .i64))]⟩) (⟨[],[]⟩)) (cond (n.beq 65) (⟨[.val (.sl (.int .u8))],[.ptr (.pair (.sl (.int .u8)) (.pair (.int .i64) (.pair (.int .i64) (.unit)))) (.no)]⟩) (⟨[],[]⟩))) (cond (n.ble 66) (cond (n.beq 66) (⟨[.mutp (.pair (.sl (.int .u8)) (.pair (.int .i64) (.pair (.int .i64) (.unit)))) (.no) (.no)],[.val (.pair (.pair (.sl (.pair (.str) (.pair (.int .i64) (.pair (.bool) (.unit))))) (.pair (.sl (.int .i64)) (.pair (.sl (.pair (.str) (.pair (.sl (.int .i64)) (.pair (.bool) (.unit))))) (.unit)))) (.pair (.sl (.sl (.pair (.int .i64) (.pair (.int .i64) (.pair (.str) (.unit)))))) (.unit))) (Mk.pr Mk.no (Mk.pr (Mk.own 0 Mk.no) Mk.no))]⟩) (⟨[],[]⟩)) (cond (n.beq 67) (⟨[.mutp (.pair (.sl (.int .u8)) (.pair (.int .i64) (.pair (.int .i64) (.unit)))) (.no) (.no),.val (.pair (.pair (.sl (.pair (.str) (.pair (.int .i64) (.pair (.bool) (.unit))))) (.pair (.sl (.int .i64)) (.pair (.sl (.pair (.str) (.pair (.sl (.int .i64)) (.pair (.bool) (.unit))))) (.unit)))) (.pair (.sl (.sl (.pair (.int .i64) (.pair (.int .i64) (.pair (.str) (.unit)))))) (.unit)))],[.val (.sl (.pair (.int .i64) (.pair (.int .i64) (.pair (.str) (.unit))))) (Mk.top (.sl (.pair (.int .i64) (.pair (.int .i64) (.pair (.str) (.unit))))))]⟩) (⟨[],[]⟩)))))) (cond (n.ble 73) (cond (n.ble 70) (cond (n.ble 68) (cond (n.beq 68) (⟨[.val (.int .i64),.val (.int .i64),.val (.int .i64)],[.val (.bool) (Mk.top (.bool))]⟩) (⟨[],[]⟩)) (cond (n.ble 69) (cond (n.beq 69) (⟨[.val (.pair (.sl (.pair (.str) (.pair (.int .i64) (.pair (.bool) (.unit))))) (.pair (.sl (.int .i64)) (.pair (.sl (.pair (.str) (.pair (.sl (.int .i64)) (.pair (.bool) (.unit))))) (.unit)))),.val (.int .i64),.val (.sl (.pair (.int .i64) (.pair (.int .i64) (.pair (.str) (.unit)))))],[.val (.pair (.str) (.pair (.str) (.unit))) (Mk.top (.pair (.str) (.pair (.str) (.unit))))]⟩) (⟨[],[]⟩)) (cond (n.beq 70) (⟨[.val (.pair (.sl (.int .i64)) (.pair (.sl (.pair (.str) (.pair (.sl (.int .i64)) (.unit)))) (.unit)))],[.val (.pair (.sl (.int .i64)) (.pair (.sl (.pair (.str) (.pair (.sl (.int .i64)) (.unit)))) (.unit))) (Mk.top (.pair (.sl (.int .i64)) (.pair (.sl (.pair (.str) (.pair (.sl (.int .i64)) (.unit)))) (.unit))))]⟩) (⟨[],[]⟩)))) (cond (n.ble 71) (cond (n.beq 71) (⟨[.val (.pair (.sl (.int .i64)) (.pair (.sl (.pair (.str) (.pair (.sl (.int .i64)) (.unit)))) (.unit)))],[.val (.bool) (Mk.top (.bool))]⟩) (⟨[],[]⟩)) (cond (n.ble 72) (cond (n.beq 72) (⟨[.val (.pair (.sl (.int .i64)) (.pair (.sl (.pair (.str) (.pair (.sl (.int .i64)) (.unit)))) (.unit))),.val (.str)],[.val (.sl (.int .i64)) (Mk.top (.sl (.int .i64))),.val (.int .i64) (Mk.top (.int .i64))]⟩) (⟨[],[]⟩)) (cond (n.beq 73) (⟨[.val (.pair (.sl (.int .i64)) (.pair (.sl (.pair (.str) (.pair (.sl (.int .i64)) (.unit)))) (.unit))),.val (.int .i64),.val (.int .i64)],[.val (.int .i64) (Mk.top (.int .i64))]⟩) (⟨[],[]⟩))))) (cond (n.ble 76) (cond (n.ble 74) (cond (n.beq 74) (⟨[.val (.str)],[.val (.int .i64) (Mk.top (.int .i64))]⟩) (⟨[],[]⟩)) (cond (n.ble 75) (cond (n.beq 75) (⟨[.mutp (.pair (.sl (.int .i64)) (.pair (.sl (.pair (.str) (.pair (.sl (.int .i64)) (.unit)))) (.unit))) (Mk.top (.pair (.sl (.int .i64)) (.pair (.sl (.pair (.str) (.pair (.sl (.int .i64)) (.unit)))) (.unit)))) (Mk.top (.pair (.sl (.int .i64)) (.pair (.sl (.pair (.str) (.pair (.sl (.int .i64)) (.unit)))) (.unit)))),.val (.int .i64),.val (.int .i64),.val (.int .i64)],[]⟩) (⟨[],[]⟩)) (cond (n.beq 76) (⟨[.val (.pair (.sl (.int .i64)) (.pair (.sl (.pair (.str) (.pair (.sl (.int .i64)) (.unit)))) (.unit))),.val (.int .i64)],[.val (.sl (.int .i64)) (Mk.top (.sl (.int .i64))),.val (.bool) (Mk.top (.bool))]⟩) (⟨[],[]⟩)))) (cond (n.ble 78) (cond (n.ble 77) (cond (n.beq 77) (⟨[.val (.pair (.sl (.pair (.str) (.pair (.int .i64) (.pair (.bool) (.unit))))) (.pair (.sl (.int .i64)) (.pair (.sl (.pair (.str) (.pair (.sl (.int .i64)) (.pair (.bool) (.unit))))) (.unit)))),.val (.sl (.pair (.int .i64) (.pair (.int .i64) (.pair (.str) (.unit)))))],[.val (.bool) (Mk.top (.bool))]⟩) (⟨[],[]⟩)) (cond (n.beq 78) (⟨[.val (.sl (.pair (.int .i64) (.pair (.int .i64) (.pair (.str) (.unit))))),.val (.sl (.pair (.int .i64) (.pair (.int .i64) (.pair (.str) (.unit)))))],[.val (.bool) (Mk.top (.bool))]⟩) (⟨[],[]⟩))) (cond (n.ble 79) (cond (n.beq 79) (⟨[.val (.sl (.sl (.pair (.int .i64) (.pair (.int .i64) (.pair (.str) (.unit)))))),.fn],[.val (.bool) (Mk.top (.bool))]⟩) (⟨[],[]⟩)) (cond (n.beq 80) (⟨[.val (.sl (.pair (.int .i64) (.pair (.int .i64) (.pair (.str) (.unit))))),.rptr (.pair (.pair (.sl (.pair (.str) (.pair (.int .i64) (.pair (.bool) (.unit))))) (.pair (.sl (.int .i64)) (.pair (.sl (.pair (.str) (.pair (.sl (.int .i64)) (.pair (.bool) (.unit))))) (.unit)))) (.pair (.sl (.sl (.pair (.int .i64) (.pair (.int .i64) (.pair (.str) (.unit)))))) (.unit))),.rptr (.sl (.pair (.int .i64) (.pair (.int .i64) (.pair (.str) (.unit)))))],[.val (.bool) (Mk.top (.bool))]⟩) (⟨[],[]⟩))))))) (cond (n.ble 93) (cond (n.ble 86) (cond (n.ble 83) (cond (n.ble 81) (cond (n.beq 81) (⟨[.val (.pair (.sl (.pair (.str) (.pair (.int .i64) (.pair (.bool) (.unit))))) (.pair (.sl (.int .i64)) (.pair (.sl (.pair (.str) (.pair (.sl (.int .i64)) (.pair (.bool) (.unit))))) (.unit)))),.val (.sl (.pair (.int .i64) (.pair (.int .i64) (.pair (.str) (.unit))))),.val (.sl (.pair (.int .i64) (.pair (.int .i64) (.pair (.str) (.unit)))))],[.val (.bool) (Mk.top (.bool))]⟩) (⟨[],[]⟩)) (cond (n.ble 82) (cond (n.beq 82) (⟨[.val (.pair (.sl (.pair (.str) (.pair (.int .i64) (.pair (.bool) (.unit))))) (.pair (.sl (.int .i64)) (.pair (.sl (.pair (.str) (.pair (.sl (.int .i64)) (.pair (.bool) (.unit))))) (.unit))))],[.val (.bool) (Mk.top (.bool))]⟩) (⟨[],[]⟩)) (cond (n.beq 83) (⟨[.val (.pair (.pair (.sl (.pair (.str) (.pair (.int .i64) (.pair (.bool) (.unit))))) (.pair (.sl (.int .i64)) (.pair (.sl (.pair (.str) (.pair (.sl (.int .i64)) (.pair (.bool) (.unit))))) (.unit)))) (.pair (.sl (.sl (.pair (.int .i64) (.pair (.int .i64) (.pair (.str) (.unit)))))) (.unit)))],[.val (.pair (.pair (.sl (.pair (.str) (.pair (.int .i64) (.pair (.bool) (.unit))))) (.pair (.sl (.int .i64)) (.pair (.sl (.pair (.str) (.pair (.sl (.int .i64)) (.pair (.bool) (.unit))))) (.unit)))) (.pair (.sl (.sl (.pair (.int .i64) (.pair (.int .i64) (.pair (.str) (.unit)))))) (.unit))) (Mk.top (.pair (.pair (.sl (.pair (.str) (.pair (.int .i64) (.pair (.bool) (.unit))))) (.pair (.sl (.int .i64)) (.pair (.sl (.pair (.str) (.pair (.sl (.int .i64)) (.pair (.bool) (.unit))))) (.unit)))) (.pair (.sl (.sl (.pair (.int .i64) (.pair (.int .i64) (.pair (.str) (.unit)))))) (.unit))))]⟩) (⟨[],[]⟩)))) (cond (n.ble 84) (cond (n.beq 84) (⟨[.val (.pair (.pair (.sl (.pair (.str) (.pair (.int .i64) (.pair (.bool) (.unit))))) (.pair (.sl (.int .i64)) (.pair (.sl (.pair (.str) (.pair (.sl (.int .i64)) (.pair (.bool) (.unit))))) (.unit)))) (.pair (.sl (.sl (.pair (.int .i64) (.pair (.int .i64) (.pair (.str) (.unit)))))) (.unit))),.val (.sl (.pair (.int .i64) (.pair (.int .i64) (.pair (.str) (.unit)))))],[.val (.int .i64) (Mk.top (.int .i64))]⟩) (⟨[],[]⟩)) (cond (n.ble 85) (cond (n.beq 85) (⟨[.val (.sl (.pair (.int .i64) (.pair (.int .i64) (.pair (.str) (.unit))))),.rptr (.pair (.pair (.sl (.pair (.str) (.pair (.int .i64) (.pair (.bool) (.unit))))) (.pair (.sl (.int .i64)) (.pair (.sl (.pair (.str) (.pair (.sl (.int .i64)) (.pair (.bool) (.unit))))) (.unit)))) (.pair (.sl (.sl (.pair (.int .i64) (.pair (.int .i64) (.pair (.str) (.unit)))))) (.unit))),.rptr (.sl (.pair (.int .i64) (.pair (.int .i64) (.pair (.str) (.unit)))))],[.val (.bool) (Mk.top (.bool))]⟩) (⟨[],[]⟩)) (cond (n.beq 86) (⟨[.val (.sl (.sl (.pair (.int .i64) (.pair (.int .i64) (.pair (.str) (.unit)))))),.fn],[.val (.int .i64) (Mk.top (.int .i64))]⟩) (⟨[],[]⟩))))) (cond (n.ble 89) (cond (n.ble 87) (cond (n.beq 87) (⟨[.val (.sl (.pair (.int .i64) (.pair (.int .i64) (.pair (.str) (.unit))))),.rptr (.sl (.pair (.int .i64) (.pair (.int .i64) (.pair (.str) (.unit))))),.rptr (.pair (.pair (.sl (.pair (.str) (.pair (.int .i64) (.pair (.bool) (.unit))))) (.pair (.sl (.int .i64)) (.pair (.sl (.pair (.str) (.pair (.sl (.int .i64)) (.pair (.bool) (.unit))))) (.unit)))) (.pair (.sl (.sl (.pair (.int .i64) (.pair (.int .i64) (.pair (.str) (.unit)))))) (.unit)))],[.val (.bool) (Mk.top (.bool))]⟩) (⟨[],[]⟩)) (cond (n.ble 88) (cond (n.beq 88) (⟨[.own (.sl (.sl (.pair (.int .i64) (.pair (.int .i64) (.pair (.str) (.unit)))))) (Mk.top (.sl (.sl (.pair (.int .i64) (.pair (.int .i64) (.pair (.str) (.unit))))))),.val (.int .i64),.own (.sl (.sl (.pair (.int .i64) (.pair (.int .i64) (.pair (.str) (.unit)))))) (Mk.top (.sl (.sl (.pair (.int .i64) (.pair (.int .i64) (.pair (.str) (.unit)))))))],[.val (.sl (.sl (.pair (.int .i64) (.pair (.int .i64) (.pair (.str) (.unit)))))) (Mk.top (.sl (.sl (.pair (.int .i64) (.pair (.int .i64) (.pair (.str) (.unit)))))))]⟩) (⟨[],[]⟩)) (cond (n.beq 89) (⟨[.val (.sl (.pair (.int .i64) (.pair (.int .i64) (.pair (.str) (.unit)))))],[.val (.sl (.pair (.int .i64) (.pair (.int .i64) (.pair (.str) (.unit))))) (Mk.top (.sl (.pair (.int .i64) (.pair (.int .i64) (.pair (.str) (.unit))))))]⟩) (⟨[],[]⟩)))) (cond (n.ble 91) (cond (n.ble 90) (cond (n.beq 90) (⟨[.val (.sl (.pair (.str) (.pair (.str) (.unit))))],[.val (.sl (.pair (.str) (.pair (.str) (.unit)))) (Mk.top (.sl (.pair (.str) (.pair (.str) (.unit)))))]⟩) (⟨[],[]⟩)) (cond (n.beq 91) (⟨[.val (.sl (.pair (.str) (.pair (.str) (.unit)))),.fn],[.val (.int .i64) (Mk.top (.int .i64))]⟩) (⟨[],[]⟩))) (cond (n.ble 92) (cond (n.beq 92) (⟨[.val (.pair (.str) (.pair (.str) (.unit))),.rptr (.pair (.str) (.pair (.str) (.unit)))],[.val (.bool) (Mk.top (.bool))]⟩) (⟨[],[]⟩)) (cond (n.beq 93) (⟨[.own (.sl (.pair (.str) (.pair (.str) (.unit)))) (Mk.top (.sl (.pair (.str) (.pair (.str) (.unit))))),.val (.int .i64),.own (.sl (.pair (.str) (.pair (.str) (.unit)))) (Mk.top (.sl (.pair (.str) (.pair (.str) (.unit)))))],[.val (.sl (.pair (.str) (.pair (.str) (.unit)))) (Mk.top (.sl (.pair (.str) (.pair (.str) (.unit)))))]⟩) (⟨[],[]⟩)))))) (cond (n.ble 99) (cond (n.ble 96) (cond (n.ble 94) (cond (n.beq 94) (⟨[.val (.sl (.pair (.int .i64) (.pair (.int .i64) (.pair (.str) (.unit))))),.val (.sl (.int .i64))],[.val (.sl (.pair (.int .i64) (.pair (.int .i64) (.pair (.str) (.unit))))) (Mk.top (.sl (.pair (.int .i64) (.pair (.int .i64) (.pair (.str) (.unit))))))]⟩) (⟨[],[]⟩)) (cond (n.ble 95) (cond (n.beq 95) (⟨[.own (.sl (.sl (.pair (.int .i64) (.pair (.int .i64) (.pair (.str) (.unit)))))) (Mk.top (.sl (.sl (.pair (.int .i64) (.pair (.int .i64) (.pair (.str) (.unit))))))),.val (.int .i64),.val (.int .i64)],[.val (.sl (.sl (.pair (.int .i64) (.pair (.int .i64) (.pair (.str) (.unit)))))) (Mk.top (.sl (.sl (.pair (.int .i64) (.pair (.int .i64) (.pair (.str) (.unit)))))))]⟩) (⟨[],[]⟩)) (cond (n.beq 96) (⟨[.own (.sl (.pair (.str) (.pair (.str) (.unit)))) (Mk.top (.sl (.pair (.str) (.pair (.str) (.unit))))),.fn],[.val (.sl (.pair (.str) (.pair (.str) (.unit)))) (Mk.top (.sl (.pair (.str) (.pair (.str) (.unit)))))]⟩) (⟨[],[]⟩)))) (cond (n.ble 97) (cond (n.beq 97) (⟨[.val (.pair (.str) (.pair (.str) (.unit))),.rptr (.pair (.str) (.pair (.str) (.unit)))],[.val (.bool) (Mk.top (.bool))]⟩) (⟨[],[]⟩)) (cond (n.ble 98) (cond (n.beq 98) (⟨[.mutp (.pair (.sl (.int .u8)) (.pair (.int .i64) (.pair (.int .i64) (.unit)))) (.no) (.no)],[.val (.pair (.pair (.sl (.pair (.str) (.pair (.int .i64) (.pair (.bool) (.unit))))) (.pair (.sl (.int .i64)) (.pair (.sl (.pair (.str) (.pair (.sl (.int .i64)) (.pair (.bool) (.unit))))) (.unit)))) (.pair (.sl (.sl (.pair (.int .i64) (.pair (.int .i64) (.pair (.str) (.unit)))))) (.unit))) (Mk.no)]⟩) (⟨[],[]⟩)) (cond (n.beq 99) (⟨[.val (.pair (.pair (.sl (.pair (.str) (.pair (.int .i64) (.pair (.bool) (.unit))))) (.pair (.sl (.int .i64)) (.pair (.sl (.pair (.str) (.pair (.sl (.int .i64)) (.pair (.bool) (.unit))))) (.unit)))) (.pair (.sl (.sl (.pair (.int .i64) (.pair (.int .i64) (.pair (.str) (.unit)))))) (.unit)))],[.val (.pair (.pair (.sl (.pair (.str) (.pair (.int .i64) (.pair (.bool) (.unit))))) (.pair (.sl (.int .i64)) (.pair (.sl (.pair (.str) (.pair (.sl (.int .i64)) (.pair (.bool) (.unit))))) (.unit)))) (.pair (.sl (.sl (.pair (.int .i64) (.pair (.int .i64) (.pair (.str) (.unit)))))) (.unit))) (Mk.top (.pair (.pair (.sl (.pair (.str) (.pair (.int .i64) (.pair (.bool) (.unit))))) (.pair (.sl (.int .i64)) (.pair (.sl (.pair (.str) (.pair (.sl (.int .i64)) (.pair (.bool) (.unit))))) (.unit)))) (.pair (.sl (.sl (.pair (.int .i64) (.pair (.int .i64) (.pair (.str) (.unit)))))) (.unit))))]⟩) (⟨[],[]⟩))))) (cond (n.ble 102) (cond (n.ble 100) (cond (n.beq 100) (⟨[.val (.pair (.sl (.pair (.str) (.pair (.int .i64) (.pair (.bool) (.unit))))) (.pair (.sl (.int .i64)) (.pair (.sl (.pair (.str) (.pair (.sl (.int .i64)) (.pair (.bool) (.unit))))) (.unit)))),.val (.sl (.pair (.int .i64) (.pair (.int .i64) (.pair (.str) (.unit)))))],[.val (.bool) (Mk.top (.bool))]⟩) (⟨[],[]⟩)) (cond (n.ble 101) (cond (n.beq 101) (⟨[.val (.pair (.pair (.sl (.pair (.str) (.pair (.int .i64) (.pair (.bool) (.unit))))) (.pair (.sl (.int .i64)) (.pair (.sl (.pair (.str) (.pair (.sl (.int .i64)) (.pair (.bool) (.unit))))) (.unit)))) (.pair (.sl (.sl (.pair (.int .i64) (.pair (.int .i64) (.pair (.str) (.unit)))))) (.unit))),.val (.sl (.pair (.int .i64) (.pair (.int .i64) (.pair (.str) (.unit)))))],[.val (.int .i64) (Mk.top (.int .i64))]⟩) (⟨[],[]⟩)) (cond (n.beq 102) (⟨[.val (.pair (.sl (.pair (.str) (.pair (.int .i64) (.pair (.bool) (.unit))))) (.pair (.sl (.int .i64)) (.pair (.sl (.pair (.str) (.pair (.sl (.int .i64)) (.pair (.bool) (.unit))))) (.unit)))),.val (.sl (.pair (.int .i64) (.pair (.int .i64) (.pair (.str) (.unit)))))],[.val (.sl (.pair (.int .i64) (.pair (.int .i64) (.pair (.str) (.unit))))) (Mk.top (.sl (.pair (.int .i64) (.pair (.int .i64) (.pair (.str) (.unit))))))]⟩) (⟨[],[]⟩)))) (cond (n.ble 104) (cond (n.ble 103) (cond (n.beq 103) (⟨[.val (.pair (.pair (.sl (.pair (.str) (.pair (.int .i64) (.pair (.bool) (.unit))))) (.pair (.sl (.int .i64)) (.pair (.sl (.pair (.str) (.pair (.sl (.int .i64)) (.pair (.bool) (.unit))))) (.unit)))) (.pair (.sl (.sl (.pair (.int .i64) (.pair (.int .i64) (.pair (.str) (.unit)))))) (.unit))),.val (.sl (.pair (.int .i64) (.pair (.int .i64) (.pair (.str) (.unit))))),.val (.int .i64)],[.val (.bool) (Mk.top (.bool))]⟩) (⟨[],[]⟩)) (cond (n.beq 104) (⟨[.val (.sl (.pair (.int .i64) (.pair (.int .i64) (.pair (.str) (.unit))))),.val (.sl (.pair (.int .i64) (.pair (.int .i64) (.pair (.str) (.unit)))))],[.val (.bool) (Mk.top (.bool))]⟩) (⟨[],[]⟩))) (cond (n.ble 105) (cond (n.beq 105) (⟨[.val (.sl (.sl (.pair (.int .i64) (.pair (.int .i64) (.pair (.str) (.unit))))))],[.val (.sl (.sl (.pair (.int .i64) (.pair (.int .i64) (.pair (.str) (.unit)))))) (Mk.top (.sl (.sl (.pair (.int .i64) (.pair (.int .i64) (.pair (.str) (.unit)))))))]⟩) (⟨[],[]⟩)) (cond (n.beq 106) (⟨[.mutp (.pair (.sl (.int .u8)) (.pair (.int .i64) (.pair (.int .i64) (.unit)))) (.no) (.no)],[.val (.pair (.sl (.pair (.str) (.pair (.int .i64) (.pair (.bool) (.unit))))) (.pair (.sl (.int .i64)) (.pair (.sl (.pair (.str) (.pair (.sl (.int .i64)) (.pair (.bool) (.unit))))) (.unit)))) (Mk.no)]⟩) (⟨[],[]⟩))))))))) (cond (n.ble 160) (cond (n.ble 132) (cond (n.ble 119) (cond (n.ble 112) (cond (n.ble 109) (cond (n.ble 107) (cond (n.beq 107) (⟨[.val (.pair (.sl (.pair (.str) (.pair (.int .i64) (.pair (.bool) (.unit))))) (.pair (.sl (.int .i64)) (.pair (.sl (.pair (.str) (.pair (.sl (.int .i64)) (.pair (.bool) (.unit))))) (.unit))))],[.val (.pair (.sl (.pair (.str) (.pair (.int .i64) (.pair (.bool) (.unit))))) (.pair (.sl (.int .i64)) (.pair (.sl (.pair (.str) (.pair (.sl (.int .i64)) (.pair (.bool) (.unit))))) (.unit)))) (Mk.top (.pair (.sl (.pair (.str) (.pair (.int .i64) (.pair (.bool) (.unit))))) (.pair (.sl (.int .i64)) (.pair (.sl (.pair (.str) (.pair (.sl (.int .i64)) (.pair (.bool) (.unit))))) (.unit)))))]⟩) (⟨[],[]⟩)) (cond (n.ble 108) (cond (n.beq 108) (⟨[.val (.pair (.sl (.pair (.str) (.pair (.int .i64) (.pair (.bool) (.unit))))) (.pair (.sl (.int .i64)) (.pair (.sl (.pair (.str) (.pair (.sl (.int .i64)) (.pair (.bool) (.unit))))) (.unit))))],[.val (.pair (.sl (.pair (.str) (.pair (.int .i64) (.pair (.bool) (.unit))))) (.pair (.sl (.int .i64)) (.pair (.sl (.pair (.str) (.pair (.sl (.int .i64)) (.pair (.bool) (.unit))))) (.unit)))) (Mk.top (.pair (.sl (.pair (.str) (.pair (.int .i64) (.pair (.bool) (.unit))))) (.pair (.sl (.int .i64)) (.pair (.sl (.pair (.str) (.pair (.sl (.int .i64)) (.pair (.bool) (.unit))))) (.unit)))))]⟩) (⟨[],[]⟩)) (cond (n.beq 109) (⟨[.val (.sl (.sl (.pair (.int .i64) (.pair (.int .i64) (.pair (.str) (.unit)))))),.val (.sl (.sl (.pair (.int .i64) (.pair (.int .i64) (.pair (.str) (.unit))))))],[.val (.bool) (Mk.top (.bool))]⟩) (⟨[],[]⟩)))) (cond (n.ble 110) (cond (n.beq 110) (⟨[.val (.sl (.int .i64)),.val (.sl (.int .i64))],[.val (.bool) (Mk.top (.bool))]⟩) (⟨[],[]⟩)) (cond (n.ble 111) (cond (n.beq 111) (⟨[.val (.pair (.sl (.pair (.str) (.pair (.int .i64) (.pair (.bool) (.unit))))) (.pair (.sl (.int .i64)) (.pair (.sl (.pair (.str) (.pair (.sl (.int .i64)) (.pair (.bool) (.unit))))) (.unit)))),.val (.sl (.pair (.int .i64) (.pair (.int .i64) (.pair (.str) (.unit))))),.val (.sl (.pair (.int .i64) (.pair (.int .i64) (.pair (.str) (.unit)))))],[.val (.bool) (Mk.top (.bool))]⟩) (⟨[],[]⟩)) (cond (n.beq 112) (⟨[.val (.pair (.sl (.pair (.str) (.pair (.int .i64) (.pair (.bool) (.unit))))) (.pair (.sl (.int .i64)) (.pair (.sl (.pair (.str) (.pair (.sl (.int .i64)) (.pair (.bool) (.unit))))) (.unit))))],[.val (.bool) (Mk.top (.bool))]⟩) (⟨[],[]⟩))))) (cond (n.ble 115) (cond (n.ble 113) (cond (n.beq 113) (⟨[.mutp (.pair (.sl (.int .u8)) (.pair (.int .i64) (.pair (.int .i64) (.unit)))) (.no) (.no)],[.val (.sl (.pair (.str) (.pair (.str) (.unit)))) (Mk.top (.sl (.pair (.str) (.pair (.str) (.unit)))))]⟩) (⟨[],[]⟩)) (cond (n.ble 114) (cond (n.beq 114) (⟨[.mutp (.pair (.sl (.int .u8)) (.pair (.int .i64) (.pair (.int .i64) (.unit)))) (.no) (.no),.val (.int .i64)],[.val (.bool) (Mk.top (.bool))]⟩) (⟨[],[]⟩)) (cond (n.beq 115) (⟨[.mutp (.pair (.sl (.int .u8)) (.pair (.int .i64) (.pair (.int .i64) (.unit)))) (.no) (.no),.val (.int .i64)],[.val (.int .i64) (Mk.top (.int .i64))]⟩) (⟨[],[]⟩)))) (cond (n.ble 117) (cond (n.ble 116) (cond (n.beq 116) (⟨[.mutp (.pair (.sl (.int .u8)) (.pair (.int .i64) (.pair (.int .i64) (.unit)))) (.no) (.no)],[.val (.pair (.str) (.pair (.str) (.unit))) (Mk.top (.pair (.str) (.pair (.str) (.unit))))]⟩) (⟨[],[]⟩)) (cond (n.beq 117) (⟨[.val (.int .i64),.val (.int .i64),.val (.int .i64)],[.val (.bool) (Mk.top (.bool))]⟩) (⟨[],[]⟩))) (cond (n.ble 118) (cond (n.beq 118) (⟨[.val (.sl (.pair (.int .i64) (.pair (.int .i64) (.pair (.str) (.unit)))))],[.val (.sl (.int .u8)) (Mk.top (.sl (.int .u8)))]⟩) (⟨[],[]⟩)) (cond (n.beq 119) (⟨[.val (.sl (.pair (.int .i64) (.pair (.int .i64) (.pair (.str) (.unit))))),.val (.sl (.int .i64))],[.val (.sl (.pair (.int .i64) (.pair (.int .i64) (.pair (.str) (.unit))))) (Mk.top (.sl (.pair (.int .i64) (.pair (.int .i64) (.pair (.str) (.unit))))))]⟩) (⟨[],[]⟩)))))) (cond (n.ble 125) (cond (n.ble 122) (cond (n.ble 120) (cond (n.beq 120) (⟨[.val (.pair (.sl (.pair (.str) (.pair (.int .i64) (.pair (.bool) (.unit))))) (.pair (.sl (.int .i64)) (.pair (.sl (.pair (.str) (.pair (.sl (.int .i64)) (.pair (.bool) (.unit))))) (.unit)))),.val (.int .i64)],[.val (.int .i64) (Mk.top (.int .i64))]⟩) (⟨[],[]⟩)) (cond (n.ble 121) (cond (n.beq 121) (⟨[.val (.sl (.sl (.pair (.int .i64) (.pair (.int .i64) (.pair (.str) (.unit)))))),.val (.int .i64)],[.val (.int .i64) (Mk.top (.int .i64))]⟩) (⟨[],[]⟩)) (cond (n.beq 122) (⟨[.val (.pair (.int .i64) (.pair (.int .i64) (.pair (.str) (.unit)))),.val (.int .i64)],[.val (.int .i64) (Mk.top (.int .i64))]⟩) (⟨[],[]⟩)))) (cond (n.ble 123) (cond (n.beq 123) (⟨[.val (.pair (.sl (.pair (.str) (.pair (.int .i64) (.pair (.bool) (.unit))))) (.pair (.sl (.int .i64)) (.pair (.sl (.pair (.str) (.pair (.sl (.int .i64)) (.pair (.bool) (.unit))))) (.unit))))],[.val (.pair (.sl (.pair (.str) (.pair (.int .i64) (.pair (.bool) (.unit))))) (.pair (.sl (.int .i64)) (.pair (.sl (.pair (.str) (.pair (.sl (.int .i64)) (.pair (.bool) (.unit))))) (.unit)))) (Mk.top (.pair (.sl (.pair (.str) (.pair (.int .i64) (.pair (.bool) (.unit))))) (.pair (.sl (.int .i64)) (.pair (.sl (.pair (.str) (.pair (.sl (.int .i64)) (.pair (.bool) (.unit))))) (.unit)))))]⟩) (⟨[],[]⟩)) (cond (n.ble 124) (cond (n.beq 124) (⟨[.val (.sl (.sl (.pair (.int .i64) (.pair (.int .i64) (.pair (.str) (.unit))))))],[.val (.sl (.sl (.pair (.int .i64) (.pair (.int .i64) (.pair (.str) (.unit)))))) (Mk.top (.sl (.sl (.pair (.int .i64) (.pair (.int .i64) (.pair (.str) (.unit)))))))]⟩) (⟨[],[]⟩)) (cond (n.beq 125) (⟨[.val (.pair (.int .i64) (.pair (.int .i64) (.pair (.str) (.unit))))],[.val (.pair (.int .i64) (.pair (.int .i64) (.pair (.str) (.unit)))) (Mk.top (.pair (.int .i64) (.pair (.int .i64) (.pair (.str) (.unit)))))]⟩) (⟨[],[]⟩))))) (cond (n.ble 128) (cond (n.ble 126) (cond (n.beq 126) (⟨[.val (.pair (.sl (.pair (.str) (.pair (.int .i64) (.pair (.bool) (.unit))))) (.pair (.sl (.int .i64)) (.pair (.sl (.pair (.str) (.pair (.sl (.int .i64)) (.pair (.bool) (.unit))))) (.unit)))),.val (.pair (.sl (.pair (.str) (.pair (.int .i64) (.pair (.bool) (.unit))))) (.pair (.sl (.int .i64)) (.pair (.sl (.pair (.str) (.pair (.sl (.int .i64)) (.pair (.bool) (.unit))))) (.unit))))],[.val (.bool) (Mk.top (.bool))]⟩) (⟨[],[]⟩)) (cond (n.ble 127) (cond (n.beq 127) (⟨[.val (.sl (.sl (.pair (.int .i64) (.pair (.int .i64) (.pair (.str) (.unit)))))),.val (.sl (.sl (.pair (.int .i64) (.pair (.int .i64) (.pair (.str) (.unit))))))],[.val (.bool) (Mk.top (.bool))]⟩) (⟨[],[]⟩)) (cond (n.beq 128) (⟨[.val (.pair (.int .i64) (.pair (.int .i64) (.pair (.str) (.unit)))),.val (.pair (.int .i64) (.pair (.int .i64) (.pair (.str) (.unit))))],[.val (.bool) (Mk.top (.bool))]⟩) (⟨[],[]⟩)))) (cond (n.ble 130) (cond (n.ble 129) (cond (n.beq 129) (⟨[.mutv (.pair (.sl (.pair (.str) (.pair (.int .i64) (.pair (.bool) (.unit))))) (.pair (.sl (.int .i64)) (.pair (.sl (.pair (.str) (.pair (.sl (.int .i64)) (.pair (.bool) (.unit))))) (.unit)))) (Mk.top (.pair (.sl (.pair (.str) (.pair (.int .i64) (.pair (.bool) (.unit))))) (.pair (.sl (.int .i64)) (.pair (.sl (.pair (.str) (.pair (.sl (.int .i64)) (.pair (.bool) (.unit))))) (.unit))))) (Mk.top (.pair (.sl (.pair (.str) (.pair (.int .i64) (.pair (.bool) (.unit))))) (.pair (.sl (.int .i64)) (.pair (.sl (.pair (.str) (.pair (.sl (.int .i64)) (.pair (.bool) (.unit))))) (.unit))))),.val (.int .i64)],[.val (.int .i64) (Mk.top (.int .i64))]⟩) (⟨[],[]⟩)) (cond (n.beq 130) (⟨[.mutv (.sl (.sl (.pair (.int .i64) (.pair (.int .i64) (.pair (.str) (.unit)))))) (Mk.top (.sl (.sl (.pair (.int .i64) (.pair (.int .i64) (.pair (.str) (.unit))))))) (Mk.top (.sl (.sl (.pair (.int .i64) (.pair (.int .i64) (.pair (.str) (.unit))))))),.val (.int .i64)],[.val (.int .i64) (Mk.top (.int .i64))]⟩) (⟨[],[]⟩))) (cond (n.ble 131) (cond (n.beq 131) (⟨[.val (.int .i64)],[.val (.str) (Mk.top (.str))]⟩) (⟨[],[]⟩)) (cond (n.beq 132) (⟨[.val (.pair (.sl (.pair (.str) (.pair (.int .i64) (.pair (.bool) (.unit))))) (.pair (.sl (.int .i64)) (.pair (.sl (.pair (.str) (.pair (.sl (.int .i64)) (.pair (.bool) (.unit))))) (.unit)))),.val (.int .i64)],[.val (.int .i64) (Mk.top (.int .i64))]⟩) (⟨[],[]⟩))))))) (cond (n.ble 145) (cond (n.ble 138) (cond (n.ble 135) (cond (n.ble 133) (cond (n.beq 133) (⟨[.val (.sl (.sl (.pair (.int .i64) (.pair (.int .i64) (.pair (.str) (.unit)))))),.val (.int .i64)],[.val (.int .i64) (Mk.top (.int .i64))]⟩) (⟨[],[]⟩)) (cond (n.ble 134) (cond (n.beq 134) (⟨[.val (.pair (.str) (.pair (.str) (.unit))),.val (.pair (.str) (.pair (.str) (.unit)))],[.val (.bool) (Mk.top (.bool))]⟩) (⟨[],[]⟩)) (cond (n.beq 135) (⟨[.mutp (.pair (.sl (.int .u8)) (.pair (.int .i64) (.pair (.int .i64) (.unit)))) (.no) (.no)],[.val (.pair (.sl (.pair (.str) (.pair (.int .i64) (.pair (.bool) (.unit))))) (.pair (.sl (.int .i64)) (.pair (.sl (.pair (.str) (.pair (.sl (.int .i64)) (.pair (.bool) (.unit))))) (.unit)))) (Mk.top (.pair (.sl (.pair (.str) (.pair (.int .i64) (.pair (.bool) (.unit))))) (.pair (.sl (.int .i64)) (.pair (.sl (.pair (.str) (.pair (.sl (.int .i64)) (.pair (.bool) (.unit))))) (.unit)))))]⟩) (⟨[],[]⟩)))) (cond (n.ble 136) (cond (n.beq 136) (⟨[.mutp (.pair (.sl (.int .u8)) (.pair (.int .i64) (.pair (.int .i64) (.unit)))) (.no) (.no),.val (.pair (.sl (.pair (.str) (.pair (.int .i64) (.pair (.bool) (.unit))))) (.pair (.sl (.int .i64)) (.pair (.sl (.pair (.str) (.pair (.sl (.int .i64)) (.pair (.bool) (.unit))))) (.unit))))],[.val (.sl (.pair (.int .i64) (.pair (.int .i64) (.pair (.str) (.unit))))) (Mk.top (.sl (.pair (.int .i64) (.pair (.int .i64) (.pair (.str) (.unit))))))]⟩) (⟨[],[]⟩)) (cond (n.ble 137) (cond (n.beq 137) (⟨[.val (.sl (.pair (.int .i64) (.pair (.int .i64) (.pair (.str) (.unit)))))],[.val (.sl (.int .u8)) (Mk.top (.sl (.int .u8)))]⟩) (⟨[],[]⟩)) (cond (n.beq 138) (⟨[.val (.sl (.int .i64))],[.val (.sl (.int .i64)) (Mk.top (.sl (.int .i64)))]⟩) (⟨[],[]⟩))))) (cond (n.ble 141) (cond (n.ble 139) (cond (n.beq 139) (⟨[.val (.pair (.int .i64) (.pair (.int .i64) (.pair (.str) (.unit))))],[.val (.bool) (Mk.top (.bool))]⟩) (⟨[],[]⟩)) (cond (n.ble 140) (cond (n.beq 140) (⟨[.val (.sl (.pair (.int .i64) (.pair (.int .i64) (.pair (.str) (.unit))))),.val (.sl (.pair (.int .i64) (.pair (.int .i64) (.pair (.str) (.unit))))),.fn],[.val (.int .i64) (Mk.top (.int .i64))]⟩) (⟨[],[]⟩)) (cond (n.beq 141) (⟨[.val (.pair (.int .i64) (.pair (.int .i64) (.pair (.str) (.unit)))),.val (.pair (.int .i64) (.pair (.int .i64) (.pair (.str) (.unit))))],[.val (.int .i64) (Mk.top (.int .i64))]⟩) (⟨[],[]⟩)))) (cond (n.ble 143) (cond (n.ble 142) (cond (n.beq 142) (⟨[.val (.sl (.pair (.str) (.pair (.sl (.int .i64)) (.pair (.bool) (.unit))))),.fn],[.val (.bool) (Mk.top (.bool))]⟩) (⟨[],[]⟩)) (cond (n.beq 143) (⟨[.val (.pair (.str) (.pair (.sl (.int .i64)) (.pair (.bool) (.unit)))),.rptr (.sl (.pair (.int .i64) (.pair (.int .i64) (.pair (.str) (.unit))))),.rptr (.sl (.pair (.int .i64) (.pair (.int .i64) (.pair (.str) (.unit)))))],[.val (.bool) (Mk.top (.bool))]⟩) (⟨[],[]⟩))) (cond (n.ble 144) (cond (n.beq 144) (⟨[.val (.sl (.pair (.int .i64) (.pair (.int .i64) (.pair (.str) (.unit))))),.val (.pair (.int .i64) (.pair (.int .i64) (.pair (.str) (.unit))))],[.val (.bool) (Mk.top (.bool))]⟩) (⟨[],[]⟩)) (cond (n.beq 145) (⟨[.val (.sl (.pair (.int .i64) (.pair (.int .i64) (.pair (.str) (.unit))))),.val (.sl (.pair (.int .i64) (.pair (.int .i64) (.pair (.str) (.unit)))))],[.val (.bool) (Mk.top (.bool))]⟩) (⟨[],[]⟩)))))) (cond (n.ble 151) (cond (n.ble 148) (cond (n.ble 146) (cond (n.beq 146) (⟨[.val (.str)],[.val (.bool) (Mk.top (.bool))]⟩) (⟨[],[]⟩)) (cond (n.ble 147) (cond (n.beq 147) (⟨[.val (.pair (.sl (.pair (.str) (.pair (.int .i64) (.pair (.bool) (.unit))))) (.pair (.sl (.int .i64)) (.pair (.sl (.pair (.str) (.pair (.sl (.int .i64)) (.pair (.bool) (.unit))))) (.unit)))),.val (.str)],[.val (.int .i64) (Mk.top (.int .i64))]⟩) (⟨[],[]⟩)) (cond (n.beq 148) (⟨[.val (.pair (.sl (.pair (.str) (.pair (.int .i64) (.pair (.bool) (.unit))))) (.pair (.sl (.int .i64)) (.pair (.sl (.pair (.str) (.pair (.sl (.int .i64)) (.pair (.bool) (.unit))))) (.unit)))),.val (.sl (.int .i64)),.val (.int .i64)],[.val (.bool) (Mk.top (.bool))]⟩) (⟨[],[]⟩)))) (cond (n.ble 149) (cond (n.beq 149) (⟨[.val (.pair (.str) (.pair (.sl (.int .i64)) (.pair (.bool) (.unit)))),.rptr (.pair (.str) (.pair (.sl (.int .i64)) (.pair (.bool) (.unit))))],[.val (.bool) (Mk.top (.bool))]⟩) (⟨[],[]⟩)) (cond (n.ble 150) (cond (n.beq 150) (⟨[.val (.sl (.int .i64)),.fn],[.val (.bool) (Mk.top (.bool))]⟩) (⟨[],[]⟩)) (cond (n.beq 151) (⟨[.val (.int .i64),.rptr (.pair (.sl (.pair (.str) (.pair (.int .i64) (.pair (.bool) (.unit))))) (.pair (.sl (.int .i64)) (.pair (.sl (.pair (.str) (.pair (.sl (.int .i64)) (.pair (.bool) (.unit))))) (.unit))))],[.val (.bool) (Mk.top (.bool))]⟩) (⟨[],[]⟩))))) (cond (n.ble 155) (cond (n.ble 152) (cond (n.beq 152) (⟨[.val (.sl (.sl (.pair (.int .i64) (.pair (.int .i64) (.pair (.str) (.unit))))))],[.val (.sl (.sl (.pair (.int .i64) (.pair (.int .i64) (.pair (.str) (.unit)))))) (Mk.top (.sl (.sl (.pair (.int .i64) (.pair (.int .i64) (.pair (.str) (.unit)))))))]⟩) (⟨[],[]⟩)) (cond (n.ble 153) (cond (n.beq 153) (⟨[.val (.sl (.pair (.int .i64) (.pair (.int .i64) (.pair (.str) (.unit))))),.rptr (.pair (.pair (.sl (.pair (.str) (.pair (.int .i64) (.pair (.bool) (.unit))))) (.pair (.sl (.int .i64)) (.pair (.sl (.pair (.str) (.pair (.sl (.int .i64)) (.pair (.bool) (.unit))))) (.unit)))) (.pair (.sl (.sl (.pair (.int .i64) (.pair (.int .i64) (.pair (.str) (.unit)))))) (.unit))),.rptr (.sl (.pair (.int .i64) (.pair (.int .i64) (.pair (.str) (.unit)))))],[.val (.bool) (Mk.top (.bool))]⟩) (⟨[],[]⟩)) (cond (n.beq 155) (⟨[.val (.sl (.sl (.pair (.int .i64) (.pair (.int .i64) (.pair (.str) (.unit)))))),.val (.int .i64)],[]⟩) (⟨[],[]⟩)))) (cond (n.ble 158) (cond (n.ble 157) (cond (n.beq 157) (⟨[.val (.sl (.pair (.str) (.pair (.str) (.unit)))),.val (.int .i64)],[]⟩) (⟨[],[]⟩)) (cond (n.beq 158) (⟨[.val (.pair (.int .i64) (.pair (.int .i64) (.pair (.str) (.unit))))],[.val (.bool) (Mk.top (.bool))]⟩) (⟨[],[]⟩))) (cond (n.ble 159) (cond (n.beq 159) (⟨[.val (.sl (.pair (.int .i64) (.pair (.int .i64) (.pair (.str) (.unit))))),.val (.sl (.pair (.int .i64) (.pair (.int .i64) (.pair (.str) (.unit)))))],[.val (.bool) (Mk.top (.bool))]⟩) (⟨[],[]⟩)) (cond (n.beq 160) (⟨[.val (.pair (.int .i64) (.pair (.int .i64) (.pair (.str) (.unit)))),.val (.pair (.int .i64) (.pair (.int .i64) (.pair (.str) (.unit))))],[.val (.bool) (Mk.top (.bool))]⟩) (⟨[],[]⟩)))))))) (cond (n.ble 186) (cond (n.ble 173) (cond (n.ble 166) (cond (n.ble 163) (cond (n.ble 161) (cond (n.beq 161) (⟨[.val (.pair (.int .i64) (.pair (.int .i64) (.pair (.str) (.unit)))),.val (.pair (.int .i64) (.pair (.int .i64) (.pair (.str) (.unit))))],[.val (.bool) (Mk.top (.bool))]⟩) (⟨[],[]⟩)) (cond (n.ble 162) (cond (n.beq 162) (⟨[.mutp (.pair (.sl (.int .u8)) (.pair (.int .i64) (.pair (.int .i64) (.unit)))) (.no) (.no),.val (.sl (.str))],[.val (.str) (Mk.top (.str))]⟩) (⟨[],[]⟩)) (cond (n.beq 163) (⟨[.mutp (.pair (.sl (.int .u8)) (.pair (.int .i64) (.pair (.int .i64) (.unit)))) (.no) (.no),.val (.sl (.int .i64))],[.val (.int .i64) (Mk.top (.int .i64))]⟩) (⟨[],[]⟩)))) (cond (n.ble 164) (cond (n.beq 164) (⟨[.val (.sl (.pair (.str) (.pair (.int .i64) (.pair (.bool) (.unit)))))],[.val (.sl (.pair (.str) (.pair (.int .i64) (.pair (.bool) (.unit))))) (Mk.top (.sl (.pair (.str) (.pair (.int .i64) (.pair (.bool) (.unit))))))]⟩) (⟨[],[]⟩)) (cond (n.ble 165) (cond (n.beq 165) (⟨[.val (.sl (.pair (.int .i64) (.pair (.int .i64) (.pair (.str) (.unit)))))],[.val (.bool) (Mk.top (.bool))]⟩) (⟨[],[]⟩)) (cond (n.beq 166) (⟨[.val (.str)],[.val (.bool) (Mk.top (.bool))]⟩) (⟨[],[]⟩))))) (cond (n.ble 169) (cond (n.ble 167) (cond (n.beq 167) (⟨[.val (.pair (.sl (.pair (.str) (.pair (.int .i64) (.pair (.bool) (.unit))))) (.pair (.sl (.int .i64)) (.pair (.sl (.pair (.str) (.pair (.sl (.int .i64)) (.pair (.bool) (.unit))))) (.unit)))),.val (.str)],[.val (.int .i64) (Mk.top (.int .i64))]⟩) (⟨[],[]⟩)) (cond (n.ble 168) (cond (n.beq 168) (⟨[.val (.pair (.sl (.pair (.str) (.pair (.int .i64) (.pair (.bool) (.unit))))) (.pair (.sl (.int .i64)) (.pair (.sl (.pair (.str) (.pair (.sl (.int .i64)) (.pair (.bool) (.unit))))) (.unit)))),.val (.sl (.int .i64)),.val (.int .i64)],[.val (.bool) (Mk.top (.bool))]⟩) (⟨[],[]⟩)) (cond (n.beq 169) (⟨[.val (.pair (.sl (.pair (.str) (.pair (.int .i64) (.pair (.bool) (.unit))))) (.pair (.sl (.int .i64)) (.pair (.sl (.pair (.str) (.pair (.sl (.int .i64)) (.pair (.bool) (.unit))))) (.unit))))],[.val (.bool) (Mk.top (.bool))]⟩) (⟨[],[]⟩)))) (cond (n.ble 171) (cond (n.ble 170) (cond (n.beq 170) (⟨[.mutp (.pair (.sl (.int .u8)) (.pair (.int .i64) (.pair (.int .i64) (.unit)))) (.no) (.no)],[.val (.int .i64) (Mk.top (.int .i64))]⟩) (⟨[],[]⟩)) (cond (n.beq 171) (⟨[.mutp (.pair (.sl (.int .u8)) (.pair (.int .i64) (.pair (.int .i64) (.unit)))) (.no) (.no)],[.val (.str) (Mk.top (.str))]⟩) (⟨[],[]⟩))) (cond (n.ble 172) (cond (n.beq 172) (⟨[.val (.sl (.pair (.int .i64) (.pair (.int .i64) (.pair (.str) (.unit)))))],[.val (.bool) (Mk.top (.bool))]⟩) (⟨[],[]⟩)) (cond (n.beq 173) (⟨[.val (.pair (.int .i64) (.pair (.int .i64) (.pair (.str) (.unit))))],[.val (.sl (.int .u8)) (Mk.top (.sl (.int .u8)))]⟩) (⟨[],[]⟩)))))) (cond (n.ble 179) (cond (n.ble 176) (cond (n.ble 174) (cond (n.beq 174) (⟨[.val (.sl (.pair (.str) (.pair (.int .i64) (.pair (.bool) (.unit))))),.val (.int .i64)],[.val (.int .i64) (Mk.top (.int .i64))]⟩) (⟨[],[]⟩)) (cond (n.ble 175) (cond (n.beq 175) (⟨[.val (.sl (.int .i64)),.val (.int .i64)],[.val (.int .i64) (Mk.top (.int .i64))]⟩) (⟨[],[]⟩)) (cond (n.beq 176) (⟨[.val (.sl (.pair (.str) (.pair (.sl (.int .i64)) (.pair (.bool) (.unit))))),.val (.int .i64)],[.val (.int .i64) (Mk.top (.int .i64))]⟩) (⟨[],[]⟩)))) (cond (n.ble 177) (cond (n.beq 177) (⟨[.val (.sl (.pair (.str) (.pair (.int .i64) (.pair (.bool) (.unit)))))],[.val (.sl (.pair (.str) (.pair (.int .i64) (.pair (.bool) (.unit))))) (Mk.top (.sl (.pair (.str) (.pair (.int .i64) (.pair (.bool) (.unit))))))]⟩) (⟨[],[]⟩)) (cond (n.ble 178) (cond (n.beq 178) (⟨[.val (.sl (.int .i64))],[.val (.sl (.int .i64)) (Mk.top (.sl (.int .i64)))]⟩) (⟨[],[]⟩)) (cond (n.beq 179) (⟨[.val (.sl (.pair (.str) (.pair (.sl (.int .i64)) (.pair (.bool) (.unit)))))],[.val (.sl (.pair (.str) (.pair (.sl (.int .i64)) (.pair (.bool) (.unit))))) (Mk.top (.sl (.pair (.str) (.pair (.sl (.int .i64)) (.pair (.bool) (.unit))))))]⟩) (⟨[],[]⟩))))) (cond (n.ble 182) (cond (n.ble 180) (cond (n.beq 180) (⟨[.val (.sl (.pair (.str) (.pair (.int .i64) (.pair (.bool) (.unit))))),.val (.sl (.pair (.str) (.pair (.int .i64) (.pair (.bool) (.unit)))))],[.val (.bool) (Mk.top (.bool))]⟩) (⟨[],[]⟩)) (cond (n.ble 181) (cond (n.beq 181) (⟨[.val (.sl (.int .i64)),.val (.sl (.int .i64))],[.val (.bool) (Mk.top (.bool))]⟩) (⟨[],[]⟩)) (cond (n.beq 182) (⟨[.val (.sl (.pair (.str) (.pair (.sl (.int .i64)) (.pair (.bool) (.unit))))),.val (.sl (.pair (.str) (.pair (.sl (.int .i64)) (.pair (.bool) (.unit)))))],[.val (.bool) (Mk.top (.bool))]⟩) (⟨[],[]⟩)))) (cond (n.ble 184) (cond (n.ble 183) (cond (n.beq 183) (⟨[.mutv (.sl (.pair (.str) (.pair (.int .i64) (.pair (.bool) (.unit))))) (Mk.top (.sl (.pair (.str) (.pair (.int .i64) (.pair (.bool) (.unit)))))) (Mk.top (.sl (.pair (.str) (.pair (.int .i64) (.pair (.bool) (.unit)))))),.val (.int .i64)],[.val (.int .i64) (Mk.top (.int .i64))]⟩) (⟨[],[]⟩)) (cond (n.beq 184) (⟨[.mutv (.sl (.int .i64)) (Mk.top (.sl (.int .i64))) (Mk.top (.sl (.int .i64))),.val (.int .i64)],[.val (.int .i64) (Mk.top (.int .i64))]⟩) (⟨[],[]⟩))) (cond (n.ble 185) (cond (n.beq 185) (⟨[.mutv (.sl (.pair (.str) (.pair (.sl (.int .i64)) (.pair (.bool) (.unit))))) (Mk.top (.sl (.pair (.str) (.pair (.sl (.int .i64)) (.pair (.bool) (.unit)))))) (Mk.top (.sl (.pair (.str) (.pair (.sl (.int .i64)) (.pair (.bool) (.unit)))))),.val (.int .i64)],[.val (.int .i64) (Mk.top (.int .i64))]⟩) (⟨[],[]⟩)) (cond (n.beq 186) (⟨[.val (.sl (.pair (.str) (.pair (.int .i64) (.pair (.bool) (.unit))))),.val (.int .i64)],[.val (.int .i64) (Mk.top (.int .i64))]⟩) (⟨[],[]⟩))))))) (cond (n.ble 199) (cond (n.ble 192) (cond (n.ble 189) (cond (n.ble 187) (cond (n.beq 187) (⟨[.val (.sl (.int .i64)),.val (.int .i64)],[.val (.int .i64) (Mk.top (.int .i64))]⟩) (⟨[],[]⟩)) (cond (n.ble 188) (cond (n.beq 188) (⟨[.val (.sl (.pair (.str) (.pair (.sl (.int .i64)) (.pair (.bool) (.unit))))),.val (.int .i64)],[.val (.int .i64) (Mk.top (.int .i64))]⟩) (⟨[],[]⟩)) (cond (n.beq 189) (⟨[.val (.sl (.pair (.int .i64) (.pair (.int .i64) (.pair (.str) (.unit))))),.val (.int .i64)],[.val (.int .i64) (Mk.top (.int .i64))]⟩) (⟨[],[]⟩)))) (cond (n.ble 190) (cond (n.beq 190) (⟨[.mutp (.pair (.sl (.int .u8)) (.pair (.int .i64) (.pair (.int .i64) (.unit)))) (.no) (.no),.val (.int .i64)],[.val (.pair (.int .i64) (.pair (.int .i64) (.pair (.str) (.unit)))) (Mk.top (.pair (.int .i64) (.pair (.int .i64) (.pair (.str) (.unit)))))]⟩) (⟨[],[]⟩)) (cond (n.ble 191) (cond (n.beq 191) (⟨[.val (.sl (.pair (.int .i64) (.pair (.int .i64) (.pair (.str) (.unit)))))],[.val (.bool) (Mk.top (.bool))]⟩) (⟨[],[]⟩)) (cond (n.beq 192) (⟨[.val (.str),.val (.str)],[.val (.int .i64) (Mk.top (.int .i64))]⟩) (⟨[],[]⟩))))) (cond (n.ble 195) (cond (n.ble 193) (cond (n.beq 193) (⟨[.val (.sl (.pair (.str) (.pair (.sl (.int .i64)) (.pair (.bool) (.unit))))),.fn],[.val (.int .i64) (Mk.top (.int .i64))]⟩) (⟨[],[]⟩)) (cond (n.ble 194) (cond (n.beq 194) (⟨[.val (.sl (.pair (.int .i64) (.pair (.int .i64) (.pair (.str) (.unit))))),.val (.pair (.int .i64) (.pair (.int .i64) (.pair (.str) (.unit))))],[.val (.int .i64) (Mk.top (.int .i64))]⟩) (⟨[],[]⟩)) (cond (n.beq 195) (⟨[.val (.sl (.pair (.str) (.pair (.int .i64) (.pair (.bool) (.unit))))),.fn],[.val (.int .i64) (Mk.top (.int .i64))]⟩) (⟨[],[]⟩)))) (cond (n.ble 197) (cond (n.ble 196) (cond (n.beq 196) (⟨[.val (.pair (.str) (.pair (.int .i64) (.pair (.bool) (.unit)))),.rptr (.str)],[.val (.bool) (Mk.top (.bool))]⟩) (⟨[],[]⟩)) (cond (n.beq 197) (⟨[.val (.sl (.int .i64)),.val (.int .i64)],[.val (.bool) (Mk.top (.bool))]⟩) (⟨[],[]⟩))) (cond (n.ble 198) (cond (n.beq 198) (⟨[.val (.sl (.int .i64)),.fn],[.val (.int .i64) (Mk.top (.int .i64))]⟩) (⟨[],[]⟩)) (cond (n.beq 199) (⟨[.val (.sl (.sl (.pair (.int .i64) (.pair (.int .i64) (.pair (.str) (.unit)))))),.val (.int .i64)],[]⟩) (⟨[],[]⟩)))))) (cond (n.ble 205) (cond (n.ble 202) (cond (n.ble 200) (cond (n.beq 200) (⟨[.val (.sl (.pair (.str) (.pair (.str) (.unit)))),.val (.int .i64)],[]⟩) (⟨[],[]⟩)) (cond (n.ble 201) (cond (n.beq 201) (⟨[.val (.pair (.str) (.pair (.int .i64) (.pair (.bool) (.unit)))),.val (.int .i64)],[.val (.int .i64) (Mk.top (.int .i64))]⟩) (⟨[],[]⟩)) (cond (n.beq 202) (⟨[.val (.pair (.str) (.pair (.sl (.int .i64)) (.pair (.bool) (.unit)))),.val (.int .i64)],[.val (.int .i64) (Mk.top (.int .i64))]⟩) (⟨[],[]⟩)))) (cond (n.ble 203) (cond (n.beq 203) (⟨[.val (.pair (.str) (.pair (.int .i64) (.pair (.bool) (.unit))))],[.val (.pair (.str) (.pair (.int .i64) (.pair (.bool) (.unit)))) (Mk.top (.pair (.str) (.pair (.int .i64) (.pair (.bool) (.unit)))))]⟩) (⟨[],[]⟩)) (cond (n.ble 204) (cond (n.beq 204) (⟨[.val (.pair (.str) (.pair (.sl (.int .i64)) (.pair (.bool) (.unit))))],[.val (.pair (.str) (.pair (.sl (.int .i64)) (.pair (.bool) (.unit)))) (Mk.top (.pair (.str) (.pair (.sl (.int .i64)) (.pair (.bool) (.unit)))))]⟩) (⟨[],[]⟩)) (cond (n.beq 205) (⟨[.val (.pair (.str) (.pair (.int .i64) (.pair (.bool) (.unit)))),.val (.pair (.str) (.pair (.int .i64) (.pair (.bool) (.unit))))],[.val (.bool) (Mk.top (.bool))]⟩) (⟨[],[]⟩))))) (cond (n.ble 208) (cond (n.ble 206) (cond (n.beq 206) (⟨[.val (.pair (.str) (.pair (.sl (.int .i64)) (.pair (.bool) (.unit)))),.val (.pair (.str) (.pair (.sl (.int .i64)) (.pair (.bool) (.unit))))],[.val (.bool) (Mk.top (.bool))]⟩) (⟨[],[]⟩)) (cond (n.ble 207) (cond (n.beq 207) (⟨[.val (.sl (.pair (.int .i64) (.pair (.int .i64) (.pair (.str) (.unit))))),.fn],[.val (.bool) (Mk.top (.bool))]⟩) (⟨[],[]⟩)) (cond (n.beq 208) (⟨[.val (.pair (.int .i64) (.pair (.int .i64) (.pair (.str) (.unit))))],[.val (.bool) (Mk.top (.bool))]⟩) (⟨[],[]⟩)))) (cond (n.ble 211) (cond (n.ble 210) (cond (n.beq 210) (⟨[.val (.sl (.int .i64)),.val (.int .i64)],[.val (.int .i64) (Mk.top (.int .i64))]⟩) (⟨[],[]⟩)) (cond (n.beq 211) (⟨[.val (.sl (.sl (.pair (.int .i64) (.pair (.int .i64) (.pair (.str) (.unit))))))],[]⟩) (⟨[],[]⟩))) (cond (n.ble 212) (cond (n.beq 212) (⟨[.val (.sl (.pair (.str) (.pair (.str) (.unit))))],[]⟩) (⟨[],[]⟩)) (cond (n.beq 213) (⟨[.val (.sl (.pair (.int .i64) (.pair (.int .i64) (.pair (.str) (.unit))))),.fn],[.val (.int .i64) (Mk.top (.int .i64))]⟩) (⟨[],[]⟩)))))))))
noncomputable def qbsc (n:Nat):Hints:=cond (n.ble 106) (cond (n.ble 54) (cond (n.ble 28) (cond (n.ble 15) (cond (n.ble 8) (cond (n.ble 5) (cond (n.ble 3) (cond (n.beq 3) ({ keep:=[(5,[3,5],[2,3],[]),(11,[3,5,6,7,8,9],[3,5,6,7,8],[]),(20,[3,5,6,10,11],[2,3,5],[])],share:=[],outs:=[] }) ({})) (cond (n.ble 4) (cond (n.beq 4) ({ keep:=[(5,[3,4,5],[2,3],[])],share:=[],outs:=[] }) ({})) (cond (n.beq 5) ({ keep:=[(100020,[3,5,6,9,11,12,15,17,18],[],[]),(100022,[5,6,11,12,17,18],[],[])],share:=[],outs:=[] }) ({})))) (cond (n.ble 6) (cond (n.beq 6) ({ keep:=[(15,[4,5,7,8,9,10,20],[2,4,5,9,10],[]),(21,[4,5,9,10,21,22],[9,10,21],[])],share:=[],outs:=[] }) ({})) (cond (n.ble 7) (cond (n.beq 7) ({ keep:=[],share:=[(8,1),(8,3)],outs:=[] }) ({})) (cond (n.beq 8) ({ keep:=[],share:=[(8,1),(8,3)],outs:=[] }) ({}))))) (cond (n.ble 11) (cond (n.ble 9) (cond (n.beq 9) ({ keep:=[],share:=[],outs:=[] }) ({})) (cond (n.ble 10) (cond (n.beq 10) ({ keep:=[],share:=[(8,1),(8,3)],outs:=[] }) ({})) (cond (n.beq 11) ({ keep:=[],share:=[],outs:=[] }) ({})))) (cond (n.ble 13) (cond (n.ble 12) (cond (n.beq 12) ({ keep:=[],share:=[(2,3)],outs:=[] }) ({})) (cond (n.beq 13) ({ keep:=[(5,[1,2,5,24,25,26],[5],[])],share:=[],outs:=[] }) ({}))) (cond (n.ble 14) (cond (n.beq 14) ({ keep:=[],share:=[],outs:=[] }) ({})) (cond (n.beq 15) ({ keep:=[(11,[1,2,4,6,9,10,60,61],[1,2,4,6,9,10],[]),(17,[2,4,6,9,84,85],[2,4],[])],share:=[],outs:=[] }) ({})))))) (cond (n.ble 21) (cond (n.ble 18) (cond (n.ble 16) (cond (n.beq 16) ({ keep:=[(6,[1,3,18,19,20],[3],[])],share:=[],outs:=[] }) ({})) (cond (n.ble 17) (cond (n.beq 17) ({ keep:=[(2,[1,6,7,8],[1,2],[])],share:=[],outs:=[] }) ({})) (cond (n.beq 18) ({ keep:=[],share:=[],outs:=[] }) ({})))) (cond (n.ble 19) (cond (n.beq 19) ({ keep:=[],share:=[],outs:=[] }) ({})) (cond (n.ble 20) (cond (n.beq 20) ({ keep:=[(4,[0,1,5],[4],[])],share:=[],outs:=[] }) ({})) (cond (n.beq 21) ({ keep:=[],share:=[],outs:=[] }) ({}))))) (cond (n.ble 24) (cond (n.ble 22) (cond (n.beq 22) ({ keep:=[],share:=[],outs:=[] }) ({})) (cond (n.ble 23) (cond (n.beq 23) ({ keep:=[],share:=[],outs:=[] }) ({})) (cond (n.beq 24) ({ keep:=[],share:=[],outs:=[] }) ({})))) (cond (n.ble 26) (cond (n.ble 25) (cond (n.beq 25) ({ keep:=[],share:=[],outs:=[] }) ({})) (cond (n.beq 26) ({ keep:=[(8,[1,2,4,6,32,33,34],[1,2,4,5,6],[])],share:=[],outs:=[] }) ({}))) (cond (n.ble 27) (cond (n.beq 27) ({ keep:=[],share:=[],outs:=[] }) ({})) (cond (n.beq 28) ({ keep:=[(11,[1,2,4,6,7],[1,2,4,6,7],[])],share:=[],outs:=[] }) ({}))))))) (cond (n.ble 41) (cond (n.ble 34) (cond (n.ble 31) (cond (n.ble 29) (cond (n.beq 29) ({ keep:=[],share:=[],outs:=[] }) ({})) (cond (n.ble 30) (cond (n.beq 30) ({ keep:=[],share:=[],outs:=[] }) ({})) (cond (n.beq 31) ({ keep:=[],share:=[],outs:=[] }) ({})))) (cond (n.ble 32) (cond (n.beq 32) ({ keep:=[],share:=[],outs:=[] }) ({})) (cond (n.ble 33) (cond (n.beq 33) ({ keep:=[],share:=[],outs:=[] }) ({})) (cond (n.beq 34) ({ keep:=[],share:=[],outs:=[] }) ({}))))) (cond (n.ble 37) (cond (n.ble 35) (cond (n.beq 35) ({ keep:=[],share:=[],outs:=[] }) ({})) (cond (n.ble 36) (cond (n.beq 36) ({ keep:=[],share:=[],outs:=[] }) ({})) (cond (n.beq 37) ({ keep:=[],share:=[],outs:=[] }) ({})))) (cond (n.ble 39) (cond (n.ble 38) (cond (n.beq 38) ({ keep:=[],share:=[],outs:=[] }) ({})) (cond (n.beq 39) ({ keep:=[(4,[2,3,5],[2,3,4],[]),(9,[2,3,6],[4],[])],share:=[],outs:=[] }) ({}))) (cond (n.ble 40) (cond (n.beq 40) ({ keep:=[(4,[0,1,5],[4],[])],share:=[],outs:=[] }) ({})) (cond (n.beq 41) ({ keep:=[(2,[1,3],[1,2],[]),(7,[1,3,4],[1,2,3],[])],share:=[],outs:=[] }) ({})))))) (cond (n.ble 47) (cond (n.ble 44) (cond (n.ble 42) (cond (n.beq 42) ({ keep:=[],share:=[(2,2)],outs:=[] }) ({})) (cond (n.ble 43) (cond (n.beq 43) ({ keep:=[],share:=[(2,2)],outs:=[] }) ({})) (cond (n.beq 44) ({ keep:=[],share:=[],outs:=[] }) ({})))) (cond (n.ble 45) (cond (n.beq 45) ({ keep:=[],share:=[],outs:=[] }) ({})) (cond (n.ble 46) (cond (n.beq 46) ({ keep:=[],share:=[],outs:=[] }) ({})) (cond (n.beq 47) ({ keep:=[],share:=[],outs:=[] }) ({}))))) (cond (n.ble 50) (cond (n.ble 48) (cond (n.beq 48) ({ keep:=[(2,[0,3,5],[0,3,5],[])],share:=[],outs:=[] }) ({})) (cond (n.ble 49) (cond (n.beq 49) ({ keep:=[(3,[0,3,5,6],[5],[])],share:=[],outs:=[] }) ({})) (cond (n.beq 50) ({ keep:=[],share:=[],outs:=[] }) ({})))) (cond (n.ble 52) (cond (n.ble 51) (cond (n.beq 51) ({ keep:=[],share:=[],outs:=[] }) ({})) (cond (n.beq 52) ({ keep:=[(3,[1,2,5,6],[5],[])],share:=[],outs:=[] }) ({}))) (cond (n.ble 53) (cond (n.beq 53) ({ keep:=[],share:=[],outs:=[] }) ({})) (cond (n.beq 54) ({ keep:=[(5,[0,1,5],[1,4],[])],share:=[],outs:=[] }) ({})))))))) (cond (n.ble 80) (cond (n.ble 67) (cond (n.ble 60) (cond (n.ble 57) (cond (n.ble 55) (cond (n.beq 55) ({ keep:=[],share:=[],outs:=[] }) ({})) (cond (n.ble 56) (cond (n.beq 56) ({ keep:=[(3,[0,3,4],[3],[])],share:=[],outs:=[] }) ({})) (cond (n.beq 57) ({ keep:=[],share:=[],outs:=[] }) ({})))) (cond (n.ble 58) (cond (n.beq 58) ({ keep:=[(4,[0,1,5],[4],[])],share:=[],outs:=[] }) ({})) (cond (n.ble 59) (cond (n.beq 59) ({ keep:=[],share:=[],outs:=[(0,2)] }) ({})) (cond (n.beq 60) ({ keep:=[(2,[0,1,5],[0,1],[0])],share:=[],outs:=[] }) ({}))))) (cond (n.ble 63) (cond (n.ble 61) (cond (n.beq 61) ({ keep:=[],share:=[],outs:=[] }) ({})) (cond (n.ble 62) (cond (n.beq 62) ({ keep:=[(4,[0,1,5],[4],[])],share:=[],outs:=[] }) ({})) (cond (n.beq 63) ({ keep:=[(2,[0,1,5],[0,1],[0])],share:=[],outs:=[] }) ({})))) (cond (n.ble 65) (cond (n.ble 64) (cond (n.beq 64) ({ keep:=[(2,[0,1,5],[1,4],[])],share:=[],outs:=[] }) ({})) (cond (n.beq 65) ({ keep:=[(3,[0,3,4],[0,3],[])],share:=[],outs:=[] }) ({}))) (cond (n.ble 66) (cond (n.beq 66) ({ keep:=[(3,[0,2,3,5],[0,2,3],[0])],share:=[(1,1),(5,3),(9,4)],outs:=[] }) ({})) (cond (n.beq 67) ({ keep:=[],share:=[],outs:=[] }) ({})))))) (cond (n.ble 73) (cond (n.ble 70) (cond (n.ble 68) (cond (n.beq 68) ({ keep:=[],share:=[],outs:=[] }) ({})) (cond (n.ble 69) (cond (n.beq 69) ({ keep:=[],share:=[],outs:=[] }) ({})) (cond (n.beq 70) ({ keep:=[(3,[2,3,11,12,13],[2,3],[])],share:=[],outs:=[] }) ({})))) (cond (n.ble 71) (cond (n.beq 71) ({ keep:=[(5,[1,3,25],[1,2,3],[]),(11,[1,3,25,36,37,38],[1,3,25],[]),(17,[3,51,52,53],[2],[])],share:=[],outs:=[] }) ({})) (cond (n.ble 72) (cond (n.beq 72) ({ keep:=[(5,[1,2,6,7,8,9],[6,7],[]),(7,[1,2,6,7,8,9],[1,2,6,7,8,9],[])],share:=[],outs:=[] }) ({})) (cond (n.beq 73) ({ keep:=[],share:=[],outs:=[] }) ({}))))) (cond (n.ble 76) (cond (n.ble 74) (cond (n.beq 74) ({ keep:=[(3,[0,3,6,7],[3],[])],share:=[],outs:=[] }) ({})) (cond (n.ble 75) (cond (n.beq 75) ({ keep:=[],share:=[],outs:=[] }) ({})) (cond (n.beq 76) ({ keep:=[(3,[1,2,6,7],[4,5,6],[])],share:=[],outs:=[] }) ({})))) (cond (n.ble 78) (cond (n.ble 77) (cond (n.beq 77) ({ keep:=[(4,[2,19,20,21],[4],[])],share:=[],outs:=[] }) ({})) (cond (n.beq 78) ({ keep:=[],share:=[],outs:=[] }) ({}))) (cond (n.ble 79) (cond (n.beq 79) ({ keep:=[],share:=[],outs:=[] }) ({})) (cond (n.beq 80) ({ keep:=[],share:=[],outs:=[] }) ({}))))))) (cond (n.ble 93) (cond (n.ble 86) (cond (n.ble 83) (cond (n.ble 81) (cond (n.beq 81) ({ keep:=[],share:=[],outs:=[] }) ({})) (cond (n.ble 82) (cond (n.beq 82) ({ keep:=[(2,[1,8,9,10],[1,2],[]),(8,[1,35,36,37],[1,2],[])],share:=[],outs:=[] }) ({})) (cond (n.beq 83) ({ keep:=[],share:=[],outs:=[] }) ({})))) (cond (n.ble 84) (cond (n.beq 84) ({ keep:=[],share:=[],outs:=[] }) ({})) (cond (n.ble 85) (cond (n.beq 85) ({ keep:=[],share:=[],outs:=[] }) ({})) (cond (n.beq 86) ({ keep:=[(2,[0,1,7,8],[4],[])],share:=[],outs:=[] }) ({}))))) (cond (n.ble 89) (cond (n.ble 87) (cond (n.beq 87) ({ keep:=[],share:=[],outs:=[] }) ({})) (cond (n.ble 88) (cond (n.beq 88) ({ keep:=[],share:=[],outs:=[] }) ({})) (cond (n.beq 89) ({ keep:=[],share:=[],outs:=[] }) ({})))) (cond (n.ble 91) (cond (n.ble 90) (cond (n.beq 90) ({ keep:=[],share:=[],outs:=[] }) ({})) (cond (n.beq 91) ({ keep:=[(2,[0,1,7,8],[4],[])],share:=[],outs:=[] }) ({}))) (cond (n.ble 92) (cond (n.beq 92) ({ keep:=[],share:=[],outs:=[] }) ({})) (cond (n.beq 93) ({ keep:=[],share:=[],outs:=[] }) ({})))))) (cond (n.ble 99) (cond (n.ble 96) (cond (n.ble 94) (cond (n.beq 94) ({ keep:=[(3,[0,5,9,10,11],[5],[])],share:=[],outs:=[] }) ({})) (cond (n.ble 95) (cond (n.beq 95) ({ keep:=[],share:=[],outs:=[] }) ({})) (cond (n.beq 96) ({ keep:=[(5,[0,1,5,6],[0,5],[])],share:=[],outs:=[] }) ({})))) (cond (n.ble 97) (cond (n.beq 97) ({ keep:=[],share:=[],outs:=[] }) ({})) (cond (n.ble 98) (cond (n.beq 98) ({ keep:=[],share:=[],outs:=[] }) ({})) (cond (n.beq 99) ({ keep:=[],share:=[],outs:=[] }) ({}))))) (cond (n.ble 102) (cond (n.ble 100) (cond (n.beq 100) ({ keep:=[(4,[1,2,5],[4],[])],share:=[],outs:=[] }) ({})) (cond (n.ble 101) (cond (n.beq 101) ({ keep:=[(2,[1,2,5],[4],[])],share:=[],outs:=[] }) ({})) (cond (n.beq 102) ({ keep:=[],share:=[],outs:=[] }) ({})))) (cond (n.ble 104) (cond (n.ble 103) (cond (n.beq 103) ({ keep:=[(2,[1,2,3,7],[6],[])],share:=[],outs:=[] }) ({})) (cond (n.beq 104) ({ keep:=[(2,[0,1,5],[0,1,4],[])],share:=[],outs:=[] }) ({}))) (cond (n.ble 105) (cond (n.beq 105) ({ keep:=[(3,[0,3,4],[3],[])],share:=[],outs:=[] }) ({})) (cond (n.beq 106) ({ keep:=[],share:=[(4,3),(6,3)],outs:=[] }) ({}))))))))) (cond (n.ble 160) (cond (n.ble 132) (cond (n.ble 119) (cond (n.ble 112) (cond (n.ble 109) (cond (n.ble 107) (cond (n.beq 107) ({ keep:=[(3,[2,3,14,15,16],[2,3],[])],share:=[],outs:=[] }) ({})) (cond (n.ble 108) (cond (n.beq 108) ({ keep:=[(3,[1,2,3,4],[2,3],[])],share:=[],outs:=[] }) ({})) (cond (n.beq 109) ({ keep:=[(4,[0,1,5],[4],[])],share:=[],outs:=[] }) ({})))) (cond (n.ble 110) (cond (n.beq 110) ({ keep:=[(4,[0,1,5],[4],[])],share:=[],outs:=[] }) ({})) (cond (n.ble 111) (cond (n.beq 111) ({ keep:=[(2,[1,2,3,7],[6],[])],share:=[],outs:=[] }) ({})) (cond (n.beq 112) ({ keep:=[(2,[1,3],[1,2],[]),(9,[1,4],[2],[])],share:=[],outs:=[] }) ({}))))) (cond (n.ble 115) (cond (n.ble 113) (cond (n.beq 113) ({ keep:=[(3,[0,3,4],[0,3],[0])],share:=[],outs:=[] }) ({})) (cond (n.ble 114) (cond (n.beq 114) ({ keep:=[],share:=[],outs:=[] }) ({})) (cond (n.beq 115) ({ keep:=[],share:=[],outs:=[] }) ({})))) (cond (n.ble 117) (cond (n.ble 116) (cond (n.beq 116) ({ keep:=[],share:=[],outs:=[] }) ({})) (cond (n.beq 117) ({ keep:=[],share:=[],outs:=[] }) ({}))) (cond (n.ble 118) (cond (n.beq 118) ({ keep:=[(3,[0,3,4],[3],[])],share:=[],outs:=[] }) ({})) (cond (n.beq 119) ({ keep:=[(3,[0,1,5,6],[5],[])],share:=[],outs:=[] }) ({})))))) (cond (n.ble 125) (cond (n.ble 122) (cond (n.ble 120) (cond (n.beq 120) ({ keep:=[],share:=[],outs:=[] }) ({})) (cond (n.ble 121) (cond (n.beq 121) ({ keep:=[(5,[0,1,5],[1,4],[])],share:=[],outs:=[] }) ({})) (cond (n.beq 122) ({ keep:=[],share:=[],outs:=[] }) ({})))) (cond (n.ble 123) (cond (n.beq 123) ({ keep:=[],share:=[],outs:=[] }) ({})) (cond (n.ble 124) (cond (n.beq 124) ({ keep:=[(3,[0,3,4],[3],[])],share:=[],outs:=[] }) ({})) (cond (n.beq 125) ({ keep:=[],share:=[],outs:=[] }) ({}))))) (cond (n.ble 128) (cond (n.ble 126) (cond (n.beq 126) ({ keep:=[],share:=[],outs:=[] }) ({})) (cond (n.ble 127) (cond (n.beq 127) ({ keep:=[(4,[0,1,5],[4],[])],share:=[],outs:=[] }) ({})) (cond (n.beq 128) ({ keep:=[],share:=[],outs:=[] }) ({})))) (cond (n.ble 130) (cond (n.ble 129) (cond (n.beq 129) ({ keep:=[],share:=[],outs:=[(0,2)] }) ({})) (cond (n.beq 130) ({ keep:=[(2,[0,1,5],[0,1],[0])],share:=[],outs:=[] }) ({}))) (cond (n.ble 131) (cond (n.beq 131) ({ keep:=[(4,[0,3],[3],[])],share:=[],outs:=[] }) ({})) (cond (n.beq 132) ({ keep:=[],share:=[],outs:=[] }) ({}))))))) (cond (n.ble 145) (cond (n.ble 138) (cond (n.ble 135) (cond (n.ble 133) (cond (n.beq 133) ({ keep:=[(2,[0,1,5],[1,4],[])],share:=[],outs:=[] }) ({})) (cond (n.ble 134) (cond (n.beq 134) ({ keep:=[],share:=[],outs:=[] }) ({})) (cond (n.beq 135) ({ keep:=[(5,[0,2,3,4,5,6],[0,2,3,5],[0]),(10,[0,2,3,5,7],[0,2,3],[0])],share:=[(17,3)],outs:=[] }) ({})))) (cond (n.ble 136) (cond (n.beq 136) ({ keep:=[(3,[0,3,5,6],[0,5],[0])],share:=[],outs:=[] }) ({})) (cond (n.ble 137) (cond (n.beq 137) ({ keep:=[(5,[3,13,14,15],[3],[]),(13,[3,5,6,13,14,15],[3,13,14,15],[]),(18,[3,5,13,14,15,56,57],[3,13,14,15],[])],share:=[],outs:=[] }) ({})) (cond (n.beq 138) ({ keep:=[],share:=[],outs:=[] }) ({}))))) (cond (n.ble 141) (cond (n.ble 139) (cond (n.beq 139) ({ keep:=[],share:=[],outs:=[] }) ({})) (cond (n.ble 140) (cond (n.beq 140) ({ keep:=[(2,[0,1,2,11,12,13],[0,1,6],[])],share:=[],outs:=[] }) ({})) (cond (n.beq 141) ({ keep:=[],share:=[],outs:=[] }) ({})))) (cond (n.ble 143) (cond (n.ble 142) (cond (n.beq 142) ({ keep:=[],share:=[],outs:=[] }) ({})) (cond (n.beq 143) ({ keep:=[],share:=[],outs:=[] }) ({}))) (cond (n.ble 144) (cond (n.beq 144) ({ keep:=[],share:=[],outs:=[] }) ({})) (cond (n.beq 145) ({ keep:=[(4,[0,1,12,13],[4],[])],share:=[],outs:=[] }) ({})))))) (cond (n.ble 151) (cond (n.ble 148) (cond (n.ble 146) (cond (n.beq 146) ({ keep:=[(2,[0,5,6],[0,2],[])],share:=[],outs:=[] }) ({})) (cond (n.ble 147) (cond (n.beq 147) ({ keep:=[],share:=[],outs:=[] }) ({})) (cond (n.beq 148) ({ keep:=[(2,[1,2,3,9,10,11],[1,2,6],[])],share:=[],outs:=[] }) ({})))) (cond (n.ble 149) (cond (n.beq 149) ({ keep:=[],share:=[],outs:=[] }) ({})) (cond (n.ble 150) (cond (n.beq 150) ({ keep:=[],share:=[],outs:=[] }) ({})) (cond (n.beq 151) ({ keep:=[],share:=[],outs:=[] }) ({}))))) (cond (n.ble 155) (cond (n.ble 152) (cond (n.beq 152) ({ keep:=[(3,[3,7,8,9],[3],[])],share:=[],outs:=[] }) ({})) (cond (n.ble 153) (cond (n.beq 153) ({ keep:=[],share:=[],outs:=[] }) ({})) (cond (n.beq 155) ({ keep:=[],share:=[],outs:=[] }) ({})))) (cond (n.ble 158) (cond (n.ble 157) (cond (n.beq 157) ({ keep:=[],share:=[],outs:=[] }) ({})) (cond (n.beq 158) ({ keep:=[],share:=[],outs:=[] }) ({}))) (cond (n.ble 159) (cond (n.beq 159) ({ keep:=[(2,[0,1,5],[0,1,4],[])],share:=[],outs:=[] }) ({})) (cond (n.beq 160) ({ keep:=[],share:=[],outs:=[] }) ({})))))))) (cond (n.ble 186) (cond (n.ble 173) (cond (n.ble 166) (cond (n.ble 163) (cond (n.ble 161) (cond (n.beq 161) ({ keep:=[],share:=[],outs:=[] }) ({})) (cond (n.ble 162) (cond (n.beq 162) ({ keep:=[],share:=[],outs:=[] }) ({})) (cond (n.beq 163) ({ keep:=[],share:=[],outs:=[] }) ({})))) (cond (n.ble 164) (cond (n.beq 164) ({ keep:=[],share:=[],outs:=[] }) ({})) (cond (n.ble 165) (cond (n.beq 165) ({ keep:=[(2,[0,3],[2],[])],share:=[],outs:=[] }) ({})) (cond (n.beq 166) ({ keep:=[(2,[0,3],[0,2],[])],share:=[],outs:=[] }) ({}))))) (cond (n.ble 169) (cond (n.ble 167) (cond (n.beq 167) ({ keep:=[(2,[1,2,5],[4],[])],share:=[],outs:=[] }) ({})) (cond (n.ble 168) (cond (n.beq 168) ({ keep:=[(2,[1,2,3,7],[1,2,6],[]),(7,[1,2,3,7,8],[1,2,3,6,7],[])],share:=[],outs:=[] }) ({})) (cond (n.beq 169) ({ keep:=[(2,[1,3],[1,2],[]),(8,[1,3,4,5],[1,2,3],[])],share:=[],outs:=[] }) ({})))) (cond (n.ble 171) (cond (n.ble 170) (cond (n.beq 170) ({ keep:=[],share:=[],outs:=[] }) ({})) (cond (n.beq 171) ({ keep:=[],share:=[(1,1)],outs:=[] }) ({}))) (cond (n.ble 172) (cond (n.beq 172) ({ keep:=[(2,[0,3],[0,2],[])],share:=[],outs:=[] }) ({})) (cond (n.beq 173) ({ keep:=[(8,[3,4,5],[3],[]),(13,[1,3,6],[3],[])],share:=[],outs:=[] }) ({})))))) (cond (n.ble 179) (cond (n.ble 176) (cond (n.ble 174) (cond (n.beq 174) ({ keep:=[(5,[0,1,5],[1,4],[])],share:=[],outs:=[] }) ({})) (cond (n.ble 175) (cond (n.beq 175) ({ keep:=[],share:=[],outs:=[] }) ({})) (cond (n.beq 176) ({ keep:=[(5,[0,1,5],[1,4],[])],share:=[],outs:=[] }) ({})))) (cond (n.ble 177) (cond (n.beq 177) ({ keep:=[(3,[0,3,4],[3],[])],share:=[],outs:=[] }) ({})) (cond (n.ble 178) (cond (n.beq 178) ({ keep:=[(3,[0,3,4],[3],[])],share:=[],outs:=[] }) ({})) (cond (n.beq 179) ({ keep:=[(3,[0,3,4],[3],[])],share:=[],outs:=[] }) ({}))))) (cond (n.ble 182) (cond (n.ble 180) (cond (n.beq 180) ({ keep:=[(4,[0,1,5],[4],[])],share:=[],outs:=[] }) ({})) (cond (n.ble 181) (cond (n.beq 181) ({ keep:=[(4,[0,1,5],[4],[])],share:=[],outs:=[] }) ({})) (cond (n.beq 182) ({ keep:=[(4,[0,1,5],[4],[])],share:=[],outs:=[] }) ({})))) (cond (n.ble 184) (cond (n.ble 183) (cond (n.beq 183) ({ keep:=[(2,[0,1,5],[0,1],[0])],share:=[],outs:=[] }) ({})) (cond (n.beq 184) ({ keep:=[(2,[0,1,5],[0,1],[0])],share:=[],outs:=[] }) ({}))) (cond (n.ble 185) (cond (n.beq 185) ({ keep:=[(2,[0,1,5],[0,1],[0])],share:=[],outs:=[] }) ({})) (cond (n.beq 186) ({ keep:=[(2,[0,1,5],[1,4],[])],share:=[],outs:=[] }) ({}))))))) (cond (n.ble 199) (cond (n.ble 192) (cond (n.ble 189) (cond (n.ble 187) (cond (n.beq 187) ({ keep:=[(2,[0,1,5],[1,4],[])],share:=[],outs:=[] }) ({})) (cond (n.ble 188) (cond (n.beq 188) ({ keep:=[(2,[0,1,5],[1,4],[])],share:=[],outs:=[] }) ({})) (cond (n.beq 189) ({ keep:=[(2,[0,1,5],[1,4],[])],share:=[],outs:=[] }) ({})))) (cond (n.ble 190) (cond (n.beq 190) ({ keep:=[],share:=[(5,2),(7,2)],outs:=[] }) ({})) (cond (n.ble 191) (cond (n.beq 191) ({ keep:=[],share:=[],outs:=[] }) ({})) (cond (n.beq 192) ({ keep:=[],share:=[],outs:=[] }) ({}))))) (cond (n.ble 195) (cond (n.ble 193) (cond (n.beq 193) ({ keep:=[(2,[0,1,7,8],[4],[])],share:=[],outs:=[] }) ({})) (cond (n.ble 194) (cond (n.beq 194) ({ keep:=[(2,[0,3,7,8],[4],[])],share:=[],outs:=[] }) ({})) (cond (n.beq 195) ({ keep:=[(2,[0,1,7,8],[4],[])],share:=[],outs:=[] }) ({})))) (cond (n.ble 197) (cond (n.ble 196) (cond (n.beq 196) ({ keep:=[],share:=[],outs:=[] }) ({})) (cond (n.beq 197) ({ keep:=[],share:=[],outs:=[] }) ({}))) (cond (n.ble 198) (cond (n.beq 198) ({ keep:=[(2,[0,1,7,8],[4],[])],share:=[],outs:=[] }) ({})) (cond (n.beq 199) ({ keep:=[],share:=[],outs:=[] }) ({})))))) (cond (n.ble 205) (cond (n.ble 202) (cond (n.ble 200) (cond (n.beq 200) ({ keep:=[],share:=[],outs:=[] }) ({})) (cond (n.ble 201) (cond (n.beq 201) ({ keep:=[],share:=[],outs:=[] }) ({})) (cond (n.beq 202) ({ keep:=[],share:=[],outs:=[] }) ({})))) (cond (n.ble 203) (cond (n.beq 203) ({ keep:=[],share:=[],outs:=[] }) ({})) (cond (n.ble 204) (cond (n.beq 204) ({ keep:=[],share:=[],outs:=[] }) ({})) (cond (n.beq 205) ({ keep:=[],share:=[],outs:=[] }) ({}))))) (cond (n.ble 208) (cond (n.ble 206) (cond (n.beq 206) ({ keep:=[],share:=[],outs:=[] }) ({})) (cond (n.ble 207) (cond (n.beq 207) ({ keep:=[],share:=[],outs:=[] }) ({})) (cond (n.beq 208) ({ keep:=[],share:=[],outs:=[] }) ({})))) (cond (n.ble 211) (cond (n.ble 210) (cond (n.beq 210) ({ keep:=[(2,[0,1,7,8],[4],[])],share:=[],outs:=[] }) ({})) (cond (n.beq 211) ({ keep:=[(1,[0,2,3],[],[])],share:=[],outs:=[] }) ({}))) (cond (n.ble 212) (cond (n.beq 212) ({ keep:=[(1,[0,2,3],[],[])],share:=[],outs:=[] }) ({})) (cond (n.beq 213) ({ keep:=[(2,[0,1,7,8],[4],[])],share:=[],outs:=[] }) ({})))))))))
noncomputable def qc (n:Nat):Option Func:=cond (n.ble 106) (cond (n.ble 54) (cond (n.ble 28) (cond (n.ble 15) (cond (n.ble 8) (cond (n.ble 5) (cond (n.ble 3) (cond (n.beq 3) (some Go.Proofs.Tryz.f3) (none)) (cond (n.ble 4) (cond (n.beq 4) (some Go.Proofs.Tryz.f4) (none)) (cond (n.beq 5) (some Go.Proofs.Tryz.f5) (none)))) (cond (n.ble 6) (cond (n.beq 6) (some Go.Proofs.Tryz.f6) (none)) (cond (n.ble 7) (cond (n.beq 7) (some Go.Proofs.Tryz.f7) (none)) (cond (n.beq 8) (some Go.Proofs.Tryz.f8) (none))))) (cond (n.ble 11) (cond (n.ble 9) (cond (n.beq 9) (some Go.Proofs.Tryz.f9) (none)) (cond (n.ble 10) (cond (n.beq 10) (some Go.Proofs.Tryz.f10) (none)) (cond (n.beq 11) (some Go.Proofs.Tryz.f11) (none)))) (cond (n.ble 13) (cond (n.ble 12) (cond (n.beq 12) (some Go.Proofs.Tryz.f12) (none)) (cond (n.beq 13) (some Go.Proofs.Tryz.f13) (none))) (cond (n.ble 14) (cond (n.beq 14) (some Go.Proofs.Tryz.f14) (none)) (cond (n.beq 15) (some Go.Proofs.Tryz.f15) (none)))))) (cond (n.ble 21) (cond (n.ble 18) (cond (n.ble 16) (cond (n.beq 16) (some Go.Proofs.Tryz.f16) (none)) (cond (n.ble 17) (cond (n.beq 17) (some Go.Proofs.Tryz.f17) (none)) (cond (n.beq 18) (some Go.Proofs.Tryz.f18) (none)))) (cond (n.ble 19) (cond (n.beq 19) (some Go.Proofs.Tryz.f19) (none)) (cond (n.ble 20) (cond (n.beq 20) (some Go.Proofs.Tryz.f20) (none)) (cond (n.beq 21) (some Go.Proofs.Tryz.f21) (none))))) (cond (n.ble 24) (cond (n.ble 22) (cond (n.beq 22) (some Go.Proofs.Tryz.f22) (none)) (cond (n.ble 23) (cond (n.beq 23) (some Go.Proofs.Tryz.f23) (none)) (cond (n.beq 24) (some Go.Proofs.Tryz.f24) (none)))) (cond (n.ble 26) (cond (n.ble 25) (cond (n.beq 25) (some Go.Proofs.Tryz.f25) (none)) (cond (n.beq 26) (some Go.Proofs.Tryz.f26) (none))) (cond (n.ble 27) (cond (n.beq 27) (some Go.Proofs.Tryz.f27) (none)) (cond (n.beq 28) (some Go.Proofs.Tryz.f28) (none))))))) (cond (n.ble 41) (cond (n.ble 34) (cond (n.ble 31) (cond (n.ble 29) (cond (n.beq 29) (some Go.Proofs.Tryz.f29) (none)) (cond (n.ble 30) (cond (n.beq 30) (some Go.Proofs.Tryz.f30) (none)) (cond (n.beq 31) (some Go.Proofs.Tryz.f31) (none)))) (cond (n.ble 32) (cond (n.beq 32) (some Go.Proofs.Tryz.f32) (none)) (cond (n.ble 33) (cond (n.beq 33) (some Go.Proofs.Tryz.f33) (none)) (cond (n.beq 34) (some Go.Proofs.Tryz.f34) (none))))) (cond (n.ble 37) (cond (n.ble 35) (cond (n.beq 35) (some Go.Proofs.Tryz.f35) (none)) (cond (n.ble 36) (cond (n.beq 36) (some Go.Proofs.Tryz.f36) (none)) (cond (n.beq 37) (some Go.Proofs.Tryz.f37) (none)))) (cond (n.ble 39) (cond (n.ble 38) (cond (n.beq 38) (some Go.Proofs.Tryz.f38) (none)) (cond (n.beq 39) (some Go.Proofs.Tryz.f39) (none))) (cond (n.ble 40) (cond (n.beq 40) (some Go.Proofs.Tryz.f40) (none)) (cond (n.beq 41) (some Go.Proofs.Tryz.f41) (none)))))) (cond (n.ble 47) (cond (n.ble 44) (cond (n.ble 42) (cond (n.beq 42) (some Go.Proofs.Tryz.f42) (none)) (cond (n.ble 43) (cond (n.beq 43) (some Go.Proofs.Tryz.f43) (none)) (cond (n.beq 44) (some Go.Proofs.Tryz.f44) (none)))) (cond (n.ble 45) (cond (n.beq 45) (some Go.Proofs.Tryz.f45) (none)) (cond (n.ble 46) (cond (n.beq 46) (some Go.Proofs.Tryz.f46) (none)) (cond (n.beq 47) (some Go.Proofs.Tryz.f47) (none))))) (cond (n.ble 50) (cond (n.ble 48) (cond (n.beq 48) (some Go.Proofs.Tryz.f48) (none)) (cond (n.ble 49) (cond (n.beq 49) (some Go.Proofs.Tryz.f49) (none)) (cond (n.beq 50) (some Go.Proofs.Tryz.f50) (none)))) (cond (n.ble 52) (cond (n.ble 51) (cond (n.beq 51) (some Go.Proofs.Tryz.f51) (none)) (cond (n.beq 52) (some Go.Proofs.Tryz.f52) (none))) (cond (n.ble 53) (cond (n.beq 53) (some Go.Proofs.Tryz.f53) (none)) (cond (n.beq 54) (some Go.Proofs.Tryz.f54) (none)))))))) (cond (n.ble 80) (cond (n.ble 67) (cond (n.ble 60) (cond (n.ble 57) (cond (n.ble 55) (cond (n.beq 55) (some Go.Proofs.Tryz.f55) (none)) (cond (n.ble 56) (cond (n.beq 56) (some Go.Proofs.Tryz.f56) (none)) (cond (n.beq 57) (some Go.Proofs.Tryz.f57) (none)))) (cond (n.ble 58) (cond (n.beq 58) (some Go.Proofs.Tryz.f58) (none)) (cond (n.ble 59) (cond (n.beq 59) (some Go.Proofs.Tryz.f59) (none)) (cond (n.beq 60) (some Go.Proofs.Tryz.f60) (none))))) (cond (n.ble 63) (cond (n.ble 61) (cond (n.beq 61) (some Go.Proofs.Tryz.f61) (none)) (cond (n.ble 62) (cond (n.beq 62) (some Go.Proofs.Tryz.f62) (none)) (cond (n.beq 63) (some Go.Proofs.Tryz.f63) (none)))) (cond (n.ble 65) (cond (n.ble 64) (cond (n.beq 64) (some Go.Proofs.Tryz.f64) (none)) (cond (n.beq 65) (some Go.Proofs.Tryz.f65) (none))) (cond (n.ble 66) (cond (n.beq 66) (some Go.Proofs.Tryz.f66) (none)) (cond (n.beq 67) (some Go.Proofs.Tryz.f67) (none)))))) (cond (n.ble 73) (cond (n.ble 70) (cond (n.ble 68) (cond (n.beq 68) (some Go.Proofs.Tryz.f68) (none)) (cond (n.ble 69) (cond (n.beq 69) (some Go.Proofs.Tryz.f69) (none)) (cond (n.beq 70) (some Go.Proofs.Tryz.f70) (none)))) (cond (n.ble 71) (cond (n.beq 71) (some Go.Proofs.Tryz.f71) (none)) (cond (n.ble 72) (cond (n.beq 72) (some Go.Proofs.Tryz.f72) (none)) (cond (n.beq 73) (some Go.Proofs.Tryz.f73) (none))))) (cond (n.ble 76) (cond (n.ble 74) (cond (n.beq 74) (some Go.Proofs.Tryz.f74) (none)) (cond (n.ble 75) (cond (n.beq 75) (some Go.Proofs.Tryz.f75) (none)) (cond (n.beq 76) (some Go.Proofs.Tryz.f76) (none)))) (cond (n.ble 78) (cond (n.ble 77) (cond (n.beq 77) (some Go.Proofs.Tryz.f77) (none)) (cond (n.beq 78) (some Go.Proofs.Tryz.f78) (none))) (cond (n.ble 79) (cond (n.beq 79) (some Go.Proofs.Tryz.f79) (none)) (cond (n.beq 80) (some Go.Proofs.Tryz.f80) (none))))))) (cond (n.ble 93) (cond (n.ble 86) (cond (n.ble 83) (cond (n.ble 81) (cond (n.beq 81) (some Go.Proofs.Tryz.f81) (none)) (cond (n.ble 82) (cond (n.beq 82) (some Go.Proofs.Tryz.f82) (none)) (cond (n.beq 83) (some Go.Proofs.Tryz.f83) (none)))) (cond (n.ble 84) (cond (n.beq 84) (some Go.Proofs.Tryz.f84) (none)) (cond (n.ble 85) (cond (n.beq 85) (some Go.Proofs.Tryz.f85) (none)) (cond (n.beq 86) (some Go.Proofs.Tryz.f86) (none))))) (cond (n.ble 89) (cond (n.ble 87) (cond (n.beq 87) (some Go.Proofs.Tryz.f87) (none)) (cond (n.ble 88) (cond (n.beq 88) (some Go.Proofs.Tryz.f88) (none)) (cond (n.beq 89) (some Go.Proofs.Tryz.f89) (none)))) (cond (n.ble 91) (cond (n.ble 90) (cond (n.beq 90) (some Go.Proofs.Tryz.f90) (none)) (cond (n.beq 91) (some Go.Proofs.Tryz.f91) (none))) (cond (n.ble 92) (cond (n.beq 92) (some Go.Proofs.Tryz.f92) (none)) (cond (n.beq 93) (some Go.Proofs.Tryz.f93) (none)))))) (cond (n.ble 99) (cond (n.ble 96) (cond (n.ble 94) (cond (n.beq 94) (some Go.Proofs.Tryz.f94) (none)) (cond (n.ble 95) (cond (n.beq 95) (some Go.Proofs.Tryz.f95) (none)) (cond (n.beq 96) (some Go.Proofs.Tryz.f96) (none)))) (cond (n.ble 97) (cond (n.beq 97) (some Go.Proofs.Tryz.f97) (none)) (cond (n.ble 98) (cond (n.beq 98) (some Go.Proofs.Tryz.f98) (none)) (cond (n.beq 99) (some Go.Proofs.Tryz.f99) (none))))) (cond (n.ble 102) (cond (n.ble 100) (cond (n.beq 100) (some Go.Proofs.Tryz.f100) (none)) (cond (n.ble 101) (cond (n.beq 101) (some Go.Proofs.Tryz.f101) (none)) (cond (n.beq 102) (some Go.Proofs.Tryz.f102) (none)))) (cond (n.ble 104) (cond (n.ble 103) (cond (n.beq 103) (some Go.Proofs.Tryz.f103) (none)) (cond (n.beq 104) (some Go.Proofs.Tryz.f104) (none))) (cond (n.ble 105) (cond (n.beq 105) (some Go.Proofs.Tryz.f105) (none)) (cond (n.beq 106) (some Go.Proofs.Tryz.f106) (none))))))))) (cond (n.ble 160) (cond (n.ble 132) (cond (n.ble 119) (cond (n.ble 112) (cond (n.ble 109) (cond (n.ble 107) (cond (n.beq 107) (some Go.Proofs.Tryz.f107) (none)) (cond (n.ble 108) (cond (n.beq 108) (some Go.Proofs.Tryz.f108) (none)) (cond (n.beq 109) (some Go.Proofs.Tryz.f109) (none)))) (cond (n.ble 110) (cond (n.beq 110) (some Go.Proofs.Tryz.f110) (none)) (cond (n.ble 111) (cond (n.beq 111) (some Go.Proofs.Tryz.f111) (none)) (cond (n.beq 112) (some Go.Proofs.Tryz.f112) (none))))) (cond (n.ble 115) (cond (n.ble 113) (cond (n.beq 113) (some Go.Proofs.Tryz.f113) (none)) (cond (n.ble 114) (cond (n.beq 114) (some Go.Proofs.Tryz.f114) (none)) (cond (n.beq 115) (some Go.Proofs.Tryz.f115) (none)))) (cond (n.ble 117) (cond (n.ble 116) (cond (n.beq 116) (some Go.Proofs.Tryz.f116) (none)) (cond (n.beq 117) (some Go.Proofs.Tryz.f117) (none))) (cond (n.ble 118) (cond (n.beq 118) (some Go.Proofs.Tryz.f118) (none)) (cond (n.beq 119) (some Go.Proofs.Tryz.f119) (none)))))) (cond (n.ble 125) (cond (n.ble 122) (cond (n.ble 120) (cond (n.beq 120) (some Go.Proofs.Tryz.f120) (none)) (cond (n.ble 121) (cond (n.beq 121) (some Go.Proofs.Tryz.f121) (none)) (cond (n.beq 122) (some Go.Proofs.Tryz.f122) (none)))) (cond (n.ble 123) (cond (n.beq 123) (some Go.Proofs.Tryz.f123) (none)) (cond (n.ble 124) (cond (n.beq 124) (some Go.Proofs.Tryz.f124) (none)) (cond (n.beq 125) (some Go.Proofs.Tryz.f125) (none))))) (cond (n.ble 128) (cond (n.ble 126) (cond (n.beq 126) (some Go.Proofs.Tryz.f126) (none)) (cond (n.ble 127) (cond (n.beq 127) (some Go.Proofs.Tryz.f127) (none)) (cond (n.beq 128) (some Go.Proofs.Tryz.f128) (none)))) (cond (n.ble 130) (cond (n.ble 129) (cond (n.beq 129) (some Go.Proofs.Tryz.f129) (none)) (cond (n.beq 130) (some Go.Proofs.Tryz.f130) (none))) (cond (n.ble 131) (cond (n.beq 131) (some Go.Proofs.Tryz.f131) (none)) (cond (n.beq 132) (some Go.Proofs.Tryz.f132) (none))))))) (cond (n.ble 145) (cond (n.ble 138) (cond (n.ble 135) (cond (n.ble 133) (cond (n.beq 133) (some Go.Proofs.Tryz.f133) (none)) (cond (n.ble 134) (cond (n.beq 134) (some Go.Proofs.Tryz.f134) (none)) (cond (n.beq 135) (some Go.Proofs.Tryz.f135) (none)))) (cond (n.ble 136) (cond (n.beq 136) (some Go.Proofs.Tryz.f136) (none)) (cond (n.ble 137) (cond (n.beq 137) (some Go.Proofs.Tryz.f137) (none)) (cond (n.beq 138) (some Go.Proofs.Tryz.f138) (none))))) (cond (n.ble 141) (cond (n.ble 139) (cond (n.beq 139) (some Go.Proofs.Tryz.f139) (none)) (cond (n.ble 140) (cond (n.beq 140) (some Go.Proofs.Tryz.f140) (none)) (cond (n.beq 141) (some Go.Proofs.Tryz.f141) (none)))) (cond (n.ble 143) (cond (n.ble 142) (cond (n.beq 142) (some Go.Proofs.Tryz.f142) (none)) (cond (n.beq 143) (some Go.Proofs.Tryz.f143) (none))) (cond (n.ble 144) (cond (n.beq 144) (some Go.Proofs.Tryz.f144) (none)) (cond (n.beq 145) (some Go.Proofs.Tryz.f145) (none)))))) (cond (n.ble 151) (cond (n.ble 148) (cond (n.ble 146) (cond (n.beq 146) (some Go.Proofs.Tryz.f146) (none)) (cond (n.ble 147) (cond (n.beq 147) (some Go.Proofs.Tryz.f147) (none)) (cond (n.beq 148) (some Go.Proofs.Tryz.f148) (none)))) (cond (n.ble 149) (cond (n.beq 149) (some Go.Proofs.Tryz.f149) (none)) (cond (n.ble 150) (cond (n.beq 150) (some Go.Proofs.Tryz.f150) (none)) (cond (n.beq 151) (some Go.Proofs.Tryz.f151) (none))))) (cond (n.ble 155) (cond (n.ble 152) (cond (n.beq 152) (some Go.Proofs.Tryz.f152) (none)) (cond (n.ble 153) (cond (n.beq 153) (some Go.Proofs.Tryz.f153) (none)) (cond (n.beq 155) (some Go.Proofs.Tryz.f155) (none)))) (cond (n.ble 158) (cond (n.ble 157) (cond (n.beq 157) (some Go.Proofs.Tryz.f157) (none)) (cond (n.beq 158) (some Go.Proofs.Tryz.f158) (none))) (cond (n.ble 159) (cond (n.beq 159) (some Go.Proofs.Tryz.f159) (none)) (cond (n.beq 160) (some Go.Proofs.Tryz.f160) (none)))))))) (cond (n.ble 186) (cond (n.ble 173) (cond (n.ble 166) (cond (n.ble 163) (cond (n.ble 161) (cond (n.beq 161) (some Go.Proofs.Tryz.f161) (none)) (cond (n.ble 162) (cond (n.beq 162) (some Go.Proofs.Tryz.f162) (none)) (cond (n.beq 163) (some Go.Proofs.Tryz.f163) (none)))) (cond (n.ble 164) (cond (n.beq 164) (some Go.Proofs.Tryz.f164) (none)) (cond (n.ble 165) (cond (n.beq 165) (some Go.Proofs.Tryz.f165) (none)) (cond (n.beq 166) (some Go.Proofs.Tryz.f166) (none))))) (cond (n.ble 169) (cond (n.ble 167) (cond (n.beq 167) (some Go.Proofs.Tryz.f167) (none)) (cond (n.ble 168) (cond (n.beq 168) (some Go.Proofs.Tryz.f168) (none)) (cond (n.beq 169) (some Go.Proofs.Tryz.f169) (none)))) (cond (n.ble 171) (cond (n.ble 170) (cond (n.beq 170) (some Go.Proofs.Tryz.f170) (none)) (cond (n.beq 171) (some Go.Proofs.Tryz.f171) (none))) (cond (n.ble 172) (cond (n.beq 172) (some Go.Proofs.Tryz.f172) (none)) (cond (n.beq 173) (some Go.Proofs.Tryz.f173) (none)))))) (cond (n.ble 179) (cond (n.ble 176) (cond (n.ble 174) (cond (n.beq 174) (some Go.Proofs.Tryz.f174) (none)) (cond (n.ble 175) (cond (n.beq 175) (some Go.Proofs.Tryz.f175) (none)) (cond (n.beq 176) (some Go.Proofs.Tryz.f176) (none)))) (cond (n.ble 177) (cond (n.beq 177) (some Go.Proofs.Tryz.f177) (none)) (cond (n.ble 178) (cond (n.beq 178) (some Go.Proofs.Tryz.f178) (none)) (cond (n.beq 179) (some Go.Proofs.Tryz.f179) (none))))) (cond (n.ble 182) (cond (n.ble 180) (cond (n.beq 180) (some Go.Proofs.Tryz.f180) (none)) (cond (n.ble 181) (cond (n.beq 181) (some Go.Proofs.Tryz.f181) (none)) (cond (n.beq 182) (some Go.Proofs.Tryz.f182) (none)))) (cond (n.ble 184) (cond (n.ble 183) (cond (n.beq 183) (some Go.Proofs.Tryz.f183) (none)) (cond (n.beq 184) (some Go.Proofs.Tryz.f184) (none))) (cond (n.ble 185) (cond (n.beq 185) (some Go.Proofs.Tryz.f185) (none)) (cond (n.beq 186) (some Go.Proofs.Tryz.f186) (none))))))) (cond (n.ble 199) (cond (n.ble 192) (cond (n.ble 189) (cond (n.ble 187) (cond (n.beq 187) (some Go.Proofs.Tryz.f187) (none)) (cond (n.ble 188) (cond (n.beq 188) (some Go.Proofs.Tryz.f188) (none)) (cond (n.beq 189) (some Go.Proofs.Tryz.f189) (none)))) (cond (n.ble 190) (cond (n.beq 190) (some Go.Proofs.Tryz.f190) (none)) (cond (n.ble 191) (cond (n.beq 191) (some Go.Proofs.Tryz.f191) (none)) (cond (n.beq 192) (some Go.Proofs.Tryz.f192) (none))))) (cond (n.ble 195) (cond (n.ble 193) (cond (n.beq 193) (some Go.Proofs.Tryz.f193) (none)) (cond (n.ble 194) (cond (n.beq 194) (some Go.Proofs.Tryz.f194) (none)) (cond (n.beq 195) (some Go.Proofs.Tryz.f195) (none)))) (cond (n.ble 197) (cond (n.ble 196) (cond (n.beq 196) (some Go.Proofs.Tryz.f196) (none)) (cond (n.beq 197) (some Go.Proofs.Tryz.f197) (none))) (cond (n.ble 198) (cond (n.beq 198) (some Go.Proofs.Tryz.f198) (none)) (cond (n.beq 199) (some Go.Proofs.Tryz.f199) (none)))))) (cond (n.ble 205) (cond (n.ble 202) (cond (n.ble 200) (cond (n.beq 200) (some Go.Proofs.Tryz.f200) (none)) (cond (n.ble 201) (cond (n.beq 201) (some Go.Proofs.Tryz.f201) (none)) (cond (n.beq 202) (some Go.Proofs.Tryz.f202) (none)))) (cond (n.ble 203) (cond (n.beq 203) (some Go.Proofs.Tryz.f203) (none)) (cond (n.ble 204) (cond (n.beq 204) (some Go.Proofs.Tryz.f204) (none)) (cond (n.beq 205) (some Go.Proofs.Tryz.f205) (none))))) (cond (n.ble 208) (cond (n.ble 206) (cond (n.beq 206) (some Go.Proofs.Tryz.f206) (none)) (cond (n.ble 207) (cond (n.beq 207) (some Go.Proofs.Tryz.f207) (none)) (cond (n.beq 208) (some Go.Proofs.Tryz.f208) (none)))) (cond (n.ble 211) (cond (n.ble 210) (cond (n.beq 210) (some Go.Proofs.Tryz.f210) (none)) (cond (n.beq 211) (some Go.Proofs.Tryz.f211) (none))) (cond (n.ble 212) (cond (n.beq 212) (some Go.Proofs.Tryz.f212) (none)) (cond (n.beq 213) (some Go.Proofs.Tryz.f213) (none)))))))))
noncomputable def ctx:Ctx:=⟨qbtv,qbtl,qbsc⟩
end Go.V

namespace Go.V
set_option maxRecDepth 100000
open Go Go.Proofs
theorem qbr0:qck Tryz.prog ctx:=qbrn qboe (fun t h=>by show cond (Nat.ble t qboe) _ _=_;rw[h];rfl) (by kernel_rfl)
theorem mixed:Tryz.prog.follows .mixedOrders=true:=by kernel_rfl
theorem qbs2:∀ (f:FuncId) (fn:Func),Tryz.prog.funcs[f]? = some fn→fn.name≠ "runtime.NumGoroutine" := qbq2 (by kernel_rfl)
end Go.V

namespace Go.V
noncomputable section
open Go
def Wf:(t:Ty)→t.den→Prop
 | .unit,_=>True
 | .int k,n=>(Lit.int k n).wf=true
 | .bool,_=>True
 | .str,s=>s.size≤maxLen
 | .sl t,xs=>xs.length≤maxLen∧∀ x∈xs,Wf t x
 | .pair a b,x=>Wf a x.1∧Wf b x.2
section
variable {H:Type} {enc:TypeId×Value→H} {P:Program} {C:Ctx} {w:World} {sp:Nat→Bool} {held:Bool}
def Old (w:World):BS:=fun b=>b<w.heap.size
theorem TyOk.cellsOf {t:TypeId} (k:TyOk P C t):P.cellsOf t=(C.ty t).width:=by
 obtain ⟨i,h1,h2,_⟩:=k.info
 simp[Program.cellsOf,h1,h2]
theorem qbb5 (hty:qck P C) {n:Nat} (ih:∀ (t:TypeId) (cs:List Value) (z:DataW H×List MemPlace),(C.ty t).nz=true→DataW.trod enc P w 0 sp held n t cs=some z→
   ∃ x:(C.ty t).den,Wf (C.ty t) x∧Rep w.heap (Old w) (C.ty t) .no x cs Nil) {cs:List Value} :
  ∀ (fs:List Field) (off:Nat) (T:Ty),qcv C fs off T→(∀ f∈fs,∃ z,DataW.trod enc P w 0 sp held n f.type ((cs.drop f.offset).take (P.cellsOf f.type))=some z)→cs.length=off+T.width→
   ∃ x:T.den,Wf T x∧Rep w.heap (Old w) T .no x (cs.drop off) Nil
 | [],off,T,hs,_,hl=>by
  simp only[qcv] at hs
  subst hs
  simp only[Ty.width,Nat.add_zero] at hl
  exact ⟨(),trivial,by simp only[Rep];exact List.drop_eq_nil_of_le (by omega)⟩
 | f::fs,off,T,hs,hf,hl=>by
  obtain ⟨b,rfl,ho,_,hnz,hs⟩:=hs
  obtain ⟨z,hz⟩:=hf f (List.mem_cons_self ..)
  obtain ⟨x,wx,rx⟩:=ih _ _ z hnz hz
  rw[(hty _ hnz).cellsOf,ho] at rx
  simp only[Ty.width] at hl
  obtain ⟨y,wy,ry⟩:=qbb5 hty ih fs (off+(C.ty f.type).width) b hs (fun g hg=>hf g (List.mem_cons_of_mem _ hg)) (by omega)
  refine ⟨(x,y),⟨wx,wy⟩,?_⟩
  simp only[Rep]
  refine ⟨_,_,Nil,Nil,?_,rx,ry,Sub.nil _,Sub.nil _,Dis.nil _⟩
  rw[←List.drop_drop,List.take_append_drop]
theorem qbq9 (hty:qck P C):∀ (n:Nat) (t:TypeId) (cs:List Value) (z:DataW H×List MemPlace),(C.ty t).nz=true→DataW.trod enc P w 0 sp held n t cs=some z→
   ∃ x:(C.ty t).den,Wf (C.ty t) x∧Rep w.heap (Old w) (C.ty t) .no x cs Nil:=by
 intro n
 induction n with
 | zero=>intro t cs z _ h;simp[DataW.trod] at h
 | succ n ih=>
  intro t cs z hnz h
  have k:=hty t hnz
  obtain ⟨d,hd,hdo⟩:=k.desc
  cases d with
  | int kd=>
   simp only[qgh] at hdo
   obtain ⟨m,rfl,_,hw⟩:=DataW.trod_int hd h
   rw[hdo]
   exact ⟨m,hw,by simp only[Rep]⟩
  | bool=>
   simp only[qgh] at hdo
   rw[hdo]
   have:∃ b,cs=[.bool b]:=by
    unfold DataW.trod at h
    rw[hd] at h
    split at h<;>simp_all
   obtain ⟨b,rfl⟩:=this
   exact ⟨b,trivial,by simp only[Rep]⟩
  | string=>
   simp only[qgh] at hdo
   obtain ⟨s,rfl,_,hw⟩:=DataW.trod_string hd h
   rw[hdo]
   exact ⟨s,hw,by simp only[Rep]⟩
  | struct fs=>
   simp only[qgh] at hdo
   obtain ⟨xs,m,e,_,hl,hlen,hf⟩:=DataW.trod_struct hd h
   obtain rfl:n=m:=by omega
   rw[k.cellsOf] at hl
   have:=qbb5 (cs:=cs) hty ih fs.toList 0 (C.ty t) hdo.1 (fun f hf'=>by
    obtain ⟨i,hi,e⟩:=List.mem_iff_getElem.1 hf'
    rw[Array.length_toList] at hi
    have h1:=hf i f (by rw[←e];simp[hi])
    exact ⟨xs[i],by rw[h1];simp⟩) (by omega)
   simpa using this
  | slice e=>
   simp only[qgh] at hdo
   obtain ⟨he,hnze⟩:=hdo
   have ke:=hty e hnze
   rw[he]
   rcases DataW.trod_slice hd h with ⟨rfl,_⟩ | ⟨a,len,cap,elems,rest,m,e1,rfl,_,_,hlc,hcm,hel,hat,_⟩
   ·exact ⟨[],⟨Nat.zero_le _,fun x hx=>by simp at hx⟩,by simp only[Rep];exact ⟨none,0,by simp,by simp,fun h=>absurd rfl h⟩⟩
   ·obtain rfl:n=m:=by omega
    rw[ke.cellsOf] at hat
    have hpos:=ke.pos
    have key:∀ i,i<len→∃ (x:(C.ty e).den) (cs:List Value),Wf (C.ty e) x∧Rep w.heap (Old w) (C.ty e) .no x cs Nil∧cs.length=(C.ty e).width∧∀ j,j<(C.ty e).width→w.cell? ((a.add (i * (C.ty e).width)).add j)=cs[j]?:=by
     intro i hi
     have h1:=hat i hi
     rw[List.getElem?_eq_getElem (by omega)] at h1
     rw[Option.bind_eq_some_iff] at h1
     obtain ⟨cs,h2,h3⟩:=h1
     obtain ⟨x,wx,rx⟩:=ih _ _ _ hnze h3
     obtain ⟨_,hl,hc⟩:=World.cells?_some h2
     exact ⟨x,cs,wx,rx,hl,hc⟩
    by_cases h0:len=0
    ·subst h0
     exact ⟨[],⟨Nat.zero_le _,fun x hx=>by simp at hx⟩,by simp only[Rep];exact ⟨some a,cap,by simp,by simp,fun h=>absurd rfl h⟩⟩
    ·have hz:(C.ty e).den:=(C.ty e).zero
     have key2:∀ i,∃ (x:(C.ty e).den),i<len→∃ (cs:List Value),Wf (C.ty e) x∧Rep w.heap (Old w) (C.ty e) .no x cs Nil∧cs.length=(C.ty e).width∧∀ j,j<(C.ty e).width→w.cell? ((a.add (i * (C.ty e).width)).add j)=cs[j]?:=by
      intro i
      by_cases hi:i<len
      ·obtain ⟨x,h⟩:=key i hi;exact ⟨x,fun _=>h⟩
      ·exact ⟨hz,fun h=>absurd h hi⟩
     obtain ⟨f,hf⟩:=Classical.axiomOfChoice key2
     refine ⟨(List.range len).map f,⟨by simp;omega,?_⟩,?_⟩
     ·intro x hx
      simp only[List.mem_map,List.mem_range] at hx
      obtain ⟨i,hi,rfl⟩:=hx
      obtain ⟨_,h,_⟩:=hf i hi
      exact h
     ·have hb:∃ cells ty fr,w.heap[a.block]? = some (.cells cells ty fr)∧a.spot=none:=by
       obtain ⟨cs,_,_,hl,hc⟩:=hf 0 (by omega)
       have h1:=hc 0 hpos
       rw[List.getElem?_eq_getElem (by omega)] at h1
       simp only[Nat.zero_mul,Addr.add,if_true] at h1
       unfold World.cell? at h1
       split at h1
       ·rename_i c ty fr hh
        split at h1
        ·simp at h1
        ·rename_i hs
         exact ⟨c,ty,fr,hh,by simpa using hs⟩
       ·simp at h1
      obtain ⟨cells,ty,fr,hh,hspot⟩:=hb
      obtain ⟨ab,ao,as'⟩:=a
      simp only at hspot hh
      subst hspot
      have hcell:∀ i,i<len→∀ j,j<(C.ty e).width→w.cell? (((⟨ab,ao,none⟩:Addr).add (i * (C.ty e).width)).add j)=cells[ao+i * (C.ty e).width+j]?:=by
       intro i hi j hj
       have:((⟨ab,ao,none⟩:Addr).add (i * (C.ty e).width)).add j=⟨ab,ao+i * (C.ty e).width+j,none⟩:=by
        simp only[Addr.add];split<;>split<;>simp_all
       rw[this]
       simp[World.cell?,hh]
      have hsub:∀ i,i<len→∀ cs:List Value,cs.length=(C.ty e).width→(∀ j,j<(C.ty e).width→w.cell? (((⟨ab,ao,none⟩:Addr).add (i * (C.ty e).width)).add j)=cs[j]?)→
        sub cells (ao+i * (C.ty e).width) (C.ty e).width=cs∧ao+i * (C.ty e).width+(C.ty e).width≤cells.size:=by
       intro i hi cs hl hc
       have h2:∀ j,j<(C.ty e).width→cells[ao+i * (C.ty e).width+j]? = cs[j]?:=fun j hj=>by rw[←hcell i hi j hj];exact hc j hj
       have h3:ao+i * (C.ty e).width+(C.ty e).width≤cells.size:=by
        have:=h2 ((C.ty e).width - 1) (by omega)
        rw[List.getElem?_eq_getElem (by omega)] at this
        have:=(Array.getElem?_eq_some_iff.1 this).1
        omega
       refine ⟨?_,h3⟩
       apply List.ext_getElem?
       intro j
       simp only[sub,List.getElem?_take,List.getElem?_drop]
       split
       ·rename_i hj;rw[Array.getElem?_toList];exact h2 j hj
       ·rename_i hj;rw[List.getElem?_eq_none (by omega)]
      simp only[Rep]
      refine ⟨some ⟨ab,ao,none⟩,cap,by simp,by simpa using hlc,fun _=>⟨ab,ao,cells,rfl,?_,⟨ty,fr,hh⟩,?_,?_⟩⟩
      ·exact (Array.getElem?_eq_some_iff.1 hh).1
      ·obtain ⟨cs,_,_,hl,hc⟩:=hf (len - 1) (by omega)
       have:=(hsub (len - 1) (by omega) cs hl hc).2
       have e2:len * (C.ty e).width=(len - 1) * (C.ty e).width+(C.ty e).width:=by
        rw[show len=(len - 1)+1 by omega,Nat.add_mul];simp
       simp only[List.length_map,List.length_range]
       omega
      ·intro i hi
       simp only[List.length_map,List.length_range] at hi
       obtain ⟨cs,wx,rx,hl,hc⟩:=hf i hi
       have e3:((List.range len).map f).getD i (C.ty e).zero=f i:=by
        simp[List.getD,hi]
       rw[e3,(hsub i hi cs hl hc).1]
       exact rx
  | _=>simp[qgh] at hdo
theorem qbto {t:TypeId} (k:TyOk P C t) {r:Reach} {b0:Nat} {v:Value} (hval:Value.okWide P w r b0 t v):v=mkV (C.ty t) v.cells.toList:=by
 obtain ⟨d,hd,hdo⟩:=k.desc
 cases d with
 | int kd=>simp only[qgh] at hdo;obtain ⟨n,rfl⟩:=Go.WideShapes.okWide_int hd hval;rw[hdo];simp[mkV,Ty.agg,Value.cells]
 | bool=>simp only[qgh] at hdo;obtain ⟨n,rfl⟩:=Go.WideShapes.okWide_bool hd hval;rw[hdo];simp[mkV,Ty.agg,Value.cells]
 | string=>simp only[qgh] at hdo;obtain ⟨n,rfl⟩:=Go.WideShapes.okWide_string hd hval;rw[hdo];simp[mkV,Ty.agg,Value.cells]
 | struct fs=>
  simp only[qgh] at hdo
  obtain ⟨cs,rfl,_⟩:=Go.WideShapes.okWide_struct hd hval
  have:(C.ty t).agg=true:=by
   generalize hfl:fs.toList=l at hdo
   cases l with
   | nil=>exact absurd hdo.1 hdo.2
   | cons f l=>obtain ⟨⟨b,e,_⟩,_⟩:=hdo;rw[e];rfl
  simp[mkV,this,Value.cells]
 | slice e=>
  simp only[qgh] at hdo
  obtain ⟨a,l,c,rfl⟩:=Go.WideShapes.okWide_slice hd hval
  rw[hdo.1];simp[mkV,Ty.agg,Value.cells]
 | _=>simp[qgh] at hdo
def qsu:List TypeId→List PK→Ctx→Prop
 | [],[],_=>True
 | t::ts,.val T::ks,C=>T=C.ty t∧(C.ty t).nz=true∧qsu ts ks C
 | _,_,_=>False
def qbjz:(ks:List PK)→PDen ks→Prop
 | [],_=>True
 | .val t::ks,a=>Wf t a.1∧qbjz ks a.2
 | _::ks,a=>qbjz ks a.2
theorem qblu (hty:qck P C) {b0:Nat}:∀ (ts:List TypeId) (ks:List PK) (vs:List Value) (ds:List (DataW H)) (ps:List MemPlace) (i:Nat),qsu ts ks C→DataW.TrodAll enc P w 0 sp held ts vs ds ps→
  (∀ (j:Nat) t v,ts[j]? = some t→vs[j]? = some v→Value.okWide P w .any b0 t v)→∃ a:PDen ks,qbjz ks a∧qvh w.heap (Old w) (fun _=>Nil) i ks a vs
 | [],[],vs,ds,ps,i,_,h,_=>by
  obtain ⟨rfl,_,_⟩:=Go.ChangeShapes.trodAll_nil h
  exact ⟨(),trivial,rfl⟩
 | t::ts,.val T::ks,vs,ds,ps,i,hv,h,hok=>by
  obtain ⟨rfl,hnz,hv⟩:=hv
  obtain ⟨v,vs',d,ds',p,q,rfl,rfl,rfl,⟨n,h1⟩,h2⟩:=Go.ChangeShapes.trodAll_cons h
  obtain ⟨x,wx,rx⟩:=qbq9 hty n t _ _ hnz h1
  obtain ⟨a,wa,ra⟩:=qblu hty ts ks vs' ds' q (i+1) hv h2 (fun j t' v' ht hv'=>hok (j+1) t' v' (by simpa using ht) (by simpa using hv'))
  exact ⟨(x,a),⟨wx,wa⟩,v,vs',rfl,⟨_,rx,qbto (hty t hnz) (hok 0 t v rfl rfl)⟩,ra⟩
 | [],_::_,_,_,_,_,hv,_,_=>by simp[qsu] at hv
 | _::_,[],_,_,_,_,hv,_,_=>by simp[qsu] at hv
 | _::_,.own _ _::_,_,_,_,_,hv,_,_=>by simp[qsu] at hv
 | _::_,.mutp _ _ _::_,_,_,_,_,hv,_,_=>by simp[qsu] at hv
 | _::_,.mutv _ _ _::_,_,_,_,_,hv,_,_=>by simp[qsu] at hv
 | _::_,.rptr _::_,_,_,_,_,hv,_,_=>by simp[qsu] at hv
 | _::_,.fn::_,_,_,_,_,hv,_,_=>by simp[qsu] at hv
theorem qbs6 {n b:Nat} (h:May n (fun _=>Nil) b):n≤b:=h.elim id (fun ⟨_,h⟩=>h.elim)
theorem qbqw {W W':World} (h:WFr (May W.heap.size fun _=>Nil) W W'):Go.RowKit.Below W.heap.size W W':=
 ⟨h.os,h.tape,h.output,h.size,fun k hk=>h.block k hk fun hm=>by have:=qbs6 hm;omega⟩
end
end
end Go.V

namespace Go.V
noncomputable section
open Go
section
variable (C:Ctx) (D:Den C) {R:Type}
def qbee (body:St→(Ex→St→Option R)→Option R) (canon canonOut:St→St):Nat→St→(Ex→St→Option R)→Option R
 | 0,_,_=>none
 | n+1,S,k=>body S fun e S=>match e with
  | .normal=>qbee body canon canonOut n (canon S) k
  | e=>k e (canonOut S)
theorem qbkj (body:St→(Ex→St→Option R)→Option R) (canon canonOut:St→St) (k:Ex→St→Option R):∀ (n:Nat) (S:St),q6d body canon canonOut n S k=qbee body canon canonOut n (canon S) k
 | 0,_=>rfl
 | n+1,S=>by
  simp only[q6d,qbee]
  congr 1
  funext e S
  cases e with
  | normal=>exact qbkj body canon canonOut k n S
  | exit id=>rfl
  | ret=>rfl
noncomputable def qet (H:Hints) (n:Nat):Code→St→(Ex→St→Option R)→Option R
 | .skip,S,k=>k .normal S
 | .region id ops dr,S,k=>
  if q2g ops then
   qnk C D H id ops (ops.size+1) (qev ops) S [] fun lg S=>
    if dr then (if qwr ops&&quk (Region.before ops) lg lg&&qtx (Region.before ops) ops (qev ops) then k .normal S else none) else k .normal S
  else none
 | .seq a b,S,k=>qet H n a S fun e S=>match e with
  | .normal=>qet H n b (cutC H b S) k
  | e=>k e S
 | .cond c a b,S,k=>
  match asBool (ev S c) with
  | some t=>br t (qet H n a S k) (qet H n b S k)
  | none=>none
 | .block id b,S,k=>qet H n b S fun e S=>match e with
  | .exit j=>if j=id then k .normal S else k (.exit j) S
  | e=>k e S
 | .loop b,S,k=>
  match H.keep.lookup (qnu b) with
  | some kp=>qbee (qet H n b) (St.canon kp.1 kp.2.2) (St.canon kp.2.1 kp.2.2) n (St.canon kp.1 kp.2.2 S) k
  | none=>none
 | .exit id,S,k=>k (.exit id) S
 | .ret,S,k=>k .ret S
 | _,_,_=>none
theorem qbsy (H:Hints) (n:Nat):∀ (c:Code),(exec C D H n c:St→(Ex→St→Option R)→Option R)=qet C D H n c:=by
 intro c
 induction c with
 | seq a b iha ihb=>funext S k;simp only[exec,qet,iha,ihb];rfl
 | cond c a b iha ihb=>funext S k;simp only[exec,qet,iha,ihb];rfl
 | block id b ih=>funext S k;simp only[exec,qet,ih];rfl
 | loop b ih=>funext S k;simp only[exec,qet,ih,qbkj];rfl
 | _=>funext S k;simp only[exec,qet]
inductive Dir where
 | l | r
def qd7:Code→List Dir→Code
 | c,[]=>c
 | .seq a _,.l::p=>qd7 a p
 | .seq _ b,.r::p=>qd7 b p
 | .cond _ a _,.l::p=>qd7 a p
 | .cond _ _ b,.r::p=>qd7 b p
 | .block _ b,.l::p=>qd7 b p
 | .loop b,.l::p=>qd7 b p
 | _,_=>.skip
noncomputable def qzg (H:Hints) (n:Nat):Nat→Code→St→(St→Option R)→(Ex→St→Option R)→Option R
 | 0,_,S,K,_=>K S
 | m+1,.seq a b,S,K,k=>qet C D H n a S fun e S=>match e with
  | .normal=>qzg H n m b (cutC H b S) K k
  | e=>k e S
 | _+1,_,_,_,_=>none
def seqs:Nat→Code→Bool
 | 0,_=>true
 | m+1,.seq _ b=>seqs m b
 | _+1,_=>false
theorem qbe0 (c:Code):qd7 c []=c:=by cases c<;>rfl
theorem qbcn:∀ p,qd7 .skip p=.skip
 | []=>rfl
 | .l::_=>rfl
 | .r::_=>rfl
theorem q57:∀ (p:List Dir) (c:Code) (q:List Dir),qd7 c (p++q)=qd7 (qd7 c p) q
 | [],c,q=>by rw[qbe0];rfl
 | .l::p,c,q=>by
  cases c<;>first
   | exact q57 p _ q
   | exact (qbcn q).symm
 | .r::p,c,q=>by
  cases c<;>first
   | exact q57 p _ q
   | exact (qbcn q).symm
theorem q8z (H:Hints) (n:Nat) (k:Ex→St→Option R):∀ (m:Nat) (c:Code) (S:St),seqs m c=true→
  qzg C D H n m c S (fun S'=>qet C D H n (qd7 c (List.replicate m .r)) S' k) k=qet C D H n c S k
 | 0,c,S,_=>by simp only[qzg,List.replicate,qbe0]
 | m+1,c,S,h=>by
  cases c with
  | seq a b=>
   simp only[qzg,qet]
   congr 1
   funext e S'
   cases e with
   | normal=>exact q8z H n k m b (cutC H b S') h
   | exit id=>rfl
   | ret=>rfl
  | _=>simp[seqs] at h
theorem qbo6 (H:Hints) (n m:Nat) (k:Ex→St→Option R) (c:Code) (p q:List Dir) (S:St) (hq:q=p++List.replicate m .r) (h:seqs m (qd7 c p)=true) :
  qzg C D H n m (qd7 c p) S (fun S'=>qet C D H n (qd7 c q) S' k) k=qet C D H n (qd7 c p) S k:=by
 subst hq
 rw[q57]
 exact q8z C D H n k m _ S h
theorem qbrs (H:Hints) (n m:Nat) (k:Ex→St→Option R) (c:Code) (q:List Dir) (S:St) (hq:q=List.replicate m .r) (h:seqs m c=true) :
  qzg C D H n m c S (fun S'=>qet C D H n (qd7 c q) S' k) k=qet C D H n c S k:=by
 subst hq
 exact q8z C D H n k m _ S h
noncomputable def q5q (H:Hints) (n:Nat):Code→List Dir→(Ex→St→Option R)→Ex→St→Option R
 | _,[],k=>k
 | .seq a b,.l::p,k=>q5q H n a p fun e S=>match e with
  | .normal=>qet C D H n b (cutC H b S) k
  | e=>k e S
 | .seq _ b,.r::p,k=>q5q H n b p k
 | .cond _ a _,.l::p,k=>q5q H n a p k
 | .cond _ _ b,.r::p,k=>q5q H n b p k
 | .block id b,.l::p,k=>q5q H n b p fun e S=>match e with
  | .exit j=>if j=id then k .normal S else k (.exit j) S
  | e=>k e S
 | _,_,_=>fun _ _=>none
end
def q87 {α:Type} (d:α):Nat→Nat→List (Nat×α)→List α
 | _,0,_=>[]
 | i,n+1,[]=>d::q87 d (i+1) n []
 | i,n+1,(j,v)::l=>cond (Nat.beq i j) (v::q87 d (i+1) n l) (d::q87 d (i+1) n ((j,v)::l))
def stq (n:Nat) (sl:List (Nat×AV)) (rt:List (Nat×Root)):St:=⟨q87 .undef 0 n sl,q87 none 0 n (rt.map fun x=>(x.1,some x.2))⟩
section
variable {C:Ctx} (func:FuncId→Option Func) (D:Den C) (n:Nat)
def qjq (f:FuncId):Code:=
 match func f with
 | some fn=>fn.body.getD .skip
 | none=>.skip
def qbrv (f:FuncId):List ResultVar:=
 match func f with
 | some fn=>fn.results.toList
 | none=>[]
def qbki (f:FuncId):Nat:=
 match func f with
 | some fn=>fn.ntmps
 | none=>0
abbrev Out (C:Ctx) (f:FuncId):Type:=RDen (C.sig f).res×ODen (C.sig f).params
noncomputable def qi (f:FuncId):Ex→St→Option (Out C f):=fun e S=>
 match e with
 | .exit _=>none
 | _=>(qok C (C.sig f).res (qbrv func f) S).bind fun r=>(outs (C.hints f) 0 (C.sig f).params r.2).bind fun o=>some (r.1,o)
noncomputable def rfC (f:FuncId) (a:PDen (C.sig f).params):Option (Out C f):=
 match func f with
 | none=>none
 | some fn=>
  if fn.body.isSome&&((C.sig f).params.all PK.enterOk&&(Nat.ble (C.sig f).params.length fn.ntmps&&qf9 (qfu 0 (C.sig f).params) (qjq func f))) then
   qet C D (C.hints f) n (qjq func f) (enter ⟨List.replicate fn.ntmps .undef,List.replicate fn.ntmps none⟩ 0 (C.sig f).params a) (qi func f)
  else none
def runs (f:FuncId):Bool:=
 match func f with
 | none=>false
 | some fn=>fn.body.isSome&&((C.sig f).params.all PK.enterOk&&(Nat.ble (C.sig f).params.length fn.ntmps&&qf9 (qfu 0 (C.sig f).params) (qjq func f)))
def qbgg (f:FuncId) (a:PDen (C.sig f).params):St:=enter ⟨List.replicate (qbki func f) .undef,List.replicate (qbki func f) none⟩ 0 (C.sig f).params a
theorem qbro (f:FuncId) (a:PDen (C.sig f).params) (h:runs (C:=C) func f=true) :
  rfC func D n f a=qet C D (C.hints f) n (qjq func f) (qbgg func f a) (qi func f):=by
 unfold runs at h
 unfold rfC qbgg qbki
 split at h
 ·simp at h
 ·rename_i fn hf
  simp only[hf]
  rw[if_pos h]
noncomputable def LQ (f:FuncId) (p:List Dir) (m:Nat) (S:St) (K:Ex→St→Option (Out C f)):Option (Out C f):=
 match qd7 (qjq func f) p with
 | .loop b=>
  match (C.hints f).keep.lookup (qnu b) with
  | some kp=>qbee (qet C D (C.hints f) n b) (St.canon kp.1 kp.2.2) (St.canon kp.2.1 kp.2.2) m S K
  | none=>none
 | _=>none
noncomputable def LK (f:FuncId) (p:List Dir) (m:Nat) (K:Ex→St→Option (Out C f)):Ex→St→Option (Out C f):=fun e S=>
 match qd7 (qjq func f) p with
 | .loop b=>
  match (C.hints f).keep.lookup (qnu b) with
  | some kp=>match e with
   | .normal=>LQ func D n f p m (St.canon kp.1 kp.2.2 S) K
   | e=>K e (St.canon kp.2.1 kp.2.2 S)
  | none=>none
 | _=>none
noncomputable def CQ (f:FuncId) (p q:List Dir) (K:Ex→St→Option (Out C f)):Ex→St→Option (Out C f):=
 q5q C D (C.hints f) n (qd7 (qjq func f) p) q K
theorem q8 (f:FuncId) (p:List Dir) (S:St) (K:Ex→St→Option (Out C f)):LQ func D n f p 0 S K=none:=by
 unfold LQ
 split
 ·split<;>rfl
 ·rfl
theorem qbsu (f:FuncId) (a:PDen (C.sig f).params):(match func f with
  | none=>none
  | some fn=>runF C D n fn (C.hints f) (C.sig f).params (C.sig f).res a)=rfC func D n f a:=by
 unfold rfC
 split
 ·rfl
 ·rename_i fn hf
  unfold runF qjq qi qbrv
  rw[hf]
  simp only
  cases fn.body with
  | none=>simp
  | some c=>simp only[Option.isSome_some,Bool.true_and,Option.getD_some,qbsy];rfl
end
end
end Go.V

namespace Go.V
noncomputable section
open Go Go.Proofs Go.RowKit Go.ChangeShapes
set_option maxRecDepth 100000
structure Ext where
 den:Den ctx
 is:FuncId→Bool
 ok:∀ f,is f=true→FnOk Tryz.prog ctx den f
 call:∀ f a r,is f=true→den f a=some r→qma Tryz.prog f
noncomputable def DD (X:Ext) (n:Nat):Den ctx:=Dn ctx X.den X.is (fun g=>Tryz.prog.funcs[g]?) n
theorem qbt3 (X:Ext) (n:Nat):DOk Tryz.prog ctx (DD X n):=qbr3 qbr0 mixed X.ok X.call qbs2 n
theorem ql (X:Ext) {g:FuncId} {fn:Func} (hf:Tryz.prog.funcs[g]? = some fn) (ht:qc g=some fn) (hx:X.is g=false) (n:Nat) (a:PDen (ctx.sig g).params) :
  DD X (n+1) g a=rfC qc (DD X n) n g a:=by
 have:=qbsu qc (DD X n) n g a
 rw[ht] at this
 rw[←this]
 unfold DD
 simp only[Dn,hx,Bool.false_eq_true,if_false,hf]
theorem qbgc (X:Ext) {g:FuncId} (hx:X.is g=true) (n:Nat) (a:PDen (ctx.sig g).params):DD X (n+1) g a=X.den g a:=by
 unfold DD
 simp only[Dn,hx,if_true]
section
variable {H:Type} {enc:TypeId×Value→H} {P:Program}
theorem q7e (hl:laidOutB P=true) {W W':World} (hb:Below W.heap.size W W'):∀ {ts:List TypeId} {vs:List Value} {ds:List (DataW H)} {ps:List MemPlace},
  ts.all (fun t=>P.readableRec t&&Nat.blt t P.types.size)=true→DataW.TrodAll enc P W 0 (fun _=>true) true ts vs ds ps→(∀ x∈ps,x.block<W.heap.size)→
  DataW.TrodAll enc P W' 0 (fun b=>decide (b<W.heap.size)) true ts vs ds ps
 | [],_,_,_,_,h,_=>by
  obtain ⟨rfl,rfl,rfl⟩:=trodAll_nil h
  exact trodAll_mk0
 | t::ts,_,_,_,ht,h,hlt=>by
  obtain ⟨v,vs1,d,ds1,a,b,rfl,rfl,rfl,h1,h2⟩:=trodAll_cons h
  simp only[List.all_cons,Bool.and_eq_true] at ht
  exact ⟨a,b,Below.trod hl ht.1.1 (qfs.1 ht.1.2) h1 hb (fun x hx=>hlt x (by simp[hx])),q7e hl hb ht.2 h2 (fun x hx=>hlt x (by simp[hx])),rfl⟩
end
theorem laid:laidOutB Tryz.prog=true:=by kernel_rfl
theorem qbrd:ownKnob Tryz.prog.godebug=none:=by kernel_rfl
theorem qbp0 {H:Type} {enc:TypeId×Value→H} {X:Ext} {f:FuncId} {fn:Func} {s:ChangeSpec} {conds:List PathCond} {tb:TypeId} {os:Os} (started:os.Started)
  (hfn:Tryz.prog.funcs[f]? = some fn) (hinit:Tryz.prog.inits.idxOf? f=none)
  (witness:∃ (w:World) (tape:Tape) (i:Input),w.os=os∧(w.forCall tape i).Shaped Tryz.prog∧i.vars=[]∧Input.okWide Tryz.prog (w.forCall tape i) .any w.heap.size f i∧
   s.pre6 enc Tryz.prog fn conds false (w.forCall tape i).memory i.args∧Assume.holds {} Tryz.prog (lone (Frame.enter Tryz.prog f i.args .normal) [] (w.forCall tape i)))
  (hps:qsu fn.params.toList (ctx.sig f).params ctx) (hrd:fn.params.toList.all (fun t=>Tryz.prog.readableRec t&&Nat.blt t Tryz.prog.types.size)=true)
  (hres:fn.resultTypes = #[tb]) (htb:Tryz.prog.underlying tb=some .bool) (hvars:s.vars=[])
  (hspec:∀ ds:List (DataW H),ds.length=fn.params.size→(s.fn H ds).results=[.lit (.bool true)]∧(s.fn H ds).args=ds∧(s.fn H ds).vars=[])
  (hlaw:∀ a,qbjz (ctx.sig f).params a→∃ n r,DD X n f a=some r∧∀ h Pr Gs us,qel h Pr Gs 0 (ctx.sig f).res r.1 us→us=[.bool true]) :
  ReturnsInHanded {} Tryz.checked os f .any (s.pre6 enc Tryz.prog fn conds false) (s.post enc Tryz.prog fn false true false false):=by
 refine returnsInHanded_of_change_sized (C:=Tryz.checked) qbrd started hinit hfn witness ?_
 intro W base args ds gs before hval hW hcnd hsz _
 have hW':=hW
 have hlt:=hW.lt
 obtain ⟨p,q,hA,hV,rfl,hfz,hnd⟩:=hW
 rw[hvars] at hV
 obtain ⟨rfl,rfl⟩:=trodVars_none hV
 obtain ⟨a,wa,ra⟩:=qblu qbr0 fn.params.toList (ctx.sig f).params args.toList ds p 0 hps hA (fun j t v ht hv=>hval j t v (by simpa using ht) (by simpa using hv))
 obtain ⟨n,r,hr,hb⟩:=hlaw a wa
 have pre:Pre W.heap (Old W) (fun _=>Nil) (ctx.sig f).params a args.toList:=
  ⟨ra,fun _ _ _=>Dis.nil _,fun _=>Dis.nil _,fun _ b hb=>hb.elim,fun b hb=>hb⟩
 have hc:=(qbt3 X n).ok f a r hr W (Old W) (fun _=>Nil) args.toList pre
 rw[Array.toArray_toList] at hc
 refine hc.mono ?_
 rintro e W' ⟨val,Pr',Gs,Os,us,rfl,ps⟩
 obtain rfl:=hb _ _ _ _ ps.res
 have hv:=ps.val
 simp only[qly] at hv
 subst hv
 have bel:=qbqw ps.fr
 obtain ⟨e1,e2,e3⟩:=hspec (ds++[]) (by rw[List.append_nil,(trodAll_length hA).2,Array.length_toList])
 refine ⟨_,rfl,ds,[],p++[],[],p,[],hW',?_,?_,?_,bel.frame _,fun h=>by cases h⟩
 ·rw[e1,hres]
  exact trodAll_mk1 (shut_bool htb _)
 ·rw[e2,List.append_nil]
  exact q7e laid bel hrd hA (fun x hx=>hlt x (by simp[hx]))
 ·rw[e3,hvars]
  rfl
end
end Go.V

namespace Go.V
noncomputable section
set_option maxRecDepth 100000
open Go Go.Proofs Go.RowKit
def renC:Shelf.Ren:=⟨fun n=>cond (n.beq 106) 192 (cond (n.beq 213) 209 214),fun t=>t,fun g=>g⟩
theorem qbt2:Lays.n106 Tryz.prog renC where
 mixed:=by kernel_rfl
 f106:=by kernel_rfl
 f213:=by kernel_rfl
 f265:=by kernel_rfl
 t3:=by kernel_rfl
 a3:=fun w=>rfl
 z3:=fun w=>rfl
 v3:=fun w=>rfl
 t9:=by kernel_rfl
 a9:=fun w=>rfl
 z9:=fun w=>rfl
 v9:=fun w=>rfl
def scmp (a b:ByteArray):Int:=Lib.compareBytes a.data.toList b.data.toList
abbrev SigC:Sig:=⟨[.val .str,.val .str],[.val (.int .i64) .no]⟩
theorem sigC:ctx.sig 192=SigC:=by kernel_rfl
def qbfx (P:Program) (sg:Sig) (f:FuncId) (d:PDen sg.params→Option (RDen sg.res×ODen sg.params)):Prop:=
 ∀ a r,d a=some r→∀ (w:World) (Pr:BS) (Fs:Nat→BS) (vs:List Value),Pre w.heap Pr Fs sg.params a vs→
  Calls P f vs.toArray w fun e w'=>∃ val Pr' Gs Os us,e=.returned val∧Pst w w' Pr Fs sg.params sg.res r.1 r.2 vs val Pr' Gs Os us
def qri {C:Ctx} {f:FuncId} {sg:Sig} (h:C.sig f=sg) (d:PDen sg.params→Option (RDen sg.res×ODen sg.params)):PDen (C.sig f).params→Option (RDen (C.sig f).res×ODen (C.sig f).params):=by
 rw[h];exact d
theorem qbal {P:Program} {C:Ctx} {D:Den C} {f:FuncId} {sg:Sig} (h:C.sig f=sg) {d:PDen sg.params→Option (RDen sg.res×ODen sg.params)} (hd:D f=qri h d) (k:qbfx P sg f d):FnOk P C D f:=by
 unfold FnOk
 rw[hd]
 subst h
 exact k
theorem qbtn:qbfx Tryz.prog SigC 192 fun a=>some ((scmp a.1 a.2.1,()),()):=by
  intro a r h w Pr Fs vs pre
  simp only[Option.some.injEq] at h
  subst h
  obtain ⟨v1,vs1,rfl,⟨c1,r1,rfl⟩,v2,vs2,rfl,⟨c2,r2,rfl⟩,k2⟩:=pre.rel
  obtain rfl:vs2=[]:=k2
  simp only[Rep] at r1 r2
  subst r1
  subst r2
  refine (Any.strings_Compare qbt2 a.1 a.2.1 w).mono ?_
  rintro e w' ⟨rfl,rfl⟩
  refine ⟨.int .i64 (scmp a.1 a.2.1),Pr,fun _=>Nil,fun _=>Nil,[.int .i64 (scmp a.1 a.2.1)],rfl,?_⟩
  exact { res:=⟨_,[],rfl,⟨[.int .i64 (scmp a.1 a.2.1)],by simp only[Rep],rfl⟩,rfl⟩,val:=rfl,out:=⟨_,_,rfl,_,_,rfl,rfl⟩,pr:=Sub.refl _,prL:=fun b hb=>.inl hb,
          gL:=fun _ _ hb=>hb.elim,oL:=fun _ _ hb=>hb.elim,gdis:=fun _ _ _=>Dis.nil _,odis:=fun _ _ _=>Dis.nil _,go:=fun _ _=>Dis.nil _,gp:=fun _=>Dis.nil _,op:=fun _=>Dis.nil _,
          glim:=fun _ _ hb=>hb.elim,olim:=fun _ _ hb=>hb.elim,plim:=pre.limPr,fr:=WFr.refl _ _ }
theorem qbj9:qma Tryz.prog 192:=⟨Tryz.f192,Tryz.func192,by decide +kernel,rfl⟩
end
end Go.V


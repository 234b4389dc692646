import Derived.Orders
import Derived.Test.YtpmimbgkiindbaaGreatProg
import Derived.KernelRfl
import Derived.WalkKit
import Derived.ProofKit
import Derived.OpenShut
import Derived.Below
import Derived.ChangeOld
import Derived.SizedLaws
import Derived.Test.YtpmimbgkiindbaaGreatRows
import Derived.Carry
import Derived.ChangeCalls
import Derived.Test.YtpmimbgkiindbaaGreatAV2
set_option linter.unusedVariables false
set_option linter.unusedSimpArgs false
set_option linter.unusedSectionVars false
namespace Go.V
noncomputable section
open Go
theorem qbty (look:Nat→Nat) (i:Nat):∀ (l:List Edge) (s:Nat),(l.foldl (fun s e=>if Region.binds .any e then s |||2 ^ e.on |||look e.on else s) s).testBit i=true→
  s.testBit i=true∨∃ e∈l,Region.binds .any e=true∧(e.on=i∨(look e.on).testBit i=true)
 | [],s,h=>.inl h
 | e::l,s,h=>by
  rw[List.foldl_cons] at h
  rcases qbty look i l _ h with h | ⟨e',he,hh⟩
  ·by_cases hb:Region.binds .any e=true
   ·rw[z6 hb,Nat.testBit_or,Nat.testBit_or,Nat.testBit_two_pow] at h
    simp only[Bool.or_eq_true,z45] at h
    rcases h with (h | h) | h
    ·exact .inl h
    ·exact .inr ⟨e,z14,hb,.inl h⟩
    ·exact .inr ⟨e,z14,hb,.inr h⟩
   ·rw[z5 hb] at h;exact .inl h
  ·exact .inr ⟨e',z16 _ he,hh⟩
def qb1t (acc:Array Nat) (l:List Oper):Prop:=acc.size=l.length∧∀ j i,(acc.getD j 0).testBit i=true→∃ o,l[j]? = some o∧∃ e∈o.after,Region.binds .any e=true∧(e.on=i∨(e.on<j∧(acc.getD e.on 0).testBit i=true))
theorem qby0:∀ (l:List Oper) (acc:Array Nat) (d:List Oper),qb1t acc d→
  qb1t (l.foldl (fun acc o=>acc.push (o.after.foldl (fun s e=>if Region.binds .any e then s |||2 ^ e.on |||acc.getD e.on 0 else s) 0)) acc) (d++l)
 | [],acc,d,h=>by simpa using h
 | o::l,acc,d,h=>by
  rw[List.foldl_cons]
  have e:d++o::l=(d++[o])++l:=by simp
  rw[e]
  refine qby0 l _ _ ⟨by simp[h.1],fun j i hb=>?_⟩
  have hs:=h.1
  have gd:∀ q (v:Nat),(acc.push v).getD q 0=if q=acc.size then v else acc.getD q 0:=by
   intro q v
   simp only[Array.getD_eq_getD_getElem?,Array.getElem?_push]
   split<;>rfl
  rw[gd] at hb
  by_cases hj:j=acc.size
  ·rw[z6 hj,←Array.foldl_toList] at hb
   rcases qbty (fun n=>acc.getD n 0) i _ _ hb with h0 | ⟨e',he,hbd,hh⟩
   ·simp at h0
   ·refine ⟨o,by rw[hj,hs];simp,e',by simpa using he,hbd,?_⟩
    rcases hh with hh | hh
    ·exact .inl hh
    ·have hlt:e'.on<acc.size:=by
      rcases Nat.lt_or_ge e'.on acc.size with h | h
      ·exact h
      ·simp[Array.getD_eq_getD_getElem?,Array.getElem?_eq_none h] at hh
     refine .inr ⟨by omega,?_⟩
     rw[gd,z5 (by omega)]
     exact hh
  ·rw[z5 hj] at hb
   obtain ⟨o',ho',e',he,hbd,hh⟩:=h.2 j i hb
   have hlt:j<d.length:=(List.getElem?_eq_some_iff.1 ho').1
   refine ⟨o',by rw[z43 hlt];exact ho',e',he,hbd,hh.imp id fun hh=>⟨hh.1,?_⟩⟩
   rw[gd,z5 (by omega)]
   exact hh.2
theorem qbo5 (ops:Array Oper) {j i:Nat} (h:((Region.before ops).getD j 0).testBit i=true) :
  ∃ o,ops[j]? = some o∧∃ e∈o.after,Region.binds .any e=true∧(e.on=i∨(e.on<j∧((Region.before ops).getD e.on 0).testBit i=true)):=by
 have:=qby0 ops.toList #[] [] ⟨rfl,fun j i hb=>by simp at hb⟩
 unfold Region.before at h ⊢
 rw[←Array.foldl_toList] at h ⊢
 obtain ⟨o,ho,hh⟩:=this.2 j i h
 exact ⟨o,by simpa using ho,hh⟩
theorem qbyu {ops:Array Oper} (he:qzj ops=true):∀ (j i:Nat),((Region.before ops).getD j 0).testBit i=true→i<j:=by
 intro j
 induction j using Nat.strongRecOn with
 | _ j ih=>
  intro i h
  obtain ⟨o,ho,e,hm,hb,hh⟩:=qbo5 ops h
  have hlt:e.on<j:=by
   simp only[qzj,List.all_eq_true] at he
   have hx:(j,o)∈qfe ops:=by
    simp only[qfe,z37]
    exact ⟨(o,j),List.mem_zipIdx_iff_getElem?.2 (by simpa using ho),rfl⟩
   have:=he (j,o) hx
   rw[Array.all_eq_true_iff_forall_mem] at this
   have:=this e hm
   rw[hb] at this
   simpa [qge] using this
  rcases hh with rfl | ⟨_,hh⟩
  ·exact hlt
  ·exact Nat.lt_trans (ih e.on hlt i hh) hlt
def Down (ops:Array Oper) (listed:Array Bool):Prop:=∀ (j:Nat) o,ops[j]? = some o→listed.getD j false=true→∀ e∈o.after,Region.binds .any e=true→listed.getD e.on false=true
theorem qbp7 {ops:Array Oper} {listed:Array Bool} (hd:Down ops listed):∀ (j i:Nat),((Region.before ops).getD j 0).testBit i=true→
  (∀ o,ops[j]? = some o→∀ e∈o.after,Region.binds .any e=true→listed.getD e.on false=true)→listed.getD i false=true:=by
 intro j
 induction j using Nat.strongRecOn with
 | _ j ih=>
  intro i h hl
  obtain ⟨o,ho,e,hm,hb,hh⟩:=qbo5 ops h
  have h1:=hl o ho e hm hb
  rcases hh with rfl | ⟨hlt,hh⟩
  ·exact h1
  ·exact ih e.on hlt i hh fun o' ho'=>hd e.on o' ho' h1
theorem Ent.free_symm (e f:Ent):e.free f=f.free e:=by
 unfold Ent.free
 cases e.wr<;>cases f.wr
 ·rfl
 ·rfl
 ·rfl
 ·rename_i w w'
  simp only
  cases e.lc<;>cases f.lc<;>cases disj w f.rd<;>cases disj w w'<;>cases disj w' e.rd<;>cases disj w' w<;>cases e.st.contains f.site<;>cases f.st.contains e.site<;>rfl
theorem qbj9 {M:Array Nat} {e:Ent}:∀ {l:Log},qbe3 M e l=true→∀ f∈l,e.i=f.i∨qj5 M e.i f.i=true∨e.free f=true
 | [],_,f,hf=>by simp at hf
 | g::l,h,f,hf=>by
  simp only[qbe3,z9,Bool.or_eq_true] at h
  rcases z15.1 hf with rfl | hf
  ·rcases h.1 with (h | h) | h
   ·exact .inl (Nat.eq_of_beq_eq_true h)
   ·exact .inr (.inl h)
   ·exact .inr (.inr h)
  ·exact qbj9 h.2 f hf
theorem qbb2 {M:Array Nat} {all:Log}:∀ {l:Log},qvq M all l=true→∀ e∈l,e.wr≠none→∀ f∈all,e.i=f.i∨qj5 M e.i f.i=true∨e.free f=true
 | [],_,e,he=>by simp at he
 | g::l,h,e,he=>by
  simp only[qvq,z9] at h
  intro hw
  rcases z15.1 he with rfl | he
  ·have:=h.1
   cases hwe:e.wr with
   | none=>exact absurd hwe hw
   | some W=>rw[hwe] at this;exact qbj9 this
  ·exact qbb2 h.2 e he hw
theorem qbq2 (M:Array Nat) (i j:Nat):qj5 M i j=qj5 M j i:=by simp[qj5,Bool.or_comm]
theorem qb2r {M:Array Nat} {LG:Log} (h:qvq M LG LG=true) {e f:Ent} (he:e∈LG) (hf:f∈LG) (hne:e.i≠f.i) (ho:qj5 M e.i f.i=false):e.free f=true:=by
 cases hwe:e.wr with
 | some W=>
  rcases qbb2 h e he (by rw[hwe];simp) f hf with h | h | h
  ·exact absurd h hne
  ·rw[ho] at h;simp at h
  ·exact h
 | none=>
  cases hwf:f.wr with
  | none=>simp[Ent.free,hwe,hwf]
  | some W=>
   rcases qbb2 h f hf (by rw[hwf];simp) e he with h | h | h
   ·exact absurd h.symm hne
   ·rw[qbq2,ho] at h;simp at h
   ·rw[Ent.free_symm];exact h
theorem qbg6 {M:Array Nat} {ops:Array Oper} {i:Nat} {x:Oper}:∀ {l:List (Nat×Oper)},qbbs M ops i x l=true→∀ y∈l,qj5 M i y.1=true∨qnp ops i y.1 x y.2=true
 | [],_,y,hy=>by simp at hy
 | (j,z)::l,h,y,hy=>by
  simp only[qbbs,z9,Bool.or_eq_true] at h
  rcases z15.1 hy with rfl | hy
  ·exact h.1
  ·exact qbg6 h.2 y hy
theorem qbg9 {M:Array Nat} {ops:Array Oper}:∀ {l:List (Nat×Oper)},quu M ops l=true→l.Pairwise fun x y=>qj5 M x.1 y.1=true∨qnp ops x.1 y.1 x.2 y.2=true
 | [],_=>List.Pairwise.nil
 | (i,x)::l,h=>by
  simp only[quu,z9] at h
  exact List.Pairwise.cons (fun y hy=>qbg6 h.1 y hy) (qbg9 h.2)
section
variable (C:Ctx) (D:Den C) (hints:Hints) (id:Nat) (ops:Array Oper)
noncomputable def runB (β:Nat→Bool):List (Nat×Oper)→St→Option (St×Log)
 | [],S=>some (S,[])
 | (i,o)::l,S=>(qcg C D hints id ops (β i) S i o).bind fun x=>(runB β l x.1).map fun y=>(y.1,x.2::y.2)
end
section
variable {C:Ctx} {D:Den C} {hints:Hints} {id:Nat} {ops:Array Oper}
theorem qbvd {β:Nat→Bool}:∀ (l:List (Nat×Oper)) (S:St),runB C D hints id ops β l S=runD C D hints id ops (l.map fun x=>β x.1) l S
 | [],S=>rfl
 | (i,o)::l,S=>by
  simp only[runB,runD,z28,List.headD_cons,List.tail_cons]
  congr 1
  funext x
  rw[qbvd l x.1]
theorem qbdv {β:Nat→Bool} {i:Nat} {o:Oper} {l:List (Nat×Oper)} {S S':St} {lg:Log} (h:runB C D hints id ops β ((i,o)::l) S=some (S',lg)) :
  ∃ S1 e lg1,qcg C D hints id ops (β i) S i o=some (S1,e)∧runB C D hints id ops β l S1=some (S',lg1)∧lg=e::lg1:=by
 simp only[runB,z8,z29,z7] at h
 obtain ⟨⟨S1,e⟩,hs,⟨S2,lg2⟩,hr,rfl,rfl⟩:=h
 exact ⟨S1,e,lg2,hs,hr,rfl⟩
theorem qbvw {β:Nat→Bool} {i:Nat} {o:Oper} {l:List (Nat×Oper)} {S S1 S':St} {e:Ent} {lg1:Log} (hs:qcg C D hints id ops (β i) S i o=some (S1,e)) (hr:runB C D hints id ops β l S1=some (S',lg1)) :
  runB C D hints id ops β ((i,o)::l) S=some (S',e::lg1):=by
 simp only[runB,hs,z30,hr,z35]
theorem qblk {β β':Nat→Bool}:∀ (l:List (Nat×Oper)) (S:St),(∀ x∈l,β' x.1=β x.1)→runB C D hints id ops β' l S=runB C D hints id ops β l S
 | [],S,_=>rfl
 | (i,o)::l,S,h=>by
  simp only[runB]
  have:=h (i,o) z14
  simp only at this
  rw[this]
  congr 1
  funext x
  rw[qblk l x.1 fun y hy=>h y (z16 _ hy)]
theorem qbi9 {β:Nat→Bool} {j:Nat} {y:Oper} {post:List (Nat×Oper)}:∀ (pre:List (Nat×Oper)) (S S':St) (lg:Log),runB C D hints id ops β (pre++(j,y)::post) S=some (S',lg)→
  (∀ x∈pre,qnp ops x.1 j x.2 y=true)→(∀ ex∈lg,∀ ey∈lg,(∃ x∈pre,ex.i=x.1)→ey.i=j→ex.free ey=true)→
  ∃ lg',runB C D hints id ops β ((j,y)::(pre++post)) S=some (S',lg')∧∀ e∈lg',e∈lg
 | [],S,S',lg,h,_,_=>⟨lg,h,fun e he=>he⟩
 | (i,x)::pre,S,S',lg,h,hap,hfr=>by
  rw[z40] at h
  obtain ⟨S1,ex,lg1,h1,h2,rfl⟩:=qbdv h
  obtain ⟨lg2,k1,k2⟩:=qbi9 pre S1 S' lg1 h2 (fun x hx=>hap x (z16 _ hx))
   (fun a ha b hb ⟨z,hz,e⟩ hj=>hfr a (z16 _ ha) b (z16 _ hb) ⟨z,z16 _ hz,e⟩ hj)
  obtain ⟨S2,ey,lg3,q1,q2,rfl⟩:=qbdv k1
  have hi:=(q69 h1).2
  have hj:=(q69 q1).2
  obtain ⟨T1,t1,t2⟩:=swap h1 q1 (hap (i,x) z14) (hfr ex z14 ey (z16 _ (k2 ey z14)) ⟨(i,x),z14,hi⟩ hj)
  refine ⟨ey::ex::lg3,qbvw t1 (qbvw t2 q2),fun e he=>?_⟩
  rcases z15.1 he with rfl | he
  ·exact z16 _ (k2 _ z14)
  ·rcases z15.1 he with rfl | he
   ·exact z14
   ·exact z16 _ (k2 _ (z16 _ he))
end
theorem qbaw {ops:Array Oper} {j:Nat} {o:Oper} (h:ops[j]? = some o):(j,o)∈qfe ops:=by
 simp only[qfe,z37]
 exact ⟨(o,j),List.mem_zipIdx_iff_getElem?.2 (by simpa using h),rfl⟩
section
variable {P:Program} {C:Ctx} {D:Den C} (hty:qcl P C) (dok:DOk P C D)
include hty dok
theorem qb37 {np:List Nat} {Q:Exit→Act→World→Prop} {hints:Hints} {id:Nat} {ops:Array Oper} {F:St→Prop} (hgd:q52 ops=true) (hed:qzj ops=true) (hsl:quu (Region.before ops) ops (qfe ops)=true) (hnp:q4s np ops=true) :
  ∀ (fuel:Nat) (listed:Array Bool) (rest:List (Nat×Oper)) (S:St) (g:Ghost) (a:Act) (w:World),rest.length≤fuel→listed.size=ops.size→Down ops listed→rest.Sublist (qfe ops)→
   (∀ x∈qfe ops,x∈rest↔listed.getD x.1 true=false)→StRel w.heap S g a.tmps Nil→a.defers=[]→
   (∀ β,∃ S' lg LG,runB C D hints id ops β rest S=some (S',lg)∧(∀ e∈lg,e∈LG)∧qvq (Region.before ops) LG LG=true∧F S')→
   (∀ S' g' a' w',F S'→StRel w'.heap S' g' a'.tmps Nil→g'.Same g→WFr g.L w w'→a'.defers=[]→qr0 np a a'→Q .normal a' w')→wpAny P .any ops Q fuel listed a w:=by
 intro fuel
 induction fuel with
 | zero=>
  intro listed rest S g a w hlen hsz hdn hsub hiff st hdf hrun hQ
  have hr:rest=[]:=z50.1 (by omega)
  subst hr
  refine ⟨?_,?_⟩
  ·apply List.eq_nil_iff_forall_not_mem.2
   intro j hj
   obtain ⟨h0,o,ho,_⟩:=mem_ready.1 hj
   have:=(hiff (j,o) (qbaw ho)).2 h0
   simp at this
  ·obtain ⟨S',lg,LG,h1,_,_,h4⟩:=hrun fun _=>true
   simp only[runB,z4,z7] at h1
   obtain ⟨rfl,_⟩:=h1
   exact hQ S g a w h4 st (.refl g) (.refl _ _) hdf (.refl _ _)
 | succ fuel ih=>
  intro listed rest S g a w hlen hsz hdn hsub hiff st hdf hrun hQ
  have hft:∀ j,j<ops.size→(listed.getD j true=listed.getD j false):=by
   intro j hj
   have:j<listed.size:=by omega
   simp[Array.getD,this]
  refine ⟨fun hre=>?_,fun j hj=>?_⟩
  ·have hr:rest=[]:=by
    cases rest with
    | nil=>rfl
    | cons x rest=>
     exfalso
     have key:∀ j,j<ops.size→listed.getD j true=true:=by
      intro j
      induction j using Nat.strongRecOn with
      | _ j ihj=>
       intro hlt
       cases hl:listed.getD j true with
       | true=>rfl
       | false=>
        exfalso
        have ho:ops[j]? = some ops[j]:=Array.getElem?_eq_getElem hlt
        have:j∈Region.ready .any ops listed:=by
         refine mem_ready.2 ⟨hl,ops[j],ho,fun e he hb=>?_⟩
         have hlt2:e.on<j:=by
          have he2:=hed
          simp only[qzj,List.all_eq_true] at he2
          have:=he2 (j,ops[j]) (qbaw ho)
          rw[Array.all_eq_true_iff_forall_mem] at this
          have:=this e he
          rw[hb] at this
          simpa [qge] using this
         rw[←hft e.on (by omega)]
         exact ihj e.on hlt2 (by omega)
        rw[hre] at this
        simp at this
     have hx:=hsub.subset z14
     have h0:=(hiff x hx).1 z14
     have hat:=q9l x hx
     have:=key x.1 (Array.getElem?_eq_some_iff.1 hat).1
     rw[h0] at this
     simp at this
   subst hr
   obtain ⟨S',lg,LG,h1,_,_,h4⟩:=hrun fun _=>true
   simp only[runB,z4,z7] at h1
   obtain ⟨rfl,_⟩:=h1
   exact hQ S g a w h4 st (.refl g) (.refl _ _) hdf (.refl _ _)
  ·obtain ⟨h0,y,hy,hedges⟩:=mem_ready.1 hj
   have hjlt:j<ops.size:=(Array.getElem?_eq_some_iff.1 hy).1
   have hmem:=(hiff (j,y) (qbaw hy)).2 h0
   obtain ⟨pre,post,rfl⟩:=List.append_of_mem hmem
   -- indexes are apart
   have hnd:((qfe ops).map (·.1)).Nodup:=by rw[q4l];exact List.nodup_range
   have hnd2:=(hsub.map (·.1)).nodup hnd
   simp only[List.map_append,z28] at hnd2
   have hinc:((pre++(j,y)::post).map (·.1)).Pairwise (· < ·):=by
    refine List.Pairwise.sublist (hsub.map (·.1)) ?_
    rw[q4l]
    exact List.pairwise_lt_range
   have hlt:∀ x∈pre,x.1<j:=by
    intro x hx
    rw[List.map_append,List.pairwise_append] at hinc
    exact hinc.2.2 x.1 (z37.2 ⟨x,hx,rfl⟩) j (by simp)
   have hgt:∀ x∈post,j<x.1:=by
    intro x hx
    rw[List.map_append,List.pairwise_append,z28,List.pairwise_cons] at hinc
    exact hinc.2.1.1 x.1 (z37.2 ⟨x,hx,rfl⟩)
   have hun:∀ x∈pre,qj5 (Region.before ops) x.1 j=false:=by
    intro x hx
    have hxt:x∈qfe ops:=hsub.subset (by simp[hx])
    have hxu:=(hiff x hxt).1 (by simp[hx])
    cases ho:qj5 (Region.before ops) x.1 j with
    | false=>rfl
    | true=>
     exfalso
     simp only[qj5,Bool.or_eq_true] at ho
     rcases ho with ho | ho
     ·have:=qbp7 hdn j x.1 ho fun o' ho' e he hb=>by
       rw[hy] at ho'
       simp only[z4] at ho'
       subst ho'
       exact hedges e he hb
      have hxlt:x.1<ops.size:=(Array.getElem?_eq_some_iff.1 (q9l x hxt)).1
      rw[←hft x.1 hxlt,hxu] at this
      simp at this
     ·have:=qbyu hed _ _ ho
      have:=hlt x hx
      omega
   have hap:∀ x∈pre,qnp ops x.1 j x.2 y=true:=by
    intro x hx
    have:=(qbg9 hsl).sublist hsub
    rw[List.pairwise_append] at this
    rcases this.2.2 x hx (j,y) (by simp) with h | h
    ·have:=hun x hx
     simp only at h
     rw[this] at h
     simp at h
    ·exact h
   have hrun2:∀ β,∃ S1 e S' lg LG,qcg C D hints id ops (β j) S j y=some (S1,e)∧runB C D hints id ops β (pre++post) S1=some (S',lg)∧(∀ e∈lg,e∈LG)∧qvq (Region.before ops) LG LG=true∧F S':=by
    intro β
    obtain ⟨S',lg,LG,h1,h2,h3,h4⟩:=hrun β
    obtain ⟨lg',q1,q2⟩:=qbi9 pre S S' lg h1 hap (by
     intro ex hex ey hey hx hyj
     obtain ⟨x,hx,e1⟩:=hx
     refine qb2r h3 (h2 ex hex) (h2 ey hey) ?_ ?_
     ·rw[e1,hyj];have:=hlt x hx;omega
     ·rw[e1,hyj];exact hun x hx)
    obtain ⟨S1,e,lg1,t1,t2,rfl⟩:=qbdv q1
    exact ⟨S1,e,S',lg1,LG,t1,t2,fun e he=>h2 e (q2 e (z16 _ he)),h3,h4⟩
   refine qbwd hty dok st (hints:=hints) (id:=id) hy (fun j' c=>qbot hgd j y j' c hy) hdf (qbrb hnp (j,y) (qbaw hy)) (fun β=>?_) ?_
   ·obtain ⟨S1,e,_,_,_,h1,_⟩:=hrun2 fun _=>β
    exact ⟨_,h1⟩
   ·intro βj S1 e a' w' g' hs st' hsm hfr hdf' hfx
    refine ih (listed.setIfInBounds j true) (pre++post) S1 g' a' w' ?_ (by simpa using hsz) ?_ ?_ ?_ st' hdf' ?_ ?_
    ·simp only[z19,z22] at hlen ⊢;omega
    ·intro q o hq hlq e he hb
     by_cases hqj:j=q
     ·subst hqj
      rw[hy] at hq
      simp only[z4] at hq
      subst hq
      exact getD_set_true (hedges e he hb)
     ·rw[getD_set_ne false hqj] at hlq
      exact getD_set_true (hdn q o hq hlq e he hb)
    ·exact List.Sublist.trans (List.Sublist.append (List.Sublist.refl pre) (List.sublist_cons_self _ _)) hsub
    ·intro x hx
     have hx1:=hiff x hx
     by_cases hxj:x.1=j
     ·constructor
      ·intro hm
       exfalso
       rcases z18.1 hm with hm | hm
       ·have:=hlt x hm;omega
       ·have:=hgt x hm;omega
      ·intro h
       exfalso
       have hl2:j<listed.size:=by omega
       simp[hxj,Array.getD,hl2] at h
     ·rw[getD_set_ne true (fun h=>hxj h.symm),←hx1]
      simp only[z18,z15]
      constructor
      ·rintro (h | h)
       ·exact .inl h
       ·exact .inr (.inr h)
      ·rintro (h | h | h)
       ·exact .inl h
       ·exact absurd (by rw[h]) hxj
       ·exact .inr h
    ·intro β
     obtain ⟨S1',e',S',lg,LG,h1,h2,h3⟩:=hrun2 fun n=>if n=j then βj else β n
     simp only[if_true] at h1
     rw[hs] at h1
     simp only[z4,z7] at h1
     obtain ⟨rfl,rfl⟩:=h1
     refine ⟨S',lg,LG,?_,h3⟩
     rw[←h2]
     symm
     refine qblk _ _ fun x hx=>?_
     rw[z5]
     intro hxj
     rcases z18.1 hx with hm | hm
     ·have:=hlt x hm;omega
     ·have:=hgt x hm;omega
    ·intro S' g'' a'' w'' hF st'' hsm' hfr' hdf'' hfx'
     exact hQ S' g'' a'' w'' hF st'' (hsm.trans hsm') (hfr.trans (by rw[hsm.2.1] at hfr';exact hfr')) hdf'' (hfx.trans hfx')
theorem qb2t {np:List Nat} {R:Type} {r:R} {H:Hints} {id:Nat} {ops:Array Oper} {S:St} {k:Ex→St→Option R} {Q:Exit→Act→World→Prop} {g:Ghost} {a:Act} {w:World} {n:Nat}
  (hmix:P.follows .mixedOrders=true) (hnp:q4s np ops=true) (h:exec C D H n (.region id ops true) S k=some r):Goes np P C Q r (.region id ops true) S k g a w:=by
 intro st hdf hQ
 simp only[exec] at h
 split at h
 ·rename_i hgd
  have hR:=fun βs=>q1u (hints:=H) _ _ _ _ h S (Sim.refl S) βs
  have hchk:qzj ops=true∧quu (Region.before ops) ops (qfe ops)=true:=by
   obtain ⟨T1,lgT,S1,lg1,_,q2,_⟩:=hR []
   simp only[if_true] at q2
   split at q2
   ·rename_i hc
    simp only[z9] at hc
    exact ⟨hc.1.1,hc.2⟩
   ·simp at q2
  refine wp_region_any hmix ?_
  refine qb37 (hints:=H) (id:=id) (F:=fun S'=>∃ S1,k .normal S1=some r∧Sim S1 S') hty dok hgd hchk.1 hchk.2 hnp ops.size _ (qfe ops) S g a _ ?_ (by simp) ?_ (List.Sublist.refl _) ?_ st hdf (fun β=>?_) ?_
  ·have:=congrArg List.length (q4l (ops:=ops))
   simp only[z49,List.length_range] at this
   omega
  ·intro j o ho hl
   exfalso
   have hlt:=(Array.getElem?_eq_some_iff.1 ho).1
   simp[hlt] at hl
  ·intro x hx
   have hlt:=(Array.getElem?_eq_some_iff.1 (q9l x hx)).1
   simp[hx,hlt]
  ·obtain ⟨T1,lgT,S1,lg1,q1,q2,q3,q4,_⟩:=hR ((qfe ops).map fun x=>β x.1)
   simp only[if_true] at q2
   split at q2
   ·rename_i hc
    simp only[z9] at hc
    exact ⟨T1,lgT,lg1,by rw[qbvd];exact q1,q4,hc.1.2,S1,q2,q3⟩
   ·simp at q2
  ·intro S' g' a' w' hF st' hsm hfr hdf' hfx
   obtain ⟨S1,hk,hsim⟩:=hF
   exact hQ .normal S1 g' a' w' hk (qbv9 hsim st') hsm ((WFr.drawn _).trans hfr) hdf' hfx
 ·simp at h
theorem qz5 {np:List Nat} {R:Type} {r:R} {H:Hints} (hmix:P.follows .mixedOrders=true):∀ (c:Code) (n:Nat) (S:St) (k:Ex→St→Option R),qgo np c=true→exec C D H n c S k=some r→
  ∀ (Q:Exit→Act→World→Prop) (g:Ghost) (a:Act) (w:World),Goes np P C Q r c S k g a w
 | .skip,n,S,k,hc,h,Q,g,a,w=>by
  intro st hdf hQ
  exact wp_skip (hQ .normal S g a w (by simpa only [exec] using h) st (.refl g) (.refl _ _) hdf (.refl _ _))
 | .region id ops dr,n,S,k,hc,h,Q,g,a,w=>by
  cases dr with
  | false=>exact qbyd hty dok hc h
  | true=>exact qb2t hty dok hmix hc h
 | .seq x y,n,S,k,hc,h,Q,g,a,w=>by
  intro st hdf hQ
  simp only[qgo,z9] at hc
  simp only[exec] at h
  refine wp_seq (qz5 hmix x n S _ hc.1 h _ g a w st hdf ?_)
  intro e S' g' a' w' hk st' hsm hfr hdf' hfx
  cases e with
  | normal=>
   simp only[Ex.out,Exit.then]
   refine qz5 hmix y n _ k hc.2 hk Q g' a' w' (show StRel w'.heap (cutC H y S') g' a'.tmps Nil by unfold cutC;split<;>first | exact qbbv st' _ _ | exact st') hdf' ?_
   intro e2 S2 g2 a2 w2 hk2 st2 hsm2 hfr2 hdf2 hfx2
   exact hQ e2 S2 g2 a2 w2 hk2 st2 (hsm.trans hsm2) (hfr.trans (by rw[hsm.2.1] at hfr2;exact hfr2)) hdf2 (hfx.trans hfx2)
  | exit id=>exact hQ (.exit id) S' g' a' w' hk st' hsm hfr hdf' hfx
  | ret=>exact hQ .ret S' g' a' w' hk st' hsm hfr hdf' hfx
 | .cond c x y,n,S,k,hc,h,Q,g,a,w=>by
  intro st hdf hQ
  simp only[exec] at h
  cases hb:V.asBool (ev S c) with
  | none=>rw[hb] at h;simp at h
  | some t=>
   rw[hb] at h
   simp only at h
   have hv:=qbo9 hb (qb1s st c)
   refine wp_cond (t:=t) hv ?_
   cases t with
   | true=>exact qz5 hmix x n S k (by simp only[qgo,z9] at hc;exact hc.1) h Q g a w st hdf hQ
   | false=>exact qz5 hmix y n S k (by simp only[qgo,z9] at hc;exact hc.2) h Q g a w st hdf hQ
 | .block id x,n,S,k,hc,h,Q,g,a,w=>by
  intro st hdf hQ
  simp only[exec] at h
  refine wp_block (qz5 hmix x n S _ (by simpa only [qgo] using hc) h _ g a w st hdf ?_)
  intro e S' g' a' w' hk st' hsm hfr hdf' hfx
  cases e with
  | normal=>exact hQ .normal S' g' a' w' hk st' hsm hfr hdf' hfx
  | exit j=>
   simp only at hk
   simp only[Ex.out,Exit.inBlock]
   split at hk
   ·rename_i hj;rw[z6 hj];exact hQ .normal S' g' a' w' hk st' hsm hfr hdf' hfx
   ·rename_i hj;rw[z5 hj];exact hQ (.exit j) S' g' a' w' hk st' hsm hfr hdf' hfx
  | ret=>exact hQ .ret S' g' a' w' hk st' hsm hfr hdf' hfx
 | .loop x,n,S,k,hc,h,Q,g,a,w=>by
  intro st hdf hQ
  simp only[exec] at h
  cases hl:H.keep.lookup (qny x) with
  | none=>rw[hl] at h;simp at h
  | some kp=>
   rw[hl] at h
   simp only at h
   have key:∀ (m:Nat) (S:St) (g1:Ghost) (a1:Act) (w1:World),qbbk (exec C D H n x) (St.canon kp.1 kp.2.2) (St.canon kp.2.1 kp.2.2) m S k=some r→StRel w1.heap S g1 a1.tmps Nil→g1.Same g→WFr g.L w w1→a1.defers=[]→qr0 np a a1→
     ∀ b k' cs,∃ e a' w',Q e a' w'∧Arrives P (lone (b.at a1 (.code x::.inLoop x::k')) cs w1) b k' cs e a' w':=by
    intro m
    induction m with
    | zero=>intro S g1 a1 w1 h;simp[qbbk] at h
    | succ m ih=>
     intro S g1 a1 w1 h st hsm hfr hdf hfx b k' cs
     simp only[qbbk] at h
     have hx:=qz5 hmix x n _ _ (by simpa only [qgo] using hc) h (Exit.then (fun a' w'=>∀ b k' cs,∃ e a'' w'',Q e a'' w''∧Arrives P (lone (b.at a' (.code x::.inLoop x::k')) cs w') b k' cs e a'' w'') Q) g1 a1 w1 (qbbv st kp.1 kp.2.2) hdf (by
      intro e S' g' a' w' hk st' hsm' hfr' hdf' hfx'
      have hfx2:=hfx.trans hfx'
      have hsm2:=hsm.trans hsm'
      have hfr2:WFr g.L w w':=hfr.trans (by rw[hsm.2.1] at hfr';exact hfr')
      cases e with
      | normal=>exact ih S' g' a' w' hk st' hsm2 hfr2 hdf' hfx2
      | exit id=>exact hQ (.exit id) _ g' a' w' hk (qbbv st' kp.2.1 kp.2.2) hsm2 hfr2 hdf' hfx2
      | ret=>exact hQ .ret _ g' a' w' hk (qbbv st' kp.2.1 kp.2.2) hsm2 hfr2 hdf' hfx2)
     obtain ⟨e,a₁,w₁,hq,harr⟩:=hx b (.inLoop x::k') cs
     cases e with
     | normal=>
      obtain ⟨e₂,a₂,w₂,hq₂,harr₂⟩:=hq b k' cs
      exact ⟨e₂,a₂,w₂,hq₂,.of_steps (Steps.trans harr (.one step_inLoop)) harr₂⟩
     | exit id=>exact ⟨_,a₁,w₁,hq,.pass (x:=.inLoop x) rfl (fun _ _=>.inl (by simp)) harr⟩
     | goto l=>exact ⟨_,a₁,w₁,hq,.pass (x:=.inLoop x) rfl (fun _ _=>.inl (by simp)) harr⟩
     | ret=>exact ⟨_,a₁,w₁,hq,.pass (x:=.inLoop x) rfl (fun _ _=>.inl (by simp)) harr⟩
     | panic ch=>exact ⟨_,a₁,w₁,hq,.pass (x:=.inLoop x) rfl (fun _ _=>.inl (by simp)) harr⟩
     | outgrown=>exact ⟨_,a₁,w₁,hq,.pass (x:=.inLoop x) rfl (fun _ _=>.inl (by simp)) harr⟩
   intro b k' cs
   obtain ⟨e,a',w',hq,harr⟩:=key n S g a w h st (.refl g) (.refl _ _) hdf (.refl _ _) b k' cs
   exact ⟨e,a',w',hq,.of_steps (.one step_loop) harr⟩
 | .exit id,n,S,k,hc,h,Q,g,a,w=>by
  intro st hdf hQ
  exact wp_exit (hQ (.exit id) S g a w (by simpa only [exec] using h) st (.refl g) (.refl _ _) hdf (.refl _ _))
 | .ret,n,S,k,hc,h,Q,g,a,w=>by
  intro st hdf hQ
  exact wp_ret (hQ .ret S g a w (by simpa only [exec] using h) st (.refl g) (.refl _ _) hdf (.refl _ _))
 | .rangeFunc _ _ _ _,n,S,k,hc,h,Q,g,a,w=>by simp[exec] at h
 | .scope _,n,S,k,hc,h,Q,g,a,w=>by simp[exec] at h
 | .label _,n,S,k,hc,h,Q,g,a,w=>by simp[exec] at h
 | .goto _,n,S,k,hc,h,Q,g,a,w=>by simp[exec] at h
 | .refuse _,n,S,k,hc,h,Q,g,a,w=>by simp[exec] at h
end
end
end Go.V

namespace Go.V
noncomputable section
open Go
theorem qol.mono {h:Array Obj} {Pr Pr2:BS} {t:Ty} {m:Mk} {x:t.den} {v:Value} {F:BS} (hp:Sub Pr Pr2) (r:qol h Pr t m x v F):qol h Pr2 t m x v F:=by
 obtain ⟨b,c,F0,e,r,k⟩:=r
 exact ⟨b,c,F0,e,Rep.mono hp (fun _ _=>rfl) t r (Sub.refl _) (fun _ _=>rfl),k⟩
theorem RRel.mono {h:Array Obj} {Pr Pr2:BS} {k:RK} {x:k.den} {v:Value} {F:BS} (hp:Sub Pr Pr2) (r:RRel h Pr k x v F):RRel h Pr2 k x v F:=by
 cases k with
 | val t m=>exact qh9.mono hp r
 | ptr t m=>exact qol.mono hp r
def qbbp (tmps:Array Value):ResultVar→Sem Value
 | .tmp t=>pure (tmps.getD t Go.undef)
 | .cell a t=>do loadVar t (← asAddr (tmps.getD a Go.undef))
theorem qbwx {fn:Func} {tmps:Array Value} {P:Program} {w:World} {us:List Value} (h:(fn.results.toList.mapM (qbbp tmps)).run P w=.ok us w):(results fn tmps).run P w=.ok (qls us) w:=by
 have e:results fn tmps=(do let vs ← fn.results.mapM (qbbp tmps);pure (if h:vs.size=1 then vs[0] else .tuple vs)):=by
  unfold results qbbp
  rfl
 rw[e,Array.mapM_eq_mapM_toList]
 simp only[Sem.run_bind,Sem.run_map,h,Result.andThen_ok]
 match us with
 | []=>simp[qls]
 | [v]=>simp[qls]
 | u::v::l=>simp[qls]
section
variable {P:Program} {C:Ctx}
theorem qboq {w:World} {t:TypeId} (k:TyOk P C t) (hz:(C.ty t).nz=true) {b o:Nat} {c:List Value} (hr:w.rangeAt b o c) (hl:c.length=(C.ty t).width) :
  (do loadVar t (← asAddr (.pointer (some ⟨b,o,none⟩))):Sem Value).run P w=.ok (mkV (C.ty t) c) w:=by
 have:=qbd1 (P:=P) k hz hr hl
 simpa only [Instr.loadAt,Instr.sureAddr,asAddr] using this
theorem qb4e (hty:qcl P C) {w:World} {S:St} {g:Ghost} {tmps:Array Value} {H:BS} (st:StRel w.heap S g tmps H) {t:TypeId} (hz:(C.ty t).nz=true) {a v':AV} {va:Value}
  (ha:qe w.heap S g a va) (hl:qmn S.rt (C.ty t) a=some v'):∃ u,(do loadVar t (← asAddr va):Sem Value).run P w=.ok u w∧qe w.heap S g v' u:=by
 have k:=hty t hz
 cases a with
 | raddr t' y=>
  simp only[qmn] at hl
  cases hc:qbq t' (C.ty t) y with
  | none=>rw[hc] at hl;simp at hl
  | some z=>
   rw[hc] at hl
   simp only[qe] at ha
   obtain ⟨b,off,cs,e,hp,hb,hs,rep⟩:=ha
   have hw:=Rep.width t' rep
   obtain ⟨e1,rep2⟩:=Rep.cast hc rep
   subst e1
   have hrun:=qboq (P:=P) (w:=w) k hz (qj1 hb hs) hw
   refine ⟨_,by rw[e];exact hrun,?_⟩
   simp at hl
   subst hl
   simp only[qe];exact ⟨_,rep2,rfl⟩
 | addr r p=>
  simp only[qmn] at hl
  cases hf:S.rt.focus r p with
  | none=>rw[hf] at hl;simp at hl
  | some d=>
   rw[hf] at hl
   simp only at hl
   by_cases hd:d.ty=C.ty t
   ·simp only[hd,if_true] at hl
    have hf':=hf
    simp only[Rts.focus] at hf'
    split at hf'
    ·rename_i R hR
     obtain ⟨b,off,c,hin,hat,e⟩:=qbhv st hR hf' ha
     obtain ⟨base,c',F,q1,q2,q3,q4,q5⟩:=st.update hR hf' hin
     rw[hat] at q1
     simp only[z4,z7] at q1
     obtain ⟨rfl,rfl⟩:=q1
     obtain ⟨_,cs,ho1,hs,hsub⟩:=q4 b off rfl
     have hw:=Rep.width d.ty q2
     have hrange:w.rangeAt b off c:=by
      have:=qj1 (w:=w) ho1.blk hs
      rw[hsub] at this;exact this
     have hrun:=qboq (P:=P) k hz hrange (by rw[hw,hd])
     obtain ⟨dt,dm,dx⟩:=d
     simp only at hd
     subst hd
     refine ⟨_,by rw[e];exact hrun,?_⟩
     simp only[z4] at hl
     subst hl
     exact AVC.rel q2 (qzf hR _ _ _ p (some (b,off)) c F hf' hin hat q2) (Ty.nz_unit hz)
    ·simp at hf'
   ·rw[z5 hd] at hl;simp at hl
 | _=>simp[qmn] at hl
theorem qbto (hty:qcl P C) {w:World} {S:St} {g:Ghost} {tmps:Array Value} {H:BS} (st:StRel w.heap S g tmps H) {v:ResultVar} {a:AV} (h:qbkl C S v=some a) :
  ∃ u,(qbbp tmps v).run P w=.ok u w∧qe w.heap S g a u:=by
 cases v with
 | tmp t=>
  simp only[qbkl,z4] at h
  subst h
  exact ⟨_,by simp only[qbbp,Sem.run_pure],st.slots t⟩
 | cell x t=>
  simp only[qbkl] at h
  split at h
  ·rename_i hz
   exact qb4e hty st hz (st.slots x) h
  ·simp at h
theorem qbvo {h:Array Obj} {S:St} {g:Ghost} {tmps:Array Value} {H:BS} (st:StRel h S g tmps H) {q:Nat} {R:Root} (hR:S.root q=some R) (hm:R.mem=true) {t:Ty} {m:Mk} {x:t.den} {v:Value}
  (hs:m.serves R.ms=true) (hc:qbq R.ty t R.x=some x) (hv:qe h S g (.addr q []) v) :
  ∃ g' F,StRel h (S.setRoot q none) g' tmps (Un H F)∧qol h g'.Pr t m x v F∧Dis F H∧g'.Same g∧Sub g.Pr g'.Pr:=by
 obtain ⟨F,r1,r2,r3,r4,_⟩:=st.roots q R hR
 obtain ⟨b,hb1,hb2,hb3⟩:=r4 hm
 have hq:(S.root q).isSome:=by rw[hR];rfl
 have s1:=st.dropRootH hq
 obtain ⟨_,rx⟩:=Rep.cast hc r1
 obtain ⟨F1,F2,q1,q2,q3,q4⟩:=Rep.serves t hs rx
 have s2:=s1.shareHand F2 (fun z hz=>.inr (r2 z (q2 z hz)))
 obtain ⟨b',off,c,hin,hat,e⟩:=qbhv st hR (p:=[]) (d:=⟨R.ty,R.ms,R.x⟩) (by simp only[focus]) hv
 have hat':atP h R.ty (g.C q) (g.base q) []=some (g.base q,g.C q):=by cases R.ty<;>rfl
 rw[hat'] at hat
 simp only[z4,z7,Ghost.base,hb1,z35] at hat
 obtain ⟨⟨rfl,rfl⟩,rfl⟩:=hat
 refine ⟨{ g with Pr:=Un g.Pr F2 },fun z=>F1 z∨z=b,s2.lessHand ?_,⟨b,g.C q,F1,e,q4,hb3,.inr rfl,fun z hz=>.inl hz,fun hz=>r3 b hb1 (q1 b hz)⟩,?_,⟨rfl,rfl,rfl⟩,fun z hz=>.inl hz⟩
 ·rintro z (hz | hz | rfl)
  ·exact ⟨.inl hz,fun h2=>st.hand q hq z (r2 z (q2 z h2)) hz⟩
  ·exact ⟨.inr (r2 z (q1 z hz)),fun h2=>q3 z hz h2⟩
  ·exact ⟨.inr hb2,fun h2=>r3 z hb1 (q2 z h2)⟩
 ·rintro z (hz | rfl) hh
  ·exact st.hand q hq z (r2 z (q1 z hz)) hh
  ·exact st.hand q hq z hb2 hh
theorem qbo1 (hty:qcl P C) {w:World} {tmps:Array Value}:∀ (rs:List RK) (vs:List ResultVar) (S:St) (g:Ghost) (H:BS) (i:Nat) (r:RDen rs) (S':St),StRel w.heap S g tmps H→qoj C rs vs S=some (r,S')→
  ∃ us g' H' Gs,(vs.mapM (qbbp tmps)).run P w=.ok us w∧StRel w.heap S' g' tmps H'∧g'.Same g∧Sub g.Pr g'.Pr∧qe4 w.heap g'.Pr Gs i rs r us∧(∀ j,j<i→Gs j=Nil)∧
   (∀ j,Sub (Gs j) H')∧(∀ j k,j≠k→Dis (Gs j) (Gs k))∧(∀ j,Dis (Gs j) H)∧Sub H H'
 | [],[],S,g,H,i,r,S',st,h=>by
  simp only[qoj,z4,z7] at h
  obtain ⟨_,rfl⟩:=h
  exact ⟨[],g,H,fun _=>Nil,by simp,st,.refl g,Sub.refl _,rfl,fun _ _=>rfl,fun _=>Sub.nil _,fun _ _ _=>Dis.nil _,fun _=>Dis.nil _,Sub.refl _⟩
 | [],_::_,S,g,H,i,r,S',st,h=>by simp[qoj] at h
 | k::_,[],S,g,H,i,r,S',st,h=>by cases k<;>simp[qoj] at h
 | k::ks,v::vs,S,g,H,i,r,S',st,h=>by
  -- one
  have one:∃ u S1 x g1 F rr,(qbbp tmps v).run P w=.ok u w∧StRel w.heap S1 g1 tmps (Un H F)∧RRel w.heap g1.Pr k x u F∧Dis F H∧g1.Same g∧Sub g.Pr g1.Pr∧qoj C ks vs S1=some (rr,S')∧r=(x,rr):=by
   cases k with
   | val t m=>
    simp only[qoj,z8] at h
    obtain ⟨a,ha,⟨mx,x,rt'⟩,htk,h⟩:=h
    split at h
    ·rename_i hs
     simp only[z8,z4,z7] at h
     obtain ⟨⟨rr,S2⟩,hg,rfl,rfl⟩:=h
     obtain ⟨u,hu,hav⟩:=qbto hty st ha
     obtain ⟨c,g2,F,ev,tk1⟩:=qwn _ st htk hav
     obtain ⟨F1,F2,q1,q2,q3,q4⟩:=Rep.serves t hs tk1.rep
     have s2:=tk1.st.shareHand F2 (fun z hz=>.inr (q2 z hz))
     refine ⟨u,_,x,_,F1,rr,hu,s2.lessHand ?_,⟨c,q4,ev⟩,fun z hz hh=>tk1.dis z (q1 z hz) hh,Ghost.Same.trans tk1.same ⟨rfl,rfl,rfl⟩,fun z hz=>.inl (tk1.pr z hz),hg,rfl⟩
     rintro z (hz | hz)
     ·exact ⟨.inl hz,fun h2=>tk1.dis z (q2 z h2) hz⟩
     ·exact ⟨.inr (q1 z hz),fun h2=>q3 z hz h2⟩
    ·simp at h
   | ptr t m=>
    simp only[qoj] at h
    split at h
    ·rename_i q ha
     split at h
     ·rename_i R hR
      split at h
      ·rename_i hs
       simp only[z8,z4,z7] at h
       obtain ⟨x,hc,⟨rr,S2⟩,hg,rfl,rfl⟩:=h
       obtain ⟨u,hu,hav⟩:=qbto hty st ha
       obtain ⟨g1,F,p1,p2,p3,p4,p5⟩:=qbvo st hR hs.1 hs.2 hc hav
       exact ⟨u,_,x,g1,F,rr,hu,p1,p2,p3,p4,p5,hg,rfl⟩
      ·simp at h
     ·simp at h
    ·simp at h
  obtain ⟨u,S1,x,g1,F,rr,hu,p1,p2,p3,p4,p5,hg,rfl⟩:=one
  obtain ⟨us,g',H',Gs,k1,k2,k3,k4,k5,k6,k7,k8,k9,k10⟩:=qbo1 hty ks vs S1 g1 _ (i+1) rr S' p1 hg
  refine ⟨u::us,g',H',fun j=>if j=i then F else Gs j,?_,k2,p4.trans k3,p5.trans k4,?_,?_,?_,?_,?_,fun z hz=>k10 z (.inl hz)⟩
  ·simp[List.mapM_cons,hu,k1]
  ·refine ⟨u,us,rfl,?_,?_⟩
   ·show RRel w.heap g'.Pr k x u (if i=i then F else Gs i)
    rw[z6 rfl]
    exact p2.mono k4
   ·have:∀ (ks:List RK) (n:Nat) {a:RDen ks} {us:List Value},i<n→qe4 w.heap g'.Pr Gs n ks a us→qe4 w.heap g'.Pr (fun j=>if j=i then F else Gs j) n ks a us:=by
     intro ks
     induction ks with
     | nil=>intro n a us _ h;exact h
     | cons k ks ih=>
      intro n a us hn h
      obtain ⟨v,vs',e,r1,r2⟩:=h
      exact ⟨v,vs',e,by show RRel _ _ _ _ _ (if n=i then F else Gs n);rw[z5 (by omega)];exact r1,ih (n+1) (by omega) r2⟩
    exact this ks (i+1) (by omega) k5
  ·intro j hj;show (if j=i then F else Gs j)=Nil;rw[z5 (by omega)];exact k6 j (by omega)
  ·intro j z hz
   split at hz
   ·exact k10 z (.inr hz)
   ·exact k7 j z hz
  ·intro j k hjk z h1 h2
   split at h1<;>split at h2
   ·omega
   ·exact k9 k z h2 (.inr h1)
   ·exact k9 j z h1 (.inr h2)
   ·exact k8 j k hjk z h1 h2
  ·intro j z h1 h2
   split at h1
   ·exact p3 z h1 h2
   ·exact k9 j z h1 (.inl h2)
end
end
end Go.V

namespace Go.V
noncomputable section
open Go
def hdc (hd:Nat→Value) (n w:Nat):List Value:=(List.range w).map fun k=>hd (n+k)
theorem qbvx (hd:Nat→Value) (n a b:Nat):hdc hd n (a+b)=hdc hd n a++hdc hd (n+a) b:=by
 simp only[hdc,List.range_add,List.map_append,List.map_map]
 congr 1
 apply List.map_congr_left
 intro k _
 simp[Nat.add_assoc]
theorem q9t (hd:Nat→Value) (n w:Nat):(hdc hd n w).length=w:=by simp[hdc]
theorem qbfg:∀ (t:Ty) (m:Mk) (n:Nat),qba t m=true→(m.tag n).2=n+t.width
 | .sl _,.own _ _,n,_=>rfl
 | .pair a b,.pr x y,n,h=>by
  simp only[qba,z9] at h
  simp only[Mk.tag,Ty.width]
  rw[qbfg b y _ h.2,qbfg a x _ h.1]
  omega
 | .unit,.no,_,_=>rfl
 | .unit,.gone,_,h=>by simp[qba] at h
 | .unit,.own _ _,_,h=>by simp[qba] at h
 | .unit,.pr _ _,_,h=>by simp[qba] at h
 | .int _,m,_,h=>by cases m<;>simp[qba] at h
 | .bool,m,_,h=>by cases m<;>simp[qba] at h
 | .str,m,_,h=>by cases m<;>simp[qba] at h
 | .sl _,.no,_,h=>by simp[qba] at h
 | .sl _,.gone,_,h=>by simp[qba] at h
 | .sl _,.pr _ _,_,h=>by simp[qba] at h
 | .pair _ _,.no,_,h=>by simp[qba] at h
 | .pair _ _,.gone,_,h=>by simp[qba] at h
 | .pair _ _,.own _ _,_,h=>by simp[qba] at h
theorem qblc:∀ (t:Ty) (m:Mk) (n:Nat),qba t m=true→(m.tag n).1.same .no=true→t.width=0
 | .sl _,.own _ _,n,_,h=>by simp[Mk.tag,Mk.same] at h
 | .pair a b,.pr x y,n,hh,h=>by
  simp only[qba,z9] at hh
  simp only[Mk.tag,Mk.same,z9] at h
  simp only[Ty.width,qblc a x n hh.1 h.1,qblc b y _ hh.2 h.2]
 | .unit,_,_,_,_=>rfl
 | .int _,m,_,h,_=>by cases m<;>simp[qba] at h
 | .bool,m,_,h,_=>by cases m<;>simp[qba] at h
 | .str,m,_,h,_=>by cases m<;>simp[qba] at h
 | .sl _,.no,_,h,_=>by simp[qba] at h
 | .sl _,.gone,_,h,_=>by simp[qba] at h
 | .sl _,.pr _ _,_,h,_=>by simp[qba] at h
 | .pair _ _,.no,_,h,_=>by simp[qba] at h
 | .pair _ _,.gone,_,h,_=>by simp[qba] at h
 | .pair _ _,.own _ _,_,h,_=>by simp[qba] at h
theorem qbbe {hd:Nat→Value}:∀ (t:Ty) (m:Mk) (n:Nat) (m':Mk) (c:List Value),qba t m=true→1048576≤n→(m.tag n).1.same m'=true→TagC hd t m' c→c.length=t.width→c=hdc hd n t.width
 | .sl _,.own _ _,n,m',c,_,hn,hs,ht,hl=>by
  simp only[Mk.tag,Mk.same] at hs
  split at hs
  ·rename_i s' mi'
   simp only[z45] at hs
   subst hs
   simp only[TagC] at ht
   rw[ht.1 hn]
   rfl
  ·simp at hs
 | .pair a b,.pr x y,n,m',c,h,hn,hs,ht,hl=>by
  simp only[qba,z9] at h
  simp only[Mk.tag,Mk.same] at hs
  split at hs
  ·rename_i c1 d1
   simp only[z9] at hs
   simp only[TagC,Mk.fst,Mk.snd] at ht
   simp only[Ty.width] at hl ⊢
   rw[qbfg a x n h.1] at hs
   have e1:=qbbe a x n c1 _ h.1 hn hs.1 ht.1 (by simp;omega)
   have e2:=qbbe b y (n+a.width) d1 _ h.2 (by omega) hs.2 ht.2 (by simp;omega)
   rw[qbvx,←e1,←e2,List.take_append_drop]
  ·simp only[z9] at hs
   simp only[Ty.width] at hl ⊢
   rw[qblc a x n h.1 hs.1,qblc b y _ h.2 hs.2] at hl ⊢
   exact z50.1 hl
  ·simp at hs
 | .unit,_,_,_,c,_,_,_,_,hl=>z50.1 hl
 | .int _,m,_,_,_,h,_,_,_,_=>by cases m<;>simp[qba] at h
 | .bool,m,_,_,_,h,_,_,_,_=>by cases m<;>simp[qba] at h
 | .str,m,_,_,_,h,_,_,_,_=>by cases m<;>simp[qba] at h
 | .sl _,.no,_,_,_,h,_,_,_,_=>by simp[qba] at h
 | .sl _,.gone,_,_,_,h,_,_,_,_=>by simp[qba] at h
 | .sl _,.pr _ _,_,_,_,h,_,_,_,_=>by simp[qba] at h
 | .pair _ _,.no,_,_,_,h,_,_,_,_=>by simp[qba] at h
 | .pair _ _,.gone,_,_,_,h,_,_,_,_=>by simp[qba] at h
 | .pair _ _,.own _ _,_,_,_,h,_,_,_,_=>by simp[qba] at h
theorem qbi1 {hd:Nat→Value}:∀ (t:Ty) (m:Mk) (n:Nat),qba t m=true→m.tagFree=true→TagC hd t (m.tag n).1 (hdc hd n t.width)
 | .sl _,.own _ _,n,_,hf=>by
  simp only[Mk.tagFree,z9] at hf
  simp only[Mk.tag,TagC]
  exact ⟨fun _=>rfl,hf.2⟩
 | .pair a b,.pr x y,n,h,hf=>by
  simp only[qba,z9] at h
  simp only[Mk.tagFree,z9] at hf
  simp only[Mk.tag,TagC,Mk.fst,Mk.snd,Ty.width,qbvx]
  rw[qbfg a x n h.1,List.take_left' (q9t _ _ _),List.drop_left' (q9t _ _ _)]
  exact ⟨qbi1 a x n h.1 hf.1,qbi1 b y _ h.2 hf.2⟩
 | .unit,_,_,_,_=>by simp only[TagC]
 | .int _,m,_,h,_=>by cases m<;>simp[qba] at h
 | .bool,m,_,h,_=>by cases m<;>simp[qba] at h
 | .str,m,_,h,_=>by cases m<;>simp[qba] at h
 | .sl _,.no,_,h,_=>by simp[qba] at h
 | .sl _,.gone,_,h,_=>by simp[qba] at h
 | .sl _,.pr _ _,_,h,_=>by simp[qba] at h
 | .pair _ _,.no,_,h,_=>by simp[qba] at h
 | .pair _ _,.gone,_,h,_=>by simp[qba] at h
 | .pair _ _,.own _ _,_,h,_=>by simp[qba] at h
theorem qbm3 {h:Array Obj} {Pr:BS}:∀ (t:Ty) (m:Mk) (n:Nat) {x:t.den} {c:List Value} {F:BS},qba t m=true→Rep h Pr t m x c F→Rep h Pr t (m.tag n).1 x c F
 | .sl _,.own _ _,n,_,_,_,_,r=>by
  simp only[Mk.tag,Rep] at r ⊢
  exact r
 | .pair a b,.pr x y,n,_,_,_,hh,r=>by
  simp only[qba,z9] at hh
  simp only[Mk.tag,Rep,Mk.fst,Mk.snd] at r ⊢
  obtain ⟨ca,cb,Fa,Fb,e,ra,rb,k⟩:=r
  exact ⟨ca,cb,Fa,Fb,e,qbm3 a x _ hh.1 ra,qbm3 b y _ hh.2 rb,k⟩
 | .unit,m,n,_,_,_,h,r=>by simpa only [Rep] using r
 | .int _,m,_,_,_,_,h,_=>by cases m<;>simp[qba] at h
 | .bool,m,_,_,_,_,h,_=>by cases m<;>simp[qba] at h
 | .str,m,_,_,_,_,h,_=>by cases m<;>simp[qba] at h
 | .sl _,.no,_,_,_,_,h,_=>by simp[qba] at h
 | .sl _,.gone,_,_,_,_,h,_=>by simp[qba] at h
 | .sl _,.pr _ _,_,_,_,_,h,_=>by simp[qba] at h
 | .pair _ _,.no,_,_,_,_,h,_=>by simp[qba] at h
 | .pair _ _,.gone,_,_,_,_,h,_=>by simp[qba] at h
 | .pair _ _,.own _ _,_,_,_,_,h,_=>by simp[qba] at h
def MvOk (hd:Nat→Value):Nat→List PK→List Value→Prop
 | i,.mutv t m _::ks,v::vs=>(v=mkV t (hdc hd (1048576+64 * i) t.width)∧qba t m=true)∧MvOk hd (i+1) ks vs
 | i,.mutp _ _ _::ks,_::vs=>MvOk hd (i+1) ks vs
 | i,.val _::ks,_::vs=>MvOk hd (i+1) ks vs
 | i,.own _ _::ks,_::vs=>MvOk hd (i+1) ks vs
 | i,.rptr _::ks,_::vs=>MvOk hd (i+1) ks vs
 | i,.fn::ks,_::vs=>MvOk hd (i+1) ks vs
 | _,_,_=>True
theorem qb3p {h:Array Obj} {S:St} {g:Ghost} {tmps:Array Value} {H:BS} (st:StRel h S g tmps H) {q:Nat} {R:Root} (hR:S.root q=some R) {t:Ty} {m:Mk} {x:t.den}
  (hs:m.serves R.ms=true) (hc:qbq R.ty t R.x=some x) :
  ∃ g' F,StRel h (S.setRoot q none) g' tmps (Un H F)∧qh9 h g'.Pr t m x (mkV t (g.C q)) F∧Dis F H∧g'.Same g∧Sub g.Pr g'.Pr:=by
 obtain ⟨F,r1,r2,r3,r4,_⟩:=st.roots q R hR
 have hq:(S.root q).isSome:=by rw[hR];rfl
 have s1:=st.dropRootH hq
 obtain ⟨_,rx⟩:=Rep.cast hc r1
 obtain ⟨F1,F2,q1,q2,q3,q4⟩:=Rep.serves t hs rx
 have s2:=s1.shareHand F2 (fun z hz=>.inr (r2 z (q2 z hz)))
 refine ⟨{ g with Pr:=Un g.Pr F2 },F1,s2.lessHand ?_,⟨g.C q,q4,rfl⟩,?_,⟨rfl,rfl,rfl⟩,fun z hz=>.inl hz⟩
 ·rintro z (hz | hz)
  ·exact ⟨.inl hz,fun h2=>st.hand q hq z (r2 z (q2 z h2)) hz⟩
  ·exact ⟨.inr (r2 z (q1 z hz)),fun h2=>q3 z hz h2⟩
 ·intro z hz hh
  exact st.hand q hq z (r2 z (q1 z hz)) hh
theorem qhm.shift {h:Array Obj} {Pr:BS} {Os Os2:Nat→BS}:∀ (ks:List PK) (i:Nat) {o:ODen ks} {vs:List Value},(∀ j,i≤j→Os2 j=Os j)→qhm h Pr Os i ks o vs→qhm h Pr Os2 i ks o vs
 | [],_,_,_,_,r=>r
 | .mutp t _ m::ks,i,_,_,hj,r=>by
  obtain ⟨v,vs',e,r1,r2⟩:=r
  exact ⟨v,vs',e,by rw[hj i (Nat.le_refl _)];exact r1,qhm.shift ks (i+1) (fun j h=>hj j (by omega)) r2⟩
 | .mutv t _ m::ks,i,_,_,hj,r=>by
  obtain ⟨v,vs',e,r1,r2⟩:=r
  exact ⟨v,vs',e,by rw[hj i (Nat.le_refl _)];exact r1,qhm.shift ks (i+1) (fun j h=>hj j (by omega)) r2⟩
 | .val _::ks,i,_,_,hj,r=>by obtain ⟨v,vs',e,r2⟩:=r;exact ⟨v,vs',e,qhm.shift ks (i+1) (fun j h=>hj j (by omega)) r2⟩
 | .own _ _::ks,i,_,_,hj,r=>by obtain ⟨v,vs',e,r2⟩:=r;exact ⟨v,vs',e,qhm.shift ks (i+1) (fun j h=>hj j (by omega)) r2⟩
 | .rptr _::ks,i,_,_,hj,r=>by obtain ⟨v,vs',e,r2⟩:=r;exact ⟨v,vs',e,qhm.shift ks (i+1) (fun j h=>hj j (by omega)) r2⟩
 | .fn::ks,i,_,_,hj,r=>by obtain ⟨v,vs',e,r2⟩:=r;exact ⟨v,vs',e,qhm.shift ks (i+1) (fun j h=>hj j (by omega)) r2⟩
structure OutR (h:Array Obj) (g:Ghost) (tmps:Array Value) (H:BS) (ks:List PK) (i:Nat) (o:ODen ks) (vs:List Value) (g':Ghost) (H':BS) (Os:Nat→BS):Prop where
 st:∃ S',StRel h S' g' tmps H'
 same:g'.Same g
 pr:Sub g.Pr g'.Pr
 rel:qhm h g'.Pr Os i ks o vs
 nil:∀ j,j<i→Os j=Nil
 sub:∀ j,Sub (Os j) H'
 dis:∀ j k,j≠k→Dis (Os j) (Os k)
 disH:∀ j,Dis (Os j) H
 hand:Sub H H'
theorem qbzk {i j:Nat} {k:PK} {ks:List PK} (h:j∈qgi (i+1) ks):j∈qgi i (k::ks):=by
 cases k<;>simp only[qgi,z15]<;>first | exact h | exact .inr h
theorem q4q {Hh:Hints} {h:Array Obj} {tmps:Array Value}:∀ (ks:List PK) (i:Nat) (vs:List Value) (S:St) (g:Ghost) (H:BS) (o:ODen ks),StRel h S g tmps H→outs Hh i ks S=some o→
  (∀ k v,vs[k]? = some v→i+k∈qgi i ks→tmps.getD (i+k) Go.undef=v)→vs.length=ks.length→MvOk g.hd i ks vs→∃ g' H' Os,OutR h g tmps H ks i o vs g' H' Os
 | [],i,vs,S,g,H,o,st,ho,hv,hl,hm=>by
  refine ⟨g,H,fun _=>Nil,⟨S,st⟩,.refl g,Sub.refl _,z50.1 hl,fun _ _=>rfl,fun _=>Sub.nil _,fun _ _ _=>Dis.nil _,fun _=>Dis.nil _,Sub.refl _⟩
 | k::ks,i,[],S,g,H,o,st,ho,hv,hl,hm=>by simp at hl
 | k::ks,i,v::vs,S,g,H,o,st,ho,hv,hl,hm=>by
  have hv':∀ k v,vs[k]? = some v→i+1+k∈qgi (i+1) ks→tmps.getD (i+1+k) Go.undef=v:=by
   intro k u hk hm
   have:=hv (k+1) u (by simpa using hk) (by rw[show i+(k+1)=i+1+k by omega];exact qbzk hm)
   rw[←this];congr 1;omega
  have hl':vs.length=ks.length:=by simpa using hl
  -- one that comes back
  have back:∀ (t:Ty) (x:t.den) (oo:ODen ks) (S1:St) (g1:Ghost) (F:BS) (rel:BS→BS→Prop),StRel h S1 g1 tmps (Un H F)→(∀ Pr,Sub g1.Pr Pr→rel Pr F)→Dis F H→g1.Same g→Sub g.Pr g1.Pr→
    outs Hh (i+1) ks S1=some oo→MvOk g.hd (i+1) ks vs→
    ∃ g' H' Os,(∃ S',StRel h S' g' tmps H')∧g'.Same g∧Sub g.Pr g'.Pr∧rel g'.Pr (Os i)∧qhm h g'.Pr Os (i+1) ks oo vs∧(∀ j,j<i→Os j=Nil)∧(∀ j,Sub (Os j) H')∧
     (∀ j k,j≠k→Dis (Os j) (Os k))∧(∀ j,Dis (Os j) H)∧Sub H H':=by
   intro t x oo S1 g1 F rel s1 hrel hd hsm hp ho hm
   obtain ⟨g',H',Os,q⟩:=q4q ks (i+1) vs S1 g1 _ oo s1 ho hv' hl' (by rw[hsm.1];exact hm)
   refine ⟨g',H',fun j=>if j=i then F else Os j,q.st,hsm.trans q.same,hp.trans q.pr,?_,?_,?_,?_,?_,?_,fun z hz=>q.hand z (.inl hz)⟩
   ·show rel g'.Pr (if i=i then F else Os i)
    rw[z6 rfl];exact hrel _ q.pr
   ·exact qhm.shift ks (i+1) (fun j hj=>by show (if j=i then F else Os j)=Os j;rw[z5 (by omega)]) q.rel
   ·intro j hj;show (if j=i then F else Os j)=Nil;rw[z5 (by omega)];exact q.nil j (by omega)
   ·intro j z hz
    split at hz
    ·exact q.hand z (.inr hz)
    ·exact q.sub j z hz
   ·intro j k hjk z h1 h2
    split at h1<;>split at h2
    ·omega
    ·exact q.disH k z h2 (.inr h1)
    ·exact q.disH j z h1 (.inr h2)
    ·exact q.dis j k hjk z h1 h2
   ·intro j z h1 h2
    split at h1
    ·exact hd z h1 h2
    ·exact q.disH j z h1 (.inl h2)
  cases k with
  | val t=>
   obtain ⟨g',H',Os,q⟩:=q4q ks (i+1) vs S g H o st (by simpa only [outs] using ho) hv' hl' (by simpa only [MvOk] using hm)
   exact ⟨g',H',Os,q.st,q.same,q.pr,⟨v,vs,rfl,q.rel⟩,fun j hj=>q.nil j (by omega),q.sub,q.dis,q.disH,q.hand⟩
  | own t m=>
   obtain ⟨g',H',Os,q⟩:=q4q ks (i+1) vs S g H o st (by simpa only [outs] using ho) hv' hl' (by simpa only [MvOk] using hm)
   exact ⟨g',H',Os,q.st,q.same,q.pr,⟨v,vs,rfl,q.rel⟩,fun j hj=>q.nil j (by omega),q.sub,q.dis,q.disH,q.hand⟩
  | rptr t=>
   obtain ⟨g',H',Os,q⟩:=q4q ks (i+1) vs S g H o st (by simpa only [outs] using ho) hv' hl' (by simpa only [MvOk] using hm)
   exact ⟨g',H',Os,q.st,q.same,q.pr,⟨v,vs,rfl,q.rel⟩,fun j hj=>q.nil j (by omega),q.sub,q.dis,q.disH,q.hand⟩
  | fn=>
   obtain ⟨g',H',Os,q⟩:=q4q ks (i+1) vs S g H o st (by simpa only [outs] using ho) hv' hl' (by simpa only [MvOk] using hm)
   exact ⟨g',H',Os,q.st,q.same,q.pr,⟨v,vs,rfl,q.rel⟩,fun j hj=>q.nil j (by omega),q.sub,q.dis,q.disH,q.hand⟩
  | mutp t m0 m'=>
   simp only[outs] at ho
   split at ho
   ·rename_i qq hslot
    split at ho
    ·rename_i R hR
     split at ho
     ·rename_i hs
      simp only[z8,z4] at ho
      obtain ⟨x,hc,oo,ho,rfl⟩:=ho
      have hv0:tmps.getD i Go.undef=v:=by have:=hv 0 v rfl (by simp[qgi]);simpa using this
      have hav:=st.slots i
      rw[hslot,hv0] at hav
      obtain ⟨g1,F,p1,p2,p3,p4,p5⟩:=qbvo st hR hs.1 hs.2 hc hav
      obtain ⟨g',H',Os,k1,k2,k3,k4,k5,k6⟩:=back t x oo _ g1 F (fun Pr F=>qol h Pr t m' x v F) p1 (fun Pr hp=>p2.mono hp) p3 p4 p5 ho (by simpa only [MvOk] using hm)
      exact ⟨g',H',Os,k1,k2,k3,⟨v,vs,rfl,k4,k5⟩,k6.1,k6.2.1,k6.2.2.1,k6.2.2.2.1,k6.2.2.2.2⟩
     ·simp at ho
    ·simp at ho
   ·simp at ho
  | mutv t m0 m'=>
   simp only[outs] at ho
   split at ho
   ·rename_i R hR
    split at ho
    ·rename_i hs
     simp only[z8,z4] at ho
     obtain ⟨x,hc,oo,ho,rfl⟩:=ho
     simp only[MvOk] at hm
     obtain ⟨⟨ev,hh⟩,hm⟩:=hm
     obtain ⟨g1,F,p1,p2,p3,p4,p5⟩:=qb3p st hR hs.1 hc
     have hcell:g.C ((Hh.outs.lookup i).getD i)=hdc g.hd (1048576+64 * i) t.width:=by
      obtain ⟨F0,r1,_⟩:=st.roots _ R hR
      have ht:=st.tag _ R hR
      obtain ⟨e,_⟩:=qjz hc
      have hw:=Rep.width _ r1
      rw[e] at ht hw
      exact qbbe t m0 _ _ _ hh (by omega) hs.2 ht hw
     rw[hcell,←ev] at p2
     obtain ⟨g',H',Os,k1,k2,k3,k4,k5,k6⟩:=back t x oo _ g1 F (fun Pr F=>qh9 h Pr t m' x v F) p1 (fun Pr hp=>p2.mono hp) p3 p4 p5 ho hm
     exact ⟨g',H',Os,k1,k2,k3,⟨v,vs,rfl,k4,k5⟩,k6.1,k6.2.1,k6.2.2.1,k6.2.2.2.1,k6.2.2.2.2⟩
    ·simp at ho
   ·simp at ho
end
end Go.V

namespace Go.V
open Go
theorem qbbc (r:Nat):∀ (t:Ty) (m:Mk) (x:t.den) (p:Path),∀ q∈(avOf r t m x p).roots,q=r
 | .unit,_,_,_,q,h=>by simp[avOf,AV.roots] at h
 | .int _,_,_,_,q,h=>by simp[avOf,AV.roots] at h
 | .bool,_,_,_,q,h=>by simp[avOf,AV.roots] at h
 | .str,_,_,_,q,h=>by simp[avOf,AV.roots] at h
 | .pair a b,m,x,p,q,h=>by
  unfold avOf at h
  split at h
  ·simp[AV.roots] at h
  ·simp only[AV.roots,z18] at h
   rcases h with h | h
   ·exact qbbc r a _ _ _ q h
   ·exact qbbc r b _ _ _ q h
 | .sl t,m,x,p,q,h=>by cases m<;>simp[avOf,AV.roots] at h;exact h
theorem qbw5 {tmps:Array Value} {i:Nat} {v:Value} (h:tmps.getD i Go.undef=v):tmps.setIfInBounds i v=tmps:=by
 apply Array.ext_getElem?
 intro j
 rw[Array.getElem?_setIfInBounds]
 by_cases e:i=j
 ·subst e
  rw[z6 rfl]
  by_cases hl:i<tmps.size
  ·rw[z6 hl]
   simp only[Array.getD_eq_getD_getElem?,Array.getElem?_eq_getElem hl,Option.getD_some] at h
   rw[Array.getElem?_eq_getElem hl,h]
  ·rw[z5 hl,Array.getElem?_eq_none (by omega)]
 ·rw[z5 e]
theorem qbt0 {h:Array Obj} {tmps:Array Value} {Pr:BS} {Fs:Nat→BS} (hdis:∀ i j,i≠j→Dis (Fs i) (Fs j)):∀ (ks:List PK) (i:Nat) (a:PDen ks) (vs:List Value) (S:St) (g:Ghost) (H:BS),StRel h S g tmps H→
  qw6 h Pr Fs i ks a vs→g.Pr=Pr→(∀ k v,vs[k]? = some v→tmps.getD (i+k) Go.undef=v)→(∀ u r,r∈(S.get u).roots→r<i)→ks.all PK.enterOk=true→(∀ j,i≤j→Sub (Fs j) H)→
  i+ks.length≤tmps.size→MvOk g.hd i ks vs→∃ g' H',StRel h (enter S i ks a) g' tmps H'∧g'.Pr=Pr∧g'.Same g
 | [],i,a,vs,S,g,H,st,hps,hpr,hv,hb,hok,hH,hl,hm=>⟨g,H,st,hpr,.refl g⟩
 | k::ks,i,a,vs,S,g,H,st,hps,hpr,hv,hb,hok,hH,hl,hm=>by
  obtain ⟨v,vs',rfl,r1,r2⟩:=hps
  simp only[List.all_cons,z9] at hok
  simp only[z22] at hl
  have hv':∀ k v,vs'[k]? = some v→tmps.getD (i+1+k) Go.undef=v:=by
   intro k u hk
   have:=hv (k+1) u (by simpa using hk)
   rw[←this];congr 1;omega
  have hv0:tmps.getD i Go.undef=v:=by have:=hv 0 v rfl;simpa using this
  have hil:i<S.rt.length:=by rw[st.rlen];omega
  -- the slot,and on
  have go:∀ (S1:St) (g1:Ghost) (H1:BS) (av:AV),StRel h S1 g1 tmps H1→g1.Pr=Pr→g1.Same g→qe h S1 g1 av v→(∀ r∈av.roots,r=i)→(∀ u r,r∈(S1.get u).roots→r<i)→
    (∀ j,i+1≤j→Sub (Fs j) H1)→MvOk g.hd (i+1) ks vs'→∃ g' H',StRel h (enter (S1.set i av) (i+1) ks a.2) g' tmps H'∧g'.Pr=Pr∧g'.Same g:=by
   intro S1 g1 H1 av s1 hp1 hs1 hav hr hb1 hH1 hm1
   have s2:=s1.setSlot i hav
   rw[qbw5 hv0] at s2
   obtain ⟨g',H',k1,k2,k3⟩:=qbt0 hdis ks (i+1) a.2 vs' (S1.set i av) g1 H1 s2 r2 hp1 hv' (by
    intro u r hr'
    rw[St.get_set] at hr'
    split at hr'
    ·have:=hr r hr';omega
    ·have:=hb1 u r hr';omega) hok.2 hH1 (by omega) (by rw[hs1.1];exact hm1)
   exact ⟨g',H',k1,k2,hs1.trans k3⟩
  -- a root,the slot,and on
  have root:∀ (t:Ty) (m:Mk) (x:t.den) (c:List Value),t.nz=true→Rep h Pr t m x c (Fs i)→v=mkV t c→TagC g.hd t m c→MvOk g.hd (i+1) ks vs'→
    ∃ g' H',StRel h (enter ((S.setRoot i (some ⟨t,m,x,false⟩)).set i (avOf i t m x [])) (i+1) ks a.2) g' tmps H'∧g'.Pr=Pr∧g'.Same g:=by
   intro t m x c hz rep ev htg hm1
   obtain ⟨g1,s1,p1,p2,p3,p4,_⟩:=st.newRoot hil (by rw[hpr];exact rep) htg (hH i (Nat.le_refl _)) none (fun b hb=>by simp at hb) (fun u=>.inl (by
    cases hc:(S.get u).roots.contains i with
    | false=>rfl
    | true=>have:=hb u i (by simpa using hc);omega))
   have hroot:(S.setRoot i (some ⟨t,m,x,false⟩)).root i=some ⟨t,m,x,false⟩:=by rw[St.root_setRoot];simp[hil]
   have hat:atP h t c (g1.base i) []=some (g1.base i,c):=by cases t<;>rfl
   refine go _ g1 _ _ s1 (p1.trans hpr) p2 ?_ (qbbc i t m x []) (fun u r hr=>hb u r hr) ?_ hm1
   ·rw[ev]
    have rep2:Rep h g1.Pr t m x c (Fs i):=by rw[p1,hpr];exact rep
    refine AVC.rel rep2 (qzf hroot t m x [] (g1.base i) c (Fs i) (by simp only[focus]) (by simp only[inR]) ?_ rep2) (Ty.nz_unit hz)
    rw[p3];exact hat
   ·intro j hj b hb'
    exact ⟨hH j (by omega) b hb',fun h2=>hdis j i (by omega) b hb' h2,by simp⟩
  cases k with
  | val t=>
   simp only[enter]
   refine go S g H _ st hpr (.refl g) ?_ (by simp[AV.roots]) hb (fun j hj=>hH j (by omega)) (by simpa only [MvOk] using hm)
   obtain ⟨c,rep,e⟩:=r1
   simp only[qe];exact ⟨c,by rw[hpr];exact rep,e⟩
  | rptr t=>
   simp only[enter]
   refine go S g H _ st hpr (.refl g) ?_ (by simp[AV.roots]) hb (fun j hj=>hH j (by omega)) (by simpa only [MvOk] using hm)
   simp only[qe]
   obtain ⟨b,o,cs,e1,e2,e3⟩:=r1
   exact ⟨b,o,cs,e1,by rw[hpr];exact e2,by rw[hpr];exact e3⟩
  | fn=>
   simp only[enter]
   refine go S g H _ st hpr (.refl g) ?_ (by simp[AV.roots]) hb (fun j hj=>hH j (by omega)) (by simpa only [MvOk] using hm)
   obtain ⟨us,e,hc⟩:=r1
   simp only[qe]
   refine ⟨us,e,?_⟩
   have:∀ (l:List CapV) (us:List Value),qfu h (PG Pr) l us→qfu h g l us:=by
    intro l
    induction l with
    | nil=>intro us h;exact h
    | cons x l ih=>
     intro us hh
     simp only[qfu] at hh ⊢
     obtain ⟨u,us',e,h1,h2⟩:=hh
     refine ⟨u,us',e,?_,ih us' h2⟩
     cases x with
     | val t y=>simp only[qbbr] at h1 ⊢;rw[hpr];exact h1
     | rptr t y=>
      simp only[qbbr] at h1 ⊢
      obtain ⟨b,o,cs,e1,e2,e3⟩:=h1
      exact ⟨b,o,cs,e1,by rw[hpr];exact e2,by rw[hpr];exact e3⟩
   exact this _ us hc
  | own t m=>
   simp only[enter]
   simp only[PK.enterOk,z9] at hok
   obtain ⟨c,rep,e⟩:=r1
   exact root t m a.1 c hok.1.1 rep e (TagC.tagFree t hok.1.2) (by simpa only [MvOk] using hm)
  | mutv t m m'=>
   simp only[enter]
   simp only[PK.enterOk,z9] at hok
   simp only[MvOk] at hm
   obtain ⟨c,rep,e⟩:=r1
   have hc:c=hdc g.hd (1048576+64 * i) t.width:=by
    have e2:=e.symm.trans hm.1.1
    have h1:=qlq rep
    rw[e2] at h1
    rw[←h1]
    have:∀ (t:Ty) (m:Mk) (l:List Value),t.nz=true→qba t m=true→l.length=t.width→(mkV t l).cells.toList=l∨∃ y,t=.sl y:=by
     intro t m l hz hh hl
     cases t with
     | pair a b=>left;simp[mkV,Ty.agg,Value.cells]
     | sl y=>exact .inr ⟨y,rfl⟩
     | unit=>simp[Ty.nz] at hz
     | _=>cases m<;>simp[qba] at hh
    rcases this t m _ hok.1.1 hm.1.2 (q9t g.hd (1048576+64 * i) t.width) with h2 | ⟨y,rfl⟩
    ·exact h2
    ·obtain ⟨aa,n,k,hsl⟩:=Rep.slice rep
     have e3:=e2
     simp only[mkV,Ty.agg,z34,if_false,Ty.width,hdc,List.range_one,z28,List.map_nil,List.headD_cons] at e3 ⊢
     rw[hsl] at e3
     simp only[List.headD_cons] at e3
     rw[←e3]
     simp[Value.cells]
   refine root t (qblb i m) a.1 c hok.1.1 (qbm3 t m _ hm.1.2 rep) e ?_ hm.2
   rw[hc];exact qbi1 t m _ hm.1.2 hok.1.2.1
  | mutp t m m'=>
   simp only[enter]
   simp only[PK.enterOk] at hok
   obtain ⟨b,c,F0,e,rep,ho,hb1,hs0,hn0⟩:=r1
   obtain ⟨g1,s1,p1,p2,p3,p4,_⟩:=st.newRoot hil (by rw[hpr];exact rep) (TagC.tagFree t hok.1) (fun z hz=>hH i (Nat.le_refl _) z (hs0 z hz)) (some b)
    (fun b' hb'=>by simp only[z4] at hb';subst hb';exact ⟨hH i (Nat.le_refl _) b hb1,hn0,ho⟩) (fun u=>.inl (by
    cases hc:(S.get u).roots.contains i with
    | false=>rfl
    | true=>have:=hb u i (by simpa using hc);omega))
   have hroot:(S.setRoot i (some ⟨t,m,a.1,true⟩)).root i=some ⟨t,m,a.1,true⟩:=by rw[St.root_setRoot];simp[hil]
   refine go _ g1 _ _ s1 (p1.trans hpr) p2 ?_ (by simp[AV.roots]) (fun u r hr=>hb u r hr) ?_ (by simpa only [MvOk] using hm)
   ·simp only[qe]
    intro R hR d hf
    have hR2:R=⟨t,m,a.1,true⟩:=by
     have hR':(S.setRoot i (some ⟨t,m,a.1,true⟩)).root i=some R:=hR
     rw[hroot] at hR'
     simp only[z4] at hR'
     exact hR'.symm
    subst hR2
    refine ⟨by simp only[inR],b,0,c,?_,e⟩
    have hat:atP h t c (g1.base i) []=some (g1.base i,c):=by cases t<;>rfl
    rw[p3,hat]
    simp[Ghost.base,p4]
   ·intro j hj z hz
    refine ⟨hH j (by omega) z hz,fun h2=>hdis j i (by omega) z hz (hs0 z h2),?_⟩
    intro h2
    simp only[z4] at h2
    subst h2
    exact hdis j i (by omega) _ hz hb1
end Go.V

namespace Go.V
open Go
theorem qw6.len {h:Array Obj} {Pr:BS} {Fs:Nat→BS}:∀ (ks:List PK) (i:Nat) {a:PDen ks} {vs:List Value},qw6 h Pr Fs i ks a vs→vs.length=ks.length
 | [],_,_,_,r=>by rw[show _=[] from r];rfl
 | k::ks,i,_,_,r=>by
  obtain ⟨v,vs',rfl,_,r2⟩:=r
  simp[qw6.len ks (i+1) r2]
theorem qb1r {h:Array Obj} {Pr:BS} {Fs:Nat→BS} (us:List Value):∀ (ks:List PK) (i:Nat) (a:PDen ks) (vs:List Value),qw6 h Pr Fs i ks a vs→ks.all PK.enterOk=true→(∀ k,vs[k]? = us[i+k]?)→
  MvOk (fun s=>((us.getD ((s - 1048576) / 64) Go.undef).cells).getD ((s - 1048576) % 64) Go.undef) i ks vs
 | [],_,_,_,_,_,_=>by simp only[MvOk]
 | k::ks,i,a,vs,r,hok,hu=>by
  obtain ⟨v,vs',rfl,r1,r2⟩:=r
  simp only[List.all_cons,z9] at hok
  have ih:=qb1r us ks (i+1) a.2 vs' r2 hok.2 (fun k=>by have:=hu (k+1);rw[show i+1+k=i+(k+1) by omega,←this];simp)
  cases k with
  | mutv t m m'=>
   simp only[MvOk]
   refine ⟨⟨?_,?_⟩,ih⟩
   ·simp only[PK.enterOk,z9] at hok
    obtain ⟨c,rep,e⟩:=r1
    have hw:=Rep.width t rep
    have h64:=Nat.le_of_ble_eq_true hok.1.2.2.2
    have hcells:=qlq rep
    rw[←e] at hcells
    have hui:us.getD i Go.undef=v:=by
     have:=hu 0
     simp only[Nat.add_zero,List.getElem?_cons_zero] at this
     simp only[List.getD,←this,Option.getD_some]
    have:hdc (fun s=>((us.getD ((s - 1048576) / 64) Go.undef).cells).getD ((s - 1048576) % 64) Go.undef) (1048576+64 * i) t.width=c:=by
     apply List.ext_getElem (by rw[q9t,hw])
     intro k h1 h2
     rw[q9t] at h1
     simp only[hdc,List.getElem_map,List.getElem_range]
     rw[show (1048576+64 * i+k - 1048576) / 64=i by omega,show (1048576+64 * i+k - 1048576) % 64=k by omega,hui]
     have hk:k<v.cells.size:=by rw[←z41,hcells];omega
     simp only[Array.getD_eq_getD_getElem?,Array.getElem?_eq_getElem hk,Option.getD_some]
     rw[←Array.getElem_toList]
     simp only[hcells]
    rw[this];exact e
   ·simp only[PK.enterOk,z9] at hok
    exact hok.1.2.2.1
  | _=>simpa only [MvOk] using ih
theorem qe4.mono {h:Array Obj} {Pr Pr2:BS} {Gs:Nat→BS} (hp:Sub Pr Pr2):∀ (ks:List RK) (i:Nat) {a:RDen ks} {us:List Value},qe4 h Pr Gs i ks a us→qe4 h Pr2 Gs i ks a us
 | [],_,_,_,r=>r
 | k::ks,i,_,_,r=>by
  obtain ⟨v,vs',e,r1,r2⟩:=r
  exact ⟨v,vs',e,r1.mono hp,qe4.mono hp ks (i+1) r2⟩
section
variable {P:Program} {C:Ctx} {D:Den C} (hty:qcl P C) (dok:DOk P C D) (hmix:P.follows .mixedOrders=true)
include hty dok hmix
theorem qb2q {f:FuncId} {fn:Func} {n:Nat} {Hh:Hints} {ks:List PK} {rs:List RK} {a:PDen ks} {r:RDen rs×ODen ks} (hf:P.funcs[f]? = some fn) (h:runF C D n fn Hh ks rs a=some r)
    {w:World} {Pr:BS} {Fs:Nat→BS} {vs:List Value} (pre:Pre w.heap Pr Fs ks a vs) :
    Calls P f vs.toArray w fun e w'=>∃ val Pr' Gs Os us,e=.returned val∧Pst w w' Pr Fs ks rs r.1 r.2 vs val Pr' Gs Os us:=by
  unfold runF at h
  split at h
  · simp at h
  · rename_i c hb
    split at h
    · rename_i hchk
      simp only[z9] at hchk
      obtain ⟨hok,hle,hcf⟩:=hchk
      have hle:=Nat.le_of_ble_eq_true hle
      have hlen:=qw6.len ks 0 pre.rel
      refine calls_of_wp hf hb ?_
      have hmv:=qb1r vs ks 0 a vs pre.rel hok (fun k=>by simp)
      generalize hhd:(fun s=>((vs.getD ((s - 1048576) / 64) Go.undef).cells).getD ((s - 1048576) % 64) Go.undef)=hd at hmv
      let g0:Ghost:=⟨Pr,fun _=>[],fun _=>none,fun _=>Nil,hd,May w.heap.size Fs,Pr⟩
      generalize htm:vs.toArray++Array.replicate (fn.ntmps - vs.toArray.size) Go.undef=tmps
      have hsz:tmps.size=fn.ntmps:=by rw[←htm];simp;omega
      have hget:∀ k v,vs[k]? = some v→tmps.getD k Go.undef=v:=by
        intro k v hk
        have hkl:k<vs.length:=(List.getElem?_eq_some_iff.1 hk).1
        rw[←htm]
        simp only[Array.getD_eq_getD_getElem?]
        rw[Array.getElem?_append_left (by simpa using hkl)]
        simp[hk]
      have hroot:∀ q,(⟨List.replicate fn.ntmps .undef,List.replicate fn.ntmps none⟩:St).root q=none:=by
        intro q
        simp only[Rts.root_eq,List.getD,List.getElem?_replicate]
        split<;>rfl
      have hslot:∀ t,(⟨List.replicate fn.ntmps .undef,List.replicate fn.ntmps none⟩:St).get t=.undef:=by
        intro t
        simp only[St.get_eq,List.getD,List.getElem?_replicate]
        split<;>rfl
      have st0:StRel w.heap ⟨List.replicate fn.ntmps .undef,List.replicate fn.ntmps none⟩ g0 tmps (fun b=>∃ i,Fs i b):=by
        refine { len:=by simp[hsz],rlen:=by simp[hsz],slots:=fun t=>by rw[hslot];simp only[qe],roots:=fun q R hR=>?_,dis:=fun q q' _ h1 _=>?_,prot:=fun q h1=>?_,hand:=fun q h1=>?_,handPr:=?_,limPr:=pre.limPr,
                 limG:=fun q b h1 _=>?_,limH:=?_,tag:=fun q R hR=>?_,own:=fun q b h1 _=>?_,ownH:=fun b hb=>.inr hb,limL:=fun b hb=>.inl hb,p0:=Sub.refl _,prL:=fun b hb=>.inl hb }
        · rw[hroot] at hR;simp at hR
        · rw[hroot] at h1;simp at h1
        · rw[hroot] at h1;simp at h1
        · rw[hroot] at h1;simp at h1
        · rintro b ⟨i,hb⟩ hp;exact pre.prot i b hb hp
        · rw[hroot] at h1;simp at h1
        · rintro b ⟨i,hb⟩;exact pre.lim i b hb
        · rw[hroot] at hR;simp at hR
        · rw[hroot] at h1;simp at h1
      obtain ⟨g1,H1,st1,hpr1,hsm1⟩:=qbt0 pre.dis ks 0 a vs _ g0 _ st0 pre.rel rfl (fun k v hk=>by simpa using hget k v hk) (fun u q hq=>by rw[hslot] at hq;simp[AV.roots] at hq) hok
        (fun j _ b hb=>⟨j,hb⟩) (by rw[hsz];omega) hmv
      refine qz5 (np:=qgi 0 ks) (H:=Hh) hty dok hmix c n _ _ hcf h _ g1 ⟨tmps,[]⟩ w (st1.lessHand (Sub.nil _)) rfl ?_
      intro e S' g' a' w' hk st' hsm hfr hdf hfx
      have fin:((qoj C rs fn.results.toList S').bind fun r=>(outs Hh 0 ks r.2).bind fun o=>some (r.1,o))=some r→∃ v,(results fn a'.tmps).run P w'=.ok v w'∧
          ∃ val Pr' Gs Os us,Ending.returned v=.returned val∧Pst w w' Pr Fs ks rs r.1 r.2 vs val Pr' Gs Os us:=by
        intro hk
        simp only[z8,z4] at hk
        obtain ⟨⟨rr,S2⟩,hg,o,ho,rfl⟩:=hk
        obtain ⟨us,g2,H2,Gs,k1,k2,k3,k4,k5,k6,k7,k8,k9,k10⟩:=qbo1 hty rs _ S' g' Nil 0 rr S2 st' hg
        have hsm2:=(hsm1.trans hsm).trans k3
        obtain ⟨g3,H3,Os,q⟩:=q4q (Hh:=Hh) ks 0 vs S2 g2 H2 o k2 ho (fun k v hk hmem=>by
          rw[Nat.zero_add] at hmem
          rw[Nat.zero_add,hfx k hmem]
          exact hget k v hk) hlen (by rw[hsm2.1];exact hmv)
        obtain ⟨S3,st3⟩:=q.st
        have hsm3:=hsm2.trans q.same
        have hL:g3.L=May w.heap.size Fs:=hsm3.2.1
        have hP0:g3.P0=Pr:=hsm3.2.2
        have hL1:g1.L=May w.heap.size Fs:=hsm1.2.1
        refine ⟨qls us,qbwx k1,qls us,g3.Pr,Gs,Os,us,rfl,?_⟩
        exact {
          res:=qe4.mono q.pr rs 0 k5
          val:=rfl
          out:=q.rel
          pr:=by rw[←hP0];exact st3.p0
          prL:=fun b hb=>by have:=st3.prL b hb;rw[hP0,hL] at this;exact this
          gL:=fun i b hb=>by rw[←hL];exact st3.ownH b (q.hand b (k7 i b hb))
          oL:=fun i b hb=>by rw[←hL];exact st3.ownH b (q.sub i b hb)
          gdis:=k8
          odis:=q.dis
          go:=fun i j b h1 h2=>q.disH j b h2 (k7 i b h1)
          gp:=fun i b h1 h2=>st3.handPr b (q.hand b (k7 i b h1)) h2
          op:=fun i b h1 h2=>st3.handPr b (q.sub i b h1) h2
          glim:=fun i b h1=>st3.limH b (q.hand b (k7 i b h1))
          olim:=fun i b h1=>st3.limH b (q.sub i b h1)
          plim:=st3.limPr
          fr:=by rw[←hL1];exact hfr }
      cases e with
      | normal=>exact ⟨hdf,fin hk⟩
      | ret=>exact ⟨hdf,fin hk⟩
      | exit id=>simp at hk
    · simp at h
end
theorem qb1u {P:Program} {C:Ctx} (hty:qcl P C) (hmix:P.follows .mixedOrders=true) {E:Den C} {isExt:FuncId→Bool} (hext:∀ f,isExt f=true→FnOk P C E f) (hextc:∀ f a r,isExt f=true→E f a=some r→qzk P f)
  (hnm:∀ (f:FuncId) (fn:Func),P.funcs[f]? = some fn→fn.name≠ "runtime.NumGoroutine"):∀ n,DOk P C (Dn C E isExt (fun g=>P.funcs[g]?) n)
 | 0=>⟨fun f a r h=>by simp[Dn] at h,fun f a r h=>by simp[Dn] at h⟩
 | n+1=>by
  have ih:=qb1u hty hmix hext hextc hnm n
  refine ⟨fun f a r h=>?_,fun f a r h=>?_⟩
  ·simp only[Dn] at h
   by_cases he:isExt f=true
   ·rw[z6 he] at h
    exact hext f he a r h
   ·rw[z5 he] at h
    split at h
    ·simp at h
    ·rename_i fn hf
     intro w Pr Fs vs pre
     exact qb2q hty ih hmix hf h pre
  ·simp only[Dn] at h
   by_cases he:isExt f=true
   ·rw[z6 he] at h
    exact hextc f a r he h
   ·rw[z5 he] at h
    split at h
    ·simp at h
    ·rename_i fn hf
     refine ⟨fn,hf,hnm f fn hf,?_⟩
     unfold runF at h
     split at h
     ·simp at h
     ·rename_i c hb;rw[hb];rfl
end Go.V

namespace Go.V
noncomputable section
open Go
def zv:Value→Value→Bool
 | .int k a,.int j b=>decide (k=j)&&decide (a=b)
 | .bool a,.bool b=>decide (a=b)
 | .string a,.string b=>Nat.beq a.size 0&&Nat.beq b.size 0
 | .slice none n k,.slice none n' k'=>Nat.beq n n'&&Nat.beq k k'
 | _,_=>false
def zvs:List Value→List Value→Bool
 | [],[]=>true
 | a::l,b::l'=>zv a b&&zvs l l'
 | _,_=>false
def zval:Value→Value→Bool
 | .agg a,.agg b=>zvs a.toList b.toList
 | a,b=>zv a b
theorem qbok {a:ByteArray} (h:Nat.beq a.size 0=true):a=ByteArray.empty:=by
 have h:=Nat.eq_of_beq_eq_true h
 obtain ⟨⟨l⟩⟩:=a
 have:l=[]:=z50.1 h
 subst this;rfl
theorem qb1x:∀ {a b:Value},zv a b=true→a=b:=by
 intro a b h
 unfold zv at h
 split at h
 ·simp only[z9,z45] at h;rw[h.1,h.2]
 ·simp only[z45] at h;rw[h]
 ·simp only[z9] at h;rw[qbok h.1,qbok h.2]
 ·simp only[z9] at h;rw[Nat.eq_of_beq_eq_true h.1,Nat.eq_of_beq_eq_true h.2]
 ·simp at h
theorem qbx5:∀ {l l':List Value},zvs l l'=true→l=l'
 | [],[],_=>rfl
 | a::l,b::l',h=>by
  simp only[zvs,z9] at h
  rw[qb1x h.1,qbx5 h.2]
 | [],_::_,h=>by simp[zvs] at h
 | _::_,[],h=>by simp[zvs] at h
theorem qb25 {a b:Value} (h:zval a b=true):a=b:=by
 unfold zval at h
 split at h
 ·rename_i x y
  have:=qbx5 h
  rw[Array.ext' this]
 ·exact qb1x h
def q4r (C:Ctx):List Field→Nat→Ty→Bool
 | [],_,.unit=>true
 | f::fs,off,.pair a b=>decide (a=C.ty f.type)&&(Nat.beq f.offset off&&((f.name != "_")&&(a.nz&&q4r C fs (off+a.width) b)))
 | _,_,_=>false
theorem qbky {C:Ctx}:∀ (fs:List Field) (off:Nat) (T:Ty),q4r C fs off T=true→qc1 C fs off T
 | [],off,T,h=>by
  cases T<;>simp[q4r] at h
  simp only[qc1]
 | f::fs,off,T,h=>by
  cases T with
  | pair a b=>
   simp only[q4r,z9,z45,bne_iff_ne,ne_eq] at h
   obtain ⟨e,h1,h2,h3,h4⟩:=h
   subst e
   exact ⟨b,rfl,Nat.eq_of_beq_eq_true h1,h2,h3,qbky fs _ b h4⟩
  | _=>simp[q4r] at h
def qbxl (C:Ctx):TypeDesc→Ty→Bool
 | .int k,T=>decide (T=.int k)
 | .bool,T=>decide (T=.bool)
 | .string,T=>decide (T=.str)
 | .slice e,T=>decide (T=.sl (C.ty e))&&(C.ty e).nz
 | .struct fs,T=>q4r C fs.toList 0 T&&T.nz
 | _,_=>false
theorem qb0e {C:Ctx} {d:TypeDesc} {T:Ty} (h:qbxl C d T=true):qgw C d T:=by
 cases d<;>simp only[qbxl,z9,z45] at h<;>first
  | exact h
  | exact ⟨qbky _ _ _ h.1,Ty.nz_unit h.2⟩
  | simp at h
def qbw8 (P:Program) (C:Ctx) (t:TypeId):Bool:=
  if (C.ty t).nz then
    (match P.info? t with
     | some i=>Nat.beq i.size (C.ty t).width&&((match i.zero with | some z=>zval z (mkV (C.ty t) (zc (C.ty t))) | none=>false)&&Nat.ble i.bytes 255)
     | none=>false)&&
    (Nat.blt 0 (C.ty t).width&&((match P.underlying t with | some d=>qbxl C d (C.ty t) | none=>false)&&(Nat.blt (C.ty t).deep 10000&&
      (!((C.ty t).agg&&(C.ty t).comp)||(!P.stoodInHeld t&&!P.eqGuardType P.depth t)))))
  else true
theorem qb0x {P:Program} {C:Ctx} {t:TypeId} (h:qbw8 P C t=true) (hz:(C.ty t).nz=true):TyOk P C t:=by
 unfold qbw8 at h
 rw[z6 hz] at h
 simp only[z9] at h
 obtain ⟨h1,h2,h3,h4,h5⟩:=h
 refine ⟨?_,qge.1 h2,?_,qge.1 h4,?_⟩
 ·split at h1
  ·rename_i i hi
   simp only[z9] at h1
   obtain ⟨k1,k2,k3⟩:=h1
   split at k2
   ·rename_i z hzz
    exact ⟨i,hi,Nat.eq_of_beq_eq_true k1,by rw[hzz,qb25 k2],Nat.le_of_ble_eq_true k3⟩
   ·simp at k2
  ·simp at h1
 ·split at h3
  ·rename_i d hd
   exact ⟨d,hd,qb0e h3⟩
  ·simp at h3
 ·intro ha hc
  rw[ha,hc] at h5
  simp only[Bool.and_self,z13,Bool.false_or,z9,Bool.not_eq_true'] at h5
  exact h5
theorem qb00 {P:Program} {C:Ctx} (n:Nat) (hmax:∀ t,Nat.ble t n=false→C.ty t=.unit) (h:(List.range (n+1)).all (qbw8 P C)=true):qcl P C:=by
 intro t hz
 cases hb:Nat.ble t n with
 | false=>rw[hmax t hb] at hz;simp[Ty.nz] at hz
 | true=>
  have:=Nat.le_of_ble_eq_true hb
  rw[List.all_eq_true] at h
  exact qb0x (h t (List.mem_range.2 (by omega))) hz
theorem qb0a {P:Program} (h:P.funcs.toList.all (fun fn=>fn.name != "runtime.NumGoroutine")=true):∀ (f:FuncId) (fn:Func),P.funcs[f]? = some fn→fn.name≠ "runtime.NumGoroutine" := by
 intro f fn hf
 rw[List.all_eq_true] at h
 have:=h fn (by rw[Array.mem_toList_iff];exact Array.mem_of_getElem? hf)
 simpa using this
end
end Go.V

namespace Go.V
open Go Go.V
abbrev kq37:Mk:=Mk.own 0 Mk.no
abbrev yq36:Ty:=Ty.int IntKind.u8
abbrev yq35:Ty:=Ty.int IntKind.u64
abbrev yq34:Ty:=Ty.int IntKind.i64
abbrev kq33:Mk:=Mk.own 1048576 Mk.no
abbrev yq32:Ty:=Ty.sl yq36
abbrev kq31:Mk:=Mk.own 0 kq37
abbrev yq30:Ty:=Ty.sl yq34
abbrev kq29:Mk:=Mk.pr kq37 Mk.no
abbrev kq28:Mk:=Mk.pr Mk.no kq29
abbrev kq27:Mk:=Mk.pr kq37 kq29
abbrev yq26:Ty:=Ty.pair yq34 (Ty.pair yq34 Ty.unit)
abbrev yq25:Ty:=Ty.pair yq30 (Ty.pair yq34 Ty.unit)
abbrev yq24:Ty:=Ty.sl yq26
abbrev yq23:Ty:=Ty.pair yq34 (Ty.pair yq30 Ty.unit)
abbrev kq22:Mk:=Mk.pr Mk.no (Mk.pr kq28 kq29)
abbrev yq21:Ty:=Ty.pair yq34 yq26
abbrev yq20:Ty:=Ty.pair yq32 yq26
abbrev yq19:Ty:=Ty.sl yq21
abbrev yq18:Ty:=Ty.sl yq19
abbrev yq17:Ty:=Ty.pair yq34 yq21
abbrev yq16:Ty:=Ty.sl yq17
abbrev kq15:Mk:=Mk.pr kq27 (Mk.pr kq37 (Mk.pr Mk.no kq27))
abbrev kq14:Mk:=Mk.pr kq37 (Mk.pr (Mk.own 0 (Mk.pr Mk.no (Mk.pr Mk.no (Mk.pr kq37 (Mk.pr kq28 Mk.no))))) Mk.no)
abbrev kq13:Mk:=Mk.pr kq27 (Mk.pr (Mk.own 0 (Mk.no)) (Mk.pr Mk.no (Mk.pr kq37 (Mk.pr kq37 (Mk.pr Mk.no Mk.no)))))
abbrev yq12:Ty:=Ty.pair yq24 (Ty.pair yq30 (Ty.pair yq34 (Ty.pair Ty.bool Ty.unit)))
abbrev yq11:Ty:=Ty.pair Ty.bool (Ty.pair yq23 (Ty.pair yq19 Ty.unit))
abbrev kq10:Mk:=Mk.pr kq27 (Mk.pr (Mk.own 0 (Mk.pr Mk.no (Mk.pr Mk.no (Mk.pr Mk.no (Mk.pr kq37 (Mk.pr Mk.no Mk.no)))))) (Mk.pr Mk.no (Mk.pr kq37 (Mk.pr kq37 (Mk.pr Mk.no Mk.no)))))
abbrev yq9:Ty:=Ty.pair yq34 (Ty.pair yq34 (Ty.pair yq19 (Ty.pair yq23 Ty.unit)))
abbrev yq8:Ty:=Ty.sl yq9
abbrev yq7:Ty:=Ty.pair yq34 (Ty.pair yq21 (Ty.pair yq34 (Ty.pair yq34 (Ty.pair yq34 (Ty.pair yq23 Ty.unit)))))
abbrev yq6:Ty:=Ty.sl yq7
abbrev yq5:Ty:=Ty.pair yq19 (Ty.pair yq34 (Ty.pair Ty.bool (Ty.pair yq24 (Ty.pair yq16 Ty.unit))))
abbrev yq4:Ty:=Ty.sl yq5
abbrev yq3:Ty:=Ty.pair yq19 (Ty.pair yq8 Ty.unit)
abbrev kq2:Mk:=Mk.pr kq27 (Mk.pr (Mk.own 0 (Mk.pr kq37 (Mk.pr Mk.no (Mk.pr Mk.no kq27)))) (Mk.pr Mk.no (Mk.pr (Mk.own 0 (Mk.pr Mk.no (Mk.pr Mk.no (Mk.pr Mk.no (Mk.pr Mk.no (Mk.pr Mk.no (Mk.pr kq28 Mk.no))))))) (Mk.pr kq37 (Mk.pr kq29 Mk.no)))))
abbrev kq1:Mk:=Mk.pr kq14 (Mk.pr (Mk.own 0 (Mk.pr kq37 (Mk.pr Mk.no (Mk.pr Mk.no kq27)))) (Mk.pr Mk.no (Mk.pr (Mk.own 0 (Mk.pr Mk.no (Mk.pr Mk.no (Mk.pr Mk.no (Mk.pr Mk.no (Mk.pr Mk.no (Mk.pr kq28 Mk.no))))))) (Mk.pr kq37 (Mk.pr kq29 Mk.no)))))
abbrev yq0:Ty:=Ty.pair yq3 (Ty.pair yq4 (Ty.pair yq34 (Ty.pair yq6 (Ty.pair yq30 (Ty.pair yq25 Ty.unit)))))
end Go.V
namespace Go.V
set_option maxRecDepth 100000
open Go
noncomputable def qbw7:Nat:=237
noncomputable def qb4f (n:Nat):Ty:=cond (n.ble qbw7) (cond (n.ble 57) (cond (n.ble 27) (cond (n.ble 10) (cond (n.ble 4) (cond (n.ble 2) (cond (n.beq 2) yq34 Ty.unit) (cond (n.ble 3) (cond (n.beq 3) yq34 Ty.unit) (cond (n.beq 4) Ty.bool Ty.unit))) (cond (n.ble 6) (cond (n.ble 5) (cond (n.beq 5) yq36 Ty.unit) (cond (n.beq 6) yq36 Ty.unit)) (cond (n.ble 9) (cond (n.beq 9) Ty.str Ty.unit) (cond (n.beq 10) Ty.str Ty.unit)))) (cond (n.ble 22) (cond (n.ble 12) (cond (n.ble 11) (cond (n.beq 11) Ty.str Ty.unit) (cond (n.beq 12) yq35 Ty.unit)) (cond (n.ble 21) (cond (n.beq 21) (Ty.int IntKind.i32) Ty.unit) (cond (n.beq 22) yq32 Ty.unit))) (cond (n.ble 25) (cond (n.ble 24) (cond (n.beq 24) yq30 Ty.unit) (cond (n.beq 25) yq25 Ty.unit)) (cond (n.ble 26) (cond (n.beq 26) yq25 Ty.unit) (cond (n.beq 27) yq18 Ty.unit))))) (cond (n.ble 36) (cond (n.ble 32) (cond (n.ble 30) (cond (n.beq 30) yq19 Ty.unit) (cond (n.ble 31) (cond (n.beq 31) yq8 Ty.unit) (cond (n.beq 32) yq3 Ty.unit))) (cond (n.ble 34) (cond (n.ble 33) (cond (n.beq 33) yq3 Ty.unit) (cond (n.beq 34) yq4 Ty.unit)) (cond (n.ble 35) (cond (n.beq 35) yq6 Ty.unit) (cond (n.beq 36) yq0 Ty.unit)))) (cond (n.ble 44) (cond (n.ble 42) (cond (n.ble 37) (cond (n.beq 37) yq0 Ty.unit) (cond (n.beq 42) yq19 Ty.unit)) (cond (n.ble 43) (cond (n.beq 43) yq24 Ty.unit) (cond (n.beq 44) yq16 Ty.unit))) (cond (n.ble 46) (cond (n.ble 45) (cond (n.beq 45) yq5 Ty.unit) (cond (n.beq 46) yq5 Ty.unit)) (cond (n.ble 56) (cond (n.beq 56) yq21 Ty.unit) (cond (n.beq 57) yq21 Ty.unit)))))) (cond (n.ble 138) (cond (n.ble 65) (cond (n.ble 60) (cond (n.ble 58) (cond (n.beq 58) yq23 Ty.unit) (cond (n.ble 59) (cond (n.beq 59) yq23 Ty.unit) (cond (n.beq 60) yq7 Ty.unit))) (cond (n.ble 63) (cond (n.ble 61) (cond (n.beq 61) yq7 Ty.unit) (cond (n.beq 63) yq19 Ty.unit)) (cond (n.ble 64) (cond (n.beq 64) yq9 Ty.unit) (cond (n.beq 65) yq9 Ty.unit)))) (cond (n.ble 112) (cond (n.ble 94) (cond (n.ble 93) (cond (n.beq 93) yq21 Ty.unit) (cond (n.beq 94) yq21 Ty.unit)) (cond (n.ble 111) (cond (n.beq 111) yq20 Ty.unit) (cond (n.beq 112) yq20 Ty.unit))) (cond (n.ble 123) (cond (n.ble 122) (cond (n.beq 122) yq21 Ty.unit) (cond (n.beq 123) yq21 Ty.unit)) (cond (n.ble 137) (cond (n.beq 137) yq26 Ty.unit) (cond (n.beq 138) yq26 Ty.unit))))) (cond (n.ble 178) (cond (n.ble 147) (cond (n.ble 141) (cond (n.beq 141) yq17 Ty.unit) (cond (n.ble 142) (cond (n.beq 142) yq17 Ty.unit) (cond (n.beq 147) yq35 Ty.unit))) (cond (n.ble 164) (cond (n.ble 163) (cond (n.beq 163) yq11 Ty.unit) (cond (n.beq 164) yq11 Ty.unit)) (cond (n.ble 177) (cond (n.beq 177) yq12 Ty.unit) (cond (n.beq 178) yq12 Ty.unit)))) (cond (n.ble 214) (cond (n.ble 206) (cond (n.ble 198) (cond (n.beq 198) yq34 Ty.unit) (cond (n.beq 206) (.int .u32) Ty.unit)) (cond (n.ble 208) (cond (n.beq 208) yq35 Ty.unit) (cond (n.beq 214) yq35 Ty.unit))) (cond (n.ble 233) (cond (n.ble 232) (cond (n.beq 232) yq36 Ty.unit) (cond (n.beq 233) yq36 Ty.unit)) (cond (n.ble 236) (cond (n.beq 236) (Ty.int IntKind.i32) Ty.unit) (cond (n.beq 237) (Ty.int IntKind.i32) Ty.unit))))))) Ty.unit
noncomputable def qb3q (n:Nat):Sig:=
 cond (n.ble 114) (cond (n.ble 69) (cond (n.ble 46) (cond (n.ble 17) (cond (n.ble 12) (cond (n.ble 6) (cond (n.ble 5) (⟨[],[]⟩) (⟨[.val yq32],[.val Ty.bool (Mk.top Ty.bool)]⟩)) (cond (n.ble 11) (⟨[],[]⟩) (⟨[.val yq32],[.val Ty.bool (Mk.top Ty.bool)]⟩))) (cond (n.ble 14) (cond (n.ble 13) (⟨[.val yq32],[.val yq25 (Mk.no),.val yq18 (Mk.no),.val yq30 (Mk.no)]⟩) (⟨[.val yq25,.val yq18],[.val yq0 (Mk.no),.val Ty.bool (Mk.top Ty.bool)]⟩)) (cond (n.ble 15) (⟨[.val yq25,.val yq18],[.val yq0 (Mk.top yq0),.val Ty.bool (Mk.top Ty.bool)]⟩) (cond (n.ble 16) (⟨[.val yq0,.val yq30],[.val yq0 (Mk.no)]⟩) (⟨[.val yq5],[.val Ty.bool (Mk.top Ty.bool)]⟩))))) (cond (n.ble 39) (cond (n.ble 28) (cond (n.ble 27) (⟨[],[]⟩) (⟨[.val yq23,.val yq23],[.val Ty.bool (Mk.top Ty.bool)]⟩)) (cond (n.ble 34) (⟨[],[]⟩) (cond (n.ble 35) (⟨[.val yq34],[.val yq34 (Mk.top yq34)]⟩) (⟨[],[]⟩)))) (cond (n.ble 43) (cond (n.ble 40) (⟨[.val yq0],[.val Ty.bool (Mk.top Ty.bool)]⟩) (⟨[],[]⟩)) (cond (n.ble 44) (⟨[.val yq32],[.ptr yq20 (.no)]⟩) (cond (n.ble 45) (⟨[.mutp yq20 (.no) (.no)],[.val yq25 (Mk.top yq25)]⟩) (⟨[.mutp yq20 (.no) (.no)],[.val yq18 (Mk.top yq18)]⟩)))))) (cond (n.ble 56) (cond (n.ble 51) (cond (n.ble 48) (cond (n.ble 47) (⟨[.mutp yq20 (.no) (.no),.val yq34],[.val yq34 (Mk.top yq34)]⟩) (⟨[.val yq32,.val yq34,.val yq34],[.val yq34 (Mk.top yq34)]⟩)) (cond (n.ble 49) (⟨[.val yq25,.val yq34],[.val yq3 kq27,.val Ty.bool (Mk.top Ty.bool)]⟩) (cond (n.ble 50) (⟨[.val yq25],[.val yq25 (Mk.top yq25)]⟩) (⟨[.val yq19],[.val yq5 (Mk.top yq5)]⟩)))) (cond (n.ble 53) (cond (n.ble 52) (⟨[.val yq25,.val yq34],[.val yq3 (Mk.top yq3),.val Ty.bool (Mk.top Ty.bool)]⟩) (⟨[.val yq25],[.val yq25 (Mk.top yq25)]⟩)) (cond (n.ble 54) (⟨[.val yq19],[.val yq5 (Mk.top yq5)]⟩) (cond (n.ble 55) (⟨[.val yq0],[.val Ty.bool (Mk.top Ty.bool)]⟩) (⟨[.val yq0],[.val yq0 kq10]⟩))))) (cond (n.ble 64) (cond (n.ble 58) (cond (n.ble 57) (⟨[.val yq0,.val yq34],[.val yq0 (Mk.no),.val Ty.bool (Mk.top Ty.bool)]⟩) (⟨[.val yq34,.val yq34,.val yq34],[.val Ty.bool (Mk.top Ty.bool)]⟩)) (cond (n.ble 62) (⟨[],[]⟩) (cond (n.ble 63) (⟨[.val yq3],[.val Ty.bool (Mk.top Ty.bool)]⟩) (⟨[.val yq19,.fn],[.val Ty.bool (Mk.top Ty.bool)]⟩)))) (cond (n.ble 66) (cond (n.ble 65) (⟨[],[]⟩) (⟨[.val yq25],[.val Ty.bool (Mk.top Ty.bool)]⟩)) (cond (n.ble 67) (⟨[.val yq30,.val yq30],[.val Ty.bool (Mk.top Ty.bool)]⟩) (cond (n.ble 68) (⟨[.val yq25],[.val yq30 (Mk.top yq30)]⟩) (⟨[.val yq30],[.val yq30 (Mk.top yq30)]⟩))))))) (cond (n.ble 93) (cond (n.ble 80) (cond (n.ble 75) (cond (n.ble 72) (cond (n.ble 70) (⟨[],[.val yq34 (Mk.top yq34)]⟩) (⟨[],[]⟩)) (cond (n.ble 73) (⟨[.val yq34],[.val yq34 (Mk.top yq34)]⟩) (cond (n.ble 74) (⟨[.val yq30,.val yq34],[.val yq34 (Mk.top yq34)]⟩) (⟨[.val Ty.bool,.val yq34],[.val yq34 (Mk.top yq34)]⟩)))) (cond (n.ble 77) (cond (n.ble 76) (⟨[.val yq34],[.val Ty.bool (Mk.top Ty.bool)]⟩) (⟨[.val yq34],[.val yq34 (Mk.top yq34)]⟩)) (cond (n.ble 78) (⟨[],[]⟩) (cond (n.ble 79) (⟨[.val yq7,.val yq34,.rptr yq0],[.val Ty.bool (Mk.top Ty.bool)]⟩) (⟨[.val yq21],[.val Ty.bool (Mk.top Ty.bool)]⟩))))) (cond (n.ble 85) (cond (n.ble 82) (cond (n.ble 81) (⟨[.val yq5,.val yq34],[.val Ty.bool (Mk.top Ty.bool)]⟩) (⟨[.val yq0,.val yq34],[.val Ty.bool (Mk.top Ty.bool)]⟩)) (cond (n.ble 83) (⟨[.val yq0],[.val Ty.bool (Mk.top Ty.bool)]⟩) (cond (n.ble 84) (⟨[],[]⟩) (⟨[.val yq23],[.val yq23 (Mk.top yq23)]⟩)))) (cond (n.ble 90) (cond (n.ble 89) (⟨[],[]⟩) (⟨[],[.val yq25 (Mk.top yq25)]⟩)) (cond (n.ble 91) (⟨[.val yq25,.val yq34],[.val yq34 (Mk.top yq34)]⟩) (cond (n.ble 92) (⟨[.mutp yq20 (.no) (.no),.val yq30],[.val yq34 (Mk.top yq34)]⟩) (⟨[.mutp yq20 (.no) (.no)],[.val yq21 (Mk.top yq21)]⟩)))))) (cond (n.ble 103) (cond (n.ble 98) (cond (n.ble 95) (cond (n.ble 94) (⟨[.mutp yq20 (.no) (.no)],[.val yq34 (Mk.top yq34)]⟩) (⟨[.val yq19],[.val yq19 (Mk.top yq19)]⟩)) (cond (n.ble 96) (⟨[.val yq25],[.val yq30 (Mk.top yq30)]⟩) (cond (n.ble 97) (⟨[.val yq34,.val yq34,.val yq34],[.val Ty.bool (Mk.top Ty.bool)]⟩) (⟨[.val yq3],[.val Ty.bool (Mk.top Ty.bool)]⟩)))) (cond (n.ble 100) (cond (n.ble 99) (⟨[.val yq25],[.val Ty.bool (Mk.top Ty.bool)]⟩) (⟨[.val yq0],[.val Ty.bool (Mk.top Ty.bool)]⟩)) (cond (n.ble 101) (⟨[.val yq5,.val yq34],[.val Ty.bool (Mk.top Ty.bool)]⟩) (cond (n.ble 102) (⟨[.val yq0,.val yq34],[.val Ty.bool (Mk.top Ty.bool)]⟩) (⟨[.val yq3],[.val yq3 kq27]⟩))))) (cond (n.ble 108) (cond (n.ble 105) (cond (n.ble 104) (⟨[.val yq5],[.val yq5 (Mk.top yq5)]⟩) (⟨[.mutp yq0 kq13 kq13,.val yq34],[]⟩)) (cond (n.ble 106) (⟨[.mutp yq0 kq10 kq13,.val yq34],[.val Ty.bool (Mk.top Ty.bool)]⟩) (cond (n.ble 107) (⟨[.val yq9,.val yq34],[.val yq21 (Mk.top yq21),.val Ty.bool (Mk.top Ty.bool)]⟩) (⟨[],[]⟩)))) (cond (n.ble 111) (cond (n.ble 109) (⟨[.val yq8,.fn],[.val Ty.bool (Mk.top Ty.bool)]⟩) (⟨[.val yq9],[.val Ty.bool (Mk.top Ty.bool)]⟩)) (cond (n.ble 112) (⟨[.val yq21,.val yq34],[.val Ty.bool (Mk.top Ty.bool)]⟩) (cond (n.ble 113) (⟨[.val yq19,.fn],[.val yq34 (Mk.top yq34)]⟩) (⟨[.val yq30,.val yq34],[.val Ty.bool (Mk.top Ty.bool)]⟩)))))))) (cond (n.ble 165) (cond (n.ble 142) (cond (n.ble 126) (cond (n.ble 120) (cond (n.ble 117) (cond (n.ble 115) (⟨[.val yq34],[.val yq34 (Mk.top yq34)]⟩) (⟨[],[]⟩)) (cond (n.ble 119) (⟨[.val yq34],[.val Ty.bool (Mk.top Ty.bool)]⟩) (⟨[.val yq19,.fn],[.val Ty.bool (Mk.top Ty.bool)]⟩))) (cond (n.ble 122) (cond (n.ble 121) (⟨[.val yq21],[.val Ty.bool (Mk.top Ty.bool)]⟩) (⟨[.val yq24,.fn],[.val Ty.bool (Mk.top Ty.bool)]⟩)) (cond (n.ble 123) (⟨[.val yq26],[.val Ty.bool (Mk.top Ty.bool)]⟩) (cond (n.ble 125) (⟨[.val yq34],[.val Ty.bool (Mk.top Ty.bool)]⟩) (⟨[.val yq16,.fn],[.val Ty.bool (Mk.top Ty.bool)]⟩))))) (cond (n.ble 137) (cond (n.ble 131) (cond (n.ble 127) (⟨[.val yq17,.rptr yq34],[.val Ty.bool (Mk.top Ty.bool)]⟩) (⟨[],[]⟩)) (cond (n.ble 133) (⟨[.val yq34],[.val Ty.bool (Mk.top Ty.bool)]⟩) (cond (n.ble 136) (⟨[.val yq34],[.val yq34 (Mk.top yq34)]⟩) (⟨[.val yq25,.val yq34],[.val yq34 (Mk.top yq34)]⟩)))) (cond (n.ble 139) (cond (n.ble 138) (⟨[.val yq34],[.val yq34 (Mk.top yq34)]⟩) (⟨[],[.val yq34 (Mk.top yq34)]⟩)) (cond (n.ble 140) (⟨[.val yq9],[.val Ty.bool (Mk.top Ty.bool)]⟩) (cond (n.ble 141) (⟨[.val yq21,.val yq34],[.val Ty.bool (Mk.top Ty.bool)]⟩) (⟨[.val yq9,.val yq34],[.val yq21 (Mk.top yq21),.val Ty.bool (Mk.top Ty.bool)]⟩)))))) (cond (n.ble 153) (cond (n.ble 147) (cond (n.ble 144) (cond (n.ble 143) (⟨[.val yq34],[.val Ty.bool (Mk.top Ty.bool)]⟩) (⟨[.val yq0,.val yq7],[.val Ty.bool (Mk.top Ty.bool)]⟩)) (cond (n.ble 145) (⟨[.val Ty.bool],[.val yq34 (Mk.top yq34)]⟩) (cond (n.ble 146) (⟨[.val yq21],[.val Ty.bool (Mk.top Ty.bool)]⟩) (⟨[.val yq0,.val yq34],[.val yq34 (Mk.top yq34)]⟩)))) (cond (n.ble 150) (cond (n.ble 149) (⟨[.val yq19],[.val yq19 (Mk.top yq19)]⟩) (⟨[.val yq24],[.val yq24 (Mk.top yq24)]⟩)) (cond (n.ble 151) (⟨[.val yq16],[.val yq16 (Mk.top yq16)]⟩) (cond (n.ble 152) (⟨[.val yq5],[.val yq17 (Mk.top yq17),.val Ty.bool (Mk.top Ty.bool)]⟩) (⟨[.val yq3,.val yq17],[.val yq3 kq27,.val yq17 (Mk.top yq17),.val yq17 (Mk.top yq17),.val yq34 (Mk.top yq34)]⟩))))) (cond (n.ble 160) (cond (n.ble 156) (cond (n.ble 155) (⟨[.val yq5,.val yq17],[.val yq5 (Mk.top yq5)]⟩) (⟨[.val yq5],[.val yq5 (Mk.top yq5)]⟩)) (cond (n.ble 158) (⟨[.mutp yq0 kq13 kq13,.val yq34,.val yq23],[]⟩) (cond (n.ble 159) (⟨[.val yq21,.val yq24],[.val yq34 (Mk.top yq34)]⟩) (⟨[.val yq21,.val yq24],[.val yq11 (Mk.top yq11),.val Ty.bool (Mk.top Ty.bool)]⟩)))) (cond (n.ble 162) (cond (n.ble 161) (⟨[.val yq3,.val yq34,.val yq19,.val yq23],[.val yq3 kq27,.val yq17 (Mk.top yq17),.val Ty.bool (Mk.top Ty.bool)]⟩) (⟨[.val yq8,.fn],[.val yq34 (Mk.top yq34)]⟩)) (cond (n.ble 163) (⟨[.val yq19,.fn],[.val yq34 (Mk.top yq34)]⟩) (cond (n.ble 164) (⟨[.val yq24,.fn],[.val yq34 (Mk.top yq34)]⟩) (⟨[.val yq16,.fn],[.val yq34 (Mk.top yq34)]⟩))))))) (cond (n.ble 185) (cond (n.ble 175) (cond (n.ble 170) (cond (n.ble 167) (cond (n.ble 166) (⟨[.val yq34],[.val Ty.bool (Mk.top Ty.bool)]⟩) (⟨[.val yq34],[.val yq34 (Mk.top yq34)]⟩)) (cond (n.ble 168) (⟨[.mutp yq3 kq27 kq27,.val yq17],[.val yq17 (Mk.top yq17),.val yq17 (Mk.top yq17),.val yq34 (Mk.top yq34)]⟩) (cond (n.ble 169) (⟨[.mutp yq0 kq13 kq13,.val yq34],[.val yq34 (Mk.top yq34)]⟩) (⟨[.val yq21,.val yq24],[.ptr yq12 (.pr .no (.pr (.own 0 .no) .no))]⟩)))) (cond (n.ble 172) (cond (n.ble 171) (⟨[.val yq21,.val yq24],[.val yq23 (Mk.top yq23),.val Ty.bool (Mk.top Ty.bool)]⟩) (⟨[.val yq24,.val yq34],[.val yq34 (Mk.top yq34),.val Ty.bool (Mk.top Ty.bool)]⟩)) (cond (n.ble 173) (⟨[.val yq34],[.val yq34 (Mk.top yq34)]⟩) (cond (n.ble 174) (⟨[.val yq21,.val yq24,.val yq34,.val yq34],[.val yq19 (Mk.top yq19)]⟩) (⟨[.mutv yq30 (Mk.top yq30) (Mk.top yq30)],[]⟩))))) (cond (n.ble 180) (cond (n.ble 177) (cond (n.ble 176) (⟨[.val yq21,.val yq34,.val yq34,.val yq34,.val yq34],[.val yq34 (Mk.top yq34)]⟩) (⟨[.val yq21,.rptr yq34],[.val Ty.bool (Mk.top Ty.bool)]⟩)) (cond (n.ble 178) (⟨[.mutp yq12 (.pr .no (.pr (.own 0 .no) .no)) (.pr .no (.pr (.own 0 .no) .no)),.val yq21],[]⟩) (cond (n.ble 179) (⟨[.mutp yq12 (.pr .no (.pr (.own 0 .no) .no)) (.pr .no (.pr (.own 0 .no) .no)),.val yq34],[.val yq34 (Mk.top yq34)]⟩) (⟨[.mutp yq12 (.pr .no (.pr (.own 0 .no) .no)) (.pr .no (.pr (.own 0 .no) .no)),.val Ty.bool],[]⟩)))) (cond (n.ble 182) (cond (n.ble 181) (⟨[.val yq34,.val yq34,.val yq34,.rptr yq24,.mutp yq19 (Mk.top yq19) (Mk.top yq19)],[]⟩) (⟨[.mutv yq19 (Mk.top yq19) (Mk.top yq19),.fn],[]⟩)) (cond (n.ble 183) (⟨[.val yq21,.val yq21],[.val yq34 (Mk.top yq34)]⟩) (cond (n.ble 184) (⟨[.mutv yq30 (Mk.top yq30) (Mk.top yq30),.val yq34,.val yq34,.val yq34],[]⟩) (⟨[.val yq35],[.val yq34 (Mk.top yq34)]⟩)))))) (cond (n.ble 197) (cond (n.ble 192) (cond (n.ble 187) (cond (n.ble 186) (⟨[.mutp yq12 (.pr .no (.pr (.own 0 .no) .no)) (.pr .no (.pr (.own 0 .no) .no)),.val yq34,.val yq30],[]⟩) (⟨[.mutv yq19 (Mk.top yq19) (Mk.top yq19),.val yq34,.val yq34,.val yq34,.fn],[]⟩)) (cond (n.ble 190) (⟨[.mutv yq30 (Mk.top yq30) (Mk.top yq30),.val yq34,.val yq34],[]⟩) (cond (n.ble 191) (⟨[.val yq30,.val yq34,.val yq34],[.val yq34 (Mk.top yq34),.val yq34 (Mk.top yq34)]⟩) (⟨[.mutv yq30 (Mk.top yq30) (Mk.top yq30),.val yq34,.val yq34],[]⟩)))) (cond (n.ble 194) (cond (n.ble 193) (⟨[.mutv yq30 (Mk.top yq30) (Mk.top yq30),.val yq34,.val yq34],[.val Ty.bool (Mk.top Ty.bool)]⟩) (⟨[.val yq34,.val yq34],[.val Ty.bool (Mk.top Ty.bool)]⟩)) (cond (n.ble 195) (⟨[.mutv yq30 (Mk.top yq30) (Mk.top yq30),.val yq34,.val yq34,.val yq34],[.val yq34 (Mk.top yq34)]⟩) (cond (n.ble 196) (⟨[.mutv yq30 (Mk.top yq30) (Mk.top yq30),.val yq34,.val yq34,.val yq34],[.val yq34 (Mk.top yq34),.val Ty.bool (Mk.top Ty.bool)]⟩) (⟨[],[]⟩))))) (cond (n.ble 204) (cond (n.ble 201) (cond (n.ble 198) (⟨[.val yq35],[.val yq34 (Mk.top yq34)]⟩) (⟨[.mutv yq19 (Mk.top yq19) (Mk.top yq19),.val yq34,.val yq34,.fn],[]⟩)) (cond (n.ble 202) (⟨[.val yq19,.val yq34,.val yq34,.fn],[.val yq34 (Mk.top yq34),.val yq34 (Mk.top yq34)]⟩) (cond (n.ble 203) (⟨[.mutv yq19 (Mk.top yq19) (Mk.top yq19),.val yq34,.val yq34,.fn],[]⟩) (⟨[.mutv yq19 (Mk.top yq19) (Mk.top yq19),.val yq34,.val yq34,.fn],[.val Ty.bool (Mk.top Ty.bool)]⟩)))) (cond (n.ble 206) (cond (n.ble 205) (⟨[.mutv yq19 (Mk.top yq19) (Mk.top yq19),.val yq34,.val yq34,.val yq34,.fn],[.val yq34 (Mk.top yq34)]⟩) (⟨[.mutv yq19 (Mk.top yq19) (Mk.top yq19),.val yq34,.val yq34,.val yq34,.fn],[.val yq34 (Mk.top yq34),.val Ty.bool (Mk.top Ty.bool)]⟩)) (cond (n.ble 211) (⟨[],[]⟩) (cond (n.ble 212) (⟨[.val yq34],[.val Ty.bool (Mk.top Ty.bool)]⟩) (⟨[],[]⟩))))))))
noncomputable def qb3h (n:Nat):Hints:=
 cond (n.ble 97) (cond (n.ble 55) (cond (n.ble 40) (cond (n.ble 13) (cond (n.ble 6) (cond (n.ble 5) ({}) ({ keep:=[(14,[11,12,13],[2,11,12],[]),(20,[11,12,16],[2,11,12],[]),(25,[11,12,17],[2],[])] })) (cond (n.ble 12) ({}) ({ keep:=[(7,[2,5,6,7,8,9,10],[2,6,7,8],[]),(11,[2,5,6,7,8,9,10,11,12],[2,5,6,7,8,9,10],[])] }))) (cond (n.ble 15) (cond (n.ble 14) ({ keep:=[(4,[4,7,8,22,23,24],[4,7,8],[])] }) ({ keep:=[(4,[1,4,7,8,9],[4,7,8],[])] })) (cond (n.ble 16) ({ keep:=[(5,[2,4,13,14,15],[2,4],[])],share:=[(1,2)] }) (cond (n.ble 39) ({}) ({ keep:=[(6,[1,3,4,44,45,46],[1,2,3],[]),(12,[1,3,88,89,90],[1,2],[])] }))))) (cond (n.ble 48) (cond (n.ble 44) (cond (n.ble 43) ({}) ({ keep:=[(3,[0,3,4],[0,3],[])] })) (cond (n.ble 45) ({ keep:=[(3,[0,2,3,4],[0,2,3],[0])],share:=[(8,1)] }) (cond (n.ble 46) ({ keep:=[(3,[0,3,4],[0,3],[0]),(7,[0,3,4,5,6],[0,3,4,5],[0])] }) ({})))) (cond (n.ble 51) (cond (n.ble 49) ({ keep:=[(5,[4,6,17,18,19],[4,6],[])] }) ({})) (cond (n.ble 52) ({ keep:=[(4,[1,4,6,7,8],[1,4,6],[])] }) (cond (n.ble 54) ({}) ({ keep:=[(4,[1,3],[2],[])] })))))) (cond (n.ble 74) (cond (n.ble 65) (cond (n.ble 62) (cond (n.ble 56) ({ keep:=[(3,[1,2,3,21,22,23],[1,2,3],[]),(8,[2,3,36,37,38],[2,3],[])] }) ({})) (cond (n.ble 63) ({ keep:=[(4,[1,25,26,27],[2],[])] }) ({}))) (cond (n.ble 67) (cond (n.ble 66) ({ keep:=[(2,[1,6,7,8],[1,2],[])] }) ({ keep:=[(4,[0,1,12,13],[4],[])] })) (cond (n.ble 68) ({ keep:=[(6,[1,3,15,16,17],[1,3],[])] }) (cond (n.ble 73) ({}) ({ keep:=[(2,[0,1,7,8],[4],[])] }))))) (cond (n.ble 91) (cond (n.ble 82) (cond (n.ble 81) ({}) ({ keep:=[(6,[1,2,5,6,7,8,17,18,19],[2,5,6,7,8],[])] })) (cond (n.ble 83) ({ keep:=[(3,[1,3,9,10,11],[1,3],[]),(9,[1,3,22,23,24],[1,2,3],[])] }) (cond (n.ble 90) ({}) ({ keep:=[(2,[1,2,5],[4],[])] })))) (cond (n.ble 93) (cond (n.ble 92) ({}) ({ share:=[(1,1)] })) (cond (n.ble 95) ({}) (cond (n.ble 96) ({ keep:=[(5,[1,3,4],[1,3],[]),(14,[1,3,6],[1,3],[])] }) ({}))))))) (cond (n.ble 147) (cond (n.ble 107) (cond (n.ble 101) (cond (n.ble 99) (cond (n.ble 98) ({ keep:=[(4,[1,3],[1,2],[]),(9,[1,4],[2],[])] }) ({ keep:=[(2,[1,3],[1,2],[])] })) (cond (n.ble 100) ({ keep:=[(3,[1,3,4],[1,2,3],[]),(9,[1,3,5],[1,2,3],[]),(15,[1,3,5,6,7],[1,2,3,5],[])] }) ({ keep:=[(4,[1,2,5],[1,2,4],[]),(9,[1,2,6],[1,2,4],[]),(14,[1,2,7],[4],[])] }))) (cond (n.ble 103) (cond (n.ble 102) ({ keep:=[(5,[1,2,5,6,7,8],[2,4,5,6,7],[])] }) ({ keep:=[(3,[2,3,11,12,13],[2,3],[])] })) (cond (n.ble 105) ({}) (cond (n.ble 106) ({ share:=[(9,9),(9,10),(10,10)] }) ({ keep:=[(2,[1,4,9,10,11],[4,5],[])] }))))) (cond (n.ble 136) (cond (n.ble 111) (cond (n.ble 110) ({}) ({ keep:=[(4,[1,31,32,33],[1,2],[])] })) (cond (n.ble 112) ({}) (cond (n.ble 113) ({ keep:=[(2,[0,1,7,8],[4],[])] }) ({})))) (cond (n.ble 139) (cond (n.ble 137) ({ keep:=[(3,[1,2,5,6],[5],[])] }) ({})) (cond (n.ble 140) ({ keep:=[(6,[1,3],[2],[])] }) (cond (n.ble 146) ({}) ({ keep:=[(2,[1,2,5],[4],[])] })))))) (cond (n.ble 171) (cond (n.ble 161) (cond (n.ble 157) (cond (n.ble 156) ({}) ({ keep:=[(100005,[0,1],[0],[0])] })) (cond (n.ble 159) ({}) (cond (n.ble 160) ({ keep:=[(18,[1,2,4,9,11,13,95,96,97],[1,2,4,13],[])] }) ({})))) (cond (n.ble 168) (cond (n.ble 165) ({ keep:=[(2,[0,1,7,8],[4],[])] }) ({})) (cond (n.ble 169) ({ keep:=[(2,[0,1,5],[0,4],[0])] }) (cond (n.ble 170) ({ keep:=[(15,[5,45],[5],[])] }) ({}))))) (cond (n.ble 186) (cond (n.ble 183) (cond (n.ble 172) ({ keep:=[(2,[0,1,6],[4,5],[])] }) ({})) (cond (n.ble 184) ({ keep:=[(2,[0,1,2,3,8,9],[0],[0])] }) (cond (n.ble 185) ({}) ({ keep:=[(3,[0,18,19,20],[0],[0])] })))) (cond (n.ble 188) (cond (n.ble 187) ({ keep:=[(2,[0,1,2,3,4,10,11],[0],[0])] }) ({ keep:=[(1,[0,1,2,6],[0],[0]),(4,[0,1,2,6,7],[0,1,2,6],[0])] })) (cond (n.ble 198) ({}) (cond (n.ble 199) ({ keep:=[(1,[0,1,2,3,8],[0],[0]),(4,[0,1,2,3,8,9],[0,1,2,3,8],[0])] }) ({})))))))
open Go.Proofs in
noncomputable def qk0 (n:Nat):Option Func:=
 cond (n.ble 113) (cond (n.ble 69) (cond (n.ble 46) (cond (n.ble 17) (cond (n.ble 12) (cond (n.ble 6) (cond (n.ble 5) (none) (some Tryz.f6)) (cond (n.ble 11) (none) (some Tryz.f12))) (cond (n.ble 14) (cond (n.ble 13) (some Tryz.f13) (some Tryz.f14)) (cond (n.ble 15) (some Tryz.f15) (cond (n.ble 16) (some Tryz.f16) (some Tryz.f17))))) (cond (n.ble 39) (cond (n.ble 28) (cond (n.ble 27) (none) (some Tryz.f28)) (cond (n.ble 34) (none) (cond (n.ble 35) (some Tryz.f35) (none)))) (cond (n.ble 43) (cond (n.ble 40) (some Tryz.f40) (none)) (cond (n.ble 44) (some Tryz.f44) (cond (n.ble 45) (some Tryz.f45) (some Tryz.f46)))))) (cond (n.ble 56) (cond (n.ble 51) (cond (n.ble 48) (cond (n.ble 47) (some Tryz.f47) (some Tryz.f48)) (cond (n.ble 49) (some Tryz.f49) (cond (n.ble 50) (some Tryz.f50) (some Tryz.f51)))) (cond (n.ble 53) (cond (n.ble 52) (some Tryz.f52) (some Tryz.f53)) (cond (n.ble 54) (some Tryz.f54) (cond (n.ble 55) (some Tryz.f55) (some Tryz.f56))))) (cond (n.ble 64) (cond (n.ble 58) (cond (n.ble 57) (some Tryz.f57) (some Tryz.f58)) (cond (n.ble 62) (none) (cond (n.ble 63) (some Tryz.f63) (some Tryz.f64)))) (cond (n.ble 66) (cond (n.ble 65) (none) (some Tryz.f66)) (cond (n.ble 67) (some Tryz.f67) (cond (n.ble 68) (some Tryz.f68) (some Tryz.f69))))))) (cond (n.ble 93) (cond (n.ble 80) (cond (n.ble 75) (cond (n.ble 72) (cond (n.ble 70) (some Tryz.f70) (none)) (cond (n.ble 73) (some Tryz.f73) (cond (n.ble 74) (some Tryz.f74) (some Tryz.f75)))) (cond (n.ble 77) (cond (n.ble 76) (some Tryz.f76) (some Tryz.f77)) (cond (n.ble 78) (none) (cond (n.ble 79) (some Tryz.f79) (some Tryz.f80))))) (cond (n.ble 85) (cond (n.ble 82) (cond (n.ble 81) (some Tryz.f81) (some Tryz.f82)) (cond (n.ble 83) (some Tryz.f83) (cond (n.ble 84) (none) (some Tryz.f85)))) (cond (n.ble 90) (cond (n.ble 89) (none) (some Tryz.f90)) (cond (n.ble 91) (some Tryz.f91) (cond (n.ble 92) (some Tryz.f92) (some Tryz.f93)))))) (cond (n.ble 103) (cond (n.ble 98) (cond (n.ble 95) (cond (n.ble 94) (some Tryz.f94) (some Tryz.f95)) (cond (n.ble 96) (some Tryz.f96) (cond (n.ble 97) (some Tryz.f97) (some Tryz.f98)))) (cond (n.ble 100) (cond (n.ble 99) (some Tryz.f99) (some Tryz.f100)) (cond (n.ble 101) (some Tryz.f101) (cond (n.ble 102) (some Tryz.f102) (some Tryz.f103))))) (cond (n.ble 108) (cond (n.ble 105) (cond (n.ble 104) (some Tryz.f104) (some Tryz.f105)) (cond (n.ble 106) (some Tryz.f106) (cond (n.ble 107) (some Tryz.f107) (none)))) (cond (n.ble 110) (cond (n.ble 109) (some Tryz.f109) (some Tryz.f110)) (cond (n.ble 111) (some Tryz.f111) (cond (n.ble 112) (some Tryz.f112) (some Tryz.f113)))))))) (cond (n.ble 156) (cond (n.ble 136) (cond (n.ble 123) (cond (n.ble 118) (cond (n.ble 115) (cond (n.ble 114) (some Tryz.f114) (some Tryz.f115)) (cond (n.ble 117) (none) (some Tryz.f118))) (cond (n.ble 120) (cond (n.ble 119) (some Tryz.f119) (some Tryz.f120)) (cond (n.ble 121) (some Tryz.f121) (cond (n.ble 122) (some Tryz.f122) (some Tryz.f123))))) (cond (n.ble 131) (cond (n.ble 125) (cond (n.ble 124) (some Tryz.f124) (some Tryz.f125)) (cond (n.ble 126) (some Tryz.f126) (cond (n.ble 127) (some Tryz.f127) (none)))) (cond (n.ble 133) (cond (n.ble 132) (some Tryz.f132) (some Tryz.f133)) (cond (n.ble 134) (some Tryz.f134) (cond (n.ble 135) (some Tryz.f135) (some Tryz.f136)))))) (cond (n.ble 146) (cond (n.ble 141) (cond (n.ble 138) (cond (n.ble 137) (some Tryz.f137) (some Tryz.f138)) (cond (n.ble 139) (some Tryz.f139) (cond (n.ble 140) (some Tryz.f140) (some Tryz.f141)))) (cond (n.ble 143) (cond (n.ble 142) (none) (some Tryz.f143)) (cond (n.ble 144) (none) (cond (n.ble 145) (some Tryz.f145) (some Tryz.f146))))) (cond (n.ble 151) (cond (n.ble 148) (cond (n.ble 147) (some Tryz.f147) (some Tryz.f148)) (cond (n.ble 149) (some Tryz.f149) (cond (n.ble 150) (some Tryz.f150) (some Tryz.f151)))) (cond (n.ble 153) (cond (n.ble 152) (some Tryz.f152) (some Tryz.f153)) (cond (n.ble 154) (some Tryz.f154) (cond (n.ble 155) (some Tryz.f155) (some Tryz.f156))))))) (cond (n.ble 176) (cond (n.ble 166) (cond (n.ble 161) (cond (n.ble 158) (cond (n.ble 157) (some Tryz.f157) (some Tryz.f158)) (cond (n.ble 159) (some Tryz.f159) (cond (n.ble 160) (some Tryz.f160) (some Tryz.f161)))) (cond (n.ble 163) (cond (n.ble 162) (some Tryz.f162) (some Tryz.f163)) (cond (n.ble 164) (some Tryz.f164) (cond (n.ble 165) (some Tryz.f165) (some Tryz.f166))))) (cond (n.ble 171) (cond (n.ble 168) (cond (n.ble 167) (some Tryz.f167) (some Tryz.f168)) (cond (n.ble 169) (some Tryz.f169) (cond (n.ble 170) (some Tryz.f170) (some Tryz.f171)))) (cond (n.ble 173) (cond (n.ble 172) (some Tryz.f172) (some Tryz.f173)) (cond (n.ble 174) (some Tryz.f174) (cond (n.ble 175) (some Tryz.f175) (some Tryz.f176)))))) (cond (n.ble 186) (cond (n.ble 181) (cond (n.ble 178) (cond (n.ble 177) (some Tryz.f177) (some Tryz.f178)) (cond (n.ble 179) (some Tryz.f179) (cond (n.ble 180) (some Tryz.f180) (some Tryz.f181)))) (cond (n.ble 183) (cond (n.ble 182) (some Tryz.f182) (some Tryz.f183)) (cond (n.ble 184) (some Tryz.f184) (cond (n.ble 185) (some Tryz.f185) (some Tryz.f186))))) (cond (n.ble 197) (cond (n.ble 188) (cond (n.ble 187) (some Tryz.f187) (some Tryz.f188)) (cond (n.ble 193) (none) (cond (n.ble 194) (some Tryz.f194) (none)))) (cond (n.ble 199) (cond (n.ble 198) (some Tryz.f198) (some Tryz.f199)) (cond (n.ble 211) (none) (cond (n.ble 212) (some Tryz.f212) (none))))))))
noncomputable def ctx:Ctx:=⟨qb4f,qb3q,qb3h⟩
end Go.V

namespace Go.V
set_option maxRecDepth 100000
open Go Go.Proofs
theorem qb1o:qcl Tryz.prog ctx:=qb00 qbw7 (fun t h=>by show cond (Nat.ble t qbw7) _ _=_;rw[h];rfl) (by kernel_rfl)
theorem qb39:Tryz.prog.follows .mixedOrders=true:=by kernel_rfl
theorem qb3e:∀ (f:FuncId) (fn:Func),Tryz.prog.funcs[f]? = some fn→fn.name≠ "runtime.NumGoroutine" := qb0a (by kernel_rfl)
end Go.V

namespace Go.V
noncomputable section
open Go
def Wf:(t:Ty)→t.den→Prop
 | .unit,_=>True
 | .int k,n=>(Lit.int k n).wf=true
 | .bool,_=>True
 | .str,s=>s.size≤maxLen
 | .sl t,xs=>xs.length≤maxLen∧∀ x∈xs,Wf t x
 | .pair a b,x=>Wf a x.1∧Wf b x.2
section
variable {H:Type} {enc:TypeId×Value→H} {P:Program} {C:Ctx} {w:World} {sp:Nat→Bool} {held:Bool}
def Old (w:World):BS:=fun b=>b<w.heap.size
theorem TyOk.cellsOf {t:TypeId} (k:TyOk P C t):P.cellsOf t=(C.ty t).width:=by
 obtain ⟨i,h1,h2,_⟩:=k.info
 simp[Program.cellsOf,h1,h2]
theorem qbhf (hty:qcl P C) {n:Nat} (ih:∀ (t:TypeId) (cs:List Value) (z:DataW H×List MemPlace),(C.ty t).nz=true→DataW.trod enc P w 0 sp held n t cs=some z→
   ∃ x:(C.ty t).den,Wf (C.ty t) x∧Rep w.heap (Old w) (C.ty t) .no x cs Nil) {cs:List Value} :
  ∀ (fs:List Field) (off:Nat) (T:Ty),qc1 C fs off T→(∀ f∈fs,∃ z,DataW.trod enc P w 0 sp held n f.type ((cs.drop f.offset).take (P.cellsOf f.type))=some z)→cs.length=off+T.width→
   ∃ x:T.den,Wf T x∧Rep w.heap (Old w) T .no x (cs.drop off) Nil
 | [],off,T,hs,_,hl=>by
  simp only[qc1] at hs
  subst hs
  simp only[Ty.width,Nat.add_zero] at hl
  exact ⟨(),trivial,by simp only[Rep];exact List.drop_eq_nil_of_le (by omega)⟩
 | f::fs,off,T,hs,hf,hl=>by
  obtain ⟨b,rfl,ho,_,hnz,hs⟩:=hs
  obtain ⟨z,hz⟩:=hf f (z14 ..)
  obtain ⟨x,wx,rx⟩:=ih _ _ z hnz hz
  rw[(hty _ hnz).cellsOf,ho] at rx
  simp only[Ty.width] at hl
  obtain ⟨y,wy,ry⟩:=qbhf hty ih fs (off+(C.ty f.type).width) b hs (fun g hg=>hf g (z16 _ hg)) (by omega)
  refine ⟨(x,y),⟨wx,wy⟩,?_⟩
  simp only[Rep]
  refine ⟨_,_,Nil,Nil,?_,rx,ry,Sub.nil _,Sub.nil _,Dis.nil _⟩
  rw[←List.drop_drop,List.take_append_drop]
theorem qbzz (hty:qcl P C):∀ (n:Nat) (t:TypeId) (cs:List Value) (z:DataW H×List MemPlace),(C.ty t).nz=true→DataW.trod enc P w 0 sp held n t cs=some z→
   ∃ x:(C.ty t).den,Wf (C.ty t) x∧Rep w.heap (Old w) (C.ty t) .no x cs Nil:=by
 intro n
 induction n with
 | zero=>intro t cs z _ h;simp[DataW.trod] at h
 | succ n ih=>
  intro t cs z hnz h
  have k:=hty t hnz
  obtain ⟨d,hd,hdo⟩:=k.desc
  cases d with
  | int kd=>
   simp only[qgw] at hdo
   obtain ⟨m,rfl,_,hw⟩:=DataW.trod_int hd h
   rw[hdo]
   exact ⟨m,hw,by simp only[Rep]⟩
  | bool=>
   simp only[qgw] at hdo
   rw[hdo]
   have:∃ b,cs=[.bool b]:=by
    unfold DataW.trod at h
    rw[hd] at h
    split at h<;>simp_all
   obtain ⟨b,rfl⟩:=this
   exact ⟨b,trivial,by simp only[Rep]⟩
  | string=>
   simp only[qgw] at hdo
   obtain ⟨s,rfl,_,hw⟩:=DataW.trod_string hd h
   rw[hdo]
   exact ⟨s,hw,by simp only[Rep]⟩
  | struct fs=>
   simp only[qgw] at hdo
   obtain ⟨xs,m,e,_,hl,hlen,hf⟩:=DataW.trod_struct hd h
   obtain rfl:n=m:=by omega
   rw[k.cellsOf] at hl
   have:=qbhf (cs:=cs) hty ih fs.toList 0 (C.ty t) hdo.1 (fun f hf'=>by
    obtain ⟨i,hi,e⟩:=z52.1 hf'
    rw[z41] at hi
    have h1:=hf i f (by rw[←e];simp[hi])
    exact ⟨xs[i],by rw[h1];simp⟩) (by omega)
   simpa using this
  | slice e=>
   simp only[qgw] at hdo
   obtain ⟨he,hnze⟩:=hdo
   have ke:=hty e hnze
   rw[he]
   rcases DataW.trod_slice hd h with ⟨rfl,_⟩ | ⟨a,len,cap,elems,rest,m,e1,rfl,_,_,hlc,hcm,hel,hat,_⟩
   ·exact ⟨[],⟨Nat.zero_le _,fun x hx=>by simp at hx⟩,by simp only[Rep];exact ⟨none,0,by simp,by simp,fun h=>absurd rfl h⟩⟩
   ·obtain rfl:n=m:=by omega
    rw[ke.cellsOf] at hat
    have hpos:=ke.pos
    have key:∀ i,i<len→∃ (x:(C.ty e).den) (cs:List Value),Wf (C.ty e) x∧Rep w.heap (Old w) (C.ty e) .no x cs Nil∧cs.length=(C.ty e).width∧∀ j,j<(C.ty e).width→w.cell? ((a.add (i * (C.ty e).width)).add j)=cs[j]?:=by
     intro i hi
     have h1:=hat i hi
     rw[z31 (by omega)] at h1
     rw[z8] at h1
     obtain ⟨cs,h2,h3⟩:=h1
     obtain ⟨x,wx,rx⟩:=ih _ _ _ hnze h3
     obtain ⟨_,hl,hc⟩:=World.cells?_some h2
     exact ⟨x,cs,wx,rx,hl,hc⟩
    by_cases h0:len=0
    ·subst h0
     exact ⟨[],⟨Nat.zero_le _,fun x hx=>by simp at hx⟩,by simp only[Rep];exact ⟨some a,cap,by simp,by simp,fun h=>absurd rfl h⟩⟩
    ·have hz:(C.ty e).den:=(C.ty e).zero
     have key2:∀ i,∃ (x:(C.ty e).den),i<len→∃ (cs:List Value),Wf (C.ty e) x∧Rep w.heap (Old w) (C.ty e) .no x cs Nil∧cs.length=(C.ty e).width∧∀ j,j<(C.ty e).width→w.cell? ((a.add (i * (C.ty e).width)).add j)=cs[j]?:=by
      intro i
      by_cases hi:i<len
      ·obtain ⟨x,h⟩:=key i hi;exact ⟨x,fun _=>h⟩
      ·exact ⟨hz,fun h=>absurd h hi⟩
     obtain ⟨f,hf⟩:=Classical.axiomOfChoice key2
     refine ⟨(List.range len).map f,⟨by simp;omega,?_⟩,?_⟩
     ·intro x hx
      simp only[z37,List.mem_range] at hx
      obtain ⟨i,hi,rfl⟩:=hx
      obtain ⟨_,h,_⟩:=hf i hi
      exact h
     ·have hb:∃ cells ty fr,w.heap[a.block]? = some (.cells cells ty fr)∧a.spot=none:=by
       obtain ⟨cs,_,_,hl,hc⟩:=hf 0 (by omega)
       have h1:=hc 0 hpos
       rw[z31 (by omega)] at h1
       simp only[Nat.zero_mul,Addr.add,if_true] at h1
       unfold World.cell? at h1
       split at h1
       ·rename_i c ty fr hh
        split at h1
        ·simp at h1
        ·rename_i hs
         exact ⟨c,ty,fr,hh,by simpa using hs⟩
       ·simp at h1
      obtain ⟨cells,ty,fr,hh,hspot⟩:=hb
      obtain ⟨ab,ao,as'⟩:=a
      simp only at hspot hh
      subst hspot
      have hcell:∀ i,i<len→∀ j,j<(C.ty e).width→w.cell? (((⟨ab,ao,none⟩:Addr).add (i * (C.ty e).width)).add j)=cells[ao+i * (C.ty e).width+j]?:=by
       intro i hi j hj
       have:((⟨ab,ao,none⟩:Addr).add (i * (C.ty e).width)).add j=⟨ab,ao+i * (C.ty e).width+j,none⟩:=by
        simp only[Addr.add];split<;>split<;>simp_all
       rw[this]
       simp[World.cell?,hh]
      have hsub:∀ i,i<len→∀ cs:List Value,cs.length=(C.ty e).width→(∀ j,j<(C.ty e).width→w.cell? (((⟨ab,ao,none⟩:Addr).add (i * (C.ty e).width)).add j)=cs[j]?)→
        sub cells (ao+i * (C.ty e).width) (C.ty e).width=cs∧ao+i * (C.ty e).width+(C.ty e).width≤cells.size:=by
       intro i hi cs hl hc
       have h2:∀ j,j<(C.ty e).width→cells[ao+i * (C.ty e).width+j]? = cs[j]?:=fun j hj=>by rw[←hcell i hi j hj];exact hc j hj
       have h3:ao+i * (C.ty e).width+(C.ty e).width≤cells.size:=by
        have:=h2 ((C.ty e).width - 1) (by omega)
        rw[z31 (by omega)] at this
        have:=(Array.getElem?_eq_some_iff.1 this).1
        omega
       refine ⟨?_,h3⟩
       apply List.ext_getElem?
       intro j
       simp only[sub,z39,z44]
       split
       ·rename_i hj;rw[Array.getElem?_toList];exact h2 j hj
       ·rename_i hj;rw[List.getElem?_eq_none (by omega)]
      simp only[Rep]
      refine ⟨some ⟨ab,ao,none⟩,cap,by simp,by simpa using hlc,fun _=>⟨ab,ao,cells,rfl,?_,⟨ty,fr,hh⟩,?_,?_⟩⟩
      ·exact (Array.getElem?_eq_some_iff.1 hh).1
      ·obtain ⟨cs,_,_,hl,hc⟩:=hf (len - 1) (by omega)
       have:=(hsub (len - 1) (by omega) cs hl hc).2
       have e2:len * (C.ty e).width=(len - 1) * (C.ty e).width+(C.ty e).width:=by
        rw[show len=(len - 1)+1 by omega,Nat.add_mul];simp
       simp only[z49,List.length_range]
       omega
      ·intro i hi
       simp only[z49,List.length_range] at hi
       obtain ⟨cs,wx,rx,hl,hc⟩:=hf i hi
       have e3:((List.range len).map f).getD i (C.ty e).zero=f i:=by
        simp[List.getD,hi]
       rw[e3,(hsub i hi cs hl hc).1]
       exact rx
  | _=>simp[qgw] at hdo
theorem qb31 {t:TypeId} (k:TyOk P C t) {r:Reach} {b0:Nat} {v:Value} (hval:Value.okWide P w r b0 t v):v=mkV (C.ty t) v.cells.toList:=by
 obtain ⟨d,hd,hdo⟩:=k.desc
 cases d with
 | int kd=>simp only[qgw] at hdo;obtain ⟨n,rfl⟩:=Go.WideShapes.okWide_int hd hval;rw[hdo];simp[mkV,Ty.agg,Value.cells]
 | bool=>simp only[qgw] at hdo;obtain ⟨n,rfl⟩:=Go.WideShapes.okWide_bool hd hval;rw[hdo];simp[mkV,Ty.agg,Value.cells]
 | string=>simp only[qgw] at hdo;obtain ⟨n,rfl⟩:=Go.WideShapes.okWide_string hd hval;rw[hdo];simp[mkV,Ty.agg,Value.cells]
 | struct fs=>
  simp only[qgw] at hdo
  obtain ⟨cs,rfl,_⟩:=Go.WideShapes.okWide_struct hd hval
  have:(C.ty t).agg=true:=by
   generalize hfl:fs.toList=l at hdo
   cases l with
   | nil=>exact absurd hdo.1 hdo.2
   | cons f l=>obtain ⟨⟨b,e,_⟩,_⟩:=hdo;rw[e];rfl
  simp[mkV,this,Value.cells]
 | slice e=>
  simp only[qgw] at hdo
  obtain ⟨a,l,c,rfl⟩:=Go.WideShapes.okWide_slice hd hval
  rw[hdo.1];simp[mkV,Ty.agg,Value.cells]
 | _=>simp[qgw] at hdo
def qtt:List TypeId→List PK→Ctx→Prop
 | [],[],_=>True
 | t::ts,.val T::ks,C=>T=C.ty t∧(C.ty t).nz=true∧qtt ts ks C
 | _,_,_=>False
def qbqx:(ks:List PK)→PDen ks→Prop
 | [],_=>True
 | .val t::ks,a=>Wf t a.1∧qbqx ks a.2
 | _::ks,a=>qbqx ks a.2
theorem qbst (hty:qcl P C) {b0:Nat}:∀ (ts:List TypeId) (ks:List PK) (vs:List Value) (ds:List (DataW H)) (ps:List MemPlace) (i:Nat),qtt ts ks C→DataW.TrodAll enc P w 0 sp held ts vs ds ps→
  (∀ (j:Nat) t v,ts[j]? = some t→vs[j]? = some v→Value.okWide P w .any b0 t v)→∃ a:PDen ks,qbqx ks a∧qw6 w.heap (Old w) (fun _=>Nil) i ks a vs
 | [],[],vs,ds,ps,i,_,h,_=>by
  obtain ⟨rfl,_,_⟩:=Go.ChangeShapes.trodAll_nil h
  exact ⟨(),trivial,rfl⟩
 | t::ts,.val T::ks,vs,ds,ps,i,hv,h,hok=>by
  obtain ⟨rfl,hnz,hv⟩:=hv
  obtain ⟨v,vs',d,ds',p,q,rfl,rfl,rfl,⟨n,h1⟩,h2⟩:=Go.ChangeShapes.trodAll_cons h
  obtain ⟨x,wx,rx⟩:=qbzz hty n t _ _ hnz h1
  obtain ⟨a,wa,ra⟩:=qbst hty ts ks vs' ds' q (i+1) hv h2 (fun j t' v' ht hv'=>hok (j+1) t' v' (by simpa using ht) (by simpa using hv'))
  exact ⟨(x,a),⟨wx,wa⟩,v,vs',rfl,⟨_,rx,qb31 (hty t hnz) (hok 0 t v rfl rfl)⟩,ra⟩
 | [],_::_,_,_,_,_,hv,_,_=>by simp[qtt] at hv
 | _::_,[],_,_,_,_,hv,_,_=>by simp[qtt] at hv
 | _::_,.own _ _::_,_,_,_,_,hv,_,_=>by simp[qtt] at hv
 | _::_,.mutp _ _ _::_,_,_,_,_,hv,_,_=>by simp[qtt] at hv
 | _::_,.mutv _ _ _::_,_,_,_,_,hv,_,_=>by simp[qtt] at hv
 | _::_,.rptr _::_,_,_,_,_,hv,_,_=>by simp[qtt] at hv
 | _::_,.fn::_,_,_,_,_,hv,_,_=>by simp[qtt] at hv
theorem qb19 {n b:Nat} (h:May n (fun _=>Nil) b):n≤b:=h.elim id (fun ⟨_,h⟩=>h.elim)
theorem qb0f {W W':World} (h:WFr (May W.heap.size fun _=>Nil) W W'):Go.RowKit.Below W.heap.size W W':=
 ⟨h.os,h.tape,h.output,h.size,fun k hk=>h.block k hk fun hm=>by have:=qb19 hm;omega⟩
end
end
end Go.V

namespace Go.V
noncomputable section
open Go
section
variable (C:Ctx) (D:Den C) {R:Type}
def qbjp (body:St→(Ex→St→Option R)→Option R) (canon canonOut:St→St):Nat→St→(Ex→St→Option R)→Option R
 | 0,_,_=>none
 | n+1,S,k=>body S fun e S=>match e with
  | .normal=>qbjp body canon canonOut n (canon S) k
  | e=>k e (canonOut S)
theorem qbrw (body:St→(Ex→St→Option R)→Option R) (canon canonOut:St→St) (k:Ex→St→Option R):∀ (n:Nat) (S:St),qbbk body canon canonOut n S k=qbjp body canon canonOut n (canon S) k
 | 0,_=>rfl
 | n+1,S=>by
  simp only[qbbk,qbjp]
  congr 1
  funext e S
  cases e with
  | normal=>exact qbrw body canon canonOut k n S
  | exit id=>rfl
  | ret=>rfl
noncomputable def qgy (H:Hints) (n:Nat):Code→St→(Ex→St→Option R)→Option R
 | .skip,S,k=>k .normal S
 | .region id ops dr,S,k=>
  if q52 ops then
   qmm C D H id ops (ops.size+1) (qfe ops) S [] fun lg S=>
    if dr then (if qzj ops&&qvq (Region.before ops) lg lg&&quu (Region.before ops) ops (qfe ops) then k .normal S else none) else k .normal S
  else none
 | .seq a b,S,k=>qgy H n a S fun e S=>match e with
  | .normal=>qgy H n b (cutC H b S) k
  | e=>k e S
 | .cond c a b,S,k=>
  match asBool (ev S c) with
  | some t=>br t (qgy H n a S k) (qgy H n b S k)
  | none=>none
 | .block id b,S,k=>qgy H n b S fun e S=>match e with
  | .exit j=>if j=id then k .normal S else k (.exit j) S
  | e=>k e S
 | .loop b,S,k=>
  match H.keep.lookup (qny b) with
  | some kp=>qbjp (qgy H n b) (St.canon kp.1 kp.2.2) (St.canon kp.2.1 kp.2.2) n (St.canon kp.1 kp.2.2 S) k
  | none=>none
 | .exit id,S,k=>k (.exit id) S
 | .ret,S,k=>k .ret S
 | _,_,_=>none
theorem qb12 (H:Hints) (n:Nat):∀ (c:Code),(exec C D H n c:St→(Ex→St→Option R)→Option R)=qgy C D H n c:=by
 intro c
 induction c with
 | seq a b iha ihb=>funext S k;simp only[exec,qgy,iha,ihb];rfl
 | cond c a b iha ihb=>funext S k;simp only[exec,qgy,iha,ihb];rfl
 | block id b ih=>funext S k;simp only[exec,qgy,ih];rfl
 | loop b ih=>funext S k;simp only[exec,qgy,ih,qbrw];rfl
 | _=>funext S k;simp only[exec,qgy]
inductive Dir where
 | l | r
def qk8:Code→List Dir→Code
 | c,[]=>c
 | .seq a _,.l::p=>qk8 a p
 | .seq _ b,.r::p=>qk8 b p
 | .cond _ a _,.l::p=>qk8 a p
 | .cond _ _ b,.r::p=>qk8 b p
 | .block _ b,.l::p=>qk8 b p
 | .loop b,.l::p=>qk8 b p
 | _,_=>.skip
noncomputable def qbak (H:Hints) (n:Nat):Nat→Code→St→(St→Option R)→(Ex→St→Option R)→Option R
 | 0,_,S,K,_=>K S
 | m+1,.seq a b,S,K,k=>qgy C D H n a S fun e S=>match e with
  | .normal=>qbak H n m b (cutC H b S) K k
  | e=>k e S
 | _+1,_,_,_,_=>none
def seqs:Nat→Code→Bool
 | 0,_=>true
 | m+1,.seq _ b=>seqs m b
 | _+1,_=>false
theorem qbxm (c:Code):qk8 c []=c:=by cases c<;>rfl
theorem qbo4 (H:Hints) (n:Nat) (k:Ex→St→Option R):∀ (m:Nat) (c:Code) (S:St),seqs m c=true→
  qbak C D H n m c S (fun S'=>qgy C D H n (qk8 c (List.replicate m .r)) S' k) k=qgy C D H n c S k
 | 0,c,S,_=>by simp only[qbak,List.replicate,qbxm]
 | m+1,c,S,h=>by
  cases c with
  | seq a b=>
   simp only[qbak,qgy]
   congr 1
   funext e S'
   cases e with
   | normal=>exact qbo4 H n k m b (cutC H b S') h
   | exit id=>rfl
   | ret=>rfl
  | _=>simp[seqs] at h
theorem qb1m (H:Hints) (n m:Nat) (k:Ex→St→Option R) (c:Code) (q:List Dir) (S:St) (hq:q=List.replicate m .r) (h:seqs m c=true) :
  qbak C D H n m c S (fun S'=>qgy C D H n (qk8 c q) S' k) k=qgy C D H n c S k:=by
 subst hq
 exact qbo4 C D H n k m _ S h
noncomputable def q9b (H:Hints) (n:Nat):Code→List Dir→(Ex→St→Option R)→Ex→St→Option R
 | _,[],k=>k
 | .seq a b,.l::p,k=>q9b H n a p fun e S=>match e with
  | .normal=>qgy C D H n b (cutC H b S) k
  | e=>k e S
 | .seq _ b,.r::p,k=>q9b H n b p k
 | .cond _ a _,.l::p,k=>q9b H n a p k
 | .cond _ _ b,.r::p,k=>q9b H n b p k
 | .block id b,.l::p,k=>q9b H n b p fun e S=>match e with
  | .exit j=>if j=id then k .normal S else k (.exit j) S
  | e=>k e S
 | _,_,_=>fun _ _=>none
end
def qbdc {α:Type} (d:α):Nat→Nat→List (Nat×α)→List α
 | _,0,_=>[]
 | i,n+1,[]=>d::qbdc d (i+1) n []
 | i,n+1,(j,v)::l=>cond (Nat.beq i j) (v::qbdc d (i+1) n l) (d::qbdc d (i+1) n ((j,v)::l))
def stq (n:Nat) (sl:List (Nat×AV)) (rt:List (Nat×Root)):St:=⟨qbdc .undef 0 n sl,qbdc none 0 n (rt.map fun x=>(x.1,some x.2))⟩
section
variable {C:Ctx} (func:FuncId→Option Func) (D:Den C) (n:Nat)
def qwc (f:FuncId):Code:=
 match func f with
 | some fn=>fn.body.getD .skip
 | none=>.skip
def qb1y (f:FuncId):List ResultVar:=
 match func f with
 | some fn=>fn.results.toList
 | none=>[]
def qbrp (f:FuncId):Nat:=
 match func f with
 | some fn=>fn.ntmps
 | none=>0
abbrev Out (C:Ctx) (f:FuncId):Type:=RDen (C.sig f).res×ODen (C.sig f).params
noncomputable def qbq0 (f:FuncId):Ex→St→Option (Out C f):=fun e S=>
 match e with
 | .exit _=>none
 | _=>(qoj C (C.sig f).res (qb1y func f) S).bind fun r=>(outs (C.hints f) 0 (C.sig f).params r.2).bind fun o=>some (r.1,o)
noncomputable def rfC (f:FuncId) (a:PDen (C.sig f).params):Option (Out C f):=
 match func f with
 | none=>none
 | some fn=>
  if fn.body.isSome&&((C.sig f).params.all PK.enterOk&&(Nat.ble (C.sig f).params.length fn.ntmps&&qgo (qgi 0 (C.sig f).params) (qwc func f))) then
   qgy C D (C.hints f) n (qwc func f) (enter ⟨List.replicate fn.ntmps .undef,List.replicate fn.ntmps none⟩ 0 (C.sig f).params a) (qbq0 func f)
  else none
def runs (f:FuncId):Bool:=
 match func f with
 | none=>false
 | some fn=>fn.body.isSome&&((C.sig f).params.all PK.enterOk&&(Nat.ble (C.sig f).params.length fn.ntmps&&qgo (qgi 0 (C.sig f).params) (qwc func f)))
def qbno (f:FuncId) (a:PDen (C.sig f).params):St:=enter ⟨List.replicate (qbrp func f) .undef,List.replicate (qbrp func f) none⟩ 0 (C.sig f).params a
theorem qb0q (f:FuncId) (a:PDen (C.sig f).params) (h:runs (C:=C) func f=true) :
  rfC func D n f a=qgy C D (C.hints f) n (qwc func f) (qbno func f a) (qbq0 func f):=by
 unfold runs at h
 unfold rfC qbno qbrp
 split at h
 ·simp at h
 ·rename_i fn hf
  simp only[hf]
  rw[z6 h]
noncomputable def LQ (f:FuncId) (p:List Dir) (m:Nat) (S:St) (K:Ex→St→Option (Out C f)):Option (Out C f):=
 match qk8 (qwc func f) p with
 | .loop b=>
  match (C.hints f).keep.lookup (qny b) with
  | some kp=>qbjp (qgy C D (C.hints f) n b) (St.canon kp.1 kp.2.2) (St.canon kp.2.1 kp.2.2) m S K
  | none=>none
 | _=>none
noncomputable def LK (f:FuncId) (p:List Dir) (m:Nat) (K:Ex→St→Option (Out C f)):Ex→St→Option (Out C f):=fun e S=>
 match qk8 (qwc func f) p with
 | .loop b=>
  match (C.hints f).keep.lookup (qny b) with
  | some kp=>match e with
   | .normal=>LQ func D n f p m (St.canon kp.1 kp.2.2 S) K
   | e=>K e (St.canon kp.2.1 kp.2.2 S)
  | none=>none
 | _=>none
noncomputable def CQ (f:FuncId) (p q:List Dir) (K:Ex→St→Option (Out C f)):Ex→St→Option (Out C f):=
 q9b C D (C.hints f) n (qk8 (qwc func f) p) q K
theorem q7 (f:FuncId) (p:List Dir) (S:St) (K:Ex→St→Option (Out C f)):LQ func D n f p 0 S K=none:=by
 unfold LQ
 split
 ·split<;>rfl
 ·rfl
theorem qb27 (f:FuncId) (a:PDen (C.sig f).params):(match func f with
  | none=>none
  | some fn=>runF C D n fn (C.hints f) (C.sig f).params (C.sig f).res a)=rfC func D n f a:=by
 unfold rfC
 split
 ·rfl
 ·rename_i fn hf
  unfold runF qwc qbq0 qb1y
  rw[hf]
  simp only
  cases fn.body with
  | none=>simp
  | some c=>simp only[Option.isSome_some,Bool.true_and,Option.getD_some,qb12];rfl
end
end
end Go.V

namespace Go.V
noncomputable section
open Go Go.Proofs Go.RowKit Go.ChangeShapes
set_option maxRecDepth 100000
structure Ext where
 den:Den ctx
 is:FuncId→Bool
 ok:∀ f,is f=true→FnOk Tryz.prog ctx den f
 call:∀ f a r,is f=true→den f a=some r→qzk Tryz.prog f
noncomputable def DD (X:Ext) (n:Nat):Den ctx:=Dn ctx X.den X.is (fun g=>Tryz.prog.funcs[g]?) n
theorem qb4g (X:Ext) (n:Nat):DOk Tryz.prog ctx (DD X n):=qb1u qb1o qb39 X.ok X.call qb3e n
theorem qb14 (X:Ext) {g:FuncId} {fn:Func} (hf:Tryz.prog.funcs[g]? = some fn) (ht:qk0 g=some fn) (hx:X.is g=false) (n:Nat) (a:PDen (ctx.sig g).params) :
  DD X (n+1) g a=rfC qk0 (DD X n) n g a:=by
 have:=qb27 qk0 (DD X n) n g a
 rw[ht] at this
 rw[←this]
 unfold DD
 simp only[Dn,hx,z34,if_false,hf]
def qbk4:Ext:=⟨fun _ _=>none,fun _=>false,fun _ h=>by simp at h,fun _ _ _ h=>by simp at h⟩
section
variable {H:Type} {enc:TypeId×Value→H} {P:Program}
theorem qbce (hl:laidOutB P=true) {W W':World} (hb:Below W.heap.size W W'):∀ {ts:List TypeId} {vs:List Value} {ds:List (DataW H)} {ps:List MemPlace},
  ts.all (fun t=>P.readableRec t&&Nat.blt t P.types.size)=true→DataW.TrodAll enc P W 0 (fun _=>true) true ts vs ds ps→(∀ x∈ps,x.block<W.heap.size)→
  DataW.TrodAll enc P W' 0 (fun b=>decide (b<W.heap.size)) true ts vs ds ps
 | [],_,_,_,_,h,_=>by
  obtain ⟨rfl,rfl,rfl⟩:=trodAll_nil h
  exact trodAll_mk0
 | t::ts,_,_,_,ht,h,hlt=>by
  obtain ⟨v,vs1,d,ds1,a,b,rfl,rfl,rfl,h1,h2⟩:=trodAll_cons h
  simp only[List.all_cons,z9] at ht
  exact ⟨a,b,Below.trod hl ht.1.1 (qge.1 ht.1.2) h1 hb (fun x hx=>hlt x (by simp[hx])),qbce hl hb ht.2 h2 (fun x hx=>hlt x (by simp[hx])),rfl⟩
end
theorem laid:laidOutB Tryz.prog=true:=by kernel_rfl
theorem qb04:ownKnob Tryz.prog.godebug=none:=by kernel_rfl
theorem qbzl {H:Type} {enc:TypeId×Value→H} {X:Ext} {f:FuncId} {fn:Func} {s:ChangeSpec} {conds:List PathCond} {tb:TypeId} {os:Os} (started:os.Started)
  (hfn:Tryz.prog.funcs[f]? = some fn) (hinit:Tryz.prog.inits.idxOf? f=none)
  (witness:∃ (w:World) (tape:Tape) (i:Input),w.os=os∧(w.forCall tape i).Shaped Tryz.prog∧i.vars=[]∧Input.okWide Tryz.prog (w.forCall tape i) .any w.heap.size f i∧
   s.pre6 enc Tryz.prog fn conds false (w.forCall tape i).memory i.args∧Assume.holds {} Tryz.prog (lone (Frame.enter Tryz.prog f i.args .normal) [] (w.forCall tape i)))
  (hps:qtt fn.params.toList (ctx.sig f).params ctx) (hrd:fn.params.toList.all (fun t=>Tryz.prog.readableRec t&&Nat.blt t Tryz.prog.types.size)=true)
  (hres:fn.resultTypes = #[tb]) (htb:Tryz.prog.underlying tb=some .bool) (hvars:s.vars=[])
  (hspec:∀ ds:List (DataW H),ds.length=fn.params.size→(s.fn H ds).results=[.lit (.bool true)]∧(s.fn H ds).args=ds∧(s.fn H ds).vars=[])
  (hlaw:∀ a,qbqx (ctx.sig f).params a→∃ n r,DD X n f a=some r∧∀ h Pr Gs us,qe4 h Pr Gs 0 (ctx.sig f).res r.1 us→us=[.bool true]) :
  ReturnsInHanded {} Tryz.checked os f .any (s.pre6 enc Tryz.prog fn conds false) (s.post enc Tryz.prog fn false true false false):=by
 refine returnsInHanded_of_change_sized (C:=Tryz.checked) qb04 started hinit hfn witness ?_
 intro W base args ds gs before hval hW hcnd hsz _
 have hW':=hW
 have hlt:=hW.lt
 obtain ⟨p,q,hA,hV,rfl,hfz,hnd⟩:=hW
 rw[hvars] at hV
 obtain ⟨rfl,rfl⟩:=trodVars_none hV
 obtain ⟨a,wa,ra⟩:=qbst qb1o fn.params.toList (ctx.sig f).params args.toList ds p 0 hps hA (fun j t v ht hv=>hval j t v (by simpa using ht) (by simpa using hv))
 obtain ⟨n,r,hr,hb⟩:=hlaw a wa
 have pre:Pre W.heap (Old W) (fun _=>Nil) (ctx.sig f).params a args.toList:=
  ⟨ra,fun _ _ _=>Dis.nil _,fun _=>Dis.nil _,fun _ b hb=>hb.elim,fun b hb=>hb⟩
 have hc:=(qb4g X n).ok f a r hr W (Old W) (fun _=>Nil) args.toList pre
 rw[Array.toArray_toList] at hc
 refine hc.mono ?_
 rintro e W' ⟨val,Pr',Gs,Os,us,rfl,ps⟩
 obtain rfl:=hb _ _ _ _ ps.res
 have hv:=ps.val
 simp only[qls] at hv
 subst hv
 have bel:=qb0f ps.fr
 obtain ⟨e1,e2,e3⟩:=hspec (ds++[]) (by rw[z48,(trodAll_length hA).2,z41])
 refine ⟨_,rfl,ds,[],p++[],[],p,[],hW',?_,?_,?_,bel.frame _,fun h=>by cases h⟩
 ·rw[e1,hres]
  exact trodAll_mk1 (shut_bool htb _)
 ·rw[e2,z48]
  exact qbce laid bel hrd hA (fun x hx=>hlt x (by simp[hx]))
 ·rw[e3,hvars]
  rfl
end
end Go.V


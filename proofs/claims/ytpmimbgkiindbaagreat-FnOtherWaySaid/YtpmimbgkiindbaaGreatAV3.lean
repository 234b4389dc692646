import Derived.Orders
import Derived.Test.YtpmimbgkiindbaaGreatProg
import Derived.KernelRfl
import Derived.WalkKit
import Derived.ProofKit
import Derived.OpenShut
import Derived.Below
import Derived.ChangeOld
import Derived.SizedLaws
import Derived.Test.YtpmimbgkiindbaaGreatRows
import Derived.Carry
import Derived.ChangeCalls
import Derived.Test.YtpmimbgkiindbaaGreatAV2
set_option maxRecDepth 100000
set_option linter.unusedVariables false
set_option linter.unusedSimpArgs false
set_option linter.unusedSectionVars false
namespace Go.V
noncomputable section
open Go
theorem RS(look:Nat->Nat)(i:Nat):∀(l:List Edge)(s:Nat),(l.foldl (fun s e=>if Region.binds .any e then s |||2 ^ e.on |||look e.on else s) s).testBit i=true->
  s.testBit i=true\/∃e∈l,Region.binds .any e=true/\(e.on=i\/(look e.on).testBit i=true)
 | [],s,h=>.inl h
 | e::l,s,h=>by
  rw[nJ]at h;rcases RS look i l _ h with h | ⟨e',he,hh⟩
  .by_cases hb:Region.binds .any e=true
   .rw[aj hb,Nat.testBit_or,Nat.testBit_or,Nat.testBit_two_pow]at h;simp only[jy,gQ]at h;rcases h with(h | h) | h
    .exact .inl h
    .exact .inr ⟨e,eW,hb,.inl h⟩
    .exact .inr ⟨e,eW,hb,.inr h⟩
   .rw[af hb]at h;exact .inl h
  .exact .inr ⟨e',cB _ he,hh⟩
def N1(acc:Array Nat)(l:List Oper):Prop:=acc.size=l.length/\∀j i,(acc.getD j 0).testBit i=true->∃o,l[j]? = some o/\∃e∈o.after,Region.binds .any e=true/\(e.on=i\/(e.on<j/\(acc.getD e.on 0).testBit i=true))
theorem NL:∀(l:List Oper)(acc:Array Nat)(d:List Oper),N1 acc d->
  N1 (l.foldl (fun acc o=>acc.push (o.after.foldl (fun s e=>if Region.binds .any e then s |||2 ^ e.on |||acc.getD e.on 0 else s) 0)) acc) (d++l)
 | [],acc,d,h=>by simpa using h
 | o::l,acc,d,h=>by
  rw[nJ];have e:d++o::l=(d++[o])++l:=by simp
  rw[e];refine NL l _ _ ⟨by simp[h.1],fun j i hb=>?_⟩;have hs:=h.1;have gd:∀q(v:Nat),(acc.push v).getD q 0=if q=acc.size then v else acc.getD q 0:=by intro q v;simp only[pE,Bk];split<;>rfl
  rw[gd]at hb;by_cases hj:j=acc.size
  .rw[aj hj,<-E_]at hb;rcases RS (fun n=>acc.getD n 0) i _ _ hb with h0 | ⟨e',he,hbd,hh⟩
   .simp at h0
   .refine⟨o,by rw[hj,hs];simp,e',by simpa using he,hbd,?_⟩;rcases hh with hh | hh
    .exact .inl hh
    .have hlt:e'.on<acc.size:=by
      rcases BQ e'.on acc.size with h | h
      .exact h
      .simp[pE,H8 h]at hh
     refine .inr ⟨by omega,?_⟩;rw[gd,af (by omega)];exact hh
  .rw[af hj]at hb;obtain⟨o',ho',e',he,hbd,hh⟩:=h.2 j i hb;have hlt:j<d.length:=(So.1 ho').1;refine⟨o',by rw[ko hlt];exact ho',e',he,hbd,hh.imp id fun hh=>⟨hh.1,?_⟩⟩;rw[gd,af (by omega)];exact hh.2
theorem QL(ops:Array Oper){j i:Nat}(h:((Region.before ops).getD j 0).testBit i=true) :
  ∃o,ops[j]? = some o/\∃e∈o.after,Region.binds .any e=true/\(e.on=i\/(e.on<j/\((Region.before ops).getD e.on 0).testBit i=true)):=by
 have:=NL ops.toList #[] [] ⟨rfl,fun j i hb=>by simp at hb⟩;unfold Region.before at h⊢;rw[<-E_]at h⊢;obtain⟨o,ho,hh⟩:=this.2 j i h;exact⟨o,by simpa using ho,hh⟩
theorem abB{ops:Array Oper}(he:Ev ops=true):∀(j i:Nat),((Region.before ops).getD j 0).testBit i=true->i<j:=by
 intro j
 induction j using Nat.strongRecOn with
 | _ j ih=>
  intro i h;obtain⟨o,ho,e,hm,hb,hh⟩:=QL ops h;have hlt:e.on<j:=by
   simp only[Ev,CV]at he;have hx:(j,o)∈nu ops:=by simp only[nu,eH];exact⟨(o,j),Fp.2 (by simpa using ho),rfl⟩
   have:=he (j,o) hx;rw[Rs]at this;have:=this e hm;rw[hb]at this;simpa [n8] using this
  rcases hh with rfl | ⟨_,hh⟩
  .exact hlt
  .exact Nat.lt_trans (ih e.on hlt i hh) hlt
def Down(ops:Array Oper)(listed:Array Bool):Prop:=∀(j:Nat) o,ops[j]? = some o->listed.getD j false=true->∀e∈o.after,Region.binds .any e=true->listed.getD e.on false=true
theorem ahS{ops:Array Oper}{listed:Array Bool}(hd:Down ops listed):∀(j i:Nat),((Region.before ops).getD j 0).testBit i=true->
  (∀o,ops[j]? = some o->∀e∈o.after,Region.binds .any e=true->listed.getD e.on false=true)->listed.getD i false=true:=by
 intro j
 induction j using Nat.strongRecOn with
 | _ j ih=>
  intro i h hl;obtain⟨o,ho,e,hm,hb,hh⟩:=QL ops h;have h1:=hl o ho e hm hb;rcases hh with rfl | ⟨hlt,hh⟩
  .exact h1
  .exact ih e.on hlt i hh fun o' ho'=>hd e.on o' ho' h1
theorem jH.tU(e f:jH):e.free f=f.free e:=by
 unfold jH.free;cases e.wr<;>cases f.wr
 .rfl
 .rfl
 .rfl
 .rename_i w w';simp only;cases e.lc<;>cases f.lc<;>cases i_ w f.rd<;>cases i_ w w'<;>cases i_ w' e.rd<;>cases i_ w' w<;>cases e.st.contains f.site<;>cases f.st.contains e.site<;>rfl
theorem Qb{M:Array Nat}{e:jH}:∀{l:Log},A5 M e l=true->∀f∈l,e.i=f.i\/uY M e.i f.i=true\/e.free f=true
 | [],_,f,hf=>by simp at hf
 | g::l,h,f,hf=>by
  simp only[A5,bH,jy]at h;rcases bk.1 hf with rfl | hf
  .rcases h.1 with(h | h) | h
   .exact .inl (mR h)
   .exact .inr (.inl h)
   .exact .inr (.inr h)
  .exact Qb h.2 f hf
theorem Gq{M:Array Nat}{all:Log}:∀{l:Log},Dk M all l=true->∀e∈l,e.wr≠none->∀f∈all,e.i=f.i\/uY M e.i f.i=true\/e.free f=true
 | [],_,e,he=>by simp at he
 | g::l,h,e,he=>by
  simp only[Dk,bH]at h;intro hw;rcases bk.1 he with rfl | he
  .have:=h.1;cases mW:e.wr with
   | none=>exact absurd mW hw
   | some W=>rw[mW]at this;exact Qb this
  .exact Gq h.2 e he hw
theorem ai7(M:Array Nat)(i j:Nat):uY M i j=uY M j i:=by simp[uY,Bool.or_comm]
theorem aji{M:Array Nat}{LG:Log}(h:Dk M LG LG=true){e f:jH}(he:e∈LG)(hf:f∈LG)(hne:e.i≠f.i)(ho:uY M e.i f.i=false):e.free f=true:=by
 cases mW:e.wr with
 | some W=>
  rcases Gq h e he (by rw[mW];simp) f hf with h | h | h
  .exact absurd h hne
  .rw[ho]at h;simp at h
  .exact h
 | none=>
  cases hwf:f.wr with
  | none=>simp[jH.free,mW,hwf]
  | some W=>
   rcases Gq h f hf (by rw[hwf];simp) e he with h | h | h
   .exact absurd h.symm hne
   .rw[ai7,ho]at h;simp at h
   .rw[jH.tU];exact h
theorem PV{M:Array Nat}{ops:Array Oper}{i:Nat}{x:Oper}:∀{l:List (Nat×Oper)},AI M ops i x l=true->∀y∈l,uY M i y.1=true\/Iz ops i y.1 x y.2=true
 | [],_,y,hy=>by simp at hy
 | (j,z)::l,h,y,hy=>by
  simp only[AI,bH,jy]at h;rcases bk.1 hy with rfl | hy
  .exact h.1
  .exact PV h.2 y hy
theorem PU{M:Array Nat}{ops:Array Oper}:∀{l:List (Nat×Oper)},IJ M ops l=true->l.Pairwise fun x y=>uY M x.1 y.1=true\/Iz ops x.1 y.1 x.2 y.2=true
 | [],_=>List.Pairwise.nil
 | (i,x)::l,h=>by
  simp only[IJ,bH]at h;exact List.Pairwise.cons (fun y hy=>PV h.1 y hy) (PU h.2)
section
variable (C:Ctx) (D:Den C) (hints:Hints) (id:Nat) (ops:Array Oper)
noncomputable def ji(β:Nat->Bool):List (Nat×Oper)->St->Option (St×Log)
 | [],S=>some (S,[])
 | (i,o)::l,S=>(g6 C D hints id ops (β i) S i o).bind fun x=>(ji β l x.1).map fun y=>(y.1,x.2::y.2)
end
section
variable {C:Ctx} {D:Den C} {hints:Hints} {id:Nat} {ops:Array Oper}
theorem MN{β:Nat->Bool}:∀(l:List (Nat×Oper))(S:St),ji C D hints id ops β l S=eM C D hints id ops (l.map fun x=>β x.1) l S
 | [],S=>rfl
 | (i,o)::l,S=>by
  simp only[ji,eM,cr,EI,FD];congr 1;funext x;rw[MN l x.1]
theorem GO{β:Nat->Bool}{i:Nat}{o:Oper}{l:List (Nat×Oper)}{S S':St}{lg:Log}(h:ji C D hints id ops β ((i,o)::l) S=some (S',lg)) :
  ∃S1 e gF,g6 C D hints id ops (β i) S i o=some (S1,e)/\ji C D hints id ops β l S1=some (S',gF)/\lg=e::gF:=by
 simp only[ji,cJ,fk,aZ]at h;obtain⟨⟨S1,e⟩,hs,⟨S2,Jc⟩,hr,rfl,rfl⟩:=h;exact⟨S1,e,Jc,hs,hr,rfl⟩
theorem MO{β:Nat->Bool}{i:Nat}{o:Oper}{l:List (Nat×Oper)}{S S1 S':St}{e:jH}{gF:Log}(hs:g6 C D hints id ops (β i) S i o=some (S1,e))(hr:ji C D hints id ops β l S1=some (S',gF)) :
  ji C D hints id ops β ((i,o)::l) S=some (S',e::gF):=by
 simp only[ji,hs,dw,hr,d7]
theorem Qm{β β':Nat->Bool}:∀(l:List (Nat×Oper))(S:St),(∀x∈l,β' x.1=β x.1)->ji C D hints id ops β' l S=ji C D hints id ops β l S
 | [],S,_=>rfl
 | (i,o)::l,S,h=>by
  simp only[ji];have:=h (i,o) eW;simp only at this;rw[this];congr 1;funext x;rw[Qm l x.1 fun y hy=>h y (cB _ hy)]
theorem Qn{β:Nat->Bool}{j:Nat}{y:Oper}{post:List (Nat×Oper)}:∀(pre:List (Nat×Oper))(S S':St)(lg:Log),ji C D hints id ops β (pre++(j,y)::post) S=some (S',lg)->
  (∀x∈pre,Iz ops x.1 j x.2 y=true)->(∀ex∈lg,∀ey∈lg,(∃x∈pre,ex.i=x.1)->ey.i=j->ex.free ey=true)->
  ∃Ef,ji C D hints id ops β ((j,y)::(pre++post)) S=some (S',Ef)/\∀e∈Ef,e∈lg
 | [],S,S',lg,h,_,_=>⟨lg,h,fun e he=>he⟩
 | (i,x)::pre,S,S',lg,h,hap,hfr=>by
  rw[fE]at h;obtain⟨S1,ex,gF,h1,h2,rfl⟩:=GO h;obtain⟨Jc,k1,k2⟩:=Qn pre S1 S' gF h2 (fun x hx=>hap x (cB _ hx))
   (fun a ha b hb ⟨z,hz,e⟩ hj=>hfr a (cB _ ha) b (cB _ hb) ⟨z,cB _ hz,e⟩ hj)
  obtain⟨S2,ey,lg3,q1,q2,rfl⟩:=GO k1;have hi:=(AD h1).2;have hj:=(AD q1).2;obtain⟨T1,t1,t2⟩:=swap h1 q1 (hap (i,x) eW) (hfr ex eW ey (cB _ (k2 ey eW)) ⟨(i,x),eW,hi⟩ hj);refine⟨ey::ex::lg3,MO t1 (MO t2 q2),fun e he=>?_⟩;rcases bk.1 he with rfl | he
  .exact cB _ (k2 _ eW)
  .rcases bk.1 he with rfl | he
   .exact eW
   .exact cB _ (k2 _ (cB _ he))
end
theorem AQ{ops:Array Oper}{j:Nat}{o:Oper}(h:ops[j]? = some o):(j,o)∈nu ops:=by simp only[nu,eH];exact⟨(o,j),Fp.2 (by simpa using h),rfl⟩
section
variable {P:Program} {C:Ctx} {D:Den C} (bn:iC P C) (dj:ot P C D)
include bn dj
theorem akl{np:List Nat}{Q:Exit->Act->World->Prop}{hints:Hints}{id:Nat}{ops:Array Oper}{F:St->Prop}(hgd:Mb ops=true)(hed:Ev ops=true)(Xg:IJ (Region.before ops) ops (nu ops)=true)(hnp:Jt np ops=true) :
  ∀(fuel:Nat)(listed:Array Bool)(rest:List (Nat×Oper))(S:St)(g:aA)(a:Act)(w:World),rest.length<=fuel->listed.size=ops.size->Down ops listed->rest.Sublist (nu ops)->
   (∀x∈nu ops,x∈rest↔listed.getD x.1 true=false)->aD w.heap S g a.tmps Nil->a.defers=[]->
   (∀β,∃S' lg LG,ji C D hints id ops β rest S=some (S',lg)/\(∀e∈lg,e∈LG)/\Dk (Region.before ops) LG LG=true/\F S')->
   (∀S' g' a' w',F S'->aD w'.heap S' g' a'.tmps Nil->g'.cR g->kI g.L w w'->a'.defers=[]->vi np a a'->Q .normal a' w')->wpAny P .any ops Q fuel listed a w:=by
 intro fuel
 induction fuel with
 | zero=>
  intro listed rest S g a w hlen hsz hdn hsub hiff st hdf hrun hQ;have hr:rest=[]:=lB.1 (by omega);subst hr;refine⟨?_,?_⟩
  .apply List.eq_nil_iff_forall_not_mem.2;intro j hj;obtain⟨h0,o,ho,_⟩:=mem_ready.1 hj;have:=(hiff (j,o) (AQ ho)).2 h0;simp at this
  .obtain⟨S',lg,LG,h1,_,_,h4⟩:=hrun fun _=>true;simp only[ji,aK,aZ]at h1;obtain⟨rfl,_⟩:=h1;exact hQ S g a w h4 st (.refl g) (.refl _ _) hdf (.refl _ _)
 | succ fuel ih=>
  intro listed rest S g a w hlen hsz hdn hsub hiff st hdf hrun hQ;have hft:∀j,j<ops.size->(listed.getD j true=listed.getD j false):=by
   intro j hj;have:j<listed.size:=by omega
   simp[Array.getD,this]
  refine⟨fun hre=>?_,fun j hj=>?_⟩
  .have hr:rest=[]:=by
    cases rest with
    | nil=>rfl
    | cons x rest=>
     exfalso;have key:∀j,j<ops.size->listed.getD j true=true:=by
      intro j
      induction j using Nat.strongRecOn with
      | _ j ihj=>
       intro hlt;cases hl:listed.getD j true with
       | true=>rfl
       | false=>
        exfalso;have ho:ops[j]? = some ops[j]:=vB hlt;have:j∈Region.ready .any ops listed:=by
         refine mem_ready.2 ⟨hl,ops[j],ho,fun e he hb=>?_⟩;have WO:e.on<j:=by have Ui:=hed;simp only[Ev,CV]at Ui;have:=Ui (j,ops[j]) (AQ ho);rw[Rs]at this;have:=this e he;rw[hb]at this;simpa [n8] using this
         rw[<-hft e.on (by omega)];exact ihj e.on WO (by omega)
        rw[hre]at this;simp at this
     have hx:=hsub.subset eW;have h0:=(hiff x hx).1 eW;have ef:=xN x hx;have:=key x.1 (rG.1 ef).1;rw[h0]at this;simp at this
   subst hr;obtain⟨S',lg,LG,h1,_,_,h4⟩:=hrun fun _=>true;simp only[ji,aK,aZ]at h1;obtain⟨rfl,_⟩:=h1;exact hQ S g a w h4 st (.refl g) (.refl _ _) hdf (.refl _ _)
  .obtain⟨h0,y,hy,wM⟩:=mem_ready.1 hj;have alr:j<ops.size:=(rG.1 hy).1;have hmem:=(hiff (j,y) (AQ hy)).2 h0;obtain⟨pre,post,rfl⟩:=List.append_of_mem hmem
   -- indexes are apart
   have Up:((nu ops).map (·.1)).Nodup:=by rw[UP];exact List.nodup_range
   have WY:=(hsub.map (·.1)).nodup Up;simp only[pI,cr]at WY;have z4:((pre++(j,y)::post).map (·.1)).Pairwise (· < ·):=by refine List.Pairwise.sublist (hsub.map (·.1)) ?_;rw[UP];exact List.pairwise_lt_range
   have hlt:∀x∈pre,x.1<j:=by intro x hx;rw[pI,L7]at z4;exact z4.2.2 x.1 (eH.2 ⟨x,hx,rfl⟩) j (by simp)
   have hgt:∀x∈post,j<x.1:=by intro x hx;rw[pI,L7,cr,l_]at z4;exact z4.2.1.1 x.1 (eH.2 ⟨x,hx,rfl⟩)
   have hun:∀x∈pre,uY (Region.before ops) x.1 j=false:=by
    intro x hx;have hxt:x∈nu ops:=hsub.subset (by simp[hx]);have hxu:=(hiff x hxt).1 (by simp[hx]);cases ho:uY (Region.before ops) x.1 j with
    | false=>rfl
    | true=>
     exfalso;simp only[uY,jy]at ho;rcases ho with ho | ho
     .have:=ahS hdn j x.1 ho fun o' ho' e he hb=>by
       rw[hy]at ho';simp only[aK]at ho';subst ho';exact wM e he hb
      have Xu:x.1<ops.size:=(rG.1 (xN x hxt)).1;rw[<-hft x.1 Xu,hxu]at this;simp at this
     .have:=abB hed _ _ ho;have:=hlt x hx;omega
   have hap:∀x∈pre,Iz ops x.1 j x.2 y=true:=by
    intro x hx;have:=(PU Xg).sublist hsub;rw[L7]at this;rcases this.2.2 x hx (j,y) (by simp) with h | h
    .have:=hun x hx;simp only at h;rw[this]at h;simp at h
    .exact h
   have CI:∀β,∃S1 e S' lg LG,g6 C D hints id ops (β j) S j y=some (S1,e)/\ji C D hints id ops β (pre++post) S1=some (S',lg)/\(∀e∈lg,e∈LG)/\Dk (Region.before ops) LG LG=true/\F S':=by
    intro β;obtain⟨S',lg,LG,h1,h2,h3,h4⟩:=hrun β;obtain⟨Ef,q1,q2⟩:=Qn pre S S' lg h1 hap (by
     intro ex hex ey hey hx hyj;obtain⟨x,hx,e1⟩:=hx;refine aji h3 (h2 ex hex) (h2 ey hey) ?_ ?_
     .rw[e1,hyj];have:=hlt x hx;omega
     .rw[e1,hyj];exact hun x hx)
    obtain⟨S1,e,gF,t1,t2,rfl⟩:=GO q1;exact⟨S1,e,S',gF,LG,t1,t2,fun e he=>h2 e (q2 e (cB _ he)),h3,h4⟩
   refine Nj bn dj st (hints:=hints) (id:=id) hy (fun j' c=>Q3 hgd j y j' c hy) hdf (RV hnp (j,y) (AQ hy)) (fun β=>?_) ?_
   .obtain⟨S1,e,_,_,_,h1,_⟩:=CI fun _=>β;exact⟨_,h1⟩
   .intro βj S1 e a' w' g' hs st' iJ hfr iH oB;refine ih (listed.setIfInBounds j true) (pre++post) S1 g' a' w' ?_ (by simpa using hsz) ?_ ?_ ?_ st' iH ?_ ?_
    .simp only[cI,cq]at hlen⊢;omega
    .intro q o hq hlq e he hb;by_cases hqj:j=q
     .subst hqj;rw[hy]at hq;simp only[aK]at hq;subst hq;exact getD_set_true (wM e he hb)
     .rw[getD_set_ne false hqj]at hlq;exact getD_set_true (hdn q o hq hlq e he hb)
    .exact List.Sublist.trans (List.Sublist.append (List.Sublist.refl pre) (List.sublist_cons_self _ _)) hsub
    .intro x hx;have hx1:=hiff x hx;by_cases Uz:x.1=j
     .constructor
      .intro hm;exfalso;rcases bL.1 hm with hm | hm
       .have:=hlt x hm;omega
       .have:=hgt x hm;omega
      .intro h;exfalso;have iI:j<listed.size:=by omega
       simp[Uz,Array.getD,iI]at h
     .rw[getD_set_ne true (fun h=>Uz h.symm),<-hx1];simp only[bL,bk];constructor
      .rintro(h | h)
       .exact .inl h
       .exact .inr (.inr h)
      .rintro(h | h | h)
       .exact .inl h
       .exact absurd (by rw[h]) Uz
       .exact .inr h
    .intro β;obtain⟨S1',e',S',lg,LG,h1,h2,h3⟩:=CI fun n=>if n=j then βj else β n
     simp only[aY]at h1;rw[hs]at h1;simp only[aK,aZ]at h1;obtain⟨rfl,rfl⟩:=h1;refine⟨S',lg,LG,?_,h3⟩;rw[<-h2];symm;refine Qm _ _ fun x hx=>?_;rw[af];intro Uz;rcases bL.1 hx with hm | hm
     .have:=hlt x hm;omega
     .have:=hgt x hm;omega
    .intro S' tV IV w'' hF vr w7 qB wL wP;exact hQ S' tV IV w'' hF vr (iJ.trans w7) (hfr.trans (by rw[iJ.2.1]at qB;exact qB)) wL (oB.trans wP)
theorem ajd{np:List Nat}{R:Type}{r:R}{H:Hints}{id:Nat}{ops:Array Oper}{S:St}{k:Ex->St->Option R}{Q:Exit->Act->World->Prop}{g:aA}{a:Act}{w:World}{n:Nat}
  (j4:P.follows .mixedOrders=true) (hnp:Jt np ops=true) (h:exec C D H n (.region id ops true) S k=some r):jI np P C Q r (.region id ops true) S k g a w:=by
 intro st hdf hQ;simp only[exec]at h;split at h
 .rename_i hgd;have hR:=fun βs=>LY (hints:=H) _ _ _ _ h S (fA.refl S) βs;have wH:Ev ops=true/\IJ (Region.before ops) ops (nu ops)=true:=by
   obtain⟨T1,gn,S1,gF,_,q2,_⟩:=hR [];simp only[aY]at q2;split at q2
   .rename_i hc;simp only[bH]at hc;exact⟨hc.1.1,hc.2⟩
   .simp at q2
  refine wp_region_any j4 ?_;refine akl (hints:=H) (id:=id) (F:=fun S'=>∃S1,k .normal S1=some r/\fA S1 S') bn dj hgd wH.1 wH.2 hnp ops.size _ (nu ops) S g a _ ?_ (by simp) ?_ (List.Sublist.refl _) ?_ st hdf (fun β=>?_) ?_
  .have:=ew List.length (UP (ops:=ops));simp only[jz,Fh]at this;omega
  .intro j o ho hl;exfalso;have hlt:=(rG.1 ho).1;simp[hlt]at hl
  .intro x hx;have hlt:=(rG.1 (xN x hx)).1;simp[hx,hlt]
  .obtain⟨T1,gn,S1,gF,q1,q2,q3,q4,_⟩:=hR ((nu ops).map fun x=>β x.1);simp only[aY]at q2;split at q2
   .rename_i hc;simp only[bH]at hc;exact⟨T1,gn,gF,by rw[MN];exact q1,q4,hc.1.2,S1,q2,q3⟩
   .simp at q2
  .intro S' g' a' w' hF st' iJ hfr iH oB;obtain⟨S1,hk,qD⟩:=hF;exact hQ .normal S1 g' a' w' hk (MP qD st') iJ ((kI.drawn _).trans hfr) iH oB
 .simp at h
theorem Ew{np:List Nat}{R:Type}{r:R}{H:Hints}(j4:P.follows .mixedOrders=true):∀(c:Code)(n:Nat)(S:St)(k:Ex->St->Option R),sJ np c=true->exec C D H n c S k=some r->
  ∀(Q:Exit->Act->World->Prop)(g:aA)(a:Act)(w:World),jI np P C Q r c S k g a w
 | .skip,n,S,k,hc,h,Q,g,a,w=>by
  intro st hdf hQ;exact wp_skip (hQ .normal S g a w (by simpa only [exec] using h) st (.refl g) (.refl _ _) hdf (.refl _ _))
 | .region id ops dr,n,S,k,hc,h,Q,g,a,w=>by
  cases dr with
  | false=>exact acm bn dj hc h
  | true=>exact ajd bn dj j4 hc h
 | .seq x y,n,S,k,hc,h,Q,g,a,w=>by
  intro st hdf hQ;simp only[sJ,bH]at hc;simp only[exec]at h;refine wp_seq (Ew j4 x n S _ hc.1 h _ g a w st hdf ?_);intro e S' g' a' w' hk st' iJ hfr iH oB;cases e with
  | normal=>simp only[Ex.out,Exit.then];refine Ew j4 y n _ k hc.2 hk Q g' a' w' (show aD w'.heap (r_ H y S') g' a'.tmps Nil by unfold r_;split<;>first | exact AL st' _ _ | exact st') iH ?_;intro e2 S2 g2 a2 w2 hk2 pn qE ue WA wQ;exact hQ e2 S2 g2 a2 w2 hk2 pn (iJ.trans qE) (hfr.trans (by rw[iJ.2.1]at ue;exact ue)) WA (oB.trans wQ)
  | exit id=>exact hQ (.exit id) S' g' a' w' hk st' iJ hfr iH oB
  | ret=>exact hQ .ret S' g' a' w' hk st' iJ hfr iH oB
 | .cond c x y,n,S,k,hc,h,Q,g,a,w=>by
  intro st hdf hQ;simp only[exec]at h;cases hb:V.asBool (ev S c) with
  | none=>rw[hb]at h;simp at h
  | some t=>
   rw[hb]at h;simp only at h;have hv:=QJ hb (N6 st c);refine wp_cond (t:=t) hv ?_;cases t with
   | true=>exact Ew j4 x n S k (by simp only[sJ,bH]at hc;exact hc.1) h Q g a w st hdf hQ
   | false=>exact Ew j4 y n S k (by simp only[sJ,bH]at hc;exact hc.2) h Q g a w st hdf hQ
 | .block id x,n,S,k,hc,h,Q,g,a,w=>by
  intro st hdf hQ;simp only[exec]at h;refine wp_block (Ew j4 x n S _ (by simpa only [sJ] using hc) h _ g a w st hdf ?_);intro e S' g' a' w' hk st' iJ hfr iH oB;cases e with
  | normal=>exact hQ .normal S' g' a' w' hk st' iJ hfr iH oB
  | exit j=>
   simp only at hk;simp only[Ex.out,Exit.inBlock];split at hk
   .rename_i hj;rw[aj hj];exact hQ .normal S' g' a' w' hk st' iJ hfr iH oB
   .rename_i hj;rw[af hj];exact hQ (.exit j) S' g' a' w' hk st' iJ hfr iH oB
  | ret=>exact hQ .ret S' g' a' w' hk st' iJ hfr iH oB
 | .loop x,n,S,k,hc,h,Q,g,a,w=>by
  intro st hdf hQ;simp only[exec]at h;cases hl:H.keep.lookup (B7 x) with
  | none=>rw[hl]at h;simp at h
  | some kp=>
   rw[hl]at h;simp only at h;have key:∀(m:Nat)(S:St)(g1:aA)(a1:Act)(w1:World),sE (exec C D H n x) (St.canon kp.1 kp.2.2) (St.canon kp.2.1 kp.2.2) m S k=some r->aD w1.heap S g1 a1.tmps Nil->g1.cR g->kI g.L w w1->a1.defers=[]->vi np a a1->
     ∀b k' cs,∃e a' w',Q e a' w'/\Arrives P (lone (b.at a1 (.code x::.inLoop x::k')) cs w1) b k' cs e a' w':=by
    intro m
    induction m with
    | zero=>intro S g1 a1 w1 h;simp[sE]at h
    | succ m ih=>
     intro S g1 a1 w1 h st iJ hfr hdf oB b k' cs;simp only[sE]at h;have hx:=Ew j4 x n _ _ (by simpa only [sJ] using hc) h (Exit.then (fun a' w'=>∀b k' cs,∃e IV w'',Q e IV w''/\Arrives P (lone (b.at a' (.code x::.inLoop x::k')) cs w') b k' cs e IV w'') Q) g1 a1 w1 (AL st kp.1 kp.2.2) hdf (by
      intro e S' g' a' w' hk st' w7 qB iH wP;have wQ:=oB.trans wP;have qE:=iJ.trans w7;have ue:kI g.L w w':=hfr.trans (by rw[iJ.2.1]at qB;exact qB);cases e with
      | normal=>exact ih S' g' a' w' hk st' qE ue iH wQ
      | exit id=>exact hQ (.exit id) _ g' a' w' hk (AL st' kp.2.1 kp.2.2) qE ue iH wQ
      | ret=>exact hQ .ret _ g' a' w' hk (AL st' kp.2.1 kp.2.2) qE ue iH wQ)
     obtain⟨e,a₁,w₁,hq,kM⟩:=hx b (.inLoop x::k') cs;cases e with
     | normal=>obtain⟨e₂,a₂,w₂,hq₂,harr₂⟩:=hq b k' cs;exact⟨e₂,a₂,w₂,hq₂,.of_steps (Steps.trans kM (.one step_inLoop)) harr₂⟩
     | exit id=>exact⟨_,a₁,w₁,hq,.pass (x:=.inLoop x) rfl (fun _ _=>.inl (by simp)) kM⟩
     | goto l=>exact⟨_,a₁,w₁,hq,.pass (x:=.inLoop x) rfl (fun _ _=>.inl (by simp)) kM⟩
     | ret=>exact⟨_,a₁,w₁,hq,.pass (x:=.inLoop x) rfl (fun _ _=>.inl (by simp)) kM⟩
     | panic ch=>exact⟨_,a₁,w₁,hq,.pass (x:=.inLoop x) rfl (fun _ _=>.inl (by simp)) kM⟩
     | outgrown=>exact⟨_,a₁,w₁,hq,.pass (x:=.inLoop x) rfl (fun _ _=>.inl (by simp)) kM⟩
   intro b k' cs;obtain⟨e,a',w',hq,kM⟩:=key n S g a w h st (.refl g) (.refl _ _) hdf (.refl _ _) b k' cs;exact⟨e,a',w',hq,.of_steps (.one step_loop) kM⟩
 | .exit id,n,S,k,hc,h,Q,g,a,w=>by
  intro st hdf hQ;exact wp_exit (hQ (.exit id) S g a w (by simpa only [exec] using h) st (.refl g) (.refl _ _) hdf (.refl _ _))
 | .ret,n,S,k,hc,h,Q,g,a,w=>by
  intro st hdf hQ;exact wp_ret (hQ .ret S g a w (by simpa only [exec] using h) st (.refl g) (.refl _ _) hdf (.refl _ _))
 | .rangeFunc _ _ _ _,n,S,k,hc,h,Q,g,a,w=>by simp[exec]at h
 | .scope _,n,S,k,hc,h,Q,g,a,w=>by simp[exec]at h
 | .label _,n,S,k,hc,h,Q,g,a,w=>by simp[exec]at h
 | .goto _,n,S,k,hc,h,Q,g,a,w=>by simp[exec]at h
 | .refuse _,n,S,k,hc,h,Q,g,a,w=>by simp[exec]at h
end
end
end Go.V
namespace Go.V
noncomputable section
open Go
theorem vY.mono{h:Array Obj}{Pr gf:BS}{t:Ty}{m:Mk}{x:t.den}{v:Value}{F:BS}(hp:Sub Pr gf)(r:vY h Pr t m x v F):vY h gf t m x v F:=by obtain⟨b,c,F0,e,r,k⟩:=r;exact⟨b,c,F0,e,az.mono hp (fun _ _=>rfl) t r (Sub.refl _) (fun _ _=>rfl),k⟩
theorem r7.mono{h:Array Obj}{Pr gf:BS}{k:RK}{x:k.den}{v:Value}{F:BS}(hp:Sub Pr gf)(r:r7 h Pr k x v F):r7 h gf k x v F:=by
 cases k with
 | val t m=>exact pO.mono hp r
 | ptr t m=>exact vY.mono hp r
def sD(tmps:Array Value):ResultVar->Sem Value
 | .tmp t=>pure (tmps.getD t Go.undef)
 | .cell a t=>do loadVar t (<- asAddr (tmps.getD a Go.undef))
theorem abj{fn:Func}{tmps:Array Value}{P:Program}{w:World}{us:List Value}(h:(fn.results.toList.mapM (sD tmps)).run P w=.ok us w):(results fn tmps).run P w=.ok (tK us) w:=by
 have e:results fn tmps=(do let vs <- fn.results.mapM (sD tmps);pure (if h:vs.size=1 then vs[0] else .tuple vs)):=by unfold results sD;rfl
 rw[e,Array.mapM_eq_mapM_toList];simp only[Sem.run_bind,Sem.run_map,h,Result.andThen_ok]
 match us with
 | []=>simp[tK]
 | [v]=>simp[tK]
 | u::v::l=>simp[tK]
section
variable {P:Program} {C:Ctx}
theorem Rh{w:World}{t:TypeId}(k:mD P C t)(hz:(C.ty t).nz=true){b o:Nat}{c:List Value}(hr:w.rangeAt b o c)(hl:c.length=(C.ty t).width) :
  (do loadVar t (<- asAddr (.pointer (some ⟨b,o,none⟩))):Sem Value).run P w=.ok (dJ (C.ty t) c) w:=by
 have:=GP (P:=P) k hz hr hl;simpa only [Instr.loadAt,Instr.sureAddr,asAddr] using this
theorem akR(bn:iC P C){w:World}{S:St}{g:aA}{tmps:Array Value}{H:BS}(st:aD w.heap S g tmps H){t:TypeId}(hz:(C.ty t).nz=true){a v':AV}{va:Value}
  (ha:qe w.heap S g a va) (hl:vf S.rt (C.ty t) a=some v'):∃u,(do loadVar t (<- asAddr va):Sem Value).run P w=.ok u w/\qe w.heap S g v' u:=by
 have k:=bn t hz;cases a with
 | b_ t' y=>
  simp only[vf]at hl;cases hc:qbv t' (C.ty t) y with
  | none=>rw[hc]at hl;simp at hl
  | some z=>rw[hc]at hl;simp only[qe]at ha;obtain⟨b,off,cs,e,hp,hb,hs,rep⟩:=ha;have hw:=az.width t' rep;obtain⟨e1,jR⟩:=az.cast hc rep;subst e1;have hrun:=Rh (P:=P) (w:=w) k hz (C9 hb hs) hw;refine⟨_,by rw[e];exact hrun,?_⟩;simp at hl;subst hl;simp only[qe];exact⟨_,jR,rfl⟩
 | addr r p=>
  simp only[vf]at hl;cases hf:S.rt.focus r p with
  | none=>rw[hf]at hl;simp at hl
  | some d=>
   rw[hf]at hl;simp only at hl;by_cases hd:d.ty=C.ty t
   .simp only[hd,aY]at hl;have hf':=hf;simp only[aP.focus]at hf';split at hf'
    .rename_i R hR;obtain⟨b,off,c,hin,ef,e⟩:=GW st hR hf' ha;obtain⟨base,c',F,q1,q2,q3,q4,q5⟩:=st.update hR hf' hin;rw[ef]at q1;simp only[aK,aZ]at q1;obtain⟨rfl,rfl⟩:=q1;obtain⟨_,cs,z9,hs,hsub⟩:=q4 b off rfl;have hw:=az.width d.ty q2;have m_:w.rangeAt b off c:=by have:=C9 (w:=w) z9.Cq hs;rw[hsub]at this;exact this
     have hrun:=Rh (P:=P) k hz m_ (by rw[hw,hd]);obtain⟨dt,dm,dx⟩:=d;simp only at hd;subst hd;refine⟨_,by rw[e];exact hrun,?_⟩;simp only[aK]at hl;subst hl;exact dc.rel q2 (Es hR _ _ _ p (some (b,off)) c F hf' hin ef q2) (Ty.kU hz)
    .simp at hf'
   .rw[af hd]at hl;simp at hl
 | _=>simp[vf]at hl
theorem Mo(bn:iC P C){w:World}{S:St}{g:aA}{tmps:Array Value}{H:BS}(st:aD w.heap S g tmps H){v:ResultVar}{a:AV}(h:xY C S v=some a) :
  ∃u,(sD tmps v).run P w=.ok u w/\qe w.heap S g a u:=by
 cases v with
 | tmp t=>simp only[xY,aK]at h;subst h;exact⟨_,by simp only[sD,Sem.run_pure],st.slots t⟩
 | cell x t=>
  simp only[xY]at h;split at h
  .rename_i hz;exact akR bn st hz (st.slots x) h
  .simp at h
theorem MH{h:Array Obj}{S:St}{g:aA}{tmps:Array Value}{H:BS}(st:aD h S g tmps H){q:Nat}{R:aB}(hR:S.root q=some R)(hm:R.mem=true){t:Ty}{m:Mk}{x:t.den}{v:Value}
  (hs:m.aQ R.ms=true) (hc:qbv R.ty t R.x=some x) (hv:qe h S g (.addr q []) v) :
  ∃g' F,aD h (S.aG q none) g' tmps (Un H F)/\vY h g'.Pr t m x v F/\cv F H/\g'.cR g/\Sub g.Pr g'.Pr:=by
 obtain⟨F,r1,r2,r3,r4,_⟩:=st.roots q R hR;obtain⟨b,bN,gu,KB⟩:=r4 hm;have hq:(S.root q).isSome:=by rw[hR];rfl
 have s1:=st.gA hq;obtain⟨_,rx⟩:=az.cast hc r1;obtain⟨F1,F2,q1,q2,q3,q4⟩:=az.aQ t hs rx;have s2:=s1.cO F2 (fun z hz=>.inr (r2 z (q2 z hz)));obtain⟨b',off,c,hin,ef,e⟩:=GW st hR (p:=[]) (d:=⟨R.ty,R.ms,R.x⟩) (by simp only[focus]) hv;have Wp:cm h R.ty (g.C q) (g.base q) []=some (g.base q,g.C q):=by cases R.ty<;>rfl
 rw[Wp]at ef;simp only[aK,aZ,aA.base,bN,d7]at ef;obtain⟨⟨rfl,rfl⟩,rfl⟩:=ef;refine⟨{ g with Pr:=Un g.Pr F2 },fun z=>F1 z\/z=b,s2.bx ?_,⟨b,g.C q,F1,e,q4,KB,.inr rfl,fun z hz=>.inl hz,fun hz=>r3 b bN (q1 b hz)⟩,?_,⟨rfl,rfl,rfl⟩,fun z hz=>.inl hz⟩
 .rintro z (hz | hz | rfl)
  .exact⟨.inl hz,fun h2=>st.hand q hq z (r2 z (q2 z h2)) hz⟩
  .exact⟨.inr (r2 z (q1 z hz)),fun h2=>q3 z hz h2⟩
  .exact⟨.inr gu,fun h2=>r3 z bN (q2 z h2)⟩
 .rintro z (hz | rfl) hh
  .exact st.hand q hq z (r2 z (q1 z hz)) hh
  .exact st.hand q hq z gu hh
theorem QG(bn:iC P C){w:World}{tmps:Array Value}:∀(rs:List RK)(vs:List ResultVar)(S:St)(g:aA)(H:BS)(i:Nat)(r:f5 rs)(S':St),aD w.heap S g tmps H->v5 C rs vs S=some (r,S')->
  ∃us g' H' Gs,(vs.mapM (sD tmps)).run P w=.ok us w/\aD w.heap S' g' tmps H'/\g'.cR g/\Sub g.Pr g'.Pr/\lu w.heap g'.Pr Gs i rs r us/\(∀j,j<i->Gs j=Nil)/\
   (∀j,Sub (Gs j) H')/\(∀j k,j≠k->cv (Gs j) (Gs k))/\(∀j,cv (Gs j) H)/\Sub H H'
 | [],[],S,g,H,i,r,S',st,h=>by
  simp only[v5,aK,aZ]at h;obtain⟨_,rfl⟩:=h;exact⟨[],g,H,fun _=>Nil,by simp,st,.refl g,Sub.refl _,rfl,fun _ _=>rfl,fun _=>Sub.nil _,fun _ _ _=>cv.nil _,fun _=>cv.nil _,Sub.refl _⟩
 | [],_::_,S,g,H,i,r,S',st,h=>by simp[v5]at h
 | k::_,[],S,g,H,i,r,S',st,h=>by cases k<;>simp[v5]at h
 | k::ks,v::vs,S,g,H,i,r,S',st,h=>by
  -- one
  have one:∃u S1 x g1 F rr,(sD tmps v).run P w=.ok u w/\aD w.heap S1 g1 tmps (Un H F)/\r7 w.heap g1.Pr k x u F/\cv F H/\g1.cR g/\Sub g.Pr g1.Pr/\v5 C ks vs S1=some (rr,S')/\r=(x,rr):=by
   cases k with
   | val t m=>
    simp only[v5,cJ]at h;obtain⟨a,ha,⟨mx,x,rt'⟩,sq,h⟩:=h;split at h
    .rename_i hs;simp only[cJ,aK,aZ]at h;obtain⟨⟨rr,S2⟩,hg,rfl,rfl⟩:=h;obtain⟨u,hu,rM⟩:=Mo bn st ha;obtain⟨c,g2,F,ev,cF⟩:=yK _ st sq rM;obtain⟨F1,F2,q1,q2,q3,q4⟩:=az.aQ t hs cF.rep;have s2:=cF.st.cO F2 (fun z hz=>.inr (q2 z hz));refine⟨u,_,x,_,F1,rr,hu,s2.bx ?_,⟨c,q4,ev⟩,fun z hz hh=>cF.dY z (q1 z hz) hh,aA.cR.trans cF.same ⟨rfl,rfl,rfl⟩,fun z hz=>.inl (cF.pr z hz),hg,rfl⟩;rintro z (hz | hz)
     .exact⟨.inl hz,fun h2=>cF.dY z (q2 z h2) hz⟩
     .exact⟨.inr (q1 z hz),fun h2=>q3 z hz h2⟩
    .simp at h
   | ptr t m=>
    simp only[v5]at h;split at h
    .rename_i q ha;split at h
     .rename_i R hR;split at h
      .rename_i hs;simp only[cJ,aK,aZ]at h;obtain⟨x,hc,⟨rr,S2⟩,hg,rfl,rfl⟩:=h;obtain⟨u,hu,rM⟩:=Mo bn st ha;obtain⟨g1,F,p1,p2,p3,p4,p5⟩:=MH st hR hs.1 hs.2 hc rM;exact⟨u,_,x,g1,F,rr,hu,p1,p2,p3,p4,p5,hg,rfl⟩
      .simp at h
     .simp at h
    .simp at h
  obtain⟨u,S1,x,g1,F,rr,hu,p1,p2,p3,p4,p5,hg,rfl⟩:=one;obtain⟨us,g',H',Gs,k1,k2,k3,k4,k5,k6,k7,k8,k9,jn⟩:=QG bn ks vs S1 g1 _ (i+1) rr S' p1 hg;refine⟨u::us,g',H',fun j=>if j=i then F else Gs j,?_,k2,p4.trans k3,p5.trans k4,?_,?_,?_,?_,?_,fun z hz=>jn z (.inl hz)⟩
  .simp[List.mapM_cons,hu,k1]
  .refine⟨u,us,rfl,?_,?_⟩
   .show r7 w.heap g'.Pr k x u (if i=i then F else Gs i);rw[aj rfl];exact p2.mono k4
   .have:∀(ks:List RK)(n:Nat){a:f5 ks}{us:List Value},i<n->lu w.heap g'.Pr Gs n ks a us->lu w.heap g'.Pr (fun j=>if j=i then F else Gs j) n ks a us:=by
     intro ks
     induction ks with
     | nil=>intro n a us _ h;exact h
     | cons k ks ih=>intro n a us hn h;obtain⟨v,vs',e,r1,r2⟩:=h;exact⟨v,vs',e,by show r7 _ _ _ _ _ (if n=i then F else Gs n);rw[af (by omega)];exact r1,ih (n+1) (by omega) r2⟩
    exact this ks (i+1) (by omega) k5
  .intro j hj;show(if j=i then F else Gs j)=Nil;rw[af (by omega)];exact k6 j (by omega)
  .intro j z hz;split at hz
   .exact jn z (.inr hz)
   .exact k7 j z hz
  .intro j k oC z h1 h2;split at h1<;>split at h2
   .omega
   .exact k9 k z h2 (.inr h1)
   .exact k9 j z h1 (.inr h2)
   .exact k8 j k oC z h1 h2
  .intro j z h1 h2;split at h1
   .exact p3 z h1 h2
   .exact k9 j z h1 (.inl h2)
end
end
end Go.V
namespace Go.V
noncomputable section
open Go
def hdc(hd:Nat->Value)(n w:Nat):List Value:=(List.range w).map fun k=>hd (n+k)
theorem M4(hd:Nat->Value)(n a b:Nat):hdc hd n (a+b)=hdc hd n a++hdc hd (n+a) b:=by simp only[hdc,List.range_add,pI,BF];congr 1;apply rK;intro k _;simp[FG]
theorem xG(hd:Nat->Value)(n w:Nat):(hdc hd n w).length=w:=by simp[hdc]
theorem Bi:∀(t:Ty)(m:Mk)(n:Nat),fc t m=true->(m.tag n).2=n+t.width
 | .sl _,.own _ _,n,_=>rfl
 | .pair a b,.pr x y,n,h=>by
  simp only[fc,bH]at h;simp only[Mk.tag,Ty.width];rw[Bi b y _ h.2,Bi a x _ h.1];omega
 | .unit,.no,_,_=>rfl
 | .unit,.gone,_,h=>by simp[fc]at h
 | .unit,.own _ _,_,h=>by simp[fc]at h
 | .unit,.pr _ _,_,h=>by simp[fc]at h
 | .int _,m,_,h=>by cases m<;>simp[fc]at h
 | .bool,m,_,h=>by cases m<;>simp[fc]at h
 | .str,m,_,h=>by cases m<;>simp[fc]at h
 | .sl _,.no,_,h=>by simp[fc]at h
 | .sl _,.gone,_,h=>by simp[fc]at h
 | .sl _,.pr _ _,_,h=>by simp[fc]at h
 | .pair _ _,.no,_,h=>by simp[fc]at h
 | .pair _ _,.gone,_,h=>by simp[fc]at h
 | .pair _ _,.own _ _,_,h=>by simp[fc]at h
theorem BA:∀(t:Ty)(m:Mk)(n:Nat),fc t m=true->(m.tag n).1.same .no=true->t.width=0
 | .sl _,.own _ _,n,_,h=>by simp[Mk.tag,Mk.same]at h
 | .pair a b,.pr x y,n,hh,h=>by
  simp only[fc,bH]at hh;simp only[Mk.tag,Mk.same,bH]at h;simp only[Ty.width,BA a x n hh.1 h.1,BA b y _ hh.2 h.2]
 | .unit,_,_,_,_=>rfl
 | .int _,m,_,h,_=>by cases m<;>simp[fc]at h
 | .bool,m,_,h,_=>by cases m<;>simp[fc]at h
 | .str,m,_,h,_=>by cases m<;>simp[fc]at h
 | .sl _,.no,_,h,_=>by simp[fc]at h
 | .sl _,.gone,_,h,_=>by simp[fc]at h
 | .sl _,.pr _ _,_,h,_=>by simp[fc]at h
 | .pair _ _,.no,_,h,_=>by simp[fc]at h
 | .pair _ _,.gone,_,h,_=>by simp[fc]at h
 | .pair _ _,.own _ _,_,h,_=>by simp[fc]at h
theorem Gj{hd:Nat->Value}:∀(t:Ty)(m:Mk)(n:Nat)(m':Mk)(c:List Value),fc t m=true->1048576<=n->(m.tag n).1.same m'=true->aL hd t m' c->c.length=t.width->c=hdc hd n t.width
 | .sl _,.own _ _,n,m',c,_,hn,hs,ht,hl=>by
  simp only[Mk.tag,Mk.same]at hs;split at hs
  .rename_i s' mi';simp only[gQ]at hs;subst hs;simp only[aL]at ht;rw[ht.1 hn];rfl
  .simp at hs
 | .pair a b,.pr x y,n,m',c,h,hn,hs,ht,hl=>by
  simp only[fc,bH]at h;simp only[Mk.tag,Mk.same]at hs;split at hs
  .rename_i c1 d1;simp only[bH]at hs;simp only[aL,Mk.fst,Mk.snd]at ht;simp only[Ty.width]at hl⊢;rw[Bi a x n h.1]at hs;have e1:=Gj a x n c1 _ h.1 hn hs.1 ht.1 (by simp;omega);have e2:=Gj b y (n+a.width) d1 _ h.2 (by omega) hs.2 ht.2 (by simp;omega);rw[M4,<-e1,<-e2,rJ]
  .simp only[bH]at hs;simp only[Ty.width]at hl⊢;rw[BA a x n h.1 hs.1,BA b y _ h.2 hs.2]at hl⊢;exact lB.1 hl
  .simp at hs
 | .unit,_,_,_,c,_,_,_,_,hl=>lB.1 hl
 | .int _,m,_,_,_,h,_,_,_,_=>by cases m<;>simp[fc]at h
 | .bool,m,_,_,_,h,_,_,_,_=>by cases m<;>simp[fc]at h
 | .str,m,_,_,_,h,_,_,_,_=>by cases m<;>simp[fc]at h
 | .sl _,.no,_,_,_,h,_,_,_,_=>by simp[fc]at h
 | .sl _,.gone,_,_,_,h,_,_,_,_=>by simp[fc]at h
 | .sl _,.pr _ _,_,_,_,h,_,_,_,_=>by simp[fc]at h
 | .pair _ _,.no,_,_,_,h,_,_,_,_=>by simp[fc]at h
 | .pair _ _,.gone,_,_,_,h,_,_,_,_=>by simp[fc]at h
 | .pair _ _,.own _ _,_,_,_,h,_,_,_,_=>by simp[fc]at h
theorem Ht{hd:Nat->Value}:∀(t:Ty)(m:Mk)(n:Nat),fc t m=true->m.ax=true->aL hd t (m.tag n).1 (hdc hd n t.width)
 | .sl _,.own _ _,n,_,hf=>by
  simp only[Mk.ax,bH]at hf;simp only[Mk.tag,aL];exact⟨fun _=>rfl,hf.2⟩
 | .pair a b,.pr x y,n,h,hf=>by
  simp only[fc,bH]at h;simp only[Mk.ax,bH]at hf;simp only[Mk.tag,aL,Mk.fst,Mk.snd,Ty.width,M4];rw[Bi a x n h.1,jm (xG _ _ _),iZ (xG _ _ _)];exact⟨Ht a x n h.1 hf.1,Ht b y _ h.2 hf.2⟩
 | .unit,_,_,_,_=>by simp only[aL]
 | .int _,m,_,h,_=>by cases m<;>simp[fc]at h
 | .bool,m,_,h,_=>by cases m<;>simp[fc]at h
 | .str,m,_,h,_=>by cases m<;>simp[fc]at h
 | .sl _,.no,_,h,_=>by simp[fc]at h
 | .sl _,.gone,_,h,_=>by simp[fc]at h
 | .sl _,.pr _ _,_,h,_=>by simp[fc]at h
 | .pair _ _,.no,_,h,_=>by simp[fc]at h
 | .pair _ _,.gone,_,h,_=>by simp[fc]at h
 | .pair _ _,.own _ _,_,h,_=>by simp[fc]at h
theorem HS{h:Array Obj}{Pr:BS}:∀(t:Ty)(m:Mk)(n:Nat){x:t.den}{c:List Value}{F:BS},fc t m=true->az h Pr t m x c F->az h Pr t (m.tag n).1 x c F
 | .sl _,.own _ _,n,_,_,_,_,r=>by
  simp only[Mk.tag,az]at r⊢;exact r
 | .pair a b,.pr x y,n,_,_,_,hh,r=>by
  simp only[fc,bH]at hh;simp only[Mk.tag,az,Mk.fst,Mk.snd]at r⊢;obtain⟨ca,cb,Fa,Fb,e,ra,rb,k⟩:=r;exact⟨ca,cb,Fa,Fb,e,HS a x _ hh.1 ra,HS b y _ hh.2 rb,k⟩
 | .unit,m,n,_,_,_,h,r=>by simpa only [az] using r
 | .int _,m,_,_,_,_,h,_=>by cases m<;>simp[fc]at h
 | .bool,m,_,_,_,_,h,_=>by cases m<;>simp[fc]at h
 | .str,m,_,_,_,_,h,_=>by cases m<;>simp[fc]at h
 | .sl _,.no,_,_,_,_,h,_=>by simp[fc]at h
 | .sl _,.gone,_,_,_,_,h,_=>by simp[fc]at h
 | .sl _,.pr _ _,_,_,_,_,h,_=>by simp[fc]at h
 | .pair _ _,.no,_,_,_,_,h,_=>by simp[fc]at h
 | .pair _ _,.gone,_,_,_,_,h,_=>by simp[fc]at h
 | .pair _ _,.own _ _,_,_,_,_,h,_=>by simp[fc]at h
def fR(hd:Nat->Value):Nat->List PK->List Value->Prop
 | i,.cN t m _::ks,v::vs=>(v=dJ t (hdc hd (1048576+64 * i) t.width)/\fc t m=true)/\fR hd (i+1) ks vs
 | i,.cw _ _ _::ks,_::vs=>fR hd (i+1) ks vs
 | i,.val _::ks,_::vs=>fR hd (i+1) ks vs
 | i,.own _ _::ks,_::vs=>fR hd (i+1) ks vs
 | i,.cj _::ks,_::vs=>fR hd (i+1) ks vs
 | i,.fn::ks,_::vs=>fR hd (i+1) ks vs
 | _,_,_=>True
theorem ajG{h:Array Obj}{S:St}{g:aA}{tmps:Array Value}{H:BS}(st:aD h S g tmps H){q:Nat}{R:aB}(hR:S.root q=some R){t:Ty}{m:Mk}{x:t.den}
  (hs:m.aQ R.ms=true) (hc:qbv R.ty t R.x=some x) :
  ∃g' F,aD h (S.aG q none) g' tmps (Un H F)/\pO h g'.Pr t m x (dJ t (g.C q)) F/\cv F H/\g'.cR g/\Sub g.Pr g'.Pr:=by
 obtain⟨F,r1,r2,r3,r4,_⟩:=st.roots q R hR;have hq:(S.root q).isSome:=by rw[hR];rfl
 have s1:=st.gA hq;obtain⟨_,rx⟩:=az.cast hc r1;obtain⟨F1,F2,q1,q2,q3,q4⟩:=az.aQ t hs rx;have s2:=s1.cO F2 (fun z hz=>.inr (r2 z (q2 z hz)));refine⟨{ g with Pr:=Un g.Pr F2 },F1,s2.bx ?_,⟨g.C q,q4,rfl⟩,?_,⟨rfl,rfl,rfl⟩,fun z hz=>.inl hz⟩
 .rintro z (hz | hz)
  .exact⟨.inl hz,fun h2=>st.hand q hq z (r2 z (q2 z h2)) hz⟩
  .exact⟨.inr (r2 z (q1 z hz)),fun h2=>q3 z hz h2⟩
 .intro z hz hh;exact st.hand q hq z (r2 z (q1 z hz)) hh
theorem nx.shift{h:Array Obj}{Pr:BS}{Os Os2:Nat->BS}:∀(ks:List PK)(i:Nat){o:dy ks}{vs:List Value},(∀j,i<=j->Os2 j=Os j)->nx h Pr Os i ks o vs->nx h Pr Os2 i ks o vs
 | [],_,_,_,_,r=>r
 | .cw t _ m::ks,i,_,_,hj,r=>by
  obtain⟨v,vs',e,r1,r2⟩:=r;exact⟨v,vs',e,by rw[hj i (ck _)];exact r1,nx.shift ks (i+1) (fun j h=>hj j (by omega)) r2⟩
 | .cN t _ m::ks,i,_,_,hj,r=>by
  obtain⟨v,vs',e,r1,r2⟩:=r;exact⟨v,vs',e,by rw[hj i (ck _)];exact r1,nx.shift ks (i+1) (fun j h=>hj j (by omega)) r2⟩
 | .val _::ks,i,_,_,hj,r=>by obtain⟨v,vs',e,r2⟩:=r;exact⟨v,vs',e,nx.shift ks (i+1) (fun j h=>hj j (by omega)) r2⟩
 | .own _ _::ks,i,_,_,hj,r=>by obtain⟨v,vs',e,r2⟩:=r;exact⟨v,vs',e,nx.shift ks (i+1) (fun j h=>hj j (by omega)) r2⟩
 | .cj _::ks,i,_,_,hj,r=>by obtain⟨v,vs',e,r2⟩:=r;exact⟨v,vs',e,nx.shift ks (i+1) (fun j h=>hj j (by omega)) r2⟩
 | .fn::ks,i,_,_,hj,r=>by obtain⟨v,vs',e,r2⟩:=r;exact⟨v,vs',e,nx.shift ks (i+1) (fun j h=>hj j (by omega)) r2⟩
structure V0 (h:Array Obj) (g:aA) (tmps:Array Value) (H:BS) (ks:List PK) (i:Nat) (o:dy ks) (vs:List Value) (g':aA) (H':BS) (Os:Nat->BS):Prop where
 st:∃S',aD h S' g' tmps H'
 same:g'.cR g
 pr:Sub g.Pr g'.Pr
 rel:nx h g'.Pr Os i ks o vs
 nil:∀j,j<i->Os j=Nil
 sub:∀j,Sub (Os j) H'
 dY:∀j k,j≠k->cv (Os j) (Os k)
 pU:∀j,cv (Os j) H
 hand:Sub H H'
theorem abR{i j:Nat}{k:PK}{ks:List PK}(h:j∈vO (i+1) ks):j∈vO i (k::ks):=by cases k<;>simp only[vO,bk]<;>first | exact h | exact .inr h
theorem Ju{Hh:Hints}{h:Array Obj}{tmps:Array Value}:∀(ks:List PK)(i:Nat)(vs:List Value)(S:St)(g:aA)(H:BS)(o:dy ks),aD h S g tmps H->outs Hh i ks S=some o->
  (∀k v,vs[k]? = some v->i+k∈vO i ks->tmps.getD (i+k) Go.undef=v)->vs.length=ks.length->fR g.hd i ks vs->∃g' H' Os,V0 h g tmps H ks i o vs g' H' Os
 | [],i,vs,S,g,H,o,st,ho,hv,hl,hm=>by
  refine⟨g,H,fun _=>Nil,⟨S,st⟩,.refl g,Sub.refl _,lB.1 hl,fun _ _=>rfl,fun _=>Sub.nil _,fun _ _ _=>cv.nil _,fun _=>cv.nil _,Sub.refl _⟩
 | k::ks,i,[],S,g,H,o,st,ho,hv,hl,hm=>by simp at hl
 | k::ks,i,v::vs,S,g,H,o,st,ho,hv,hl,hm=>by
  have Aa:∀k v,vs[k]? = some v->i+1+k∈vO (i+1) ks->tmps.getD (i+1+k) Go.undef=v:=by intro k u hk hm;have:=hv (k+1) u (by simpa using hk) (by rw[show i+(k+1)=i+1+k by omega];exact abR hm);rw[<-this];congr 1;omega
  have hl':vs.length=ks.length:=by simpa using hl
  -- one alc comes back
  have back:∀(t:Ty)(x:t.den)(oo:dy ks)(S1:St)(g1:aA)(F:BS)(rel:BS->BS->Prop),aD h S1 g1 tmps (Un H F)->(∀Pr,Sub g1.Pr Pr->rel Pr F)->cv F H->g1.cR g->Sub g.Pr g1.Pr->
    outs Hh (i+1) ks S1=some oo->fR g.hd (i+1) ks vs->
    ∃g' H' Os,(∃S',aD h S' g' tmps H')/\g'.cR g/\Sub g.Pr g'.Pr/\rel g'.Pr (Os i)/\nx h g'.Pr Os (i+1) ks oo vs/\(∀j,j<i->Os j=Nil)/\(∀j,Sub (Os j) H')/\
     (∀j k,j≠k->cv (Os j) (Os k))/\(∀j,cv (Os j) H)/\Sub H H':=by
   intro t x oo S1 g1 F rel s1 Xd hd iJ hp ho hm;obtain⟨g',H',Os,q⟩:=Ju ks (i+1) vs S1 g1 _ oo s1 ho Aa hl' (by rw[iJ.1];exact hm);refine⟨g',H',fun j=>if j=i then F else Os j,q.st,iJ.trans q.same,hp.trans q.pr,?_,?_,?_,?_,?_,?_,fun z hz=>q.hand z (.inl hz)⟩
   .show rel g'.Pr (if i=i then F else Os i);rw[aj rfl];exact Xd _ q.pr
   .exact nx.shift ks (i+1) (fun j hj=>by show(if j=i then F else Os j)=Os j;rw[af (by omega)]) q.rel
   .intro j hj;show(if j=i then F else Os j)=Nil;rw[af (by omega)];exact q.nil j (by omega)
   .intro j z hz;split at hz
    .exact q.hand z (.inr hz)
    .exact q.sub j z hz
   .intro j k oC z h1 h2;split at h1<;>split at h2
    .omega
    .exact q.pU k z h2 (.inr h1)
    .exact q.pU j z h1 (.inr h2)
    .exact q.dY j k oC z h1 h2
   .intro j z h1 h2;split at h1
    .exact hd z h1 h2
    .exact q.pU j z h1 (.inl h2)
  cases k with
  | val t=>obtain⟨g',H',Os,q⟩:=Ju ks (i+1) vs S g H o st (by simpa only [outs] using ho) Aa hl' (by simpa only [fR] using hm);exact⟨g',H',Os,q.st,q.same,q.pr,⟨v,vs,rfl,q.rel⟩,fun j hj=>q.nil j (by omega),q.sub,q.dY,q.pU,q.hand⟩
  | own t m=>obtain⟨g',H',Os,q⟩:=Ju ks (i+1) vs S g H o st (by simpa only [outs] using ho) Aa hl' (by simpa only [fR] using hm);exact⟨g',H',Os,q.st,q.same,q.pr,⟨v,vs,rfl,q.rel⟩,fun j hj=>q.nil j (by omega),q.sub,q.dY,q.pU,q.hand⟩
  | cj t=>obtain⟨g',H',Os,q⟩:=Ju ks (i+1) vs S g H o st (by simpa only [outs] using ho) Aa hl' (by simpa only [fR] using hm);exact⟨g',H',Os,q.st,q.same,q.pr,⟨v,vs,rfl,q.rel⟩,fun j hj=>q.nil j (by omega),q.sub,q.dY,q.pU,q.hand⟩
  | fn=>obtain⟨g',H',Os,q⟩:=Ju ks (i+1) vs S g H o st (by simpa only [outs] using ho) Aa hl' (by simpa only [fR] using hm);exact⟨g',H',Os,q.st,q.same,q.pr,⟨v,vs,rfl,q.rel⟩,fun j hj=>q.nil j (by omega),q.sub,q.dY,q.pU,q.hand⟩
  | cw t m0 m'=>
   simp only[outs]at ho;split at ho
   .rename_i qq tv;split at ho
    .rename_i R hR;split at ho
     .rename_i hs;simp only[cJ,aK]at ho;obtain⟨x,hc,oo,ho,rfl⟩:=ho;have Xs:tmps.getD i Go.undef=v:=by have:=hv 0 v rfl (by simp[vO]);simpa using this
      have rM:=st.slots i;rw[tv,Xs]at rM;obtain⟨g1,F,p1,p2,p3,p4,p5⟩:=MH st hR hs.1 hs.2 hc rM;obtain⟨g',H',Os,k1,k2,k3,k4,k5,k6⟩:=back t x oo _ g1 F (fun Pr F=>vY h Pr t m' x v F) p1 (fun Pr hp=>p2.mono hp) p3 p4 p5 ho (by simpa only [fR] using hm);exact⟨g',H',Os,k1,k2,k3,⟨v,vs,rfl,k4,k5⟩,k6.1,k6.2.1,k6.2.2.1,k6.2.2.2.1,k6.2.2.2.2⟩
     .simp at ho
    .simp at ho
   .simp at ho
  | cN t m0 m'=>
   simp only[outs]at ho;split at ho
   .rename_i R hR;split at ho
    .rename_i hs;simp only[cJ,aK]at ho;obtain⟨x,hc,oo,ho,rfl⟩:=ho;simp only[fR]at hm;obtain⟨⟨ev,hh⟩,hm⟩:=hm;obtain⟨g1,F,p1,p2,p3,p4,p5⟩:=ajG st hR hs.1 hc;have hcell:g.C ((Hh.outs.lookup i).getD i)=hdc g.hd (1048576+64 * i) t.width:=by obtain⟨F0,r1,_⟩:=st.roots _ R hR;have ht:=st.tag _ R hR;obtain⟨e,_⟩:=C8 hc;have hw:=az.width _ r1;rw[e]at ht hw;exact Gj t m0 _ _ _ hh (by omega) hs.2 ht hw
     rw[hcell,<-ev]at p2;obtain⟨g',H',Os,k1,k2,k3,k4,k5,k6⟩:=back t x oo _ g1 F (fun Pr F=>pO h Pr t m' x v F) p1 (fun Pr hp=>p2.mono hp) p3 p4 p5 ho hm;exact⟨g',H',Os,k1,k2,k3,⟨v,vs,rfl,k4,k5⟩,k6.1,k6.2.1,k6.2.2.1,k6.2.2.2.1,k6.2.2.2.2⟩
    .simp at ho
   .simp at ho
end
theorem Gm(r:Nat):∀(t:Ty)(m:Mk)(x:t.den)(p:Path),∀q∈(cV r t m x p).roots,q=r
 | .unit,_,_,_,q,h=>by simp[cV,AV.roots]at h
 | .int _,_,_,_,q,h=>by simp[cV,AV.roots]at h
 | .bool,_,_,_,q,h=>by simp[cV,AV.roots]at h
 | .str,_,_,_,q,h=>by simp[cV,AV.roots]at h
 | .pair a b,m,x,p,q,h=>by
  unfold cV at h;split at h
  .simp[AV.roots]at h
  .simp only[AV.roots,bL]at h;rcases h with h | h
   .exact Gm r a _ _ _ q h
   .exact Gm r b _ _ _ q h
 | .sl t,m,x,p,q,h=>by cases m<;>simp[cV,AV.roots]at h;exact h
theorem abl{tmps:Array Value}{i:Nat}{v:Value}(h:tmps.getD i Go.undef=v):tmps.setIfInBounds i v=tmps:=by
 apply Array.ext_getElem?;intro j;rw[Fo];by_cases e:i=j
 .subst e;rw[aj rfl];by_cases hl:i<tmps.size
  .rw[aj hl];simp only[pE,vB hl,uF]at h;rw[vB hl,h]
  .rw[af hl,H8 (by omega)]
 .rw[af e]
theorem RA{h:Array Obj}{tmps:Array Value}{Pr:BS}{Fs:Nat->BS}(oT:∀i j,i≠j->cv (Fs i) (Fs j)):∀(ks:List PK)(i:Nat)(a:gb ks)(vs:List Value)(S:St)(g:aA)(H:BS),aD h S g tmps H->
  yI h Pr Fs i ks a vs->g.Pr=Pr->(∀k v,vs[k]? = some v->tmps.getD (i+k) Go.undef=v)->(∀u r,r∈(S.get u).roots->r<i)->ks.all PK.fZ=true->(∀j,i<=j->Sub (Fs j) H)->
  i+ks.length<=tmps.size->fR g.hd i ks vs->∃g' H',aD h (enter S i ks a) g' tmps H'/\g'.Pr=Pr/\g'.cR g
 | [],i,a,vs,S,g,H,st,hps,gW,hv,hb,hok,hH,hl,hm=>⟨g,H,st,gW,.refl g⟩
 | k::ks,i,a,vs,S,g,H,st,hps,gW,hv,hb,hok,hH,hl,hm=>by
  obtain⟨v,vs',rfl,r1,r2⟩:=hps;simp only[gT,bH]at hok;simp only[cq]at hl;have Aa:∀k v,vs'[k]? = some v->tmps.getD (i+1+k) Go.undef=v:=by intro k u hk;have:=hv (k+1) u (by simpa using hk);rw[<-this];congr 1;omega
  have Xs:tmps.getD i Go.undef=v:=by have:=hv 0 v rfl;simpa using this
  have I1:i<S.rt.length:=by rw[st.gw];omega
  -- yP slot,and on
  have go:∀(S1:St)(g1:aA)(H1:BS)(av:AV),aD h S1 g1 tmps H1->g1.Pr=Pr->g1.cR g->qe h S1 g1 av v->(∀r∈av.roots,r=i)->(∀u r,r∈(S1.get u).roots->r<i)->
    (∀j,i+1<=j->Sub (Fs j) H1)->fR g.hd (i+1) ks vs'->∃g' H',aD h (enter (S1.set i av) (i+1) ks a.2) g' tmps H'/\g'.Pr=Pr/\g'.cR g:=by
   intro S1 g1 H1 av s1 Us tr rM hr bN tZ WQ;have s2:=s1.tQ i rM;rw[abl Xs]at s2;obtain⟨g',H',k1,k2,k3⟩:=RA oT ks (i+1) a.2 vs' (S1.set i av) g1 H1 s2 r2 Us Aa (by
    intro u r hr';rw[St.gr]at hr';split at hr'
    .have:=hr r hr';omega
    .have:=bN u r hr';omega) hok.2 tZ (by omega) (by rw[tr.1];exact WQ)
   exact⟨g',H',k1,k2,tr.trans k3⟩
  -- a root,yP slot,and on
  have root:∀(t:Ty)(m:Mk)(x:t.den)(c:List Value),t.nz=true->az h Pr t m x c (Fs i)->v=dJ t c->aL g.hd t m c->fR g.hd (i+1) ks vs'->
    ∃g' H',aD h (enter ((S.aG i (some ⟨t,m,x,false⟩)).set i (cV i t m x [])) (i+1) ks a.2) g' tmps H'/\g'.Pr=Pr/\g'.cR g:=by
   intro t m x c hz rep ev ni WQ;obtain⟨g1,s1,p1,p2,p3,p4,_⟩:=st.kT I1 (by rw[gW];exact rep) ni (hH i (ck _)) none (fun b hb=>by simp at hb) (fun u=>.inl (by
    cases hc:(S.get u).roots.contains i with
    | false=>rfl
    | true=>have:=hb u i (by simpa using hc);omega))
   have bJ:(S.aG i (some ⟨t,m,x,false⟩)).root i=some ⟨t,m,x,false⟩:=by rw[St.bY];simp[I1]
   have ef:cm h t c (g1.base i) []=some (g1.base i,c):=by cases t<;>rfl
   refine go _ g1 _ _ s1 (p1.trans gW) p2 ?_ (Gm i t m x []) (fun u r hr=>hb u r hr) ?_ WQ
   .rw[ev];have jR:az h g1.Pr t m x c (Fs i):=by rw[p1,gW];exact rep
    refine dc.rel jR (Es bJ t m x [] (g1.base i) c (Fs i) (by simp only[focus]) (by simp only[bt]) ?_ jR) (Ty.kU hz);rw[p3];exact ef
   .intro j hj b hb';exact⟨hH j (by omega) b hb',fun h2=>oT j i (by omega) b hb' h2,by simp⟩
  cases k with
  | val t=>simp only[enter];refine go S g H _ st gW (.refl g) ?_ (by simp[AV.roots]) hb (fun j hj=>hH j (by omega)) (by simpa only [fR] using hm);obtain⟨c,rep,e⟩:=r1;simp only[qe];exact⟨c,by rw[gW];exact rep,e⟩
  | cj t=>simp only[enter];refine go S g H _ st gW (.refl g) ?_ (by simp[AV.roots]) hb (fun j hj=>hH j (by omega)) (by simpa only [fR] using hm);simp only[qe];obtain⟨b,o,cs,e1,e2,e3⟩:=r1;exact⟨b,o,cs,e1,by rw[gW];exact e2,by rw[gW];exact e3⟩
  | fn=>
   simp only[enter];refine go S g H _ st gW (.refl g) ?_ (by simp[AV.roots]) hb (fun j hj=>hH j (by omega)) (by simpa only [fR] using hm);obtain⟨us,e,hc⟩:=r1;simp only[qe];refine⟨us,e,?_⟩;have:∀(l:List bD)(us:List Value),nR h (PG Pr) l us->nR h g l us:=by
    intro l
    induction l with
    | nil=>intro us h;exact h
    | cons x l ih=>
     intro us hh;simp only[nR]at hh⊢;obtain⟨u,us',e,h1,h2⟩:=hh;refine⟨u,us',e,?_,ih us' h2⟩;cases x with
     | val t y=>simp only[sA]at h1⊢;rw[gW];exact h1
     | cj t y=>simp only[sA]at h1⊢;obtain⟨b,o,cs,e1,e2,e3⟩:=h1;exact⟨b,o,cs,e1,by rw[gW];exact e2,by rw[gW];exact e3⟩
   exact this _ us hc
  | own t m=>simp only[enter];simp only[PK.fZ,bH]at hok;obtain⟨c,rep,e⟩:=r1;exact root t m a.1 c hok.1.1 rep e (aL.ax t hok.1.2) (by simpa only [fR] using hm)
  | cN t m m'=>
   simp only[enter];simp only[PK.fZ,bH]at hok;simp only[fR]at hm;obtain⟨c,rep,e⟩:=r1;have hc:c=hdc g.hd (1048576+64 * i) t.width:=by
    have e2:=e.symm.trans hm.1.1;have h1:=B3 rep;rw[e2]at h1;rw[<-h1];have:∀(t:Ty)(m:Mk)(l:List Value),t.nz=true->fc t m=true->l.length=t.width->(dJ t l).cells.toList=l\/∃y,t=.sl y:=by
     intro t m l hz hh hl;cases t with
     | pair a b=>left;simp[dJ,Ty.agg,Value.cells]
     | sl y=>exact .inr ⟨y,rfl⟩
     | unit=>simp[Ty.nz]at hz
     | _=>cases m<;>simp[fc]at hh
    rcases this t m _ hok.1.1 hm.1.2 (xG g.hd (1048576+64 * i) t.width) with h2 | ⟨y,rfl⟩
    .exact h2
    .obtain⟨aa,n,k,Xg⟩:=az.slice rep;have e3:=e2;simp only[dJ,Ty.agg,e8,dV,Ty.width,hdc,List.range_one,cr,fY,EI]at e3⊢;rw[Xg]at e3;simp only[EI]at e3;rw[<-e3];simp[Value.cells]
   refine root t (BB i m) a.1 c hok.1.1 (HS t m _ hm.1.2 rep) e ?_ hm.2;rw[hc];exact Ht t m _ hm.1.2 hok.1.2.1
  | cw t m m'=>
   simp only[enter];simp only[PK.fZ]at hok;obtain⟨b,c,F0,e,rep,ho,bN,hs0,hn0⟩:=r1;obtain⟨g1,s1,p1,p2,p3,p4,_⟩:=st.kT I1 (by rw[gW];exact rep) (aL.ax t hok.1) (fun z hz=>hH i (ck _) z (hs0 z hz)) (some b)
    (fun b' hb'=>by simp only[aK]at hb';subst hb';exact⟨hH i (ck _) b bN,hn0,ho⟩) (fun u=>.inl (by
    cases hc:(S.get u).roots.contains i with
    | false=>rfl
    | true=>have:=hb u i (by simpa using hc);omega))
   have bJ:(S.aG i (some ⟨t,m,a.1,true⟩)).root i=some ⟨t,m,a.1,true⟩:=by rw[St.bY];simp[I1]
   refine go _ g1 _ _ s1 (p1.trans gW) p2 ?_ (by simp[AV.roots]) (fun u r hr=>hb u r hr) ?_ (by simpa only [fR] using hm)
   .simp only[qe];intro R hR d hf;have vF:R=⟨t,m,a.1,true⟩:=by have cg:(S.aG i (some ⟨t,m,a.1,true⟩)).root i=some R:=hR;rw[bJ]at cg;simp only[aK]at cg;exact cg.symm
    subst vF;refine⟨by simp only[bt],b,0,c,?_,e⟩;have ef:cm h t c (g1.base i) []=some (g1.base i,c):=by cases t<;>rfl
    rw[p3,ef];simp[aA.base,p4]
   .intro j hj z hz;refine⟨hH j (by omega) z hz,fun h2=>oT j i (by omega) z hz (hs0 z h2),?_⟩;intro h2;simp only[aK]at h2;subst h2;exact oT j i (by omega) _ hz bN
theorem yI.len{h:Array Obj}{Pr:BS}{Fs:Nat->BS}:∀(ks:List PK)(i:Nat){a:gb ks}{vs:List Value},yI h Pr Fs i ks a vs->vs.length=ks.length
 | [],_,_,_,r=>by rw[show _=[] from r];rfl
 | k::ks,i,_,_,r=>by
  obtain⟨v,vs',rfl,_,r2⟩:=r;simp[yI.len ks (i+1) r2]
theorem NS{h:Array Obj}{Pr:BS}{Fs:Nat->BS}(us:List Value):∀(ks:List PK)(i:Nat)(a:gb ks)(vs:List Value),yI h Pr Fs i ks a vs->ks.all PK.fZ=true->(∀k,vs[k]? = us[i+k]?)->
  fR (fun s=>((us.getD ((s-1048576) / 64) Go.undef).cells).getD ((s-1048576) % 64) Go.undef) i ks vs
 | [],_,_,_,_,_,_=>by simp only[fR]
 | k::ks,i,a,vs,r,hok,hu=>by
  obtain⟨v,vs',rfl,r1,r2⟩:=r;simp only[gT,bH]at hok;have ih:=NS us ks (i+1) a.2 vs' r2 hok.2 (fun k=>by have:=hu (k+1);rw[show i+1+k=i+(k+1) by omega,<-this];simp);cases k with
  | cN t m m'=>
   simp only[fR];refine⟨⟨?_,?_⟩,ih⟩
   .simp only[PK.fZ,bH]at hok;obtain⟨c,rep,e⟩:=r1;have hw:=az.width t rep;have h64:=rI hok.1.2.2.2;have fS:=B3 rep;rw[<-e]at fS;have hui:us.getD i Go.undef=v:=by have:=hu 0;simp only[qS,Ft]at this;simp only[List.getD,<-this,uF]
    have:hdc (fun s=>((us.getD ((s-1048576) / 64) Go.undef).cells).getD ((s-1048576) % 64) Go.undef) (1048576+64 * i) t.width=c:=by
     apply x_ (by rw[xG,hw]);intro k h1 h2;rw[xG]at h1;simp only[hdc,yb,List.getElem_range];rw[show(1048576+64 * i+k-1048576) / 64=i by omega,show(1048576+64 * i+k-1048576) % 64=k by omega,hui];have hk:k<v.cells.size:=by rw[<-iM,fS];omega
     simp only[pE,vB hk,uF];rw[<-Array.getElem_toList];simp only[fS]
    rw[this];exact e
   .simp only[PK.fZ,bH]at hok;exact hok.1.2.2.1
  | _=>simpa only [fR] using ih
theorem lu.mono{h:Array Obj}{Pr gf:BS}{Gs:Nat->BS}(hp:Sub Pr gf):∀(ks:List RK)(i:Nat){a:f5 ks}{us:List Value},lu h Pr Gs i ks a us->lu h gf Gs i ks a us
 | [],_,_,_,r=>r
 | k::ks,i,_,_,r=>by
  obtain⟨v,vs',e,r1,r2⟩:=r;exact⟨v,vs',e,r1.mono hp,lu.mono hp ks (i+1) r2⟩
section
variable {P:Program} {C:Ctx} {D:Den C} (bn:iC P C) (dj:ot P C D) (j4:P.follows .mixedOrders=true)
include bn dj j4
theorem ajD{f:FuncId}{fn:Func}{n:Nat}{Hh:Hints}{ks:List PK}{rs:List RK}{a:gb ks}{r:f5 rs×dy ks}(hf:P.funcs[f]? = some fn)(h:vq C D n fn Hh ks rs a=some r)
    {w:World} {Pr:BS} {Fs:Nat->BS} {vs:List Value} (pre:Pre w.heap Pr Fs ks a vs) :
    Calls P f vs.toArray w fun e w'=>∃val fN Gs Os us,e=.returned val/\T6 w w' Pr Fs ks rs r.1 r.2 vs val fN Gs Os us:=by
  unfold vq at h;split at h
  . simp at h
  . rename_i c hb
    split at h
    . rename_i wH
      simp only[bH]at wH;obtain⟨hok,hle,hcf⟩:=wH;have hle:=rI hle;have hlen:=yI.len ks 0 pre.rel;refine calls_of_wp hf hb ?_;have I3:=NS vs ks 0 a vs pre.rel hok (fun k=>by simp);generalize hhd:(fun s=>((vs.getD ((s-1048576) / 64) Go.undef).cells).getD ((s-1048576) % 64) Go.undef)=hd at I3
      let g0:aA:=⟨Pr,fun _=>[],fun _=>none,fun _=>Nil,hd,tT w.heap.size Fs,Pr⟩
      generalize I7:vs.toArray++Array.replicate (fn.ntmps-vs.toArray.size) Go.undef=tmps;have hsz:tmps.size=fn.ntmps:=by rw[<-I7];simp;omega
      have jL:∀k v,vs[k]? = some v->tmps.getD k Go.undef=v:=by intro k v hk;have hkl:k<vs.length:=(So.1 hk).1;rw[<-I7];simp only[pE];rw[Array.getElem?_append_left (by simpa using hkl)];simp[hk]
      have bJ:∀q,(⟨List.replicate fn.ntmps .undef,List.replicate fn.ntmps none⟩:St).root q=none:=by intro q;simp only[aP.ig,List.getD,vC];split<;>rfl
      have tv:∀t,(⟨List.replicate fn.ntmps .undef,List.replicate fn.ntmps none⟩:St).get t=.undef:=by intro t;simp only[St.get_eq,List.getD,vC];split<;>rfl
      have st0:aD w.heap ⟨List.replicate fn.ntmps .undef,List.replicate fn.ntmps none⟩ g0 tmps (fun b=>∃i,Fs i b):=by
        refine { len:=by simp[hsz],gw:=by simp[hsz],slots:=fun t=>by rw[tv];simp only[qe],roots:=fun q R hR=>?_,dY:=fun q q' _ h1 _=>?_,ej:=fun q h1=>?_,hand:=fun q h1=>?_,bK:=?_,bO:=pre.bO,
                 b9:=fun q b h1 _=>?_,eg:=?_,tag:=fun q R hR=>?_,own:=fun q b h1 _=>?_,e7:=fun b hb=>.inr hb,fV:=fun b hb=>.inl hb,p0:=Sub.refl _,kY:=fun b hb=>.inl hb }
        . rw[bJ]at hR;simp at hR
        . rw[bJ]at h1;simp at h1
        . rw[bJ]at h1;simp at h1
        . rw[bJ]at h1;simp at h1
        . rintro b ⟨i,hb⟩ hp;exact pre.ej i b hb hp
        . rw[bJ]at h1;simp at h1
        . rintro b ⟨i,hb⟩;exact pre.lim i b hb
        . rw[bJ]at hR;simp at hR
        . rw[bJ]at h1;simp at h1
      obtain⟨g1,H1,Dq,alw,Ln⟩:=RA pre.dY ks 0 a vs _ g0 _ st0 pre.rel rfl (fun k v hk=>by simpa using jL k v hk) (fun u q hq=>by rw[tv]at hq;simp[AV.roots]at hq) hok
        (fun j _ b hb=>⟨j,hb⟩) (by rw[hsz];omega) I3
      refine Ew (np:=vO 0 ks) (H:=Hh) bn dj j4 c n _ _ hcf h _ g1 ⟨tmps,[]⟩ w (Dq.bx (Sub.nil _)) rfl ?_;intro e S' g' a' w' hk st' iJ hfr hdf oB;have fin:((v5 C rs fn.results.toList S').bind fun r=>(outs Hh 0 ks r.2).bind fun o=>some (r.1,o))=some r->∃v,(results fn a'.tmps).run P w'=.ok v w'/\
          ∃val fN Gs Os us,Ending.returned v=.returned val/\T6 w w' Pr Fs ks rs r.1 r.2 vs val fN Gs Os us:=by
        intro hk;simp only[cJ,aK]at hk;obtain⟨⟨rr,S2⟩,hg,o,ho,rfl⟩:=hk;obtain⟨us,g2,H2,Gs,k1,k2,k3,k4,k5,k6,k7,k8,k9,jn⟩:=QG bn rs _ S' g' Nil 0 rr S2 st' hg;have qE:=(Ln.trans iJ).trans k3;obtain⟨g3,H3,Os,q⟩:=Ju (Hh:=Hh) ks 0 vs S2 g2 H2 o k2 ho (fun k v hk hmem=>by
          rw[kz]at hmem;rw[kz,oB k hmem];exact jL k v hk) hlen (by rw[qE.1];exact I3)
        obtain⟨S3,r5⟩:=q.st;have Lo:=qE.trans q.same;have hL:g3.L=tT w.heap.size Fs:=Lo.2.1;have hP0:g3.P0=Pr:=Lo.2.2;have hL1:g1.L=tT w.heap.size Fs:=Ln.2.1;refine⟨tK us,abj k1,tK us,g3.Pr,Gs,Os,us,rfl,?_⟩
        exact {
          res:=lu.mono q.pr rs 0 k5
          val:=rfl
          out:=q.rel
          pr:=by rw[<-hP0];exact r5.p0
          kY:=fun b hb=>by have:=r5.kY b hb;rw[hP0,hL]at this;exact this
          gL:=fun i b hb=>by rw[<-hL];exact r5.e7 b (q.hand b (k7 i b hb))
          oL:=fun i b hb=>by rw[<-hL];exact r5.e7 b (q.sub i b hb)
          zO:=k8
          XC:=q.dY
          go:=fun i j b h1 h2=>q.pU j b h2 (k7 i b h1)
          gp:=fun i b h1 h2=>r5.bK b (q.hand b (k7 i b h1)) h2
          op:=fun i b h1 h2=>r5.bK b (q.sub i b h1) h2
          wD:=fun i b h1=>r5.eg b (q.hand b (k7 i b h1))
          Ah:=fun i b h1=>r5.eg b (q.sub i b h1)
          Aj:=r5.bO
          fr:=by rw[<-hL1];exact hfr }
      cases e with
      | normal=>exact⟨hdf,fin hk⟩
      | ret=>exact⟨hdf,fin hk⟩
      | exit id=>simp at hk
    . simp at h
end
theorem NZ{P:Program}{C:Ctx}(bn:iC P C)(j4:P.follows .mixedOrders=true){E:Den C}{mh:FuncId->Bool}(KL:∀f,mh f=true->Dt P C E f)(Cz:∀f a r,mh f=true->E f a=some r->Jg P f)
  (hnm:∀(f:FuncId)(fn:Func),P.funcs[f]? = some fn->fn.name≠ "runtime.NumGoroutine"):∀n,ot P C (Dn C E mh (fun g=>P.funcs[g]?) n)
 | 0=>⟨fun f a r h=>by simp[Dn]at h,fun f a r h=>by simp[Dn]at h⟩
 | n+1=>by
  have ih:=NZ bn j4 KL Cz hnm n;refine⟨fun f a r h=>?_,fun f a r h=>?_⟩
  .simp only[Dn]at h;by_cases he:mh f=true
   .rw[aj he]at h;exact KL f he a r h
   .rw[af he]at h;split at h
    .simp at h
    .rename_i fn hf;intro w Pr Fs vs pre;exact ajD bn ih j4 hf h pre
  .simp only[Dn]at h;by_cases he:mh f=true
   .rw[aj he]at h;exact Cz f a r he h
   .rw[af he]at h;split at h
    .simp at h
    .rename_i fn hf;refine⟨fn,hf,hnm f fn hf,?_⟩;unfold vq at h;split at h
     .simp at h
     .rename_i c hb;rw[hb];rfl
end Go.V
namespace Go.V
noncomputable section
open Go
def zv:Value->Value->Bool
 | .int k a,.int j b=>decide (k=j)&&decide (a=b)
 | .bool a,.bool b=>decide (a=b)
 | .string a,.string b=>Nat.beq a.size 0&&Nat.beq b.size 0
 | .slice none n k,.slice none n' k'=>Nat.beq n n'&&Nat.beq k k'
 | _,_=>false
def Kc:List Value->List Value->Bool
 | [],[]=>true
 | a::l,b::l'=>zv a b&&Kc l l'
 | _,_=>false
def IU:Value->Value->Bool
 | .agg a,.agg b=>Kc a.toList b.toList
 | a,b=>zv a b
theorem QO{a:ByteArray}(h:Nat.beq a.size 0=true):a=ByteArray.empty:=by have h:=mR h;obtain⟨⟨l⟩⟩:=a;have:l=[]:=lB.1 h;subst this;rfl
theorem NW:∀{a b:Value},zv a b=true->a=b:=by
 intro a b h;unfold zv at h;split at h
 .simp only[bH,gQ]at h;rw[h.1,h.2]
 .simp only[gQ]at h;rw[h]
 .simp only[bH]at h;rw[QO h.1,QO h.2]
 .simp only[bH]at h;rw[mR h.1,mR h.2]
 .simp at h
theorem NR:∀{l l':List Value},Kc l l'=true->l=l'
 | [],[],_=>rfl
 | a::l,b::l',h=>by
  simp only[Kc,bH]at h;rw[NW h.1,NR h.2]
 | [],_::_,h=>by simp[Kc]at h
 | _::_,[],h=>by simp[Kc]at h
theorem aki{a b:Value}(h:IU a b=true):a=b:=by
 unfold IU at h;split at h
 .rename_i x y;have:=NR h;rw[nt this]
 .exact NW h
def Jx(C:Ctx):List Field->Nat->Ty->Bool
 | [],_,.unit=>true
 | f::fs,off,.pair a b=>decide (a=C.ty f.type)&&(Nat.beq f.offset off&&((f.name != "_")&&(a.nz&&Jx C fs (off+a.width) b)))
 | _,_,_=>false
theorem Qs{C:Ctx}:∀(fs:List Field)(off:Nat)(T:Ty),Jx C fs off T=true->mX C fs off T
 | [],off,T,h=>by
  cases T<;>simp[Jx]at h;simp only[mX]
 | f::fs,off,T,h=>by
  cases T with
  | pair a b=>simp only[Jx,bH,gQ,bne_iff_ne,ne_eq]at h;obtain⟨e,h1,h2,h3,h4⟩:=h;subst e;exact⟨b,rfl,mR h1,h2,h3,Qs fs _ b h4⟩
  | _=>simp[Jx]at h
def EV(C:Ctx):TypeDesc->Ty->Bool
 | .int k,T=>decide (T=.int k)
 | .bool,T=>decide (T=.bool)
 | .string,T=>decide (T=.str)
 | .slice e,T=>decide (T=.sl (C.ty e))&&(C.ty e).nz
 | .struct fs,T=>Jx C fs.toList 0 T&&T.nz
 | _,_=>false
theorem acP{C:Ctx}{d:TypeDesc}{T:Ty}(h:EV C d T=true):oN C d T:=by
 cases d<;>simp only[EV,bH,gQ]at h<;>first
  | exact h
  | exact⟨Qs _ _ _ h.1,Ty.kU h.2⟩
  | simp at h
def Fl(P:Program)(C:Ctx)(t:TypeId):Bool:=
  if (C.ty t).nz then
    (match P.info? t with
     | some i=>Nat.beq i.size (C.ty t).width&&((match i.zero with | some z=>IU z (dJ (C.ty t) (zc (C.ty t))) | none=>false)&&Nat.ble i.bytes 255)
     | none=>false)&&
    (Nat.blt 0 (C.ty t).width&&((match P.underlying t with | some d=>EV C d (C.ty t) | none=>false)&&(Nat.blt (C.ty t).deep 10000&&
      (!((C.ty t).agg&&(C.ty t).comp)||(!P.stoodInHeld t&&!P.eqGuardType P.depth t)))))
  else true
theorem adm{P:Program}{C:Ctx}{t:TypeId}(h:Fl P C t=true)(hz:(C.ty t).nz=true):mD P C t:=by
 unfold Fl at h;rw[aj hz]at h;simp only[bH]at h;obtain⟨h1,h2,h3,h4,h5⟩:=h;refine⟨?_,n8.1 h2,?_,n8.1 h4,?_⟩
 .split at h1
  .rename_i i hi;simp only[bH]at h1;obtain⟨k1,k2,k3⟩:=h1;split at k2
   .rename_i z Xy;exact⟨i,hi,mR k1,by rw[Xy,aki k2],rI k3⟩
   .simp at k2
  .simp at h1
 .split at h3
  .rename_i d hd;exact⟨d,hd,acP h3⟩
  .simp at h3
 .intro ha hc;rw[ha,hc]at h5;simp only[FJ,cQ,qV,bH,kr]at h5;exact h5
theorem acu{P:Program}{C:Ctx}(n:Nat)(WR:∀t,Nat.ble t n=false->C.ty t=.unit)(h:(List.range (n+1)).all (Fl P C)=true):iC P C:=by
 intro t hz;cases hb:Nat.ble t n with
 | false=>rw[WR t hb]at hz;simp[Ty.nz]at hz
 | true=>have:=rI hb;rw[CV]at h;exact adm (h t (yh.2 (by omega))) hz
theorem ac3 {P:Program} (h:P.funcs.toList.all (fun fn=>fn.name != "runtime.NumGoroutine")=true):∀(f:FuncId)(fn:Func),P.funcs[f]? = some fn->fn.name≠ "runtime.NumGoroutine" := by
 intro f fn hf;rw[CV]at h;have:=h fn (by rw[Hx];exact EZ hf);simpa using this
end
open Go.V
abbrev eZ:Mk:=Mk.own 0 Mk.no
abbrev yV:Ty:=Ty.int IntKind.u8
abbrev vA:Ty:=Ty.int IntKind.u64
abbrev ag:Ty:=Ty.int IntKind.i64
abbrev mG:Mk:=Mk.own 1048576 Mk.no
abbrev pz:Ty:=Ty.sl yV
abbrev qH:Mk:=Mk.own 0 eZ
abbrev bG:Ty:=Ty.sl ag
abbrev iA:Mk:=Mk.pr eZ Mk.no
abbrev oY:Mk:=Mk.pr Mk.no iA
abbrev lP:Mk:=Mk.pr eZ iA
abbrev sW:Ty:=Ty.pair ag (Ty.pair ag Ty.unit)
abbrev bZ:Ty:=Ty.pair bG (Ty.pair ag Ty.unit)
abbrev iY:Ty:=Ty.sl sW
abbrev mQ:Ty:=Ty.pair ag (Ty.pair bG Ty.unit)
abbrev Af:Mk:=Mk.pr Mk.no (Mk.pr oY iA)
abbrev bW:Ty:=Ty.pair ag sW
abbrev jl:Ty:=Ty.pair pz sW
abbrev bQ:Ty:=Ty.sl bW
abbrev jS:Ty:=Ty.sl bQ
abbrev iL:Ty:=Ty.pair ag bW
abbrev rE:Ty:=Ty.sl iL
abbrev Ae:Mk:=Mk.pr lP (Mk.pr eZ (Mk.pr Mk.no lP))
abbrev lO:Mk:=Mk.pr eZ (Mk.pr (Mk.own 0 (Mk.pr Mk.no (Mk.pr Mk.no (Mk.pr eZ (Mk.pr oY Mk.no))))) Mk.no)
abbrev sv:Mk:=Mk.pr lP (Mk.pr (Mk.own 0 (Mk.no)) (Mk.pr Mk.no (Mk.pr eZ (Mk.pr eZ (Mk.pr Mk.no Mk.no)))))
abbrev mP:Ty:=Ty.pair iY (Ty.pair bG (Ty.pair ag (Ty.pair Ty.bool Ty.unit)))
abbrev rD:Ty:=Ty.pair Ty.bool (Ty.pair mQ (Ty.pair bQ Ty.unit))
abbrev Ly:Mk:=Mk.pr lP (Mk.pr (Mk.own 0 (Mk.pr Mk.no (Mk.pr Mk.no (Mk.pr Mk.no (Mk.pr eZ (Mk.pr Mk.no Mk.no)))))) (Mk.pr Mk.no (Mk.pr eZ (Mk.pr eZ (Mk.pr Mk.no Mk.no)))))
abbrev wm:Ty:=Ty.pair ag (Ty.pair ag (Ty.pair bQ (Ty.pair mQ Ty.unit)))
abbrev Co:Ty:=Ty.sl wm
abbrev TZ:Ty:=Ty.pair ag (Ty.pair bW (Ty.pair ag (Ty.pair ag (Ty.pair ag (Ty.pair mQ Ty.unit)))))
abbrev Kb:Ty:=Ty.sl TZ
abbrev jG:Ty:=Ty.pair bQ (Ty.pair ag (Ty.pair Ty.bool (Ty.pair iY (Ty.pair rE Ty.unit))))
abbrev IT:Ty:=Ty.sl jG
abbrev jX:Ty:=Ty.pair bQ (Ty.pair Co Ty.unit)
abbrev Jb:Mk:=Mk.pr lP (Mk.pr (Mk.own 0 (Mk.pr eZ (Mk.pr Mk.no (Mk.pr Mk.no lP)))) (Mk.pr Mk.no (Mk.pr (Mk.own 0 (Mk.pr Mk.no (Mk.pr Mk.no (Mk.pr Mk.no (Mk.pr Mk.no (Mk.pr Mk.no (Mk.pr oY Mk.no))))))) (Mk.pr eZ (Mk.pr iA Mk.no)))))
abbrev rR:Mk:=Mk.pr lO (Mk.pr (Mk.own 0 (Mk.pr eZ (Mk.pr Mk.no (Mk.pr Mk.no lP)))) (Mk.pr Mk.no (Mk.pr (Mk.own 0 (Mk.pr Mk.no (Mk.pr Mk.no (Mk.pr Mk.no (Mk.pr Mk.no (Mk.pr Mk.no (Mk.pr oY Mk.no))))))) (Mk.pr eZ (Mk.pr iA Mk.no)))))
abbrev cU:Ty:=Ty.pair jX (Ty.pair IT (Ty.pair ag (Ty.pair Kb (Ty.pair bG (Ty.pair bZ Ty.unit)))))
end Go.V
namespace Go.V
open Go
noncomputable def Fk:Nat:=237
noncomputable def akY(n:Nat):Ty:=cond (n.ble Fk) (cond (n.ble 57) (cond (n.ble 27) (cond (n.ble 10) (cond (n.ble 4) (cond (n.ble 2) (cond (n.beq 2) ag Ty.unit) (cond (n.ble 3) (cond (n.beq 3) ag Ty.unit) (cond (n.beq 4) Ty.bool Ty.unit))) (cond (n.ble 6) (cond (n.ble 5) (cond (n.beq 5) yV Ty.unit) (cond (n.beq 6) yV Ty.unit)) (cond (n.ble 9) (cond (n.beq 9) Ty.str Ty.unit) (cond (n.beq 10) Ty.str Ty.unit)))) (cond (n.ble 22) (cond (n.ble 12) (cond (n.ble 11) (cond (n.beq 11) Ty.str Ty.unit) (cond (n.beq 12) vA Ty.unit)) (cond (n.ble 21) (cond (n.beq 21) (Ty.int IntKind.i32) Ty.unit) (cond (n.beq 22) pz Ty.unit))) (cond (n.ble 25) (cond (n.ble 24) (cond (n.beq 24) bG Ty.unit) (cond (n.beq 25) bZ Ty.unit)) (cond (n.ble 26) (cond (n.beq 26) bZ Ty.unit) (cond (n.beq 27) jS Ty.unit))))) (cond (n.ble 36) (cond (n.ble 32) (cond (n.ble 30) (cond (n.beq 30) bQ Ty.unit) (cond (n.ble 31) (cond (n.beq 31) Co Ty.unit) (cond (n.beq 32) jX Ty.unit))) (cond (n.ble 34) (cond (n.ble 33) (cond (n.beq 33) jX Ty.unit) (cond (n.beq 34) IT Ty.unit)) (cond (n.ble 35) (cond (n.beq 35) Kb Ty.unit) (cond (n.beq 36) cU Ty.unit)))) (cond (n.ble 44) (cond (n.ble 42) (cond (n.ble 37) (cond (n.beq 37) cU Ty.unit) (cond (n.beq 42) bQ Ty.unit)) (cond (n.ble 43) (cond (n.beq 43) iY Ty.unit) (cond (n.beq 44) rE Ty.unit))) (cond (n.ble 46) (cond (n.ble 45) (cond (n.beq 45) jG Ty.unit) (cond (n.beq 46) jG Ty.unit)) (cond (n.ble 56) (cond (n.beq 56) bW Ty.unit) (cond (n.beq 57) bW Ty.unit)))))) (cond (n.ble 138) (cond (n.ble 65) (cond (n.ble 60) (cond (n.ble 58) (cond (n.beq 58) mQ Ty.unit) (cond (n.ble 59) (cond (n.beq 59) mQ Ty.unit) (cond (n.beq 60) TZ Ty.unit))) (cond (n.ble 63) (cond (n.ble 61) (cond (n.beq 61) TZ Ty.unit) (cond (n.beq 63) bQ Ty.unit)) (cond (n.ble 64) (cond (n.beq 64) wm Ty.unit) (cond (n.beq 65) wm Ty.unit)))) (cond (n.ble 112) (cond (n.ble 94) (cond (n.ble 93) (cond (n.beq 93) bW Ty.unit) (cond (n.beq 94) bW Ty.unit)) (cond (n.ble 111) (cond (n.beq 111) jl Ty.unit) (cond (n.beq 112) jl Ty.unit))) (cond (n.ble 123) (cond (n.ble 122) (cond (n.beq 122) bW Ty.unit) (cond (n.beq 123) bW Ty.unit)) (cond (n.ble 137) (cond (n.beq 137) sW Ty.unit) (cond (n.beq 138) sW Ty.unit))))) (cond (n.ble 178) (cond (n.ble 147) (cond (n.ble 141) (cond (n.beq 141) iL Ty.unit) (cond (n.ble 142) (cond (n.beq 142) iL Ty.unit) (cond (n.beq 147) vA Ty.unit))) (cond (n.ble 164) (cond (n.ble 163) (cond (n.beq 163) rD Ty.unit) (cond (n.beq 164) rD Ty.unit)) (cond (n.ble 177) (cond (n.beq 177) mP Ty.unit) (cond (n.beq 178) mP Ty.unit)))) (cond (n.ble 214) (cond (n.ble 206) (cond (n.ble 198) (cond (n.beq 198) ag Ty.unit) (cond (n.beq 206) (.int .u32) Ty.unit)) (cond (n.ble 208) (cond (n.beq 208) vA Ty.unit) (cond (n.beq 214) vA Ty.unit))) (cond (n.ble 233) (cond (n.ble 232) (cond (n.beq 232) yV Ty.unit) (cond (n.beq 233) yV Ty.unit)) (cond (n.ble 236) (cond (n.beq 236) (Ty.int IntKind.i32) Ty.unit) (cond (n.beq 237) (Ty.int IntKind.i32) Ty.unit))))))) Ty.unit
noncomputable def aj_(n:Nat):wA:=
 cond (n.ble 107) (cond (n.ble 62) (cond (n.ble 39) (cond (n.ble 21) (cond (n.ble 13) (cond (n.ble 8) (cond (n.ble 7) (⟨[],[]⟩) (⟨[.val pz],[.val Ty.bool (Mk.top Ty.bool)]⟩)) (cond (n.ble 11) (⟨[],[]⟩) (cond (n.ble 12) (⟨[.val pz],[.val Ty.bool (Mk.top Ty.bool)]⟩) (⟨[.val pz],[.val bZ (Mk.no),.val jS (Mk.no),.val bG (Mk.no)]⟩)))) (cond (n.ble 15) (cond (n.ble 14) (⟨[.val bZ,.val jS],[.val cU (Mk.no),.val Ty.bool (Mk.top Ty.bool)]⟩) (⟨[.val bZ,.val jS],[.val cU (Mk.top cU),.val Ty.bool (Mk.top Ty.bool)]⟩)) (cond (n.ble 16) (⟨[.val cU,.val bG],[.val cU (Mk.no)]⟩) (cond (n.ble 17) (⟨[.val jG],[.val Ty.bool (Mk.top Ty.bool)]⟩) (⟨[],[]⟩))))) (cond (n.ble 26) (cond (n.ble 23) (cond (n.ble 22) (⟨[.val cU,.val ag],[.val cU (Mk.no)]⟩) (⟨[.val bQ,.val Co],[.val bG (Mk.top bG)]⟩)) (cond (n.ble 24) (⟨[.val cU],[.val Ty.bool (Mk.top Ty.bool)]⟩) (cond (n.ble 25) (⟨[],[]⟩) (⟨[.val bG],[.val Ty.bool (Mk.top Ty.bool)]⟩)))) (cond (n.ble 33) (cond (n.ble 30) (⟨[],[]⟩) (cond (n.ble 31) (⟨[.val bG],[.val bZ (Mk.top bZ)]⟩) (⟨[.val bG,.val ag],[.val ag (Mk.top ag),.val Ty.bool (Mk.top Ty.bool)]⟩))) (cond (n.ble 34) (⟨[.val bZ,.val ag],[.val ag (Mk.top ag)]⟩) (cond (n.ble 35) (⟨[.val ag],[.val ag (Mk.top ag)]⟩) (⟨[],[]⟩)))))) (cond (n.ble 51) (cond (n.ble 46) (cond (n.ble 43) (cond (n.ble 40) (⟨[.val cU],[.val Ty.bool (Mk.top Ty.bool)]⟩) (⟨[],[]⟩)) (cond (n.ble 44) (⟨[.val pz],[.ptr jl (.no)]⟩) (cond (n.ble 45) (⟨[.cw jl (.no) (.no)],[.val bZ (Mk.top bZ)]⟩) (⟨[.cw jl (.no) (.no)],[.val jS (Mk.top jS)]⟩)))) (cond (n.ble 48) (cond (n.ble 47) (⟨[.cw jl (.no) (.no),.val ag],[.val ag (Mk.top ag)]⟩) (⟨[.val pz,.val ag,.val ag],[.val ag (Mk.top ag)]⟩)) (cond (n.ble 49) (⟨[.val bZ,.val ag],[.val jX lP,.val Ty.bool (Mk.top Ty.bool)]⟩) (cond (n.ble 50) (⟨[.val bZ],[.val bZ (Mk.top bZ)]⟩) (⟨[.val bQ],[.val jG (Mk.top jG)]⟩))))) (cond (n.ble 56) (cond (n.ble 53) (cond (n.ble 52) (⟨[.val bZ,.val ag],[.val jX (Mk.top jX),.val Ty.bool (Mk.top Ty.bool)]⟩) (⟨[.val bZ],[.val bZ (Mk.top bZ)]⟩)) (cond (n.ble 54) (⟨[.val bQ],[.val jG (Mk.top jG)]⟩) (cond (n.ble 55) (⟨[.val cU],[.val Ty.bool (Mk.top Ty.bool)]⟩) (⟨[.val cU],[.val cU Ly]⟩)))) (cond (n.ble 59) (cond (n.ble 57) (⟨[.val cU,.val ag],[.val cU (Mk.no),.val Ty.bool (Mk.top Ty.bool)]⟩) (cond (n.ble 58) (⟨[.val ag,.val ag,.val ag],[.val Ty.bool (Mk.top Ty.bool)]⟩) (⟨[],[]⟩))) (cond (n.ble 60) (⟨[.val bQ,.val Co,.val ag],[.val ag (Mk.top ag)]⟩) (cond (n.ble 61) (⟨[.val IT,.fn],[.val Ty.bool (Mk.top Ty.bool)]⟩) (⟨[.val jG],[.val Ty.bool (Mk.top Ty.bool)]⟩))))))) (cond (n.ble 83) (cond (n.ble 72) (cond (n.ble 67) (cond (n.ble 64) (cond (n.ble 63) (⟨[.val jX],[.val Ty.bool (Mk.top Ty.bool)]⟩) (⟨[.val bQ,.fn],[.val Ty.bool (Mk.top Ty.bool)]⟩)) (cond (n.ble 65) (⟨[],[]⟩) (cond (n.ble 66) (⟨[.val bZ],[.val Ty.bool (Mk.top Ty.bool)]⟩) (⟨[.val bG,.val bG],[.val Ty.bool (Mk.top Ty.bool)]⟩)))) (cond (n.ble 69) (cond (n.ble 68) (⟨[.val bZ],[.val bG (Mk.top bG)]⟩) (⟨[.val bG],[.val bG (Mk.top bG)]⟩)) (cond (n.ble 70) (⟨[],[.val ag (Mk.top ag)]⟩) (cond (n.ble 71) (⟨[.val bZ],[.val Ty.bool (Mk.top Ty.bool)]⟩) (⟨[.val bG,.val ag],[.val ag (Mk.top ag),.val Ty.bool (Mk.top Ty.bool)]⟩))))) (cond (n.ble 77) (cond (n.ble 74) (cond (n.ble 73) (⟨[.val ag],[.val ag (Mk.top ag)]⟩) (⟨[.val bG,.val ag],[.val ag (Mk.top ag)]⟩)) (cond (n.ble 75) (⟨[.val Ty.bool,.val ag],[.val ag (Mk.top ag)]⟩) (cond (n.ble 76) (⟨[.val ag],[.val Ty.bool (Mk.top Ty.bool)]⟩) (⟨[.val ag],[.val ag (Mk.top ag)]⟩)))) (cond (n.ble 80) (cond (n.ble 78) (⟨[],[]⟩) (cond (n.ble 79) (⟨[.val TZ,.val ag,.cj cU],[.val Ty.bool (Mk.top Ty.bool)]⟩) (⟨[.val bW],[.val Ty.bool (Mk.top Ty.bool)]⟩))) (cond (n.ble 81) (⟨[.val jG,.val ag],[.val Ty.bool (Mk.top Ty.bool)]⟩) (cond (n.ble 82) (⟨[.val cU,.val ag],[.val Ty.bool (Mk.top Ty.bool)]⟩) (⟨[.val cU],[.val Ty.bool (Mk.top Ty.bool)]⟩)))))) (cond (n.ble 96) (cond (n.ble 91) (cond (n.ble 85) (cond (n.ble 84) (⟨[],[]⟩) (⟨[.val mQ],[.val mQ (Mk.top mQ)]⟩)) (cond (n.ble 89) (⟨[],[]⟩) (cond (n.ble 90) (⟨[],[.val bZ (Mk.top bZ)]⟩) (⟨[.val bZ,.val ag],[.val ag (Mk.top ag)]⟩)))) (cond (n.ble 93) (cond (n.ble 92) (⟨[.cw jl (.no) (.no),.val bG],[.val ag (Mk.top ag)]⟩) (⟨[.cw jl (.no) (.no)],[.val bW (Mk.top bW)]⟩)) (cond (n.ble 94) (⟨[.cw jl (.no) (.no)],[.val ag (Mk.top ag)]⟩) (cond (n.ble 95) (⟨[.val bQ],[.val bQ (Mk.top bQ)]⟩) (⟨[.val bZ],[.val bG (Mk.top bG)]⟩))))) (cond (n.ble 101) (cond (n.ble 98) (cond (n.ble 97) (⟨[.val ag,.val ag,.val ag],[.val Ty.bool (Mk.top Ty.bool)]⟩) (⟨[.val jX],[.val Ty.bool (Mk.top Ty.bool)]⟩)) (cond (n.ble 99) (⟨[.val bZ],[.val Ty.bool (Mk.top Ty.bool)]⟩) (cond (n.ble 100) (⟨[.val cU],[.val Ty.bool (Mk.top Ty.bool)]⟩) (⟨[.val jG,.val ag],[.val Ty.bool (Mk.top Ty.bool)]⟩)))) (cond (n.ble 104) (cond (n.ble 102) (⟨[.val cU,.val ag],[.val Ty.bool (Mk.top Ty.bool)]⟩) (cond (n.ble 103) (⟨[.val jX],[.val jX lP]⟩) (⟨[.val jG],[.val jG (Mk.top jG)]⟩))) (cond (n.ble 105) (⟨[.cw cU sv sv,.val ag],[]⟩) (cond (n.ble 106) (⟨[.cw cU Ly sv,.val ag],[.val Ty.bool (Mk.top Ty.bool)]⟩) (⟨[.val wm,.val ag],[.val bW (Mk.top bW),.val Ty.bool (Mk.top Ty.bool)]⟩)))))))) (cond (n.ble 162) (cond (n.ble 138) (cond (n.ble 120) (cond (n.ble 113) (cond (n.ble 109) (cond (n.ble 108) (⟨[.val IT,.fn],[.val ag (Mk.top ag)]⟩) (⟨[.val Co,.fn],[.val Ty.bool (Mk.top Ty.bool)]⟩)) (cond (n.ble 111) (⟨[.val wm],[.val Ty.bool (Mk.top Ty.bool)]⟩) (cond (n.ble 112) (⟨[.val bW,.val ag],[.val Ty.bool (Mk.top Ty.bool)]⟩) (⟨[.val bQ,.fn],[.val ag (Mk.top ag)]⟩)))) (cond (n.ble 115) (cond (n.ble 114) (⟨[.val bG,.val ag],[.val Ty.bool (Mk.top Ty.bool)]⟩) (⟨[.val ag],[.val ag (Mk.top ag)]⟩)) (cond (n.ble 117) (⟨[],[]⟩) (cond (n.ble 119) (⟨[.val ag],[.val Ty.bool (Mk.top Ty.bool)]⟩) (⟨[.val bQ,.fn],[.val Ty.bool (Mk.top Ty.bool)]⟩))))) (cond (n.ble 126) (cond (n.ble 122) (cond (n.ble 121) (⟨[.val bW],[.val Ty.bool (Mk.top Ty.bool)]⟩) (⟨[.val iY,.fn],[.val Ty.bool (Mk.top Ty.bool)]⟩)) (cond (n.ble 123) (⟨[.val sW],[.val Ty.bool (Mk.top Ty.bool)]⟩) (cond (n.ble 125) (⟨[.val ag],[.val Ty.bool (Mk.top Ty.bool)]⟩) (⟨[.val rE,.fn],[.val Ty.bool (Mk.top Ty.bool)]⟩)))) (cond (n.ble 133) (cond (n.ble 127) (⟨[.val iL,.cj ag],[.val Ty.bool (Mk.top Ty.bool)]⟩) (cond (n.ble 131) (⟨[],[]⟩) (⟨[.val ag],[.val Ty.bool (Mk.top Ty.bool)]⟩))) (cond (n.ble 136) (⟨[.val ag],[.val ag (Mk.top ag)]⟩) (cond (n.ble 137) (⟨[.val bZ,.val ag],[.val ag (Mk.top ag)]⟩) (⟨[.val ag],[.val ag (Mk.top ag)]⟩)))))) (cond (n.ble 149) (cond (n.ble 143) (cond (n.ble 140) (cond (n.ble 139) (⟨[],[.val ag (Mk.top ag)]⟩) (⟨[.val wm],[.val Ty.bool (Mk.top Ty.bool)]⟩)) (cond (n.ble 141) (⟨[.val bW,.val ag],[.val Ty.bool (Mk.top Ty.bool)]⟩) (cond (n.ble 142) (⟨[.val wm,.val ag],[.val bW (Mk.top bW),.val Ty.bool (Mk.top Ty.bool)]⟩) (⟨[.val ag],[.val Ty.bool (Mk.top Ty.bool)]⟩)))) (cond (n.ble 145) (cond (n.ble 144) (⟨[.val cU,.val TZ],[.val Ty.bool (Mk.top Ty.bool)]⟩) (⟨[.val Ty.bool],[.val ag (Mk.top ag)]⟩)) (cond (n.ble 146) (⟨[.val bW],[.val Ty.bool (Mk.top Ty.bool)]⟩) (cond (n.ble 147) (⟨[.val cU,.val ag],[.val ag (Mk.top ag)]⟩) (⟨[.val bQ],[.val bQ (Mk.top bQ)]⟩))))) (cond (n.ble 155) (cond (n.ble 151) (cond (n.ble 150) (⟨[.val iY],[.val iY (Mk.top iY)]⟩) (⟨[.val rE],[.val rE (Mk.top rE)]⟩)) (cond (n.ble 152) (⟨[.val jG],[.val iL (Mk.top iL),.val Ty.bool (Mk.top Ty.bool)]⟩) (cond (n.ble 153) (⟨[.val jX,.val iL],[.val jX lP,.val iL (Mk.top iL),.val iL (Mk.top iL),.val ag (Mk.top ag)]⟩) (⟨[.val jG,.val iL],[.val jG (Mk.top jG)]⟩)))) (cond (n.ble 159) (cond (n.ble 156) (⟨[.val jG],[.val jG (Mk.top jG)]⟩) (cond (n.ble 158) (⟨[.cw cU sv sv,.val ag,.val mQ],[]⟩) (⟨[.val bW,.val iY],[.val ag (Mk.top ag)]⟩))) (cond (n.ble 160) (⟨[.val bW,.val iY],[.val rD (Mk.top rD),.val Ty.bool (Mk.top Ty.bool)]⟩) (cond (n.ble 161) (⟨[.val jX,.val ag,.val bQ,.val mQ],[.val jX lP,.val iL (Mk.top iL),.val Ty.bool (Mk.top Ty.bool)]⟩) (⟨[.val Co,.fn],[.val ag (Mk.top ag)]⟩))))))) (cond (n.ble 183) (cond (n.ble 172) (cond (n.ble 167) (cond (n.ble 164) (cond (n.ble 163) (⟨[.val bQ,.fn],[.val ag (Mk.top ag)]⟩) (⟨[.val iY,.fn],[.val ag (Mk.top ag)]⟩)) (cond (n.ble 165) (⟨[.val rE,.fn],[.val ag (Mk.top ag)]⟩) (cond (n.ble 166) (⟨[.val ag],[.val Ty.bool (Mk.top Ty.bool)]⟩) (⟨[.val ag],[.val ag (Mk.top ag)]⟩)))) (cond (n.ble 169) (cond (n.ble 168) (⟨[.cw jX lP lP,.val iL],[.val iL (Mk.top iL),.val iL (Mk.top iL),.val ag (Mk.top ag)]⟩) (⟨[.cw cU sv sv,.val ag],[.val ag (Mk.top ag)]⟩)) (cond (n.ble 170) (⟨[.val bW,.val iY],[.ptr mP (.pr .no (.pr (.own 0 .no) .no))]⟩) (cond (n.ble 171) (⟨[.val bW,.val iY],[.val mQ (Mk.top mQ),.val Ty.bool (Mk.top Ty.bool)]⟩) (⟨[.val iY,.val ag],[.val ag (Mk.top ag),.val Ty.bool (Mk.top Ty.bool)]⟩))))) (cond (n.ble 177) (cond (n.ble 174) (cond (n.ble 173) (⟨[.val ag],[.val ag (Mk.top ag)]⟩) (⟨[.val bW,.val iY,.val ag,.val ag],[.val bQ (Mk.top bQ)]⟩)) (cond (n.ble 175) (⟨[.cN bG (Mk.top bG) (Mk.top bG)],[]⟩) (cond (n.ble 176) (⟨[.val bW,.val ag,.val ag,.val ag,.val ag],[.val ag (Mk.top ag)]⟩) (⟨[.val bW,.cj ag],[.val Ty.bool (Mk.top Ty.bool)]⟩)))) (cond (n.ble 180) (cond (n.ble 178) (⟨[.cw mP (.pr .no (.pr (.own 0 .no) .no)) (.pr .no (.pr (.own 0 .no) .no)),.val bW],[]⟩) (cond (n.ble 179) (⟨[.cw mP (.pr .no (.pr (.own 0 .no) .no)) (.pr .no (.pr (.own 0 .no) .no)),.val ag],[.val ag (Mk.top ag)]⟩) (⟨[.cw mP (.pr .no (.pr (.own 0 .no) .no)) (.pr .no (.pr (.own 0 .no) .no)),.val Ty.bool],[]⟩))) (cond (n.ble 181) (⟨[.val ag,.val ag,.val ag,.cj iY,.cw bQ (Mk.top bQ) (Mk.top bQ)],[]⟩) (cond (n.ble 182) (⟨[.cN bQ (Mk.top bQ) (Mk.top bQ),.fn],[]⟩) (⟨[.val bW,.val bW],[.val ag (Mk.top ag)]⟩)))))) (cond (n.ble 196) (cond (n.ble 190) (cond (n.ble 185) (cond (n.ble 184) (⟨[.cN bG (Mk.top bG) (Mk.top bG),.val ag,.val ag,.val ag],[]⟩) (⟨[.val vA],[.val ag (Mk.top ag)]⟩)) (cond (n.ble 186) (⟨[.cw mP (.pr .no (.pr (.own 0 .no) .no)) (.pr .no (.pr (.own 0 .no) .no)),.val ag,.val bG],[]⟩) (cond (n.ble 187) (⟨[.cN bQ (Mk.top bQ) (Mk.top bQ),.val ag,.val ag,.val ag,.fn],[]⟩) (⟨[.cN bG (Mk.top bG) (Mk.top bG),.val ag,.val ag],[]⟩)))) (cond (n.ble 193) (cond (n.ble 191) (⟨[.val bG,.val ag,.val ag],[.val ag (Mk.top ag),.val ag (Mk.top ag)]⟩) (cond (n.ble 192) (⟨[.cN bG (Mk.top bG) (Mk.top bG),.val ag,.val ag],[]⟩) (⟨[.cN bG (Mk.top bG) (Mk.top bG),.val ag,.val ag],[.val Ty.bool (Mk.top Ty.bool)]⟩))) (cond (n.ble 194) (⟨[.val ag,.val ag],[.val Ty.bool (Mk.top Ty.bool)]⟩) (cond (n.ble 195) (⟨[.cN bG (Mk.top bG) (Mk.top bG),.val ag,.val ag,.val ag],[.val ag (Mk.top ag)]⟩) (⟨[.cN bG (Mk.top bG) (Mk.top bG),.val ag,.val ag,.val ag],[.val ag (Mk.top ag),.val Ty.bool (Mk.top Ty.bool)]⟩))))) (cond (n.ble 203) (cond (n.ble 198) (cond (n.ble 197) (⟨[],[]⟩) (⟨[.val vA],[.val ag (Mk.top ag)]⟩)) (cond (n.ble 201) (⟨[.cN bQ (Mk.top bQ) (Mk.top bQ),.val ag,.val ag,.fn],[]⟩) (cond (n.ble 202) (⟨[.val bQ,.val ag,.val ag,.fn],[.val ag (Mk.top ag),.val ag (Mk.top ag)]⟩) (⟨[.cN bQ (Mk.top bQ) (Mk.top bQ),.val ag,.val ag,.fn],[]⟩)))) (cond (n.ble 206) (cond (n.ble 204) (⟨[.cN bQ (Mk.top bQ) (Mk.top bQ),.val ag,.val ag,.fn],[.val Ty.bool (Mk.top Ty.bool)]⟩) (cond (n.ble 205) (⟨[.cN bQ (Mk.top bQ) (Mk.top bQ),.val ag,.val ag,.val ag,.fn],[.val ag (Mk.top ag)]⟩) (⟨[.cN bQ (Mk.top bQ) (Mk.top bQ),.val ag,.val ag,.val ag,.fn],[.val ag (Mk.top ag),.val Ty.bool (Mk.top Ty.bool)]⟩))) (cond (n.ble 211) (⟨[],[]⟩) (cond (n.ble 212) (⟨[.val ag],[.val Ty.bool (Mk.top Ty.bool)]⟩) (⟨[],[]⟩))))))))
noncomputable def ajl(n:Nat):Hints:=
 cond (n.ble 96) (cond (n.ble 52) (cond (n.ble 23) (cond (n.ble 14) (cond (n.ble 8) (cond (n.ble 7) ({}) ({ keep:=[(12,[10,11,12,13],[2,10,12],[]),(21,[10,12,18],[2],[])] })) (cond (n.ble 12) ({}) (cond (n.ble 13) ({ keep:=[(7,[2,5,6,7,8,9,10],[2,6,7,8],[]),(11,[2,5,6,7,8,9,10,11,12],[2,5,6,7,8,9,10],[])] }) ({ keep:=[(4,[4,7,8,22,23,24],[4,7,8],[])] })))) (cond (n.ble 16) (cond (n.ble 15) ({ keep:=[(4,[1,4,7,8,9],[4,7,8],[])] }) ({ keep:=[(5,[2,4,13,14,15],[2,4],[])],share:=[(1,2)] })) (cond (n.ble 21) ({}) (cond (n.ble 22) ({ keep:=[(3,[1,2,4,5],[2,4],[]),(7,[1,2,4,5,6,28,29],[1,2,4,5,6],[])],share:=[(1,2)] }) ({ keep:=[(3,[0,1,5,9,10],[5],[])] }))))) (cond (n.ble 45) (cond (n.ble 40) (cond (n.ble 39) ({}) ({ keep:=[(6,[1,3,4,44,45,46],[1,2,3],[]),(12,[1,3,88,89,90],[1,2],[])] })) (cond (n.ble 43) ({}) (cond (n.ble 44) ({ keep:=[(3,[0,3,4],[0,3],[])] }) ({ keep:=[(3,[0,2,3,4],[0,2,3],[0])],share:=[(8,1)] })))) (cond (n.ble 48) (cond (n.ble 46) ({ keep:=[(3,[0,3,4],[0,3],[0]),(7,[0,3,4,5,6],[0,3,4,5],[0])] }) ({})) (cond (n.ble 49) ({ keep:=[(5,[4,6,17,18,19],[4,6],[])] }) (cond (n.ble 51) ({}) ({ keep:=[(4,[1,4,6,7,8],[1,4,6],[])] })))))) (cond (n.ble 73) (cond (n.ble 63) (cond (n.ble 55) (cond (n.ble 54) ({}) ({ keep:=[(4,[1,3],[2],[])] })) (cond (n.ble 56) ({ keep:=[(3,[1,2,3,21,22,23],[1,2,3],[]),(8,[2,3,36,37,38],[2,3],[])] }) (cond (n.ble 62) ({}) ({ keep:=[(4,[1,25,26,27],[2],[])] })))) (cond (n.ble 66) (cond (n.ble 65) ({}) ({ keep:=[(2,[1,6,7,8],[1,2],[])] })) (cond (n.ble 67) ({ keep:=[(4,[0,1,12,13],[4],[])] }) (cond (n.ble 68) ({ keep:=[(6,[1,3,15,16,17],[1,3],[])] }) ({}))))) (cond (n.ble 90) (cond (n.ble 81) (cond (n.ble 74) ({ keep:=[(2,[0,1,7,8],[4],[])] }) ({})) (cond (n.ble 82) ({ keep:=[(6,[1,2,5,6,7,8,17,18,19],[2,5,6,7,8],[])] }) (cond (n.ble 83) ({ keep:=[(3,[1,3,9,10,11],[1,3],[]),(9,[1,3,22,23,24],[1,2,3],[])] }) ({})))) (cond (n.ble 92) (cond (n.ble 91) ({ keep:=[(2,[1,2,5],[4],[])] }) ({})) (cond (n.ble 93) ({ share:=[(1,1)] }) (cond (n.ble 95) ({}) ({ keep:=[(5,[1,3,4],[1,3],[]),(14,[1,3,6],[1,3],[])] }))))))) (cond (n.ble 146) (cond (n.ble 107) (cond (n.ble 101) (cond (n.ble 98) (cond (n.ble 97) ({}) ({ keep:=[(4,[1,3],[1,2],[]),(9,[1,4],[2],[])] })) (cond (n.ble 99) ({ keep:=[(2,[1,3],[1,2],[])] }) (cond (n.ble 100) ({ keep:=[(3,[1,3,4],[1,2,3],[]),(9,[1,3,5],[1,2,3],[]),(15,[1,3,5,6,7],[1,2,3,5],[])] }) ({ keep:=[(4,[1,2,5],[1,2,4],[]),(9,[1,2,6],[1,2,4],[]),(14,[1,2,7],[4],[])] })))) (cond (n.ble 103) (cond (n.ble 102) ({ keep:=[(5,[1,2,5,6,7,8],[2,4,5,6,7],[])] }) ({ keep:=[(3,[2,3,11,12,13],[2,3],[])] })) (cond (n.ble 105) ({}) (cond (n.ble 106) ({ share:=[(9,9),(9,10),(10,10)] }) ({ keep:=[(2,[1,4,9,10,11],[4,5],[])] }))))) (cond (n.ble 113) (cond (n.ble 110) (cond (n.ble 108) ({ keep:=[(2,[0,1,7,8],[4],[])] }) ({})) (cond (n.ble 111) ({ keep:=[(4,[1,31,32,33],[1,2],[])] }) (cond (n.ble 112) ({}) ({ keep:=[(2,[0,1,7,8],[4],[])] })))) (cond (n.ble 137) (cond (n.ble 136) ({}) ({ keep:=[(3,[1,2,5,6],[5],[])] })) (cond (n.ble 139) ({}) (cond (n.ble 140) ({ keep:=[(6,[1,3],[2],[])] }) ({})))))) (cond (n.ble 170) (cond (n.ble 160) (cond (n.ble 156) (cond (n.ble 147) ({ keep:=[(2,[1,2,5],[4],[])] }) ({})) (cond (n.ble 157) ({ keep:=[(100005,[0,1],[0],[0])] }) (cond (n.ble 159) ({}) ({ keep:=[(18,[1,2,4,9,11,13,95,96,97],[1,2,4,13],[])] })))) (cond (n.ble 165) (cond (n.ble 161) ({}) ({ keep:=[(2,[0,1,7,8],[4],[])] })) (cond (n.ble 168) ({}) (cond (n.ble 169) ({ keep:=[(2,[0,1,5],[0,4],[0])] }) ({ keep:=[(15,[5,45],[5],[])] }))))) (cond (n.ble 185) (cond (n.ble 172) (cond (n.ble 171) ({}) ({ keep:=[(2,[0,1,6],[4,5],[])] })) (cond (n.ble 183) ({}) (cond (n.ble 184) ({ keep:=[(2,[0,1,2,3,8,9],[0],[0])] }) ({})))) (cond (n.ble 188) (cond (n.ble 186) ({ keep:=[(3,[0,18,19,20],[0],[0])] }) (cond (n.ble 187) ({ keep:=[(2,[0,1,2,3,4,10,11],[0],[0])] }) ({ keep:=[(1,[0,1,2,6],[0],[0]),(4,[0,1,2,6,7],[0,1,2,6],[0])] }))) (cond (n.ble 198) ({}) (cond (n.ble 199) ({ keep:=[(1,[0,1,2,3,8],[0],[0]),(4,[0,1,2,3,8,9],[0,1,2,3,8],[0])] }) ({})))))))
open Go.Proofs in
noncomputable def vS(n:Nat):Option Func:=
 cond (n.ble 107) (cond (n.ble 61) (cond (n.ble 35) (cond (n.ble 21) (cond (n.ble 13) (cond (n.ble 8) (cond (n.ble 7) (none) (some Tryz.f8)) (cond (n.ble 11) (none) (cond (n.ble 12) (some Tryz.f12) (some Tryz.f13)))) (cond (n.ble 15) (cond (n.ble 14) (some Tryz.f14) (some Tryz.f15)) (cond (n.ble 16) (some Tryz.f16) (cond (n.ble 17) (some Tryz.f17) (none))))) (cond (n.ble 26) (cond (n.ble 23) (cond (n.ble 22) (some Tryz.f22) (some Tryz.f23)) (cond (n.ble 24) (some Tryz.f24) (cond (n.ble 25) (none) (some Tryz.f26)))) (cond (n.ble 32) (cond (n.ble 30) (none) (cond (n.ble 31) (some Tryz.f31) (some Tryz.f32))) (cond (n.ble 33) (some Tryz.f33) (cond (n.ble 34) (some Tryz.f34) (some Tryz.f35)))))) (cond (n.ble 50) (cond (n.ble 45) (cond (n.ble 40) (cond (n.ble 39) (none) (some Tryz.f40)) (cond (n.ble 43) (none) (cond (n.ble 44) (some Tryz.f44) (some Tryz.f45)))) (cond (n.ble 47) (cond (n.ble 46) (some Tryz.f46) (some Tryz.f47)) (cond (n.ble 48) (some Tryz.f48) (cond (n.ble 49) (some Tryz.f49) (some Tryz.f50))))) (cond (n.ble 55) (cond (n.ble 52) (cond (n.ble 51) (some Tryz.f51) (some Tryz.f52)) (cond (n.ble 53) (some Tryz.f53) (cond (n.ble 54) (some Tryz.f54) (some Tryz.f55)))) (cond (n.ble 58) (cond (n.ble 56) (some Tryz.f56) (cond (n.ble 57) (some Tryz.f57) (some Tryz.f58))) (cond (n.ble 59) (none) (cond (n.ble 60) (some Tryz.f60) (some Tryz.f61))))))) (cond (n.ble 82) (cond (n.ble 71) (cond (n.ble 66) (cond (n.ble 63) (cond (n.ble 62) (some Tryz.f62) (some Tryz.f63)) (cond (n.ble 64) (some Tryz.f64) (cond (n.ble 65) (none) (some Tryz.f66)))) (cond (n.ble 68) (cond (n.ble 67) (some Tryz.f67) (some Tryz.f68)) (cond (n.ble 69) (some Tryz.f69) (cond (n.ble 70) (some Tryz.f70) (some Tryz.f71))))) (cond (n.ble 76) (cond (n.ble 73) (cond (n.ble 72) (some Tryz.f72) (some Tryz.f73)) (cond (n.ble 74) (some Tryz.f74) (cond (n.ble 75) (some Tryz.f75) (some Tryz.f76)))) (cond (n.ble 79) (cond (n.ble 77) (some Tryz.f77) (cond (n.ble 78) (none) (some Tryz.f79))) (cond (n.ble 80) (some Tryz.f80) (cond (n.ble 81) (some Tryz.f81) (some Tryz.f82)))))) (cond (n.ble 96) (cond (n.ble 90) (cond (n.ble 84) (cond (n.ble 83) (some Tryz.f83) (none)) (cond (n.ble 85) (some Tryz.f85) (cond (n.ble 89) (none) (some Tryz.f90)))) (cond (n.ble 93) (cond (n.ble 91) (some Tryz.f91) (cond (n.ble 92) (some Tryz.f92) (some Tryz.f93))) (cond (n.ble 94) (some Tryz.f94) (cond (n.ble 95) (some Tryz.f95) (some Tryz.f96))))) (cond (n.ble 101) (cond (n.ble 98) (cond (n.ble 97) (some Tryz.f97) (some Tryz.f98)) (cond (n.ble 99) (some Tryz.f99) (cond (n.ble 100) (some Tryz.f100) (some Tryz.f101)))) (cond (n.ble 104) (cond (n.ble 102) (some Tryz.f102) (cond (n.ble 103) (some Tryz.f103) (some Tryz.f104))) (cond (n.ble 105) (some Tryz.f105) (cond (n.ble 106) (some Tryz.f106) (some Tryz.f107)))))))) (cond (n.ble 153) (cond (n.ble 132) (cond (n.ble 118) (cond (n.ble 112) (cond (n.ble 109) (cond (n.ble 108) (some Tryz.f108) (some Tryz.f109)) (cond (n.ble 110) (some Tryz.f110) (cond (n.ble 111) (some Tryz.f111) (some Tryz.f112)))) (cond (n.ble 114) (cond (n.ble 113) (some Tryz.f113) (some Tryz.f114)) (cond (n.ble 115) (some Tryz.f115) (cond (n.ble 117) (none) (some Tryz.f118))))) (cond (n.ble 123) (cond (n.ble 120) (cond (n.ble 119) (some Tryz.f119) (some Tryz.f120)) (cond (n.ble 121) (some Tryz.f121) (cond (n.ble 122) (some Tryz.f122) (some Tryz.f123)))) (cond (n.ble 126) (cond (n.ble 124) (some Tryz.f124) (cond (n.ble 125) (some Tryz.f125) (some Tryz.f126))) (cond (n.ble 127) (some Tryz.f127) (cond (n.ble 131) (none) (some Tryz.f132)))))) (cond (n.ble 142) (cond (n.ble 137) (cond (n.ble 134) (cond (n.ble 133) (some Tryz.f133) (some Tryz.f134)) (cond (n.ble 135) (some Tryz.f135) (cond (n.ble 136) (some Tryz.f136) (some Tryz.f137)))) (cond (n.ble 139) (cond (n.ble 138) (some Tryz.f138) (some Tryz.f139)) (cond (n.ble 140) (some Tryz.f140) (cond (n.ble 141) (some Tryz.f141) (none))))) (cond (n.ble 147) (cond (n.ble 144) (cond (n.ble 143) (some Tryz.f143) (none)) (cond (n.ble 145) (some Tryz.f145) (cond (n.ble 146) (some Tryz.f146) (some Tryz.f147)))) (cond (n.ble 150) (cond (n.ble 148) (some Tryz.f148) (cond (n.ble 149) (some Tryz.f149) (some Tryz.f150))) (cond (n.ble 151) (some Tryz.f151) (cond (n.ble 152) (some Tryz.f152) (some Tryz.f153))))))) (cond (n.ble 174) (cond (n.ble 163) (cond (n.ble 158) (cond (n.ble 155) (cond (n.ble 154) (some Tryz.f154) (some Tryz.f155)) (cond (n.ble 156) (some Tryz.f156) (cond (n.ble 157) (some Tryz.f157) (some Tryz.f158)))) (cond (n.ble 160) (cond (n.ble 159) (some Tryz.f159) (some Tryz.f160)) (cond (n.ble 161) (some Tryz.f161) (cond (n.ble 162) (some Tryz.f162) (some Tryz.f163))))) (cond (n.ble 168) (cond (n.ble 165) (cond (n.ble 164) (some Tryz.f164) (some Tryz.f165)) (cond (n.ble 166) (some Tryz.f166) (cond (n.ble 167) (some Tryz.f167) (some Tryz.f168)))) (cond (n.ble 171) (cond (n.ble 169) (some Tryz.f169) (cond (n.ble 170) (some Tryz.f170) (some Tryz.f171))) (cond (n.ble 172) (some Tryz.f172) (cond (n.ble 173) (some Tryz.f173) (some Tryz.f174)))))) (cond (n.ble 185) (cond (n.ble 179) (cond (n.ble 176) (cond (n.ble 175) (some Tryz.f175) (some Tryz.f176)) (cond (n.ble 177) (some Tryz.f177) (cond (n.ble 178) (some Tryz.f178) (some Tryz.f179)))) (cond (n.ble 182) (cond (n.ble 180) (some Tryz.f180) (cond (n.ble 181) (some Tryz.f181) (some Tryz.f182))) (cond (n.ble 183) (some Tryz.f183) (cond (n.ble 184) (some Tryz.f184) (some Tryz.f185))))) (cond (n.ble 194) (cond (n.ble 187) (cond (n.ble 186) (some Tryz.f186) (some Tryz.f187)) (cond (n.ble 188) (some Tryz.f188) (cond (n.ble 193) (none) (some Tryz.f194)))) (cond (n.ble 199) (cond (n.ble 197) (none) (cond (n.ble 198) (some Tryz.f198) (some Tryz.f199))) (cond (n.ble 211) (none) (cond (n.ble 212) (some Tryz.f212) (none))))))))
noncomputable def ctx:Ctx:=⟨akY,aj_,ajl⟩
open Go.Proofs
theorem N2:iC Tryz.prog ctx:=acu Fk (fun t h=>by show cond (Nat.ble t Fk) _ _=_;rw[h];rfl) (by kernel_rfl)
theorem akS:Tryz.prog.follows .mixedOrders=true:=by kernel_rfl
theorem aj3:∀(f:FuncId)(fn:Func),Tryz.prog.funcs[f]? = some fn->fn.name≠ "runtime.NumGoroutine" := ac3 (by kernel_rfl)
end Go.V
namespace Go.V
noncomputable section
open Go
def Wf:(t:Ty)->t.den->Prop
 | .unit,_=>True
 | .int k,n=>(Lit.int k n).wf=true
 | .bool,_=>True
 | .str,s=>s.size<=maxLen
 | .sl t,xs=>xs.length<=maxLen/\∀x∈xs,Wf t x
 | .pair a b,x=>Wf a x.1/\Wf b x.2
section
variable {H:Type} {enc:TypeId×Value->H} {P:Program} {C:Ctx} {w:World} {sp:Nat->Bool} {held:Bool}
def Old(w:World):BS:=fun b=>b<w.heap.size
theorem mD.cellsOf{t:TypeId}(k:mD P C t):P.cellsOf t=(C.ty t).width:=by obtain⟨i,h1,h2,_⟩:=k.info;simp[Program.cellsOf,h1,h2]
theorem PM(bn:iC P C){n:Nat}(ih:∀(t:TypeId)(cs:List Value)(z:DataW H×List MemPlace),(C.ty t).nz=true->DataW.trod enc P w 0 sp held n t cs=some z->
   ∃x:(C.ty t).den,Wf (C.ty t) x/\az w.heap (Old w) (C.ty t) .no x cs Nil) {cs:List Value} :
  ∀(fs:List Field)(off:Nat)(T:Ty),mX C fs off T->(∀f∈fs,∃z,DataW.trod enc P w 0 sp held n f.type ((cs.drop f.offset).take (P.cellsOf f.type))=some z)->cs.length=off+T.width->
   ∃x:T.den,Wf T x/\az w.heap (Old w) T .no x (cs.drop off) Nil
 | [],off,T,hs,_,hl=>by
  simp only[mX]at hs;subst hs;simp only[Ty.width,qS]at hl;exact⟨(),trivial,by simp only[az];exact vD (by omega)⟩
 | f::fs,off,T,hs,hf,hl=>by
  obtain⟨b,rfl,ho,_,hnz,hs⟩:=hs;obtain⟨z,hz⟩:=hf f (eW ..);obtain⟨x,wx,rx⟩:=ih _ _ z hnz hz;rw[(bn _ hnz).cellsOf,ho]at rx;simp only[Ty.width]at hl;obtain⟨y,wy,ry⟩:=PM bn ih fs (off+(C.ty f.type).width) b hs (fun g hg=>hf g (cB _ hg)) (by omega);refine⟨(x,y),⟨wx,wy⟩,?_⟩;simp only[az];refine⟨_,_,Nil,Nil,?_,rx,ry,Sub.nil _,Sub.nil _,cv.nil _⟩;rw[<-qU,rJ]
theorem acy(bn:iC P C):∀(n:Nat)(t:TypeId)(cs:List Value)(z:DataW H×List MemPlace),(C.ty t).nz=true->DataW.trod enc P w 0 sp held n t cs=some z->
   ∃x:(C.ty t).den,Wf (C.ty t) x/\az w.heap (Old w) (C.ty t) .no x cs Nil:=by
 intro n
 induction n with
 | zero=>intro t cs z _ h;simp[DataW.trod]at h
 | succ n ih=>
  intro t cs z hnz h;have k:=bn t hnz;obtain⟨d,hd,jd⟩:=k.desc;cases d with
  | int kd=>simp only[oN]at jd;obtain⟨m,rfl,_,hw⟩:=DataW.trod_int hd h;rw[jd];exact⟨m,hw,by simp only[az]⟩
  | bool=>
   simp only[oN]at jd;rw[jd];have:∃b,cs=[.bool b]:=by unfold DataW.trod at h;rw[hd]at h;split at h<;>simp_all
   obtain⟨b,rfl⟩:=this;exact⟨b,trivial,by simp only[az]⟩
  | string=>simp only[oN]at jd;obtain⟨s,rfl,_,hw⟩:=DataW.trod_string hd h;rw[jd];exact⟨s,hw,by simp only[az]⟩
  | struct fs=>
   simp only[oN]at jd;obtain⟨xs,m,e,_,hl,hlen,hf⟩:=DataW.trod_struct hd h;obtain rfl:n=m:=by omega
   rw[k.cellsOf]at hl;have:=PM (cs:=cs) bn ih fs.toList 0 (C.ty t) jd.1 (fun f hf'=>by
    obtain⟨i,hi,e⟩:=mT.1 hf';rw[iM]at hi;have h1:=hf i f (by rw[<-e];simp[hi]);exact⟨xs[i],by rw[h1];simp⟩) (by omega)
   simpa using this
  | slice e=>
   simp only[oN]at jd;obtain⟨he,KZ⟩:=jd;have ke:=bn e KZ;rw[he];rcases DataW.trod_slice hd h with⟨rfl,_⟩ | ⟨a,len,cap,elems,rest,m,e1,rfl,_,_,hlc,hcm,hel,ef,_⟩
   .exact⟨[],⟨fF _,fun x hx=>by simp at hx⟩,by simp only[az];exact⟨none,0,by simp,by simp,fun h=>absurd rfl h⟩⟩
   .obtain rfl:n=m:=by omega
    rw[ke.cellsOf]at ef;have hpos:=ke.pos;have key:∀i,i<len->∃(x:(C.ty e).den)(cs:List Value),Wf (C.ty e) x/\az w.heap (Old w) (C.ty e) .no x cs Nil/\cs.length=(C.ty e).width/\∀j,j<(C.ty e).width->w.cell? ((a.add (i * (C.ty e).width)).add j)=cs[j]?:=by intro i hi;have h1:=ef i hi;rw[gP (by omega)]at h1;rw[cJ]at h1;obtain⟨cs,h2,h3⟩:=h1;obtain⟨x,wx,rx⟩:=ih _ _ _ KZ h3;obtain⟨_,hl,hc⟩:=World.cells?_some h2;exact⟨x,cs,wx,rx,hl,hc⟩
    by_cases h0:len=0
    .subst h0;exact⟨[],⟨fF _,fun x hx=>by simp at hx⟩,by simp only[az];exact⟨some a,cap,by simp,by simp,fun h=>absurd rfl h⟩⟩
    .have hz:(C.ty e).den:=(C.ty e).zero;have Xz:∀i,∃(x:(C.ty e).den),i<len->∃(cs:List Value),Wf (C.ty e) x/\az w.heap (Old w) (C.ty e) .no x cs Nil/\cs.length=(C.ty e).width/\∀j,j<(C.ty e).width->w.cell? ((a.add (i * (C.ty e).width)).add j)=cs[j]?:=by
      intro i;by_cases hi:i<len
      .obtain⟨x,h⟩:=key i hi;exact⟨x,fun _=>h⟩
      .exact⟨hz,fun h=>absurd h hi⟩
     obtain⟨f,hf⟩:=sX Xz;refine⟨(List.range len).map f,⟨by simp;omega,?_⟩,?_⟩
     .intro x hx;simp only[eH,yh]at hx;obtain⟨i,hi,rfl⟩:=hx;obtain⟨_,h,_⟩:=hf i hi;exact h
     .have hb:∃cells ty fr,w.heap[a.block]? = some (.cells cells ty fr)/\a.spot=none:=by
       obtain⟨cs,_,_,hl,hc⟩:=hf 0 (by omega);have h1:=hc 0 hpos;rw[gP (by omega)]at h1;simp only[Nat.zero_mul,Addr.add,aY]at h1;unfold World.cell? at h1;split at h1
       .rename_i c ty fr hh;split at h1
        .simp at h1
        .rename_i hs;exact⟨c,ty,fr,hh,by simpa using hs⟩
       .simp at h1
      obtain⟨cells,ty,fr,hh,CK⟩:=hb;obtain⟨ab,ao,as'⟩:=a;simp only at CK hh;subst CK;have hcell:∀i,i<len->∀j,j<(C.ty e).width->w.cell? (((⟨ab,ao,none⟩:Addr).add (i * (C.ty e).width)).add j)=cells[ao+i * (C.ty e).width+j]?:=by
       intro i hi j hj;have:((⟨ab,ao,none⟩:Addr).add (i * (C.ty e).width)).add j=⟨ab,ao+i * (C.ty e).width+j,none⟩:=by simp only[Addr.add];split<;>split<;>simp_all
       rw[this];simp[World.cell?,hh]
      have hsub:∀i,i<len->∀cs:List Value,cs.length=(C.ty e).width->(∀j,j<(C.ty e).width->w.cell? (((⟨ab,ao,none⟩:Addr).add (i * (C.ty e).width)).add j)=cs[j]?)->
        sub cells (ao+i * (C.ty e).width) (C.ty e).width=cs/\ao+i * (C.ty e).width+(C.ty e).width<=cells.size:=by
       intro i hi cs hl hc;have h2:∀j,j<(C.ty e).width->cells[ao+i * (C.ty e).width+j]? = cs[j]?:=fun j hj=>by rw[<-hcell i hi j hj];exact hc j hj
       have h3:ao+i * (C.ty e).width+(C.ty e).width<=cells.size:=by have:=h2 ((C.ty e).width-1) (by omega);rw[gP (by omega)]at this;have:=(rG.1 this).1;omega
       refine⟨?_,h3⟩;apply rL;intro j;simp only[sub,gj,iE];split
       .rename_i hj;rw[xO];exact h2 j hj
       .rename_i hj;rw[pF (by omega)]
      simp only[az];refine⟨some ⟨ab,ao,none⟩,cap,by simp,by simpa using hlc,fun _=>⟨ab,ao,cells,rfl,?_,⟨ty,fr,hh⟩,?_,?_⟩⟩
      .exact(rG.1 hh).1
      .obtain⟨cs,_,_,hl,hc⟩:=hf (len-1) (by omega);have:=(hsub (len-1) (by omega) cs hl hc).2;have e2:len * (C.ty e).width=(len-1) * (C.ty e).width+(C.ty e).width:=by rw[show len=(len-1)+1 by omega,jA];simp
       simp only[jz,Fh];omega
      .intro i hi;simp only[jz,Fh]at hi;obtain⟨cs,wx,rx,hl,hc⟩:=hf i hi;have e3:((List.range len).map f).getD i (C.ty e).zero=f i:=by simp[List.getD,hi]
       rw[e3,(hsub i hi cs hl hc).1];exact rx
  | _=>simp[oN]at jd
theorem akD{t:TypeId}(k:mD P C t){r:Reach}{b0:Nat}{v:Value}(hval:Value.okWide P w r b0 t v):v=dJ (C.ty t) v.cells.toList:=by
 obtain⟨d,hd,jd⟩:=k.desc;cases d with
 | int kd=>simp only[oN]at jd;obtain⟨n,rfl⟩:=Go.WideShapes.okWide_int hd hval;rw[jd];simp[dJ,Ty.agg,Value.cells]
 | bool=>simp only[oN]at jd;obtain⟨n,rfl⟩:=Go.WideShapes.okWide_bool hd hval;rw[jd];simp[dJ,Ty.agg,Value.cells]
 | string=>simp only[oN]at jd;obtain⟨n,rfl⟩:=Go.WideShapes.okWide_string hd hval;rw[jd];simp[dJ,Ty.agg,Value.cells]
 | struct fs=>
  simp only[oN]at jd;obtain⟨cs,rfl,_⟩:=Go.WideShapes.okWide_struct hd hval;have:(C.ty t).agg=true:=by
   generalize hfl:fs.toList=l at jd;cases l with
   | nil=>exact absurd jd.1 jd.2
   | cons f l=>obtain⟨⟨b,e,_⟩,_⟩:=jd;rw[e];rfl
  simp[dJ,this,Value.cells]
 | slice e=>simp only[oN]at jd;obtain⟨a,l,c,rfl⟩:=Go.WideShapes.okWide_slice hd hval;rw[jd.1];simp[dJ,Ty.agg,Value.cells]
 | _=>simp[oN]at jd
def zJ:List TypeId->List PK->Ctx->Prop
 | [],[],_=>True
 | t::ts,.val T::ks,C=>T=C.ty t/\(C.ty t).nz=true/\zJ ts ks C
 | _,_,_=>False
def BI:(ks:List PK)->gb ks->Prop
 | [],_=>True
 | .val t::ks,a=>Wf t a.1/\BI ks a.2
 | _::ks,a=>BI ks a.2
theorem RU(bn:iC P C){b0:Nat}:∀(ts:List TypeId)(ks:List PK)(vs:List Value)(ds:List (DataW H))(ps:List MemPlace)(i:Nat),zJ ts ks C->DataW.TrodAll enc P w 0 sp held ts vs ds ps->
  (∀(j:Nat) t v,ts[j]? = some t->vs[j]? = some v->Value.okWide P w .any b0 t v)->∃a:gb ks,BI ks a/\yI w.heap (Old w) (fun _=>Nil) i ks a vs
 | [],[],vs,ds,ps,i,_,h,_=>by
  obtain⟨rfl,_,_⟩:=Go.ChangeShapes.trodAll_nil h;exact⟨(),trivial,rfl⟩
 | t::ts,.val T::ks,vs,ds,ps,i,hv,h,hok=>by
  obtain⟨rfl,hnz,hv⟩:=hv;obtain⟨v,vs',d,ds',p,q,rfl,rfl,rfl,⟨n,h1⟩,h2⟩:=Go.ChangeShapes.trodAll_cons h;obtain⟨x,wx,rx⟩:=acy bn n t _ _ hnz h1;obtain⟨a,wa,ra⟩:=RU bn ts ks vs' ds' q (i+1) hv h2 (fun j t' v' ht Aa=>hok (j+1) t' v' (by simpa using ht) (by simpa using Aa));exact⟨(x,a),⟨wx,wa⟩,v,vs',rfl,⟨_,rx,akD (bn t hnz) (hok 0 t v rfl rfl)⟩,ra⟩
 | [],_::_,_,_,_,_,hv,_,_=>by simp[zJ]at hv
 | _::_,[],_,_,_,_,hv,_,_=>by simp[zJ]at hv
 | _::_,.own _ _::_,_,_,_,_,hv,_,_=>by simp[zJ]at hv
 | _::_,.cw _ _ _::_,_,_,_,_,hv,_,_=>by simp[zJ]at hv
 | _::_,.cN _ _ _::_,_,_,_,_,hv,_,_=>by simp[zJ]at hv
 | _::_,.cj _::_,_,_,_,_,hv,_,_=>by simp[zJ]at hv
 | _::_,.fn::_,_,_,_,_,hv,_,_=>by simp[zJ]at hv
theorem ajW{n b:Nat}(h:tT n (fun _=>Nil) b):n<=b:=h.elim id (fun⟨_,h⟩=>h.elim)
theorem ab_{W W':World}(h:kI (tT W.heap.size fun _=>Nil) W W'):Go.RowKit.Below W.heap.size W W':=
 ⟨h.os,h.tape,h.output,h.size,fun k hk=>h.block k hk fun hm=>by have:=ajW hm;omega⟩
end
end
end Go.V
namespace Go.V
noncomputable section
open Go
section
variable (C:Ctx) (D:Den C) {R:Type}
def xU(body:St->(Ex->St->Option R)->Option R)(canon fJ:St->St):Nat->St->(Ex->St->Option R)->Option R
 | 0,_,_=>none
 | n+1,S,k=>body S fun e S=>match e with
  | .normal=>xU body canon fJ n (canon S) k
  | e=>k e (fJ S)
theorem Sf(body:St->(Ex->St->Option R)->Option R)(canon fJ:St->St)(k:Ex->St->Option R):∀(n:Nat)(S:St),sE body canon fJ n S k=xU body canon fJ n (canon S) k
 | 0,_=>rfl
 | n+1,S=>by
  simp only[sE,xU];congr 1;funext e S;cases e with
  | normal=>exact Sf body canon fJ k n S
  | exit id=>rfl
  | ret=>rfl
noncomputable def mZ(H:Hints)(n:Nat):Code->St->(Ex->St->Option R)->Option R
 | .skip,S,k=>k .normal S
 | .region id ops dr,S,k=>
  if Mb ops then
   yE C D H id ops (ops.size+1) (nu ops) S [] fun lg S=>
    if dr then (if Ev ops&&Dk (Region.before ops) lg lg&&IJ (Region.before ops) ops (nu ops) then k .normal S else none) else k .normal S
  else none
 | .seq a b,S,k=>mZ H n a S fun e S=>match e with
  | .normal=>mZ H n b (r_ H b S) k
  | e=>k e S
 | .cond c a b,S,k=>
  match asBool (ev S c) with
  | some t=>br t (mZ H n a S k) (mZ H n b S k)
  | none=>none
 | .block id b,S,k=>mZ H n b S fun e S=>match e with
  | .exit j=>if j=id then k .normal S else k (.exit j) S
  | e=>k e S
 | .loop b,S,k=>
  match H.keep.lookup (B7 b) with
  | some kp=>xU (mZ H n b) (St.canon kp.1 kp.2.2) (St.canon kp.2.1 kp.2.2) n (St.canon kp.1 kp.2.2 S) k
  | none=>none
 | .exit id,S,k=>k (.exit id) S
 | .ret,S,k=>k .ret S
 | _,_,_=>none
theorem ajg(H:Hints)(n:Nat):∀(c:Code),(exec C D H n c:St->(Ex->St->Option R)->Option R)=mZ C D H n c:=by
 intro c
 induction c with
 | seq a b fQ kR=>funext S k;simp only[exec,mZ,fQ,kR];rfl
 | cond c a b fQ kR=>funext S k;simp only[exec,mZ,fQ,kR];rfl
 | block id b ih=>funext S k;simp only[exec,mZ,ih];rfl
 | loop b ih=>funext S k;simp only[exec,mZ,ih,Sf];rfl
 | _=>funext S k;simp only[exec,mZ]
inductive mC where
 | l | r
def tI:Code->List mC->Code
 | c,[]=>c
 | .seq a _,.l::p=>tI a p
 | .seq _ b,.r::p=>tI b p
 | .cond _ a _,.l::p=>tI a p
 | .cond _ _ b,.r::p=>tI b p
 | .block _ b,.l::p=>tI b p
 | .loop b,.l::p=>tI b p
 | _,_=>.skip
noncomputable def uA(H:Hints)(n:Nat):Nat->Code->St->(St->Option R)->(Ex->St->Option R)->Option R
 | 0,_,S,K,_=>K S
 | m+1,.seq a b,S,K,k=>mZ C D H n a S fun e S=>match e with
  | .normal=>uA H n m b (r_ H b S) K k
  | e=>k e S
 | _+1,_,_,_,_=>none
def Cj:Nat->Code->Bool
 | 0,_=>true
 | m+1,.seq _ b=>Cj m b
 | _+1,_=>false
theorem aaU(c:Code):tI c []=c:=by cases c<;>rfl
theorem QA(H:Hints)(n:Nat)(k:Ex->St->Option R):∀(m:Nat)(c:Code)(S:St),Cj m c=true->
  uA C D H n m c S (fun S'=>mZ C D H n (tI c (List.replicate m .r)) S' k) k=mZ C D H n c S k
 | 0,c,S,_=>by simp only[uA,List.replicate,aaU]
 | m+1,c,S,h=>by
  cases c with
  | seq a b=>
   simp only[uA,mZ];congr 1;funext e S';cases e with
   | normal=>exact QA H n k m b (r_ H b S') h
   | exit id=>rfl
   | ret=>rfl
  | _=>simp[Cj]at h
theorem acR(H:Hints)(n m:Nat)(k:Ex->St->Option R)(c:Code)(q:List mC)(S:St)(hq:q=List.replicate m .r)(h:Cj m c=true) :
  uA C D H n m c S (fun S'=>mZ C D H n (tI c q) S' k) k=mZ C D H n c S k:=by
 subst hq;exact QA C D H n k m _ S h
noncomputable def uz(H:Hints)(n:Nat):Code->List mC->(Ex->St->Option R)->Ex->St->Option R
 | _,[],k=>k
 | .seq a b,.l::p,k=>uz H n a p fun e S=>match e with
  | .normal=>mZ C D H n b (r_ H b S) k
  | e=>k e S
 | .seq _ b,.r::p,k=>uz H n b p k
 | .cond _ a _,.l::p,k=>uz H n a p k
 | .cond _ _ b,.r::p,k=>uz H n b p k
 | .block id b,.l::p,k=>uz H n b p fun e S=>match e with
  | .exit j=>if j=id then k .normal S else k (.exit j) S
  | e=>k e S
 | _,_,_=>fun _ _=>none
end
def xS{α:Type}(d:α):Nat->Nat->List (Nat×α)->List α
 | _,0,_=>[]
 | i,n+1,[]=>d::xS d (i+1) n []
 | i,n+1,(j,v)::l=>cond (Nat.beq i j) (v::xS d (i+1) n l) (d::xS d (i+1) n ((j,v)::l))
def bu(n:Nat)(sl:List (Nat×AV))(rt:List (Nat×aB)):St:=⟨xS .undef 0 n sl,xS none 0 n (rt.map fun x=>(x.1,some x.2))⟩
section
variable {C:Ctx} (func:FuncId->Option Func) (D:Den C) (n:Nat)
def Cg(f:FuncId):Code:=
 match func f with
 | some fn=>fn.body.getD .skip
 | none=>.skip
def NU(f:FuncId):List ResultVar:=
 match func f with
 | some fn=>fn.results.toList
 | none=>[]
def ES(f:FuncId):Nat:=
 match func f with
 | some fn=>fn.ntmps
 | none=>0
abbrev Out(C:Ctx)(f:FuncId):Type:=f5 (C.sig f).res×dy (C.sig f).params
noncomputable def BJ(f:FuncId):Ex->St->Option (Out C f):=fun e S=>
 match e with
 | .exit _=>none
 | _=>(v5 C (C.sig f).res (NU func f) S).bind fun r=>(outs (C.hints f) 0 (C.sig f).params r.2).bind fun o=>some (r.1,o)
noncomputable def Ka(f:FuncId)(a:gb (C.sig f).params):Option (Out C f):=
 match func f with
 | none=>none
 | some fn=>
  if fn.body.isSome&&((C.sig f).params.all PK.fZ&&(Nat.ble (C.sig f).params.length fn.ntmps&&sJ (vO 0 (C.sig f).params) (Cg func f))) then
   mZ C D (C.hints f) n (Cg func f) (enter ⟨List.replicate fn.ntmps .undef,List.replicate fn.ntmps none⟩ 0 (C.sig f).params a) (BJ func f)
  else none
def runs(f:FuncId):Bool:=
 match func f with
 | none=>false
 | some fn=>fn.body.isSome&&((C.sig f).params.all PK.fZ&&(Nat.ble (C.sig f).params.length fn.ntmps&&sJ (vO 0 (C.sig f).params) (Cg func f)))
def HP(f:FuncId)(a:gb (C.sig f).params):St:=enter ⟨List.replicate (ES func f) .undef,List.replicate (ES func f) none⟩ 0 (C.sig f).params a
theorem ade(f:FuncId)(a:gb (C.sig f).params)(h:runs (C:=C) func f=true) :
  Ka func D n f a=mZ C D (C.hints f) n (Cg func f) (HP func f a) (BJ func f):=by
 unfold runs at h;unfold Ka HP ES;split at h
 .simp at h
 .rename_i fn hf;simp only[hf];rw[aj h]
noncomputable def LQ(f:FuncId)(p:List mC)(m:Nat)(S:St)(K:Ex->St->Option (Out C f)):Option (Out C f):=
 match tI (Cg func f) p with
 | .loop b=>
  match (C.hints f).keep.lookup (B7 b) with
  | some kp=>xU (mZ C D (C.hints f) n b) (St.canon kp.1 kp.2.2) (St.canon kp.2.1 kp.2.2) m S K
  | none=>none
 | _=>none
noncomputable def LK(f:FuncId)(p:List mC)(m:Nat)(K:Ex->St->Option (Out C f)):Ex->St->Option (Out C f):=fun e S=>
 match tI (Cg func f) p with
 | .loop b=>
  match (C.hints f).keep.lookup (B7 b) with
  | some kp=>match e with
   | .normal=>LQ func D n f p m (St.canon kp.1 kp.2.2 S) K
   | e=>K e (St.canon kp.2.1 kp.2.2 S)
  | none=>none
 | _=>none
noncomputable def CQ(f:FuncId)(p q:List mC)(K:Ex->St->Option (Out C f)):Ex->St->Option (Out C f):=
 uz C D (C.hints f) n (tI (Cg func f) p) q K
theorem uU(f:FuncId)(p:List mC)(S:St)(K:Ex->St->Option (Out C f)):LQ func D n f p 0 S K=none:=by
 unfold LQ;split
 .split<;>rfl
 .rfl
theorem ajC(f:FuncId)(a:gb (C.sig f).params):(match func f with
  | none=>none
  | some fn=>vq C D n fn (C.hints f) (C.sig f).params (C.sig f).res a)=Ka func D n f a:=by
 unfold Ka;split
 .rfl
 .rename_i fn hf;unfold vq Cg BJ NU;rw[hf];simp only;cases fn.body with
  | none=>simp
  | some c=>simp only[Option.isSome_some,qW,uF,ajg];rfl
end
end
end Go.V
namespace Go.V
noncomputable section
open Go Go.Proofs Go.RowKit Go.ChangeShapes
structure Ext where
 den:Den ctx
 is:FuncId->Bool
 ok:∀f,is f=true->Dt Tryz.prog ctx den f
 call:∀f a r,is f=true->den f a=some r->Jg Tryz.prog f
noncomputable def DD(X:Ext)(n:Nat):Den ctx:=Dn ctx X.den X.is (fun g=>Tryz.prog.funcs[g]?) n
theorem akd(X:Ext)(n:Nat):ot Tryz.prog ctx (DD X n):=NZ N2 akS X.ok X.call aj3 n
theorem ajm(X:Ext){g:FuncId}{fn:Func}(hf:Tryz.prog.funcs[g]? = some fn)(ht:vS g=some fn)(hx:X.is g=false)(n:Nat)(a:gb (ctx.sig g).params) :
  DD X (n+1) g a=Ka vS (DD X n) n g a:=by
 have:=ajC vS (DD X n) n g a;rw[ht]at this;rw[<-this];unfold DD;simp only[Dn,hx,e8,dV,hf]
def xV:Ext:=⟨fun _ _=>none,fun _=>false,fun _ h=>by simp at h,fun _ _ _ h=>by simp at h⟩
section
variable {H:Type} {enc:TypeId×Value->H} {P:Program}
theorem O7(hl:laidOutB P=true){W W':World}(hb:Below W.heap.size W W'):∀{ts:List TypeId}{vs:List Value}{ds:List (DataW H)}{ps:List MemPlace},
  ts.all (fun t=>P.readableRec t&&Nat.blt t P.types.size)=true->DataW.TrodAll enc P W 0 (fun _=>true) true ts vs ds ps->(∀x∈ps,x.block<W.heap.size)->
  DataW.TrodAll enc P W' 0 (fun b=>decide (b<W.heap.size)) true ts vs ds ps
 | [],_,_,_,_,h,_=>by
  obtain⟨rfl,rfl,rfl⟩:=trodAll_nil h;exact trodAll_mk0
 | t::ts,_,_,_,ht,h,hlt=>by
  obtain⟨v,vs1,d,ds1,a,b,rfl,rfl,rfl,h1,h2⟩:=trodAll_cons h;simp only[gT,bH]at ht;exact⟨a,b,Below.trod hl ht.1.1 (n8.1 ht.1.2) h1 hb (fun x hx=>hlt x (by simp[hx])),O7 hl hb ht.2 h2 (fun x hx=>hlt x (by simp[hx])),rfl⟩
end
theorem laid:laidOutB Tryz.prog=true:=by kernel_rfl
theorem acz:ownKnob Tryz.prog.godebug=none:=by kernel_rfl
theorem abZ{H:Type}{enc:TypeId×Value->H}{X:Ext}{f:FuncId}{fn:Func}{s:ChangeSpec}{conds:List PathCond}{tb:TypeId}{os:Os}(started:os.Started)
  (hfn:Tryz.prog.funcs[f]? = some fn) (KO:Tryz.prog.inits.idxOf? f=none)
  (witness:∃(w:World)(tape:Tape)(i:Input),w.os=os/\(w.forCall tape i).Shaped Tryz.prog/\i.vars=[]/\Input.okWide Tryz.prog (w.forCall tape i) .any w.heap.size f i/\
   s.pre6 enc Tryz.prog fn conds false (w.forCall tape i).memory i.args/\Assume.holds {} Tryz.prog (lone (Frame.enter Tryz.prog f i.args .normal) [] (w.forCall tape i)))
  (hps:zJ fn.params.toList (ctx.sig f).params ctx) (hrd:fn.params.toList.all (fun t=>Tryz.prog.readableRec t&&Nat.blt t Tryz.prog.types.size)=true)
  (hres:fn.resultTypes = #[tb]) (htb:Tryz.prog.underlying tb=some .bool) (hvars:s.vars=[])
  (Lq:∀ds:List (DataW H),ds.length=fn.params.size->(s.fn H ds).results=[.lit (.bool true)]/\(s.fn H ds).args=ds/\(s.fn H ds).vars=[])
  (WM:∀a,BI (ctx.sig f).params a->∃n r,DD X n f a=some r/\∀h Pr Gs us,lu h Pr Gs 0 (ctx.sig f).res r.1 us->us=[.bool true]) :
  ReturnsInHanded {} Tryz.checked os f .any (s.pre6 enc Tryz.prog fn conds false) (s.post enc Tryz.prog fn false true false false):=by
 refine returnsInHanded_of_change_sized (C:=Tryz.checked) acz started KO hfn witness ?_;intro W base args ds gs before hval hW nX hsz _;have hW':=hW;have hlt:=hW.lt;obtain⟨p,q,hA,hV,rfl,hfz,Up⟩:=hW;rw[hvars]at hV;obtain⟨rfl,rfl⟩:=trodVars_none hV;obtain⟨a,wa,ra⟩:=RU N2 fn.params.toList (ctx.sig f).params args.toList ds p 0 hps hA (fun j t v ht hv=>hval j t v (by simpa using ht) (by simpa using hv));obtain⟨n,r,hr,hb⟩:=WM a wa;have pre:Pre W.heap (Old W) (fun _=>Nil) (ctx.sig f).params a args.toList:=
  ⟨ra,fun _ _ _=>cv.nil _,fun _=>cv.nil _,fun _ b hb=>hb.elim,fun b hb=>hb⟩
 have hc:=(akd X n).ok f a r hr W (Old W) (fun _=>Nil) args.toList pre;rw[pG]at hc;refine hc.mono ?_;rintro e W' ⟨val,fN,Gs,Os,us,rfl,ps⟩;obtain rfl:=hb _ _ _ _ ps.res;have hv:=ps.val;simp only[tK]at hv;subst hv;have bel:=ab_ ps.fr;obtain⟨e1,e2,e3⟩:=Lq (ds++[]) (by rw[gR,(trodAll_length hA).2,iM]);refine⟨_,rfl,ds,[],p++[],[],p,[],hW',?_,?_,?_,bel.frame _,fun h=>by cases h⟩
 .rw[e1,hres];exact trodAll_mk1 (shut_bool htb _)
 .rw[e2,gR];exact O7 laid bel hrd hA (fun x hx=>hlt x (by simp[hx]))
 .rw[e3,hvars];rfl
end
end Go.V

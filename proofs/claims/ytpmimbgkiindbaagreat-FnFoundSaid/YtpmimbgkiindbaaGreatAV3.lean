import Derived.Orders
import Derived.Test.YtpmimbgkiindbaaGreatProg
import Derived.KernelRfl
import Derived.WalkKit
import Derived.ProofKit
import Derived.OpenShut
import Derived.Below
import Derived.ChangeOld
import Derived.SizedLaws
import Derived.Test.YtpmimbgkiindbaaGreatRows
import Derived.Carry
import Derived.ChangeCalls
import Derived.Test.YtpmimbgkiindbaaGreatAV2
set_option maxRecDepth 100000
set_option linter.unusedVariables false
set_option linter.unusedSimpArgs false
set_option linter.unusedSectionVars false
namespace Go.V
noncomputable section
open Go
theorem Ql(look:Nat->Nat)(i:Nat):∀(l:List Edge)(s:Nat),(l.foldl (fun s e=>if Region.binds .any e then s |||2 ^ e.on |||look e.on else s) s).testBit i=true->
  s.testBit i=true\/∃e∈l,Region.binds .any e=true/\(e.on=i\/(look e.on).testBit i=true)
 | [],s,h=>.inl h
 | e::l,s,h=>by
  rw[mA]at h;rcases Ql look i l _ h with h | ⟨e',he,hh⟩
  .by_cases hb:Region.binds .any e=true
   .rw[aj hb,Nat.testBit_or,Nat.testBit_or,Nat.testBit_two_pow]at h;simp only[jg,gI]at h;rcases h with(h | h) | h
    .exact .inl h
    .exact .inr ⟨e,bO,hb,.inl h⟩
    .exact .inr ⟨e,bO,hb,.inr h⟩
   .rw[af hb]at h;exact .inl h
  .exact .inr ⟨e',cD _ he,hh⟩
def Ms(acc:Array Nat)(l:List Oper):Prop:=acc.size=l.length/\∀j i,(acc.getD j 0).testBit i=true->∃o,l[j]? = some o/\∃e∈o.after,Region.binds .any e=true/\(e.on=i\/(e.on<j/\(acc.getD e.on 0).testBit i=true))
theorem Mc:∀(l:List Oper)(acc:Array Nat)(d:List Oper),Ms acc d->
  Ms (l.foldl (fun acc o=>acc.push (o.after.foldl (fun s e=>if Region.binds .any e then s |||2 ^ e.on |||acc.getD e.on 0 else s) 0)) acc) (d++l)
 | [],acc,d,h=>by simpa using h
 | o::l,acc,d,h=>by
  rw[mA];have e:d++o::l=(d++[o])++l:=by simp
  rw[e];refine Mc l _ _ ⟨by simp[h.1],fun j i hb=>?_⟩;have hs:=h.1;have gd:∀q(v:Nat),(acc.push v).getD q 0=if q=acc.size then v else acc.getD q 0:=by intro q v;simp only[oX,Bn];split<;>rfl
  rw[gd]at hb;by_cases hj:j=acc.size
  .rw[aj hj,<-Eo]at hb;rcases Ql (fun n=>acc.getD n 0) i _ _ hb with h0 | ⟨e',he,hbd,hh⟩
   .simp at h0
   .refine⟨o,by rw[hj,hs];simp,e',by simpa using he,hbd,?_⟩;rcases hh with hh | hh
    .exact .inl hh
    .have hlt:e'.on<acc.size:=by
      rcases Ah e'.on acc.size with h | h
      .exact h
      .simp[oX,Ew h]at hh
     refine .inr ⟨by omega,?_⟩;rw[gd,af (by omega)];exact hh
  .rw[af hj]at hb;obtain⟨o',ho',e',he,hbd,hh⟩:=h.2 j i hb;have hlt:j<d.length:=(LO.1 ho').1;refine⟨o',by rw[jd hlt];exact ho',e',he,hbd,hh.imp id fun hh=>⟨hh.1,?_⟩⟩;rw[gd,af (by omega)];exact hh.2
theorem Pf(ops:Array Oper){j i:Nat}(h:((Region.before ops).getD j 0).testBit i=true) :
  ∃o,ops[j]? = some o/\∃e∈o.after,Region.binds .any e=true/\(e.on=i\/(e.on<j/\((Region.before ops).getD e.on 0).testBit i=true)):=by
 have:=Mc ops.toList #[] [] ⟨rfl,fun j i hb=>by simp at hb⟩;unfold Region.before at h⊢;rw[<-Eo]at h⊢;obtain⟨o,ho,hh⟩:=this.2 j i h;exact⟨o,by simpa using ho,hh⟩
theorem aas{ops:Array Oper}(he:DU ops=true):∀(j i:Nat),((Region.before ops).getD j 0).testBit i=true->i<j:=by
 intro j
 induction j using Nat.strongRecOn with
 | _ j ih=>
  intro i h;obtain⟨o,ho,e,hm,hb,hh⟩:=Pf ops h;have hlt:e.on<j:=by
   simp only[DU,qC]at he;have hx:(j,o)∈m9 ops:=by simp only[m9,eE];exact⟨(o,j),GY.2 (by simpa using ho),rfl⟩
   have:=he (j,o) hx;rw[P1]at this;have:=this e hm;rw[hb]at this;simpa [nU] using this
  rcases hh with rfl | ⟨_,hh⟩
  .exact hlt
  .exact Nat.lt_trans (ih e.on hlt i hh) hlt
def Down(ops:Array Oper)(listed:Array Bool):Prop:=∀(j:Nat) o,ops[j]? = some o->listed.getD j false=true->∀e∈o.after,Region.binds .any e=true->listed.getD e.on false=true
theorem ahj{ops:Array Oper}{listed:Array Bool}(hd:Down ops listed):∀(j i:Nat),((Region.before ops).getD j 0).testBit i=true->
  (∀o,ops[j]? = some o->∀e∈o.after,Region.binds .any e=true->listed.getD e.on false=true)->listed.getD i false=true:=by
 intro j
 induction j using Nat.strongRecOn with
 | _ j ih=>
  intro i h hl;obtain⟨o,ho,e,hm,hb,hh⟩:=Pf ops h;have h1:=hl o ho e hm hb;rcases hh with rfl | ⟨hlt,hh⟩
  .exact h1
  .exact ih e.on hlt i hh fun o' ho'=>hd e.on o' ho' h1
theorem jo.tN(e f:jo):e.free f=f.free e:=by
 unfold jo.free;cases e.wr<;>cases f.wr
 .rfl
 .rfl
 .rfl
 .rename_i w w';simp only;cases e.lc<;>cases f.lc<;>cases iO w f.rd<;>cases iO w w'<;>cases iO w' e.rd<;>cases iO w' w<;>cases e.st.contains f.site<;>cases f.st.contains e.site<;>rfl
theorem OG{M:Array Nat}{e:jo}:∀{l:Log},AQ M e l=true->∀f∈l,e.i=f.i\/uO M e.i f.i=true\/e.free f=true
 | [],_,f,hf=>by simp at hf
 | g::l,h,f,hf=>by
  simp only[AQ,bC,jg]at h;rcases bk.1 hf with rfl | hf
  .rcases h.1 with(h | h) | h
   .exact .inl (kO h)
   .exact .inr (.inl h)
   .exact .inr (.inr h)
  .exact OG h.2 f hf
theorem Fq{M:Array Nat}{all:Log}:∀{l:Log},CX M all l=true->∀e∈l,e.wr≠none->∀f∈all,e.i=f.i\/uO M e.i f.i=true\/e.free f=true
 | [],_,e,he=>by simp at he
 | g::l,h,e,he=>by
  simp only[CX,bC]at h;intro hw;rcases bk.1 he with rfl | he
  .have:=h.1;cases mE:e.wr with
   | none=>exact absurd mE hw
   | some W=>rw[mE]at this;exact OG this
  .exact Fq h.2 e he hw
theorem aiJ(M:Array Nat)(i j:Nat):uO M i j=uO M j i:=by simp[uO,Bool.or_comm]
theorem aiW{M:Array Nat}{LG:Log}(h:CX M LG LG=true){e f:jo}(he:e∈LG)(hf:f∈LG)(hne:e.i≠f.i)(ho:uO M e.i f.i=false):e.free f=true:=by
 cases mE:e.wr with
 | some W=>
  rcases Fq h e he (by rw[mE];simp) f hf with h | h | h
  .exact absurd h hne
  .rw[ho]at h;simp at h
  .exact h
 | none=>
  cases hwf:f.wr with
  | none=>simp[jo.free,mE,hwf]
  | some W=>
   rcases Fq h f hf (by rw[hwf];simp) e he with h | h | h
   .exact absurd h.symm hne
   .rw[aiJ,ho]at h;simp at h
   .rw[jo.tN];exact h
theorem Ok{M:Array Nat}{ops:Array Oper}{i:Nat}{x:Oper}:∀{l:List (Nat×Oper)},Av M ops i x l=true->∀y∈l,uO M i y.1=true\/Hu ops i y.1 x y.2=true
 | [],_,y,hy=>by simp at hy
 | (j,z)::l,h,y,hy=>by
  simp only[Av,bC,jg]at h;rcases bk.1 hy with rfl | hy
  .exact h.1
  .exact Ok h.2 y hy
theorem Oj{M:Array Nat}{ops:Array Oper}:∀{l:List (Nat×Oper)},HE M ops l=true->l.Pairwise fun x y=>uO M x.1 y.1=true\/Hu ops x.1 y.1 x.2 y.2=true
 | [],_=>List.Pairwise.nil
 | (i,x)::l,h=>by
  simp only[HE,bC]at h;exact List.Pairwise.cons (fun y hy=>Ok h.1 y hy) (Oj h.2)
section
variable (C:Ctx) (D:Den C) (hints:Hints) (id:Nat) (ops:Array Oper)
noncomputable def iT(β:Nat->Bool):List (Nat×Oper)->St->Option (St×Log)
 | [],S=>some (S,[])
 | (i,o)::l,S=>(gQ C D hints id ops (β i) S i o).bind fun x=>(iT β l x.1).map fun y=>(y.1,x.2::y.2)
end
section
variable {C:Ctx} {D:Den C} {hints:Hints} {id:Nat} {ops:Array Oper}
theorem Ld{β:Nat->Bool}:∀(l:List (Nat×Oper))(S:St),iT C D hints id ops β l S=eI C D hints id ops (l.map fun x=>β x.1) l S
 | [],S=>rfl
 | (i,o)::l,S=>by
  simp only[iT,eI,cm,sj,Gj];congr 1;funext x;rw[Ld l x.1]
theorem FM{β:Nat->Bool}{i:Nat}{o:Oper}{l:List (Nat×Oper)}{S S':St}{lg:Log}(h:iT C D hints id ops β ((i,o)::l) S=some (S',lg)) :
  ∃S1 e gA,gQ C D hints id ops (β i) S i o=some (S1,e)/\iT C D hints id ops β l S1=some (S',gA)/\lg=e::gA:=by
 simp only[iT,cJ,fj,a_]at h;obtain⟨⟨S1,e⟩,hs,⟨S2,H_⟩,hr,rfl,rfl⟩:=h;exact⟨S1,e,H_,hs,hr,rfl⟩
theorem Le{β:Nat->Bool}{i:Nat}{o:Oper}{l:List (Nat×Oper)}{S S1 S':St}{e:jo}{gA:Log}(hs:gQ C D hints id ops (β i) S i o=some (S1,e))(hr:iT C D hints id ops β l S1=some (S',gA)) :
  iT C D hints id ops β ((i,o)::l) S=some (S',e::gA):=by
 simp only[iT,hs,dn,hr,dV]
theorem OR{β β':Nat->Bool}:∀(l:List (Nat×Oper))(S:St),(∀x∈l,β' x.1=β x.1)->iT C D hints id ops β' l S=iT C D hints id ops β l S
 | [],S,_=>rfl
 | (i,o)::l,S,h=>by
  simp only[iT];have:=h (i,o) bO;simp only at this;rw[this];congr 1;funext x;rw[OR l x.1 fun y hy=>h y (cD _ hy)]
theorem OS{β:Nat->Bool}{j:Nat}{y:Oper}{post:List (Nat×Oper)}:∀(pre:List (Nat×Oper))(S S':St)(lg:Log),iT C D hints id ops β (pre++(j,y)::post) S=some (S',lg)->
  (∀x∈pre,Hu ops x.1 j x.2 y=true)->(∀ex∈lg,∀ey∈lg,(∃x∈pre,ex.i=x.1)->ey.i=j->ex.free ey=true)->
  ∃DH,iT C D hints id ops β ((j,y)::(pre++post)) S=some (S',DH)/\∀e∈DH,e∈lg
 | [],S,S',lg,h,_,_=>⟨lg,h,fun e he=>he⟩
 | (i,x)::pre,S,S',lg,h,hap,hfr=>by
  rw[fJ]at h;obtain⟨S1,ex,gA,h1,h2,rfl⟩:=FM h;obtain⟨H_,k1,k2⟩:=OS pre S1 S' gA h2 (fun x hx=>hap x (cD _ hx))
   (fun a ha b hb ⟨z,hz,e⟩ hj=>hfr a (cD _ ha) b (cD _ hb) ⟨z,cD _ hz,e⟩ hj)
  obtain⟨S2,ey,lg3,q1,q2,rfl⟩:=FM k1;have hi:=(Ar h1).2;have hj:=(Ar q1).2;obtain⟨T1,t1,t2⟩:=swap h1 q1 (hap (i,x) bO) (hfr ex bO ey (cD _ (k2 ey bO)) ⟨(i,x),bO,hi⟩ hj);refine⟨ey::ex::lg3,Le t1 (Le t2 q2),fun e he=>?_⟩;rcases bk.1 he with rfl | he
  .exact cD _ (k2 _ bO)
  .rcases bk.1 he with rfl | he
   .exact bO
   .exact cD _ (k2 _ (cD _ he))
end
theorem AE{ops:Array Oper}{j:Nat}{o:Oper}(h:ops[j]? = some o):(j,o)∈m9 ops:=by simp only[m9,eE];exact⟨(o,j),GY.2 (by simpa using h),rfl⟩
section
variable {P:Program} {C:Ctx} {D:Den C} (bn:hY P C) (dI:n8 P C D)
include bn dI
theorem ajS{np:List Nat}{Q:Exit->Act->World->Prop}{hints:Hints}{id:Nat}{ops:Array Oper}{F:St->Prop}(hgd:KC ops=true)(hed:DU ops=true)(VS:HE (Region.before ops) ops (m9 ops)=true)(hnp:Iq np ops=true) :
  ∀(fuel:Nat)(listed:Array Bool)(rest:List (Nat×Oper))(S:St)(g:ay)(a:Act)(w:World),rest.length<=fuel->listed.size=ops.size->Down ops listed->rest.Sublist (m9 ops)->
   (∀x∈m9 ops,x∈rest↔listed.getD x.1 true=false)->az w.heap S g a.tmps Nil->a.defers=[]->
   (∀β,∃S' lg LG,iT C D hints id ops β rest S=some (S',lg)/\(∀e∈lg,e∈LG)/\CX (Region.before ops) LG LG=true/\F S')->
   (∀S' g' a' w',F S'->az w'.heap S' g' a'.tmps Nil->g'.cM g->jW g.L w w'->a'.defers=[]->u5 np a a'->Q .normal a' w')->wpAny P .any ops Q fuel listed a w:=by
 intro fuel
 induction fuel with
 | zero=>
  intro listed rest S g a w hlen hsz hdn hsub hiff st hdf hrun hQ;have hr:rest=[]:=jU.1 (by omega);subst hr;refine⟨?_,?_⟩
  .apply List.eq_nil_iff_forall_not_mem.2;intro j hj;obtain⟨h0,o,ho,_⟩:=mem_ready.1 hj;have:=(hiff (j,o) (AE ho)).2 h0;simp at this
  .obtain⟨S',lg,LG,h1,_,_,h4⟩:=hrun fun _=>true;simp only[iT,aI,a_]at h1;obtain⟨rfl,_⟩:=h1;exact hQ S g a w h4 st (.refl g) (.refl _ _) hdf (.refl _ _)
 | succ fuel ih=>
  intro listed rest S g a w hlen hsz hdn hsub hiff st hdf hrun hQ;have hft:∀j,j<ops.size->(listed.getD j true=listed.getD j false):=by
   intro j hj;have:j<listed.size:=by omega
   simp[Array.getD,this]
  refine⟨fun hre=>?_,fun j hj=>?_⟩
  .have hr:rest=[]:=by
    cases rest with
    | nil=>rfl
    | cons x rest=>
     exfalso;have key:∀j,j<ops.size->listed.getD j true=true:=by
      intro j
      induction j using Nat.strongRecOn with
      | _ j ihj=>
       intro hlt;cases hl:listed.getD j true with
       | true=>rfl
       | false=>
        exfalso;have ho:ops[j]? = some ops[j]:=qP hlt;have:j∈Region.ready .any ops listed:=by
         refine mem_ready.2 ⟨hl,ops[j],ho,fun e he hb=>?_⟩;have Vt:e.on<j:=by have HT:=hed;simp only[DU,qC]at HT;have:=HT (j,ops[j]) (AE ho);rw[P1]at this;have:=this e he;rw[hb]at this;simpa [nU] using this
         rw[<-hft e.on (by omega)];exact ihj e.on Vt (by omega)
        rw[hre]at this;simp at this
     have hx:=hsub.subset bO;have h0:=(hiff x hx).1 bO;have eg:=xM x hx;have:=key x.1 (qO.1 eg).1;rw[h0]at this;simp at this
   subst hr;obtain⟨S',lg,LG,h1,_,_,h4⟩:=hrun fun _=>true;simp only[iT,aI,a_]at h1;obtain⟨rfl,_⟩:=h1;exact hQ S g a w h4 st (.refl g) (.refl _ _) hdf (.refl _ _)
  .obtain⟨h0,y,hy,wF⟩:=mem_ready.1 hj;have akr:j<ops.size:=(qO.1 hy).1;have hmem:=(hiff (j,y) (AE hy)).2 h0;obtain⟨pre,post,rfl⟩:=List.append_of_mem hmem
   -- indexes are apart
   have SF:((m9 ops).map (·.1)).Nodup:=by rw[S8];exact List.nodup_range
   have VC:=(hsub.map (·.1)).nodup SF;simp only[o5,cm]at VC;have zP:((pre++(j,y)::post).map (·.1)).Pairwise (· < ·):=by refine List.Pairwise.sublist (hsub.map (·.1)) ?_;rw[S8];exact List.pairwise_lt_range
   have hlt:∀x∈pre,x.1<j:=by intro x hx;rw[o5,xB]at zP;exact zP.2.2 x.1 (eE.2 ⟨x,hx,rfl⟩) j (by simp)
   have hgt:∀x∈post,j<x.1:=by intro x hx;rw[o5,xB,cm,kS]at zP;exact zP.2.1.1 x.1 (eE.2 ⟨x,hx,rfl⟩)
   have hun:∀x∈pre,uO (Region.before ops) x.1 j=false:=by
    intro x hx;have hxt:x∈m9 ops:=hsub.subset (by simp[hx]);have hxu:=(hiff x hxt).1 (by simp[hx]);cases ho:uO (Region.before ops) x.1 j with
    | false=>rfl
    | true=>
     exfalso;simp only[uO,jg]at ho;rcases ho with ho | ho
     .have:=ahj hdn j x.1 ho fun o' ho' e he hb=>by
       rw[hy]at ho';simp only[aI]at ho';subst ho';exact wF e he hb
      have V6:x.1<ops.size:=(qO.1 (xM x hxt)).1;rw[<-hft x.1 V6,hxu]at this;simp at this
     .have:=aas hed _ _ ho;have:=hlt x hx;omega
   have hap:∀x∈pre,Hu ops x.1 j x.2 y=true:=by
    intro x hx;have:=(Oj VS).sublist hsub;rw[xB]at this;rcases this.2.2 x hx (j,y) (by simp) with h | h
    .have:=hun x hx;simp only at h;rw[this]at h;simp at h
    .exact h
   have Cn:∀β,∃S1 e S' lg LG,gQ C D hints id ops (β j) S j y=some (S1,e)/\iT C D hints id ops β (pre++post) S1=some (S',lg)/\(∀e∈lg,e∈LG)/\CX (Region.before ops) LG LG=true/\F S':=by
    intro β;obtain⟨S',lg,LG,h1,h2,h3,h4⟩:=hrun β;obtain⟨DH,q1,q2⟩:=OS pre S S' lg h1 hap (by
     intro ex hex ey hey hx hyj;obtain⟨x,hx,e1⟩:=hx;refine aiW h3 (h2 ex hex) (h2 ey hey) ?_ ?_
     .rw[e1,hyj];have:=hlt x hx;omega
     .rw[e1,hyj];exact hun x hx)
    obtain⟨S1,e,gA,t1,t2,rfl⟩:=FM q1;exact⟨S1,e,S',gA,LG,t1,t2,fun e he=>h2 e (q2 e (cD _ he)),h3,h4⟩
   refine LI bn dI st (hints:=hints) (id:=id) hy (fun j' c=>Pw hgd j y j' c hy) hdf (Qo hnp (j,y) (AE hy)) (fun β=>?_) ?_
   .obtain⟨S1,e,_,_,_,h1,_⟩:=Cn fun _=>β;exact⟨_,h1⟩
   .intro βj S1 e a' w' g' hs st' iY hfr iu om;refine ih (listed.setIfInBounds j true) (pre++post) S1 g' a' w' ?_ (by simpa using hsz) ?_ ?_ ?_ st' iu ?_ ?_
    .simp only[cw,ct]at hlen⊢;omega
    .intro q o hq hlq e he hb;by_cases hqj:j=q
     .subst hqj;rw[hy]at hq;simp only[aI]at hq;subst hq;exact getD_set_true (wF e he hb)
     .rw[getD_set_ne false hqj]at hlq;exact getD_set_true (hdn q o hq hlq e he hb)
    .exact List.Sublist.trans (List.Sublist.append (List.Sublist.refl pre) (List.sublist_cons_self _ _)) hsub
    .intro x hx;have hx1:=hiff x hx;by_cases SL:x.1=j
     .constructor
      .intro hm;exfalso;rcases bL.1 hm with hm | hm
       .have:=hlt x hm;omega
       .have:=hgt x hm;omega
      .intro h;exfalso;have iw:j<listed.size:=by omega
       simp[SL,Array.getD,iw]at h
     .rw[getD_set_ne true (fun h=>SL h.symm),<-hx1];simp only[bL,bk];constructor
      .rintro(h | h)
       .exact .inl h
       .exact .inr (.inr h)
      .rintro(h | h | h)
       .exact .inl h
       .exact absurd (by rw[h]) SL
       .exact .inr h
    .intro β;obtain⟨S1',e',S',lg,LG,h1,h2,h3⟩:=Cn fun n=>if n=j then βj else β n
     simp only[aX]at h1;rw[hs]at h1;simp only[aI,a_]at h1;obtain⟨rfl,rfl⟩:=h1;refine⟨S',lg,LG,?_,h3⟩;rw[<-h2];symm;refine OR _ _ fun x hx=>?_;rw[af];intro SL;rcases bL.1 hx with hm | hm
     .have:=hlt x hm;omega
     .have:=hgt x hm;omega
    .intro S' tO HQ w'' hF vc wW pI wE wG;exact hQ S' tO HQ w'' hF vc (iY.trans wW) (hfr.trans (by rw[iY.2.1]at pI;exact pI)) wE (om.trans wG)
theorem aiR{np:List Nat}{R:Type}{r:R}{H:Hints}{id:Nat}{ops:Array Oper}{S:St}{k:Ex->St->Option R}{Q:Exit->Act->World->Prop}{g:ay}{a:Act}{w:World}{n:Nat}
  (jJ:P.follows .mixedOrders=true) (hnp:Iq np ops=true) (h:exec C D H n (.region id ops true) S k=some r):C3 np P C Q r (.region id ops true) S k g a w:=by
 intro st hdf hQ;simp only[exec]at h;split at h
 .rename_i hgd;have hR:=fun βs=>Kq (hints:=H) _ _ _ _ h S (fA.refl S) βs;have wz:DU ops=true/\HE (Region.before ops) ops (m9 ops)=true:=by
   obtain⟨T1,gj,S1,gA,_,q2,_⟩:=hR [];simp only[aX]at q2;split at q2
   .rename_i hc;simp only[bC]at hc;exact⟨hc.1.1,hc.2⟩
   .simp at q2
  refine wp_region_any jJ ?_;refine ajS (hints:=H) (id:=id) (F:=fun S'=>∃S1,k .normal S1=some r/\fA S1 S') bn dI hgd wz.1 wz.2 hnp ops.size _ (m9 ops) S g a _ ?_ (by simp) ?_ (List.Sublist.refl _) ?_ st hdf (fun β=>?_) ?_
  .have:=eM List.length (S8 (ops:=ops));simp only[jw,GV]at this;omega
  .intro j o ho hl;exfalso;have hlt:=(qO.1 ho).1;simp[hlt]at hl
  .intro x hx;have hlt:=(qO.1 (xM x hx)).1;simp[hx,hlt]
  .obtain⟨T1,gj,S1,gA,q1,q2,q3,q4,_⟩:=hR ((m9 ops).map fun x=>β x.1);simp only[aX]at q2;split at q2
   .rename_i hc;simp only[bC]at hc;exact⟨T1,gj,gA,by rw[Ld];exact q1,q4,hc.1.2,S1,q2,q3⟩
   .simp at q2
  .intro S' g' a' w' hF st' iY hfr iu om;obtain⟨S1,hk,pL⟩:=hF;exact hQ .normal S1 g' a' w' hk (Lf pL st') iY ((jW.drawn _).trans hfr) iu om
 .simp at h
theorem DV{np:List Nat}{R:Type}{r:R}{H:Hints}(jJ:P.follows .mixedOrders=true):∀(c:Code)(n:Nat)(S:St)(k:Ex->St->Option R),sq np c=true->exec C D H n c S k=some r->
  ∀(Q:Exit->Act->World->Prop)(g:ay)(a:Act)(w:World),C3 np P C Q r c S k g a w
 | .skip,n,S,k,hc,h,Q,g,a,w=>by
  intro st hdf hQ;exact wp_skip (hQ .normal S g a w (by simpa only [exec] using h) st (.refl g) (.refl _ _) hdf (.refl _ _))
 | .region id ops dr,n,S,k,hc,h,Q,g,a,w=>by
  cases dr with
  | false=>exact aa0 bn dI hc h
  | true=>exact aiR bn dI jJ hc h
 | .seq x y,n,S,k,hc,h,Q,g,a,w=>by
  intro st hdf hQ;simp only[sq,bC]at hc;simp only[exec]at h;refine wp_seq (DV jJ x n S _ hc.1 h _ g a w st hdf ?_);intro e S' g' a' w' hk st' iY hfr iu om;cases e with
  | normal=>simp only[Ex.out,Exit.then];refine DV jJ y n _ k hc.2 hk Q g' a' w' (show az w'.heap (rL H y S') g' a'.tmps Nil by unfold rL;split<;>first | exact Az st' _ _ | exact st') iu ?_;intro e2 S2 g2 a2 w2 hk2 oV pM tZ U_ wH;exact hQ e2 S2 g2 a2 w2 hk2 oV (iY.trans pM) (hfr.trans (by rw[iY.2.1]at tZ;exact tZ)) U_ (om.trans wH)
  | exit id=>exact hQ (.exit id) S' g' a' w' hk st' iY hfr iu om
  | ret=>exact hQ .ret S' g' a' w' hk st' iY hfr iu om
 | .cond c x y,n,S,k,hc,h,Q,g,a,w=>by
  intro st hdf hQ;simp only[exec]at h;cases hb:V.asBool (ev S c) with
  | none=>rw[hb]at h;simp at h
  | some t=>
   rw[hb]at h;simp only at h;have hv:=Pd hb (Mw st c);refine wp_cond (t:=t) hv ?_;cases t with
   | true=>exact DV jJ x n S k (by simp only[sq,bC]at hc;exact hc.1) h Q g a w st hdf hQ
   | false=>exact DV jJ y n S k (by simp only[sq,bC]at hc;exact hc.2) h Q g a w st hdf hQ
 | .block id x,n,S,k,hc,h,Q,g,a,w=>by
  intro st hdf hQ;simp only[exec]at h;refine wp_block (DV jJ x n S _ (by simpa only [sq] using hc) h _ g a w st hdf ?_);intro e S' g' a' w' hk st' iY hfr iu om;cases e with
  | normal=>exact hQ .normal S' g' a' w' hk st' iY hfr iu om
  | exit j=>
   simp only at hk;simp only[Ex.out,Exit.inBlock];split at hk
   .rename_i hj;rw[aj hj];exact hQ .normal S' g' a' w' hk st' iY hfr iu om
   .rename_i hj;rw[af hj];exact hQ (.exit j) S' g' a' w' hk st' iY hfr iu om
  | ret=>exact hQ .ret S' g' a' w' hk st' iY hfr iu om
 | .loop x,n,S,k,hc,h,Q,g,a,w=>by
  intro st hdf hQ;simp only[exec]at h;cases hl:H.keep.lookup (BI x) with
  | none=>rw[hl]at h;simp at h
  | some kp=>
   rw[hl]at h;simp only at h;have key:∀(m:Nat)(S:St)(g1:ay)(a1:Act)(w1:World),r8 (exec C D H n x) (St.canon kp.1 kp.2.2) (St.canon kp.2.1 kp.2.2) m S k=some r->az w1.heap S g1 a1.tmps Nil->g1.cM g->jW g.L w w1->a1.defers=[]->u5 np a a1->
     ∀b k' cs,∃e a' w',Q e a' w'/\Arrives P (lone (b.at a1 (.code x::.inLoop x::k')) cs w1) b k' cs e a' w':=by
    intro m
    induction m with
    | zero=>intro S g1 a1 w1 h;simp[r8]at h
    | succ m ih=>
     intro S g1 a1 w1 h st iY hfr hdf om b k' cs;simp only[r8]at h;have hx:=DV jJ x n _ _ (by simpa only [sq] using hc) h (Exit.then (fun a' w'=>∀b k' cs,∃e HQ w'',Q e HQ w''/\Arrives P (lone (b.at a' (.code x::.inLoop x::k')) cs w') b k' cs e HQ w'') Q) g1 a1 w1 (Az st kp.1 kp.2.2) hdf (by
      intro e S' g' a' w' hk st' wW pI iu wG;have wH:=om.trans wG;have pM:=iY.trans wW;have tZ:jW g.L w w':=hfr.trans (by rw[iY.2.1]at pI;exact pI);cases e with
      | normal=>exact ih S' g' a' w' hk st' pM tZ iu wH
      | exit id=>exact hQ (.exit id) _ g' a' w' hk (Az st' kp.2.1 kp.2.2) pM tZ iu wH
      | ret=>exact hQ .ret _ g' a' w' hk (Az st' kp.2.1 kp.2.2) pM tZ iu wH)
     obtain⟨e,a₁,w₁,hq,j9⟩:=hx b (.inLoop x::k') cs;cases e with
     | normal=>obtain⟨e₂,a₂,w₂,hq₂,harr₂⟩:=hq b k' cs;exact⟨e₂,a₂,w₂,hq₂,.of_steps (Steps.trans j9 (.one step_inLoop)) harr₂⟩
     | exit id=>exact⟨_,a₁,w₁,hq,.pass (x:=.inLoop x) rfl (fun _ _=>.inl (by simp)) j9⟩
     | goto l=>exact⟨_,a₁,w₁,hq,.pass (x:=.inLoop x) rfl (fun _ _=>.inl (by simp)) j9⟩
     | ret=>exact⟨_,a₁,w₁,hq,.pass (x:=.inLoop x) rfl (fun _ _=>.inl (by simp)) j9⟩
     | panic ch=>exact⟨_,a₁,w₁,hq,.pass (x:=.inLoop x) rfl (fun _ _=>.inl (by simp)) j9⟩
     | outgrown=>exact⟨_,a₁,w₁,hq,.pass (x:=.inLoop x) rfl (fun _ _=>.inl (by simp)) j9⟩
   intro b k' cs;obtain⟨e,a',w',hq,j9⟩:=key n S g a w h st (.refl g) (.refl _ _) hdf (.refl _ _) b k' cs;exact⟨e,a',w',hq,.of_steps (.one step_loop) j9⟩
 | .exit id,n,S,k,hc,h,Q,g,a,w=>by
  intro st hdf hQ;exact wp_exit (hQ (.exit id) S g a w (by simpa only [exec] using h) st (.refl g) (.refl _ _) hdf (.refl _ _))
 | .ret,n,S,k,hc,h,Q,g,a,w=>by
  intro st hdf hQ;exact wp_ret (hQ .ret S g a w (by simpa only [exec] using h) st (.refl g) (.refl _ _) hdf (.refl _ _))
 | .rangeFunc _ _ _ _,n,S,k,hc,h,Q,g,a,w=>by simp[exec]at h
 | .scope _,n,S,k,hc,h,Q,g,a,w=>by simp[exec]at h
 | .label _,n,S,k,hc,h,Q,g,a,w=>by simp[exec]at h
 | .goto _,n,S,k,hc,h,Q,g,a,w=>by simp[exec]at h
 | .refuse _,n,S,k,hc,h,Q,g,a,w=>by simp[exec]at h
end
end
end Go.V
namespace Go.V
noncomputable section
open Go
theorem vP.mono{h:Array Obj}{Pr f_:BS}{t:Ty}{m:Mk}{x:t.den}{v:Value}{F:BS}(hp:Sub Pr f_)(r:vP h Pr t m x v F):vP h f_ t m x v F:=by obtain⟨b,c,F0,e,r,k⟩:=r;exact⟨b,c,F0,e,aq.mono hp (fun _ _=>rfl) t r (Sub.refl _) (fun _ _=>rfl),k⟩
theorem rH.mono{h:Array Obj}{Pr f_:BS}{k:RK}{x:k.den}{v:Value}{F:BS}(hp:Sub Pr f_)(r:rH h Pr k x v F):rH h f_ k x v F:=by
 cases k with
 | val t m=>exact o_.mono hp r
 | ptr t m=>exact vP.mono hp r
def r7(tmps:Array Value):ResultVar->Sem Value
 | .tmp t=>pure (tmps.getD t Go.undef)
 | .cell a t=>do loadVar t (<- asAddr (tmps.getD a Go.undef))
theorem aad{fn:Func}{tmps:Array Value}{P:Program}{w:World}{us:List Value}(h:(fn.results.toList.mapM (r7 tmps)).run P w=.ok us w):(results fn tmps).run P w=.ok (tF us) w:=by
 have e:results fn tmps=(do let vs <- fn.results.mapM (r7 tmps);pure (if h:vs.size=1 then vs[0] else .tuple vs)):=by unfold results r7;rfl
 rw[e,Array.mapM_eq_mapM_toList];simp only[Sem.run_bind,Sem.run_map,h,Result.andThen_ok]
 match us with
 | []=>simp[tF]
 | [v]=>simp[tF]
 | u::v::l=>simp[tF]
section
variable {P:Program} {C:Ctx}
theorem PL{w:World}{t:TypeId}(k:lW P C t)(hz:(C.ty t).nz=true){b o:Nat}{c:List Value}(hr:w.rangeAt b o c)(hl:c.length=(C.ty t).width) :
  (do loadVar t (<- asAddr (.pointer (some ⟨b,o,none⟩))):Sem Value).run P w=.ok (cU (C.ty t) c) w:=by
 have:=FN (P:=P) k hz hr hl;simpa only [Instr.loadAt,Instr.sureAddr,asAddr] using this
theorem aka(bn:hY P C){w:World}{S:St}{g:ay}{tmps:Array Value}{H:BS}(st:az w.heap S g tmps H){t:TypeId}(hz:(C.ty t).nz=true){a v':AV}{va:Value}
  (ha:qe w.heap S g a va) (hl:uY S.rt (C.ty t) a=some v'):∃u,(do loadVar t (<- asAddr va):Sem Value).run P w=.ok u w/\qe w.heap S g v' u:=by
 have k:=bn t hz;cases a with
 | b_ t' y=>
  simp only[uY]at hl;cases hc:qbv t' (C.ty t) y with
  | none=>rw[hc]at hl;simp at hl
  | some z=>rw[hc]at hl;simp only[qe]at ha;obtain⟨b,off,cs,e,hp,hb,hs,rep⟩:=ha;have hw:=aq.width t' rep;obtain⟨e1,h_⟩:=aq.cast hc rep;subst e1;have hrun:=PL (P:=P) (w:=w) k hz (BD hb hs) hw;refine⟨_,by rw[e];exact hrun,?_⟩;simp at hl;subst hl;simp only[qe];exact⟨_,h_,rfl⟩
 | addr r p=>
  simp only[uY]at hl;cases hf:S.rt.focus r p with
  | none=>rw[hf]at hl;simp at hl
  | some d=>
   rw[hf]at hl;simp only at hl;by_cases hd:d.ty=C.ty t
   .simp only[hd,aX]at hl;have hf':=hf;simp only[aO.focus]at hf';split at hf'
    .rename_i R hR;obtain⟨b,off,c,hin,eg,e⟩:=FU st hR hf' ha;obtain⟨base,c',F,q1,q2,q3,q4,q5⟩:=st.update hR hf' hin;rw[eg]at q1;simp only[aI,a_]at q1;obtain⟨rfl,rfl⟩:=q1;obtain⟨_,cs,zT,hs,hsub⟩:=q4 b off rfl;have hw:=aq.width d.ty q2;have mT:w.rangeAt b off c:=by have:=BD (w:=w) zT.zA hs;rw[hsub]at this;exact this
     have hrun:=PL (P:=P) k hz mT (by rw[hw,hd]);obtain⟨dt,dm,dx⟩:=d;simp only at hd;subst hd;refine⟨_,by rw[e];exact hrun,?_⟩;simp only[aI]at hl;subst hl;exact dc.rel q2 (DR hR _ _ _ p (some (b,off)) c F hf' hin eg q2) (Ty.kr hz)
    .simp at hf'
   .rw[af hd]at hl;simp at hl
 | _=>simp[uY]at hl
theorem KO(bn:hY P C){w:World}{S:St}{g:ay}{tmps:Array Value}{H:BS}(st:az w.heap S g tmps H){v:ResultVar}{a:AV}(h:xU C S v=some a) :
  ∃u,(r7 tmps v).run P w=.ok u w/\qe w.heap S g a u:=by
 cases v with
 | tmp t=>simp only[xU,aI]at h;subst h;exact⟨_,by simp only[r7,Sem.run_pure],st.slots t⟩
 | cell x t=>
  simp only[xU]at h;split at h
  .rename_i hz;exact aka bn st hz (st.slots x) h
  .simp at h
theorem K8{h:Array Obj}{S:St}{g:ay}{tmps:Array Value}{H:BS}(st:az h S g tmps H){q:Nat}{R:aB}(hR:S.root q=some R)(hm:R.mem=true){t:Ty}{m:Mk}{x:t.den}{v:Value}
  (hs:m.aQ R.ms=true) (hc:qbv R.ty t R.x=some x) (hv:qe h S g (.addr q []) v) :
  ∃g' F,az h (S.aD q none) g' tmps (Un H F)/\vP h g'.Pr t m x v F/\cq F H/\g'.cM g/\Sub g.Pr g'.Pr:=by
 obtain⟨F,r1,r2,r3,r4,_⟩:=st.roots q R hR;obtain⟨b,bQ,fK,Jm⟩:=r4 hm;have hq:(S.root q).isSome:=by rw[hR];rfl
 have s1:=st.gv hq;obtain⟨_,rx⟩:=aq.cast hc r1;obtain⟨F1,F2,q1,q2,q3,q4⟩:=aq.aQ t hs rx;have s2:=s1.cP F2 (fun z hz=>.inr (r2 z (q2 z hz)));obtain⟨b',off,c,hin,eg,e⟩:=FU st hR (p:=[]) (d:=⟨R.ty,R.ms,R.x⟩) (by simp only[focus]) hv;have UZ:b8 h R.ty (g.C q) (g.base q) []=some (g.base q,g.C q):=by cases R.ty<;>rfl
 rw[UZ]at eg;simp only[aI,a_,ay.base,bQ,dV]at eg;obtain⟨⟨rfl,rfl⟩,rfl⟩:=eg;refine⟨{ g with Pr:=Un g.Pr F2 },fun z=>F1 z\/z=b,s2.bx ?_,⟨b,g.C q,F1,e,q4,Jm,.inr rfl,fun z hz=>.inl hz,fun hz=>r3 b bQ (q1 b hz)⟩,?_,⟨rfl,rfl,rfl⟩,fun z hz=>.inl hz⟩
 .rintro z (hz | hz | rfl)
  .exact⟨.inl hz,fun h2=>st.hand q hq z (r2 z (q2 z h2)) hz⟩
  .exact⟨.inr (r2 z (q1 z hz)),fun h2=>q3 z hz h2⟩
  .exact⟨.inr fK,fun h2=>r3 z bQ (q2 z h2)⟩
 .rintro z (hz | rfl) hh
  .exact st.hand q hq z (r2 z (q1 z hz)) hh
  .exact st.hand q hq z fK hh
theorem O_(bn:hY P C){w:World}{tmps:Array Value}:∀(rs:List RK)(vs:List ResultVar)(S:St)(g:ay)(H:BS)(i:Nat)(r:fc rs)(S':St),az w.heap S g tmps H->vR C rs vs S=some (r,S')->
  ∃us g' H' Gs,(vs.mapM (r7 tmps)).run P w=.ok us w/\az w.heap S' g' tmps H'/\g'.cM g/\Sub g.Pr g'.Pr/\kH w.heap g'.Pr Gs i rs r us/\(∀j,j<i->Gs j=Nil)/\
   (∀j,Sub (Gs j) H')/\(∀j k,j≠k->cq (Gs j) (Gs k))/\(∀j,cq (Gs j) H)/\Sub H H'
 | [],[],S,g,H,i,r,S',st,h=>by
  simp only[vR,aI,a_]at h;obtain⟨_,rfl⟩:=h;exact⟨[],g,H,fun _=>Nil,by simp,st,.refl g,Sub.refl _,rfl,fun _ _=>rfl,fun _=>Sub.nil _,fun _ _ _=>cq.nil _,fun _=>cq.nil _,Sub.refl _⟩
 | [],_::_,S,g,H,i,r,S',st,h=>by simp[vR]at h
 | k::_,[],S,g,H,i,r,S',st,h=>by cases k<;>simp[vR]at h
 | k::ks,v::vs,S,g,H,i,r,S',st,h=>by
  -- one
  have one:∃u S1 x g1 F rr,(r7 tmps v).run P w=.ok u w/\az w.heap S1 g1 tmps (Un H F)/\rH w.heap g1.Pr k x u F/\cq F H/\g1.cM g/\Sub g.Pr g1.Pr/\vR C ks vs S1=some (rr,S')/\r=(x,rr):=by
   cases k with
   | val t m=>
    simp only[vR,cJ]at h;obtain⟨a,ha,⟨mx,x,rt'⟩,rU,h⟩:=h;split at h
    .rename_i hs;simp only[cJ,aI,a_]at h;obtain⟨⟨rr,S2⟩,hg,rfl,rfl⟩:=h;obtain⟨u,hu,qU⟩:=KO bn st ha;obtain⟨c,g2,F,ev,cG⟩:=yC _ st rU qU;obtain⟨F1,F2,q1,q2,q3,q4⟩:=aq.aQ t hs cG.rep;have s2:=cG.st.cP F2 (fun z hz=>.inr (q2 z hz));refine⟨u,_,x,_,F1,rr,hu,s2.bx ?_,⟨c,q4,ev⟩,fun z hz hh=>cG.dG z (q1 z hz) hh,ay.cM.trans cG.same ⟨rfl,rfl,rfl⟩,fun z hz=>.inl (cG.pr z hz),hg,rfl⟩;rintro z (hz | hz)
     .exact⟨.inl hz,fun h2=>cG.dG z (q2 z h2) hz⟩
     .exact⟨.inr (q1 z hz),fun h2=>q3 z hz h2⟩
    .simp at h
   | ptr t m=>
    simp only[vR]at h;split at h
    .rename_i q ha;split at h
     .rename_i R hR;split at h
      .rename_i hs;simp only[cJ,aI,a_]at h;obtain⟨x,hc,⟨rr,S2⟩,hg,rfl,rfl⟩:=h;obtain⟨u,hu,qU⟩:=KO bn st ha;obtain⟨g1,F,p1,p2,p3,p4,p5⟩:=K8 st hR hs.1 hs.2 hc qU;exact⟨u,_,x,g1,F,rr,hu,p1,p2,p3,p4,p5,hg,rfl⟩
      .simp at h
     .simp at h
    .simp at h
  obtain⟨u,S1,x,g1,F,rr,hu,p1,p2,p3,p4,p5,hg,rfl⟩:=one;obtain⟨us,g',H',Gs,k1,k2,k3,k4,k5,k6,k7,k8,k9,gO⟩:=O_ bn ks vs S1 g1 _ (i+1) rr S' p1 hg;refine⟨u::us,g',H',fun j=>if j=i then F else Gs j,?_,k2,p4.trans k3,p5.trans k4,?_,?_,?_,?_,?_,fun z hz=>gO z (.inl hz)⟩
  .simp[List.mapM_cons,hu,k1]
  .refine⟨u,us,rfl,?_,?_⟩
   .show rH w.heap g'.Pr k x u (if i=i then F else Gs i);rw[aj rfl];exact p2.mono k4
   .have:∀(ks:List RK)(n:Nat){a:fc ks}{us:List Value},i<n->kH w.heap g'.Pr Gs n ks a us->kH w.heap g'.Pr (fun j=>if j=i then F else Gs j) n ks a us:=by
     intro ks
     induction ks with
     | nil=>intro n a us _ h;exact h
     | cons k ks ih=>intro n a us hn h;obtain⟨v,vs',e,r1,r2⟩:=h;exact⟨v,vs',e,by show rH _ _ _ _ _ (if n=i then F else Gs n);rw[af (by omega)];exact r1,ih (n+1) (by omega) r2⟩
    exact this ks (i+1) (by omega) k5
  .intro j hj;show(if j=i then F else Gs j)=Nil;rw[af (by omega)];exact k6 j (by omega)
  .intro j z hz;split at hz
   .exact gO z (.inr hz)
   .exact k7 j z hz
  .intro j k ot z h1 h2;split at h1<;>split at h2
   .omega
   .exact k9 k z h2 (.inr h1)
   .exact k9 j z h1 (.inr h2)
   .exact k8 j k ot z h1 h2
  .intro j z h1 h2;split at h1
   .exact p3 z h1 h2
   .exact k9 j z h1 (.inl h2)
end
end
end Go.V
namespace Go.V
noncomputable section
open Go
def hdc(hd:Nat->Value)(n w:Nat):List Value:=(List.range w).map fun k=>hd (n+k)
theorem Lq(hd:Nat->Value)(n a b:Nat):hdc hd n (a+b)=hdc hd n a++hdc hd (n+a) b:=by simp only[hdc,List.range_add,o5,xx];congr 1;apply qT;intro k _;simp[Gr]
theorem xG(hd:Nat->Value)(n w:Nat):(hdc hd n w).length=w:=by simp[hdc]
theorem A4:∀(t:Ty)(m:Mk)(n:Nat),e9 t m=true->(m.tag n).2=n+t.width
 | .sl _,.own _ _,n,_=>rfl
 | .pair a b,.pr x y,n,h=>by
  simp only[e9,bC]at h;simp only[Mk.tag,Ty.width];rw[A4 b y _ h.2,A4 a x _ h.1];omega
 | .unit,.no,_,_=>rfl
 | .unit,.gone,_,h=>by simp[e9]at h
 | .unit,.own _ _,_,h=>by simp[e9]at h
 | .unit,.pr _ _,_,h=>by simp[e9]at h
 | .int _,m,_,h=>by cases m<;>simp[e9]at h
 | .bool,m,_,h=>by cases m<;>simp[e9]at h
 | .str,m,_,h=>by cases m<;>simp[e9]at h
 | .sl _,.no,_,h=>by simp[e9]at h
 | .sl _,.gone,_,h=>by simp[e9]at h
 | .sl _,.pr _ _,_,h=>by simp[e9]at h
 | .pair _ _,.no,_,h=>by simp[e9]at h
 | .pair _ _,.gone,_,h=>by simp[e9]at h
 | .pair _ _,.own _ _,_,h=>by simp[e9]at h
theorem Bj:∀(t:Ty)(m:Mk)(n:Nat),e9 t m=true->(m.tag n).1.same .no=true->t.width=0
 | .sl _,.own _ _,n,_,h=>by simp[Mk.tag,Mk.same]at h
 | .pair a b,.pr x y,n,hh,h=>by
  simp only[e9,bC]at hh;simp only[Mk.tag,Mk.same,bC]at h;simp only[Ty.width,Bj a x n hh.1 h.1,Bj b y _ hh.2 h.2]
 | .unit,_,_,_,_=>rfl
 | .int _,m,_,h,_=>by cases m<;>simp[e9]at h
 | .bool,m,_,h,_=>by cases m<;>simp[e9]at h
 | .str,m,_,h,_=>by cases m<;>simp[e9]at h
 | .sl _,.no,_,h,_=>by simp[e9]at h
 | .sl _,.gone,_,h,_=>by simp[e9]at h
 | .sl _,.pr _ _,_,h,_=>by simp[e9]at h
 | .pair _ _,.no,_,h,_=>by simp[e9]at h
 | .pair _ _,.gone,_,h,_=>by simp[e9]at h
 | .pair _ _,.own _ _,_,h,_=>by simp[e9]at h
theorem Fk{hd:Nat->Value}:∀(t:Ty)(m:Mk)(n:Nat)(m':Mk)(c:List Value),e9 t m=true->1048576<=n->(m.tag n).1.same m'=true->aK hd t m' c->c.length=t.width->c=hdc hd n t.width
 | .sl _,.own _ _,n,m',c,_,hn,hs,ht,hl=>by
  simp only[Mk.tag,Mk.same]at hs;split at hs
  .rename_i s' mi';simp only[gI]at hs;subst hs;simp only[aK]at ht;rw[ht.1 hn];rfl
  .simp at hs
 | .pair a b,.pr x y,n,m',c,h,hn,hs,ht,hl=>by
  simp only[e9,bC]at h;simp only[Mk.tag,Mk.same]at hs;split at hs
  .rename_i c1 d1;simp only[bC]at hs;simp only[aK,Mk.fst,Mk.snd]at ht;simp only[Ty.width]at hl⊢;rw[A4 a x n h.1]at hs;have e1:=Fk a x n c1 _ h.1 hn hs.1 ht.1 (by simp;omega);have e2:=Fk b y (n+a.width) d1 _ h.2 (by omega) hs.2 ht.2 (by simp;omega);rw[Lq,<-e1,<-e2,oZ]
  .simp only[bC]at hs;simp only[Ty.width]at hl⊢;rw[Bj a x n h.1 hs.1,Bj b y _ h.2 hs.2]at hl⊢;exact jU.1 hl
  .simp at hs
 | .unit,_,_,_,c,_,_,_,_,hl=>jU.1 hl
 | .int _,m,_,_,_,h,_,_,_,_=>by cases m<;>simp[e9]at h
 | .bool,m,_,_,_,h,_,_,_,_=>by cases m<;>simp[e9]at h
 | .str,m,_,_,_,h,_,_,_,_=>by cases m<;>simp[e9]at h
 | .sl _,.no,_,_,_,h,_,_,_,_=>by simp[e9]at h
 | .sl _,.gone,_,_,_,h,_,_,_,_=>by simp[e9]at h
 | .sl _,.pr _ _,_,_,_,h,_,_,_,_=>by simp[e9]at h
 | .pair _ _,.no,_,_,_,h,_,_,_,_=>by simp[e9]at h
 | .pair _ _,.gone,_,_,_,h,_,_,_,_=>by simp[e9]at h
 | .pair _ _,.own _ _,_,_,_,h,_,_,_,_=>by simp[e9]at h
theorem Gh{hd:Nat->Value}:∀(t:Ty)(m:Mk)(n:Nat),e9 t m=true->m.ak=true->aK hd t (m.tag n).1 (hdc hd n t.width)
 | .sl _,.own _ _,n,_,hf=>by
  simp only[Mk.ak,bC]at hf;simp only[Mk.tag,aK];exact⟨fun _=>rfl,hf.2⟩
 | .pair a b,.pr x y,n,h,hf=>by
  simp only[e9,bC]at h;simp only[Mk.ak,bC]at hf;simp only[Mk.tag,aK,Mk.fst,Mk.snd,Ty.width,Lq];rw[A4 a x n h.1,iX (xG _ _ _),iL (xG _ _ _)];exact⟨Gh a x n h.1 hf.1,Gh b y _ h.2 hf.2⟩
 | .unit,_,_,_,_=>by simp only[aK]
 | .int _,m,_,h,_=>by cases m<;>simp[e9]at h
 | .bool,m,_,h,_=>by cases m<;>simp[e9]at h
 | .str,m,_,h,_=>by cases m<;>simp[e9]at h
 | .sl _,.no,_,h,_=>by simp[e9]at h
 | .sl _,.gone,_,h,_=>by simp[e9]at h
 | .sl _,.pr _ _,_,h,_=>by simp[e9]at h
 | .pair _ _,.no,_,h,_=>by simp[e9]at h
 | .pair _ _,.gone,_,h,_=>by simp[e9]at h
 | .pair _ _,.own _ _,_,h,_=>by simp[e9]at h
theorem GN{h:Array Obj}{Pr:BS}:∀(t:Ty)(m:Mk)(n:Nat){x:t.den}{c:List Value}{F:BS},e9 t m=true->aq h Pr t m x c F->aq h Pr t (m.tag n).1 x c F
 | .sl _,.own _ _,n,_,_,_,_,r=>by
  simp only[Mk.tag,aq]at r⊢;exact r
 | .pair a b,.pr x y,n,_,_,_,hh,r=>by
  simp only[e9,bC]at hh;simp only[Mk.tag,aq,Mk.fst,Mk.snd]at r⊢;obtain⟨ca,cb,Fa,Fb,e,ra,rb,k⟩:=r;exact⟨ca,cb,Fa,Fb,e,GN a x _ hh.1 ra,GN b y _ hh.2 rb,k⟩
 | .unit,m,n,_,_,_,h,r=>by simpa only [aq] using r
 | .int _,m,_,_,_,_,h,_=>by cases m<;>simp[e9]at h
 | .bool,m,_,_,_,_,h,_=>by cases m<;>simp[e9]at h
 | .str,m,_,_,_,_,h,_=>by cases m<;>simp[e9]at h
 | .sl _,.no,_,_,_,_,h,_=>by simp[e9]at h
 | .sl _,.gone,_,_,_,_,h,_=>by simp[e9]at h
 | .sl _,.pr _ _,_,_,_,_,h,_=>by simp[e9]at h
 | .pair _ _,.no,_,_,_,_,h,_=>by simp[e9]at h
 | .pair _ _,.gone,_,_,_,_,h,_=>by simp[e9]at h
 | .pair _ _,.own _ _,_,_,_,_,h,_=>by simp[e9]at h
def fQ(hd:Nat->Value):Nat->List PK->List Value->Prop
 | i,.cN t m _::ks,v::vs=>(v=cU t (hdc hd (1048576+64 * i) t.width)/\e9 t m=true)/\fQ hd (i+1) ks vs
 | i,.cA _ _ _::ks,_::vs=>fQ hd (i+1) ks vs
 | i,.val _::ks,_::vs=>fQ hd (i+1) ks vs
 | i,.own _ _::ks,_::vs=>fQ hd (i+1) ks vs
 | i,.bZ _::ks,_::vs=>fQ hd (i+1) ks vs
 | i,.fn::ks,_::vs=>fQ hd (i+1) ks vs
 | _,_,_=>True
theorem ajj{h:Array Obj}{S:St}{g:ay}{tmps:Array Value}{H:BS}(st:az h S g tmps H){q:Nat}{R:aB}(hR:S.root q=some R){t:Ty}{m:Mk}{x:t.den}
  (hs:m.aQ R.ms=true) (hc:qbv R.ty t R.x=some x) :
  ∃g' F,az h (S.aD q none) g' tmps (Un H F)/\o_ h g'.Pr t m x (cU t (g.C q)) F/\cq F H/\g'.cM g/\Sub g.Pr g'.Pr:=by
 obtain⟨F,r1,r2,r3,r4,_⟩:=st.roots q R hR;have hq:(S.root q).isSome:=by rw[hR];rfl
 have s1:=st.gv hq;obtain⟨_,rx⟩:=aq.cast hc r1;obtain⟨F1,F2,q1,q2,q3,q4⟩:=aq.aQ t hs rx;have s2:=s1.cP F2 (fun z hz=>.inr (r2 z (q2 z hz)));refine⟨{ g with Pr:=Un g.Pr F2 },F1,s2.bx ?_,⟨g.C q,q4,rfl⟩,?_,⟨rfl,rfl,rfl⟩,fun z hz=>.inl hz⟩
 .rintro z (hz | hz)
  .exact⟨.inl hz,fun h2=>st.hand q hq z (r2 z (q2 z h2)) hz⟩
  .exact⟨.inr (r2 z (q1 z hz)),fun h2=>q3 z hz h2⟩
 .intro z hz hh;exact st.hand q hq z (r2 z (q1 z hz)) hh
theorem mH.shift{h:Array Obj}{Pr:BS}{Os Os2:Nat->BS}:∀(ks:List PK)(i:Nat){o:cR ks}{vs:List Value},(∀j,i<=j->Os2 j=Os j)->mH h Pr Os i ks o vs->mH h Pr Os2 i ks o vs
 | [],_,_,_,_,r=>r
 | .cA t _ m::ks,i,_,_,hj,r=>by
  obtain⟨v,vs',e,r1,r2⟩:=r;exact⟨v,vs',e,by rw[hj i (b7 _)];exact r1,mH.shift ks (i+1) (fun j h=>hj j (by omega)) r2⟩
 | .cN t _ m::ks,i,_,_,hj,r=>by
  obtain⟨v,vs',e,r1,r2⟩:=r;exact⟨v,vs',e,by rw[hj i (b7 _)];exact r1,mH.shift ks (i+1) (fun j h=>hj j (by omega)) r2⟩
 | .val _::ks,i,_,_,hj,r=>by obtain⟨v,vs',e,r2⟩:=r;exact⟨v,vs',e,mH.shift ks (i+1) (fun j h=>hj j (by omega)) r2⟩
 | .own _ _::ks,i,_,_,hj,r=>by obtain⟨v,vs',e,r2⟩:=r;exact⟨v,vs',e,mH.shift ks (i+1) (fun j h=>hj j (by omega)) r2⟩
 | .bZ _::ks,i,_,_,hj,r=>by obtain⟨v,vs',e,r2⟩:=r;exact⟨v,vs',e,mH.shift ks (i+1) (fun j h=>hj j (by omega)) r2⟩
 | .fn::ks,i,_,_,hj,r=>by obtain⟨v,vs',e,r2⟩:=r;exact⟨v,vs',e,mH.shift ks (i+1) (fun j h=>hj j (by omega)) r2⟩
structure Uu (h:Array Obj) (g:ay) (tmps:Array Value) (H:BS) (ks:List PK) (i:Nat) (o:cR ks) (vs:List Value) (g':ay) (H':BS) (Os:Nat->BS):Prop where
 st:∃S',az h S' g' tmps H'
 same:g'.cM g
 pr:Sub g.Pr g'.Pr
 rel:mH h g'.Pr Os i ks o vs
 nil:∀j,j<i->Os j=Nil
 sub:∀j,Sub (Os j) H'
 dG:∀j k,j≠k->cq (Os j) (Os k)
 pz:∀j,cq (Os j) H
 hand:Sub H H'
theorem aaE{i j:Nat}{k:PK}{ks:List PK}(h:j∈vF (i+1) ks):j∈vF i (k::ks):=by cases k<;>simp only[vF,bk]<;>first | exact h | exact .inr h
theorem Ir{Hh:Hints}{h:Array Obj}{tmps:Array Value}:∀(ks:List PK)(i:Nat)(vs:List Value)(S:St)(g:ay)(H:BS)(o:cR ks),az h S g tmps H->outs Hh i ks S=some o->
  (∀k v,vs[k]? = some v->i+k∈vF i ks->tmps.getD (i+k) Go.undef=v)->vs.length=ks.length->fQ g.hd i ks vs->∃g' H' Os,Uu h g tmps H ks i o vs g' H' Os
 | [],i,vs,S,g,H,o,st,ho,hv,hl,hm=>by
  refine⟨g,H,fun _=>Nil,⟨S,st⟩,.refl g,Sub.refl _,jU.1 hl,fun _ _=>rfl,fun _=>Sub.nil _,fun _ _ _=>cq.nil _,fun _=>cq.nil _,Sub.refl _⟩
 | k::ks,i,[],S,g,H,o,st,ho,hv,hl,hm=>by simp at hl
 | k::ks,i,v::vs,S,g,H,o,st,ho,hv,hl,hm=>by
  have zW:∀k v,vs[k]? = some v->i+1+k∈vF (i+1) ks->tmps.getD (i+1+k) Go.undef=v:=by intro k u hk hm;have:=hv (k+1) u (by simpa using hk) (by rw[show i+(k+1)=i+1+k by omega];exact aaE hm);rw[<-this];congr 1;omega
  have hl':vs.length=ks.length:=by simpa using hl
  -- one akf comes back
  have back:∀(t:Ty)(x:t.den)(oo:cR ks)(S1:St)(g1:ay)(F:BS)(rel:BS->BS->Prop),az h S1 g1 tmps (Un H F)->(∀Pr,Sub g1.Pr Pr->rel Pr F)->cq F H->g1.cM g->Sub g.Pr g1.Pr->
    outs Hh (i+1) ks S1=some oo->fQ g.hd (i+1) ks vs->
    ∃g' H' Os,(∃S',az h S' g' tmps H')/\g'.cM g/\Sub g.Pr g'.Pr/\rel g'.Pr (Os i)/\mH h g'.Pr Os (i+1) ks oo vs/\(∀j,j<i->Os j=Nil)/\(∀j,Sub (Os j) H')/\
     (∀j k,j≠k->cq (Os j) (Os k))/\(∀j,cq (Os j) H)/\Sub H H':=by
   intro t x oo S1 g1 F rel s1 VO hd iY hp ho hm;obtain⟨g',H',Os,q⟩:=Ir ks (i+1) vs S1 g1 _ oo s1 ho zW hl' (by rw[iY.1];exact hm);refine⟨g',H',fun j=>if j=i then F else Os j,q.st,iY.trans q.same,hp.trans q.pr,?_,?_,?_,?_,?_,?_,fun z hz=>q.hand z (.inl hz)⟩
   .show rel g'.Pr (if i=i then F else Os i);rw[aj rfl];exact VO _ q.pr
   .exact mH.shift ks (i+1) (fun j hj=>by show(if j=i then F else Os j)=Os j;rw[af (by omega)]) q.rel
   .intro j hj;show(if j=i then F else Os j)=Nil;rw[af (by omega)];exact q.nil j (by omega)
   .intro j z hz;split at hz
    .exact q.hand z (.inr hz)
    .exact q.sub j z hz
   .intro j k ot z h1 h2;split at h1<;>split at h2
    .omega
    .exact q.pz k z h2 (.inr h1)
    .exact q.pz j z h1 (.inr h2)
    .exact q.dG j k ot z h1 h2
   .intro j z h1 h2;split at h1
    .exact hd z h1 h2
    .exact q.pz j z h1 (.inl h2)
  cases k with
  | val t=>obtain⟨g',H',Os,q⟩:=Ir ks (i+1) vs S g H o st (by simpa only [outs] using ho) zW hl' (by simpa only [fQ] using hm);exact⟨g',H',Os,q.st,q.same,q.pr,⟨v,vs,rfl,q.rel⟩,fun j hj=>q.nil j (by omega),q.sub,q.dG,q.pz,q.hand⟩
  | own t m=>obtain⟨g',H',Os,q⟩:=Ir ks (i+1) vs S g H o st (by simpa only [outs] using ho) zW hl' (by simpa only [fQ] using hm);exact⟨g',H',Os,q.st,q.same,q.pr,⟨v,vs,rfl,q.rel⟩,fun j hj=>q.nil j (by omega),q.sub,q.dG,q.pz,q.hand⟩
  | bZ t=>obtain⟨g',H',Os,q⟩:=Ir ks (i+1) vs S g H o st (by simpa only [outs] using ho) zW hl' (by simpa only [fQ] using hm);exact⟨g',H',Os,q.st,q.same,q.pr,⟨v,vs,rfl,q.rel⟩,fun j hj=>q.nil j (by omega),q.sub,q.dG,q.pz,q.hand⟩
  | fn=>obtain⟨g',H',Os,q⟩:=Ir ks (i+1) vs S g H o st (by simpa only [outs] using ho) zW hl' (by simpa only [fQ] using hm);exact⟨g',H',Os,q.st,q.same,q.pr,⟨v,vs,rfl,q.rel⟩,fun j hj=>q.nil j (by omega),q.sub,q.dG,q.pz,q.hand⟩
  | cA t m0 m'=>
   simp only[outs]at ho;split at ho
   .rename_i qq s8;split at ho
    .rename_i R hR;split at ho
     .rename_i hs;simp only[cJ,aI]at ho;obtain⟨x,hc,oo,ho,rfl⟩:=ho;have V4:tmps.getD i Go.undef=v:=by have:=hv 0 v rfl (by simp[vF]);simpa using this
      have qU:=st.slots i;rw[s8,V4]at qU;obtain⟨g1,F,p1,p2,p3,p4,p5⟩:=K8 st hR hs.1 hs.2 hc qU;obtain⟨g',H',Os,k1,k2,k3,k4,k5,k6⟩:=back t x oo _ g1 F (fun Pr F=>vP h Pr t m' x v F) p1 (fun Pr hp=>p2.mono hp) p3 p4 p5 ho (by simpa only [fQ] using hm);exact⟨g',H',Os,k1,k2,k3,⟨v,vs,rfl,k4,k5⟩,k6.1,k6.2.1,k6.2.2.1,k6.2.2.2.1,k6.2.2.2.2⟩
     .simp at ho
    .simp at ho
   .simp at ho
  | cN t m0 m'=>
   simp only[outs]at ho;split at ho
   .rename_i R hR;split at ho
    .rename_i hs;simp only[cJ,aI]at ho;obtain⟨x,hc,oo,ho,rfl⟩:=ho;simp only[fQ]at hm;obtain⟨⟨ev,hh⟩,hm⟩:=hm;obtain⟨g1,F,p1,p2,p3,p4,p5⟩:=ajj st hR hs.1 hc;have hcell:g.C ((Hh.outs.lookup i).getD i)=hdc g.hd (1048576+64 * i) t.width:=by obtain⟨F0,r1,_⟩:=st.roots _ R hR;have ht:=st.tag _ R hR;obtain⟨e,_⟩:=CN hc;have hw:=aq.width _ r1;rw[e]at ht hw;exact Fk t m0 _ _ _ hh (by omega) hs.2 ht hw
     rw[hcell,<-ev]at p2;obtain⟨g',H',Os,k1,k2,k3,k4,k5,k6⟩:=back t x oo _ g1 F (fun Pr F=>o_ h Pr t m' x v F) p1 (fun Pr hp=>p2.mono hp) p3 p4 p5 ho hm;exact⟨g',H',Os,k1,k2,k3,⟨v,vs,rfl,k4,k5⟩,k6.1,k6.2.1,k6.2.2.1,k6.2.2.2.1,k6.2.2.2.2⟩
    .simp at ho
   .simp at ho
end
theorem Fm(r:Nat):∀(t:Ty)(m:Mk)(x:t.den)(p:Path),∀q∈(cW r t m x p).roots,q=r
 | .unit,_,_,_,q,h=>by simp[cW,AV.roots]at h
 | .int _,_,_,_,q,h=>by simp[cW,AV.roots]at h
 | .bool,_,_,_,q,h=>by simp[cW,AV.roots]at h
 | .str,_,_,_,q,h=>by simp[cW,AV.roots]at h
 | .pair a b,m,x,p,q,h=>by
  unfold cW at h;split at h
  .simp[AV.roots]at h
  .simp only[AV.roots,bL]at h;rcases h with h | h
   .exact Fm r a _ _ _ q h
   .exact Fm r b _ _ _ q h
 | .sl t,m,x,p,q,h=>by cases m<;>simp[cW,AV.roots]at h;exact h
theorem aaf{tmps:Array Value}{i:Nat}{v:Value}(h:tmps.getD i Go.undef=v):tmps.setIfInBounds i v=tmps:=by
 apply Array.ext_getElem?;intro j;rw[GX];by_cases e:i=j
 .subst e;rw[aj rfl];by_cases hl:i<tmps.size
  .rw[aj hl];simp only[oX,qP hl,uk]at h;rw[qP hl,h]
  .rw[af hl,Ew (by omega)]
 .rw[af e]
theorem P8{h:Array Obj}{tmps:Array Value}{Pr:BS}{Fs:Nat->BS}(oG:∀i j,i≠j->cq (Fs i) (Fs j)):∀(ks:List PK)(i:Nat)(a:eV ks)(vs:List Value)(S:St)(g:ay)(H:BS),az h S g tmps H->
  yA h Pr Fs i ks a vs->g.Pr=Pr->(∀k v,vs[k]? = some v->tmps.getD (i+k) Go.undef=v)->(∀u r,r∈(S.get u).roots->r<i)->ks.all PK.fW=true->(∀j,i<=j->Sub (Fs j) H)->
  i+ks.length<=tmps.size->fQ g.hd i ks vs->∃g' H',az h (enter S i ks a) g' tmps H'/\g'.Pr=Pr/\g'.cM g
 | [],i,a,vs,S,g,H,st,hps,gN,hv,hb,hok,hH,hl,hm=>⟨g,H,st,gN,.refl g⟩
 | k::ks,i,a,vs,S,g,H,st,hps,gN,hv,hb,hok,hH,hl,hm=>by
  obtain⟨v,vs',rfl,r1,r2⟩:=hps;simp only[gK,bC]at hok;simp only[ct]at hl;have zW:∀k v,vs'[k]? = some v->tmps.getD (i+1+k) Go.undef=v:=by intro k u hk;have:=hv (k+1) u (by simpa using hk);rw[<-this];congr 1;omega
  have V4:tmps.getD i Go.undef=v:=by have:=hv 0 v rfl;simpa using this
  have SC:i<S.rt.length:=by rw[st.gq];omega
  -- zu slot,and on
  have go:∀(S1:St)(g1:ay)(H1:BS)(av:AV),az h S1 g1 tmps H1->g1.Pr=Pr->g1.cM g->qe h S1 g1 av v->(∀r∈av.roots,r=i)->(∀u r,r∈(S1.get u).roots->r<i)->
    (∀j,i+1<=j->Sub (Fs j) H1)->fQ g.hd (i+1) ks vs'->∃g' H',az h (enter (S1.set i av) (i+1) ks a.2) g' tmps H'/\g'.Pr=Pr/\g'.cM g:=by
   intro S1 g1 H1 av s1 SG sZ qU hr bQ tU Vu;have s2:=s1.tJ i qU;rw[aaf V4]at s2;obtain⟨g',H',k1,k2,k3⟩:=P8 oG ks (i+1) a.2 vs' (S1.set i av) g1 H1 s2 r2 SG zW (by
    intro u r hr';rw[St.gn]at hr';split at hr'
    .have:=hr r hr';omega
    .have:=bQ u r hr';omega) hok.2 tU (by omega) (by rw[sZ.1];exact Vu)
   exact⟨g',H',k1,k2,sZ.trans k3⟩
  -- a root,zu slot,and on
  have root:∀(t:Ty)(m:Mk)(x:t.den)(c:List Value),t.nz=true->aq h Pr t m x c (Fs i)->v=cU t c->aK g.hd t m c->fQ g.hd (i+1) ks vs'->
    ∃g' H',az h (enter ((S.aD i (some ⟨t,m,x,false⟩)).set i (cW i t m x [])) (i+1) ks a.2) g' tmps H'/\g'.Pr=Pr/\g'.cM g:=by
   intro t m x c hz rep ev mY Vu;obtain⟨g1,s1,p1,p2,p3,p4,_⟩:=st.ko SC (by rw[gN];exact rep) mY (hH i (b7 _)) none (fun b hb=>by simp at hb) (fun u=>.inl (by
    cases hc:(S.get u).roots.contains i with
    | false=>rfl
    | true=>have:=hb u i (by simpa using hc);omega))
   have bE:(S.aD i (some ⟨t,m,x,false⟩)).root i=some ⟨t,m,x,false⟩:=by rw[St.bY];simp[SC]
   have eg:b8 h t c (g1.base i) []=some (g1.base i,c):=by cases t<;>rfl
   refine go _ g1 _ _ s1 (p1.trans gN) p2 ?_ (Fm i t m x []) (fun u r hr=>hb u r hr) ?_ Vu
   .rw[ev];have h_:aq h g1.Pr t m x c (Fs i):=by rw[p1,gN];exact rep
    refine dc.rel h_ (DR bE t m x [] (g1.base i) c (Fs i) (by simp only[focus]) (by simp only[bq]) ?_ h_) (Ty.kr hz);rw[p3];exact eg
   .intro j hj b hb';exact⟨hH j (by omega) b hb',fun h2=>oG j i (by omega) b hb' h2,by simp⟩
  cases k with
  | val t=>simp only[enter];refine go S g H _ st gN (.refl g) ?_ (by simp[AV.roots]) hb (fun j hj=>hH j (by omega)) (by simpa only [fQ] using hm);obtain⟨c,rep,e⟩:=r1;simp only[qe];exact⟨c,by rw[gN];exact rep,e⟩
  | bZ t=>simp only[enter];refine go S g H _ st gN (.refl g) ?_ (by simp[AV.roots]) hb (fun j hj=>hH j (by omega)) (by simpa only [fQ] using hm);simp only[qe];obtain⟨b,o,cs,e1,e2,e3⟩:=r1;exact⟨b,o,cs,e1,by rw[gN];exact e2,by rw[gN];exact e3⟩
  | fn=>
   simp only[enter];refine go S g H _ st gN (.refl g) ?_ (by simp[AV.roots]) hb (fun j hj=>hH j (by omega)) (by simpa only [fQ] using hm);obtain⟨us,e,hc⟩:=r1;simp only[qe];refine⟨us,e,?_⟩;have:∀(l:List bt)(us:List Value),nF h (PG Pr) l us->nF h g l us:=by
    intro l
    induction l with
    | nil=>intro us h;exact h
    | cons x l ih=>
     intro us hh;simp only[nF]at hh⊢;obtain⟨u,us',e,h1,h2⟩:=hh;refine⟨u,us',e,?_,ih us' h2⟩;cases x with
     | val t y=>simp only[r5]at h1⊢;rw[gN];exact h1
     | bZ t y=>simp only[r5]at h1⊢;obtain⟨b,o,cs,e1,e2,e3⟩:=h1;exact⟨b,o,cs,e1,by rw[gN];exact e2,by rw[gN];exact e3⟩
   exact this _ us hc
  | own t m=>simp only[enter];simp only[PK.fW,bC]at hok;obtain⟨c,rep,e⟩:=r1;exact root t m a.1 c hok.1.1 rep e (aK.ak t hok.1.2) (by simpa only [fQ] using hm)
  | cN t m m'=>
   simp only[enter];simp only[PK.fW,bC]at hok;simp only[fQ]at hm;obtain⟨c,rep,e⟩:=r1;have hc:c=hdc g.hd (1048576+64 * i) t.width:=by
    have e2:=e.symm.trans hm.1.1;have h1:=BG rep;rw[e2]at h1;rw[<-h1];have:∀(t:Ty)(m:Mk)(l:List Value),t.nz=true->e9 t m=true->l.length=t.width->(cU t l).cells.toList=l\/∃y,t=.sl y:=by
     intro t m l hz hh hl;cases t with
     | pair a b=>left;simp[cU,Ty.agg,Value.cells]
     | sl y=>exact .inr ⟨y,rfl⟩
     | unit=>simp[Ty.nz]at hz
     | _=>cases m<;>simp[e9]at hh
    rcases this t m _ hok.1.1 hm.1.2 (xG g.hd (1048576+64 * i) t.width) with h2 | ⟨y,rfl⟩
    .exact h2
    .obtain⟨aa,n,k,VS⟩:=aq.slice rep;have e3:=e2;simp only[cU,Ty.agg,e7,dX,Ty.width,hdc,List.range_one,cm,fO,sj]at e3⊢;rw[VS]at e3;simp only[sj]at e3;rw[<-e3];simp[Value.cells]
   refine root t (Bk i m) a.1 c hok.1.1 (GN t m _ hm.1.2 rep) e ?_ hm.2;rw[hc];exact Gh t m _ hm.1.2 hok.1.2.1
  | cA t m m'=>
   simp only[enter];simp only[PK.fW]at hok;obtain⟨b,c,F0,e,rep,ho,bQ,hs0,hn0⟩:=r1;obtain⟨g1,s1,p1,p2,p3,p4,_⟩:=st.ko SC (by rw[gN];exact rep) (aK.ak t hok.1) (fun z hz=>hH i (b7 _) z (hs0 z hz)) (some b)
    (fun b' hb'=>by simp only[aI]at hb';subst hb';exact⟨hH i (b7 _) b bQ,hn0,ho⟩) (fun u=>.inl (by
    cases hc:(S.get u).roots.contains i with
    | false=>rfl
    | true=>have:=hb u i (by simpa using hc);omega))
   have bE:(S.aD i (some ⟨t,m,a.1,true⟩)).root i=some ⟨t,m,a.1,true⟩:=by rw[St.bY];simp[SC]
   refine go _ g1 _ _ s1 (p1.trans gN) p2 ?_ (by simp[AV.roots]) (fun u r hr=>hb u r hr) ?_ (by simpa only [fQ] using hm)
   .simp only[qe];intro R hR d hf;have vp:R=⟨t,m,a.1,true⟩:=by have cg:(S.aD i (some ⟨t,m,a.1,true⟩)).root i=some R:=hR;rw[bE]at cg;simp only[aI]at cg;exact cg.symm
    subst vp;refine⟨by simp only[bq],b,0,c,?_,e⟩;have eg:b8 h t c (g1.base i) []=some (g1.base i,c):=by cases t<;>rfl
    rw[p3,eg];simp[ay.base,p4]
   .intro j hj z hz;refine⟨hH j (by omega) z hz,fun h2=>oG j i (by omega) z hz (hs0 z h2),?_⟩;intro h2;simp only[aI]at h2;subst h2;exact oG j i (by omega) _ hz bQ
theorem yA.len{h:Array Obj}{Pr:BS}{Fs:Nat->BS}:∀(ks:List PK)(i:Nat){a:eV ks}{vs:List Value},yA h Pr Fs i ks a vs->vs.length=ks.length
 | [],_,_,_,r=>by rw[show _=[] from r];rfl
 | k::ks,i,_,_,r=>by
  obtain⟨v,vs',rfl,_,r2⟩:=r;simp[yA.len ks (i+1) r2]
theorem Mj{h:Array Obj}{Pr:BS}{Fs:Nat->BS}(us:List Value):∀(ks:List PK)(i:Nat)(a:eV ks)(vs:List Value),yA h Pr Fs i ks a vs->ks.all PK.fW=true->(∀k,vs[k]? = us[i+k]?)->
  fQ (fun s=>((us.getD ((s-1048576) / 64) Go.undef).cells).getD ((s-1048576) % 64) Go.undef) i ks vs
 | [],_,_,_,_,_,_=>by simp only[fQ]
 | k::ks,i,a,vs,r,hok,hu=>by
  obtain⟨v,vs',rfl,r1,r2⟩:=r;simp only[gK,bC]at hok;have ih:=Mj us ks (i+1) a.2 vs' r2 hok.2 (fun k=>by have:=hu (k+1);rw[show i+1+k=i+(k+1) by omega,<-this];simp);cases k with
  | cN t m m'=>
   simp only[fQ];refine⟨⟨?_,?_⟩,ih⟩
   .simp only[PK.fW,bC]at hok;obtain⟨c,rep,e⟩:=r1;have hw:=aq.width t rep;have h64:=qQ hok.1.2.2.2;have d9:=BG rep;rw[<-e]at d9;have hui:us.getD i Go.undef=v:=by have:=hu 0;simp only[nS,GZ]at this;simp only[List.getD,<-this,uk]
    have:hdc (fun s=>((us.getD ((s-1048576) / 64) Go.undef).cells).getD ((s-1048576) % 64) Go.undef) (1048576+64 * i) t.width=c:=by
     apply xA (by rw[xG,hw]);intro k h1 h2;rw[xG]at h1;simp only[hdc,um,List.getElem_range];rw[show(1048576+64 * i+k-1048576) / 64=i by omega,show(1048576+64 * i+k-1048576) % 64=k by omega,hui];have hk:k<v.cells.size:=by rw[<-eS,d9];omega
     simp only[oX,qP hk,uk];rw[<-Array.getElem_toList];simp only[d9]
    rw[this];exact e
   .simp only[PK.fW,bC]at hok;exact hok.1.2.2.1
  | _=>simpa only [fQ] using ih
theorem kH.mono{h:Array Obj}{Pr f_:BS}{Gs:Nat->BS}(hp:Sub Pr f_):∀(ks:List RK)(i:Nat){a:fc ks}{us:List Value},kH h Pr Gs i ks a us->kH h f_ Gs i ks a us
 | [],_,_,_,r=>r
 | k::ks,i,_,_,r=>by
  obtain⟨v,vs',e,r1,r2⟩:=r;exact⟨v,vs',e,r1.mono hp,kH.mono hp ks (i+1) r2⟩
section
variable {P:Program} {C:Ctx} {D:Den C} (bn:hY P C) (dI:n8 P C D) (jJ:P.follows .mixedOrders=true)
include bn dI jJ
theorem ajg{f:FuncId}{fn:Func}{n:Nat}{Hh:Hints}{ks:List PK}{rs:List RK}{a:eV ks}{r:fc rs×cR ks}(hf:P.funcs[f]? = some fn)(h:u9 C D n fn Hh ks rs a=some r)
    {w:World} {Pr:BS} {Fs:Nat->BS} {vs:List Value} (pre:Pre w.heap Pr Fs ks a vs) :
    Calls P f vs.toArray w fun e w'=>∃val fD Gs Os us,e=.returned val/\HP w w' Pr Fs ks rs r.1 r.2 vs val fD Gs Os us:=by
  unfold u9 at h;split at h
  . simp at h
  . rename_i c hb
    split at h
    . rename_i wz
      simp only[bC]at wz;obtain⟨hok,hle,hcf⟩:=wz;have hle:=qQ hle;have hlen:=yA.len ks 0 pre.rel;refine calls_of_wp hf hb ?_;have Vy:=Mj vs ks 0 a vs pre.rel hok (fun k=>by simp);generalize hhd:(fun s=>((vs.getD ((s-1048576) / 64) Go.undef).cells).getD ((s-1048576) % 64) Go.undef)=hd at Vy
      let g0:ay:=⟨Pr,fun _=>[],fun _=>none,fun _=>Nil,hd,rE w.heap.size Fs,Pr⟩
      generalize HY:vs.toArray++Array.replicate (fn.ntmps-vs.toArray.size) Go.undef=tmps;have hsz:tmps.size=fn.ntmps:=by rw[<-HY];simp;omega
      have gT:∀k v,vs[k]? = some v->tmps.getD k Go.undef=v:=by intro k v hk;have hkl:k<vs.length:=(LO.1 hk).1;rw[<-HY];simp only[oX];rw[Array.getElem?_append_left (by simpa using hkl)];simp[hk]
      have bE:∀q,(⟨List.replicate fn.ntmps .undef,List.replicate fn.ntmps none⟩:St).root q=none:=by intro q;simp only[aO.g8,List.getD,sI];split<;>rfl
      have s8:∀t,(⟨List.replicate fn.ntmps .undef,List.replicate fn.ntmps none⟩:St).get t=.undef:=by intro t;simp only[St.get_eq,List.getD,sI];split<;>rfl
      have st0:az w.heap ⟨List.replicate fn.ntmps .undef,List.replicate fn.ntmps none⟩ g0 tmps (fun b=>∃i,Fs i b):=by
        refine { len:=by simp[hsz],gq:=by simp[hsz],slots:=fun t=>by rw[s8];simp only[qe],roots:=fun q R hR=>?_,dG:=fun q q' _ h1 _=>?_,dK:=fun q h1=>?_,hand:=fun q h1=>?_,bI:=?_,bP:=pre.bP,
                 b6:=fun q b h1 _=>?_,d_:=?_,tag:=fun q R hR=>?_,own:=fun q b h1 _=>?_,eY:=fun b hb=>.inr hb,fS:=fun b hb=>.inl hb,p0:=Sub.refl _,jY:=fun b hb=>.inl hb }
        . rw[bE]at hR;simp at hR
        . rw[bE]at h1;simp at h1
        . rw[bE]at h1;simp at h1
        . rw[bE]at h1;simp at h1
        . rintro b ⟨i,hb⟩ hp;exact pre.dK i b hb hp
        . rw[bE]at h1;simp at h1
        . rintro b ⟨i,hb⟩;exact pre.lim i b hb
        . rw[bE]at hR;simp at hR
        . rw[bE]at h1;simp at h1
      obtain⟨g1,H1,C1,akv,JY⟩:=P8 pre.dG ks 0 a vs _ g0 _ st0 pre.rel rfl (fun k v hk=>by simpa using gT k v hk) (fun u q hq=>by rw[s8]at hq;simp[AV.roots]at hq) hok
        (fun j _ b hb=>⟨j,hb⟩) (by rw[hsz];omega) Vy
      refine DV (np:=vF 0 ks) (H:=Hh) bn dI jJ c n _ _ hcf h _ g1 ⟨tmps,[]⟩ w (C1.bx (Sub.nil _)) rfl ?_;intro e S' g' a' w' hk st' iY hfr hdf om;have fin:((vR C rs fn.results.toList S').bind fun r=>(outs Hh 0 ks r.2).bind fun o=>some (r.1,o))=some r->∃v,(results fn a'.tmps).run P w'=.ok v w'/\
          ∃val fD Gs Os us,Ending.returned v=.returned val/\HP w w' Pr Fs ks rs r.1 r.2 vs val fD Gs Os us:=by
        intro hk;simp only[cJ,aI]at hk;obtain⟨⟨rr,S2⟩,hg,o,ho,rfl⟩:=hk;obtain⟨us,g2,H2,Gs,k1,k2,k3,k4,k5,k6,k7,k8,k9,gO⟩:=O_ bn rs _ S' g' Nil 0 rr S2 st' hg;have pM:=(JY.trans iY).trans k3;obtain⟨g3,H3,Os,q⟩:=Ir (Hh:=Hh) ks 0 vs S2 g2 H2 o k2 ho (fun k v hk hmem=>by
          rw[jx]at hmem;rw[jx,om k hmem];exact gT k v hk) hlen (by rw[pM.1];exact Vy)
        obtain⟨S3,rC⟩:=q.st;have JZ:=pM.trans q.same;have hL:g3.L=rE w.heap.size Fs:=JZ.2.1;have hP0:g3.P0=Pr:=JZ.2.2;have hL1:g1.L=rE w.heap.size Fs:=JY.2.1;refine⟨tF us,aad k1,tF us,g3.Pr,Gs,Os,us,rfl,?_⟩
        exact {
          res:=kH.mono q.pr rs 0 k5
          val:=rfl
          out:=q.rel
          pr:=by rw[<-hP0];exact rC.p0
          jY:=fun b hb=>by have:=rC.jY b hb;rw[hP0,hL]at this;exact this
          gL:=fun i b hb=>by rw[<-hL];exact rC.eY b (q.hand b (k7 i b hb))
          oL:=fun i b hb=>by rw[<-hL];exact rC.eY b (q.sub i b hb)
          wk:=k8
          Kb:=q.dG
          go:=fun i j b h1 h2=>q.pz j b h2 (k7 i b h1)
          gp:=fun i b h1 h2=>rC.bI b (q.hand b (k7 i b h1)) h2
          op:=fun i b h1 h2=>rC.bI b (q.sub i b h1) h2
          tP:=fun i b h1=>rC.d_ b (q.hand b (k7 i b h1))
          xb:=fun i b h1=>rC.d_ b (q.sub i b h1)
          xo:=rC.bP
          fr:=by rw[<-hL1];exact hfr }
      cases e with
      | normal=>exact⟨hdf,fin hk⟩
      | ret=>exact⟨hdf,fin hk⟩
      | exit id=>simp at hk
    . simp at h
end
theorem Mq{P:Program}{C:Ctx}(bn:hY P C)(jJ:P.follows .mixedOrders=true){E:Den C}{lM:FuncId->Bool}(Jw:∀f,lM f=true->vY P C E f)(Cg:∀f a r,lM f=true->E f a=some r->DN P f)
  (hnm:∀(f:FuncId)(fn:Func),P.funcs[f]? = some fn->fn.name≠ "runtime.NumGoroutine"):∀n,n8 P C (Dn C E lM (fun g=>P.funcs[g]?) n)
 | 0=>⟨fun f a r h=>by simp[Dn]at h,fun f a r h=>by simp[Dn]at h⟩
 | n+1=>by
  have ih:=Mq bn jJ Jw Cg hnm n;refine⟨fun f a r h=>?_,fun f a r h=>?_⟩
  .simp only[Dn]at h;by_cases he:lM f=true
   .rw[aj he]at h;exact Jw f he a r h
   .rw[af he]at h;split at h
    .simp at h
    .rename_i fn hf;intro w Pr Fs vs pre;exact ajg bn ih jJ hf h pre
  .simp only[Dn]at h;by_cases he:lM f=true
   .rw[aj he]at h;exact Cg f a r he h
   .rw[af he]at h;split at h
    .simp at h
    .rename_i fn hf;refine⟨fn,hf,hnm f fn hf,?_⟩;unfold u9 at h;split at h
     .simp at h
     .rename_i c hb;rw[hb];rfl
end Go.V
namespace Go.V
noncomputable section
open Go
def zv:Value->Value->Bool
 | .int k a,.int j b=>decide (k=j)&&decide (a=b)
 | .bool a,.bool b=>decide (a=b)
 | .string a,.string b=>Nat.beq a.size 0&&Nat.beq b.size 0
 | .slice none n k,.slice none n' k'=>Nat.beq n n'&&Nat.beq k k'
 | _,_=>false
def I7:List Value->List Value->Bool
 | [],[]=>true
 | a::l,b::l'=>zv a b&&I7 l l'
 | _,_=>false
def HO:Value->Value->Bool
 | .agg a,.agg b=>I7 a.toList b.toList
 | a,b=>zv a b
theorem Pj{a:ByteArray}(h:Nat.beq a.size 0=true):a=ByteArray.empty:=by have h:=kO h;obtain⟨⟨l⟩⟩:=a;have:l=[]:=jU.1 h;subst this;rfl
theorem Mo:∀{a b:Value},zv a b=true->a=b:=by
 intro a b h;unfold zv at h;split at h
 .simp only[bC,gI]at h;rw[h.1,h.2]
 .simp only[gI]at h;rw[h]
 .simp only[bC]at h;rw[Pj h.1,Pj h.2]
 .simp only[bC]at h;rw[kO h.1,kO h.2]
 .simp at h
theorem Mi:∀{l l':List Value},I7 l l'=true->l=l'
 | [],[],_=>rfl
 | a::l,b::l',h=>by
  simp only[I7,bC]at h;rw[Mo h.1,Mi h.2]
 | [],_::_,h=>by simp[I7]at h
 | _::_,[],h=>by simp[I7]at h
theorem ajR{a b:Value}(h:HO a b=true):a=b:=by
 unfold HO at h;split at h
 .rename_i x y;have:=Mi h;rw[m8 this]
 .exact Mo h
def It(C:Ctx):List Field->Nat->Ty->Bool
 | [],_,.unit=>true
 | f::fs,off,.pair a b=>decide (a=C.ty f.type)&&(Nat.beq f.offset off&&((f.name != "_")&&(a.nz&&It C fs (off+a.width) b)))
 | _,_,_=>false
theorem OX{C:Ctx}:∀(fs:List Field)(off:Nat)(T:Ty),It C fs off T=true->mF C fs off T
 | [],off,T,h=>by
  cases T<;>simp[It]at h;simp only[mF]
 | f::fs,off,T,h=>by
  cases T with
  | pair a b=>simp only[It,bC,gI,bne_iff_ne,ne_eq]at h;obtain⟨e,h1,h2,h3,h4⟩:=h;subst e;exact⟨b,rfl,kO h1,h2,h3,OX fs _ b h4⟩
  | _=>simp[It]at h
def Eh(C:Ctx):TypeDesc->Ty->Bool
 | .int k,T=>decide (T=.int k)
 | .bool,T=>decide (T=.bool)
 | .string,T=>decide (T=.str)
 | .slice e,T=>decide (T=.sl (C.ty e))&&(C.ty e).nz
 | .struct fs,T=>It C fs.toList 0 T&&T.nz
 | _,_=>false
theorem abl{C:Ctx}{d:TypeDesc}{T:Ty}(h:Eh C d T=true):oA C d T:=by
 cases d<;>simp only[Eh,bC,gI]at h<;>first
  | exact h
  | exact⟨OX _ _ _ h.1,Ty.kr h.2⟩
  | simp at h
def Eu(P:Program)(C:Ctx)(t:TypeId):Bool:=
  if (C.ty t).nz then
    (match P.info? t with
     | some i=>Nat.beq i.size (C.ty t).width&&((match i.zero with | some z=>HO z (cU (C.ty t) (zc (C.ty t))) | none=>false)&&Nat.ble i.bytes 255)
     | none=>false)&&
    (Nat.blt 0 (C.ty t).width&&((match P.underlying t with | some d=>Eh C d (C.ty t) | none=>false)&&(Nat.blt (C.ty t).deep 10000&&
      (!((C.ty t).agg&&(C.ty t).comp)||(!P.stoodInHeld t&&!P.eqGuardType P.depth t)))))
  else true
theorem abN{P:Program}{C:Ctx}{t:TypeId}(h:Eu P C t=true)(hz:(C.ty t).nz=true):lW P C t:=by
 unfold Eu at h;rw[aj hz]at h;simp only[bC]at h;obtain⟨h1,h2,h3,h4,h5⟩:=h;refine⟨?_,nU.1 h2,?_,nU.1 h4,?_⟩
 .split at h1
  .rename_i i hi;simp only[bC]at h1;obtain⟨k1,k2,k3⟩:=h1;split at k2
   .rename_i z V9;exact⟨i,hi,kO k1,by rw[V9,ajR k2],qQ k3⟩
   .simp at k2
  .simp at h1
 .split at h3
  .rename_i d hd;exact⟨d,hd,abl h3⟩
  .simp at h3
 .intro ha hc;rw[ha,hc]at h5;simp only[Gu,cE,Cw,bC,jV]at h5;exact h5
theorem aa6{P:Program}{C:Ctx}(n:Nat)(Vv:∀t,Nat.ble t n=false->C.ty t=.unit)(h:(List.range (n+1)).all (Eu P C)=true):hY P C:=by
 intro t hz;cases hb:Nat.ble t n with
 | false=>rw[Vv t hb]at hz;simp[Ty.nz]at hz
 | true=>have:=qQ hb;rw[qC]at h;exact abN (h t (se.2 (by omega))) hz
theorem abA {P:Program} (h:P.funcs.toList.all (fun fn=>fn.name != "runtime.NumGoroutine")=true):∀(f:FuncId)(fn:Func),P.funcs[f]? = some fn->fn.name≠ "runtime.NumGoroutine" := by
 intro f fn hf;rw[qC]at h;have:=h fn (by rw[Gp];exact Ek hf);simpa using this
end
open Go.V
abbrev ep:Mk:=Mk.own 0 Mk.no
abbrev yO:Ty:=Ty.int IntKind.u8
abbrev vg:Ty:=Ty.int IntKind.u64
abbrev ah:Ty:=Ty.int IntKind.i64
abbrev l9:Mk:=Mk.own 1048576 Mk.no
abbrev qN:Ty:=Ty.sl yO
abbrev pS:Mk:=Mk.own 0 ep
abbrev bG:Ty:=Ty.sl ah
abbrev hU:Mk:=Mk.pr ep Mk.no
abbrev pR:Mk:=Mk.pr Mk.no hU
abbrev lf:Mk:=Mk.pr ep hU
abbrev sG:Ty:=Ty.pair ah (Ty.pair ah Ty.unit)
abbrev iK:Ty:=Ty.sl sG
abbrev kN:Ty:=Ty.pair ah (Ty.pair bG Ty.unit)
abbrev bK:Ty:=Ty.pair bG (Ty.pair ah Ty.unit)
abbrev z5:Mk:=Mk.pr Mk.no (Mk.pr pR hU)
abbrev bR:Ty:=Ty.pair ah sG
abbrev iW:Ty:=Ty.pair qN sG
abbrev bX:Ty:=Ty.sl bR
abbrev jt:Ty:=Ty.sl bX
abbrev iC:Ty:=Ty.pair ah bR
abbrev z4:Mk:=Mk.own 0 (Mk.pr Mk.no (Mk.pr Mk.no (Mk.pr Mk.no (Mk.pr Mk.no (Mk.pr Mk.no (Mk.pr pR Mk.no))))))
abbrev qM:Ty:=Ty.sl iC
abbrev zZ:Mk:=Mk.pr lf (Mk.pr ep (Mk.pr Mk.no lf))
abbrev k_:Mk:=Mk.pr ep (Mk.pr (Mk.own 0 (Mk.pr Mk.no (Mk.pr Mk.no (Mk.pr ep (Mk.pr pR Mk.no))))) Mk.no)
abbrev rX:Mk:=Mk.pr lf (Mk.pr (Mk.own 0 (Mk.no)) (Mk.pr Mk.no (Mk.pr ep (Mk.pr ep (Mk.pr Mk.no Mk.no)))))
abbrev mu:Ty:=Ty.pair iK (Ty.pair bG (Ty.pair ah (Ty.pair Ty.bool Ty.unit)))
abbrev qL:Ty:=Ty.pair Ty.bool (Ty.pair kN (Ty.pair bX Ty.unit))
abbrev J_:Mk:=Mk.pr lf (Mk.pr (Mk.own 0 (Mk.pr Mk.no (Mk.pr Mk.no (Mk.pr Mk.no (Mk.pr ep (Mk.pr Mk.no Mk.no)))))) (Mk.pr Mk.no (Mk.pr ep (Mk.pr ep (Mk.pr Mk.no Mk.no)))))
abbrev vX:Ty:=Ty.pair ah (Ty.pair ah (Ty.pair bX (Ty.pair kN Ty.unit)))
abbrev I6:Ty:=Ty.sl vX
abbrev rD:Ty:=Ty.pair ah (Ty.pair bR (Ty.pair ah (Ty.pair ah (Ty.pair ah (Ty.pair kN Ty.unit)))))
abbrev lV:Ty:=Ty.sl rD
abbrev jD:Ty:=Ty.pair bX (Ty.pair ah (Ty.pair Ty.bool (Ty.pair iK (Ty.pair qM Ty.unit))))
abbrev Ut:Ty:=Ty.sl jD
abbrev jC:Ty:=Ty.pair bX (Ty.pair I6 Ty.unit)
abbrev H9:Mk:=Mk.pr lf (Mk.pr (Mk.own 0 (Mk.pr ep (Mk.pr Mk.no (Mk.pr Mk.no lf)))) (Mk.pr Mk.no (Mk.pr z4 (Mk.pr ep (Mk.pr hU Mk.no)))))
abbrev vz:Mk:=Mk.pr k_ (Mk.pr (Mk.own 0 (Mk.pr ep (Mk.pr Mk.no (Mk.pr Mk.no lf)))) (Mk.pr Mk.no (Mk.pr z4 (Mk.pr ep (Mk.pr hU Mk.no)))))
abbrev dN:Ty:=Ty.pair jC (Ty.pair Ut (Ty.pair ah (Ty.pair lV (Ty.pair bG (Ty.pair bK Ty.unit)))))
end Go.V
namespace Go.V
open Go
noncomputable def Et:Nat:=237
noncomputable def ake(n:Nat):Ty:=cond (n.ble Et) (cond (n.ble 57) (cond (n.ble 27) (cond (n.ble 10) (cond (n.ble 4) (cond (n.ble 2) (cond (n.beq 2) ah Ty.unit) (cond (n.ble 3) (cond (n.beq 3) ah Ty.unit) (cond (n.beq 4) Ty.bool Ty.unit))) (cond (n.ble 6) (cond (n.ble 5) (cond (n.beq 5) yO Ty.unit) (cond (n.beq 6) yO Ty.unit)) (cond (n.ble 9) (cond (n.beq 9) Ty.str Ty.unit) (cond (n.beq 10) Ty.str Ty.unit)))) (cond (n.ble 22) (cond (n.ble 12) (cond (n.ble 11) (cond (n.beq 11) Ty.str Ty.unit) (cond (n.beq 12) vg Ty.unit)) (cond (n.ble 21) (cond (n.beq 21) (Ty.int IntKind.i32) Ty.unit) (cond (n.beq 22) qN Ty.unit))) (cond (n.ble 25) (cond (n.ble 24) (cond (n.beq 24) bG Ty.unit) (cond (n.beq 25) bK Ty.unit)) (cond (n.ble 26) (cond (n.beq 26) bK Ty.unit) (cond (n.beq 27) jt Ty.unit))))) (cond (n.ble 36) (cond (n.ble 32) (cond (n.ble 30) (cond (n.beq 30) bX Ty.unit) (cond (n.ble 31) (cond (n.beq 31) I6 Ty.unit) (cond (n.beq 32) jC Ty.unit))) (cond (n.ble 34) (cond (n.ble 33) (cond (n.beq 33) jC Ty.unit) (cond (n.beq 34) Ut Ty.unit)) (cond (n.ble 35) (cond (n.beq 35) lV Ty.unit) (cond (n.beq 36) dN Ty.unit)))) (cond (n.ble 44) (cond (n.ble 42) (cond (n.ble 37) (cond (n.beq 37) dN Ty.unit) (cond (n.beq 42) bX Ty.unit)) (cond (n.ble 43) (cond (n.beq 43) iK Ty.unit) (cond (n.beq 44) qM Ty.unit))) (cond (n.ble 46) (cond (n.ble 45) (cond (n.beq 45) jD Ty.unit) (cond (n.beq 46) jD Ty.unit)) (cond (n.ble 56) (cond (n.beq 56) bR Ty.unit) (cond (n.beq 57) bR Ty.unit)))))) (cond (n.ble 138) (cond (n.ble 65) (cond (n.ble 60) (cond (n.ble 58) (cond (n.beq 58) kN Ty.unit) (cond (n.ble 59) (cond (n.beq 59) kN Ty.unit) (cond (n.beq 60) rD Ty.unit))) (cond (n.ble 63) (cond (n.ble 61) (cond (n.beq 61) rD Ty.unit) (cond (n.beq 63) bX Ty.unit)) (cond (n.ble 64) (cond (n.beq 64) vX Ty.unit) (cond (n.beq 65) vX Ty.unit)))) (cond (n.ble 112) (cond (n.ble 94) (cond (n.ble 93) (cond (n.beq 93) bR Ty.unit) (cond (n.beq 94) bR Ty.unit)) (cond (n.ble 111) (cond (n.beq 111) iW Ty.unit) (cond (n.beq 112) iW Ty.unit))) (cond (n.ble 123) (cond (n.ble 122) (cond (n.beq 122) bR Ty.unit) (cond (n.beq 123) bR Ty.unit)) (cond (n.ble 137) (cond (n.beq 137) sG Ty.unit) (cond (n.beq 138) sG Ty.unit))))) (cond (n.ble 178) (cond (n.ble 147) (cond (n.ble 141) (cond (n.beq 141) iC Ty.unit) (cond (n.ble 142) (cond (n.beq 142) iC Ty.unit) (cond (n.beq 147) vg Ty.unit))) (cond (n.ble 164) (cond (n.ble 163) (cond (n.beq 163) qL Ty.unit) (cond (n.beq 164) qL Ty.unit)) (cond (n.ble 177) (cond (n.beq 177) mu Ty.unit) (cond (n.beq 178) mu Ty.unit)))) (cond (n.ble 214) (cond (n.ble 206) (cond (n.ble 198) (cond (n.beq 198) ah Ty.unit) (cond (n.beq 206) (.int .u32) Ty.unit)) (cond (n.ble 208) (cond (n.beq 208) vg Ty.unit) (cond (n.beq 214) vg Ty.unit))) (cond (n.ble 233) (cond (n.ble 232) (cond (n.beq 232) yO Ty.unit) (cond (n.beq 233) yO Ty.unit)) (cond (n.ble 236) (cond (n.beq 236) (Ty.int IntKind.i32) Ty.unit) (cond (n.beq 237) (Ty.int IntKind.i32) Ty.unit))))))) Ty.unit
noncomputable def ajJ(n:Nat):rI:=
 cond (n.ble 112) (cond (n.ble 68) (cond (n.ble 44) (cond (n.ble 33) (cond (n.ble 15) (cond (n.ble 12) (cond (n.ble 10) (⟨[],[]⟩) (⟨[.val qN],[.val Ty.bool (Mk.top Ty.bool)]⟩)) (cond (n.ble 13) (⟨[.val qN],[.val bK (Mk.no),.val jt (Mk.no),.val bG (Mk.no)]⟩) (cond (n.ble 14) (⟨[.val bK,.val jt],[.val dN (Mk.no),.val Ty.bool (Mk.top Ty.bool)]⟩) (⟨[.val bK,.val jt],[.val dN (Mk.top dN),.val Ty.bool (Mk.top Ty.bool)]⟩)))) (cond (n.ble 17) (cond (n.ble 16) (⟨[.val dN,.val bG],[.val dN (Mk.no)]⟩) (⟨[.val jD],[.val Ty.bool (Mk.top Ty.bool)]⟩)) (cond (n.ble 28) (⟨[],[]⟩) (cond (n.ble 29) (⟨[.val rD,.val rD],[.val Ty.bool (Mk.top Ty.bool)]⟩) (⟨[],[]⟩))))) (cond (n.ble 38) (cond (n.ble 35) (cond (n.ble 34) (⟨[.val bK,.val ah],[.val ah (Mk.top ah)]⟩) (⟨[.val ah],[.val ah (Mk.top ah)]⟩)) (cond (n.ble 36) (⟨[],[]⟩) (cond (n.ble 37) (⟨[.val bK,.val ah],[.val ah (Mk.top ah)]⟩) (⟨[.val bK,.val bR,.val kN],[.val bK (Mk.top bK)]⟩)))) (cond (n.ble 41) (cond (n.ble 39) (⟨[.val dN],[.val bK (Mk.top bK),.val Ty.bool (Mk.top Ty.bool)]⟩) (cond (n.ble 40) (⟨[.val dN],[.val Ty.bool (Mk.top Ty.bool)]⟩) (⟨[.val dN],[.val lV (Mk.top lV)]⟩))) (cond (n.ble 42) (⟨[.val dN],[.val Ty.bool (Mk.top Ty.bool)]⟩) (cond (n.ble 43) (⟨[.val bK,.val lV],[.val Ty.bool (Mk.top Ty.bool)]⟩) (⟨[.val qN],[.ptr iW (.no)]⟩)))))) (cond (n.ble 54) (cond (n.ble 49) (cond (n.ble 46) (cond (n.ble 45) (⟨[.cA iW (.no) (.no)],[.val bK (Mk.top bK)]⟩) (⟨[.cA iW (.no) (.no)],[.val jt (Mk.top jt)]⟩)) (cond (n.ble 47) (⟨[.cA iW (.no) (.no),.val ah],[.val ah (Mk.top ah)]⟩) (cond (n.ble 48) (⟨[.val qN,.val ah,.val ah],[.val ah (Mk.top ah)]⟩) (⟨[.val bK,.val ah],[.val jC lf,.val Ty.bool (Mk.top Ty.bool)]⟩)))) (cond (n.ble 51) (cond (n.ble 50) (⟨[.val bK],[.val bK (Mk.top bK)]⟩) (⟨[.val bX],[.val jD (Mk.top jD)]⟩)) (cond (n.ble 52) (⟨[.val bK,.val ah],[.val jC (Mk.top jC),.val Ty.bool (Mk.top Ty.bool)]⟩) (cond (n.ble 53) (⟨[.val bK],[.val bK (Mk.top bK)]⟩) (⟨[.val bX],[.val jD (Mk.top jD)]⟩))))) (cond (n.ble 62) (cond (n.ble 56) (cond (n.ble 55) (⟨[.val dN],[.val Ty.bool (Mk.top Ty.bool)]⟩) (⟨[.val dN],[.val dN J_]⟩)) (cond (n.ble 57) (⟨[.val dN,.val ah],[.val dN (Mk.no),.val Ty.bool (Mk.top Ty.bool)]⟩) (cond (n.ble 58) (⟨[.val ah,.val ah,.val ah],[.val Ty.bool (Mk.top Ty.bool)]⟩) (⟨[],[]⟩)))) (cond (n.ble 65) (cond (n.ble 63) (⟨[.val jC],[.val Ty.bool (Mk.top Ty.bool)]⟩) (cond (n.ble 64) (⟨[.val bX,.fn],[.val Ty.bool (Mk.top Ty.bool)]⟩) (⟨[],[]⟩))) (cond (n.ble 66) (⟨[.val bK],[.val Ty.bool (Mk.top Ty.bool)]⟩) (cond (n.ble 67) (⟨[.val bG,.val bG],[.val Ty.bool (Mk.top Ty.bool)]⟩) (⟨[.val bK],[.val bG (Mk.top bG)]⟩))))))) (cond (n.ble 89) (cond (n.ble 78) (cond (n.ble 73) (cond (n.ble 70) (cond (n.ble 69) (⟨[.val bG],[.val bG (Mk.top bG)]⟩) (⟨[],[.val ah (Mk.top ah)]⟩)) (cond (n.ble 71) (⟨[.val bK],[.val Ty.bool (Mk.top Ty.bool)]⟩) (cond (n.ble 72) (⟨[],[]⟩) (⟨[.val ah],[.val ah (Mk.top ah)]⟩)))) (cond (n.ble 75) (cond (n.ble 74) (⟨[.val bG,.val ah],[.val ah (Mk.top ah)]⟩) (⟨[.val Ty.bool,.val ah],[.val ah (Mk.top ah)]⟩)) (cond (n.ble 76) (⟨[.val ah],[.val Ty.bool (Mk.top Ty.bool)]⟩) (cond (n.ble 77) (⟨[.val ah],[.val ah (Mk.top ah)]⟩) (⟨[.val bK,.val bR,.val kN],[.val Ty.bool (Mk.top Ty.bool)]⟩))))) (cond (n.ble 83) (cond (n.ble 80) (cond (n.ble 79) (⟨[.val rD,.val ah,.bZ dN],[.val Ty.bool (Mk.top Ty.bool)]⟩) (⟨[.val bR],[.val Ty.bool (Mk.top Ty.bool)]⟩)) (cond (n.ble 81) (⟨[.val jD,.val ah],[.val Ty.bool (Mk.top Ty.bool)]⟩) (cond (n.ble 82) (⟨[.val dN,.val ah],[.val Ty.bool (Mk.top Ty.bool)]⟩) (⟨[.val dN],[.val Ty.bool (Mk.top Ty.bool)]⟩)))) (cond (n.ble 86) (cond (n.ble 84) (⟨[.val rD],[.val Ty.bool (Mk.top Ty.bool)]⟩) (cond (n.ble 85) (⟨[.val kN],[.val kN (Mk.top kN)]⟩) (⟨[.val bK,.val lV],[.val Ty.bool (Mk.top Ty.bool)]⟩))) (cond (n.ble 87) (⟨[.own lV ep,.fn],[.val lV ep]⟩) (cond (n.ble 88) (⟨[.val lV],[.val lV ep]⟩) (⟨[.val rD],[.val Ty.bool (Mk.top Ty.bool)]⟩)))))) (cond (n.ble 100) (cond (n.ble 94) (cond (n.ble 91) (cond (n.ble 90) (⟨[],[.val bK (Mk.top bK)]⟩) (⟨[.val bK,.val ah],[.val ah (Mk.top ah)]⟩)) (cond (n.ble 92) (⟨[.cA iW (.no) (.no),.val bG],[.val ah (Mk.top ah)]⟩) (cond (n.ble 93) (⟨[.cA iW (.no) (.no)],[.val bR (Mk.top bR)]⟩) (⟨[.cA iW (.no) (.no)],[.val ah (Mk.top ah)]⟩)))) (cond (n.ble 97) (cond (n.ble 95) (⟨[.val bX],[.val bX (Mk.top bX)]⟩) (cond (n.ble 96) (⟨[.val bK],[.val bG (Mk.top bG)]⟩) (⟨[.val ah,.val ah,.val ah],[.val Ty.bool (Mk.top Ty.bool)]⟩))) (cond (n.ble 98) (⟨[.val jC],[.val Ty.bool (Mk.top Ty.bool)]⟩) (cond (n.ble 99) (⟨[.val bK],[.val Ty.bool (Mk.top Ty.bool)]⟩) (⟨[.val dN],[.val Ty.bool (Mk.top Ty.bool)]⟩))))) (cond (n.ble 105) (cond (n.ble 102) (cond (n.ble 101) (⟨[.val jD,.val ah],[.val Ty.bool (Mk.top Ty.bool)]⟩) (⟨[.val dN,.val ah],[.val Ty.bool (Mk.top Ty.bool)]⟩)) (cond (n.ble 103) (⟨[.val jC],[.val jC lf]⟩) (cond (n.ble 104) (⟨[.val jD],[.val jD (Mk.top jD)]⟩) (⟨[.cA dN rX rX,.val ah],[]⟩)))) (cond (n.ble 108) (cond (n.ble 106) (⟨[.cA dN J_ rX,.val ah],[.val Ty.bool (Mk.top Ty.bool)]⟩) (cond (n.ble 107) (⟨[.val vX,.val ah],[.val bR (Mk.top bR),.val Ty.bool (Mk.top Ty.bool)]⟩) (⟨[],[]⟩))) (cond (n.ble 109) (⟨[.val I6,.fn],[.val Ty.bool (Mk.top Ty.bool)]⟩) (cond (n.ble 111) (⟨[.val vX],[.val Ty.bool (Mk.top Ty.bool)]⟩) (⟨[.val bR,.val ah],[.val Ty.bool (Mk.top Ty.bool)]⟩)))))))) (cond (n.ble 162) (cond (n.ble 138) (cond (n.ble 123) (cond (n.ble 117) (cond (n.ble 114) (cond (n.ble 113) (⟨[.val bX,.fn],[.val ah (Mk.top ah)]⟩) (⟨[.val bG,.val ah],[.val Ty.bool (Mk.top Ty.bool)]⟩)) (cond (n.ble 115) (⟨[.val ah],[.val ah (Mk.top ah)]⟩) (cond (n.ble 116) (⟨[.val bK,.val bR,.val ah],[.val Ty.bool (Mk.top Ty.bool)]⟩) (⟨[.val bK,.val bR],[.val bG (Mk.no),.val Ty.bool (Mk.top Ty.bool)]⟩)))) (cond (n.ble 120) (cond (n.ble 119) (⟨[.val ah],[.val Ty.bool (Mk.top Ty.bool)]⟩) (⟨[.val bX,.fn],[.val Ty.bool (Mk.top Ty.bool)]⟩)) (cond (n.ble 121) (⟨[.val bR],[.val Ty.bool (Mk.top Ty.bool)]⟩) (cond (n.ble 122) (⟨[.val iK,.fn],[.val Ty.bool (Mk.top Ty.bool)]⟩) (⟨[.val sG],[.val Ty.bool (Mk.top Ty.bool)]⟩))))) (cond (n.ble 129) (cond (n.ble 126) (cond (n.ble 125) (⟨[.val ah],[.val Ty.bool (Mk.top Ty.bool)]⟩) (⟨[.val qM,.fn],[.val Ty.bool (Mk.top Ty.bool)]⟩)) (cond (n.ble 127) (⟨[.val iC,.bZ ah],[.val Ty.bool (Mk.top Ty.bool)]⟩) (cond (n.ble 128) (⟨[.own lV ep,.val ah,.val ah],[.val lV ep]⟩) (⟨[.val lV,.fn],[.val Ty.bool (Mk.top Ty.bool)]⟩)))) (cond (n.ble 133) (cond (n.ble 130) (⟨[.val rD,.bZ rD],[.val Ty.bool (Mk.top Ty.bool)]⟩) (cond (n.ble 131) (⟨[.val lV,.fn],[.val ah (Mk.top ah)]⟩) (⟨[.val ah],[.val Ty.bool (Mk.top Ty.bool)]⟩))) (cond (n.ble 136) (⟨[.val ah],[.val ah (Mk.top ah)]⟩) (cond (n.ble 137) (⟨[.val bK,.val ah],[.val ah (Mk.top ah)]⟩) (⟨[.val ah],[.val ah (Mk.top ah)]⟩)))))) (cond (n.ble 149) (cond (n.ble 143) (cond (n.ble 140) (cond (n.ble 139) (⟨[],[.val ah (Mk.top ah)]⟩) (⟨[.val vX],[.val Ty.bool (Mk.top Ty.bool)]⟩)) (cond (n.ble 141) (⟨[.val bR,.val ah],[.val Ty.bool (Mk.top Ty.bool)]⟩) (cond (n.ble 142) (⟨[.val vX,.val ah],[.val bR (Mk.top bR),.val Ty.bool (Mk.top Ty.bool)]⟩) (⟨[.val ah],[.val Ty.bool (Mk.top Ty.bool)]⟩)))) (cond (n.ble 145) (cond (n.ble 144) (⟨[.val dN,.val rD],[.val Ty.bool (Mk.top Ty.bool)]⟩) (⟨[.val Ty.bool],[.val ah (Mk.top ah)]⟩)) (cond (n.ble 146) (⟨[.val bR],[.val Ty.bool (Mk.top Ty.bool)]⟩) (cond (n.ble 147) (⟨[.val dN,.val ah],[.val ah (Mk.top ah)]⟩) (⟨[.val bX],[.val bX (Mk.top bX)]⟩))))) (cond (n.ble 155) (cond (n.ble 151) (cond (n.ble 150) (⟨[.val iK],[.val iK (Mk.top iK)]⟩) (⟨[.val qM],[.val qM (Mk.top qM)]⟩)) (cond (n.ble 152) (⟨[.val jD],[.val iC (Mk.top iC),.val Ty.bool (Mk.top Ty.bool)]⟩) (cond (n.ble 153) (⟨[.val jC,.val iC],[.val jC lf,.val iC (Mk.top iC),.val iC (Mk.top iC),.val ah (Mk.top ah)]⟩) (⟨[.val jD,.val iC],[.val jD (Mk.top jD)]⟩)))) (cond (n.ble 159) (cond (n.ble 156) (⟨[.val jD],[.val jD (Mk.top jD)]⟩) (cond (n.ble 158) (⟨[.cA dN rX rX,.val ah,.val kN],[]⟩) (⟨[.val bR,.val iK],[.val ah (Mk.top ah)]⟩))) (cond (n.ble 160) (⟨[.val bR,.val iK],[.val qL (Mk.top qL),.val Ty.bool (Mk.top Ty.bool)]⟩) (cond (n.ble 161) (⟨[.val jC,.val ah,.val bX,.val kN],[.val jC lf,.val iC (Mk.top iC),.val Ty.bool (Mk.top Ty.bool)]⟩) (⟨[.val I6,.fn],[.val ah (Mk.top ah)]⟩))))))) (cond (n.ble 183) (cond (n.ble 172) (cond (n.ble 167) (cond (n.ble 164) (cond (n.ble 163) (⟨[.val bX,.fn],[.val ah (Mk.top ah)]⟩) (⟨[.val iK,.fn],[.val ah (Mk.top ah)]⟩)) (cond (n.ble 165) (⟨[.val qM,.fn],[.val ah (Mk.top ah)]⟩) (cond (n.ble 166) (⟨[.val ah],[.val Ty.bool (Mk.top Ty.bool)]⟩) (⟨[.val ah],[.val ah (Mk.top ah)]⟩)))) (cond (n.ble 169) (cond (n.ble 168) (⟨[.cA jC lf lf,.val iC],[.val iC (Mk.top iC),.val iC (Mk.top iC),.val ah (Mk.top ah)]⟩) (⟨[.cA dN rX rX,.val ah],[.val ah (Mk.top ah)]⟩)) (cond (n.ble 170) (⟨[.val bR,.val iK],[.ptr mu (.pr .no (.pr (.own 0 .no) .no))]⟩) (cond (n.ble 171) (⟨[.val bR,.val iK],[.val kN (Mk.top kN),.val Ty.bool (Mk.top Ty.bool)]⟩) (⟨[.val iK,.val ah],[.val ah (Mk.top ah),.val Ty.bool (Mk.top Ty.bool)]⟩))))) (cond (n.ble 177) (cond (n.ble 174) (cond (n.ble 173) (⟨[.val ah],[.val ah (Mk.top ah)]⟩) (⟨[.val bR,.val iK,.val ah,.val ah],[.val bX (Mk.top bX)]⟩)) (cond (n.ble 175) (⟨[.cN bG (Mk.top bG) (Mk.top bG)],[]⟩) (cond (n.ble 176) (⟨[.val bR,.val ah,.val ah,.val ah,.val ah],[.val ah (Mk.top ah)]⟩) (⟨[.val bR,.bZ ah],[.val Ty.bool (Mk.top Ty.bool)]⟩)))) (cond (n.ble 180) (cond (n.ble 178) (⟨[.cA mu (.pr .no (.pr (.own 0 .no) .no)) (.pr .no (.pr (.own 0 .no) .no)),.val bR],[]⟩) (cond (n.ble 179) (⟨[.cA mu (.pr .no (.pr (.own 0 .no) .no)) (.pr .no (.pr (.own 0 .no) .no)),.val ah],[.val ah (Mk.top ah)]⟩) (⟨[.cA mu (.pr .no (.pr (.own 0 .no) .no)) (.pr .no (.pr (.own 0 .no) .no)),.val Ty.bool],[]⟩))) (cond (n.ble 181) (⟨[.val ah,.val ah,.val ah,.bZ iK,.cA bX (Mk.top bX) (Mk.top bX)],[]⟩) (cond (n.ble 182) (⟨[.cN bX (Mk.top bX) (Mk.top bX),.fn],[]⟩) (⟨[.val bR,.val bR],[.val ah (Mk.top ah)]⟩)))))) (cond (n.ble 196) (cond (n.ble 190) (cond (n.ble 185) (cond (n.ble 184) (⟨[.cN bG (Mk.top bG) (Mk.top bG),.val ah,.val ah,.val ah],[]⟩) (⟨[.val vg],[.val ah (Mk.top ah)]⟩)) (cond (n.ble 186) (⟨[.cA mu (.pr .no (.pr (.own 0 .no) .no)) (.pr .no (.pr (.own 0 .no) .no)),.val ah,.val bG],[]⟩) (cond (n.ble 187) (⟨[.cN bX (Mk.top bX) (Mk.top bX),.val ah,.val ah,.val ah,.fn],[]⟩) (⟨[.cN bG (Mk.top bG) (Mk.top bG),.val ah,.val ah],[]⟩)))) (cond (n.ble 193) (cond (n.ble 191) (⟨[.val bG,.val ah,.val ah],[.val ah (Mk.top ah),.val ah (Mk.top ah)]⟩) (cond (n.ble 192) (⟨[.cN bG (Mk.top bG) (Mk.top bG),.val ah,.val ah],[]⟩) (⟨[.cN bG (Mk.top bG) (Mk.top bG),.val ah,.val ah],[.val Ty.bool (Mk.top Ty.bool)]⟩))) (cond (n.ble 194) (⟨[.val ah,.val ah],[.val Ty.bool (Mk.top Ty.bool)]⟩) (cond (n.ble 195) (⟨[.cN bG (Mk.top bG) (Mk.top bG),.val ah,.val ah,.val ah],[.val ah (Mk.top ah)]⟩) (⟨[.cN bG (Mk.top bG) (Mk.top bG),.val ah,.val ah,.val ah],[.val ah (Mk.top ah),.val Ty.bool (Mk.top Ty.bool)]⟩))))) (cond (n.ble 203) (cond (n.ble 198) (cond (n.ble 197) (⟨[],[]⟩) (⟨[.val vg],[.val ah (Mk.top ah)]⟩)) (cond (n.ble 201) (⟨[.cN bX (Mk.top bX) (Mk.top bX),.val ah,.val ah,.fn],[]⟩) (cond (n.ble 202) (⟨[.val bX,.val ah,.val ah,.fn],[.val ah (Mk.top ah),.val ah (Mk.top ah)]⟩) (⟨[.cN bX (Mk.top bX) (Mk.top bX),.val ah,.val ah,.fn],[]⟩)))) (cond (n.ble 206) (cond (n.ble 204) (⟨[.cN bX (Mk.top bX) (Mk.top bX),.val ah,.val ah,.fn],[.val Ty.bool (Mk.top Ty.bool)]⟩) (cond (n.ble 205) (⟨[.cN bX (Mk.top bX) (Mk.top bX),.val ah,.val ah,.val ah,.fn],[.val ah (Mk.top ah)]⟩) (⟨[.cN bX (Mk.top bX) (Mk.top bX),.val ah,.val ah,.val ah,.fn],[.val ah (Mk.top ah),.val Ty.bool (Mk.top Ty.bool)]⟩))) (cond (n.ble 211) (⟨[],[]⟩) (cond (n.ble 212) (⟨[.val ah],[.val Ty.bool (Mk.top Ty.bool)]⟩) (⟨[],[]⟩))))))))
noncomputable def aiZ(n:Nat):Hints:=
 cond (n.ble 97) (cond (n.ble 55) (cond (n.ble 40) (cond (n.ble 16) (cond (n.ble 13) (cond (n.ble 12) ({}) ({ keep:=[(7,[2,5,6,7,8,9,10],[2,6,7,8],[]),(11,[2,5,6,7,8,9,10,11,12],[2,5,6,7,8,9,10],[])] })) (cond (n.ble 14) ({ keep:=[(4,[4,7,8,22,23,24],[4,7,8],[])] }) (cond (n.ble 15) ({ keep:=[(4,[1,4,7,8,9],[4,7,8],[])] }) ({ keep:=[(5,[2,4,13,14,15],[2,4],[])],share:=[(1,2)] })))) (cond (n.ble 37) (cond (n.ble 36) ({}) ({ keep:=[(3,[1,5,9,10,11],[5],[])] })) (cond (n.ble 38) ({}) (cond (n.ble 39) ({ keep:=[(6,[1,2,4,5,17,18,19],[2,4,5],[])] }) ({ keep:=[(6,[1,3,4,44,45,46],[1,2,3],[]),(12,[1,3,88,89,90],[1,2],[])] }))))) (cond (n.ble 46) (cond (n.ble 43) (cond (n.ble 41) ({ keep:=[(3,[3,8,9,10],[3],[])] }) ({})) (cond (n.ble 44) ({ keep:=[(3,[0,3,4],[0,3],[])] }) (cond (n.ble 45) ({ keep:=[(3,[0,2,3,4],[0,2,3],[0])],share:=[(8,1)] }) ({ keep:=[(3,[0,3,4],[0,3],[0]),(7,[0,3,4,5,6],[0,3,4,5],[0])] })))) (cond (n.ble 51) (cond (n.ble 48) ({}) (cond (n.ble 49) ({ keep:=[(5,[4,6,17,18,19],[4,6],[])] }) ({}))) (cond (n.ble 52) ({ keep:=[(4,[1,4,6,7,8],[1,4,6],[])] }) (cond (n.ble 54) ({}) ({ keep:=[(4,[1,3],[2],[])] })))))) (cond (n.ble 82) (cond (n.ble 66) (cond (n.ble 62) (cond (n.ble 56) ({ keep:=[(3,[1,2,3,21,22,23],[1,2,3],[]),(8,[2,3,36,37,38],[2,3],[])] }) ({})) (cond (n.ble 63) ({ keep:=[(4,[1,25,26,27],[2],[])] }) (cond (n.ble 65) ({}) ({ keep:=[(2,[1,6,7,8],[1,2],[])] })))) (cond (n.ble 73) (cond (n.ble 67) ({ keep:=[(4,[0,1,12,13],[4],[])] }) (cond (n.ble 68) ({ keep:=[(6,[1,3,15,16,17],[1,3],[])] }) ({}))) (cond (n.ble 74) ({ keep:=[(2,[0,1,7,8],[4],[])] }) (cond (n.ble 81) ({}) ({ keep:=[(6,[1,2,5,6,7,8,17,18,19],[2,5,6,7,8],[])] }))))) (cond (n.ble 90) (cond (n.ble 85) (cond (n.ble 83) ({ keep:=[(3,[1,3,9,10,11],[1,3],[]),(9,[1,3,22,23,24],[1,2,3],[])] }) ({})) (cond (n.ble 86) ({ keep:=[(4,[1,2,11,12,13],[4],[])] }) (cond (n.ble 87) ({ keep:=[(5,[0,1,5,6],[0,5],[])],share:=[(7,5)] }) ({})))) (cond (n.ble 93) (cond (n.ble 91) ({ keep:=[(2,[1,2,5],[4],[])] }) (cond (n.ble 92) ({}) ({ share:=[(1,1)] }))) (cond (n.ble 95) ({}) (cond (n.ble 96) ({ keep:=[(5,[1,3,4],[1,3],[]),(14,[1,3,6],[1,3],[])] }) ({}))))))) (cond (n.ble 140) (cond (n.ble 110) (cond (n.ble 102) (cond (n.ble 99) (cond (n.ble 98) ({ keep:=[(4,[1,3],[1,2],[]),(9,[1,4],[2],[])] }) ({ keep:=[(2,[1,3],[1,2],[])] })) (cond (n.ble 100) ({ keep:=[(3,[1,3,4],[1,2,3],[]),(9,[1,3,5],[1,2,3],[]),(15,[1,3,5,6,7],[1,2,3,5],[])] }) (cond (n.ble 101) ({ keep:=[(4,[1,2,5],[1,2,4],[]),(9,[1,2,6],[1,2,4],[]),(14,[1,2,7],[4],[])] }) ({ keep:=[(5,[1,2,5,6,7,8],[2,4,5,6,7],[])] })))) (cond (n.ble 105) (cond (n.ble 103) ({ keep:=[(3,[2,3,11,12,13],[2,3],[])] }) ({})) (cond (n.ble 106) ({ share:=[(9,9),(9,10),(10,10)] }) (cond (n.ble 107) ({ keep:=[(2,[1,4,9,10,11],[4,5],[])] }) ({}))))) (cond (n.ble 117) (cond (n.ble 112) (cond (n.ble 111) ({ keep:=[(4,[1,31,32,33],[1,2],[])] }) ({})) (cond (n.ble 113) ({ keep:=[(2,[0,1,7,8],[4],[])] }) (cond (n.ble 116) ({}) ({ share:=[(10,6),(12,1),(14,4),(21,1)] })))) (cond (n.ble 136) (cond (n.ble 130) ({}) (cond (n.ble 131) ({ keep:=[(2,[0,1,7,8],[4],[])] }) ({}))) (cond (n.ble 137) ({ keep:=[(3,[1,2,5,6],[5],[])] }) (cond (n.ble 139) ({}) ({ keep:=[(6,[1,3],[2],[])] })))))) (cond (n.ble 170) (cond (n.ble 159) (cond (n.ble 147) (cond (n.ble 146) ({}) ({ keep:=[(2,[1,2,5],[4],[])] })) (cond (n.ble 156) ({}) (cond (n.ble 157) ({ keep:=[(100005,[0,1],[0],[0])] }) ({})))) (cond (n.ble 165) (cond (n.ble 160) ({ keep:=[(18,[1,2,4,9,11,13,95,96,97],[1,2,4,13],[])] }) (cond (n.ble 161) ({}) ({ keep:=[(2,[0,1,7,8],[4],[])] }))) (cond (n.ble 168) ({}) (cond (n.ble 169) ({ keep:=[(2,[0,1,5],[0,4],[0])] }) ({ keep:=[(15,[5,45],[5],[])] }))))) (cond (n.ble 185) (cond (n.ble 172) (cond (n.ble 171) ({}) ({ keep:=[(2,[0,1,6],[4,5],[])] })) (cond (n.ble 183) ({}) (cond (n.ble 184) ({ keep:=[(2,[0,1,2,3,8,9],[0],[0])] }) ({})))) (cond (n.ble 188) (cond (n.ble 186) ({ keep:=[(3,[0,18,19,20],[0],[0])] }) (cond (n.ble 187) ({ keep:=[(2,[0,1,2,3,4,10,11],[0],[0])] }) ({ keep:=[(1,[0,1,2,6],[0],[0]),(4,[0,1,2,6,7],[0,1,2,6],[0])] }))) (cond (n.ble 198) ({}) (cond (n.ble 199) ({ keep:=[(1,[0,1,2,3,8],[0],[0]),(4,[0,1,2,3,8,9],[0,1,2,3,8],[0])] }) ({})))))))
open Go.Proofs in
noncomputable def vK(n:Nat):Option Func:=
 cond (n.ble 110) (cond (n.ble 67) (cond (n.ble 43) (cond (n.ble 29) (cond (n.ble 14) (cond (n.ble 11) (cond (n.ble 10) (none) (some Tryz.f11)) (cond (n.ble 12) (some Tryz.f12) (cond (n.ble 13) (some Tryz.f13) (some Tryz.f14)))) (cond (n.ble 16) (cond (n.ble 15) (some Tryz.f15) (some Tryz.f16)) (cond (n.ble 17) (some Tryz.f17) (cond (n.ble 28) (none) (some Tryz.f29))))) (cond (n.ble 37) (cond (n.ble 34) (cond (n.ble 33) (none) (some Tryz.f34)) (cond (n.ble 35) (some Tryz.f35) (cond (n.ble 36) (none) (some Tryz.f37)))) (cond (n.ble 40) (cond (n.ble 38) (some Tryz.f38) (cond (n.ble 39) (some Tryz.f39) (some Tryz.f40))) (cond (n.ble 41) (some Tryz.f41) (cond (n.ble 42) (some Tryz.f42) (some Tryz.f43)))))) (cond (n.ble 53) (cond (n.ble 48) (cond (n.ble 45) (cond (n.ble 44) (some Tryz.f44) (some Tryz.f45)) (cond (n.ble 46) (some Tryz.f46) (cond (n.ble 47) (some Tryz.f47) (some Tryz.f48)))) (cond (n.ble 50) (cond (n.ble 49) (some Tryz.f49) (some Tryz.f50)) (cond (n.ble 51) (some Tryz.f51) (cond (n.ble 52) (some Tryz.f52) (some Tryz.f53))))) (cond (n.ble 58) (cond (n.ble 55) (cond (n.ble 54) (some Tryz.f54) (some Tryz.f55)) (cond (n.ble 56) (some Tryz.f56) (cond (n.ble 57) (some Tryz.f57) (some Tryz.f58)))) (cond (n.ble 64) (cond (n.ble 62) (none) (cond (n.ble 63) (some Tryz.f63) (some Tryz.f64))) (cond (n.ble 65) (none) (cond (n.ble 66) (some Tryz.f66) (some Tryz.f67))))))) (cond (n.ble 88) (cond (n.ble 77) (cond (n.ble 72) (cond (n.ble 69) (cond (n.ble 68) (some Tryz.f68) (some Tryz.f69)) (cond (n.ble 70) (some Tryz.f70) (cond (n.ble 71) (some Tryz.f71) (none)))) (cond (n.ble 74) (cond (n.ble 73) (some Tryz.f73) (some Tryz.f74)) (cond (n.ble 75) (some Tryz.f75) (cond (n.ble 76) (some Tryz.f76) (some Tryz.f77))))) (cond (n.ble 82) (cond (n.ble 79) (cond (n.ble 78) (some Tryz.f78) (some Tryz.f79)) (cond (n.ble 80) (some Tryz.f80) (cond (n.ble 81) (some Tryz.f81) (some Tryz.f82)))) (cond (n.ble 85) (cond (n.ble 83) (some Tryz.f83) (cond (n.ble 84) (some Tryz.f84) (some Tryz.f85))) (cond (n.ble 86) (some Tryz.f86) (cond (n.ble 87) (some Tryz.f87) (some Tryz.f88)))))) (cond (n.ble 99) (cond (n.ble 93) (cond (n.ble 90) (cond (n.ble 89) (some Tryz.f89) (some Tryz.f90)) (cond (n.ble 91) (some Tryz.f91) (cond (n.ble 92) (some Tryz.f92) (some Tryz.f93)))) (cond (n.ble 96) (cond (n.ble 94) (some Tryz.f94) (cond (n.ble 95) (some Tryz.f95) (some Tryz.f96))) (cond (n.ble 97) (some Tryz.f97) (cond (n.ble 98) (some Tryz.f98) (some Tryz.f99))))) (cond (n.ble 104) (cond (n.ble 101) (cond (n.ble 100) (some Tryz.f100) (some Tryz.f101)) (cond (n.ble 102) (some Tryz.f102) (cond (n.ble 103) (some Tryz.f103) (some Tryz.f104)))) (cond (n.ble 107) (cond (n.ble 105) (some Tryz.f105) (cond (n.ble 106) (some Tryz.f106) (some Tryz.f107))) (cond (n.ble 108) (none) (cond (n.ble 109) (some Tryz.f109) (some Tryz.f110)))))))) (cond (n.ble 153) (cond (n.ble 131) (cond (n.ble 120) (cond (n.ble 115) (cond (n.ble 112) (cond (n.ble 111) (some Tryz.f111) (some Tryz.f112)) (cond (n.ble 113) (some Tryz.f113) (cond (n.ble 114) (some Tryz.f114) (some Tryz.f115)))) (cond (n.ble 117) (cond (n.ble 116) (some Tryz.f116) (some Tryz.f117)) (cond (n.ble 118) (some Tryz.f118) (cond (n.ble 119) (some Tryz.f119) (some Tryz.f120))))) (cond (n.ble 125) (cond (n.ble 122) (cond (n.ble 121) (some Tryz.f121) (some Tryz.f122)) (cond (n.ble 123) (some Tryz.f123) (cond (n.ble 124) (some Tryz.f124) (some Tryz.f125)))) (cond (n.ble 128) (cond (n.ble 126) (some Tryz.f126) (cond (n.ble 127) (some Tryz.f127) (none))) (cond (n.ble 129) (some Tryz.f129) (cond (n.ble 130) (some Tryz.f130) (some Tryz.f131)))))) (cond (n.ble 142) (cond (n.ble 136) (cond (n.ble 133) (cond (n.ble 132) (some Tryz.f132) (some Tryz.f133)) (cond (n.ble 134) (some Tryz.f134) (cond (n.ble 135) (some Tryz.f135) (some Tryz.f136)))) (cond (n.ble 139) (cond (n.ble 137) (some Tryz.f137) (cond (n.ble 138) (some Tryz.f138) (some Tryz.f139))) (cond (n.ble 140) (some Tryz.f140) (cond (n.ble 141) (some Tryz.f141) (none))))) (cond (n.ble 147) (cond (n.ble 144) (cond (n.ble 143) (some Tryz.f143) (none)) (cond (n.ble 145) (some Tryz.f145) (cond (n.ble 146) (some Tryz.f146) (some Tryz.f147)))) (cond (n.ble 150) (cond (n.ble 148) (some Tryz.f148) (cond (n.ble 149) (some Tryz.f149) (some Tryz.f150))) (cond (n.ble 151) (some Tryz.f151) (cond (n.ble 152) (some Tryz.f152) (some Tryz.f153))))))) (cond (n.ble 174) (cond (n.ble 163) (cond (n.ble 158) (cond (n.ble 155) (cond (n.ble 154) (some Tryz.f154) (some Tryz.f155)) (cond (n.ble 156) (some Tryz.f156) (cond (n.ble 157) (some Tryz.f157) (some Tryz.f158)))) (cond (n.ble 160) (cond (n.ble 159) (some Tryz.f159) (some Tryz.f160)) (cond (n.ble 161) (some Tryz.f161) (cond (n.ble 162) (some Tryz.f162) (some Tryz.f163))))) (cond (n.ble 168) (cond (n.ble 165) (cond (n.ble 164) (some Tryz.f164) (some Tryz.f165)) (cond (n.ble 166) (some Tryz.f166) (cond (n.ble 167) (some Tryz.f167) (some Tryz.f168)))) (cond (n.ble 171) (cond (n.ble 169) (some Tryz.f169) (cond (n.ble 170) (some Tryz.f170) (some Tryz.f171))) (cond (n.ble 172) (some Tryz.f172) (cond (n.ble 173) (some Tryz.f173) (some Tryz.f174)))))) (cond (n.ble 185) (cond (n.ble 179) (cond (n.ble 176) (cond (n.ble 175) (some Tryz.f175) (some Tryz.f176)) (cond (n.ble 177) (some Tryz.f177) (cond (n.ble 178) (some Tryz.f178) (some Tryz.f179)))) (cond (n.ble 182) (cond (n.ble 180) (some Tryz.f180) (cond (n.ble 181) (some Tryz.f181) (some Tryz.f182))) (cond (n.ble 183) (some Tryz.f183) (cond (n.ble 184) (some Tryz.f184) (some Tryz.f185))))) (cond (n.ble 194) (cond (n.ble 187) (cond (n.ble 186) (some Tryz.f186) (some Tryz.f187)) (cond (n.ble 188) (some Tryz.f188) (cond (n.ble 193) (none) (some Tryz.f194)))) (cond (n.ble 199) (cond (n.ble 197) (none) (cond (n.ble 198) (some Tryz.f198) (some Tryz.f199))) (cond (n.ble 211) (none) (cond (n.ble 212) (some Tryz.f212) (none))))))))
noncomputable def ctx:Ctx:=⟨ake,ajJ,aiZ⟩
open Go.Proofs
theorem EG:hY Tryz.prog ctx:=aa6 Et (fun t h=>by show cond (Nat.ble t Et) _ _=_;rw[h];rfl) (by kernel_rfl)
theorem QV:Tryz.prog.follows .mixedOrders=true:=by kernel_rfl
theorem ajG:∀(f:FuncId)(fn:Func),Tryz.prog.funcs[f]? = some fn->fn.name≠ "runtime.NumGoroutine" := abA (by kernel_rfl)
end Go.V
namespace Go.V
noncomputable section
open Go
def Wf:(t:Ty)->t.den->Prop
 | .unit,_=>True
 | .int k,n=>(Lit.int k n).wf=true
 | .bool,_=>True
 | .str,s=>s.size<=maxLen
 | .sl t,xs=>xs.length<=maxLen/\∀x∈xs,Wf t x
 | .pair a b,x=>Wf a x.1/\Wf b x.2
section
variable {H:Type} {enc:TypeId×Value->H} {P:Program} {C:Ctx} {w:World} {sp:Nat->Bool} {held:Bool}
def Old(w:World):BS:=fun b=>b<w.heap.size
theorem lW.cellsOf{t:TypeId}(k:lW P C t):P.cellsOf t=(C.ty t).width:=by obtain⟨i,h1,h2,_⟩:=k.info;simp[Program.cellsOf,h1,h2]
theorem Oe(bn:hY P C){n:Nat}(ih:∀(t:TypeId)(cs:List Value)(z:DataW H×List MemPlace),(C.ty t).nz=true->DataW.trod enc P w 0 sp held n t cs=some z->
   ∃x:(C.ty t).den,Wf (C.ty t) x/\aq w.heap (Old w) (C.ty t) .no x cs Nil) {cs:List Value} :
  ∀(fs:List Field)(off:Nat)(T:Ty),mF C fs off T->(∀f∈fs,∃z,DataW.trod enc P w 0 sp held n f.type ((cs.drop f.offset).take (P.cellsOf f.type))=some z)->cs.length=off+T.width->
   ∃x:T.den,Wf T x/\aq w.heap (Old w) T .no x (cs.drop off) Nil
 | [],off,T,hs,_,hl=>by
  simp only[mF]at hs;subst hs;simp only[Ty.width,nS]at hl;exact⟨(),trivial,by simp only[aq];exact vi (by omega)⟩
 | f::fs,off,T,hs,hf,hl=>by
  obtain⟨b,rfl,ho,_,hnz,hs⟩:=hs;obtain⟨z,hz⟩:=hf f (bO ..);obtain⟨x,wx,rx⟩:=ih _ _ z hnz hz;rw[(bn _ hnz).cellsOf,ho]at rx;simp only[Ty.width]at hl;obtain⟨y,wy,ry⟩:=Oe bn ih fs (off+(C.ty f.type).width) b hs (fun g hg=>hf g (cD _ hg)) (by omega);refine⟨(x,y),⟨wx,wy⟩,?_⟩;simp only[aq];refine⟨_,_,Nil,Nil,?_,rx,ry,Sub.nil _,Sub.nil _,cq.nil _⟩;rw[<-oS,oZ]
theorem aa9(bn:hY P C):∀(n:Nat)(t:TypeId)(cs:List Value)(z:DataW H×List MemPlace),(C.ty t).nz=true->DataW.trod enc P w 0 sp held n t cs=some z->
   ∃x:(C.ty t).den,Wf (C.ty t) x/\aq w.heap (Old w) (C.ty t) .no x cs Nil:=by
 intro n
 induction n with
 | zero=>intro t cs z _ h;simp[DataW.trod]at h
 | succ n ih=>
  intro t cs z hnz h;have k:=bn t hnz;obtain⟨d,hd,iQ⟩:=k.desc;cases d with
  | int kd=>simp only[oA]at iQ;obtain⟨m,rfl,_,hw⟩:=DataW.trod_int hd h;rw[iQ];exact⟨m,hw,by simp only[aq]⟩
  | bool=>
   simp only[oA]at iQ;rw[iQ];have:∃b,cs=[.bool b]:=by unfold DataW.trod at h;rw[hd]at h;split at h<;>simp_all
   obtain⟨b,rfl⟩:=this;exact⟨b,trivial,by simp only[aq]⟩
  | string=>simp only[oA]at iQ;obtain⟨s,rfl,_,hw⟩:=DataW.trod_string hd h;rw[iQ];exact⟨s,hw,by simp only[aq]⟩
  | struct fs=>
   simp only[oA]at iQ;obtain⟨xs,m,e,_,hl,hlen,hf⟩:=DataW.trod_struct hd h;obtain rfl:n=m:=by omega
   rw[k.cellsOf]at hl;have:=Oe (cs:=cs) bn ih fs.toList 0 (C.ty t) iQ.1 (fun f hf'=>by
    obtain⟨i,hi,e⟩:=kR.1 hf';rw[eS]at hi;have h1:=hf i f (by rw[<-e];simp[hi]);exact⟨xs[i],by rw[h1];simp⟩) (by omega)
   simpa using this
  | slice e=>
   simp only[oA]at iQ;obtain⟨he,JI⟩:=iQ;have ke:=bn e JI;rw[he];rcases DataW.trod_slice hd h with⟨rfl,_⟩ | ⟨a,len,cap,elems,rest,m,e1,rfl,_,_,hlc,hcm,hel,eg,_⟩
   .exact⟨[],⟨eU _,fun x hx=>by simp at hx⟩,by simp only[aq];exact⟨none,0,by simp,by simp,fun h=>absurd rfl h⟩⟩
   .obtain rfl:n=m:=by omega
    rw[ke.cellsOf]at eg;have hpos:=ke.pos;have key:∀i,i<len->∃(x:(C.ty e).den)(cs:List Value),Wf (C.ty e) x/\aq w.heap (Old w) (C.ty e) .no x cs Nil/\cs.length=(C.ty e).width/\∀j,j<(C.ty e).width->w.cell? ((a.add (i * (C.ty e).width)).add j)=cs[j]?:=by intro i hi;have h1:=eg i hi;rw[fN (by omega)]at h1;rw[cJ]at h1;obtain⟨cs,h2,h3⟩:=h1;obtain⟨x,wx,rx⟩:=ih _ _ _ JI h3;obtain⟨_,hl,hc⟩:=World.cells?_some h2;exact⟨x,cs,wx,rx,hl,hc⟩
    by_cases h0:len=0
    .subst h0;exact⟨[],⟨eU _,fun x hx=>by simp at hx⟩,by simp only[aq];exact⟨some a,cap,by simp,by simp,fun h=>absurd rfl h⟩⟩
    .have hz:(C.ty e).den:=(C.ty e).zero;have V_:∀i,∃(x:(C.ty e).den),i<len->∃(cs:List Value),Wf (C.ty e) x/\aq w.heap (Old w) (C.ty e) .no x cs Nil/\cs.length=(C.ty e).width/\∀j,j<(C.ty e).width->w.cell? ((a.add (i * (C.ty e).width)).add j)=cs[j]?:=by
      intro i;by_cases hi:i<len
      .obtain⟨x,h⟩:=key i hi;exact⟨x,fun _=>h⟩
      .exact⟨hz,fun h=>absurd h hi⟩
     obtain⟨f,hf⟩:=sH V_;refine⟨(List.range len).map f,⟨by simp;omega,?_⟩,?_⟩
     .intro x hx;simp only[eE,se]at hx;obtain⟨i,hi,rfl⟩:=hx;obtain⟨_,h,_⟩:=hf i hi;exact h
     .have hb:∃cells ty fr,w.heap[a.block]? = some (.cells cells ty fr)/\a.spot=none:=by
       obtain⟨cs,_,_,hl,hc⟩:=hf 0 (by omega);have h1:=hc 0 hpos;rw[fN (by omega)]at h1;simp only[Nat.zero_mul,Addr.add,aX]at h1;unfold World.cell? at h1;split at h1
       .rename_i c ty fr hh;split at h1
        .simp at h1
        .rename_i hs;exact⟨c,ty,fr,hh,by simpa using hs⟩
       .simp at h1
      obtain⟨cells,ty,fr,hh,Cp⟩:=hb;obtain⟨ab,ao,as'⟩:=a;simp only at Cp hh;subst Cp;have hcell:∀i,i<len->∀j,j<(C.ty e).width->w.cell? (((⟨ab,ao,none⟩:Addr).add (i * (C.ty e).width)).add j)=cells[ao+i * (C.ty e).width+j]?:=by
       intro i hi j hj;have:((⟨ab,ao,none⟩:Addr).add (i * (C.ty e).width)).add j=⟨ab,ao+i * (C.ty e).width+j,none⟩:=by simp only[Addr.add];split<;>split<;>simp_all
       rw[this];simp[World.cell?,hh]
      have hsub:∀i,i<len->∀cs:List Value,cs.length=(C.ty e).width->(∀j,j<(C.ty e).width->w.cell? (((⟨ab,ao,none⟩:Addr).add (i * (C.ty e).width)).add j)=cs[j]?)->
        sub cells (ao+i * (C.ty e).width) (C.ty e).width=cs/\ao+i * (C.ty e).width+(C.ty e).width<=cells.size:=by
       intro i hi cs hl hc;have h2:∀j,j<(C.ty e).width->cells[ao+i * (C.ty e).width+j]? = cs[j]?:=fun j hj=>by rw[<-hcell i hi j hj];exact hc j hj
       have h3:ao+i * (C.ty e).width+(C.ty e).width<=cells.size:=by have:=h2 ((C.ty e).width-1) (by omega);rw[fN (by omega)]at this;have:=(qO.1 this).1;omega
       refine⟨?_,h3⟩;apply o4;intro j;simp only[sub,fk,f8];split
       .rename_i hj;rw[qR];exact h2 j hj
       .rename_i hj;rw[n5 (by omega)]
      simp only[aq];refine⟨some ⟨ab,ao,none⟩,cap,by simp,by simpa using hlc,fun _=>⟨ab,ao,cells,rfl,?_,⟨ty,fr,hh⟩,?_,?_⟩⟩
      .exact(qO.1 hh).1
      .obtain⟨cs,_,_,hl,hc⟩:=hf (len-1) (by omega);have:=(hsub (len-1) (by omega) cs hl hc).2;have e2:len * (C.ty e).width=(len-1) * (C.ty e).width+(C.ty e).width:=by rw[show len=(len-1)+1 by omega,iE];simp
       simp only[jw,GV];omega
      .intro i hi;simp only[jw,GV]at hi;obtain⟨cs,wx,rx,hl,hc⟩:=hf i hi;have e3:((List.range len).map f).getD i (C.ty e).zero=f i:=by simp[List.getD,hi]
       rw[e3,(hsub i hi cs hl hc).1];exact rx
  | _=>simp[oA]at iQ
theorem aj3{t:TypeId}(k:lW P C t){r:Reach}{b0:Nat}{v:Value}(hval:Value.okWide P w r b0 t v):v=cU (C.ty t) v.cells.toList:=by
 obtain⟨d,hd,iQ⟩:=k.desc;cases d with
 | int kd=>simp only[oA]at iQ;obtain⟨n,rfl⟩:=Go.WideShapes.okWide_int hd hval;rw[iQ];simp[cU,Ty.agg,Value.cells]
 | bool=>simp only[oA]at iQ;obtain⟨n,rfl⟩:=Go.WideShapes.okWide_bool hd hval;rw[iQ];simp[cU,Ty.agg,Value.cells]
 | string=>simp only[oA]at iQ;obtain⟨n,rfl⟩:=Go.WideShapes.okWide_string hd hval;rw[iQ];simp[cU,Ty.agg,Value.cells]
 | struct fs=>
  simp only[oA]at iQ;obtain⟨cs,rfl,_⟩:=Go.WideShapes.okWide_struct hd hval;have:(C.ty t).agg=true:=by
   generalize hfl:fs.toList=l at iQ;cases l with
   | nil=>exact absurd iQ.1 iQ.2
   | cons f l=>obtain⟨⟨b,e,_⟩,_⟩:=iQ;rw[e];rfl
  simp[cU,this,Value.cells]
 | slice e=>simp only[oA]at iQ;obtain⟨a,l,c,rfl⟩:=Go.WideShapes.okWide_slice hd hval;rw[iQ.1];simp[cU,Ty.agg,Value.cells]
 | _=>simp[oA]at iQ
def zq:List TypeId->List PK->Ctx->Prop
 | [],[],_=>True
 | t::ts,.val T::ks,C=>T=C.ty t/\(C.ty t).nz=true/\zq ts ks C
 | _,_,_=>False
def Bp:(ks:List PK)->eV ks->Prop
 | [],_=>True
 | .val t::ks,a=>Wf t a.1/\Bp ks a.2
 | _::ks,a=>Bp ks a.2
theorem Qn(bn:hY P C){b0:Nat}:∀(ts:List TypeId)(ks:List PK)(vs:List Value)(ds:List (DataW H))(ps:List MemPlace)(i:Nat),zq ts ks C->DataW.TrodAll enc P w 0 sp held ts vs ds ps->
  (∀(j:Nat) t v,ts[j]? = some t->vs[j]? = some v->Value.okWide P w .any b0 t v)->∃a:eV ks,Bp ks a/\yA w.heap (Old w) (fun _=>Nil) i ks a vs
 | [],[],vs,ds,ps,i,_,h,_=>by
  obtain⟨rfl,_,_⟩:=Go.ChangeShapes.trodAll_nil h;exact⟨(),trivial,rfl⟩
 | t::ts,.val T::ks,vs,ds,ps,i,hv,h,hok=>by
  obtain⟨rfl,hnz,hv⟩:=hv;obtain⟨v,vs',d,ds',p,q,rfl,rfl,rfl,⟨n,h1⟩,h2⟩:=Go.ChangeShapes.trodAll_cons h;obtain⟨x,wx,rx⟩:=aa9 bn n t _ _ hnz h1;obtain⟨a,wa,ra⟩:=Qn bn ts ks vs' ds' q (i+1) hv h2 (fun j t' v' ht zW=>hok (j+1) t' v' (by simpa using ht) (by simpa using zW));exact⟨(x,a),⟨wx,wa⟩,v,vs',rfl,⟨_,rx,aj3 (bn t hnz) (hok 0 t v rfl rfl)⟩,ra⟩
 | [],_::_,_,_,_,_,hv,_,_=>by simp[zq]at hv
 | _::_,[],_,_,_,_,hv,_,_=>by simp[zq]at hv
 | _::_,.own _ _::_,_,_,_,_,hv,_,_=>by simp[zq]at hv
 | _::_,.cA _ _ _::_,_,_,_,_,hv,_,_=>by simp[zq]at hv
 | _::_,.cN _ _ _::_,_,_,_,_,hv,_,_=>by simp[zq]at hv
 | _::_,.bZ _::_,_,_,_,_,hv,_,_=>by simp[zq]at hv
 | _::_,.fn::_,_,_,_,_,hv,_,_=>by simp[zq]at hv
theorem ajz{n b:Nat}(h:rE n (fun _=>Nil) b):n<=b:=h.elim id (fun⟨_,h⟩=>h.elim)
theorem aaR{W W':World}(h:jW (rE W.heap.size fun _=>Nil) W W'):Go.RowKit.Below W.heap.size W W':=
 ⟨h.os,h.tape,h.output,h.size,fun k hk=>h.block k hk fun hm=>by have:=ajz hm;omega⟩
end
end
end Go.V
namespace Go.V
noncomputable section
open Go
section
variable (C:Ctx) (D:Den C) {R:Type}
def xS(body:St->(Ex->St->Option R)->Option R)(canon fG:St->St):Nat->St->(Ex->St->Option R)->Option R
 | 0,_,_=>none
 | n+1,S,k=>body S fun e S=>match e with
  | .normal=>xS body canon fG n (canon S) k
  | e=>k e (fG S)
theorem QF(body:St->(Ex->St->Option R)->Option R)(canon fG:St->St)(k:Ex->St->Option R):∀(n:Nat)(S:St),r8 body canon fG n S k=xS body canon fG n (canon S) k
 | 0,_=>rfl
 | n+1,S=>by
  simp only[r8,xS];congr 1;funext e S;cases e with
  | normal=>exact QF body canon fG k n S
  | exit id=>rfl
  | ret=>rfl
noncomputable def mI(H:Hints)(n:Nat):Code->St->(Ex->St->Option R)->Option R
 | .skip,S,k=>k .normal S
 | .region id ops dr,S,k=>
  if KC ops then
   yu C D H id ops (ops.size+1) (m9 ops) S [] fun lg S=>
    if dr then (if DU ops&&CX (Region.before ops) lg lg&&HE (Region.before ops) ops (m9 ops) then k .normal S else none) else k .normal S
  else none
 | .seq a b,S,k=>mI H n a S fun e S=>match e with
  | .normal=>mI H n b (rL H b S) k
  | e=>k e S
 | .cond c a b,S,k=>
  match asBool (ev S c) with
  | some t=>br t (mI H n a S k) (mI H n b S k)
  | none=>none
 | .block id b,S,k=>mI H n b S fun e S=>match e with
  | .exit j=>if j=id then k .normal S else k (.exit j) S
  | e=>k e S
 | .loop b,S,k=>
  match H.keep.lookup (BI b) with
  | some kp=>xS (mI H n b) (St.canon kp.1 kp.2.2) (St.canon kp.2.1 kp.2.2) n (St.canon kp.1 kp.2.2 S) k
  | none=>none
 | .exit id,S,k=>k (.exit id) S
 | .ret,S,k=>k .ret S
 | _,_,_=>none
theorem aiU(H:Hints)(n:Nat):∀(c:Code),(exec C D H n c:St->(Ex->St->Option R)->Option R)=mI C D H n c:=by
 intro c
 induction c with
 | seq a b fP ki=>funext S k;simp only[exec,mI,fP,ki];rfl
 | cond c a b fP ki=>funext S k;simp only[exec,mI,fP,ki];rfl
 | block id b ih=>funext S k;simp only[exec,mI,ih];rfl
 | loop b ih=>funext S k;simp only[exec,mI,ih,QF];rfl
 | _=>funext S k;simp only[exec,mI]
inductive nI where
 | l | r
def tE:Code->List nI->Code
 | c,[]=>c
 | .seq a _,.l::p=>tE a p
 | .seq _ b,.r::p=>tE b p
 | .cond _ a _,.l::p=>tE a p
 | .cond _ _ b,.r::p=>tE b p
 | .block _ b,.l::p=>tE b p
 | .loop b,.l::p=>tE b p
 | _,_=>.skip
noncomputable def ux(H:Hints)(n:Nat):Nat->Code->St->(St->Option R)->(Ex->St->Option R)->Option R
 | 0,_,S,K,_=>K S
 | m+1,.seq a b,S,K,k=>mI C D H n a S fun e S=>match e with
  | .normal=>ux H n m b (rL H b S) K k
  | e=>k e S
 | _+1,_,_,_,_=>none
def BY:Nat->Code->Bool
 | 0,_=>true
 | m+1,.seq _ b=>BY m b
 | _+1,_=>false
theorem ZP(c:Code):tE c []=c:=by cases c<;>rfl
theorem O4(H:Hints)(n:Nat)(k:Ex->St->Option R):∀(m:Nat)(c:Code)(S:St),BY m c=true->
  ux C D H n m c S (fun S'=>mI C D H n (tE c (List.replicate m .r)) S' k) k=mI C D H n c S k
 | 0,c,S,_=>by simp only[ux,List.replicate,ZP]
 | m+1,c,S,h=>by
  cases c with
  | seq a b=>
   simp only[ux,mI];congr 1;funext e S';cases e with
   | normal=>exact O4 H n k m b (rL H b S') h
   | exit id=>rfl
   | ret=>rfl
  | _=>simp[BY]at h
theorem abn(H:Hints)(n m:Nat)(k:Ex->St->Option R)(c:Code)(q:List nI)(S:St)(hq:q=List.replicate m .r)(h:BY m c=true) :
  ux C D H n m c S (fun S'=>mI C D H n (tE c q) S' k) k=mI C D H n c S k:=by
 subst hq;exact O4 C D H n k m _ S h
noncomputable def uw(H:Hints)(n:Nat):Code->List nI->(Ex->St->Option R)->Ex->St->Option R
 | _,[],k=>k
 | .seq a b,.l::p,k=>uw H n a p fun e S=>match e with
  | .normal=>mI C D H n b (rL H b S) k
  | e=>k e S
 | .seq _ b,.r::p,k=>uw H n b p k
 | .cond _ a _,.l::p,k=>uw H n a p k
 | .cond _ _ b,.r::p,k=>uw H n b p k
 | .block id b,.l::p,k=>uw H n b p fun e S=>match e with
  | .exit j=>if j=id then k .normal S else k (.exit j) S
  | e=>k e S
 | _,_,_=>fun _ _=>none
end
def xR{α:Type}(d:α):Nat->Nat->List (Nat×α)->List α
 | _,0,_=>[]
 | i,n+1,[]=>d::xR d (i+1) n []
 | i,n+1,(j,v)::l=>cond (Nat.beq i j) (v::xR d (i+1) n l) (d::xR d (i+1) n ((j,v)::l))
def bz(n:Nat)(sl:List (Nat×AV))(rt:List (Nat×aB)):St:=⟨xR .undef 0 n sl,xR none 0 n (rt.map fun x=>(x.1,some x.2))⟩
section
variable {C:Ctx} (func:FuncId->Option Func) (D:Den C) (n:Nat)
def BR(f:FuncId):Code:=
 match func f with
 | some fn=>fn.body.getD .skip
 | none=>.skip
def Mm(f:FuncId):List ResultVar:=
 match func f with
 | some fn=>fn.results.toList
 | none=>[]
def Eg(f:FuncId):Nat:=
 match func f with
 | some fn=>fn.ntmps
 | none=>0
abbrev Out(C:Ctx)(f:FuncId):Type:=fc (C.sig f).res×cR (C.sig f).params
noncomputable def Bq(f:FuncId):Ex->St->Option (Out C f):=fun e S=>
 match e with
 | .exit _=>none
 | _=>(vR C (C.sig f).res (Mm func f) S).bind fun r=>(outs (C.hints f) 0 (C.sig f).params r.2).bind fun o=>some (r.1,o)
noncomputable def I5(f:FuncId)(a:eV (C.sig f).params):Option (Out C f):=
 match func f with
 | none=>none
 | some fn=>
  if fn.body.isSome&&((C.sig f).params.all PK.fW&&(Nat.ble (C.sig f).params.length fn.ntmps&&sq (vF 0 (C.sig f).params) (BR func f))) then
   mI C D (C.hints f) n (BR func f) (enter ⟨List.replicate fn.ntmps .undef,List.replicate fn.ntmps none⟩ 0 (C.sig f).params a) (Bq func f)
  else none
def runs(f:FuncId):Bool:=
 match func f with
 | none=>false
 | some fn=>fn.body.isSome&&((C.sig f).params.all PK.fW&&(Nat.ble (C.sig f).params.length fn.ntmps&&sq (vF 0 (C.sig f).params) (BR func f)))
def GL(f:FuncId)(a:eV (C.sig f).params):St:=enter ⟨List.replicate (Eg func f) .undef,List.replicate (Eg func f) none⟩ 0 (C.sig f).params a
theorem abG(f:FuncId)(a:eV (C.sig f).params)(h:runs (C:=C) func f=true) :
  I5 func D n f a=mI C D (C.hints f) n (BR func f) (GL func f a) (Bq func f):=by
 unfold runs at h;unfold I5 GL Eg;split at h
 .simp at h
 .rename_i fn hf;simp only[hf];rw[aj h]
noncomputable def LQ(f:FuncId)(p:List nI)(m:Nat)(S:St)(K:Ex->St->Option (Out C f)):Option (Out C f):=
 match tE (BR func f) p with
 | .loop b=>
  match (C.hints f).keep.lookup (BI b) with
  | some kp=>xS (mI C D (C.hints f) n b) (St.canon kp.1 kp.2.2) (St.canon kp.2.1 kp.2.2) m S K
  | none=>none
 | _=>none
noncomputable def LK(f:FuncId)(p:List nI)(m:Nat)(K:Ex->St->Option (Out C f)):Ex->St->Option (Out C f):=fun e S=>
 match tE (BR func f) p with
 | .loop b=>
  match (C.hints f).keep.lookup (BI b) with
  | some kp=>match e with
   | .normal=>LQ func D n f p m (St.canon kp.1 kp.2.2 S) K
   | e=>K e (St.canon kp.2.1 kp.2.2 S)
  | none=>none
 | _=>none
noncomputable def CQ(f:FuncId)(p q:List nI)(K:Ex->St->Option (Out C f)):Ex->St->Option (Out C f):=
 uw C D (C.hints f) n (tE (BR func f) p) q K
theorem vH(f:FuncId)(p:List nI)(S:St)(K:Ex->St->Option (Out C f)):LQ func D n f p 0 S K=none:=by
 unfold LQ;split
 .split<;>rfl
 .rfl
theorem ajf(f:FuncId)(a:eV (C.sig f).params):(match func f with
  | none=>none
  | some fn=>u9 C D n fn (C.hints f) (C.sig f).params (C.sig f).res a)=I5 func D n f a:=by
 unfold I5;split
 .rfl
 .rename_i fn hf;unfold u9 BR Bq Mm;rw[hf];simp only;cases fn.body with
  | none=>simp
  | some c=>simp only[Option.isSome_some,nR,uk,aiU];rfl
end
end
end Go.V
namespace Go.V
noncomputable section
open Go Go.Proofs Go.RowKit Go.ChangeShapes
structure Ext where
 den:Den ctx
 is:FuncId->Bool
 ok:∀f,is f=true->vY Tryz.prog ctx den f
 call:∀f a r,is f=true->den f a=some r->DN Tryz.prog f
noncomputable def DD(X:Ext)(n:Nat):Den ctx:=Dn ctx X.den X.is (fun g=>Tryz.prog.funcs[g]?) n
theorem ajN(X:Ext)(n:Nat):n8 Tryz.prog ctx (DD X n):=Mq EG QV X.ok X.call ajG n
theorem ai0(X:Ext){g:FuncId}{fn:Func}(hf:Tryz.prog.funcs[g]? = some fn)(ht:vK g=some fn)(hx:X.is g=false)(n:Nat)(a:eV (ctx.sig g).params) :
  DD X (n+1) g a=I5 vK (DD X n) n g a:=by
 have:=ajf vK (DD X n) n g a;rw[ht]at this;rw[<-this];unfold DD;simp only[Dn,hx,e7,dX,hf]
theorem ain(X:Ext){g:FuncId}(hx:X.is g=true)(n:Nat)(a:eV (ctx.sig g).params):DD X (n+1) g a=X.den g a:=by unfold DD;simp only[Dn,hx,aX]
def Oz:Ext:=⟨fun _ _=>none,fun _=>false,fun _ h=>by simp at h,fun _ _ _ h=>by simp at h⟩
section
variable {H:Type} {enc:TypeId×Value->H} {P:Program}
theorem Nz(hl:laidOutB P=true){W W':World}(hb:Below W.heap.size W W'):∀{ts:List TypeId}{vs:List Value}{ds:List (DataW H)}{ps:List MemPlace},
  ts.all (fun t=>P.readableRec t&&Nat.blt t P.types.size)=true->DataW.TrodAll enc P W 0 (fun _=>true) true ts vs ds ps->(∀x∈ps,x.block<W.heap.size)->
  DataW.TrodAll enc P W' 0 (fun b=>decide (b<W.heap.size)) true ts vs ds ps
 | [],_,_,_,_,h,_=>by
  obtain⟨rfl,rfl,rfl⟩:=trodAll_nil h;exact trodAll_mk0
 | t::ts,_,_,_,ht,h,hlt=>by
  obtain⟨v,vs1,d,ds1,a,b,rfl,rfl,rfl,h1,h2⟩:=trodAll_cons h;simp only[gK,bC]at ht;exact⟨a,b,Below.trod hl ht.1.1 (nU.1 ht.1.2) h1 hb (fun x hx=>hlt x (by simp[hx])),Nz hl hb ht.2 h2 (fun x hx=>hlt x (by simp[hx])),rfl⟩
end
theorem laid:laidOutB Tryz.prog=true:=by kernel_rfl
theorem aa_:ownKnob Tryz.prog.godebug=none:=by kernel_rfl
theorem aaI{H:Type}{enc:TypeId×Value->H}{X:Ext}{f:FuncId}{fn:Func}{s:ChangeSpec}{conds:List PathCond}{tb:TypeId}{os:Os}(started:os.Started)
  (hfn:Tryz.prog.funcs[f]? = some fn) (Jy:Tryz.prog.inits.idxOf? f=none)
  (witness:∃(w:World)(tape:Tape)(i:Input),w.os=os/\(w.forCall tape i).Shaped Tryz.prog/\i.vars=[]/\Input.okWide Tryz.prog (w.forCall tape i) .any w.heap.size f i/\
   s.pre6 enc Tryz.prog fn conds false (w.forCall tape i).memory i.args/\Assume.holds {} Tryz.prog (lone (Frame.enter Tryz.prog f i.args .normal) [] (w.forCall tape i)))
  (hps:zq fn.params.toList (ctx.sig f).params ctx) (hrd:fn.params.toList.all (fun t=>Tryz.prog.readableRec t&&Nat.blt t Tryz.prog.types.size)=true)
  (hres:fn.resultTypes = #[tb]) (htb:Tryz.prog.underlying tb=some .bool) (hvars:s.vars=[])
  (J1:∀ds:List (DataW H),ds.length=fn.params.size->(s.fn H ds).results=[.lit (.bool true)]/\(s.fn H ds).args=ds/\(s.fn H ds).vars=[])
  (Vq:∀a,Bp (ctx.sig f).params a->∃n r,DD X n f a=some r/\∀h Pr Gs us,kH h Pr Gs 0 (ctx.sig f).res r.1 us->us=[.bool true]) :
  ReturnsInHanded {} Tryz.checked os f .any (s.pre6 enc Tryz.prog fn conds false) (s.post enc Tryz.prog fn false true false false):=by
 refine returnsInHanded_of_change_sized (C:=Tryz.checked) aa_ started Jy hfn witness ?_;intro W base args ds gs before hval hW nK hsz _;have hW':=hW;have hlt:=hW.lt;obtain⟨p,q,hA,hV,rfl,hfz,SF⟩:=hW;rw[hvars]at hV;obtain⟨rfl,rfl⟩:=trodVars_none hV;obtain⟨a,wa,ra⟩:=Qn EG fn.params.toList (ctx.sig f).params args.toList ds p 0 hps hA (fun j t v ht hv=>hval j t v (by simpa using ht) (by simpa using hv));obtain⟨n,r,hr,hb⟩:=Vq a wa;have pre:Pre W.heap (Old W) (fun _=>Nil) (ctx.sig f).params a args.toList:=
  ⟨ra,fun _ _ _=>cq.nil _,fun _=>cq.nil _,fun _ b hb=>hb.elim,fun b hb=>hb⟩
 have hc:=(ajN X n).ok f a r hr W (Old W) (fun _=>Nil) args.toList pre;rw[n6]at hc;refine hc.mono ?_;rintro e W' ⟨val,fD,Gs,Os,us,rfl,ps⟩;obtain rfl:=hb _ _ _ _ ps.res;have hv:=ps.val;simp only[tF]at hv;subst hv;have bel:=aaR ps.fr;obtain⟨e1,e2,e3⟩:=J1 (ds++[]) (by rw[gr,(trodAll_length hA).2,eS]);refine⟨_,rfl,ds,[],p++[],[],p,[],hW',?_,?_,?_,bel.frame _,fun h=>by cases h⟩
 .rw[e1,hres];exact trodAll_mk1 (shut_bool htb _)
 .rw[e2,gr];exact Nz laid bel hrd hA (fun x hx=>hlt x (by simp[hx]))
 .rw[e3,hvars];rfl
end
end Go.V

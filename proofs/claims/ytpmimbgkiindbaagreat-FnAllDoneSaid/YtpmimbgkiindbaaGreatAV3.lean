import Derived.Orders
import Derived.Test.YtpmimbgkiindbaaGreatProg
import Derived.KernelRfl
import Derived.WalkKit
import Derived.ProofKit
import Derived.OpenShut
import Derived.Below
import Derived.ChangeOld
import Derived.SizedLaws
import Derived.Test.YtpmimbgkiindbaaGreatRows
import Derived.Carry
import Derived.ChangeCalls
import Derived.Test.YtpmimbgkiindbaaGreatAV2
set_option maxRecDepth 100000
set_option linter.unusedVariables false
set_option linter.unusedSimpArgs false
set_option linter.unusedSectionVars false
namespace Go.V
noncomputable section
open Go
theorem SM(look:Nat->Nat)(i:Nat):∀(l:List Edge)(s:Nat),(l.foldl (fun s e=>if Region.binds .any e then s |||2 ^ e.on |||look e.on else s) s).testBit i=true->
  s.testBit i=true\/∃e∈l,Region.binds .any e=true/\(e.on=i\/(look e.on).testBit i=true)
 | [],s,h=>.inl h
 | e::l,s,h=>by
  rw[nM]at h;rcases SM look i l _ h with h | ⟨e',he,hh⟩
  .by_cases hb:Region.binds .any e=true
   .rw[ak hb,Nat.testBit_or,Nat.testBit_or,Nat.testBit_two_pow]at h;simp only[jC,gT]at h;rcases h with(h | h) | h
    .exact .inl h
    .exact .inr ⟨e,e8,hb,.inl h⟩
    .exact .inr ⟨e,e8,hb,.inr h⟩
   .rw[af hb]at h;exact .inl h
  .exact .inr ⟨e',cG _ he,hh⟩
def OI(acc:Array Nat)(l:List Oper):Prop:=acc.size=l.length/\∀j i,(acc.getD j 0).testBit i=true->∃o,l[j]? = some o/\∃e∈o.after,Region.binds .any e=true/\(e.on=i\/(e.on<j/\(acc.getD e.on 0).testBit i=true))
theorem Ou:∀(l:List Oper)(acc:Array Nat)(d:List Oper),OI acc d->
  OI (l.foldl (fun acc o=>acc.push (o.after.foldl (fun s e=>if Region.binds .any e then s |||2 ^ e.on |||acc.getD e.on 0 else s) 0)) acc) (d++l)
 | [],acc,d,h=>by simpa using h
 | o::l,acc,d,h=>by
  rw[nM];have e:d++o::l=(d++[o])++l:=by simp
  rw[e];refine Ou l _ _ ⟨by simp[h.1],fun j i hb=>?_⟩;have hs:=h.1;have gd:∀q(v:Nat),(acc.push v).getD q 0=if q=acc.size then v else acc.getD q 0:=by intro q v;simp only[pE,Bl];split<;>rfl
  rw[gd]at hb;by_cases hj:j=acc.size
  .rw[ak hj,<-FG]at hb;rcases SM (fun n=>acc.getD n 0) i _ _ hb with h0 | ⟨e',he,hbd,hh⟩
   .simp at h0
   .refine⟨o,by rw[hj,hs];simp,e',by simpa using he,hbd,?_⟩;rcases hh with hh | hh
    .exact .inl hh
    .have hlt:e'.on<acc.size:=by
      rcases B0 e'.on acc.size with h | h
      .exact h
      .simp[pE,IC h]at hh
     refine .inr ⟨by omega,?_⟩;rw[gd,af (by omega)];exact hh
  .rw[af hj]at hb;obtain⟨o',ho',e',he,hbd,hh⟩:=h.2 j i hb;have hlt:j<d.length:=(So.1 ho').1;refine⟨o',by rw[kA hlt];exact ho',e',he,hbd,hh.imp id fun hh=>⟨hh.1,?_⟩⟩;rw[gd,af (by omega)];exact hh.2
theorem RC(ops:Array Oper){j i:Nat}(h:((Region.before ops).getD j 0).testBit i=true) :
  ∃o,ops[j]? = some o/\∃e∈o.after,Region.binds .any e=true/\(e.on=i\/(e.on<j/\((Region.before ops).getD e.on 0).testBit i=true)):=by
 have:=Ou ops.toList #[] [] ⟨rfl,fun j i hb=>by simp at hb⟩;unfold Region.before at h⊢;rw[<-FG]at h⊢;obtain⟨o,ho,hh⟩:=this.2 j i h;exact⟨o,by simpa using ho,hh⟩
theorem abB{ops:Array Oper}(he:EX ops=true):∀(j i:Nat),((Region.before ops).getD j 0).testBit i=true->i<j:=by
 intro j
 induction j using Nat.strongRecOn with
 | _ j ih=>
  intro i h;obtain⟨o,ho,e,hm,hb,hh⟩:=RC ops h;have hlt:e.on<j:=by
   simp only[EX,qS]at he;have hx:(j,o)∈nw ops:=by simp only[nw,eI];exact⟨(o,j),FP.2 (by simpa using ho),rfl⟩
   have:=he (j,o) hx;rw[Sm]at this;have:=this e hm;rw[hb]at this;simpa [oa] using this
  rcases hh with rfl | ⟨_,hh⟩
  .exact hlt
  .exact Nat.lt_trans (ih e.on hlt i hh) hlt
def Down(ops:Array Oper)(listed:Array Bool):Prop:=∀(j:Nat) o,ops[j]? = some o->listed.getD j false=true->∀e∈o.after,Region.binds .any e=true->listed.getD e.on false=true
theorem aih{ops:Array Oper}{listed:Array Bool}(hd:Down ops listed):∀(j i:Nat),((Region.before ops).getD j 0).testBit i=true->
  (∀o,ops[j]? = some o->∀e∈o.after,Region.binds .any e=true->listed.getD e.on false=true)->listed.getD i false=true:=by
 intro j
 induction j using Nat.strongRecOn with
 | _ j ih=>
  intro i h hl;obtain⟨o,ho,e,hm,hb,hh⟩:=RC ops h;have h1:=hl o ho e hm hb;rcases hh with rfl | ⟨hlt,hh⟩
  .exact h1
  .exact ih e.on hlt i hh fun o' ho'=>hd e.on o' ho' h1
theorem jL.tY(e f:jL):e.free f=f.free e:=by
 unfold jL.free;cases e.wr<;>cases f.wr
 .rfl
 .rfl
 .rfl
 .rename_i w w';simp only;cases e.lc<;>cases f.lc<;>cases ja w f.rd<;>cases ja w w'<;>cases ja w' e.rd<;>cases ja w' w<;>cases e.st.contains f.site<;>cases f.st.contains e.site<;>rfl
theorem QZ{M:Array Nat}{e:jL}:∀{l:Log},Bp M e l=true->∀f∈l,e.i=f.i\/vg M e.i f.i=true\/e.free f=true
 | [],_,f,hf=>by simp at hf
 | g::l,h,f,hf=>by
  simp only[Bp,bI,jC]at h;rcases bk.1 hf with rfl | hf
  .rcases h.1 with(h | h) | h
   .exact .inl (mS h)
   .exact .inr (.inl h)
   .exact .inr (.inr h)
  .exact QZ h.2 f hf
theorem GK{M:Array Nat}{all:Log}:∀{l:Log},DH M all l=true->∀e∈l,e.wr≠none->∀f∈all,e.i=f.i\/vg M e.i f.i=true\/e.free f=true
 | [],_,e,he=>by simp at he
 | g::l,h,e,he=>by
  simp only[DH,bI]at h;intro hw;rcases bk.1 he with rfl | he
  .have:=h.1;cases mX:e.wr with
   | none=>exact absurd mX hw
   | some W=>rw[mX]at this;exact QZ this
  .exact GK h.2 e he hw
theorem ajE(M:Array Nat)(i j:Nat):vg M i j=vg M j i:=by simp[vg,Bool.or_comm]
theorem ajQ{M:Array Nat}{LG:Log}(h:DH M LG LG=true){e f:jL}(he:e∈LG)(hf:f∈LG)(hne:e.i≠f.i)(ho:vg M e.i f.i=false):e.free f=true:=by
 cases mX:e.wr with
 | some W=>
  rcases GK h e he (by rw[mX];simp) f hf with h | h | h
  .exact absurd h hne
  .rw[ho]at h;simp at h
  .exact h
 | none=>
  cases hwf:f.wr with
  | none=>simp[jL.free,mX,hwf]
  | some W=>
   rcases GK h f hf (by rw[hwf];simp) e he with h | h | h
   .exact absurd h.symm hne
   .rw[ajE,ho]at h;simp at h
   .rw[jL.tY];exact h
theorem QG{M:Array Nat}{ops:Array Oper}{i:Nat}{x:Oper}:∀{l:List (Nat×Oper)},A5 M ops i x l=true->∀y∈l,vg M i y.1=true\/Jd ops i y.1 x y.2=true
 | [],_,y,hy=>by simp at hy
 | (j,z)::l,h,y,hy=>by
  simp only[A5,bI,jC]at h;rcases bk.1 hy with rfl | hy
  .exact h.1
  .exact QG h.2 y hy
theorem QF{M:Array Nat}{ops:Array Oper}:∀{l:List (Nat×Oper)},Jp M ops l=true->l.Pairwise fun x y=>vg M x.1 y.1=true\/Jd ops x.1 y.1 x.2 y.2=true
 | [],_=>List.Pairwise.nil
 | (i,x)::l,h=>by
  simp only[Jp,bI]at h;exact List.Pairwise.cons (fun y hy=>QG h.1 y hy) (QF h.2)
section
variable (C:Ctx) (D:Den C) (hints:Hints) (id:Nat) (ops:Array Oper)
noncomputable def jj(β:Nat->Bool):List (Nat×Oper)->St->Option (St×Log)
 | [],S=>some (S,[])
 | (i,o)::l,S=>(g8 C D hints id ops (β i) S i o).bind fun x=>(jj β l x.1).map fun y=>(y.1,x.2::y.2)
end
section
variable {C:Ctx} {D:Den C} {hints:Hints} {id:Nat} {ops:Array Oper}
theorem Nm{β:Nat->Bool}:∀(l:List (Nat×Oper))(S:St),jj C D hints id ops β l S=eO C D hints id ops (l.map fun x=>β x.1) l S
 | [],S=>rfl
 | (i,o)::l,S=>by
  simp only[jj,eO,cA,sG,FY];congr 1;funext x;rw[Nm l x.1]
theorem Hi{β:Nat->Bool}{i:Nat}{o:Oper}{l:List (Nat×Oper)}{S S':St}{lg:Log}(h:jj C D hints id ops β ((i,o)::l) S=some (S',lg)) :
  ∃S1 e gJ,g8 C D hints id ops (β i) S i o=some (S1,e)/\jj C D hints id ops β l S1=some (S',gJ)/\lg=e::gJ:=by
 simp only[jj,cM,fo,aY]at h;obtain⟨⟨S1,e⟩,hs,⟨S2,JR⟩,hr,rfl,rfl⟩:=h;exact⟨S1,e,JR,hs,hr,rfl⟩
theorem Nn{β:Nat->Bool}{i:Nat}{o:Oper}{l:List (Nat×Oper)}{S S1 S':St}{e:jL}{gJ:Log}(hs:g8 C D hints id ops (β i) S i o=some (S1,e))(hr:jj C D hints id ops β l S1=some (S',gJ)) :
  jj C D hints id ops β ((i,o)::l) S=some (S',e::gJ):=by
 simp only[jj,hs,dF,hr,ef]
theorem Q_{β β':Nat->Bool}:∀(l:List (Nat×Oper))(S:St),(∀x∈l,β' x.1=β x.1)->jj C D hints id ops β' l S=jj C D hints id ops β l S
 | [],S,_=>rfl
 | (i,o)::l,S,h=>by
  simp only[jj];have:=h (i,o) e8;simp only at this;rw[this];congr 1;funext x;rw[Q_ l x.1 fun y hy=>h y (cG _ hy)]
theorem Ra{β:Nat->Bool}{j:Nat}{y:Oper}{post:List (Nat×Oper)}:∀(pre:List (Nat×Oper))(S S':St)(lg:Log),jj C D hints id ops β (pre++(j,y)::post) S=some (S',lg)->
  (∀x∈pre,Jd ops x.1 j x.2 y=true)->(∀ex∈lg,∀ey∈lg,(∃x∈pre,ex.i=x.1)->ey.i=j->ex.free ey=true)->
  ∃EG,jj C D hints id ops β ((j,y)::(pre++post)) S=some (S',EG)/\∀e∈EG,e∈lg
 | [],S,S',lg,h,_,_=>⟨lg,h,fun e he=>he⟩
 | (i,x)::pre,S,S',lg,h,hap,hfr=>by
  rw[fH]at h;obtain⟨S1,ex,gJ,h1,h2,rfl⟩:=Hi h;obtain⟨JR,k1,k2⟩:=Ra pre S1 S' gJ h2 (fun x hx=>hap x (cG _ hx))
   (fun a ha b hb ⟨z,hz,e⟩ hj=>hfr a (cG _ ha) b (cG _ hb) ⟨z,cG _ hz,e⟩ hj)
  obtain⟨S2,ey,lg3,q1,q2,rfl⟩:=Hi k1;have hi:=(AX h1).2;have hj:=(AX q1).2;obtain⟨T1,t1,t2⟩:=swap h1 q1 (hap (i,x) e8) (hfr ex e8 ey (cG _ (k2 ey e8)) ⟨(i,x),e8,hi⟩ hj);refine⟨ey::ex::lg3,Nn t1 (Nn t2 q2),fun e he=>?_⟩;rcases bk.1 he with rfl | he
  .exact cG _ (k2 _ e8)
  .rcases bk.1 he with rfl | he
   .exact e8
   .exact cG _ (k2 _ (cG _ he))
end
theorem Bc{ops:Array Oper}{j:Nat}{o:Oper}(h:ops[j]? = some o):(j,o)∈nw ops:=by simp only[nw,eI];exact⟨(o,j),FP.2 (by simpa using h),rfl⟩
section
variable {P:Program} {C:Ctx} {D:Den C} (bn:iD P C) (dy:ow P C D)
include bn dy
theorem akV{np:List Nat}{Q:Exit->Act->World->Prop}{hints:Hints}{id:Nat}{ops:Array Oper}{F:St->Prop}(hgd:MG ops=true)(hed:EX ops=true)(Yd:Jp (Region.before ops) ops (nw ops)=true)(hnp:J7 np ops=true) :
  ∀(fuel:Nat)(listed:Array Bool)(rest:List (Nat×Oper))(S:St)(g:aA)(a:Act)(w:World),rest.length<=fuel->listed.size=ops.size->Down ops listed->rest.Sublist (nw ops)->
   (∀x∈nw ops,x∈rest↔listed.getD x.1 true=false)->aE w.heap S g a.tmps Nil->a.defers=[]->
   (∀β,∃S' lg LG,jj C D hints id ops β rest S=some (S',lg)/\(∀e∈lg,e∈LG)/\DH (Region.before ops) LG LG=true/\F S')->
   (∀S' g' a' w',F S'->aE w'.heap S' g' a'.tmps Nil->g'.cT g->kK g.L w w'->a'.defers=[]->vB np a a'->Q .normal a' w')->wpAny P .any ops Q fuel listed a w:=by
 intro fuel
 induction fuel with
 | zero=>
  intro listed rest S g a w hlen hsz hdn hsub hiff st hdf hrun hQ;have hr:rest=[]:=lE.1 (by omega);subst hr;refine⟨?_,?_⟩
  .apply List.eq_nil_iff_forall_not_mem.2;intro j hj;obtain⟨h0,o,ho,_⟩:=mem_ready.1 hj;have:=(hiff (j,o) (Bc ho)).2 h0;simp at this
  .obtain⟨S',lg,LG,h1,_,_,h4⟩:=hrun fun _=>true;simp only[jj,aK,aY]at h1;obtain⟨rfl,_⟩:=h1;exact hQ S g a w h4 st (.refl g) (.refl _ _) hdf (.refl _ _)
 | succ fuel ih=>
  intro listed rest S g a w hlen hsz hdn hsub hiff st hdf hrun hQ;have hft:∀j,j<ops.size->(listed.getD j true=listed.getD j false):=by
   intro j hj;have:j<listed.size:=by omega
   simp[Array.getD,this]
  refine⟨fun hre=>?_,fun j hj=>?_⟩
  .have hr:rest=[]:=by
    cases rest with
    | nil=>rfl
    | cons x rest=>
     exfalso;have key:∀j,j<ops.size->listed.getD j true=true:=by
      intro j
      induction j using Nat.strongRecOn with
      | _ j ihj=>
       intro hlt;cases hl:listed.getD j true with
       | true=>rfl
       | false=>
        exfalso;have ho:ops[j]? = some ops[j]:=vL hlt;have:j∈Region.ready .any ops listed:=by
         refine mem_ready.2 ⟨hl,ops[j],ho,fun e he hb=>?_⟩;have XN:e.on<j:=by have U_:=hed;simp only[EX,qS]at U_;have:=U_ (j,ops[j]) (Bc ho);rw[Sm]at this;have:=this e he;rw[hb]at this;simpa [oa] using this
         rw[<-hft e.on (by omega)];exact ihj e.on XN (by omega)
        rw[hre]at this;simp at this
     have hx:=hsub.subset e8;have h0:=(hiff x hx).1 e8;have eu:=x_ x hx;have:=key x.1 (rG.1 eu).1;rw[h0]at this;simp at this
   subst hr;obtain⟨S',lg,LG,h1,_,_,h4⟩:=hrun fun _=>true;simp only[jj,aK,aY]at h1;obtain⟨rfl,_⟩:=h1;exact hQ S g a w h4 st (.refl g) (.refl _ _) hdf (.refl _ _)
  .obtain⟨h0,y,hy,wY⟩:=mem_ready.1 hj;have amd:j<ops.size:=(rG.1 hy).1;have hmem:=(hiff (j,y) (Bc hy)).2 h0;obtain⟨pre,post,rfl⟩:=List.append_of_mem hmem
   -- indexes are apart
   have Ve:((nw ops).map (·.1)).Nodup:=by rw[VJ];exact List.nodup_range
   have XX:=(hsub.map (·.1)).nodup Ve;simp only[pI,cA]at XX;have Al:((pre++(j,y)::post).map (·.1)).Pairwise (· < ·):=by refine List.Pairwise.sublist (hsub.map (·.1)) ?_;rw[VJ];exact List.pairwise_lt_range
   have hlt:∀x∈pre,x.1<j:=by intro x hx;rw[pI,MB]at Al;exact Al.2.2 x.1 (eI.2 ⟨x,hx,rfl⟩) j (by simp)
   have hgt:∀x∈post,j<x.1:=by intro x hx;rw[pI,MB,cA,me]at Al;exact Al.2.1.1 x.1 (eI.2 ⟨x,hx,rfl⟩)
   have hun:∀x∈pre,vg (Region.before ops) x.1 j=false:=by
    intro x hx;have hxt:x∈nw ops:=hsub.subset (by simp[hx]);have hxu:=(hiff x hxt).1 (by simp[hx]);cases ho:vg (Region.before ops) x.1 j with
    | false=>rfl
    | true=>
     exfalso;simp only[vg,jC]at ho;rcases ho with ho | ho
     .have:=aih hdn j x.1 ho fun o' ho' e he hb=>by
       rw[hy]at ho';simp only[aK]at ho';subst ho';exact wY e he hb
      have Yr:x.1<ops.size:=(rG.1 (x_ x hxt)).1;rw[<-hft x.1 Yr,hxu]at this;simp at this
     .have:=abB hed _ _ ho;have:=hlt x hx;omega
   have hap:∀x∈pre,Jd ops x.1 j x.2 y=true:=by
    intro x hx;have:=(QF Yd).sublist hsub;rw[MB]at this;rcases this.2.2 x hx (j,y) (by simp) with h | h
    .have:=hun x hx;simp only at h;rw[this]at h;simp at h
    .exact h
   have C1:∀β,∃S1 e S' lg LG,g8 C D hints id ops (β j) S j y=some (S1,e)/\jj C D hints id ops β (pre++post) S1=some (S',lg)/\(∀e∈lg,e∈LG)/\DH (Region.before ops) LG LG=true/\F S':=by
    intro β;obtain⟨S',lg,LG,h1,h2,h3,h4⟩:=hrun β;obtain⟨EG,q1,q2⟩:=Ra pre S S' lg h1 hap (by
     intro ex hex ey hey hx hyj;obtain⟨x,hx,e1⟩:=hx;refine ajQ h3 (h2 ex hex) (h2 ey hey) ?_ ?_
     .rw[e1,hyj];have:=hlt x hx;omega
     .rw[e1,hyj];exact hun x hx)
    obtain⟨S1,e,gJ,t1,t2,rfl⟩:=Hi q1;exact⟨S1,e,S',gJ,LG,t1,t2,fun e he=>h2 e (q2 e (cG _ he)),h3,h4⟩
   refine NT bn dy st (hints:=hints) (id:=id) hy (fun j' c=>RT hgd j y j' c hy) hdf (SP hnp (j,y) (Bc hy)) (fun β=>?_) ?_
   .obtain⟨S1,e,_,_,_,h1,_⟩:=C1 fun _=>β;exact⟨_,h1⟩
   .intro βj S1 e a' w' g' hs st' iL hfr iJ oD;refine ih (listed.setIfInBounds j true) (pre++post) S1 g' a' w' ?_ (by simpa using hsz) ?_ ?_ ?_ st' iJ ?_ ?_
    .simp only[cV,cw]at hlen⊢;omega
    .intro q o hq hlq e he hb;by_cases hqj:j=q
     .subst hqj;rw[hy]at hq;simp only[aK]at hq;subst hq;exact getD_set_true (wY e he hb)
     .rw[getD_set_ne false hqj]at hlq;exact getD_set_true (hdn q o hq hlq e he hb)
    .exact List.Sublist.trans (List.Sublist.append (List.Sublist.refl pre) (List.sublist_cons_self _ _)) hsub
    .intro x hx;have hx1:=hiff x hx;by_cases Vp:x.1=j
     .constructor
      .intro hm;exfalso;rcases bN.1 hm with hm | hm
       .have:=hlt x hm;omega
       .have:=hgt x hm;omega
      .intro h;exfalso;have iK:j<listed.size:=by omega
       simp[Vp,Array.getD,iK]at h
     .rw[getD_set_ne true (fun h=>Vp h.symm),<-hx1];simp only[bN,bk];constructor
      .rintro(h | h)
       .exact .inl h
       .exact .inr (.inr h)
      .rintro(h | h | h)
       .exact .inl h
       .exact absurd (by rw[h]) Vp
       .exact .inr h
    .intro β;obtain⟨S1',e',S',lg,LG,h1,h2,h3⟩:=C1 fun n=>if n=j then βj else β n
     simp only[aX]at h1;rw[hs]at h1;simp only[aK,aY]at h1;obtain⟨rfl,rfl⟩:=h1;refine⟨S',lg,LG,?_,h3⟩;rw[<-h2];symm;refine Q_ _ _ fun x hx=>?_;rw[af];intro Vp;rcases bN.1 hx with hm | hm
     .have:=hlt x hm;omega
     .have:=hgt x hm;omega
    .intro S' tZ JB w'' hF vH xp qB wX w5;exact hQ S' tZ JB w'' hF vH (iL.trans xp) (hfr.trans (by rw[iL.2.1]at qB;exact qB)) wX (oD.trans w5)
theorem ajL{np:List Nat}{R:Type}{r:R}{H:Hints}{id:Nat}{ops:Array Oper}{S:St}{k:Ex->St->Option R}{Q:Exit->Act->World->Prop}{g:aA}{a:Act}{w:World}{n:Nat}
  (j9:P.follows .mixedOrders=true) (hnp:J7 np ops=true) (h:exec C D H n (.region id ops true) S k=some r):jM np P C Q r (.region id ops true) S k g a w:=by
 intro st hdf hQ;simp only[exec]at h;split at h
 .rename_i hgd;have hR:=fun βs=>Mr (hints:=H) _ _ _ _ h S (fD.refl S) βs;have wT:EX ops=true/\Jp (Region.before ops) ops (nw ops)=true:=by
   obtain⟨T1,gr,S1,gJ,_,q2,_⟩:=hR [];simp only[aX]at q2;split at q2
   .rename_i hc;simp only[bI]at hc;exact⟨hc.1.1,hc.2⟩
   .simp at q2
  refine wp_region_any j9 ?_;refine akV (hints:=H) (id:=id) (F:=fun S'=>∃S1,k .normal S1=some r/\fD S1 S') bn dy hgd wT.1 wT.2 hnp ops.size _ (nw ops) S g a _ ?_ (by simp) ?_ (List.Sublist.refl _) ?_ st hdf (fun β=>?_) ?_
  .have:=eg List.length (VJ (ops:=ops));simp only[jD,FT]at this;omega
  .intro j o ho hl;exfalso;have hlt:=(rG.1 ho).1;simp[hlt]at hl
  .intro x hx;have hlt:=(rG.1 (x_ x hx)).1;simp[hx,hlt]
  .obtain⟨T1,gr,S1,gJ,q1,q2,q3,q4,_⟩:=hR ((nw ops).map fun x=>β x.1);simp only[aX]at q2;split at q2
   .rename_i hc;simp only[bI]at hc;exact⟨T1,gr,gJ,by rw[Nm];exact q1,q4,hc.1.2,S1,q2,q3⟩
   .simp at q2
  .intro S' g' a' w' hF st' iL hfr iJ oD;obtain⟨S1,hk,qD⟩:=hF;exact hQ .normal S1 g' a' w' hk (Np qD st') iL ((kK.drawn _).trans hfr) iJ oD
 .simp at h
theorem EY{np:List Nat}{R:Type}{r:R}{H:Hints}(j9:P.follows .mixedOrders=true):∀(c:Code)(n:Nat)(S:St)(k:Ex->St->Option R),sI np c=true->exec C D H n c S k=some r->
  ∀(Q:Exit->Act->World->Prop)(g:aA)(a:Act)(w:World),jM np P C Q r c S k g a w
 | .skip,n,S,k,hc,h,Q,g,a,w=>by
  intro st hdf hQ;exact wp_skip (hQ .normal S g a w (by simpa only [exec] using h) st (.refl g) (.refl _ _) hdf (.refl _ _))
 | .region id ops dr,n,S,k,hc,h,Q,g,a,w=>by
  cases dr with
  | false=>exact acm bn dy hc h
  | true=>exact ajL bn dy j9 hc h
 | .seq x y,n,S,k,hc,h,Q,g,a,w=>by
  intro st hdf hQ;simp only[sI,bI]at hc;simp only[exec]at h;refine wp_seq (EY j9 x n S _ hc.1 h _ g a w st hdf ?_);intro e S' g' a' w' hk st' iL hfr iJ oD;cases e with
  | normal=>simp only[Ex.out,Exit.then];refine EY j9 y n _ k hc.2 hk Q g' a' w' (show aE w'.heap (r9 H y S') g' a'.tmps Nil by unfold r9;split<;>first | exact A8 st' _ _ | exact st') iJ ?_;intro e2 S2 g2 a2 w2 hk2 pg qE uk Xz w6;exact hQ e2 S2 g2 a2 w2 hk2 pg (iL.trans qE) (hfr.trans (by rw[iL.2.1]at uk;exact uk)) Xz (oD.trans w6)
  | exit id=>exact hQ (.exit id) S' g' a' w' hk st' iL hfr iJ oD
  | ret=>exact hQ .ret S' g' a' w' hk st' iL hfr iJ oD
 | .cond c x y,n,S,k,hc,h,Q,g,a,w=>by
  intro st hdf hQ;simp only[exec]at h;cases hb:V.asBool (ev S c) with
  | none=>rw[hb]at h;simp at h
  | some t=>
   rw[hb]at h;simp only at h;have hv:=RA hb (ON st c);refine wp_cond (t:=t) hv ?_;cases t with
   | true=>exact EY j9 x n S k (by simp only[sI,bI]at hc;exact hc.1) h Q g a w st hdf hQ
   | false=>exact EY j9 y n S k (by simp only[sI,bI]at hc;exact hc.2) h Q g a w st hdf hQ
 | .block id x,n,S,k,hc,h,Q,g,a,w=>by
  intro st hdf hQ;simp only[exec]at h;refine wp_block (EY j9 x n S _ (by simpa only [sI] using hc) h _ g a w st hdf ?_);intro e S' g' a' w' hk st' iL hfr iJ oD;cases e with
  | normal=>exact hQ .normal S' g' a' w' hk st' iL hfr iJ oD
  | exit j=>
   simp only at hk;simp only[Ex.out,Exit.inBlock];split at hk
   .rename_i hj;rw[ak hj];exact hQ .normal S' g' a' w' hk st' iL hfr iJ oD
   .rename_i hj;rw[af hj];exact hQ (.exit j) S' g' a' w' hk st' iL hfr iJ oD
  | ret=>exact hQ .ret S' g' a' w' hk st' iL hfr iJ oD
 | .loop x,n,S,k,hc,h,Q,g,a,w=>by
  intro st hdf hQ;simp only[exec]at h;cases hl:H.keep.lookup (Cq x) with
  | none=>rw[hl]at h;simp at h
  | some kp=>
   rw[hl]at h;simp only at h;have key:∀(m:Nat)(S:St)(g1:aA)(a1:Act)(w1:World),sC (exec C D H n x) (St.canon kp.1 kp.2.2) (St.canon kp.2.1 kp.2.2) m S k=some r->aE w1.heap S g1 a1.tmps Nil->g1.cT g->kK g.L w w1->a1.defers=[]->vB np a a1->
     ∀b k' cs,∃e a' w',Q e a' w'/\Arrives P (lone (b.at a1 (.code x::.inLoop x::k')) cs w1) b k' cs e a' w':=by
    intro m
    induction m with
    | zero=>intro S g1 a1 w1 h;simp[sC]at h
    | succ m ih=>
     intro S g1 a1 w1 h st iL hfr hdf oD b k' cs;simp only[sC]at h;have hx:=EY j9 x n _ _ (by simpa only [sI] using hc) h (Exit.then (fun a' w'=>∀b k' cs,∃e JB w'',Q e JB w''/\Arrives P (lone (b.at a' (.code x::.inLoop x::k')) cs w') b k' cs e JB w'') Q) g1 a1 w1 (A8 st kp.1 kp.2.2) hdf (by
      intro e S' g' a' w' hk st' xp qB iJ w5;have w6:=oD.trans w5;have qE:=iL.trans xp;have uk:kK g.L w w':=hfr.trans (by rw[iL.2.1]at qB;exact qB);cases e with
      | normal=>exact ih S' g' a' w' hk st' qE uk iJ w6
      | exit id=>exact hQ (.exit id) _ g' a' w' hk (A8 st' kp.2.1 kp.2.2) qE uk iJ w6
      | ret=>exact hQ .ret _ g' a' w' hk (A8 st' kp.2.1 kp.2.2) qE uk iJ w6)
     obtain⟨e,a₁,w₁,hq,kN⟩:=hx b (.inLoop x::k') cs;cases e with
     | normal=>obtain⟨e₂,a₂,w₂,hq₂,harr₂⟩:=hq b k' cs;exact⟨e₂,a₂,w₂,hq₂,.of_steps (Steps.trans kN (.one step_inLoop)) harr₂⟩
     | exit id=>exact⟨_,a₁,w₁,hq,.pass (x:=.inLoop x) rfl (fun _ _=>.inl (by simp)) kN⟩
     | goto l=>exact⟨_,a₁,w₁,hq,.pass (x:=.inLoop x) rfl (fun _ _=>.inl (by simp)) kN⟩
     | ret=>exact⟨_,a₁,w₁,hq,.pass (x:=.inLoop x) rfl (fun _ _=>.inl (by simp)) kN⟩
     | panic ch=>exact⟨_,a₁,w₁,hq,.pass (x:=.inLoop x) rfl (fun _ _=>.inl (by simp)) kN⟩
     | outgrown=>exact⟨_,a₁,w₁,hq,.pass (x:=.inLoop x) rfl (fun _ _=>.inl (by simp)) kN⟩
   intro b k' cs;obtain⟨e,a',w',hq,kN⟩:=key n S g a w h st (.refl g) (.refl _ _) hdf (.refl _ _) b k' cs;exact⟨e,a',w',hq,.of_steps (.one step_loop) kN⟩
 | .exit id,n,S,k,hc,h,Q,g,a,w=>by
  intro st hdf hQ;exact wp_exit (hQ (.exit id) S g a w (by simpa only [exec] using h) st (.refl g) (.refl _ _) hdf (.refl _ _))
 | .ret,n,S,k,hc,h,Q,g,a,w=>by
  intro st hdf hQ;exact wp_ret (hQ .ret S g a w (by simpa only [exec] using h) st (.refl g) (.refl _ _) hdf (.refl _ _))
 | .rangeFunc _ _ _ _,n,S,k,hc,h,Q,g,a,w=>by simp[exec]at h
 | .scope _,n,S,k,hc,h,Q,g,a,w=>by simp[exec]at h
 | .label _,n,S,k,hc,h,Q,g,a,w=>by simp[exec]at h
 | .goto _,n,S,k,hc,h,Q,g,a,w=>by simp[exec]at h
 | .refuse _,n,S,k,hc,h,Q,g,a,w=>by simp[exec]at h
end
end
end Go.V
namespace Go.V
noncomputable section
open Go
theorem wm.mono{h:Array Obj}{Pr gh:BS}{t:Ty}{m:Mk}{x:t.den}{v:Value}{F:BS}(hp:Sub Pr gh)(r:wm h Pr t m x v F):wm h gh t m x v F:=by obtain⟨b,c,F0,e,r,k⟩:=r;exact⟨b,c,F0,e,az.mono hp (fun _ _=>rfl) t r (Sub.refl _) (fun _ _=>rfl),k⟩
theorem r6.mono{h:Array Obj}{Pr gh:BS}{k:RK}{x:k.den}{v:Value}{F:BS}(hp:Sub Pr gh)(r:r6 h Pr k x v F):r6 h gh k x v F:=by
 cases k with
 | val t m=>exact pO.mono hp r
 | ptr t m=>exact wm.mono hp r
def sB(tmps:Array Value):ResultVar->Sem Value
 | .tmp t=>pure (tmps.getD t Go.undef)
 | .cell a t=>do loadVar t (<- asAddr (tmps.getD a Go.undef))
theorem abj{fn:Func}{tmps:Array Value}{P:Program}{w:World}{us:List Value}(h:(fn.results.toList.mapM (sB tmps)).run P w=.ok us w):(results fn tmps).run P w=.ok (tN us) w:=by
 have e:results fn tmps=(do let vs <- fn.results.mapM (sB tmps);pure (if h:vs.size=1 then vs[0] else .tuple vs)):=by unfold results sB;rfl
 rw[e,Array.mapM_eq_mapM_toList];simp only[Sem.run_bind,Sem.run_map,h,Result.andThen_ok]
 match us with
 | []=>simp[tN]
 | [v]=>simp[tN]
 | u::v::l=>simp[tN]
section
variable {P:Program} {C:Ctx}
theorem Sa{w:World}{t:TypeId}(k:mF P C t)(hz:(C.ty t).nz=true){b o:Nat}{c:List Value}(hr:w.rangeAt b o c)(hl:c.length=(C.ty t).width) :
  (do loadVar t (<- asAddr (.pointer (some ⟨b,o,none⟩))):Sem Value).run P w=.ok (dK (C.ty t) c) w:=by
 have:=Hj (P:=P) k hz hr hl;simpa only [Instr.loadAt,Instr.sureAddr,asAddr] using this
theorem alu(bn:iD P C){w:World}{S:St}{g:aA}{tmps:Array Value}{H:BS}(st:aE w.heap S g tmps H){t:TypeId}(hz:(C.ty t).nz=true){a v':AV}{va:Value}
  (ha:qe w.heap S g a va) (hl:vz S.rt (C.ty t) a=some v'):∃u,(do loadVar t (<- asAddr va):Sem Value).run P w=.ok u w/\qe w.heap S g v' u:=by
 have k:=bn t hz;cases a with
 | ck t' y=>
  simp only[vz]at hl;cases hc:qbv t' (C.ty t) y with
  | none=>rw[hc]at hl;simp at hl
  | some z=>rw[hc]at hl;simp only[qe]at ha;obtain⟨b,off,cs,e,hp,hb,hs,rep⟩:=ha;have hw:=az.width t' rep;obtain⟨e1,jU⟩:=az.cast hc rep;subst e1;have hrun:=Sa (P:=P) (w:=w) k hz (Du hb hs) hw;refine⟨_,by rw[e];exact hrun,?_⟩;simp at hl;subst hl;simp only[qe];exact⟨_,jU,rfl⟩
 | addr r p=>
  simp only[vz]at hl;cases hf:S.rt.focus r p with
  | none=>rw[hf]at hl;simp at hl
  | some d=>
   rw[hf]at hl;simp only at hl;by_cases hd:d.ty=C.ty t
   .simp only[hd,aX]at hl;have hf':=hf;simp only[aP.focus]at hf';split at hf'
    .rename_i R hR;obtain⟨b,off,c,hin,eu,e⟩:=Hv st hR hf' ha;obtain⟨base,c',F,q1,q2,q3,q4,q5⟩:=st.update hR hf' hin;rw[eu]at q1;simp only[aK,aY]at q1;obtain⟨rfl,rfl⟩:=q1;obtain⟨_,cs,Ap,hs,hsub⟩:=q4 b off rfl;have hw:=az.width d.ty q2;have ng:w.rangeAt b off c:=by have:=Du (w:=w) Ap.CL hs;rw[hsub]at this;exact this
     have hrun:=Sa (P:=P) k hz ng (by rw[hw,hd]);obtain⟨dt,dm,dx⟩:=d;simp only at hd;subst hd;refine⟨_,by rw[e];exact hrun,?_⟩;simp only[aK]at hl;subst hl;exact dg.rel q2 (EU hR _ _ _ p (some (b,off)) c F hf' hin eu q2) (Ty.kV hz)
    .simp at hf'
   .rw[af hd]at hl;simp at hl
 | _=>simp[vz]at hl
theorem MU(bn:iD P C){w:World}{S:St}{g:aA}{tmps:Array Value}{H:BS}(st:aE w.heap S g tmps H){v:ResultVar}{a:AV}(h:yp C S v=some a) :
  ∃u,(sB tmps v).run P w=.ok u w/\qe w.heap S g a u:=by
 cases v with
 | tmp t=>simp only[yp,aK]at h;subst h;exact⟨_,by simp only[sB,Sem.run_pure],st.slots t⟩
 | cell x t=>
  simp only[yp]at h;split at h
  .rename_i hz;exact alu bn st hz (st.slots x) h
  .simp at h
theorem Ng{h:Array Obj}{S:St}{g:aA}{tmps:Array Value}{H:BS}(st:aE h S g tmps H){q:Nat}{R:aC}(hR:S.root q=some R)(hm:R.mem=true){t:Ty}{m:Mk}{x:t.den}{v:Value}
  (hs:m.aQ R.ms=true) (hc:qbv R.ty t R.x=some x) (hv:qe h S g (.addr q []) v) :
  ∃g' F,aE h (S.aI q none) g' tmps (Un H F)/\wm h g'.Pr t m x v F/\cC F H/\g'.cT g/\Sub g.Pr g'.Pr:=by
 obtain⟨F,r1,r2,r3,r4,_⟩:=st.roots q R hR;obtain⟨b,bQ,gw,Lj⟩:=r4 hm;have hq:(S.root q).isSome:=by rw[hR];rfl
 have s1:=st.gD hq;obtain⟨_,rx⟩:=az.cast hc r1;obtain⟨F1,F2,q1,q2,q3,q4⟩:=az.aQ t hs rx;have s2:=s1.cR F2 (fun z hz=>.inr (r2 z (q2 z hz)));obtain⟨b',off,c,hin,eu,e⟩:=Hv st hR (p:=[]) (d:=⟨R.ty,R.ms,R.x⟩) (by simp only[focus]) hv;have Xp:cv h R.ty (g.C q) (g.base q) []=some (g.base q,g.C q):=by cases R.ty<;>rfl
 rw[Xp]at eu;simp only[aK,aY,aA.base,bQ,ef]at eu;obtain⟨⟨rfl,rfl⟩,rfl⟩:=eu;refine⟨{ g with Pr:=Un g.Pr F2 },fun z=>F1 z\/z=b,s2.bB ?_,⟨b,g.C q,F1,e,q4,Lj,.inr rfl,fun z hz=>.inl hz,fun hz=>r3 b bQ (q1 b hz)⟩,?_,⟨rfl,rfl,rfl⟩,fun z hz=>.inl hz⟩
 .rintro z (hz | hz | rfl)
  .exact⟨.inl hz,fun h2=>st.hand q hq z (r2 z (q2 z h2)) hz⟩
  .exact⟨.inr (r2 z (q1 z hz)),fun h2=>q3 z hz h2⟩
  .exact⟨.inr gw,fun h2=>r3 z bQ (q2 z h2)⟩
 .rintro z (hz | rfl) hh
  .exact st.hand q hq z (r2 z (q1 z hz)) hh
  .exact st.hand q hq z gw hh
theorem Rw(bn:iD P C){w:World}{tmps:Array Value}:∀(rs:List RK)(vs:List ResultVar)(S:St)(g:aA)(H:BS)(i:Nat)(r:f8 rs)(S':St),aE w.heap S g tmps H->wq C rs vs S=some (r,S')->
  ∃us g' H' Gs,(vs.mapM (sB tmps)).run P w=.ok us w/\aE w.heap S' g' tmps H'/\g'.cT g/\Sub g.Pr g'.Pr/\lu w.heap g'.Pr Gs i rs r us/\(∀j,j<i->Gs j=Nil)/\
   (∀j,Sub (Gs j) H')/\(∀j k,j≠k->cC (Gs j) (Gs k))/\(∀j,cC (Gs j) H)/\Sub H H'
 | [],[],S,g,H,i,r,S',st,h=>by
  simp only[wq,aK,aY]at h;obtain⟨_,rfl⟩:=h;exact⟨[],g,H,fun _=>Nil,by simp,st,.refl g,Sub.refl _,rfl,fun _ _=>rfl,fun _=>Sub.nil _,fun _ _ _=>cC.nil _,fun _=>cC.nil _,Sub.refl _⟩
 | [],_::_,S,g,H,i,r,S',st,h=>by simp[wq]at h
 | k::_,[],S,g,H,i,r,S',st,h=>by cases k<;>simp[wq]at h
 | k::ks,v::vs,S,g,H,i,r,S',st,h=>by
  -- one
  have one:∃u S1 x g1 F rr,(sB tmps v).run P w=.ok u w/\aE w.heap S1 g1 tmps (Un H F)/\r6 w.heap g1.Pr k x u F/\cC F H/\g1.cT g/\Sub g.Pr g1.Pr/\wq C ks vs S1=some (rr,S')/\r=(x,rr):=by
   cases k with
   | val t m=>
    simp only[wq,cM]at h;obtain⟨a,ha,⟨mx,x,rt'⟩,sn,h⟩:=h;split at h
    .rename_i hs;simp only[cM,aK,aY]at h;obtain⟨⟨rr,S2⟩,hg,rfl,rfl⟩:=h;obtain⟨u,hu,rM⟩:=MU bn st ha;obtain⟨c,g2,F,ev,cJ⟩:=yZ _ st sn rM;obtain⟨F1,F2,q1,q2,q3,q4⟩:=az.aQ t hs cJ.rep;have s2:=cJ.st.cR F2 (fun z hz=>.inr (q2 z hz));refine⟨u,_,x,_,F1,rr,hu,s2.bB ?_,⟨c,q4,ev⟩,fun z hz hh=>cJ.d6 z (q1 z hz) hh,aA.cT.trans cJ.same ⟨rfl,rfl,rfl⟩,fun z hz=>.inl (cJ.pr z hz),hg,rfl⟩;rintro z (hz | hz)
     .exact⟨.inl hz,fun h2=>cJ.d6 z (q2 z h2) hz⟩
     .exact⟨.inr (q1 z hz),fun h2=>q3 z hz h2⟩
    .simp at h
   | ptr t m=>
    simp only[wq]at h;split at h
    .rename_i q ha;split at h
     .rename_i R hR;split at h
      .rename_i hs;simp only[cM,aK,aY]at h;obtain⟨x,hc,⟨rr,S2⟩,hg,rfl,rfl⟩:=h;obtain⟨u,hu,rM⟩:=MU bn st ha;obtain⟨g1,F,p1,p2,p3,p4,p5⟩:=Ng st hR hs.1 hs.2 hc rM;exact⟨u,_,x,g1,F,rr,hu,p1,p2,p3,p4,p5,hg,rfl⟩
      .simp at h
     .simp at h
    .simp at h
  obtain⟨u,S1,x,g1,F,rr,hu,p1,p2,p3,p4,p5,hg,rfl⟩:=one;obtain⟨us,g',H',Gs,k1,k2,k3,k4,k5,k6,k7,k8,k9,jq⟩:=Rw bn ks vs S1 g1 _ (i+1) rr S' p1 hg;refine⟨u::us,g',H',fun j=>if j=i then F else Gs j,?_,k2,p4.trans k3,p5.trans k4,?_,?_,?_,?_,?_,fun z hz=>jq z (.inl hz)⟩
  .simp[List.mapM_cons,hu,k1]
  .refine⟨u,us,rfl,?_,?_⟩
   .show r6 w.heap g'.Pr k x u (if i=i then F else Gs i);rw[ak rfl];exact p2.mono k4
   .have:∀(ks:List RK)(n:Nat){a:f8 ks}{us:List Value},i<n->lu w.heap g'.Pr Gs n ks a us->lu w.heap g'.Pr (fun j=>if j=i then F else Gs j) n ks a us:=by
     intro ks
     induction ks with
     | nil=>intro n a us _ h;exact h
     | cons k ks ih=>intro n a us hn h;obtain⟨v,vs',e,r1,r2⟩:=h;exact⟨v,vs',e,by show r6 _ _ _ _ _ (if n=i then F else Gs n);rw[af (by omega)];exact r1,ih (n+1) (by omega) r2⟩
    exact this ks (i+1) (by omega) k5
  .intro j hj;show(if j=i then F else Gs j)=Nil;rw[af (by omega)];exact k6 j (by omega)
  .intro j z hz;split at hz
   .exact jq z (.inr hz)
   .exact k7 j z hz
  .intro j k oE z h1 h2;split at h1<;>split at h2
   .omega
   .exact k9 k z h2 (.inr h1)
   .exact k9 j z h1 (.inr h2)
   .exact k8 j k oE z h1 h2
  .intro j z h1 h2;split at h1
   .exact p3 z h1 h2
   .exact k9 j z h1 (.inl h2)
end
end
end Go.V
namespace Go.V
noncomputable section
open Go
def hdc(hd:Nat->Value)(n w:Nat):List Value:=(List.range w).map fun k=>hd (n+k)
theorem ND(hd:Nat->Value)(n a b:Nat):hdc hd n (a+b)=hdc hd n a++hdc hd (n+a) b:=by simp only[hdc,List.range_add,pI,B3];congr 1;apply rK;intro k _;simp[F4]
theorem xU(hd:Nat->Value)(n w:Nat):(hdc hd n w).length=w:=by simp[hdc]
theorem BD:∀(t:Ty)(m:Mk)(n:Nat),fj t m=true->(m.tag n).2=n+t.width
 | .sl _,.own _ _,n,_=>rfl
 | .pair a b,.pr x y,n,h=>by
  simp only[fj,bI]at h;simp only[Mk.tag,Ty.width];rw[BD b y _ h.2,BD a x _ h.1];omega
 | .unit,.no,_,_=>rfl
 | .unit,.gone,_,h=>by simp[fj]at h
 | .unit,.own _ _,_,h=>by simp[fj]at h
 | .unit,.pr _ _,_,h=>by simp[fj]at h
 | .int _,m,_,h=>by cases m<;>simp[fj]at h
 | .bool,m,_,h=>by cases m<;>simp[fj]at h
 | .str,m,_,h=>by cases m<;>simp[fj]at h
 | .sl _,.no,_,h=>by simp[fj]at h
 | .sl _,.gone,_,h=>by simp[fj]at h
 | .sl _,.pr _ _,_,h=>by simp[fj]at h
 | .pair _ _,.no,_,h=>by simp[fj]at h
 | .pair _ _,.gone,_,h=>by simp[fj]at h
 | .pair _ _,.own _ _,_,h=>by simp[fj]at h
theorem BT:∀(t:Ty)(m:Mk)(n:Nat),fj t m=true->(m.tag n).1.same .no=true->t.width=0
 | .sl _,.own _ _,n,_,h=>by simp[Mk.tag,Mk.same]at h
 | .pair a b,.pr x y,n,hh,h=>by
  simp only[fj,bI]at hh;simp only[Mk.tag,Mk.same,bI]at h;simp only[Ty.width,BT a x n hh.1 h.1,BT b y _ hh.2 h.2]
 | .unit,_,_,_,_=>rfl
 | .int _,m,_,h,_=>by cases m<;>simp[fj]at h
 | .bool,m,_,h,_=>by cases m<;>simp[fj]at h
 | .str,m,_,h,_=>by cases m<;>simp[fj]at h
 | .sl _,.no,_,h,_=>by simp[fj]at h
 | .sl _,.gone,_,h,_=>by simp[fj]at h
 | .sl _,.pr _ _,_,h,_=>by simp[fj]at h
 | .pair _ _,.no,_,h,_=>by simp[fj]at h
 | .pair _ _,.gone,_,h,_=>by simp[fj]at h
 | .pair _ _,.own _ _,_,h,_=>by simp[fj]at h
theorem GD{hd:Nat->Value}:∀(t:Ty)(m:Mk)(n:Nat)(m':Mk)(c:List Value),fj t m=true->1048576<=n->(m.tag n).1.same m'=true->aL hd t m' c->c.length=t.width->c=hdc hd n t.width
 | .sl _,.own _ _,n,m',c,_,hn,hs,ht,hl=>by
  simp only[Mk.tag,Mk.same]at hs;split at hs
  .rename_i s' mi';simp only[gT]at hs;subst hs;simp only[aL]at ht;rw[ht.1 hn];rfl
  .simp at hs
 | .pair a b,.pr x y,n,m',c,h,hn,hs,ht,hl=>by
  simp only[fj,bI]at h;simp only[Mk.tag,Mk.same]at hs;split at hs
  .rename_i c1 d1;simp only[bI]at hs;simp only[aL,Mk.fst,Mk.snd]at ht;simp only[Ty.width]at hl⊢;rw[BD a x n h.1]at hs;have e1:=GD a x n c1 _ h.1 hn hs.1 ht.1 (by simp;omega);have e2:=GD b y (n+a.width) d1 _ h.2 (by omega) hs.2 ht.2 (by simp;omega);rw[ND,<-e1,<-e2,rJ]
  .simp only[bI]at hs;simp only[Ty.width]at hl⊢;rw[BT a x n h.1 hs.1,BT b y _ h.2 hs.2]at hl⊢;exact lE.1 hl
  .simp at hs
 | .unit,_,_,_,c,_,_,_,_,hl=>lE.1 hl
 | .int _,m,_,_,_,h,_,_,_,_=>by cases m<;>simp[fj]at h
 | .bool,m,_,_,_,h,_,_,_,_=>by cases m<;>simp[fj]at h
 | .str,m,_,_,_,h,_,_,_,_=>by cases m<;>simp[fj]at h
 | .sl _,.no,_,_,_,h,_,_,_,_=>by simp[fj]at h
 | .sl _,.gone,_,_,_,h,_,_,_,_=>by simp[fj]at h
 | .sl _,.pr _ _,_,_,_,h,_,_,_,_=>by simp[fj]at h
 | .pair _ _,.no,_,_,_,h,_,_,_,_=>by simp[fj]at h
 | .pair _ _,.gone,_,_,_,h,_,_,_,_=>by simp[fj]at h
 | .pair _ _,.own _ _,_,_,_,h,_,_,_,_=>by simp[fj]at h
theorem HR{hd:Nat->Value}:∀(t:Ty)(m:Mk)(n:Nat),fj t m=true->m.ax=true->aL hd t (m.tag n).1 (hdc hd n t.width)
 | .sl _,.own _ _,n,_,hf=>by
  simp only[Mk.ax,bI]at hf;simp only[Mk.tag,aL];exact⟨fun _=>rfl,hf.2⟩
 | .pair a b,.pr x y,n,h,hf=>by
  simp only[fj,bI]at h;simp only[Mk.ax,bI]at hf;simp only[Mk.tag,aL,Mk.fst,Mk.snd,Ty.width,ND];rw[BD a x n h.1,jn (xU _ _ _),i5 (xU _ _ _)];exact⟨HR a x n h.1 hf.1,HR b y _ h.2 hf.2⟩
 | .unit,_,_,_,_=>by simp only[aL]
 | .int _,m,_,h,_=>by cases m<;>simp[fj]at h
 | .bool,m,_,h,_=>by cases m<;>simp[fj]at h
 | .str,m,_,h,_=>by cases m<;>simp[fj]at h
 | .sl _,.no,_,h,_=>by simp[fj]at h
 | .sl _,.gone,_,h,_=>by simp[fj]at h
 | .sl _,.pr _ _,_,h,_=>by simp[fj]at h
 | .pair _ _,.no,_,h,_=>by simp[fj]at h
 | .pair _ _,.gone,_,h,_=>by simp[fj]at h
 | .pair _ _,.own _ _,_,h,_=>by simp[fj]at h
theorem Is{h:Array Obj}{Pr:BS}:∀(t:Ty)(m:Mk)(n:Nat){x:t.den}{c:List Value}{F:BS},fj t m=true->az h Pr t m x c F->az h Pr t (m.tag n).1 x c F
 | .sl _,.own _ _,n,_,_,_,_,r=>by
  simp only[Mk.tag,az]at r⊢;exact r
 | .pair a b,.pr x y,n,_,_,_,hh,r=>by
  simp only[fj,bI]at hh;simp only[Mk.tag,az,Mk.fst,Mk.snd]at r⊢;obtain⟨ca,cb,Fa,Fb,e,ra,rb,k⟩:=r;exact⟨ca,cb,Fa,Fb,e,Is a x _ hh.1 ra,Is b y _ hh.2 rb,k⟩
 | .unit,m,n,_,_,_,h,r=>by simpa only [az] using r
 | .int _,m,_,_,_,_,h,_=>by cases m<;>simp[fj]at h
 | .bool,m,_,_,_,_,h,_=>by cases m<;>simp[fj]at h
 | .str,m,_,_,_,_,h,_=>by cases m<;>simp[fj]at h
 | .sl _,.no,_,_,_,_,h,_=>by simp[fj]at h
 | .sl _,.gone,_,_,_,_,h,_=>by simp[fj]at h
 | .sl _,.pr _ _,_,_,_,_,h,_=>by simp[fj]at h
 | .pair _ _,.no,_,_,_,_,h,_=>by simp[fj]at h
 | .pair _ _,.gone,_,_,_,_,h,_=>by simp[fj]at h
 | .pair _ _,.own _ _,_,_,_,_,h,_=>by simp[fj]at h
def fV(hd:Nat->Value):Nat->List PK->List Value->Prop
 | i,.cQ t m _::ks,v::vs=>(v=dK t (hdc hd (1048576+64 * i) t.width)/\fj t m=true)/\fV hd (i+1) ks vs
 | i,.cD _ _ _::ks,_::vs=>fV hd (i+1) ks vs
 | i,.val _::ks,_::vs=>fV hd (i+1) ks vs
 | i,.own _ _::ks,_::vs=>fV hd (i+1) ks vs
 | i,.cq _::ks,_::vs=>fV hd (i+1) ks vs
 | i,.fn::ks,_::vs=>fV hd (i+1) ks vs
 | _,_,_=>True
theorem ake{h:Array Obj}{S:St}{g:aA}{tmps:Array Value}{H:BS}(st:aE h S g tmps H){q:Nat}{R:aC}(hR:S.root q=some R){t:Ty}{m:Mk}{x:t.den}
  (hs:m.aQ R.ms=true) (hc:qbv R.ty t R.x=some x) :
  ∃g' F,aE h (S.aI q none) g' tmps (Un H F)/\pO h g'.Pr t m x (dK t (g.C q)) F/\cC F H/\g'.cT g/\Sub g.Pr g'.Pr:=by
 obtain⟨F,r1,r2,r3,r4,_⟩:=st.roots q R hR;have hq:(S.root q).isSome:=by rw[hR];rfl
 have s1:=st.gD hq;obtain⟨_,rx⟩:=az.cast hc r1;obtain⟨F1,F2,q1,q2,q3,q4⟩:=az.aQ t hs rx;have s2:=s1.cR F2 (fun z hz=>.inr (r2 z (q2 z hz)));refine⟨{ g with Pr:=Un g.Pr F2 },F1,s2.bB ?_,⟨g.C q,q4,rfl⟩,?_,⟨rfl,rfl,rfl⟩,fun z hz=>.inl hz⟩
 .rintro z (hz | hz)
  .exact⟨.inl hz,fun h2=>st.hand q hq z (r2 z (q2 z h2)) hz⟩
  .exact⟨.inr (r2 z (q1 z hz)),fun h2=>q3 z hz h2⟩
 .intro z hz hh;exact st.hand q hq z (r2 z (q1 z hz)) hh
theorem nA.shift{h:Array Obj}{Pr:BS}{Os Os2:Nat->BS}:∀(ks:List PK)(i:Nat){o:dG ks}{vs:List Value},(∀j,i<=j->Os2 j=Os j)->nA h Pr Os i ks o vs->nA h Pr Os2 i ks o vs
 | [],_,_,_,_,r=>r
 | .cD t _ m::ks,i,_,_,hj,r=>by
  obtain⟨v,vs',e,r1,r2⟩:=r;exact⟨v,vs',e,by rw[hj i (ct _)];exact r1,nA.shift ks (i+1) (fun j h=>hj j (by omega)) r2⟩
 | .cQ t _ m::ks,i,_,_,hj,r=>by
  obtain⟨v,vs',e,r1,r2⟩:=r;exact⟨v,vs',e,by rw[hj i (ct _)];exact r1,nA.shift ks (i+1) (fun j h=>hj j (by omega)) r2⟩
 | .val _::ks,i,_,_,hj,r=>by obtain⟨v,vs',e,r2⟩:=r;exact⟨v,vs',e,nA.shift ks (i+1) (fun j h=>hj j (by omega)) r2⟩
 | .own _ _::ks,i,_,_,hj,r=>by obtain⟨v,vs',e,r2⟩:=r;exact⟨v,vs',e,nA.shift ks (i+1) (fun j h=>hj j (by omega)) r2⟩
 | .cq _::ks,i,_,_,hj,r=>by obtain⟨v,vs',e,r2⟩:=r;exact⟨v,vs',e,nA.shift ks (i+1) (fun j h=>hj j (by omega)) r2⟩
 | .fn::ks,i,_,_,hj,r=>by obtain⟨v,vs',e,r2⟩:=r;exact⟨v,vs',e,nA.shift ks (i+1) (fun j h=>hj j (by omega)) r2⟩
structure WZ (h:Array Obj) (g:aA) (tmps:Array Value) (H:BS) (ks:List PK) (i:Nat) (o:dG ks) (vs:List Value) (g':aA) (H':BS) (Os:Nat->BS):Prop where
 st:∃S',aE h S' g' tmps H'
 same:g'.cT g
 pr:Sub g.Pr g'.Pr
 rel:nA h g'.Pr Os i ks o vs
 nil:∀j,j<i->Os j=Nil
 sub:∀j,Sub (Os j) H'
 d6:∀j k,j≠k->cC (Os j) (Os k)
 pU:∀j,cC (Os j) H
 hand:Sub H H'
theorem abR{i j:Nat}{k:PK}{ks:List PK}(h:j∈v7 (i+1) ks):j∈v7 i (k::ks):=by cases k<;>simp only[v7,bk]<;>first | exact h | exact .inr h
theorem J8{Hh:Hints}{h:Array Obj}{tmps:Array Value}:∀(ks:List PK)(i:Nat)(vs:List Value)(S:St)(g:aA)(H:BS)(o:dG ks),aE h S g tmps H->outs Hh i ks S=some o->
  (∀k v,vs[k]? = some v->i+k∈v7 i ks->tmps.getD (i+k) Go.undef=v)->vs.length=ks.length->fV g.hd i ks vs->∃g' H' Os,WZ h g tmps H ks i o vs g' H' Os
 | [],i,vs,S,g,H,o,st,ho,hv,hl,hm=>by
  refine⟨g,H,fun _=>Nil,⟨S,st⟩,.refl g,Sub.refl _,lE.1 hl,fun _ _=>rfl,fun _=>Sub.nil _,fun _ _ _=>cC.nil _,fun _=>cC.nil _,Sub.refl _⟩
 | k::ks,i,[],S,g,H,o,st,ho,hv,hl,hm=>by simp at hl
 | k::ks,i,v::vs,S,g,H,o,st,ho,hv,hl,hm=>by
  have As:∀k v,vs[k]? = some v->i+1+k∈v7 (i+1) ks->tmps.getD (i+1+k) Go.undef=v:=by intro k u hk hm;have:=hv (k+1) u (by simpa using hk) (by rw[show i+(k+1)=i+1+k by omega];exact abR hm);rw[<-this];congr 1;omega
  have hl':vs.length=ks.length:=by simpa using hl
  -- one al2 comes back
  have back:∀(t:Ty)(x:t.den)(oo:dG ks)(S1:St)(g1:aA)(F:BS)(rel:BS->BS->Prop),aE h S1 g1 tmps (Un H F)->(∀Pr,Sub g1.Pr Pr->rel Pr F)->cC F H->g1.cT g->Sub g.Pr g1.Pr->
    outs Hh (i+1) ks S1=some oo->fV g.hd (i+1) ks vs->
    ∃g' H' Os,(∃S',aE h S' g' tmps H')/\g'.cT g/\Sub g.Pr g'.Pr/\rel g'.Pr (Os i)/\nA h g'.Pr Os (i+1) ks oo vs/\(∀j,j<i->Os j=Nil)/\(∀j,Sub (Os j) H')/\
     (∀j k,j≠k->cC (Os j) (Os k))/\(∀j,cC (Os j) H)/\Sub H H':=by
   intro t x oo S1 g1 F rel s1 Ya hd iL hp ho hm;obtain⟨g',H',Os,q⟩:=J8 ks (i+1) vs S1 g1 _ oo s1 ho As hl' (by rw[iL.1];exact hm);refine⟨g',H',fun j=>if j=i then F else Os j,q.st,iL.trans q.same,hp.trans q.pr,?_,?_,?_,?_,?_,?_,fun z hz=>q.hand z (.inl hz)⟩
   .show rel g'.Pr (if i=i then F else Os i);rw[ak rfl];exact Ya _ q.pr
   .exact nA.shift ks (i+1) (fun j hj=>by show(if j=i then F else Os j)=Os j;rw[af (by omega)]) q.rel
   .intro j hj;show(if j=i then F else Os j)=Nil;rw[af (by omega)];exact q.nil j (by omega)
   .intro j z hz;split at hz
    .exact q.hand z (.inr hz)
    .exact q.sub j z hz
   .intro j k oE z h1 h2;split at h1<;>split at h2
    .omega
    .exact q.pU k z h2 (.inr h1)
    .exact q.pU j z h1 (.inr h2)
    .exact q.d6 j k oE z h1 h2
   .intro j z h1 h2;split at h1
    .exact hd z h1 h2
    .exact q.pU j z h1 (.inl h2)
  cases k with
  | val t=>obtain⟨g',H',Os,q⟩:=J8 ks (i+1) vs S g H o st (by simpa only [outs] using ho) As hl' (by simpa only [fV] using hm);exact⟨g',H',Os,q.st,q.same,q.pr,⟨v,vs,rfl,q.rel⟩,fun j hj=>q.nil j (by omega),q.sub,q.d6,q.pU,q.hand⟩
  | own t m=>obtain⟨g',H',Os,q⟩:=J8 ks (i+1) vs S g H o st (by simpa only [outs] using ho) As hl' (by simpa only [fV] using hm);exact⟨g',H',Os,q.st,q.same,q.pr,⟨v,vs,rfl,q.rel⟩,fun j hj=>q.nil j (by omega),q.sub,q.d6,q.pU,q.hand⟩
  | cq t=>obtain⟨g',H',Os,q⟩:=J8 ks (i+1) vs S g H o st (by simpa only [outs] using ho) As hl' (by simpa only [fV] using hm);exact⟨g',H',Os,q.st,q.same,q.pr,⟨v,vs,rfl,q.rel⟩,fun j hj=>q.nil j (by omega),q.sub,q.d6,q.pU,q.hand⟩
  | fn=>obtain⟨g',H',Os,q⟩:=J8 ks (i+1) vs S g H o st (by simpa only [outs] using ho) As hl' (by simpa only [fV] using hm);exact⟨g',H',Os,q.st,q.same,q.pr,⟨v,vs,rfl,q.rel⟩,fun j hj=>q.nil j (by omega),q.sub,q.d6,q.pU,q.hand⟩
  | cD t m0 m'=>
   simp only[outs]at ho;split at ho
   .rename_i qq tv;split at ho
    .rename_i R hR;split at ho
     .rename_i hs;simp only[cM,aK]at ho;obtain⟨x,hc,oo,ho,rfl⟩:=ho;have Yp:tmps.getD i Go.undef=v:=by have:=hv 0 v rfl (by simp[v7]);simpa using this
      have rM:=st.slots i;rw[tv,Yp]at rM;obtain⟨g1,F,p1,p2,p3,p4,p5⟩:=Ng st hR hs.1 hs.2 hc rM;obtain⟨g',H',Os,k1,k2,k3,k4,k5,k6⟩:=back t x oo _ g1 F (fun Pr F=>wm h Pr t m' x v F) p1 (fun Pr hp=>p2.mono hp) p3 p4 p5 ho (by simpa only [fV] using hm);exact⟨g',H',Os,k1,k2,k3,⟨v,vs,rfl,k4,k5⟩,k6.1,k6.2.1,k6.2.2.1,k6.2.2.2.1,k6.2.2.2.2⟩
     .simp at ho
    .simp at ho
   .simp at ho
  | cQ t m0 m'=>
   simp only[outs]at ho;split at ho
   .rename_i R hR;split at ho
    .rename_i hs;simp only[cM,aK]at ho;obtain⟨x,hc,oo,ho,rfl⟩:=ho;simp only[fV]at hm;obtain⟨⟨ev,hh⟩,hm⟩:=hm;obtain⟨g1,F,p1,p2,p3,p4,p5⟩:=ake st hR hs.1 hc;have hcell:g.C ((Hh.outs.lookup i).getD i)=hdc g.hd (1048576+64 * i) t.width:=by obtain⟨F0,r1,_⟩:=st.roots _ R hR;have ht:=st.tag _ R hR;obtain⟨e,_⟩:=Dt hc;have hw:=az.width _ r1;rw[e]at ht hw;exact GD t m0 _ _ _ hh (by omega) hs.2 ht hw
     rw[hcell,<-ev]at p2;obtain⟨g',H',Os,k1,k2,k3,k4,k5,k6⟩:=back t x oo _ g1 F (fun Pr F=>pO h Pr t m' x v F) p1 (fun Pr hp=>p2.mono hp) p3 p4 p5 ho hm;exact⟨g',H',Os,k1,k2,k3,⟨v,vs,rfl,k4,k5⟩,k6.1,k6.2.1,k6.2.2.1,k6.2.2.2.1,k6.2.2.2.2⟩
    .simp at ho
   .simp at ho
end
theorem GH(r:Nat):∀(t:Ty)(m:Mk)(x:t.den)(p:Path),∀q∈(cX r t m x p).roots,q=r
 | .unit,_,_,_,q,h=>by simp[cX,AV.roots]at h
 | .int _,_,_,_,q,h=>by simp[cX,AV.roots]at h
 | .bool,_,_,_,q,h=>by simp[cX,AV.roots]at h
 | .str,_,_,_,q,h=>by simp[cX,AV.roots]at h
 | .pair a b,m,x,p,q,h=>by
  unfold cX at h;split at h
  .simp[AV.roots]at h
  .simp only[AV.roots,bN]at h;rcases h with h | h
   .exact GH r a _ _ _ q h
   .exact GH r b _ _ _ q h
 | .sl t,m,x,p,q,h=>by cases m<;>simp[cX,AV.roots]at h;exact h
theorem abl{tmps:Array Value}{i:Nat}{v:Value}(h:tmps.getD i Go.undef=v):tmps.setIfInBounds i v=tmps:=by
 apply Array.ext_getElem?;intro j;rw[FO];by_cases e:i=j
 .subst e;rw[ak rfl];by_cases hl:i<tmps.size
  .rw[ak hl];simp only[pE,vL hl,uT]at h;rw[vL hl,h]
  .rw[af hl,IC (by omega)]
 .rw[af e]
theorem Sv{h:Array Obj}{tmps:Array Value}{Pr:BS}{Fs:Nat->BS}(oV:∀i j,i≠j->cC (Fs i) (Fs j)):∀(ks:List PK)(i:Nat)(a:gf ks)(vs:List Value)(S:St)(g:aA)(H:BS),aE h S g tmps H->
  yX h Pr Fs i ks a vs->g.Pr=Pr->(∀k v,vs[k]? = some v->tmps.getD (i+k) Go.undef=v)->(∀u r,r∈(S.get u).roots->r<i)->ks.all PK.f6=true->(∀j,i<=j->Sub (Fs j) H)->
  i+ks.length<=tmps.size->fV g.hd i ks vs->∃g' H',aE h (enter S i ks a) g' tmps H'/\g'.Pr=Pr/\g'.cT g
 | [],i,a,vs,S,g,H,st,hps,gZ,hv,hb,hok,hH,hl,hm=>⟨g,H,st,gZ,.refl g⟩
 | k::ks,i,a,vs,S,g,H,st,hps,gZ,hv,hb,hok,hH,hl,hm=>by
  obtain⟨v,vs',rfl,r1,r2⟩:=hps;simp only[gW,bI]at hok;simp only[cw]at hl;have As:∀k v,vs'[k]? = some v->tmps.getD (i+1+k) Go.undef=v:=by intro k u hk;have:=hv (k+1) u (by simpa using hk);rw[<-this];congr 1;omega
  have Yp:tmps.getD i Go.undef=v:=by have:=hv 0 v rfl;simpa using this
  have Lw:i<S.rt.length:=by rw[st.gy];omega
  -- zf slot,and on
  have go:∀(S1:St)(g1:aA)(H1:BS)(av:AV),aE h S1 g1 tmps H1->g1.Pr=Pr->g1.cT g->qe h S1 g1 av v->(∀r∈av.roots,r=i)->(∀u r,r∈(S1.get u).roots->r<i)->
    (∀j,i+1<=j->Sub (Fs j) H1)->fV g.hd (i+1) ks vs'->∃g' H',aE h (enter (S1.set i av) (i+1) ks a.2) g' tmps H'/\g'.Pr=Pr/\g'.cT g:=by
   intro S1 g1 H1 av s1 Vi tr rM hr bQ uc XO;have s2:=s1.tU i rM;rw[abl Yp]at s2;obtain⟨g',H',k1,k2,k3⟩:=Sv oV ks (i+1) a.2 vs' (S1.set i av) g1 H1 s2 r2 Vi As (by
    intro u r hr';rw[St.gv]at hr';split at hr'
    .have:=hr r hr';omega
    .have:=bQ u r hr';omega) hok.2 uc (by omega) (by rw[tr.1];exact XO)
   exact⟨g',H',k1,k2,tr.trans k3⟩
  -- a root,zf slot,and on
  have root:∀(t:Ty)(m:Mk)(x:t.den)(c:List Value),t.nz=true->az h Pr t m x c (Fs i)->v=dK t c->aL g.hd t m c->fV g.hd (i+1) ks vs'->
    ∃g' H',aE h (enter ((S.aI i (some ⟨t,m,x,false⟩)).set i (cX i t m x [])) (i+1) ks a.2) g' tmps H'/\g'.Pr=Pr/\g'.cT g:=by
   intro t m x c hz rep ev nk XO;obtain⟨g1,s1,p1,p2,p3,p4,_⟩:=st.kU Lw (by rw[gZ];exact rep) nk (hH i (ct _)) none (fun b hb=>by simp at hb) (fun u=>.inl (by
    cases hc:(S.get u).roots.contains i with
    | false=>rfl
    | true=>have:=hb u i (by simpa using hc);omega))
   have bK:(S.aI i (some ⟨t,m,x,false⟩)).root i=some ⟨t,m,x,false⟩:=by rw[St.b7];simp[Lw]
   have eu:cv h t c (g1.base i) []=some (g1.base i,c):=by cases t<;>rfl
   refine go _ g1 _ _ s1 (p1.trans gZ) p2 ?_ (GH i t m x []) (fun u r hr=>hb u r hr) ?_ XO
   .rw[ev];have jU:az h g1.Pr t m x c (Fs i):=by rw[p1,gZ];exact rep
    refine dg.rel jU (EU bK t m x [] (g1.base i) c (Fs i) (by simp only[focus]) (by simp only[bw]) ?_ jU) (Ty.kV hz);rw[p3];exact eu
   .intro j hj b hb';exact⟨hH j (by omega) b hb',fun h2=>oV j i (by omega) b hb' h2,by simp⟩
  cases k with
  | val t=>simp only[enter];refine go S g H _ st gZ (.refl g) ?_ (by simp[AV.roots]) hb (fun j hj=>hH j (by omega)) (by simpa only [fV] using hm);obtain⟨c,rep,e⟩:=r1;simp only[qe];exact⟨c,by rw[gZ];exact rep,e⟩
  | cq t=>simp only[enter];refine go S g H _ st gZ (.refl g) ?_ (by simp[AV.roots]) hb (fun j hj=>hH j (by omega)) (by simpa only [fV] using hm);simp only[qe];obtain⟨b,o,cs,e1,e2,e3⟩:=r1;exact⟨b,o,cs,e1,by rw[gZ];exact e2,by rw[gZ];exact e3⟩
  | fn=>
   simp only[enter];refine go S g H _ st gZ (.refl g) ?_ (by simp[AV.roots]) hb (fun j hj=>hH j (by omega)) (by simpa only [fV] using hm);obtain⟨us,e,hc⟩:=r1;simp only[qe];refine⟨us,e,?_⟩;have:∀(l:List bC)(us:List Value),nV h (PG Pr) l us->nV h g l us:=by
    intro l
    induction l with
    | nil=>intro us h;exact h
    | cons x l ih=>
     intro us hh;simp only[nV]at hh⊢;obtain⟨u,us',e,h1,h2⟩:=hh;refine⟨u,us',e,?_,ih us' h2⟩;cases x with
     | val t y=>simp only[sv]at h1⊢;rw[gZ];exact h1
     | cq t y=>simp only[sv]at h1⊢;obtain⟨b,o,cs,e1,e2,e3⟩:=h1;exact⟨b,o,cs,e1,by rw[gZ];exact e2,by rw[gZ];exact e3⟩
   exact this _ us hc
  | own t m=>simp only[enter];simp only[PK.f6,bI]at hok;obtain⟨c,rep,e⟩:=r1;exact root t m a.1 c hok.1.1 rep e (aL.ax t hok.1.2) (by simpa only [fV] using hm)
  | cQ t m m'=>
   simp only[enter];simp only[PK.f6,bI]at hok;simp only[fV]at hm;obtain⟨c,rep,e⟩:=r1;have hc:c=hdc g.hd (1048576+64 * i) t.width:=by
    have e2:=e.symm.trans hm.1.1;have h1:=Cm rep;rw[e2]at h1;rw[<-h1];have:∀(t:Ty)(m:Mk)(l:List Value),t.nz=true->fj t m=true->l.length=t.width->(dK t l).cells.toList=l\/∃y,t=.sl y:=by
     intro t m l hz hh hl;cases t with
     | pair a b=>left;simp[dK,Ty.agg,Value.cells]
     | sl y=>exact .inr ⟨y,rfl⟩
     | unit=>simp[Ty.nz]at hz
     | _=>cases m<;>simp[fj]at hh
    rcases this t m _ hok.1.1 hm.1.2 (xU g.hd (1048576+64 * i) t.width) with h2 | ⟨y,rfl⟩
    .exact h2
    .obtain⟨aa,n,k,Yd⟩:=az.slice rep;have e3:=e2;simp only[dK,Ty.agg,fe,dX,Ty.width,hdc,List.range_one,cA,f4,sG]at e3⊢;rw[Yd]at e3;simp only[sG]at e3;rw[<-e3];simp[Value.cells]
   refine root t (BU i m) a.1 c hok.1.1 (Is t m _ hm.1.2 rep) e ?_ hm.2;rw[hc];exact HR t m _ hm.1.2 hok.1.2.1
  | cD t m m'=>
   simp only[enter];simp only[PK.f6]at hok;obtain⟨b,c,F0,e,rep,ho,bQ,hs0,hn0⟩:=r1;obtain⟨g1,s1,p1,p2,p3,p4,_⟩:=st.kU Lw (by rw[gZ];exact rep) (aL.ax t hok.1) (fun z hz=>hH i (ct _) z (hs0 z hz)) (some b)
    (fun b' hb'=>by simp only[aK]at hb';subst hb';exact⟨hH i (ct _) b bQ,hn0,ho⟩) (fun u=>.inl (by
    cases hc:(S.get u).roots.contains i with
    | false=>rfl
    | true=>have:=hb u i (by simpa using hc);omega))
   have bK:(S.aI i (some ⟨t,m,a.1,true⟩)).root i=some ⟨t,m,a.1,true⟩:=by rw[St.b7];simp[Lw]
   refine go _ g1 _ _ s1 (p1.trans gZ) p2 ?_ (by simp[AV.roots]) (fun u r hr=>hb u r hr) ?_ (by simpa only [fV] using hm)
   .simp only[qe];intro R hR d hf;have vP:R=⟨t,m,a.1,true⟩:=by have cm:(S.aI i (some ⟨t,m,a.1,true⟩)).root i=some R:=hR;rw[bK]at cm;simp only[aK]at cm;exact cm.symm
    subst vP;refine⟨by simp only[bw],b,0,c,?_,e⟩;have eu:cv h t c (g1.base i) []=some (g1.base i,c):=by cases t<;>rfl
    rw[p3,eu];simp[aA.base,p4]
   .intro j hj z hz;refine⟨hH j (by omega) z hz,fun h2=>oV j i (by omega) z hz (hs0 z h2),?_⟩;intro h2;simp only[aK]at h2;subst h2;exact oV j i (by omega) _ hz bQ
theorem yX.len{h:Array Obj}{Pr:BS}{Fs:Nat->BS}:∀(ks:List PK)(i:Nat){a:gf ks}{vs:List Value},yX h Pr Fs i ks a vs->vs.length=ks.length
 | [],_,_,_,r=>by rw[show _=[] from r];rfl
 | k::ks,i,_,_,r=>by
  obtain⟨v,vs',rfl,_,r2⟩:=r;simp[yX.len ks (i+1) r2]
theorem OB{h:Array Obj}{Pr:BS}{Fs:Nat->BS}(us:List Value):∀(ks:List PK)(i:Nat)(a:gf ks)(vs:List Value),yX h Pr Fs i ks a vs->ks.all PK.f6=true->(∀k,vs[k]? = us[i+k]?)->
  fV (fun s=>((us.getD ((s-1048576) / 64) Go.undef).cells).getD ((s-1048576) % 64) Go.undef) i ks vs
 | [],_,_,_,_,_,_=>by simp only[fV]
 | k::ks,i,a,vs,r,hok,hu=>by
  obtain⟨v,vs',rfl,r1,r2⟩:=r;simp only[gW,bI]at hok;have ih:=OB us ks (i+1) a.2 vs' r2 hok.2 (fun k=>by have:=hu (k+1);rw[show i+1+k=i+(k+1) by omega,<-this];simp);cases k with
  | cQ t m m'=>
   simp only[fV];refine⟨⟨?_,?_⟩,ih⟩
   .simp only[PK.f6,bI]at hok;obtain⟨c,rep,e⟩:=r1;have hw:=az.width t rep;have h64:=rI hok.1.2.2.2;have fW:=Cm rep;rw[<-e]at fW;have hui:us.getD i Go.undef=v:=by have:=hu 0;simp only[qU,IB]at this;simp only[List.getD,<-this,uT]
    have:hdc (fun s=>((us.getD ((s-1048576) / 64) Go.undef).cells).getD ((s-1048576) % 64) Go.undef) (1048576+64 * i) t.width=c:=by
     apply yu (by rw[xU,hw]);intro k h1 h2;rw[xU]at h1;simp only[hdc,yw,List.getElem_range];rw[show(1048576+64 * i+k-1048576) / 64=i by omega,show(1048576+64 * i+k-1048576) % 64=k by omega,hui];have hk:k<v.cells.size:=by rw[<-iO,fW];omega
     simp only[pE,vL hk,uT];rw[<-Array.getElem_toList];simp only[fW]
    rw[this];exact e
   .simp only[PK.f6,bI]at hok;exact hok.1.2.2.1
  | _=>simpa only [fV] using ih
theorem lu.mono{h:Array Obj}{Pr gh:BS}{Gs:Nat->BS}(hp:Sub Pr gh):∀(ks:List RK)(i:Nat){a:f8 ks}{us:List Value},lu h Pr Gs i ks a us->lu h gh Gs i ks a us
 | [],_,_,_,r=>r
 | k::ks,i,_,_,r=>by
  obtain⟨v,vs',e,r1,r2⟩:=r;exact⟨v,vs',e,r1.mono hp,lu.mono hp ks (i+1) r2⟩
section
variable {P:Program} {C:Ctx} {D:Den C} (bn:iD P C) (dy:ow P C D) (j9:P.follows .mixedOrders=true)
include bn dy j9
theorem akb{f:FuncId}{fn:Func}{n:Nat}{Hh:Hints}{ks:List PK}{rs:List RK}{a:gf ks}{r:f8 rs×dG ks}(hf:P.funcs[f]? = some fn)(h:vG C D n fn Hh ks rs a=some r)
    {w:World} {Pr:BS} {Fs:Nat->BS} {vs:List Value} (pre:Pre w.heap Pr Fs ks a vs) :
    Calls P f vs.toArray w fun e w'=>∃val fN Gs Os us,e=.returned val/\UU w w' Pr Fs ks rs r.1 r.2 vs val fN Gs Os us:=by
  unfold vG at h;split at h
  . simp at h
  . rename_i c hb
    split at h
    . rename_i wT
      simp only[bI]at wT;obtain⟨hok,hle,hcf⟩:=wT;have hle:=rI hle;have hlen:=yX.len ks 0 pre.rel;refine calls_of_wp hf hb ?_;have JH:=OB vs ks 0 a vs pre.rel hok (fun k=>by simp);generalize hhd:(fun s=>((vs.getD ((s-1048576) / 64) Go.undef).cells).getD ((s-1048576) % 64) Go.undef)=hd at JH
      let g0:aA:=⟨Pr,fun _=>[],fun _=>none,fun _=>Nil,hd,tX w.heap.size Fs,Pr⟩
      generalize JL:vs.toArray++Array.replicate (fn.ntmps-vs.toArray.size) Go.undef=tmps;have hsz:tmps.size=fn.ntmps:=by rw[<-JL];simp;omega
      have iV:∀k v,vs[k]? = some v->tmps.getD k Go.undef=v:=by intro k v hk;have hkl:k<vs.length:=(So.1 hk).1;rw[<-JL];simp only[pE];rw[Array.getElem?_append_left (by simpa using hkl)];simp[hk]
      have bK:∀q,(⟨List.replicate fn.ntmps .undef,List.replicate fn.ntmps none⟩:St).root q=none:=by intro q;simp only[aP.iq,List.getD,vM];split<;>rfl
      have tv:∀t,(⟨List.replicate fn.ntmps .undef,List.replicate fn.ntmps none⟩:St).get t=.undef:=by intro t;simp only[St.get_eq,List.getD,vM];split<;>rfl
      have st0:aE w.heap ⟨List.replicate fn.ntmps .undef,List.replicate fn.ntmps none⟩ g0 tmps (fun b=>∃i,Fs i b):=by
        refine { len:=by simp[hsz],gy:=by simp[hsz],slots:=fun t=>by rw[tv];simp only[qe],roots:=fun q R hR=>?_,d6:=fun q q' _ h1 _=>?_,ez:=fun q h1=>?_,hand:=fun q h1=>?_,bM:=?_,bR:=pre.bR,
                 cj:=fun q b h1 _=>?_,ew:=?_,tag:=fun q R hR=>?_,own:=fun q b h1 _=>?_,fc:=fun b hb=>.inr hb,fX:=fun b hb=>.inl hb,p0:=Sub.refl _,kZ:=fun b hb=>.inl hb }
        . rw[bK]at hR;simp at hR
        . rw[bK]at h1;simp at h1
        . rw[bK]at h1;simp at h1
        . rw[bK]at h1;simp at h1
        . rintro b ⟨i,hb⟩ hp;exact pre.ez i b hb hp
        . rw[bK]at h1;simp at h1
        . rintro b ⟨i,hb⟩;exact pre.lim i b hb
        . rw[bK]at hR;simp at hR
        . rw[bK]at h1;simp at h1
      obtain⟨g1,H1,DM,amh,L2⟩:=Sv pre.d6 ks 0 a vs _ g0 _ st0 pre.rel rfl (fun k v hk=>by simpa using iV k v hk) (fun u q hq=>by rw[tv]at hq;simp[AV.roots]at hq) hok
        (fun j _ b hb=>⟨j,hb⟩) (by rw[hsz];omega) JH
      refine EY (np:=v7 0 ks) (H:=Hh) bn dy j9 c n _ _ hcf h _ g1 ⟨tmps,[]⟩ w (DM.bB (Sub.nil _)) rfl ?_;intro e S' g' a' w' hk st' iL hfr hdf oD;have fin:((wq C rs fn.results.toList S').bind fun r=>(outs Hh 0 ks r.2).bind fun o=>some (r.1,o))=some r->∃v,(results fn a'.tmps).run P w'=.ok v w'/\
          ∃val fN Gs Os us,Ending.returned v=.returned val/\UU w w' Pr Fs ks rs r.1 r.2 vs val fN Gs Os us:=by
        intro hk;simp only[cM,aK]at hk;obtain⟨⟨rr,S2⟩,hg,o,ho,rfl⟩:=hk;obtain⟨us,g2,H2,Gs,k1,k2,k3,k4,k5,k6,k7,k8,k9,jq⟩:=Rw bn rs _ S' g' Nil 0 rr S2 st' hg;have qE:=(L2.trans iL).trans k3;obtain⟨g3,H3,Os,q⟩:=J8 (Hh:=Hh) ks 0 vs S2 g2 H2 o k2 ho (fun k v hk hmem=>by
          rw[kC]at hmem;rw[kC,oD k hmem];exact iV k v hk) hlen (by rw[qE.1];exact JH)
        obtain⟨S3,rZ⟩:=q.st;have L3:=qE.trans q.same;have hL:g3.L=tX w.heap.size Fs:=L3.2.1;have hP0:g3.P0=Pr:=L3.2.2;have hL1:g1.L=tX w.heap.size Fs:=L2.2.1;refine⟨tN us,abj k1,tN us,g3.Pr,Gs,Os,us,rfl,?_⟩
        exact {
          res:=lu.mono q.pr rs 0 k5
          val:=rfl
          out:=q.rel
          pr:=by rw[<-hP0];exact rZ.p0
          kZ:=fun b hb=>by have:=rZ.kZ b hb;rw[hP0,hL]at this;exact this
          gL:=fun i b hb=>by rw[<-hL];exact rZ.fc b (q.hand b (k7 i b hb))
          oL:=fun i b hb=>by rw[<-hL];exact rZ.fc b (q.sub i b hb)
          Aa:=k8
          YB:=q.d6
          go:=fun i j b h1 h2=>q.pU j b h2 (k7 i b h1)
          gp:=fun i b h1 h2=>rZ.bM b (q.hand b (k7 i b h1)) h2
          op:=fun i b h1 h2=>rZ.bM b (q.sub i b h1) h2
          wP:=fun i b h1=>rZ.ew b (q.hand b (k7 i b h1))
          Az:=fun i b h1=>rZ.ew b (q.sub i b h1)
          AD:=rZ.bR
          fr:=by rw[<-hL1];exact hfr }
      cases e with
      | normal=>exact⟨hdf,fin hk⟩
      | ret=>exact⟨hdf,fin hk⟩
      | exit id=>simp at hk
    . simp at h
end
theorem OG{P:Program}{C:Ctx}(bn:iD P C)(j9:P.follows .mixedOrders=true){E:Den C}{mw:FuncId->Bool}(Lu:∀f,mw f=true->DP P C E f)(CT:∀f a r,mw f=true->E f a=some r->JV P f)
  (hnm:∀(f:FuncId)(fn:Func),P.funcs[f]? = some fn->fn.name≠ "runtime.NumGoroutine"):∀n,ow P C (Dn C E mw (fun g=>P.funcs[g]?) n)
 | 0=>⟨fun f a r h=>by simp[Dn]at h,fun f a r h=>by simp[Dn]at h⟩
 | n+1=>by
  have ih:=OG bn j9 Lu CT hnm n;refine⟨fun f a r h=>?_,fun f a r h=>?_⟩
  .simp only[Dn]at h;by_cases he:mw f=true
   .rw[ak he]at h;exact Lu f he a r h
   .rw[af he]at h;split at h
    .simp at h
    .rename_i fn hf;intro w Pr Fs vs pre;exact akb bn ih j9 hf h pre
  .simp only[Dn]at h;by_cases he:mw f=true
   .rw[ak he]at h;exact CT f a r he h
   .rw[af he]at h;split at h
    .simp at h
    .rename_i fn hf;refine⟨fn,hf,hnm f fn hf,?_⟩;unfold vG at h;split at h
     .simp at h
     .rename_i c hb;rw[hb];rfl
end Go.V
namespace Go.V
noncomputable section
open Go
def zv:Value->Value->Bool
 | .int k a,.int j b=>decide (k=j)&&decide (a=b)
 | .bool a,.bool b=>decide (a=b)
 | .string a,.string b=>Nat.beq a.size 0&&Nat.beq b.size 0
 | .slice none n k,.slice none n' k'=>Nat.beq n n'&&Nat.beq k k'
 | _,_=>false
def KQ:List Value->List Value->Bool
 | [],[]=>true
 | a::l,b::l'=>zv a b&&KQ l l'
 | _,_=>false
def JA:Value->Value->Bool
 | .agg a,.agg b=>KQ a.toList b.toList
 | a,b=>zv a b
theorem RF{a:ByteArray}(h:Nat.beq a.size 0=true):a=ByteArray.empty:=by have h:=mS h;obtain⟨⟨l⟩⟩:=a;have:l=[]:=lE.1 h;subst this;rfl
theorem OF:∀{a b:Value},zv a b=true->a=b:=by
 intro a b h;unfold zv at h;split at h
 .simp only[bI,gT]at h;rw[h.1,h.2]
 .simp only[gT]at h;rw[h]
 .simp only[bI]at h;rw[RF h.1,RF h.2]
 .simp only[bI]at h;rw[mS h.1,mS h.2]
 .simp at h
theorem OA:∀{l l':List Value},KQ l l'=true->l=l'
 | [],[],_=>rfl
 | a::l,b::l',h=>by
  simp only[KQ,bI]at h;rw[OF h.1,OA h.2]
 | [],_::_,h=>by simp[KQ]at h
 | _::_,[],h=>by simp[KQ]at h
theorem akS{a b:Value}(h:JA a b=true):a=b:=by
 unfold JA at h;split at h
 .rename_i x y;have:=OA h;rw[y_ this]
 .exact OF h
def Ka(C:Ctx):List Field->Nat->Ty->Bool
 | [],_,.unit=>true
 | f::fs,off,.pair a b=>decide (a=C.ty f.type)&&(Nat.beq f.offset off&&((f.name != "_")&&(a.nz&&Ka C fs (off+a.width) b)))
 | _,_,_=>false
theorem Rf{C:Ctx}:∀(fs:List Field)(off:Nat)(T:Ty),Ka C fs off T=true->mY C fs off T
 | [],off,T,h=>by
  cases T<;>simp[Ka]at h;simp only[mY]
 | f::fs,off,T,h=>by
  cases T with
  | pair a b=>simp only[Ka,bI,gT,bne_iff_ne,ne_eq]at h;obtain⟨e,h1,h2,h3,h4⟩:=h;subst e;exact⟨b,rfl,mS h1,h2,h3,Rf fs _ b h4⟩
  | _=>simp[Ka]at h
def Fz(C:Ctx):TypeDesc->Ty->Bool
 | .int k,T=>decide (T=.int k)
 | .bool,T=>decide (T=.bool)
 | .string,T=>decide (T=.str)
 | .slice e,T=>decide (T=.sl (C.ty e))&&(C.ty e).nz
 | .struct fs,T=>Ka C fs.toList 0 T&&T.nz
 | _,_=>false
theorem acP{C:Ctx}{d:TypeDesc}{T:Ty}(h:Fz C d T=true):oP C d T:=by
 cases d<;>simp only[Fz,bI,gT]at h<;>first
  | exact h
  | exact⟨Rf _ _ _ h.1,Ty.kV h.2⟩
  | simp at h
def FN(P:Program)(C:Ctx)(t:TypeId):Bool:=
  if (C.ty t).nz then
    (match P.info? t with
     | some i=>Nat.beq i.size (C.ty t).width&&((match i.zero with | some z=>JA z (dK (C.ty t) (zc (C.ty t))) | none=>false)&&Nat.ble i.bytes 255)
     | none=>false)&&
    (Nat.blt 0 (C.ty t).width&&((match P.underlying t with | some d=>Fz C d (C.ty t) | none=>false)&&(Nat.blt (C.ty t).deep 10000&&
      (!((C.ty t).agg&&(C.ty t).comp)||(!P.stoodInHeld t&&!P.eqGuardType P.depth t)))))
  else true
theorem adm{P:Program}{C:Ctx}{t:TypeId}(h:FN P C t=true)(hz:(C.ty t).nz=true):mF P C t:=by
 unfold FN at h;rw[ak hz]at h;simp only[bI]at h;obtain⟨h1,h2,h3,h4,h5⟩:=h;refine⟨?_,oa.1 h2,?_,oa.1 h4,?_⟩
 .split at h1
  .rename_i i hi;simp only[bI]at h1;obtain⟨k1,k2,k3⟩:=h1;split at k2
   .rename_i z Yx;exact⟨i,hi,mS k1,by rw[Yx,akS k2],rI k3⟩
   .simp at k2
  .simp at h1
 .split at h3
  .rename_i d hd;exact⟨d,hd,acP h3⟩
  .simp at h3
 .intro ha hc;rw[ha,hc]at h5;simp only[I2,cK,qV,bI,kB]at h5;exact h5
theorem acu{P:Program}{C:Ctx}(n:Nat)(XP:∀t,Nat.ble t n=false->C.ty t=.unit)(h:(List.range (n+1)).all (FN P C)=true):iD P C:=by
 intro t hz;cases hb:Nat.ble t n with
 | false=>rw[XP t hb]at hz;simp[Ty.nz]at hz
 | true=>have:=rI hb;rw[qS]at h;exact adm (h t (yz.2 (by omega))) hz
theorem ac3 {P:Program} (h:P.funcs.toList.all (fun fn=>fn.name != "runtime.NumGoroutine")=true):∀(f:FuncId)(fn:Func),P.funcs[f]? = some fn->fn.name≠ "runtime.NumGoroutine" := by
 intro f fn hf;rw[qS]at h;have:=h fn (by rw[HW];exact FD hf);simpa using this
end
open Go.V
abbrev eL:Mk:=Mk.own 0 Mk.no
abbrev zl:Ty:=Ty.int IntKind.u8
abbrev vK:Ty:=Ty.int IntKind.u64
abbrev ah:Ty:=Ty.int IntKind.i64
abbrev mI:Mk:=Mk.own 1048576 Mk.no
abbrev pq:Ty:=Ty.sl zl
abbrev qH:Mk:=Mk.own 0 eL
abbrev bu:Ty:=Ty.sl ah
abbrev iB:Mk:=Mk.pr eL Mk.no
abbrev oZ:Mk:=Mk.pr Mk.no iB
abbrev lW:Mk:=Mk.pr eL iB
abbrev sW:Ty:=Ty.pair ah (Ty.pair ah Ty.unit)
abbrev iZ:Ty:=Ty.sl sW
abbrev lD:Ty:=Ty.pair ah (Ty.pair bu Ty.unit)
abbrev bO:Ty:=Ty.pair bu (Ty.pair ah Ty.unit)
abbrev Ax:Mk:=Mk.pr Mk.no (Mk.pr oZ iB)
abbrev bT:Ty:=Ty.pair ah sW
abbrev jm:Ty:=Ty.pair pq sW
abbrev bV:Ty:=Ty.sl bT
abbrev jV:Ty:=Ty.sl bV
abbrev iN:Ty:=Ty.pair ah bT
abbrev rE:Ty:=Ty.sl iN
abbrev Aw:Mk:=Mk.pr lW (Mk.pr eL (Mk.pr Mk.no lW))
abbrev lV:Mk:=Mk.pr eL (Mk.pr (Mk.own 0 (Mk.pr Mk.no (Mk.pr Mk.no (Mk.pr eL (Mk.pr oZ Mk.no))))) Mk.no)
abbrev su:Mk:=Mk.pr lW (Mk.pr (Mk.own 0 (Mk.no)) (Mk.pr Mk.no (Mk.pr eL (Mk.pr eL (Mk.pr Mk.no Mk.no)))))
abbrev mQ:Ty:=Ty.pair iZ (Ty.pair bu (Ty.pair ah (Ty.pair Ty.bool Ty.unit)))
abbrev rD:Ty:=Ty.pair Ty.bool (Ty.pair lD (Ty.pair bV Ty.unit))
abbrev Mc:Mk:=Mk.pr lW (Mk.pr (Mk.own 0 (Mk.pr Mk.no (Mk.pr Mk.no (Mk.pr Mk.no (Mk.pr eL (Mk.pr Mk.no Mk.no)))))) (Mk.pr Mk.no (Mk.pr eL (Mk.pr eL (Mk.pr Mk.no Mk.no)))))
abbrev wF:Ty:=Ty.pair ah (Ty.pair ah (Ty.pair bV (Ty.pair lD Ty.unit)))
abbrev CJ:Ty:=Ty.sl wF
abbrev DN:Ty:=Ty.pair ah (Ty.pair bT (Ty.pair ah (Ty.pair ah (Ty.pair ah (Ty.pair lD Ty.unit)))))
abbrev zm:Ty:=Ty.sl DN
abbrev jK:Ty:=Ty.pair bV (Ty.pair ah (Ty.pair Ty.bool (Ty.pair iZ (Ty.pair rE Ty.unit))))
abbrev Jz:Ty:=Ty.sl jK
abbrev jW:Ty:=Ty.pair bV (Ty.pair CJ Ty.unit)
abbrev JQ:Mk:=Mk.pr lW (Mk.pr (Mk.own 0 (Mk.pr eL (Mk.pr Mk.no (Mk.pr Mk.no lW)))) (Mk.pr Mk.no (Mk.pr (Mk.own 0 (Mk.pr Mk.no (Mk.pr Mk.no (Mk.pr Mk.no (Mk.pr Mk.no (Mk.pr Mk.no (Mk.pr oZ Mk.no))))))) (Mk.pr eL (Mk.pr iB Mk.no)))))
abbrev rR:Mk:=Mk.pr lV (Mk.pr (Mk.own 0 (Mk.pr eL (Mk.pr Mk.no (Mk.pr Mk.no lW)))) (Mk.pr Mk.no (Mk.pr (Mk.own 0 (Mk.pr Mk.no (Mk.pr Mk.no (Mk.pr Mk.no (Mk.pr Mk.no (Mk.pr Mk.no (Mk.pr oZ Mk.no))))))) (Mk.pr eL (Mk.pr iB Mk.no)))))
abbrev cP:Ty:=Ty.pair jW (Ty.pair Jz (Ty.pair ah (Ty.pair zm (Ty.pair bu (Ty.pair bO Ty.unit)))))
end Go.V
namespace Go.V
open Go
noncomputable def FM:Nat:=237
noncomputable def alB(n:Nat):Ty:=cond (n.ble FM) (cond (n.ble 57) (cond (n.ble 27) (cond (n.ble 10) (cond (n.ble 4) (cond (n.ble 2) (cond (n.beq 2) ah Ty.unit) (cond (n.ble 3) (cond (n.beq 3) ah Ty.unit) (cond (n.beq 4) Ty.bool Ty.unit))) (cond (n.ble 6) (cond (n.ble 5) (cond (n.beq 5) zl Ty.unit) (cond (n.beq 6) zl Ty.unit)) (cond (n.ble 9) (cond (n.beq 9) Ty.str Ty.unit) (cond (n.beq 10) Ty.str Ty.unit)))) (cond (n.ble 22) (cond (n.ble 12) (cond (n.ble 11) (cond (n.beq 11) Ty.str Ty.unit) (cond (n.beq 12) vK Ty.unit)) (cond (n.ble 21) (cond (n.beq 21) (Ty.int IntKind.i32) Ty.unit) (cond (n.beq 22) pq Ty.unit))) (cond (n.ble 25) (cond (n.ble 24) (cond (n.beq 24) bu Ty.unit) (cond (n.beq 25) bO Ty.unit)) (cond (n.ble 26) (cond (n.beq 26) bO Ty.unit) (cond (n.beq 27) jV Ty.unit))))) (cond (n.ble 36) (cond (n.ble 32) (cond (n.ble 30) (cond (n.beq 30) bV Ty.unit) (cond (n.ble 31) (cond (n.beq 31) CJ Ty.unit) (cond (n.beq 32) jW Ty.unit))) (cond (n.ble 34) (cond (n.ble 33) (cond (n.beq 33) jW Ty.unit) (cond (n.beq 34) Jz Ty.unit)) (cond (n.ble 35) (cond (n.beq 35) zm Ty.unit) (cond (n.beq 36) cP Ty.unit)))) (cond (n.ble 44) (cond (n.ble 42) (cond (n.ble 37) (cond (n.beq 37) cP Ty.unit) (cond (n.beq 42) bV Ty.unit)) (cond (n.ble 43) (cond (n.beq 43) iZ Ty.unit) (cond (n.beq 44) rE Ty.unit))) (cond (n.ble 46) (cond (n.ble 45) (cond (n.beq 45) jK Ty.unit) (cond (n.beq 46) jK Ty.unit)) (cond (n.ble 56) (cond (n.beq 56) bT Ty.unit) (cond (n.beq 57) bT Ty.unit)))))) (cond (n.ble 138) (cond (n.ble 65) (cond (n.ble 60) (cond (n.ble 58) (cond (n.beq 58) lD Ty.unit) (cond (n.ble 59) (cond (n.beq 59) lD Ty.unit) (cond (n.beq 60) DN Ty.unit))) (cond (n.ble 63) (cond (n.ble 61) (cond (n.beq 61) DN Ty.unit) (cond (n.beq 63) bV Ty.unit)) (cond (n.ble 64) (cond (n.beq 64) wF Ty.unit) (cond (n.beq 65) wF Ty.unit)))) (cond (n.ble 112) (cond (n.ble 94) (cond (n.ble 93) (cond (n.beq 93) bT Ty.unit) (cond (n.beq 94) bT Ty.unit)) (cond (n.ble 111) (cond (n.beq 111) jm Ty.unit) (cond (n.beq 112) jm Ty.unit))) (cond (n.ble 123) (cond (n.ble 122) (cond (n.beq 122) bT Ty.unit) (cond (n.beq 123) bT Ty.unit)) (cond (n.ble 137) (cond (n.beq 137) sW Ty.unit) (cond (n.beq 138) sW Ty.unit))))) (cond (n.ble 178) (cond (n.ble 147) (cond (n.ble 141) (cond (n.beq 141) iN Ty.unit) (cond (n.ble 142) (cond (n.beq 142) iN Ty.unit) (cond (n.beq 147) vK Ty.unit))) (cond (n.ble 164) (cond (n.ble 163) (cond (n.beq 163) rD Ty.unit) (cond (n.beq 164) rD Ty.unit)) (cond (n.ble 177) (cond (n.beq 177) mQ Ty.unit) (cond (n.beq 178) mQ Ty.unit)))) (cond (n.ble 214) (cond (n.ble 206) (cond (n.ble 198) (cond (n.beq 198) ah Ty.unit) (cond (n.beq 206) (.int .u32) Ty.unit)) (cond (n.ble 208) (cond (n.beq 208) vK Ty.unit) (cond (n.beq 214) vK Ty.unit))) (cond (n.ble 233) (cond (n.ble 232) (cond (n.beq 232) zl Ty.unit) (cond (n.beq 233) zl Ty.unit)) (cond (n.ble 236) (cond (n.beq 236) (Ty.int IntKind.i32) Ty.unit) (cond (n.beq 237) (Ty.int IntKind.i32) Ty.unit))))))) Ty.unit
noncomputable def akJ(n:Nat):wK:=
 cond (n.ble 103) (cond (n.ble 55) (cond (n.ble 31) (cond (n.ble 20) (cond (n.ble 13) (cond (n.ble 5) (cond (n.ble 4) (⟨[],[]⟩) (⟨[.val pq],[.val Ty.bool (Mk.top Ty.bool)]⟩)) (cond (n.ble 11) (⟨[],[]⟩) (cond (n.ble 12) (⟨[.val pq],[.val Ty.bool (Mk.top Ty.bool)]⟩) (⟨[.val pq],[.val bO (Mk.no),.val jV (Mk.no),.val bu (Mk.no)]⟩)))) (cond (n.ble 16) (cond (n.ble 14) (⟨[.val bO,.val jV],[.val cP (Mk.no),.val Ty.bool (Mk.top Ty.bool)]⟩) (cond (n.ble 15) (⟨[.val bO,.val jV],[.val cP (Mk.top cP),.val Ty.bool (Mk.top Ty.bool)]⟩) (⟨[.val cP,.val bu],[.val cP (Mk.no)]⟩))) (cond (n.ble 17) (⟨[.val jK],[.val Ty.bool (Mk.top Ty.bool)]⟩) (cond (n.ble 19) (⟨[],[]⟩) (⟨[.val cP],[.val Ty.bool (Mk.top Ty.bool)]⟩))))) (cond (n.ble 25) (cond (n.ble 22) (cond (n.ble 21) (⟨[],[]⟩) (⟨[.val cP,.val ah],[.val cP (Mk.no)]⟩)) (cond (n.ble 23) (⟨[.val bV,.val CJ],[.val bu (Mk.top bu)]⟩) (cond (n.ble 24) (⟨[.val cP],[.val Ty.bool (Mk.top Ty.bool)]⟩) (⟨[.val jW],[.val Ty.bool (Mk.top Ty.bool)]⟩)))) (cond (n.ble 28) (cond (n.ble 26) (⟨[.val bu],[.val Ty.bool (Mk.top Ty.bool)]⟩) (cond (n.ble 27) (⟨[.val bu],[.val bu (Mk.top bu)]⟩) (⟨[],[]⟩))) (cond (n.ble 29) (⟨[.val DN,.val DN],[.val Ty.bool (Mk.top Ty.bool)]⟩) (cond (n.ble 30) (⟨[.val cP],[.val Ty.bool (Mk.top Ty.bool)]⟩) (⟨[.val bu],[.val bO (Mk.top bO)]⟩)))))) (cond (n.ble 43) (cond (n.ble 37) (cond (n.ble 34) (cond (n.ble 33) (⟨[],[]⟩) (⟨[.val bO,.val ah],[.val ah (Mk.top ah)]⟩)) (cond (n.ble 35) (⟨[.val ah],[.val ah (Mk.top ah)]⟩) (cond (n.ble 36) (⟨[],[]⟩) (⟨[.val bO,.val ah],[.val ah (Mk.top ah)]⟩)))) (cond (n.ble 40) (cond (n.ble 38) (⟨[.val bO,.val bT,.val lD],[.val bO (Mk.top bO)]⟩) (cond (n.ble 39) (⟨[.val cP],[.val bO (Mk.top bO),.val Ty.bool (Mk.top Ty.bool)]⟩) (⟨[.val cP],[.val Ty.bool (Mk.top Ty.bool)]⟩))) (cond (n.ble 41) (⟨[],[]⟩) (cond (n.ble 42) (⟨[.val cP],[.val Ty.bool (Mk.top Ty.bool)]⟩) (⟨[],[]⟩))))) (cond (n.ble 49) (cond (n.ble 46) (cond (n.ble 44) (⟨[.val pq],[.ptr jm (.no)]⟩) (cond (n.ble 45) (⟨[.cD jm (.no) (.no)],[.val bO (Mk.top bO)]⟩) (⟨[.cD jm (.no) (.no)],[.val jV (Mk.top jV)]⟩))) (cond (n.ble 47) (⟨[.cD jm (.no) (.no),.val ah],[.val ah (Mk.top ah)]⟩) (cond (n.ble 48) (⟨[.val pq,.val ah,.val ah],[.val ah (Mk.top ah)]⟩) (⟨[.val bO,.val ah],[.val jW lW,.val Ty.bool (Mk.top Ty.bool)]⟩)))) (cond (n.ble 52) (cond (n.ble 50) (⟨[.val bO],[.val bO (Mk.top bO)]⟩) (cond (n.ble 51) (⟨[.val bV],[.val jK (Mk.top jK)]⟩) (⟨[.val bO,.val ah],[.val jW (Mk.top jW),.val Ty.bool (Mk.top Ty.bool)]⟩))) (cond (n.ble 53) (⟨[.val bO],[.val bO (Mk.top bO)]⟩) (cond (n.ble 54) (⟨[.val bV],[.val jK (Mk.top jK)]⟩) (⟨[.val cP],[.val Ty.bool (Mk.top Ty.bool)]⟩))))))) (cond (n.ble 77) (cond (n.ble 66) (cond (n.ble 60) (cond (n.ble 57) (cond (n.ble 56) (⟨[.val cP],[.val cP Mc]⟩) (⟨[.val cP,.val ah],[.val cP (Mk.no),.val Ty.bool (Mk.top Ty.bool)]⟩)) (cond (n.ble 58) (⟨[.val ah,.val ah,.val ah],[.val Ty.bool (Mk.top Ty.bool)]⟩) (cond (n.ble 59) (⟨[.val cP],[.val Ty.bool (Mk.top Ty.bool)]⟩) (⟨[.val bV,.val CJ,.val ah],[.val ah (Mk.top ah)]⟩)))) (cond (n.ble 63) (cond (n.ble 61) (⟨[.val Jz,.fn],[.val Ty.bool (Mk.top Ty.bool)]⟩) (cond (n.ble 62) (⟨[.val jK],[.val Ty.bool (Mk.top Ty.bool)]⟩) (⟨[.val jW],[.val Ty.bool (Mk.top Ty.bool)]⟩))) (cond (n.ble 64) (⟨[.val bV,.fn],[.val Ty.bool (Mk.top Ty.bool)]⟩) (cond (n.ble 65) (⟨[.val bT],[.val Ty.bool (Mk.top Ty.bool)]⟩) (⟨[.val bO],[.val Ty.bool (Mk.top Ty.bool)]⟩))))) (cond (n.ble 71) (cond (n.ble 68) (cond (n.ble 67) (⟨[.val bu,.val bu],[.val Ty.bool (Mk.top Ty.bool)]⟩) (⟨[.val bO],[.val bu (Mk.top bu)]⟩)) (cond (n.ble 69) (⟨[.val bu],[.val bu (Mk.top bu)]⟩) (cond (n.ble 70) (⟨[],[.val ah (Mk.top ah)]⟩) (⟨[.val bO],[.val Ty.bool (Mk.top Ty.bool)]⟩)))) (cond (n.ble 74) (cond (n.ble 72) (⟨[],[]⟩) (cond (n.ble 73) (⟨[.val ah],[.val ah (Mk.top ah)]⟩) (⟨[.val bu,.val ah],[.val ah (Mk.top ah)]⟩))) (cond (n.ble 75) (⟨[.val Ty.bool,.val ah],[.val ah (Mk.top ah)]⟩) (cond (n.ble 76) (⟨[.val ah],[.val Ty.bool (Mk.top Ty.bool)]⟩) (⟨[.val ah],[.val ah (Mk.top ah)]⟩)))))) (cond (n.ble 91) (cond (n.ble 82) (cond (n.ble 79) (cond (n.ble 78) (⟨[.val bO,.val bT,.val lD],[.val Ty.bool (Mk.top Ty.bool)]⟩) (⟨[.val DN,.val ah,.cq cP],[.val Ty.bool (Mk.top Ty.bool)]⟩)) (cond (n.ble 80) (⟨[.val bT],[.val Ty.bool (Mk.top Ty.bool)]⟩) (cond (n.ble 81) (⟨[.val jK,.val ah],[.val Ty.bool (Mk.top Ty.bool)]⟩) (⟨[.val cP,.val ah],[.val Ty.bool (Mk.top Ty.bool)]⟩)))) (cond (n.ble 85) (cond (n.ble 83) (⟨[.val cP],[.val Ty.bool (Mk.top Ty.bool)]⟩) (cond (n.ble 84) (⟨[],[]⟩) (⟨[.val lD],[.val lD (Mk.top lD)]⟩))) (cond (n.ble 89) (⟨[],[]⟩) (cond (n.ble 90) (⟨[],[.val bO (Mk.top bO)]⟩) (⟨[.val bO,.val ah],[.val ah (Mk.top ah)]⟩))))) (cond (n.ble 97) (cond (n.ble 94) (cond (n.ble 92) (⟨[.cD jm (.no) (.no),.val bu],[.val ah (Mk.top ah)]⟩) (cond (n.ble 93) (⟨[.cD jm (.no) (.no)],[.val bT (Mk.top bT)]⟩) (⟨[.cD jm (.no) (.no)],[.val ah (Mk.top ah)]⟩))) (cond (n.ble 95) (⟨[.val bV],[.val bV (Mk.top bV)]⟩) (cond (n.ble 96) (⟨[.val bO],[.val bu (Mk.top bu)]⟩) (⟨[.val ah,.val ah,.val ah],[.val Ty.bool (Mk.top Ty.bool)]⟩)))) (cond (n.ble 100) (cond (n.ble 98) (⟨[.val jW],[.val Ty.bool (Mk.top Ty.bool)]⟩) (cond (n.ble 99) (⟨[.val bO],[.val Ty.bool (Mk.top Ty.bool)]⟩) (⟨[.val cP],[.val Ty.bool (Mk.top Ty.bool)]⟩))) (cond (n.ble 101) (⟨[.val jK,.val ah],[.val Ty.bool (Mk.top Ty.bool)]⟩) (cond (n.ble 102) (⟨[.val cP,.val ah],[.val Ty.bool (Mk.top Ty.bool)]⟩) (⟨[.val jW],[.val jW lW]⟩)))))))) (cond (n.ble 160) (cond (n.ble 131) (cond (n.ble 115) (cond (n.ble 108) (cond (n.ble 105) (cond (n.ble 104) (⟨[.val jK],[.val jK (Mk.top jK)]⟩) (⟨[.cD cP su su,.val ah],[]⟩)) (cond (n.ble 106) (⟨[.cD cP Mc su,.val ah],[.val Ty.bool (Mk.top Ty.bool)]⟩) (cond (n.ble 107) (⟨[.val wF,.val ah],[.val bT (Mk.top bT),.val Ty.bool (Mk.top Ty.bool)]⟩) (⟨[.val Jz,.fn],[.val ah (Mk.top ah)]⟩)))) (cond (n.ble 112) (cond (n.ble 109) (⟨[.val CJ,.fn],[.val Ty.bool (Mk.top Ty.bool)]⟩) (cond (n.ble 111) (⟨[.val wF],[.val Ty.bool (Mk.top Ty.bool)]⟩) (⟨[.val bT,.val ah],[.val Ty.bool (Mk.top Ty.bool)]⟩))) (cond (n.ble 113) (⟨[.val bV,.fn],[.val ah (Mk.top ah)]⟩) (cond (n.ble 114) (⟨[.val bu,.val ah],[.val Ty.bool (Mk.top Ty.bool)]⟩) (⟨[.val ah],[.val ah (Mk.top ah)]⟩))))) (cond (n.ble 121) (cond (n.ble 117) (cond (n.ble 116) (⟨[.val bO,.val bT,.val ah],[.val Ty.bool (Mk.top Ty.bool)]⟩) (⟨[.val bO,.val bT],[.val bu (Mk.no),.val Ty.bool (Mk.top Ty.bool)]⟩)) (cond (n.ble 119) (⟨[.val ah],[.val Ty.bool (Mk.top Ty.bool)]⟩) (cond (n.ble 120) (⟨[.val bV,.fn],[.val Ty.bool (Mk.top Ty.bool)]⟩) (⟨[.val bT],[.val Ty.bool (Mk.top Ty.bool)]⟩)))) (cond (n.ble 125) (cond (n.ble 122) (⟨[.val iZ,.fn],[.val Ty.bool (Mk.top Ty.bool)]⟩) (cond (n.ble 123) (⟨[.val sW],[.val Ty.bool (Mk.top Ty.bool)]⟩) (⟨[.val ah],[.val Ty.bool (Mk.top Ty.bool)]⟩))) (cond (n.ble 126) (⟨[.val rE,.fn],[.val Ty.bool (Mk.top Ty.bool)]⟩) (cond (n.ble 127) (⟨[.val iN,.cq ah],[.val Ty.bool (Mk.top Ty.bool)]⟩) (⟨[],[]⟩)))))) (cond (n.ble 145) (cond (n.ble 139) (cond (n.ble 136) (cond (n.ble 133) (⟨[.val ah],[.val Ty.bool (Mk.top Ty.bool)]⟩) (⟨[.val ah],[.val ah (Mk.top ah)]⟩)) (cond (n.ble 137) (⟨[.val bO,.val ah],[.val ah (Mk.top ah)]⟩) (cond (n.ble 138) (⟨[.val ah],[.val ah (Mk.top ah)]⟩) (⟨[],[.val ah (Mk.top ah)]⟩)))) (cond (n.ble 142) (cond (n.ble 140) (⟨[.val wF],[.val Ty.bool (Mk.top Ty.bool)]⟩) (cond (n.ble 141) (⟨[.val bT,.val ah],[.val Ty.bool (Mk.top Ty.bool)]⟩) (⟨[.val wF,.val ah],[.val bT (Mk.top bT),.val Ty.bool (Mk.top Ty.bool)]⟩))) (cond (n.ble 143) (⟨[.val ah],[.val Ty.bool (Mk.top Ty.bool)]⟩) (cond (n.ble 144) (⟨[.val cP,.val DN],[.val Ty.bool (Mk.top Ty.bool)]⟩) (⟨[.val Ty.bool],[.val ah (Mk.top ah)]⟩))))) (cond (n.ble 152) (cond (n.ble 149) (cond (n.ble 146) (⟨[.val bT],[.val Ty.bool (Mk.top Ty.bool)]⟩) (cond (n.ble 147) (⟨[.val cP,.val ah],[.val ah (Mk.top ah)]⟩) (⟨[.val bV],[.val bV (Mk.top bV)]⟩))) (cond (n.ble 150) (⟨[.val iZ],[.val iZ (Mk.top iZ)]⟩) (cond (n.ble 151) (⟨[.val rE],[.val rE (Mk.top rE)]⟩) (⟨[.val jK],[.val iN (Mk.top iN),.val Ty.bool (Mk.top Ty.bool)]⟩)))) (cond (n.ble 156) (cond (n.ble 153) (⟨[.val jW,.val iN],[.val jW lW,.val iN (Mk.top iN),.val iN (Mk.top iN),.val ah (Mk.top ah)]⟩) (cond (n.ble 155) (⟨[.val jK,.val iN],[.val jK (Mk.top jK)]⟩) (⟨[.val jK],[.val jK (Mk.top jK)]⟩))) (cond (n.ble 158) (⟨[.cD cP su su,.val ah,.val lD],[]⟩) (cond (n.ble 159) (⟨[.val bT,.val iZ],[.val ah (Mk.top ah)]⟩) (⟨[.val bT,.val iZ],[.val rD (Mk.top rD),.val Ty.bool (Mk.top Ty.bool)]⟩))))))) (cond (n.ble 182) (cond (n.ble 171) (cond (n.ble 165) (cond (n.ble 162) (cond (n.ble 161) (⟨[.val jW,.val ah,.val bV,.val lD],[.val jW lW,.val iN (Mk.top iN),.val Ty.bool (Mk.top Ty.bool)]⟩) (⟨[.val CJ,.fn],[.val ah (Mk.top ah)]⟩)) (cond (n.ble 163) (⟨[.val bV,.fn],[.val ah (Mk.top ah)]⟩) (cond (n.ble 164) (⟨[.val iZ,.fn],[.val ah (Mk.top ah)]⟩) (⟨[.val rE,.fn],[.val ah (Mk.top ah)]⟩)))) (cond (n.ble 168) (cond (n.ble 166) (⟨[.val ah],[.val Ty.bool (Mk.top Ty.bool)]⟩) (cond (n.ble 167) (⟨[.val ah],[.val ah (Mk.top ah)]⟩) (⟨[.cD jW lW lW,.val iN],[.val iN (Mk.top iN),.val iN (Mk.top iN),.val ah (Mk.top ah)]⟩))) (cond (n.ble 169) (⟨[.cD cP su su,.val ah],[.val ah (Mk.top ah)]⟩) (cond (n.ble 170) (⟨[.val bT,.val iZ],[.ptr mQ (.pr .no (.pr (.own 0 .no) .no))]⟩) (⟨[.val bT,.val iZ],[.val lD (Mk.top lD),.val Ty.bool (Mk.top Ty.bool)]⟩))))) (cond (n.ble 176) (cond (n.ble 173) (cond (n.ble 172) (⟨[.val iZ,.val ah],[.val ah (Mk.top ah),.val Ty.bool (Mk.top Ty.bool)]⟩) (⟨[.val ah],[.val ah (Mk.top ah)]⟩)) (cond (n.ble 174) (⟨[.val bT,.val iZ,.val ah,.val ah],[.val bV (Mk.top bV)]⟩) (cond (n.ble 175) (⟨[.cQ bu (Mk.top bu) (Mk.top bu)],[]⟩) (⟨[.val bT,.val ah,.val ah,.val ah,.val ah],[.val ah (Mk.top ah)]⟩)))) (cond (n.ble 179) (cond (n.ble 177) (⟨[.val bT,.cq ah],[.val Ty.bool (Mk.top Ty.bool)]⟩) (cond (n.ble 178) (⟨[.cD mQ (.pr .no (.pr (.own 0 .no) .no)) (.pr .no (.pr (.own 0 .no) .no)),.val bT],[]⟩) (⟨[.cD mQ (.pr .no (.pr (.own 0 .no) .no)) (.pr .no (.pr (.own 0 .no) .no)),.val ah],[.val ah (Mk.top ah)]⟩))) (cond (n.ble 180) (⟨[.cD mQ (.pr .no (.pr (.own 0 .no) .no)) (.pr .no (.pr (.own 0 .no) .no)),.val Ty.bool],[]⟩) (cond (n.ble 181) (⟨[.val ah,.val ah,.val ah,.cq iZ,.cD bV (Mk.top bV) (Mk.top bV)],[]⟩) (⟨[.cQ bV (Mk.top bV) (Mk.top bV),.fn],[]⟩)))))) (cond (n.ble 195) (cond (n.ble 187) (cond (n.ble 184) (cond (n.ble 183) (⟨[.val bT,.val bT],[.val ah (Mk.top ah)]⟩) (⟨[.cQ bu (Mk.top bu) (Mk.top bu),.val ah,.val ah,.val ah],[]⟩)) (cond (n.ble 185) (⟨[.val vK],[.val ah (Mk.top ah)]⟩) (cond (n.ble 186) (⟨[.cD mQ (.pr .no (.pr (.own 0 .no) .no)) (.pr .no (.pr (.own 0 .no) .no)),.val ah,.val bu],[]⟩) (⟨[.cQ bV (Mk.top bV) (Mk.top bV),.val ah,.val ah,.val ah,.fn],[]⟩)))) (cond (n.ble 192) (cond (n.ble 190) (⟨[.cQ bu (Mk.top bu) (Mk.top bu),.val ah,.val ah],[]⟩) (cond (n.ble 191) (⟨[.val bu,.val ah,.val ah],[.val ah (Mk.top ah),.val ah (Mk.top ah)]⟩) (⟨[.cQ bu (Mk.top bu) (Mk.top bu),.val ah,.val ah],[]⟩))) (cond (n.ble 193) (⟨[.cQ bu (Mk.top bu) (Mk.top bu),.val ah,.val ah],[.val Ty.bool (Mk.top Ty.bool)]⟩) (cond (n.ble 194) (⟨[.val ah,.val ah],[.val Ty.bool (Mk.top Ty.bool)]⟩) (⟨[.cQ bu (Mk.top bu) (Mk.top bu),.val ah,.val ah,.val ah],[.val ah (Mk.top ah)]⟩))))) (cond (n.ble 203) (cond (n.ble 198) (cond (n.ble 196) (⟨[.cQ bu (Mk.top bu) (Mk.top bu),.val ah,.val ah,.val ah],[.val ah (Mk.top ah),.val Ty.bool (Mk.top Ty.bool)]⟩) (cond (n.ble 197) (⟨[],[]⟩) (⟨[.val vK],[.val ah (Mk.top ah)]⟩))) (cond (n.ble 201) (⟨[.cQ bV (Mk.top bV) (Mk.top bV),.val ah,.val ah,.fn],[]⟩) (cond (n.ble 202) (⟨[.val bV,.val ah,.val ah,.fn],[.val ah (Mk.top ah),.val ah (Mk.top ah)]⟩) (⟨[.cQ bV (Mk.top bV) (Mk.top bV),.val ah,.val ah,.fn],[]⟩)))) (cond (n.ble 206) (cond (n.ble 204) (⟨[.cQ bV (Mk.top bV) (Mk.top bV),.val ah,.val ah,.fn],[.val Ty.bool (Mk.top Ty.bool)]⟩) (cond (n.ble 205) (⟨[.cQ bV (Mk.top bV) (Mk.top bV),.val ah,.val ah,.val ah,.fn],[.val ah (Mk.top ah)]⟩) (⟨[.cQ bV (Mk.top bV) (Mk.top bV),.val ah,.val ah,.val ah,.fn],[.val ah (Mk.top ah),.val Ty.bool (Mk.top Ty.bool)]⟩))) (cond (n.ble 211) (⟨[],[]⟩) (cond (n.ble 212) (⟨[.val ah],[.val Ty.bool (Mk.top Ty.bool)]⟩) (⟨[],[]⟩))))))))
noncomputable def ajT(n:Nat):Hints:=
 cond (n.ble 95) (cond (n.ble 48) (cond (n.ble 29) (cond (n.ble 16) (cond (n.ble 13) (cond (n.ble 12) ({}) ({ keep:=[(7,[2,5,6,7,8,9,10],[2,6,7,8],[]),(11,[2,5,6,7,8,9,10,11,12],[2,5,6,7,8,9,10],[])] })) (cond (n.ble 14) ({ keep:=[(4,[4,7,8,22,23,24],[4,7,8],[])] }) (cond (n.ble 15) ({ keep:=[(4,[1,4,7,8,9],[4,7,8],[])] }) ({ keep:=[(5,[2,4,13,14,15],[2,4],[])],share:=[(1,2)] })))) (cond (n.ble 23) (cond (n.ble 21) ({}) (cond (n.ble 22) ({ keep:=[(3,[1,2,4,5],[2,4],[]),(7,[1,2,4,5,6,28,29],[1,2,4,5,6],[])],share:=[(1,2)] }) ({ keep:=[(3,[0,1,5,9,10],[5],[])] }))) (cond (n.ble 26) ({}) (cond (n.ble 27) ({ keep:=[(3,[0,3,9,10,11],[3],[])] }) ({}))))) (cond (n.ble 39) (cond (n.ble 36) (cond (n.ble 30) ({ keep:=[(4,[1,11,12,13],[2],[]),(9,[1,4,11,12,13,36,37,38],[1,2,11,12,13],[])] }) ({})) (cond (n.ble 37) ({ keep:=[(3,[1,5,9,10,11],[5],[])] }) (cond (n.ble 38) ({}) ({ keep:=[(6,[1,2,4,5,17,18,19],[2,4,5],[])] })))) (cond (n.ble 44) (cond (n.ble 40) ({ keep:=[(6,[1,3,4,44,45,46],[1,2,3],[]),(12,[1,3,88,89,90],[1,2],[])] }) (cond (n.ble 43) ({}) ({ keep:=[(3,[0,3,4],[0,3],[])] }))) (cond (n.ble 45) ({ keep:=[(3,[0,2,3,4],[0,2,3],[0])],share:=[(8,1)] }) (cond (n.ble 46) ({ keep:=[(3,[0,3,4],[0,3],[0]),(7,[0,3,4,5,6],[0,3,4,5],[0])] }) ({})))))) (cond (n.ble 67) (cond (n.ble 55) (cond (n.ble 51) (cond (n.ble 49) ({ keep:=[(5,[4,6,17,18,19],[4,6],[])] }) ({})) (cond (n.ble 52) ({ keep:=[(4,[1,4,6,7,8],[1,4,6],[])] }) (cond (n.ble 54) ({}) ({ keep:=[(4,[1,3],[2],[])] })))) (cond (n.ble 63) (cond (n.ble 56) ({ keep:=[(3,[1,2,3,21,22,23],[1,2,3],[]),(8,[2,3,36,37,38],[2,3],[])] }) (cond (n.ble 62) ({}) ({ keep:=[(4,[1,25,26,27],[2],[])] }))) (cond (n.ble 65) ({}) (cond (n.ble 66) ({ keep:=[(2,[1,6,7,8],[1,2],[])] }) ({ keep:=[(4,[0,1,12,13],[4],[])] }))))) (cond (n.ble 82) (cond (n.ble 73) (cond (n.ble 68) ({ keep:=[(6,[1,3,15,16,17],[1,3],[])] }) ({})) (cond (n.ble 74) ({ keep:=[(2,[0,1,7,8],[4],[])] }) (cond (n.ble 81) ({}) ({ keep:=[(6,[1,2,5,6,7,8,17,18,19],[2,5,6,7,8],[])] })))) (cond (n.ble 91) (cond (n.ble 83) ({ keep:=[(3,[1,3,9,10,11],[1,3],[]),(9,[1,3,22,23,24],[1,2,3],[])] }) (cond (n.ble 90) ({}) ({ keep:=[(2,[1,2,5],[4],[])] }))) (cond (n.ble 92) ({}) (cond (n.ble 93) ({ share:=[(1,1)] }) ({}))))))) (cond (n.ble 140) (cond (n.ble 107) (cond (n.ble 100) (cond (n.ble 97) (cond (n.ble 96) ({ keep:=[(5,[1,3,4],[1,3],[]),(14,[1,3,6],[1,3],[])] }) ({})) (cond (n.ble 98) ({ keep:=[(4,[1,3],[1,2],[]),(9,[1,4],[2],[])] }) (cond (n.ble 99) ({ keep:=[(2,[1,3],[1,2],[])] }) ({ keep:=[(3,[1,3,4],[1,2,3],[]),(9,[1,3,5],[1,2,3],[]),(15,[1,3,5,6,7],[1,2,3,5],[])] })))) (cond (n.ble 103) (cond (n.ble 101) ({ keep:=[(4,[1,2,5],[1,2,4],[]),(9,[1,2,6],[1,2,4],[]),(14,[1,2,7],[4],[])] }) (cond (n.ble 102) ({ keep:=[(5,[1,2,5,6,7,8],[2,4,5,6,7],[])] }) ({ keep:=[(3,[2,3,11,12,13],[2,3],[])] }))) (cond (n.ble 105) ({}) (cond (n.ble 106) ({ share:=[(9,9),(9,10),(10,10)] }) ({ keep:=[(2,[1,4,9,10,11],[4,5],[])] }))))) (cond (n.ble 113) (cond (n.ble 110) (cond (n.ble 108) ({ keep:=[(2,[0,1,7,8],[4],[])] }) ({})) (cond (n.ble 111) ({ keep:=[(4,[1,31,32,33],[1,2],[])] }) (cond (n.ble 112) ({}) ({ keep:=[(2,[0,1,7,8],[4],[])] })))) (cond (n.ble 136) (cond (n.ble 116) ({}) (cond (n.ble 117) ({ share:=[(10,6),(12,1),(14,4),(21,1)] }) ({}))) (cond (n.ble 137) ({ keep:=[(3,[1,2,5,6],[5],[])] }) (cond (n.ble 139) ({}) ({ keep:=[(6,[1,3],[2],[])] })))))) (cond (n.ble 170) (cond (n.ble 159) (cond (n.ble 147) (cond (n.ble 146) ({}) ({ keep:=[(2,[1,2,5],[4],[])] })) (cond (n.ble 156) ({}) (cond (n.ble 157) ({ keep:=[(100005,[0,1],[0],[0])] }) ({})))) (cond (n.ble 165) (cond (n.ble 160) ({ keep:=[(18,[1,2,4,9,11,13,95,96,97],[1,2,4,13],[])] }) (cond (n.ble 161) ({}) ({ keep:=[(2,[0,1,7,8],[4],[])] }))) (cond (n.ble 168) ({}) (cond (n.ble 169) ({ keep:=[(2,[0,1,5],[0,4],[0])] }) ({ keep:=[(15,[5,45],[5],[])] }))))) (cond (n.ble 185) (cond (n.ble 172) (cond (n.ble 171) ({}) ({ keep:=[(2,[0,1,6],[4,5],[])] })) (cond (n.ble 183) ({}) (cond (n.ble 184) ({ keep:=[(2,[0,1,2,3,8,9],[0],[0])] }) ({})))) (cond (n.ble 188) (cond (n.ble 186) ({ keep:=[(3,[0,18,19,20],[0],[0])] }) (cond (n.ble 187) ({ keep:=[(2,[0,1,2,3,4,10,11],[0],[0])] }) ({ keep:=[(1,[0,1,2,6],[0],[0]),(4,[0,1,2,6,7],[0,1,2,6],[0])] }))) (cond (n.ble 198) ({}) (cond (n.ble 199) ({ keep:=[(1,[0,1,2,3,8],[0],[0]),(4,[0,1,2,3,8,9],[0,1,2,3,8],[0])] }) ({})))))))
open Go.Proofs in
noncomputable def v_(n:Nat):Option Func:=
 cond (n.ble 103) (cond (n.ble 55) (cond (n.ble 31) (cond (n.ble 20) (cond (n.ble 13) (cond (n.ble 5) (cond (n.ble 4) (none) (some Tryz.f5)) (cond (n.ble 11) (none) (cond (n.ble 12) (some Tryz.f12) (some Tryz.f13)))) (cond (n.ble 16) (cond (n.ble 14) (some Tryz.f14) (cond (n.ble 15) (some Tryz.f15) (some Tryz.f16))) (cond (n.ble 17) (some Tryz.f17) (cond (n.ble 19) (none) (some Tryz.f20))))) (cond (n.ble 25) (cond (n.ble 22) (cond (n.ble 21) (none) (some Tryz.f22)) (cond (n.ble 23) (some Tryz.f23) (cond (n.ble 24) (some Tryz.f24) (some Tryz.f25)))) (cond (n.ble 28) (cond (n.ble 26) (some Tryz.f26) (cond (n.ble 27) (some Tryz.f27) (none))) (cond (n.ble 29) (some Tryz.f29) (cond (n.ble 30) (some Tryz.f30) (some Tryz.f31)))))) (cond (n.ble 43) (cond (n.ble 37) (cond (n.ble 34) (cond (n.ble 33) (none) (some Tryz.f34)) (cond (n.ble 35) (some Tryz.f35) (cond (n.ble 36) (none) (some Tryz.f37)))) (cond (n.ble 40) (cond (n.ble 38) (some Tryz.f38) (cond (n.ble 39) (some Tryz.f39) (some Tryz.f40))) (cond (n.ble 41) (none) (cond (n.ble 42) (some Tryz.f42) (none))))) (cond (n.ble 49) (cond (n.ble 46) (cond (n.ble 44) (some Tryz.f44) (cond (n.ble 45) (some Tryz.f45) (some Tryz.f46))) (cond (n.ble 47) (some Tryz.f47) (cond (n.ble 48) (some Tryz.f48) (some Tryz.f49)))) (cond (n.ble 52) (cond (n.ble 50) (some Tryz.f50) (cond (n.ble 51) (some Tryz.f51) (some Tryz.f52))) (cond (n.ble 53) (some Tryz.f53) (cond (n.ble 54) (some Tryz.f54) (some Tryz.f55))))))) (cond (n.ble 77) (cond (n.ble 66) (cond (n.ble 60) (cond (n.ble 57) (cond (n.ble 56) (some Tryz.f56) (some Tryz.f57)) (cond (n.ble 58) (some Tryz.f58) (cond (n.ble 59) (some Tryz.f59) (some Tryz.f60)))) (cond (n.ble 63) (cond (n.ble 61) (some Tryz.f61) (cond (n.ble 62) (some Tryz.f62) (some Tryz.f63))) (cond (n.ble 64) (some Tryz.f64) (cond (n.ble 65) (some Tryz.f65) (some Tryz.f66))))) (cond (n.ble 71) (cond (n.ble 68) (cond (n.ble 67) (some Tryz.f67) (some Tryz.f68)) (cond (n.ble 69) (some Tryz.f69) (cond (n.ble 70) (some Tryz.f70) (some Tryz.f71)))) (cond (n.ble 74) (cond (n.ble 72) (none) (cond (n.ble 73) (some Tryz.f73) (some Tryz.f74))) (cond (n.ble 75) (some Tryz.f75) (cond (n.ble 76) (some Tryz.f76) (some Tryz.f77)))))) (cond (n.ble 91) (cond (n.ble 82) (cond (n.ble 79) (cond (n.ble 78) (some Tryz.f78) (some Tryz.f79)) (cond (n.ble 80) (some Tryz.f80) (cond (n.ble 81) (some Tryz.f81) (some Tryz.f82)))) (cond (n.ble 85) (cond (n.ble 83) (some Tryz.f83) (cond (n.ble 84) (none) (some Tryz.f85))) (cond (n.ble 89) (none) (cond (n.ble 90) (some Tryz.f90) (some Tryz.f91))))) (cond (n.ble 97) (cond (n.ble 94) (cond (n.ble 92) (some Tryz.f92) (cond (n.ble 93) (some Tryz.f93) (some Tryz.f94))) (cond (n.ble 95) (some Tryz.f95) (cond (n.ble 96) (some Tryz.f96) (some Tryz.f97)))) (cond (n.ble 100) (cond (n.ble 98) (some Tryz.f98) (cond (n.ble 99) (some Tryz.f99) (some Tryz.f100))) (cond (n.ble 101) (some Tryz.f101) (cond (n.ble 102) (some Tryz.f102) (some Tryz.f103)))))))) (cond (n.ble 151) (cond (n.ble 125) (cond (n.ble 114) (cond (n.ble 108) (cond (n.ble 105) (cond (n.ble 104) (some Tryz.f104) (some Tryz.f105)) (cond (n.ble 106) (some Tryz.f106) (cond (n.ble 107) (some Tryz.f107) (some Tryz.f108)))) (cond (n.ble 111) (cond (n.ble 109) (some Tryz.f109) (cond (n.ble 110) (some Tryz.f110) (some Tryz.f111))) (cond (n.ble 112) (some Tryz.f112) (cond (n.ble 113) (some Tryz.f113) (some Tryz.f114))))) (cond (n.ble 119) (cond (n.ble 116) (cond (n.ble 115) (some Tryz.f115) (some Tryz.f116)) (cond (n.ble 117) (some Tryz.f117) (cond (n.ble 118) (some Tryz.f118) (some Tryz.f119)))) (cond (n.ble 122) (cond (n.ble 120) (some Tryz.f120) (cond (n.ble 121) (some Tryz.f121) (some Tryz.f122))) (cond (n.ble 123) (some Tryz.f123) (cond (n.ble 124) (some Tryz.f124) (some Tryz.f125)))))) (cond (n.ble 139) (cond (n.ble 133) (cond (n.ble 127) (cond (n.ble 126) (some Tryz.f126) (some Tryz.f127)) (cond (n.ble 131) (none) (cond (n.ble 132) (some Tryz.f132) (some Tryz.f133)))) (cond (n.ble 136) (cond (n.ble 134) (some Tryz.f134) (cond (n.ble 135) (some Tryz.f135) (some Tryz.f136))) (cond (n.ble 137) (some Tryz.f137) (cond (n.ble 138) (some Tryz.f138) (some Tryz.f139))))) (cond (n.ble 145) (cond (n.ble 142) (cond (n.ble 140) (some Tryz.f140) (cond (n.ble 141) (some Tryz.f141) (none))) (cond (n.ble 143) (some Tryz.f143) (cond (n.ble 144) (none) (some Tryz.f145)))) (cond (n.ble 148) (cond (n.ble 146) (some Tryz.f146) (cond (n.ble 147) (some Tryz.f147) (some Tryz.f148))) (cond (n.ble 149) (some Tryz.f149) (cond (n.ble 150) (some Tryz.f150) (some Tryz.f151))))))) (cond (n.ble 173) (cond (n.ble 162) (cond (n.ble 156) (cond (n.ble 153) (cond (n.ble 152) (some Tryz.f152) (some Tryz.f153)) (cond (n.ble 154) (some Tryz.f154) (cond (n.ble 155) (some Tryz.f155) (some Tryz.f156)))) (cond (n.ble 159) (cond (n.ble 157) (some Tryz.f157) (cond (n.ble 158) (some Tryz.f158) (some Tryz.f159))) (cond (n.ble 160) (some Tryz.f160) (cond (n.ble 161) (some Tryz.f161) (some Tryz.f162))))) (cond (n.ble 167) (cond (n.ble 164) (cond (n.ble 163) (some Tryz.f163) (some Tryz.f164)) (cond (n.ble 165) (some Tryz.f165) (cond (n.ble 166) (some Tryz.f166) (some Tryz.f167)))) (cond (n.ble 170) (cond (n.ble 168) (some Tryz.f168) (cond (n.ble 169) (some Tryz.f169) (some Tryz.f170))) (cond (n.ble 171) (some Tryz.f171) (cond (n.ble 172) (some Tryz.f172) (some Tryz.f173)))))) (cond (n.ble 184) (cond (n.ble 178) (cond (n.ble 175) (cond (n.ble 174) (some Tryz.f174) (some Tryz.f175)) (cond (n.ble 176) (some Tryz.f176) (cond (n.ble 177) (some Tryz.f177) (some Tryz.f178)))) (cond (n.ble 181) (cond (n.ble 179) (some Tryz.f179) (cond (n.ble 180) (some Tryz.f180) (some Tryz.f181))) (cond (n.ble 182) (some Tryz.f182) (cond (n.ble 183) (some Tryz.f183) (some Tryz.f184))))) (cond (n.ble 194) (cond (n.ble 187) (cond (n.ble 185) (some Tryz.f185) (cond (n.ble 186) (some Tryz.f186) (some Tryz.f187))) (cond (n.ble 188) (some Tryz.f188) (cond (n.ble 193) (none) (some Tryz.f194)))) (cond (n.ble 199) (cond (n.ble 197) (none) (cond (n.ble 198) (some Tryz.f198) (some Tryz.f199))) (cond (n.ble 211) (none) (cond (n.ble 212) (some Tryz.f212) (none))))))))
noncomputable def ctx:Ctx:=⟨alB,akJ,ajT⟩
open Go.Proofs
theorem OJ:iD Tryz.prog ctx:=acu FM (fun t h=>by show cond (Nat.ble t FM) _ _=_;rw[h];rfl) (by kernel_rfl)
theorem alv:Tryz.prog.follows .mixedOrders=true:=by kernel_rfl
theorem akC:∀(f:FuncId)(fn:Func),Tryz.prog.funcs[f]? = some fn->fn.name≠ "runtime.NumGoroutine" := ac3 (by kernel_rfl)
end Go.V
namespace Go.V
noncomputable section
open Go
def Wf:(t:Ty)->t.den->Prop
 | .unit,_=>True
 | .int k,n=>(Lit.int k n).wf=true
 | .bool,_=>True
 | .str,s=>s.size<=maxLen
 | .sl t,xs=>xs.length<=maxLen/\∀x∈xs,Wf t x
 | .pair a b,x=>Wf a x.1/\Wf b x.2
section
variable {H:Type} {enc:TypeId×Value->H} {P:Program} {C:Ctx} {w:World} {sp:Nat->Bool} {held:Bool}
def Old(w:World):BS:=fun b=>b<w.heap.size
theorem mF.cellsOf{t:TypeId}(k:mF P C t):P.cellsOf t=(C.ty t).width:=by obtain⟨i,h1,h2,_⟩:=k.info;simp[Program.cellsOf,h1,h2]
theorem QA(bn:iD P C){n:Nat}(ih:∀(t:TypeId)(cs:List Value)(z:DataW H×List MemPlace),(C.ty t).nz=true->DataW.trod enc P w 0 sp held n t cs=some z->
   ∃x:(C.ty t).den,Wf (C.ty t) x/\az w.heap (Old w) (C.ty t) .no x cs Nil) {cs:List Value} :
  ∀(fs:List Field)(off:Nat)(T:Ty),mY C fs off T->(∀f∈fs,∃z,DataW.trod enc P w 0 sp held n f.type ((cs.drop f.offset).take (P.cellsOf f.type))=some z)->cs.length=off+T.width->
   ∃x:T.den,Wf T x/\az w.heap (Old w) T .no x (cs.drop off) Nil
 | [],off,T,hs,_,hl=>by
  simp only[mY]at hs;subst hs;simp only[Ty.width,qU]at hl;exact⟨(),trivial,by simp only[az];exact vN (by omega)⟩
 | f::fs,off,T,hs,hf,hl=>by
  obtain⟨b,rfl,ho,_,hnz,hs⟩:=hs;obtain⟨z,hz⟩:=hf f (e8 ..);obtain⟨x,wx,rx⟩:=ih _ _ z hnz hz;rw[(bn _ hnz).cellsOf,ho]at rx;simp only[Ty.width]at hl;obtain⟨y,wy,ry⟩:=QA bn ih fs (off+(C.ty f.type).width) b hs (fun g hg=>hf g (cG _ hg)) (by omega);refine⟨(x,y),⟨wx,wy⟩,?_⟩;simp only[az];refine⟨_,_,Nil,Nil,?_,rx,ry,Sub.nil _,Sub.nil _,cC.nil _⟩;rw[<-qT,rJ]
theorem acy(bn:iD P C):∀(n:Nat)(t:TypeId)(cs:List Value)(z:DataW H×List MemPlace),(C.ty t).nz=true->DataW.trod enc P w 0 sp held n t cs=some z->
   ∃x:(C.ty t).den,Wf (C.ty t) x/\az w.heap (Old w) (C.ty t) .no x cs Nil:=by
 intro n
 induction n with
 | zero=>intro t cs z _ h;simp[DataW.trod]at h
 | succ n ih=>
  intro t cs z hnz h;have k:=bn t hnz;obtain⟨d,hd,jf⟩:=k.desc;cases d with
  | int kd=>simp only[oP]at jf;obtain⟨m,rfl,_,hw⟩:=DataW.trod_int hd h;rw[jf];exact⟨m,hw,by simp only[az]⟩
  | bool=>
   simp only[oP]at jf;rw[jf];have:∃b,cs=[.bool b]:=by unfold DataW.trod at h;rw[hd]at h;split at h<;>simp_all
   obtain⟨b,rfl⟩:=this;exact⟨b,trivial,by simp only[az]⟩
  | string=>simp only[oP]at jf;obtain⟨s,rfl,_,hw⟩:=DataW.trod_string hd h;rw[jf];exact⟨s,hw,by simp only[az]⟩
  | struct fs=>
   simp only[oP]at jf;obtain⟨xs,m,e,_,hl,hlen,hf⟩:=DataW.trod_struct hd h;obtain rfl:n=m:=by omega
   rw[k.cellsOf]at hl;have:=QA (cs:=cs) bn ih fs.toList 0 (C.ty t) jf.1 (fun f hf'=>by
    obtain⟨i,hi,e⟩:=lG.1 hf';rw[iO]at hi;have h1:=hf i f (by rw[<-e];simp[hi]);exact⟨xs[i],by rw[h1];simp⟩) (by omega)
   simpa using this
  | slice e=>
   simp only[oP]at jf;obtain⟨he,LM⟩:=jf;have ke:=bn e LM;rw[he];rcases DataW.trod_slice hd h with⟨rfl,_⟩ | ⟨a,len,cap,elems,rest,m,e1,rfl,_,_,hlc,hcm,hel,eu,_⟩
   .exact⟨[],⟨e7 _,fun x hx=>by simp at hx⟩,by simp only[az];exact⟨none,0,by simp,by simp,fun h=>absurd rfl h⟩⟩
   .obtain rfl:n=m:=by omega
    rw[ke.cellsOf]at eu;have hpos:=ke.pos;have key:∀i,i<len->∃(x:(C.ty e).den)(cs:List Value),Wf (C.ty e) x/\az w.heap (Old w) (C.ty e) .no x cs Nil/\cs.length=(C.ty e).width/\∀j,j<(C.ty e).width->w.cell? ((a.add (i * (C.ty e).width)).add j)=cs[j]?:=by intro i hi;have h1:=eu i hi;rw[gz (by omega)]at h1;rw[cM]at h1;obtain⟨cs,h2,h3⟩:=h1;obtain⟨x,wx,rx⟩:=ih _ _ _ LM h3;obtain⟨_,hl,hc⟩:=World.cells?_some h2;exact⟨x,cs,wx,rx,hl,hc⟩
    by_cases h0:len=0
    .subst h0;exact⟨[],⟨e7 _,fun x hx=>by simp at hx⟩,by simp only[az];exact⟨some a,cap,by simp,by simp,fun h=>absurd rfl h⟩⟩
    .have hz:(C.ty e).den:=(C.ty e).zero;have Yy:∀i,∃(x:(C.ty e).den),i<len->∃(cs:List Value),Wf (C.ty e) x/\az w.heap (Old w) (C.ty e) .no x cs Nil/\cs.length=(C.ty e).width/\∀j,j<(C.ty e).width->w.cell? ((a.add (i * (C.ty e).width)).add j)=cs[j]?:=by
      intro i;by_cases hi:i<len
      .obtain⟨x,h⟩:=key i hi;exact⟨x,fun _=>h⟩
      .exact⟨hz,fun h=>absurd h hi⟩
     obtain⟨f,hf⟩:=sX Yy;refine⟨(List.range len).map f,⟨by simp;omega,?_⟩,?_⟩
     .intro x hx;simp only[eI,yz]at hx;obtain⟨i,hi,rfl⟩:=hx;obtain⟨_,h,_⟩:=hf i hi;exact h
     .have hb:∃cells ty fr,w.heap[a.block]? = some (.cells cells ty fr)/\a.spot=none:=by
       obtain⟨cs,_,_,hl,hc⟩:=hf 0 (by omega);have h1:=hc 0 hpos;rw[gz (by omega)]at h1;simp only[Nat.zero_mul,Addr.add,aX]at h1;unfold World.cell? at h1;split at h1
       .rename_i c ty fr hh;split at h1
        .simp at h1
        .rename_i hs;exact⟨c,ty,fr,hh,by simpa using hs⟩
       .simp at h1
      obtain⟨cells,ty,fr,hh,C3⟩:=hb;obtain⟨ab,ao,as'⟩:=a;simp only at C3 hh;subst C3;have hcell:∀i,i<len->∀j,j<(C.ty e).width->w.cell? (((⟨ab,ao,none⟩:Addr).add (i * (C.ty e).width)).add j)=cells[ao+i * (C.ty e).width+j]?:=by
       intro i hi j hj;have:((⟨ab,ao,none⟩:Addr).add (i * (C.ty e).width)).add j=⟨ab,ao+i * (C.ty e).width+j,none⟩:=by simp only[Addr.add];split<;>split<;>simp_all
       rw[this];simp[World.cell?,hh]
      have hsub:∀i,i<len->∀cs:List Value,cs.length=(C.ty e).width->(∀j,j<(C.ty e).width->w.cell? (((⟨ab,ao,none⟩:Addr).add (i * (C.ty e).width)).add j)=cs[j]?)->
        sub cells (ao+i * (C.ty e).width) (C.ty e).width=cs/\ao+i * (C.ty e).width+(C.ty e).width<=cells.size:=by
       intro i hi cs hl hc;have h2:∀j,j<(C.ty e).width->cells[ao+i * (C.ty e).width+j]? = cs[j]?:=fun j hj=>by rw[<-hcell i hi j hj];exact hc j hj
       have h3:ao+i * (C.ty e).width+(C.ty e).width<=cells.size:=by have:=h2 ((C.ty e).width-1) (by omega);rw[gz (by omega)]at this;have:=(rG.1 this).1;omega
       refine⟨?_,h3⟩;apply rL;intro j;simp only[sub,gm,iF];split
       .rename_i hj;rw[yo];exact h2 j hj
       .rename_i hj;rw[pF (by omega)]
      simp only[az];refine⟨some ⟨ab,ao,none⟩,cap,by simp,by simpa using hlc,fun _=>⟨ab,ao,cells,rfl,?_,⟨ty,fr,hh⟩,?_,?_⟩⟩
      .exact(rG.1 hh).1
      .obtain⟨cs,_,_,hl,hc⟩:=hf (len-1) (by omega);have:=(hsub (len-1) (by omega) cs hl hc).2;have e2:len * (C.ty e).width=(len-1) * (C.ty e).width+(C.ty e).width:=by rw[show len=(len-1)+1 by omega,jE];simp
       simp only[jD,FT];omega
      .intro i hi;simp only[jD,FT]at hi;obtain⟨cs,wx,rx,hl,hc⟩:=hf i hi;have e3:((List.range len).map f).getD i (C.ty e).zero=f i:=by simp[List.getD,hi]
       rw[e3,(hsub i hi cs hl hc).1];exact rx
  | _=>simp[oP]at jf
theorem alc{t:TypeId}(k:mF P C t){r:Reach}{b0:Nat}{v:Value}(hval:Value.okWide P w r b0 t v):v=dK (C.ty t) v.cells.toList:=by
 obtain⟨d,hd,jf⟩:=k.desc;cases d with
 | int kd=>simp only[oP]at jf;obtain⟨n,rfl⟩:=Go.WideShapes.okWide_int hd hval;rw[jf];simp[dK,Ty.agg,Value.cells]
 | bool=>simp only[oP]at jf;obtain⟨n,rfl⟩:=Go.WideShapes.okWide_bool hd hval;rw[jf];simp[dK,Ty.agg,Value.cells]
 | string=>simp only[oP]at jf;obtain⟨n,rfl⟩:=Go.WideShapes.okWide_string hd hval;rw[jf];simp[dK,Ty.agg,Value.cells]
 | struct fs=>
  simp only[oP]at jf;obtain⟨cs,rfl,_⟩:=Go.WideShapes.okWide_struct hd hval;have:(C.ty t).agg=true:=by
   generalize hfl:fs.toList=l at jf;cases l with
   | nil=>exact absurd jf.1 jf.2
   | cons f l=>obtain⟨⟨b,e,_⟩,_⟩:=jf;rw[e];rfl
  simp[dK,this,Value.cells]
 | slice e=>simp only[oP]at jf;obtain⟨a,l,c,rfl⟩:=Go.WideShapes.okWide_slice hd hval;rw[jf.1];simp[dK,Ty.agg,Value.cells]
 | _=>simp[oP]at jf
def z5:List TypeId->List PK->Ctx->Prop
 | [],[],_=>True
 | t::ts,.val T::ks,C=>T=C.ty t/\(C.ty t).nz=true/\z5 ts ks C
 | _,_,_=>False
def B5:(ks:List PK)->gf ks->Prop
 | [],_=>True
 | .val t::ks,a=>Wf t a.1/\B5 ks a.2
 | _::ks,a=>B5 ks a.2
theorem SO(bn:iD P C){b0:Nat}:∀(ts:List TypeId)(ks:List PK)(vs:List Value)(ds:List (DataW H))(ps:List MemPlace)(i:Nat),z5 ts ks C->DataW.TrodAll enc P w 0 sp held ts vs ds ps->
  (∀(j:Nat) t v,ts[j]? = some t->vs[j]? = some v->Value.okWide P w .any b0 t v)->∃a:gf ks,B5 ks a/\yX w.heap (Old w) (fun _=>Nil) i ks a vs
 | [],[],vs,ds,ps,i,_,h,_=>by
  obtain⟨rfl,_,_⟩:=Go.ChangeShapes.trodAll_nil h;exact⟨(),trivial,rfl⟩
 | t::ts,.val T::ks,vs,ds,ps,i,hv,h,hok=>by
  obtain⟨rfl,hnz,hv⟩:=hv;obtain⟨v,vs',d,ds',p,q,rfl,rfl,rfl,⟨n,h1⟩,h2⟩:=Go.ChangeShapes.trodAll_cons h;obtain⟨x,wx,rx⟩:=acy bn n t _ _ hnz h1;obtain⟨a,wa,ra⟩:=SO bn ts ks vs' ds' q (i+1) hv h2 (fun j t' v' ht As=>hok (j+1) t' v' (by simpa using ht) (by simpa using As));exact⟨(x,a),⟨wx,wa⟩,v,vs',rfl,⟨_,rx,alc (bn t hnz) (hok 0 t v rfl rfl)⟩,ra⟩
 | [],_::_,_,_,_,_,hv,_,_=>by simp[z5]at hv
 | _::_,[],_,_,_,_,hv,_,_=>by simp[z5]at hv
 | _::_,.own _ _::_,_,_,_,_,hv,_,_=>by simp[z5]at hv
 | _::_,.cD _ _ _::_,_,_,_,_,hv,_,_=>by simp[z5]at hv
 | _::_,.cQ _ _ _::_,_,_,_,_,hv,_,_=>by simp[z5]at hv
 | _::_,.cq _::_,_,_,_,_,hv,_,_=>by simp[z5]at hv
 | _::_,.fn::_,_,_,_,_,hv,_,_=>by simp[z5]at hv
theorem akv{n b:Nat}(h:tX n (fun _=>Nil) b):n<=b:=h.elim id (fun⟨_,h⟩=>h.elim)
theorem ab_{W W':World}(h:kK (tX W.heap.size fun _=>Nil) W W'):Go.RowKit.Below W.heap.size W W':=
 ⟨h.os,h.tape,h.output,h.size,fun k hk=>h.block k hk fun hm=>by have:=akv hm;omega⟩
end
end
end Go.V
namespace Go.V
noncomputable section
open Go
section
variable (C:Ctx) (D:Den C) {R:Type}
def yg(body:St->(Ex->St->Option R)->Option R)(canon fJ:St->St):Nat->St->(Ex->St->Option R)->Option R
 | 0,_,_=>none
 | n+1,S,k=>body S fun e S=>match e with
  | .normal=>yg body canon fJ n (canon S) k
  | e=>k e (fJ S)
theorem S_(body:St->(Ex->St->Option R)->Option R)(canon fJ:St->St)(k:Ex->St->Option R):∀(n:Nat)(S:St),sC body canon fJ n S k=yg body canon fJ n (canon S) k
 | 0,_=>rfl
 | n+1,S=>by
  simp only[sC,yg];congr 1;funext e S;cases e with
  | normal=>exact S_ body canon fJ k n S
  | exit id=>rfl
  | ret=>rfl
noncomputable def m3(H:Hints)(n:Nat):Code->St->(Ex->St->Option R)->Option R
 | .skip,S,k=>k .normal S
 | .region id ops dr,S,k=>
  if MG ops then
   yT C D H id ops (ops.size+1) (nw ops) S [] fun lg S=>
    if dr then (if EX ops&&DH (Region.before ops) lg lg&&Jp (Region.before ops) ops (nw ops) then k .normal S else none) else k .normal S
  else none
 | .seq a b,S,k=>m3 H n a S fun e S=>match e with
  | .normal=>m3 H n b (r9 H b S) k
  | e=>k e S
 | .cond c a b,S,k=>
  match asBool (ev S c) with
  | some t=>br t (m3 H n a S k) (m3 H n b S k)
  | none=>none
 | .block id b,S,k=>m3 H n b S fun e S=>match e with
  | .exit j=>if j=id then k .normal S else k (.exit j) S
  | e=>k e S
 | .loop b,S,k=>
  match H.keep.lookup (Cq b) with
  | some kp=>yg (m3 H n b) (St.canon kp.1 kp.2.2) (St.canon kp.2.1 kp.2.2) n (St.canon kp.1 kp.2.2 S) k
  | none=>none
 | .exit id,S,k=>k (.exit id) S
 | .ret,S,k=>k .ret S
 | _,_,_=>none
theorem ajO(H:Hints)(n:Nat):∀(c:Code),(exec C D H n c:St->(Ex->St->Option R)->Option R)=m3 C D H n c:=by
 intro c
 induction c with
 | seq a b fU kS=>funext S k;simp only[exec,m3,fU,kS];rfl
 | cond c a b fU kS=>funext S k;simp only[exec,m3,fU,kS];rfl
 | block id b ih=>funext S k;simp only[exec,m3,ih];rfl
 | loop b ih=>funext S k;simp only[exec,m3,ih,S_];rfl
 | _=>funext S k;simp only[exec,m3]
inductive mU where
 | l | r
def tL:Code->List mU->Code
 | c,[]=>c
 | .seq a _,.l::p=>tL a p
 | .seq _ b,.r::p=>tL b p
 | .cond _ a _,.l::p=>tL a p
 | .cond _ _ b,.r::p=>tL b p
 | .block _ b,.l::p=>tL b p
 | .loop b,.l::p=>tL b p
 | _,_=>.skip
noncomputable def uN(H:Hints)(n:Nat):Nat->Code->St->(St->Option R)->(Ex->St->Option R)->Option R
 | 0,_,S,K,_=>K S
 | m+1,.seq a b,S,K,k=>m3 C D H n a S fun e S=>match e with
  | .normal=>uN H n m b (r9 H b S) K k
  | e=>k e S
 | _+1,_,_,_,_=>none
def CC:Nat->Code->Bool
 | 0,_=>true
 | m+1,.seq _ b=>CC m b
 | _+1,_=>false
theorem aaT(c:Code):tL c []=c:=by cases c<;>rfl
theorem Rp(H:Hints)(n:Nat)(k:Ex->St->Option R):∀(m:Nat)(c:Code)(S:St),CC m c=true->
  uN C D H n m c S (fun S'=>m3 C D H n (tL c (List.replicate m .r)) S' k) k=m3 C D H n c S k
 | 0,c,S,_=>by simp only[uN,List.replicate,aaT]
 | m+1,c,S,h=>by
  cases c with
  | seq a b=>
   simp only[uN,m3];congr 1;funext e S';cases e with
   | normal=>exact Rp H n k m b (r9 H b S') h
   | exit id=>rfl
   | ret=>rfl
  | _=>simp[CC]at h
theorem acR(H:Hints)(n m:Nat)(k:Ex->St->Option R)(c:Code)(q:List mU)(S:St)(hq:q=List.replicate m .r)(h:CC m c=true) :
  uN C D H n m c S (fun S'=>m3 C D H n (tL c q) S' k) k=m3 C D H n c S k:=by
 subst hq;exact Rp C D H n k m _ S h
noncomputable def uM(H:Hints)(n:Nat):Code->List mU->(Ex->St->Option R)->Ex->St->Option R
 | _,[],k=>k
 | .seq a b,.l::p,k=>uM H n a p fun e S=>match e with
  | .normal=>m3 C D H n b (r9 H b S) k
  | e=>k e S
 | .seq _ b,.r::p,k=>uM H n b p k
 | .cond _ a _,.l::p,k=>uM H n a p k
 | .cond _ _ b,.r::p,k=>uM H n b p k
 | .block id b,.l::p,k=>uM H n b p fun e S=>match e with
  | .exit j=>if j=id then k .normal S else k (.exit j) S
  | e=>k e S
 | _,_,_=>fun _ _=>none
end
def ye{α:Type}(d:α):Nat->Nat->List (Nat×α)->List α
 | _,0,_=>[]
 | i,n+1,[]=>d::ye d (i+1) n []
 | i,n+1,(j,v)::l=>cond (Nat.beq i j) (v::ye d (i+1) n l) (d::ye d (i+1) n ((j,v)::l))
def bq(n:Nat)(sl:List (Nat×AV))(rt:List (Nat×aC)):St:=⟨ye .undef 0 n sl,ye none 0 n (rt.map fun x=>(x.1,some x.2))⟩
section
variable {C:Ctx} (func:FuncId->Option Func) (D:Den C) (n:Nat)
def CA(f:FuncId):Code:=
 match func f with
 | some fn=>fn.body.getD .skip
 | none=>.skip
def OD(f:FuncId):List ResultVar:=
 match func f with
 | some fn=>fn.results.toList
 | none=>[]
def Fv(f:FuncId):Nat:=
 match func f with
 | some fn=>fn.ntmps
 | none=>0
abbrev Out(C:Ctx)(f:FuncId):Type:=f8 (C.sig f).res×dG (C.sig f).params
noncomputable def B6(f:FuncId):Ex->St->Option (Out C f):=fun e S=>
 match e with
 | .exit _=>none
 | _=>(wq C (C.sig f).res (OD func f) S).bind fun r=>(outs (C.hints f) 0 (C.sig f).params r.2).bind fun o=>some (r.1,o)
noncomputable def KP(f:FuncId)(a:gf (C.sig f).params):Option (Out C f):=
 match func f with
 | none=>none
 | some fn=>
  if fn.body.isSome&&((C.sig f).params.all PK.f6&&(Nat.ble (C.sig f).params.length fn.ntmps&&sI (v7 0 (C.sig f).params) (CA func f))) then
   m3 C D (C.hints f) n (CA func f) (enter ⟨List.replicate fn.ntmps .undef,List.replicate fn.ntmps none⟩ 0 (C.sig f).params a) (B6 func f)
  else none
def runs(f:FuncId):Bool:=
 match func f with
 | none=>false
 | some fn=>fn.body.isSome&&((C.sig f).params.all PK.f6&&(Nat.ble (C.sig f).params.length fn.ntmps&&sI (v7 0 (C.sig f).params) (CA func f)))
def Ip(f:FuncId)(a:gf (C.sig f).params):St:=enter ⟨List.replicate (Fv func f) .undef,List.replicate (Fv func f) none⟩ 0 (C.sig f).params a
theorem ade(f:FuncId)(a:gf (C.sig f).params)(h:runs (C:=C) func f=true) :
  KP func D n f a=m3 C D (C.hints f) n (CA func f) (Ip func f a) (B6 func f):=by
 unfold runs at h;unfold KP Ip Fv;split at h
 .simp at h
 .rename_i fn hf;simp only[hf];rw[ak h]
noncomputable def LQ(f:FuncId)(p:List mU)(m:Nat)(S:St)(K:Ex->St->Option (Out C f)):Option (Out C f):=
 match tL (CA func f) p with
 | .loop b=>
  match (C.hints f).keep.lookup (Cq b) with
  | some kp=>yg (m3 C D (C.hints f) n b) (St.canon kp.1 kp.2.2) (St.canon kp.2.1 kp.2.2) m S K
  | none=>none
 | _=>none
noncomputable def LK(f:FuncId)(p:List mU)(m:Nat)(K:Ex->St->Option (Out C f)):Ex->St->Option (Out C f):=fun e S=>
 match tL (CA func f) p with
 | .loop b=>
  match (C.hints f).keep.lookup (Cq b) with
  | some kp=>match e with
   | .normal=>LQ func D n f p m (St.canon kp.1 kp.2.2 S) K
   | e=>K e (St.canon kp.2.1 kp.2.2 S)
  | none=>none
 | _=>none
noncomputable def CQ(f:FuncId)(p q:List mU)(K:Ex->St->Option (Out C f)):Ex->St->Option (Out C f):=
 uM C D (C.hints f) n (tL (CA func f) p) q K
theorem sK(f:FuncId)(p:List mU)(S:St)(K:Ex->St->Option (Out C f)):LQ func D n f p 0 S K=none:=by
 unfold LQ;split
 .split<;>rfl
 .rfl
theorem aka(f:FuncId)(a:gf (C.sig f).params):(match func f with
  | none=>none
  | some fn=>vG C D n fn (C.hints f) (C.sig f).params (C.sig f).res a)=KP func D n f a:=by
 unfold KP;split
 .rfl
 .rename_i fn hf;unfold vG CA B6 OD;rw[hf];simp only;cases fn.body with
  | none=>simp
  | some c=>simp only[Option.isSome_some,zK,uT,ajO];rfl
end
end
end Go.V
namespace Go.V
noncomputable section
open Go Go.Proofs Go.RowKit Go.ChangeShapes
structure Ext where
 den:Den ctx
 is:FuncId->Bool
 ok:∀f,is f=true->DP Tryz.prog ctx den f
 call:∀f a r,is f=true->den f a=some r->JV Tryz.prog f
noncomputable def DD(X:Ext)(n:Nat):Den ctx:=Dn ctx X.den X.is (fun g=>Tryz.prog.funcs[g]?) n
theorem akN(X:Ext)(n:Nat):ow Tryz.prog ctx (DD X n):=OG OJ alv X.ok X.call akC n
theorem ajU(X:Ext){g:FuncId}{fn:Func}(hf:Tryz.prog.funcs[g]? = some fn)(ht:v_ g=some fn)(hx:X.is g=false)(n:Nat)(a:gf (ctx.sig g).params) :
  DD X (n+1) g a=KP v_ (DD X n) n g a:=by
 have:=aka v_ (DD X n) n g a;rw[ht]at this;rw[<-this];unfold DD;simp only[Dn,hx,fe,dX,hf]
def yh:Ext:=⟨fun _ _=>none,fun _=>false,fun _ h=>by simp at h,fun _ _ _ h=>by simp at h⟩
section
variable {H:Type} {enc:TypeId×Value->H} {P:Program}
theorem PY(hl:laidOutB P=true){W W':World}(hb:Below W.heap.size W W'):∀{ts:List TypeId}{vs:List Value}{ds:List (DataW H)}{ps:List MemPlace},
  ts.all (fun t=>P.readableRec t&&Nat.blt t P.types.size)=true->DataW.TrodAll enc P W 0 (fun _=>true) true ts vs ds ps->(∀x∈ps,x.block<W.heap.size)->
  DataW.TrodAll enc P W' 0 (fun b=>decide (b<W.heap.size)) true ts vs ds ps
 | [],_,_,_,_,h,_=>by
  obtain⟨rfl,rfl,rfl⟩:=trodAll_nil h;exact trodAll_mk0
 | t::ts,_,_,_,ht,h,hlt=>by
  obtain⟨v,vs1,d,ds1,a,b,rfl,rfl,rfl,h1,h2⟩:=trodAll_cons h;simp only[gW,bI]at ht;exact⟨a,b,Below.trod hl ht.1.1 (oa.1 ht.1.2) h1 hb (fun x hx=>hlt x (by simp[hx])),PY hl hb ht.2 h2 (fun x hx=>hlt x (by simp[hx])),rfl⟩
end
theorem laid:laidOutB Tryz.prog=true:=by kernel_rfl
theorem acz:ownKnob Tryz.prog.godebug=none:=by kernel_rfl
theorem abZ{H:Type}{enc:TypeId×Value->H}{X:Ext}{f:FuncId}{fn:Func}{s:ChangeSpec}{conds:List PathCond}{tb:TypeId}{os:Os}(started:os.Started)
  (hfn:Tryz.prog.funcs[f]? = some fn) (Ly:Tryz.prog.inits.idxOf? f=none)
  (witness:∃(w:World)(tape:Tape)(i:Input),w.os=os/\(w.forCall tape i).Shaped Tryz.prog/\i.vars=[]/\Input.okWide Tryz.prog (w.forCall tape i) .any w.heap.size f i/\
   s.pre6 enc Tryz.prog fn conds false (w.forCall tape i).memory i.args/\Assume.holds {} Tryz.prog (lone (Frame.enter Tryz.prog f i.args .normal) [] (w.forCall tape i)))
  (hps:z5 fn.params.toList (ctx.sig f).params ctx) (hrd:fn.params.toList.all (fun t=>Tryz.prog.readableRec t&&Nat.blt t Tryz.prog.types.size)=true)
  (hres:fn.resultTypes = #[tb]) (htb:Tryz.prog.underlying tb=some .bool) (hvars:s.vars=[])
  (L5:∀ds:List (DataW H),ds.length=fn.params.size->(s.fn H ds).results=[.lit (.bool true)]/\(s.fn H ds).args=ds/\(s.fn H ds).vars=[])
  (XL:∀a,B5 (ctx.sig f).params a->∃n r,DD X n f a=some r/\∀h Pr Gs us,lu h Pr Gs 0 (ctx.sig f).res r.1 us->us=[.bool true]) :
  ReturnsInHanded {} Tryz.checked os f .any (s.pre6 enc Tryz.prog fn conds false) (s.post enc Tryz.prog fn false true false false):=by
 refine returnsInHanded_of_change_sized (C:=Tryz.checked) acz started Ly hfn witness ?_;intro W base args ds gs before hval hW n4 hsz _;have hW':=hW;have hlt:=hW.lt;obtain⟨p,q,hA,hV,rfl,hfz,Ve⟩:=hW;rw[hvars]at hV;obtain⟨rfl,rfl⟩:=trodVars_none hV;obtain⟨a,wa,ra⟩:=SO OJ fn.params.toList (ctx.sig f).params args.toList ds p 0 hps hA (fun j t v ht hv=>hval j t v (by simpa using ht) (by simpa using hv));obtain⟨n,r,hr,hb⟩:=XL a wa;have pre:Pre W.heap (Old W) (fun _=>Nil) (ctx.sig f).params a args.toList:=
  ⟨ra,fun _ _ _=>cC.nil _,fun _=>cC.nil _,fun _ b hb=>hb.elim,fun b hb=>hb⟩
 have hc:=(akN X n).ok f a r hr W (Old W) (fun _=>Nil) args.toList pre;rw[pG]at hc;refine hc.mono ?_;rintro e W' ⟨val,fN,Gs,Os,us,rfl,ps⟩;obtain rfl:=hb _ _ _ _ ps.res;have hv:=ps.val;simp only[tN]at hv;subst hv;have bel:=ab_ ps.fr;obtain⟨e1,e2,e3⟩:=L5 (ds++[]) (by rw[gU,(trodAll_length hA).2,iO]);refine⟨_,rfl,ds,[],p++[],[],p,[],hW',?_,?_,?_,bel.frame _,fun h=>by cases h⟩
 .rw[e1,hres];exact trodAll_mk1 (shut_bool htb _)
 .rw[e2,gU];exact PY laid bel hrd hA (fun x hx=>hlt x (by simp[hx]))
 .rw[e3,hvars];rfl
end
end Go.V

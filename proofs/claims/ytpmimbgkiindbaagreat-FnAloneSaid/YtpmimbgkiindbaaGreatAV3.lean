import Derived.Orders
import Derived.Test.YtpmimbgkiindbaaGreatProg
import Derived.KernelRfl
import Derived.WalkKit
import Derived.ProofKit
import Derived.OpenShut
import Derived.Below
import Derived.ChangeOld
import Derived.SizedLaws
import Derived.Test.YtpmimbgkiindbaaGreatRows
import Derived.Carry
import Derived.ChangeCalls
import Derived.Test.YtpmimbgkiindbaaGreatAV2
set_option maxRecDepth 100000
set_option linter.unusedVariables false
set_option linter.unusedSimpArgs false
set_option linter.unusedSectionVars false
namespace Go.V
noncomputable section
open Go
theorem R3(look:Nat->Nat)(i:Nat):∀(l:List Edge)(s:Nat),(l.foldl (fun s e=>if Region.binds .any e then s |||2 ^ e.on |||look e.on else s) s).testBit i=true->
  s.testBit i=true\/∃e∈l,Region.binds .any e=true/\(e.on=i\/(look e.on).testBit i=true)
 | [],s,h=>.inl h
 | e::l,s,h=>by
  rw[nI]at h;rcases R3 look i l _ h with h | ⟨e',he,hh⟩
  .by_cases hb:Region.binds .any e=true
   .rw[aj hb,Nat.testBit_or,Nat.testBit_or,Nat.testBit_two_pow]at h;simp only[jz,gQ]at h;rcases h with(h | h) | h
    .exact .inl h
    .exact .inr ⟨e,e7,hb,.inl h⟩
    .exact .inr ⟨e,e7,hb,.inr h⟩
   .rw[af hb]at h;exact .inl h
  .exact .inr ⟨e',cF _ he,hh⟩
def N0(acc:Array Nat)(l:List Oper):Prop:=acc.size=l.length/\∀j i,(acc.getD j 0).testBit i=true->∃o,l[j]? = some o/\∃e∈o.after,Region.binds .any e=true/\(e.on=i\/(e.on<j/\(acc.getD e.on 0).testBit i=true))
theorem NH:∀(l:List Oper)(acc:Array Nat)(d:List Oper),N0 acc d->
  N0 (l.foldl (fun acc o=>acc.push (o.after.foldl (fun s e=>if Region.binds .any e then s |||2 ^ e.on |||acc.getD e.on 0 else s) 0)) acc) (d++l)
 | [],acc,d,h=>by simpa using h
 | o::l,acc,d,h=>by
  rw[nI];have e:d++o::l=(d++[o])++l:=by simp
  rw[e];refine NH l _ _ ⟨by simp[h.1],fun j i hb=>?_⟩;have hs:=h.1;have gd:∀q(v:Nat),(acc.push v).getD q 0=if q=acc.size then v else acc.getD q 0:=by intro q v;simp only[pg,B5];split<;>rfl
  rw[gd]at hb;by_cases hj:j=acc.size
  .rw[aj hj,<-FB]at hb;rcases R3 (fun n=>acc.getD n 0) i _ _ hb with h0 | ⟨e',he,hbd,hh⟩
   .simp at h0
   .refine⟨o,by rw[hj,hs];simp,e',by simpa using he,hbd,?_⟩;rcases hh with hh | hh
    .exact .inl hh
    .have hlt:e'.on<acc.size:=by
      rcases Cc e'.on acc.size with h | h
      .exact h
      .simp[pg,FV h]at hh
     refine .inr ⟨by omega,?_⟩;rw[gd,af (by omega)];exact hh
  .rw[af hj]at hb;obtain⟨o',ho',e',he,hbd,hh⟩:=h.2 j i hb;have hlt:j<d.length:=(Sw.1 ho').1;refine⟨o',by rw[kq hlt];exact ho',e',he,hbd,hh.imp id fun hh=>⟨hh.1,?_⟩⟩;rw[gd,af (by omega)];exact hh.2
theorem QV(ops:Array Oper){j i:Nat}(h:((Region.before ops).getD j 0).testBit i=true) :
  ∃o,ops[j]? = some o/\∃e∈o.after,Region.binds .any e=true/\(e.on=i\/(e.on<j/\((Region.before ops).getD e.on 0).testBit i=true)):=by
 have:=NH ops.toList #[] [] ⟨rfl,fun j i hb=>by simp at hb⟩;unfold Region.before at h⊢;rw[<-FB]at h⊢;obtain⟨o,ho,hh⟩:=this.2 j i h;exact⟨o,by simpa using ho,hh⟩
theorem abD{ops:Array Oper}(he:EU ops=true):∀(j i:Nat),((Region.before ops).getD j 0).testBit i=true->i<j:=by
 intro j
 induction j using Nat.strongRecOn with
 | _ j ih=>
  intro i h;obtain⟨o,ho,e,hm,hb,hh⟩:=QV ops h;have hlt:e.on<j:=by
   simp only[EU,qO]at he;have hx:(j,o)∈nq ops:=by simp only[nq,eI];exact⟨(o,j),FO.2 (by simpa using ho),rfl⟩
   have:=he (j,o) hx;rw[NV]at this;have:=this e hm;rw[hb]at this;simpa [n6] using this
  rcases hh with rfl | ⟨_,hh⟩
  .exact hlt
  .exact Nat.lt_trans (ih e.on hlt i hh) hlt
def Down(ops:Array Oper)(listed:Array Bool):Prop:=∀(j:Nat) o,ops[j]? = some o->listed.getD j false=true->∀e∈o.after,Region.binds .any e=true->listed.getD e.on false=true
theorem aix{ops:Array Oper}{listed:Array Bool}(hd:Down ops listed):∀(j i:Nat),((Region.before ops).getD j 0).testBit i=true->
  (∀o,ops[j]? = some o->∀e∈o.after,Region.binds .any e=true->listed.getD e.on false=true)->listed.getD i false=true:=by
 intro j
 induction j using Nat.strongRecOn with
 | _ j ih=>
  intro i h hl;obtain⟨o,ho,e,hm,hb,hh⟩:=QV ops h;have h1:=hl o ho e hm hb;rcases hh with rfl | ⟨hlt,hh⟩
  .exact h1
  .exact ih e.on hlt i hh fun o' ho'=>hd e.on o' ho' h1
theorem jI.tQ(e f:jI):e.free f=f.free e:=by
 unfold jI.free;cases e.wr<;>cases f.wr
 .rfl
 .rfl
 .rfl
 .rename_i w w';simp only;cases e.lc<;>cases f.lc<;>cases i7 w f.rd<;>cases i7 w w'<;>cases i7 w' e.rd<;>cases i7 w' w<;>cases e.st.contains f.site<;>cases f.st.contains e.site<;>rfl
theorem Qn{M:Array Nat}{e:jI}:∀{l:Log},Bf M e l=true->∀f∈l,e.i=f.i\/uW M e.i f.i=true\/e.free f=true
 | [],_,f,hf=>by simp at hf
 | g::l,h,f,hf=>by
  simp only[Bf,bI,jz]at h;rcases bh.1 hf with rfl | hf
  .rcases h.1 with(h | h) | h
   .exact .inl (mP h)
   .exact .inr (.inl h)
   .exact .inr (.inr h)
  .exact Qn h.2 f hf
theorem GO{M:Array Nat}{all:Log}:∀{l:Log},DB M all l=true->∀e∈l,e.wr≠none->∀f∈all,e.i=f.i\/uW M e.i f.i=true\/e.free f=true
 | [],_,e,he=>by simp at he
 | g::l,h,e,he=>by
  simp only[DB,bI]at h;intro hw;rcases bh.1 he with rfl | he
  .have:=h.1;cases mT:e.wr with
   | none=>exact absurd mT hw
   | some W=>rw[mT]at this;exact Qn this
  .exact GO h.2 e he hw
theorem ajY(M:Array Nat)(i j:Nat):uW M i j=uW M j i:=by simp[uW,Bool.or_comm]
theorem aj_{M:Array Nat}{LG:Log}(h:DB M LG LG=true){e f:jI}(he:e∈LG)(hf:f∈LG)(hne:e.i≠f.i)(ho:uW M e.i f.i=false):e.free f=true:=by
 cases mT:e.wr with
 | some W=>
  rcases GO h e he (by rw[mT];simp) f hf with h | h | h
  .exact absurd h hne
  .rw[ho]at h;simp at h
  .exact h
 | none=>
  cases hwf:f.wr with
  | none=>simp[jI.free,mT,hwf]
  | some W=>
   rcases GO h f hf (by rw[hwf];simp) e he with h | h | h
   .exact absurd h.symm hne
   .rw[ajY,ho]at h;simp at h
   .rw[jI.tQ];exact h
theorem P8{M:Array Nat}{ops:Array Oper}{i:Nat}{x:Oper}:∀{l:List (Nat×Oper)},AU M ops i x l=true->∀y∈l,uW M i y.1=true\/IE ops i y.1 x y.2=true
 | [],_,y,hy=>by simp at hy
 | (j,z)::l,h,y,hy=>by
  simp only[AU,bI,jz]at h;rcases bh.1 hy with rfl | hy
  .exact h.1
  .exact P8 h.2 y hy
theorem P7{M:Array Nat}{ops:Array Oper}:∀{l:List (Nat×Oper)},IU M ops l=true->l.Pairwise fun x y=>uW M x.1 y.1=true\/IE ops x.1 y.1 x.2 y.2=true
 | [],_=>List.Pairwise.nil
 | (i,x)::l,h=>by
  simp only[IU,bI]at h;exact List.Pairwise.cons (fun y hy=>P8 h.1 y hy) (P7 h.2)
section
variable (C:Ctx) (D:Den C) (hints:Hints) (id:Nat) (ops:Array Oper)
noncomputable def jh(β:Nat->Bool):List (Nat×Oper)->St->Option (St×Log)
 | [],S=>some (S,[])
 | (i,o)::l,S=>(gZ C D hints id ops (β i) S i o).bind fun x=>(jh β l x.1).map fun y=>(y.1,x.2::y.2)
end
section
variable {C:Ctx} {D:Den C} {hints:Hints} {id:Nat} {ops:Array Oper}
theorem MI{β:Nat->Bool}:∀(l:List (Nat×Oper))(S:St),jh C D hints id ops β l S=eM C D hints id ops (l.map fun x=>β x.1) l S
 | [],S=>rfl
 | (i,o)::l,S=>by
  simp only[jh,eM,cv,sw,Ga];congr 1;funext x;rw[MI l x.1]
theorem Hg{β:Nat->Bool}{i:Nat}{o:Oper}{l:List (Nat×Oper)}{S S':St}{lg:Log}(h:jh C D hints id ops β ((i,o)::l) S=some (S',lg)) :
  ∃S1 e gG,gZ C D hints id ops (β i) S i o=some (S1,e)/\jh C D hints id ops β l S1=some (S',gG)/\lg=e::gG:=by
 simp only[jh,cL,fo,aY]at h;obtain⟨⟨S1,e⟩,hs,⟨S2,Jj⟩,hr,rfl,rfl⟩:=h;exact⟨S1,e,Jj,hs,hr,rfl⟩
theorem MJ{β:Nat->Bool}{i:Nat}{o:Oper}{l:List (Nat×Oper)}{S S1 S':St}{e:jI}{gG:Log}(hs:gZ C D hints id ops (β i) S i o=some (S1,e))(hr:jh C D hints id ops β l S1=some (S',gG)) :
  jh C D hints id ops β ((i,o)::l) S=some (S',e::gG):=by
 simp only[jh,hs,dF,hr,d7]
theorem Qx{β β':Nat->Bool}:∀(l:List (Nat×Oper))(S:St),(∀x∈l,β' x.1=β x.1)->jh C D hints id ops β' l S=jh C D hints id ops β l S
 | [],S,_=>rfl
 | (i,o)::l,S,h=>by
  simp only[jh];have:=h (i,o) e7;simp only at this;rw[this];congr 1;funext x;rw[Qx l x.1 fun y hy=>h y (cF _ hy)]
theorem Qy{β:Nat->Bool}{j:Nat}{y:Oper}{post:List (Nat×Oper)}:∀(pre:List (Nat×Oper))(S S':St)(lg:Log),jh C D hints id ops β (pre++(j,y)::post) S=some (S',lg)->
  (∀x∈pre,IE ops x.1 j x.2 y=true)->(∀ex∈lg,∀ey∈lg,(∃x∈pre,ex.i=x.1)->ey.i=j->ex.free ey=true)->
  ∃EC,jh C D hints id ops β ((j,y)::(pre++post)) S=some (S',EC)/\∀e∈EC,e∈lg
 | [],S,S',lg,h,_,_=>⟨lg,h,fun e he=>he⟩
 | (i,x)::pre,S,S',lg,h,hap,hfr=>by
  rw[fH]at h;obtain⟨S1,ex,gG,h1,h2,rfl⟩:=Hg h;obtain⟨Jj,k1,k2⟩:=Qy pre S1 S' gG h2 (fun x hx=>hap x (cF _ hx))
   (fun a ha b hb ⟨z,hz,e⟩ hj=>hfr a (cF _ ha) b (cF _ hb) ⟨z,cF _ hz,e⟩ hj)
  obtain⟨S2,ey,lg3,q1,q2,rfl⟩:=Hg k1;have hi:=(AP h1).2;have hj:=(AP q1).2;obtain⟨T1,t1,t2⟩:=swap h1 q1 (hap (i,x) e7) (hfr ex e7 ey (cF _ (k2 ey e7)) ⟨(i,x),e7,hi⟩ hj);refine⟨ey::ex::lg3,MJ t1 (MJ t2 q2),fun e he=>?_⟩;rcases bh.1 he with rfl | he
  .exact cF _ (k2 _ e7)
  .rcases bh.1 he with rfl | he
   .exact e7
   .exact cF _ (k2 _ (cF _ he))
end
theorem A5{ops:Array Oper}{j:Nat}{o:Oper}(h:ops[j]? = some o):(j,o)∈nq ops:=by simp only[nq,eI];exact⟨(o,j),FO.2 (by simpa using h),rfl⟩
section
variable {P:Program} {C:Ctx} {D:Den C} (bn:iA P C) (dy:oh P C D)
include bn dy
theorem alg{np:List Nat}{Q:Exit->Act->World->Prop}{hints:Hints}{id:Nat}{ops:Array Oper}{F:St->Prop}(hgd:L2 ops=true)(hed:EU ops=true)(Xn:IU (Region.before ops) ops (nq ops)=true)(hnp:Jy np ops=true) :
  ∀(fuel:Nat)(listed:Array Bool)(rest:List (Nat×Oper))(S:St)(g:aA)(a:Act)(w:World),rest.length<=fuel->listed.size=ops.size->Down ops listed->rest.Sublist (nq ops)->
   (∀x∈nq ops,x∈rest↔listed.getD x.1 true=false)->aE w.heap S g a.tmps Nil->a.defers=[]->
   (∀β,∃S' lg LG,jh C D hints id ops β rest S=some (S',lg)/\(∀e∈lg,e∈LG)/\DB (Region.before ops) LG LG=true/\F S')->
   (∀S' g' a' w',F S'->aE w'.heap S' g' a'.tmps Nil->g'.cR g->kI g.L w w'->a'.defers=[]->vg np a a'->Q .normal a' w')->wpAny P .any ops Q fuel listed a w:=by
 intro fuel
 induction fuel with
 | zero=>
  intro listed rest S g a w hlen hsz hdn hsub hiff st hdf hrun hQ;have hr:rest=[]:=lD.1 (by omega);subst hr;refine⟨?_,?_⟩
  .apply List.eq_nil_iff_forall_not_mem.2;intro j hj;obtain⟨h0,o,ho,_⟩:=mem_ready.1 hj;have:=(hiff (j,o) (A5 ho)).2 h0;simp at this
  .obtain⟨S',lg,LG,h1,_,_,h4⟩:=hrun fun _=>true;simp only[jh,aK,aY]at h1;obtain⟨rfl,_⟩:=h1;exact hQ S g a w h4 st (.refl g) (.refl _ _) hdf (.refl _ _)
 | succ fuel ih=>
  intro listed rest S g a w hlen hsz hdn hsub hiff st hdf hrun hQ;have hft:∀j,j<ops.size->(listed.getD j true=listed.getD j false):=by
   intro j hj;have:j<listed.size:=by omega
   simp[Array.getD,this]
  refine⟨fun hre=>?_,fun j hj=>?_⟩
  .have hr:rest=[]:=by
    cases rest with
    | nil=>rfl
    | cons x rest=>
     exfalso;have key:∀j,j<ops.size->listed.getD j true=true:=by
      intro j
      induction j using Nat.strongRecOn with
      | _ j ihj=>
       intro hlt;cases hl:listed.getD j true with
       | true=>rfl
       | false=>
        exfalso;have ho:ops[j]? = some ops[j]:=vA hlt;have:j∈Region.ready .any ops listed:=by
         refine mem_ready.2 ⟨hl,ops[j],ho,fun e he hb=>?_⟩;have WU:e.on<j:=by have Uh:=hed;simp only[EU,qO]at Uh;have:=Uh (j,ops[j]) (A5 ho);rw[NV]at this;have:=this e he;rw[hb]at this;simpa [n6] using this
         rw[<-hft e.on (by omega)];exact ihj e.on WU (by omega)
        rw[hre]at this;simp at this
     have hx:=hsub.subset e7;have h0:=(hiff x hx).1 e7;have d8:=xQ x hx;have:=key x.1 (ru.1 d8).1;rw[h0]at this;simp at this
   subst hr;obtain⟨S',lg,LG,h1,_,_,h4⟩:=hrun fun _=>true;simp only[jh,aK,aY]at h1;obtain⟨rfl,_⟩:=h1;exact hQ S g a w h4 st (.refl g) (.refl _ _) hdf (.refl _ _)
  .obtain⟨h0,y,hy,wO⟩:=mem_ready.1 hj;have al2:j<ops.size:=(ru.1 hy).1;have hmem:=(hiff (j,y) (A5 hy)).2 h0;obtain⟨pre,post,rfl⟩:=List.append_of_mem hmem
   -- indexes are apart
   have Um:((nq ops).map (·.1)).Nodup:=by rw[UP];exact List.nodup_range
   have W6:=(hsub.map (·.1)).nodup Um;simp only[pE,cv]at W6;have Ag:((pre++(j,y)::post).map (·.1)).Pairwise (· < ·):=by refine List.Pairwise.sublist (hsub.map (·.1)) ?_;rw[UP];exact List.pairwise_lt_range
   have hlt:∀x∈pre,x.1<j:=by intro x hx;rw[pE,yc]at Ag;exact Ag.2.2 x.1 (eI.2 ⟨x,hx,rfl⟩) j (by simp)
   have hgt:∀x∈post,j<x.1:=by intro x hx;rw[pE,yc,cv,l9]at Ag;exact Ag.2.1.1 x.1 (eI.2 ⟨x,hx,rfl⟩)
   have hun:∀x∈pre,uW (Region.before ops) x.1 j=false:=by
    intro x hx;have hxt:x∈nq ops:=hsub.subset (by simp[hx]);have hxu:=(hiff x hxt).1 (by simp[hx]);cases ho:uW (Region.before ops) x.1 j with
    | false=>rfl
    | true=>
     exfalso;simp only[uW,jz]at ho;rcases ho with ho | ho
     .have:=aix hdn j x.1 ho fun o' ho' e he hb=>by
       rw[hy]at ho';simp only[aK]at ho';subst ho';exact wO e he hb
      have XB:x.1<ops.size:=(ru.1 (xQ x hxt)).1;rw[<-hft x.1 XB,hxu]at this;simp at this
     .have:=abD hed _ _ ho;have:=hlt x hx;omega
   have hap:∀x∈pre,IE ops x.1 j x.2 y=true:=by
    intro x hx;have:=(P7 Xn).sublist hsub;rw[yc]at this;rcases this.2.2 x hx (j,y) (by simp) with h | h
    .have:=hun x hx;simp only at h;rw[this]at h;simp at h
    .exact h
   have CZ:∀β,∃S1 e S' lg LG,gZ C D hints id ops (β j) S j y=some (S1,e)/\jh C D hints id ops β (pre++post) S1=some (S',lg)/\(∀e∈lg,e∈LG)/\DB (Region.before ops) LG LG=true/\F S':=by
    intro β;obtain⟨S',lg,LG,h1,h2,h3,h4⟩:=hrun β;obtain⟨EC,q1,q2⟩:=Qy pre S S' lg h1 hap (by
     intro ex hex ey hey hx hyj;obtain⟨x,hx,e1⟩:=hx;refine aj_ h3 (h2 ex hex) (h2 ey hey) ?_ ?_
     .rw[e1,hyj];have:=hlt x hx;omega
     .rw[e1,hyj];exact hun x hx)
    obtain⟨S1,e,gG,t1,t2,rfl⟩:=Hg q1;exact⟨S1,e,S',gG,LG,t1,t2,fun e he=>h2 e (q2 e (cF _ he)),h3,h4⟩
   refine Nd bn dy st (hints:=hints) (id:=id) hy (fun j' c=>Ra hgd j y j' c hy) hdf (R6 hnp (j,y) (A5 hy)) (fun β=>?_) ?_
   .obtain⟨S1,e,_,_,_,h1,_⟩:=CZ fun _=>β;exact⟨_,h1⟩
   .intro βj S1 e a' w' g' hs st' iI hfr iG ox;refine ih (listed.setIfInBounds j true) (pre++post) S1 g' a' w' ?_ (by simpa using hsz) ?_ ?_ ?_ st' iG ?_ ?_
    .simp only[cT,ct]at hlen⊢;omega
    .intro q o hq hlq e he hb;by_cases hqj:j=q
     .subst hqj;rw[hy]at hq;simp only[aK]at hq;subst hq;exact getD_set_true (wO e he hb)
     .rw[getD_set_ne false hqj]at hlq;exact getD_set_true (hdn q o hq hlq e he hb)
    .exact List.Sublist.trans (List.Sublist.append (List.Sublist.refl pre) (List.sublist_cons_self _ _)) hsub
    .intro x hx;have hx1:=hiff x hx;by_cases Ux:x.1=j
     .constructor
      .intro hm;exfalso;rcases bN.1 hm with hm | hm
       .have:=hlt x hm;omega
       .have:=hgt x hm;omega
      .intro h;exfalso;have iH:j<listed.size:=by omega
       simp[Ux,Array.getD,iH]at h
     .rw[getD_set_ne true (fun h=>Ux h.symm),<-hx1];simp only[bN,bh];constructor
      .rintro(h | h)
       .exact .inl h
       .exact .inr (.inr h)
      .rintro(h | h | h)
       .exact .inl h
       .exact absurd (by rw[h]) Ux
       .exact .inr h
    .intro β;obtain⟨S1',e',S',lg,LG,h1,h2,h3⟩:=CZ fun n=>if n=j then βj else β n
     simp only[aX]at h1;rw[hs]at h1;simp only[aK,aY]at h1;obtain⟨rfl,rfl⟩:=h1;refine⟨S',lg,LG,?_,h3⟩;rw[<-h2];symm;refine Qx _ _ fun x hx=>?_;rw[af];intro Ux;rcases bN.1 hx with hm | hm
     .have:=hlt x hm;omega
     .have:=hgt x hm;omega
    .intro S' tR I6 w'' hF vq w_ pY wN wR;exact hQ S' tR I6 w'' hF vq (iI.trans w_) (hfr.trans (by rw[iI.2.1]at pY;exact pY)) wN (ox.trans wR)
theorem aj5{np:List Nat}{R:Type}{r:R}{H:Hints}{id:Nat}{ops:Array Oper}{S:St}{k:Ex->St->Option R}{Q:Exit->Act->World->Prop}{g:aA}{a:Act}{w:World}{n:Nat}
  (j4:P.follows .mixedOrders=true) (hnp:Jy np ops=true) (h:exec C D H n (.region id ops true) S k=some r):jJ np P C Q r (.region id ops true) S k g a w:=by
 intro st hdf hQ;simp only[exec]at h;split at h
 .rename_i hgd;have hR:=fun βs=>LN (hints:=H) _ _ _ _ h S (fD.refl S) βs;have wI:EU ops=true/\IU (Region.before ops) ops (nq ops)=true:=by
   obtain⟨T1,gn,S1,gG,_,q2,_⟩:=hR [];simp only[aX]at q2;split at q2
   .rename_i hc;simp only[bI]at hc;exact⟨hc.1.1,hc.2⟩
   .simp at q2
  refine wp_region_any j4 ?_;refine alg (hints:=H) (id:=id) (F:=fun S'=>∃S1,k .normal S1=some r/\fD S1 S') bn dy hgd wI.1 wI.2 hnp ops.size _ (nq ops) S g a _ ?_ (by simp) ?_ (List.Sublist.refl _) ?_ st hdf (fun β=>?_) ?_
  .have:=er List.length (UP (ops:=ops));simp only[jA,FH]at this;omega
  .intro j o ho hl;exfalso;have hlt:=(ru.1 ho).1;simp[hlt]at hl
  .intro x hx;have hlt:=(ru.1 (xQ x hx)).1;simp[hx,hlt]
  .obtain⟨T1,gn,S1,gG,q1,q2,q3,q4,_⟩:=hR ((nq ops).map fun x=>β x.1);simp only[aX]at q2;split at q2
   .rename_i hc;simp only[bI]at hc;exact⟨T1,gn,gG,by rw[MI];exact q1,q4,hc.1.2,S1,q2,q3⟩
   .simp at q2
  .intro S' g' a' w' hF st' iI hfr iG ox;obtain⟨S1,hk,p_⟩:=hF;exact hQ .normal S1 g' a' w' hk (MK p_ st') iI ((kI.drawn _).trans hfr) iG ox
 .simp at h
theorem EV{np:List Nat}{R:Type}{r:R}{H:Hints}(j4:P.follows .mixedOrders=true):∀(c:Code)(n:Nat)(S:St)(k:Ex->St->Option R),sB np c=true->exec C D H n c S k=some r->
  ∀(Q:Exit->Act->World->Prop)(g:aA)(a:Act)(w:World),jJ np P C Q r c S k g a w
 | .skip,n,S,k,hc,h,Q,g,a,w=>by
  intro st hdf hQ;exact wp_skip (hQ .normal S g a w (by simpa only [exec] using h) st (.refl g) (.refl _ _) hdf (.refl _ _))
 | .region id ops dr,n,S,k,hc,h,Q,g,a,w=>by
  cases dr with
  | false=>exact acn bn dy hc h
  | true=>exact aj5 bn dy j4 hc h
 | .seq x y,n,S,k,hc,h,Q,g,a,w=>by
  intro st hdf hQ;simp only[sB,bI]at hc;simp only[exec]at h;refine wp_seq (EV j4 x n S _ hc.1 h _ g a w st hdf ?_);intro e S' g' a' w' hk st' iI hfr iG ox;cases e with
  | normal=>simp only[Ex.out,Exit.then];refine EV j4 y n _ k hc.2 hk Q g' a' w' (show aE w'.heap (rX H y S') g' a'.tmps Nil by unfold rX;split<;>first | exact AY st' _ _ | exact st') iG ?_;intro e2 S2 g2 a2 w2 hk2 o8 qA t_ WE wS;exact hQ e2 S2 g2 a2 w2 hk2 o8 (iI.trans qA) (hfr.trans (by rw[iI.2.1]at t_;exact t_)) WE (ox.trans wS)
  | exit id=>exact hQ (.exit id) S' g' a' w' hk st' iI hfr iG ox
  | ret=>exact hQ .ret S' g' a' w' hk st' iI hfr iG ox
 | .cond c x y,n,S,k,hc,h,Q,g,a,w=>by
  intro st hdf hQ;simp only[exec]at h;cases hb:V.asBool (ev S c) with
  | none=>rw[hb]at h;simp at h
  | some t=>
   rw[hb]at h;simp only at h;have hv:=QT hb (N5 st c);refine wp_cond (t:=t) hv ?_;cases t with
   | true=>exact EV j4 x n S k (by simp only[sB,bI]at hc;exact hc.1) h Q g a w st hdf hQ
   | false=>exact EV j4 y n S k (by simp only[sB,bI]at hc;exact hc.2) h Q g a w st hdf hQ
 | .block id x,n,S,k,hc,h,Q,g,a,w=>by
  intro st hdf hQ;simp only[exec]at h;refine wp_block (EV j4 x n S _ (by simpa only [sB] using hc) h _ g a w st hdf ?_);intro e S' g' a' w' hk st' iI hfr iG ox;cases e with
  | normal=>exact hQ .normal S' g' a' w' hk st' iI hfr iG ox
  | exit j=>
   simp only at hk;simp only[Ex.out,Exit.inBlock];split at hk
   .rename_i hj;rw[aj hj];exact hQ .normal S' g' a' w' hk st' iI hfr iG ox
   .rename_i hj;rw[af hj];exact hQ (.exit j) S' g' a' w' hk st' iI hfr iG ox
  | ret=>exact hQ .ret S' g' a' w' hk st' iI hfr iG ox
 | .loop x,n,S,k,hc,h,Q,g,a,w=>by
  intro st hdf hQ;simp only[exec]at h;cases hl:H.keep.lookup (Co x) with
  | none=>rw[hl]at h;simp at h
  | some kp=>
   rw[hl]at h;simp only at h;have key:∀(m:Nat)(S:St)(g1:aA)(a1:Act)(w1:World),sn (exec C D H n x) (St.canon kp.1 kp.2.2) (St.canon kp.2.1 kp.2.2) m S k=some r->aE w1.heap S g1 a1.tmps Nil->g1.cR g->kI g.L w w1->a1.defers=[]->vg np a a1->
     ∀b k' cs,∃e a' w',Q e a' w'/\Arrives P (lone (b.at a1 (.code x::.inLoop x::k')) cs w1) b k' cs e a' w':=by
    intro m
    induction m with
    | zero=>intro S g1 a1 w1 h;simp[sn]at h
    | succ m ih=>
     intro S g1 a1 w1 h st iI hfr hdf ox b k' cs;simp only[sn]at h;have hx:=EV j4 x n _ _ (by simpa only [sB] using hc) h (Exit.then (fun a' w'=>∀b k' cs,∃e I6 w'',Q e I6 w''/\Arrives P (lone (b.at a' (.code x::.inLoop x::k')) cs w') b k' cs e I6 w'') Q) g1 a1 w1 (AY st kp.1 kp.2.2) hdf (by
      intro e S' g' a' w' hk st' w_ pY iG wR;have wS:=ox.trans wR;have qA:=iI.trans w_;have t_:kI g.L w w':=hfr.trans (by rw[iI.2.1]at pY;exact pY);cases e with
      | normal=>exact ih S' g' a' w' hk st' qA t_ iG wS
      | exit id=>exact hQ (.exit id) _ g' a' w' hk (AY st' kp.2.1 kp.2.2) qA t_ iG wS
      | ret=>exact hQ .ret _ g' a' w' hk (AY st' kp.2.1 kp.2.2) qA t_ iG wS)
     obtain⟨e,a₁,w₁,hq,kL⟩:=hx b (.inLoop x::k') cs;cases e with
     | normal=>obtain⟨e₂,a₂,w₂,hq₂,harr₂⟩:=hq b k' cs;exact⟨e₂,a₂,w₂,hq₂,.of_steps (Steps.trans kL (.one step_inLoop)) harr₂⟩
     | exit id=>exact⟨_,a₁,w₁,hq,.pass (x:=.inLoop x) rfl (fun _ _=>.inl (by simp)) kL⟩
     | goto l=>exact⟨_,a₁,w₁,hq,.pass (x:=.inLoop x) rfl (fun _ _=>.inl (by simp)) kL⟩
     | ret=>exact⟨_,a₁,w₁,hq,.pass (x:=.inLoop x) rfl (fun _ _=>.inl (by simp)) kL⟩
     | panic ch=>exact⟨_,a₁,w₁,hq,.pass (x:=.inLoop x) rfl (fun _ _=>.inl (by simp)) kL⟩
     | outgrown=>exact⟨_,a₁,w₁,hq,.pass (x:=.inLoop x) rfl (fun _ _=>.inl (by simp)) kL⟩
   intro b k' cs;obtain⟨e,a',w',hq,kL⟩:=key n S g a w h st (.refl g) (.refl _ _) hdf (.refl _ _) b k' cs;exact⟨e,a',w',hq,.of_steps (.one step_loop) kL⟩
 | .exit id,n,S,k,hc,h,Q,g,a,w=>by
  intro st hdf hQ;exact wp_exit (hQ (.exit id) S g a w (by simpa only [exec] using h) st (.refl g) (.refl _ _) hdf (.refl _ _))
 | .ret,n,S,k,hc,h,Q,g,a,w=>by
  intro st hdf hQ;exact wp_ret (hQ .ret S g a w (by simpa only [exec] using h) st (.refl g) (.refl _ _) hdf (.refl _ _))
 | .rangeFunc _ _ _ _,n,S,k,hc,h,Q,g,a,w=>by simp[exec]at h
 | .scope _,n,S,k,hc,h,Q,g,a,w=>by simp[exec]at h
 | .label _,n,S,k,hc,h,Q,g,a,w=>by simp[exec]at h
 | .goto _,n,S,k,hc,h,Q,g,a,w=>by simp[exec]at h
 | .refuse _,n,S,k,hc,h,Q,g,a,w=>by simp[exec]at h
end
end
end Go.V
namespace Go.V
noncomputable section
open Go
theorem vX.mono{h:Array Obj}{Pr gb:BS}{t:Ty}{m:Mk}{x:t.den}{v:Value}{F:BS}(hp:Sub Pr gb)(r:vX h Pr t m x v F):vX h gb t m x v F:=by obtain⟨b,c,F0,e,r,k⟩:=r;exact⟨b,c,F0,e,az.mono hp (fun _ _=>rfl) t r (Sub.refl _) (fun _ _=>rfl),k⟩
theorem rT.mono{h:Array Obj}{Pr gb:BS}{k:RK}{x:k.den}{v:Value}{F:BS}(hp:Sub Pr gb)(r:rT h Pr k x v F):rT h gb k x v F:=by
 cases k with
 | val t m=>exact pJ.mono hp r
 | ptr t m=>exact vX.mono hp r
def sk(tmps:Array Value):ResultVar->Sem Value
 | .tmp t=>pure (tmps.getD t Go.undef)
 | .cell a t=>do loadVar t (<- asAddr (tmps.getD a Go.undef))
theorem abk{fn:Func}{tmps:Array Value}{P:Program}{w:World}{us:List Value}(h:(fn.results.toList.mapM (sk tmps)).run P w=.ok us w):(results fn tmps).run P w=.ok (tF us) w:=by
 have e:results fn tmps=(do let vs <- fn.results.mapM (sk tmps);pure (if h:vs.size=1 then vs[0] else .tuple vs)):=by unfold results sk;rfl
 rw[e,Array.mapM_eq_mapM_toList];simp only[Sem.run_bind,Sem.run_map,h,Result.andThen_ok]
 match us with
 | []=>simp[tF]
 | [v]=>simp[tF]
 | u::v::l=>simp[tF]
section
variable {P:Program} {C:Ctx}
theorem Rq{w:World}{t:TypeId}(k:mC P C t)(hz:(C.ty t).nz=true){b o:Nat}{c:List Value}(hr:w.rangeAt b o c)(hl:c.length=(C.ty t).width) :
  (do loadVar t (<- asAddr (.pointer (some ⟨b,o,none⟩))):Sem Value).run P w=.ok (dK (C.ty t) c) w:=by
 have:=Hi (P:=P) k hz hr hl;simpa only [Instr.loadAt,Instr.sureAddr,asAddr] using this
theorem alI(bn:iA P C){w:World}{S:St}{g:aA}{tmps:Array Value}{H:BS}(st:aE w.heap S g tmps H){t:TypeId}(hz:(C.ty t).nz=true){a v':AV}{va:Value}
  (ha:qe w.heap S g a va) (hl:ve S.rt (C.ty t) a=some v'):∃u,(do loadVar t (<- asAddr va):Sem Value).run P w=.ok u w/\qe w.heap S g v' u:=by
 have k:=bn t hz;cases a with
 | cj t' y=>
  simp only[ve]at hl;cases hc:qbv t' (C.ty t) y with
  | none=>rw[hc]at hl;simp at hl
  | some z=>rw[hc]at hl;simp only[qe]at ha;obtain⟨b,off,cs,e,hp,hb,hs,rep⟩:=ha;have hw:=az.width t' rep;obtain⟨e1,jP⟩:=az.cast hc rep;subst e1;have hrun:=Rq (P:=P) (w:=w) k hz (Dq hb hs) hw;refine⟨_,by rw[e];exact hrun,?_⟩;simp at hl;subst hl;simp only[qe];exact⟨_,jP,rfl⟩
 | addr r p=>
  simp only[ve]at hl;cases hf:S.rt.focus r p with
  | none=>rw[hf]at hl;simp at hl
  | some d=>
   rw[hf]at hl;simp only at hl;by_cases hd:d.ty=C.ty t
   .simp only[hd,aX]at hl;have hf':=hf;simp only[aO.focus]at hf';split at hf'
    .rename_i R hR;obtain⟨b,off,c,hin,d8,e⟩:=Hj st hR hf' ha;obtain⟨base,c',F,q1,q2,q3,q4,q5⟩:=st.update hR hf' hin;rw[d8]at q1;simp only[aK,aY]at q1;obtain⟨rfl,rfl⟩:=q1;obtain⟨_,cs,Al,hs,hsub⟩:=q4 b off rfl;have hw:=az.width d.ty q2;have m8:w.rangeAt b off c:=by have:=Dq (w:=w) Al.CJ hs;rw[hsub]at this;exact this
     have hrun:=Rq (P:=P) k hz m8 (by rw[hw,hd]);obtain⟨dt,dm,dx⟩:=d;simp only at hd;subst hd;refine⟨_,by rw[e];exact hrun,?_⟩;simp only[aK]at hl;subst hl;exact dg.rel q2 (ER hR _ _ _ p (some (b,off)) c F hf' hin d8 q2) (Ty.kT hz)
    .simp at hf'
   .rw[af hd]at hl;simp at hl
 | _=>simp[ve]at hl
theorem Me(bn:iA P C){w:World}{S:St}{g:aA}{tmps:Array Value}{H:BS}(st:aE w.heap S g tmps H){v:ResultVar}{a:AV}(h:yd C S v=some a) :
  ∃u,(sk tmps v).run P w=.ok u w/\qe w.heap S g a u:=by
 cases v with
 | tmp t=>simp only[yd,aK]at h;subst h;exact⟨_,by simp only[sk,Sem.run_pure],st.slots t⟩
 | cell x t=>
  simp only[yd]at h;split at h
  .rename_i hz;exact alI bn st hz (st.slots x) h
  .simp at h
theorem MC{h:Array Obj}{S:St}{g:aA}{tmps:Array Value}{H:BS}(st:aE h S g tmps H){q:Nat}{R:aC}(hR:S.root q=some R)(hm:R.mem=true){t:Ty}{m:Mk}{x:t.den}{v:Value}
  (hs:m.aP R.ms=true) (hc:qbv R.ty t R.x=some x) (hv:qe h S g (.addr q []) v) :
  ∃g' F,aE h (S.aI q none) g' tmps (Un H F)/\vX h g'.Pr t m x v F/\cB F H/\g'.cR g/\Sub g.Pr g'.Pr:=by
 obtain⟨F,r1,r2,r3,r4,_⟩:=st.roots q R hR;obtain⟨b,bP,gu,Kv⟩:=r4 hm;have hq:(S.root q).isSome:=by rw[hR];rfl
 have s1:=st.gB hq;obtain⟨_,rx⟩:=az.cast hc r1;obtain⟨F1,F2,q1,q2,q3,q4⟩:=az.aP t hs rx;have s2:=s1.cP F2 (fun z hz=>.inr (r2 z (q2 z hz)));obtain⟨b',off,c,hin,d8,e⟩:=Hj st hR (p:=[]) (d:=⟨R.ty,R.ms,R.x⟩) (by simp only[focus]) hv;have Wu:cr h R.ty (g.C q) (g.base q) []=some (g.base q,g.C q):=by cases R.ty<;>rfl
 rw[Wu]at d8;simp only[aK,aY,aA.base,bP,d7]at d8;obtain⟨⟨rfl,rfl⟩,rfl⟩:=d8;refine⟨{ g with Pr:=Un g.Pr F2 },fun z=>F1 z\/z=b,s2.bB ?_,⟨b,g.C q,F1,e,q4,Kv,.inr rfl,fun z hz=>.inl hz,fun hz=>r3 b bP (q1 b hz)⟩,?_,⟨rfl,rfl,rfl⟩,fun z hz=>.inl hz⟩
 .rintro z (hz | hz | rfl)
  .exact⟨.inl hz,fun h2=>st.hand q hq z (r2 z (q2 z h2)) hz⟩
  .exact⟨.inr (r2 z (q1 z hz)),fun h2=>q3 z hz h2⟩
  .exact⟨.inr gu,fun h2=>r3 z bP (q2 z h2)⟩
 .rintro z (hz | rfl) hh
  .exact st.hand q hq z (r2 z (q1 z hz)) hh
  .exact st.hand q hq z gu hh
theorem QN(bn:iA P C){w:World}{tmps:Array Value}:∀(rs:List RK)(vs:List ResultVar)(S:St)(g:aA)(H:BS)(i:Nat)(r:f7 rs)(S':St),aE w.heap S g tmps H->vZ C rs vs S=some (r,S')->
  ∃us g' H' Gs,(vs.mapM (sk tmps)).run P w=.ok us w/\aE w.heap S' g' tmps H'/\g'.cR g/\Sub g.Pr g'.Pr/\lp w.heap g'.Pr Gs i rs r us/\(∀j,j<i->Gs j=Nil)/\
   (∀j,Sub (Gs j) H')/\(∀j k,j≠k->cB (Gs j) (Gs k))/\(∀j,cB (Gs j) H)/\Sub H H'
 | [],[],S,g,H,i,r,S',st,h=>by
  simp only[vZ,aK,aY]at h;obtain⟨_,rfl⟩:=h;exact⟨[],g,H,fun _=>Nil,by simp,st,.refl g,Sub.refl _,rfl,fun _ _=>rfl,fun _=>Sub.nil _,fun _ _ _=>cB.nil _,fun _=>cB.nil _,Sub.refl _⟩
 | [],_::_,S,g,H,i,r,S',st,h=>by simp[vZ]at h
 | k::_,[],S,g,H,i,r,S',st,h=>by cases k<;>simp[vZ]at h
 | k::ks,v::vs,S,g,H,i,r,S',st,h=>by
  -- one
  have one:∃u S1 x g1 F rr,(sk tmps v).run P w=.ok u w/\aE w.heap S1 g1 tmps (Un H F)/\rT w.heap g1.Pr k x u F/\cB F H/\g1.cR g/\Sub g.Pr g1.Pr/\vZ C ks vs S1=some (rr,S')/\r=(x,rr):=by
   cases k with
   | val t m=>
    simp only[vZ,cL]at h;obtain⟨a,ha,⟨mx,x,rt'⟩,r9,h⟩:=h;split at h
    .rename_i hs;simp only[cL,aK,aY]at h;obtain⟨⟨rr,S2⟩,hg,rfl,rfl⟩:=h;obtain⟨u,hu,rH⟩:=Me bn st ha;obtain⟨c,g2,F,ev,cI⟩:=yT _ st r9 rH;obtain⟨F1,F2,q1,q2,q3,q4⟩:=az.aP t hs cI.rep;have s2:=cI.st.cP F2 (fun z hz=>.inr (q2 z hz));refine⟨u,_,x,_,F1,rr,hu,s2.bB ?_,⟨c,q4,ev⟩,fun z hz hh=>cI.dY z (q1 z hz) hh,aA.cR.trans cI.same ⟨rfl,rfl,rfl⟩,fun z hz=>.inl (cI.pr z hz),hg,rfl⟩;rintro z (hz | hz)
     .exact⟨.inl hz,fun h2=>cI.dY z (q2 z h2) hz⟩
     .exact⟨.inr (q1 z hz),fun h2=>q3 z hz h2⟩
    .simp at h
   | ptr t m=>
    simp only[vZ]at h;split at h
    .rename_i q ha;split at h
     .rename_i R hR;split at h
      .rename_i hs;simp only[cL,aK,aY]at h;obtain⟨x,hc,⟨rr,S2⟩,hg,rfl,rfl⟩:=h;obtain⟨u,hu,rH⟩:=Me bn st ha;obtain⟨g1,F,p1,p2,p3,p4,p5⟩:=MC st hR hs.1 hs.2 hc rH;exact⟨u,_,x,g1,F,rr,hu,p1,p2,p3,p4,p5,hg,rfl⟩
      .simp at h
     .simp at h
    .simp at h
  obtain⟨u,S1,x,g1,F,rr,hu,p1,p2,p3,p4,p5,hg,rfl⟩:=one;obtain⟨us,g',H',Gs,k1,k2,k3,k4,k5,k6,k7,k8,k9,jo⟩:=QN bn ks vs S1 g1 _ (i+1) rr S' p1 hg;refine⟨u::us,g',H',fun j=>if j=i then F else Gs j,?_,k2,p4.trans k3,p5.trans k4,?_,?_,?_,?_,?_,fun z hz=>jo z (.inl hz)⟩
  .simp[List.mapM_cons,hu,k1]
  .refine⟨u,us,rfl,?_,?_⟩
   .show rT w.heap g'.Pr k x u (if i=i then F else Gs i);rw[aj rfl];exact p2.mono k4
   .have:∀(ks:List RK)(n:Nat){a:f7 ks}{us:List Value},i<n->lp w.heap g'.Pr Gs n ks a us->lp w.heap g'.Pr (fun j=>if j=i then F else Gs j) n ks a us:=by
     intro ks
     induction ks with
     | nil=>intro n a us _ h;exact h
     | cons k ks ih=>intro n a us hn h;obtain⟨v,vs',e,r1,r2⟩:=h;exact⟨v,vs',e,by show rT _ _ _ _ _ (if n=i then F else Gs n);rw[af (by omega)];exact r1,ih (n+1) (by omega) r2⟩
    exact this ks (i+1) (by omega) k5
  .intro j hj;show(if j=i then F else Gs j)=Nil;rw[af (by omega)];exact k6 j (by omega)
  .intro j z hz;split at hz
   .exact jo z (.inr hz)
   .exact k7 j z hz
  .intro j k oy z h1 h2;split at h1<;>split at h2
   .omega
   .exact k9 k z h2 (.inr h1)
   .exact k9 j z h1 (.inr h2)
   .exact k8 j k oy z h1 h2
  .intro j z h1 h2;split at h1
   .exact p3 z h1 h2
   .exact k9 j z h1 (.inl h2)
end
end
end Go.V
namespace Go.V
noncomputable section
open Go
def hdc(hd:Nat->Value)(n w:Nat):List Value:=(List.range w).map fun k=>hd (n+k)
theorem MY(hd:Nat->Value)(n a b:Nat):hdc hd n (a+b)=hdc hd n a++hdc hd (n+a) b:=by simp only[hdc,List.range_add,pE,BO];congr 1;apply rE;intro k _;simp[Gc]
theorem xJ(hd:Nat->Value)(n w:Nat):(hdc hd n w).length=w:=by simp[hdc]
theorem Bu:∀(t:Ty)(m:Mk)(n:Nat),fh t m=true->(m.tag n).2=n+t.width
 | .sl _,.own _ _,n,_=>rfl
 | .pair a b,.pr x y,n,h=>by
  simp only[fh,bI]at h;simp only[Mk.tag,Ty.width];rw[Bu b y _ h.2,Bu a x _ h.1];omega
 | .unit,.no,_,_=>rfl
 | .unit,.gone,_,h=>by simp[fh]at h
 | .unit,.own _ _,_,h=>by simp[fh]at h
 | .unit,.pr _ _,_,h=>by simp[fh]at h
 | .int _,m,_,h=>by cases m<;>simp[fh]at h
 | .bool,m,_,h=>by cases m<;>simp[fh]at h
 | .str,m,_,h=>by cases m<;>simp[fh]at h
 | .sl _,.no,_,h=>by simp[fh]at h
 | .sl _,.gone,_,h=>by simp[fh]at h
 | .sl _,.pr _ _,_,h=>by simp[fh]at h
 | .pair _ _,.no,_,h=>by simp[fh]at h
 | .pair _ _,.gone,_,h=>by simp[fh]at h
 | .pair _ _,.own _ _,_,h=>by simp[fh]at h
theorem BK:∀(t:Ty)(m:Mk)(n:Nat),fh t m=true->(m.tag n).1.same .no=true->t.width=0
 | .sl _,.own _ _,n,_,h=>by simp[Mk.tag,Mk.same]at h
 | .pair a b,.pr x y,n,hh,h=>by
  simp only[fh,bI]at hh;simp only[Mk.tag,Mk.same,bI]at h;simp only[Ty.width,BK a x n hh.1 h.1,BK b y _ hh.2 h.2]
 | .unit,_,_,_,_=>rfl
 | .int _,m,_,h,_=>by cases m<;>simp[fh]at h
 | .bool,m,_,h,_=>by cases m<;>simp[fh]at h
 | .str,m,_,h,_=>by cases m<;>simp[fh]at h
 | .sl _,.no,_,h,_=>by simp[fh]at h
 | .sl _,.gone,_,h,_=>by simp[fh]at h
 | .sl _,.pr _ _,_,h,_=>by simp[fh]at h
 | .pair _ _,.no,_,h,_=>by simp[fh]at h
 | .pair _ _,.gone,_,h,_=>by simp[fh]at h
 | .pair _ _,.own _ _,_,h,_=>by simp[fh]at h
theorem GI{hd:Nat->Value}:∀(t:Ty)(m:Mk)(n:Nat)(m':Mk)(c:List Value),fh t m=true->1048576<=n->(m.tag n).1.same m'=true->aM hd t m' c->c.length=t.width->c=hdc hd n t.width
 | .sl _,.own _ _,n,m',c,_,hn,hs,ht,hl=>by
  simp only[Mk.tag,Mk.same]at hs;split at hs
  .rename_i s' mi';simp only[gQ]at hs;subst hs;simp only[aM]at ht;rw[ht.1 hn];rfl
  .simp at hs
 | .pair a b,.pr x y,n,m',c,h,hn,hs,ht,hl=>by
  simp only[fh,bI]at h;simp only[Mk.tag,Mk.same]at hs;split at hs
  .rename_i c1 d1;simp only[bI]at hs;simp only[aM,Mk.fst,Mk.snd]at ht;simp only[Ty.width]at hl⊢;rw[Bu a x n h.1]at hs;have e1:=GI a x n c1 _ h.1 hn hs.1 ht.1 (by simp;omega);have e2:=GI b y (n+a.width) d1 _ h.2 (by omega) hs.2 ht.2 (by simp;omega);rw[MY,<-e1,<-e2,rD]
  .simp only[bI]at hs;simp only[Ty.width]at hl⊢;rw[BK a x n h.1 hs.1,BK b y _ h.2 hs.2]at hl⊢;exact lD.1 hl
  .simp at hs
 | .unit,_,_,_,c,_,_,_,_,hl=>lD.1 hl
 | .int _,m,_,_,_,h,_,_,_,_=>by cases m<;>simp[fh]at h
 | .bool,m,_,_,_,h,_,_,_,_=>by cases m<;>simp[fh]at h
 | .str,m,_,_,_,h,_,_,_,_=>by cases m<;>simp[fh]at h
 | .sl _,.no,_,_,_,h,_,_,_,_=>by simp[fh]at h
 | .sl _,.gone,_,_,_,h,_,_,_,_=>by simp[fh]at h
 | .sl _,.pr _ _,_,_,_,h,_,_,_,_=>by simp[fh]at h
 | .pair _ _,.no,_,_,_,h,_,_,_,_=>by simp[fh]at h
 | .pair _ _,.gone,_,_,_,h,_,_,_,_=>by simp[fh]at h
 | .pair _ _,.own _ _,_,_,_,h,_,_,_,_=>by simp[fh]at h
theorem HG{hd:Nat->Value}:∀(t:Ty)(m:Mk)(n:Nat),fh t m=true->m.ax=true->aM hd t (m.tag n).1 (hdc hd n t.width)
 | .sl _,.own _ _,n,_,hf=>by
  simp only[Mk.ax,bI]at hf;simp only[Mk.tag,aM];exact⟨fun _=>rfl,hf.2⟩
 | .pair a b,.pr x y,n,h,hf=>by
  simp only[fh,bI]at h;simp only[Mk.ax,bI]at hf;simp only[Mk.tag,aM,Mk.fst,Mk.snd,Ty.width,MY];rw[Bu a x n h.1,jl (xJ _ _ _),iX (xJ _ _ _)];exact⟨HG a x n h.1 hf.1,HG b y _ h.2 hf.2⟩
 | .unit,_,_,_,_=>by simp only[aM]
 | .int _,m,_,h,_=>by cases m<;>simp[fh]at h
 | .bool,m,_,h,_=>by cases m<;>simp[fh]at h
 | .str,m,_,h,_=>by cases m<;>simp[fh]at h
 | .sl _,.no,_,h,_=>by simp[fh]at h
 | .sl _,.gone,_,h,_=>by simp[fh]at h
 | .sl _,.pr _ _,_,h,_=>by simp[fh]at h
 | .pair _ _,.no,_,h,_=>by simp[fh]at h
 | .pair _ _,.gone,_,h,_=>by simp[fh]at h
 | .pair _ _,.own _ _,_,h,_=>by simp[fh]at h
theorem Ia{h:Array Obj}{Pr:BS}:∀(t:Ty)(m:Mk)(n:Nat){x:t.den}{c:List Value}{F:BS},fh t m=true->az h Pr t m x c F->az h Pr t (m.tag n).1 x c F
 | .sl _,.own _ _,n,_,_,_,_,r=>by
  simp only[Mk.tag,az]at r⊢;exact r
 | .pair a b,.pr x y,n,_,_,_,hh,r=>by
  simp only[fh,bI]at hh;simp only[Mk.tag,az,Mk.fst,Mk.snd]at r⊢;obtain⟨ca,cb,Fa,Fb,e,ra,rb,k⟩:=r;exact⟨ca,cb,Fa,Fb,e,Ia a x _ hh.1 ra,Ia b y _ hh.2 rb,k⟩
 | .unit,m,n,_,_,_,h,r=>by simpa only [az] using r
 | .int _,m,_,_,_,_,h,_=>by cases m<;>simp[fh]at h
 | .bool,m,_,_,_,_,h,_=>by cases m<;>simp[fh]at h
 | .str,m,_,_,_,_,h,_=>by cases m<;>simp[fh]at h
 | .sl _,.no,_,_,_,_,h,_=>by simp[fh]at h
 | .sl _,.gone,_,_,_,_,h,_=>by simp[fh]at h
 | .sl _,.pr _ _,_,_,_,_,h,_=>by simp[fh]at h
 | .pair _ _,.no,_,_,_,_,h,_=>by simp[fh]at h
 | .pair _ _,.gone,_,_,_,_,h,_=>by simp[fh]at h
 | .pair _ _,.own _ _,_,_,_,_,h,_=>by simp[fh]at h
def fU(hd:Nat->Value):Nat->List PK->List Value->Prop
 | i,.cO t m _::ks,v::vs=>(v=dK t (hdc hd (1048576+64 * i) t.width)/\fh t m=true)/\fU hd (i+1) ks vs
 | i,.cC _ _ _::ks,_::vs=>fU hd (i+1) ks vs
 | i,.val _::ks,_::vs=>fU hd (i+1) ks vs
 | i,.own _ _::ks,_::vs=>fU hd (i+1) ks vs
 | i,.cm _::ks,_::vs=>fU hd (i+1) ks vs
 | i,.fn::ks,_::vs=>fU hd (i+1) ks vs
 | _,_,_=>True
theorem akA{h:Array Obj}{S:St}{g:aA}{tmps:Array Value}{H:BS}(st:aE h S g tmps H){q:Nat}{R:aC}(hR:S.root q=some R){t:Ty}{m:Mk}{x:t.den}
  (hs:m.aP R.ms=true) (hc:qbv R.ty t R.x=some x) :
  ∃g' F,aE h (S.aI q none) g' tmps (Un H F)/\pJ h g'.Pr t m x (dK t (g.C q)) F/\cB F H/\g'.cR g/\Sub g.Pr g'.Pr:=by
 obtain⟨F,r1,r2,r3,r4,_⟩:=st.roots q R hR;have hq:(S.root q).isSome:=by rw[hR];rfl
 have s1:=st.gB hq;obtain⟨_,rx⟩:=az.cast hc r1;obtain⟨F1,F2,q1,q2,q3,q4⟩:=az.aP t hs rx;have s2:=s1.cP F2 (fun z hz=>.inr (r2 z (q2 z hz)));refine⟨{ g with Pr:=Un g.Pr F2 },F1,s2.bB ?_,⟨g.C q,q4,rfl⟩,?_,⟨rfl,rfl,rfl⟩,fun z hz=>.inl hz⟩
 .rintro z (hz | hz)
  .exact⟨.inl hz,fun h2=>st.hand q hq z (r2 z (q2 z h2)) hz⟩
  .exact⟨.inr (r2 z (q1 z hz)),fun h2=>q3 z hz h2⟩
 .intro z hz hh;exact st.hand q hq z (r2 z (q1 z hz)) hh
theorem nu.shift{h:Array Obj}{Pr:BS}{Os Os2:Nat->BS}:∀(ks:List PK)(i:Nat){o:dG ks}{vs:List Value},(∀j,i<=j->Os2 j=Os j)->nu h Pr Os i ks o vs->nu h Pr Os2 i ks o vs
 | [],_,_,_,_,r=>r
 | .cC t _ m::ks,i,_,_,hj,r=>by
  obtain⟨v,vs',e,r1,r2⟩:=r;exact⟨v,vs',e,by rw[hj i (cq _)];exact r1,nu.shift ks (i+1) (fun j h=>hj j (by omega)) r2⟩
 | .cO t _ m::ks,i,_,_,hj,r=>by
  obtain⟨v,vs',e,r1,r2⟩:=r;exact⟨v,vs',e,by rw[hj i (cq _)];exact r1,nu.shift ks (i+1) (fun j h=>hj j (by omega)) r2⟩
 | .val _::ks,i,_,_,hj,r=>by obtain⟨v,vs',e,r2⟩:=r;exact⟨v,vs',e,nu.shift ks (i+1) (fun j h=>hj j (by omega)) r2⟩
 | .own _ _::ks,i,_,_,hj,r=>by obtain⟨v,vs',e,r2⟩:=r;exact⟨v,vs',e,nu.shift ks (i+1) (fun j h=>hj j (by omega)) r2⟩
 | .cm _::ks,i,_,_,hj,r=>by obtain⟨v,vs',e,r2⟩:=r;exact⟨v,vs',e,nu.shift ks (i+1) (fun j h=>hj j (by omega)) r2⟩
 | .fn::ks,i,_,_,hj,r=>by obtain⟨v,vs',e,r2⟩:=r;exact⟨v,vs',e,nu.shift ks (i+1) (fun j h=>hj j (by omega)) r2⟩
structure V4 (h:Array Obj) (g:aA) (tmps:Array Value) (H:BS) (ks:List PK) (i:Nat) (o:dG ks) (vs:List Value) (g':aA) (H':BS) (Os:Nat->BS):Prop where
 st:∃S',aE h S' g' tmps H'
 same:g'.cR g
 pr:Sub g.Pr g'.Pr
 rel:nu h g'.Pr Os i ks o vs
 nil:∀j,j<i->Os j=Nil
 sub:∀j,Sub (Os j) H'
 dY:∀j k,j≠k->cB (Os j) (Os k)
 pP:∀j,cB (Os j) H
 hand:Sub H H'
theorem abT{i j:Nat}{k:PK}{ks:List PK}(h:j∈vO (i+1) ks):j∈vO i (k::ks):=by cases k<;>simp only[vO,bh]<;>first | exact h | exact .inr h
theorem Jz{Hh:Hints}{h:Array Obj}{tmps:Array Value}:∀(ks:List PK)(i:Nat)(vs:List Value)(S:St)(g:aA)(H:BS)(o:dG ks),aE h S g tmps H->outs Hh i ks S=some o->
  (∀k v,vs[k]? = some v->i+k∈vO i ks->tmps.getD (i+k) Go.undef=v)->vs.length=ks.length->fU g.hd i ks vs->∃g' H' Os,V4 h g tmps H ks i o vs g' H' Os
 | [],i,vs,S,g,H,o,st,ho,hv,hl,hm=>by
  refine⟨g,H,fun _=>Nil,⟨S,st⟩,.refl g,Sub.refl _,lD.1 hl,fun _ _=>rfl,fun _=>Sub.nil _,fun _ _ _=>cB.nil _,fun _=>cB.nil _,Sub.refl _⟩
 | k::ks,i,[],S,g,H,o,st,ho,hv,hl,hm=>by simp at hl
 | k::ks,i,v::vs,S,g,H,o,st,ho,hv,hl,hm=>by
  have Ao:∀k v,vs[k]? = some v->i+1+k∈vO (i+1) ks->tmps.getD (i+1+k) Go.undef=v:=by intro k u hk hm;have:=hv (k+1) u (by simpa using hk) (by rw[show i+(k+1)=i+1+k by omega];exact abT hm);rw[<-this];congr 1;omega
  have hl':vs.length=ks.length:=by simpa using hl
  -- one alQ comes back
  have back:∀(t:Ty)(x:t.den)(oo:dG ks)(S1:St)(g1:aA)(F:BS)(rel:BS->BS->Prop),aE h S1 g1 tmps (Un H F)->(∀Pr,Sub g1.Pr Pr->rel Pr F)->cB F H->g1.cR g->Sub g.Pr g1.Pr->
    outs Hh (i+1) ks S1=some oo->fU g.hd (i+1) ks vs->
    ∃g' H' Os,(∃S',aE h S' g' tmps H')/\g'.cR g/\Sub g.Pr g'.Pr/\rel g'.Pr (Os i)/\nu h g'.Pr Os (i+1) ks oo vs/\(∀j,j<i->Os j=Nil)/\(∀j,Sub (Os j) H')/\
     (∀j k,j≠k->cB (Os j) (Os k))/\(∀j,cB (Os j) H)/\Sub H H':=by
   intro t x oo S1 g1 F rel s1 Xk hd iI hp ho hm;obtain⟨g',H',Os,q⟩:=Jz ks (i+1) vs S1 g1 _ oo s1 ho Ao hl' (by rw[iI.1];exact hm);refine⟨g',H',fun j=>if j=i then F else Os j,q.st,iI.trans q.same,hp.trans q.pr,?_,?_,?_,?_,?_,?_,fun z hz=>q.hand z (.inl hz)⟩
   .show rel g'.Pr (if i=i then F else Os i);rw[aj rfl];exact Xk _ q.pr
   .exact nu.shift ks (i+1) (fun j hj=>by show(if j=i then F else Os j)=Os j;rw[af (by omega)]) q.rel
   .intro j hj;show(if j=i then F else Os j)=Nil;rw[af (by omega)];exact q.nil j (by omega)
   .intro j z hz;split at hz
    .exact q.hand z (.inr hz)
    .exact q.sub j z hz
   .intro j k oy z h1 h2;split at h1<;>split at h2
    .omega
    .exact q.pP k z h2 (.inr h1)
    .exact q.pP j z h1 (.inr h2)
    .exact q.dY j k oy z h1 h2
   .intro j z h1 h2;split at h1
    .exact hd z h1 h2
    .exact q.pP j z h1 (.inl h2)
  cases k with
  | val t=>obtain⟨g',H',Os,q⟩:=Jz ks (i+1) vs S g H o st (by simpa only [outs] using ho) Ao hl' (by simpa only [fU] using hm);exact⟨g',H',Os,q.st,q.same,q.pr,⟨v,vs,rfl,q.rel⟩,fun j hj=>q.nil j (by omega),q.sub,q.dY,q.pP,q.hand⟩
  | own t m=>obtain⟨g',H',Os,q⟩:=Jz ks (i+1) vs S g H o st (by simpa only [outs] using ho) Ao hl' (by simpa only [fU] using hm);exact⟨g',H',Os,q.st,q.same,q.pr,⟨v,vs,rfl,q.rel⟩,fun j hj=>q.nil j (by omega),q.sub,q.dY,q.pP,q.hand⟩
  | cm t=>obtain⟨g',H',Os,q⟩:=Jz ks (i+1) vs S g H o st (by simpa only [outs] using ho) Ao hl' (by simpa only [fU] using hm);exact⟨g',H',Os,q.st,q.same,q.pr,⟨v,vs,rfl,q.rel⟩,fun j hj=>q.nil j (by omega),q.sub,q.dY,q.pP,q.hand⟩
  | fn=>obtain⟨g',H',Os,q⟩:=Jz ks (i+1) vs S g H o st (by simpa only [outs] using ho) Ao hl' (by simpa only [fU] using hm);exact⟨g',H',Os,q.st,q.same,q.pr,⟨v,vs,rfl,q.rel⟩,fun j hj=>q.nil j (by omega),q.sub,q.dY,q.pP,q.hand⟩
  | cC t m0 m'=>
   simp only[outs]at ho;split at ho
   .rename_i qq s_;split at ho
    .rename_i R hR;split at ho
     .rename_i hs;simp only[cL,aK]at ho;obtain⟨x,hc,oo,ho,rfl⟩:=ho;have Xz:tmps.getD i Go.undef=v:=by have:=hv 0 v rfl (by simp[vO]);simpa using this
      have rH:=st.slots i;rw[s_,Xz]at rH;obtain⟨g1,F,p1,p2,p3,p4,p5⟩:=MC st hR hs.1 hs.2 hc rH;obtain⟨g',H',Os,k1,k2,k3,k4,k5,k6⟩:=back t x oo _ g1 F (fun Pr F=>vX h Pr t m' x v F) p1 (fun Pr hp=>p2.mono hp) p3 p4 p5 ho (by simpa only [fU] using hm);exact⟨g',H',Os,k1,k2,k3,⟨v,vs,rfl,k4,k5⟩,k6.1,k6.2.1,k6.2.2.1,k6.2.2.2.1,k6.2.2.2.2⟩
     .simp at ho
    .simp at ho
   .simp at ho
  | cO t m0 m'=>
   simp only[outs]at ho;split at ho
   .rename_i R hR;split at ho
    .rename_i hs;simp only[cL,aK]at ho;obtain⟨x,hc,oo,ho,rfl⟩:=ho;simp only[fU]at hm;obtain⟨⟨ev,hh⟩,hm⟩:=hm;obtain⟨g1,F,p1,p2,p3,p4,p5⟩:=akA st hR hs.1 hc;have hcell:g.C ((Hh.outs.lookup i).getD i)=hdc g.hd (1048576+64 * i) t.width:=by obtain⟨F0,r1,_⟩:=st.roots _ R hR;have ht:=st.tag _ R hR;obtain⟨e,_⟩:=Dp hc;have hw:=az.width _ r1;rw[e]at ht hw;exact GI t m0 _ _ _ hh (by omega) hs.2 ht hw
     rw[hcell,<-ev]at p2;obtain⟨g',H',Os,k1,k2,k3,k4,k5,k6⟩:=back t x oo _ g1 F (fun Pr F=>pJ h Pr t m' x v F) p1 (fun Pr hp=>p2.mono hp) p3 p4 p5 ho hm;exact⟨g',H',Os,k1,k2,k3,⟨v,vs,rfl,k4,k5⟩,k6.1,k6.2.1,k6.2.2.1,k6.2.2.2.1,k6.2.2.2.2⟩
    .simp at ho
   .simp at ho
end
theorem GL(r:Nat):∀(t:Ty)(m:Mk)(x:t.den)(p:Path),∀q∈(cW r t m x p).roots,q=r
 | .unit,_,_,_,q,h=>by simp[cW,AV.roots]at h
 | .int _,_,_,_,q,h=>by simp[cW,AV.roots]at h
 | .bool,_,_,_,q,h=>by simp[cW,AV.roots]at h
 | .str,_,_,_,q,h=>by simp[cW,AV.roots]at h
 | .pair a b,m,x,p,q,h=>by
  unfold cW at h;split at h
  .simp[AV.roots]at h
  .simp only[AV.roots,bN]at h;rcases h with h | h
   .exact GL r a _ _ _ q h
   .exact GL r b _ _ _ q h
 | .sl t,m,x,p,q,h=>by cases m<;>simp[cW,AV.roots]at h;exact h
theorem abm{tmps:Array Value}{i:Nat}{v:Value}(h:tmps.getD i Go.undef=v):tmps.setIfInBounds i v=tmps:=by
 apply Array.ext_getElem?;intro j;rw[FN];by_cases e:i=j
 .subst e;rw[aj rfl];by_cases hl:i<tmps.size
  .rw[aj hl];simp only[pg,vA hl,uD]at h;rw[vA hl,h]
  .rw[af hl,FV (by omega)]
 .rw[af e]
theorem RH{h:Array Obj}{tmps:Array Value}{Pr:BS}{Fs:Nat->BS}(oQ:∀i j,i≠j->cB (Fs i) (Fs j)):∀(ks:List PK)(i:Nat)(a:ga ks)(vs:List Value)(S:St)(g:aA)(H:BS),aE h S g tmps H->
  yR h Pr Fs i ks a vs->g.Pr=Pr->(∀k v,vs[k]? = some v->tmps.getD (i+k) Go.undef=v)->(∀u r,r∈(S.get u).roots->r<i)->ks.all PK.f5=true->(∀j,i<=j->Sub (Fs j) H)->
  i+ks.length<=tmps.size->fU g.hd i ks vs->∃g' H',aE h (enter S i ks a) g' tmps H'/\g'.Pr=Pr/\g'.cR g
 | [],i,a,vs,S,g,H,st,hps,gW,hv,hb,hok,hH,hl,hm=>⟨g,H,st,gW,.refl g⟩
 | k::ks,i,a,vs,S,g,H,st,hps,gW,hv,hb,hok,hH,hl,hm=>by
  obtain⟨v,vs',rfl,r1,r2⟩:=hps;simp only[gT,bI]at hok;simp only[ct]at hl;have Ao:∀k v,vs'[k]? = some v->tmps.getD (i+1+k) Go.undef=v:=by intro k u hk;have:=hv (k+1) u (by simpa using hk);rw[<-this];congr 1;omega
  have Xz:tmps.getD i Go.undef=v:=by have:=hv 0 v rfl;simpa using this
  have KI:i<S.rt.length:=by rw[st.gw];omega
  -- yZ slot,and on
  have go:∀(S1:St)(g1:aA)(H1:BS)(av:AV),aE h S1 g1 tmps H1->g1.Pr=Pr->g1.cR g->qe h S1 g1 av v->(∀r∈av.roots,r=i)->(∀u r,r∈(S1.get u).roots->r<i)->
    (∀j,i+1<=j->Sub (Fs j) H1)->fU g.hd (i+1) ks vs'->∃g' H',aE h (enter (S1.set i av) (i+1) ks a.2) g' tmps H'/\g'.Pr=Pr/\g'.cR g:=by
   intro S1 g1 H1 av s1 Uq s9 rH hr bP tV WV;have s2:=s1.tM i rH;rw[abm Xz]at s2;obtain⟨g',H',k1,k2,k3⟩:=RH oQ ks (i+1) a.2 vs' (S1.set i av) g1 H1 s2 r2 Uq Ao (by
    intro u r hr';rw[St.gr]at hr';split at hr'
    .have:=hr r hr';omega
    .have:=bP u r hr';omega) hok.2 tV (by omega) (by rw[s9.1];exact WV)
   exact⟨g',H',k1,k2,s9.trans k3⟩
  -- a root,yZ slot,and on
  have root:∀(t:Ty)(m:Mk)(x:t.den)(c:List Value),t.nz=true->az h Pr t m x c (Fs i)->v=dK t c->aM g.hd t m c->fU g.hd (i+1) ks vs'->
    ∃g' H',aE h (enter ((S.aI i (some ⟨t,m,x,false⟩)).set i (cW i t m x [])) (i+1) ks a.2) g' tmps H'/\g'.Pr=Pr/\g'.cR g:=by
   intro t m x c hz rep ev nc WV;obtain⟨g1,s1,p1,p2,p3,p4,_⟩:=st.kS KI (by rw[gW];exact rep) nc (hH i (cq _)) none (fun b hb=>by simp at hb) (fun u=>.inl (by
    cases hc:(S.get u).roots.contains i with
    | false=>rfl
    | true=>have:=hb u i (by simpa using hc);omega))
   have bK:(S.aI i (some ⟨t,m,x,false⟩)).root i=some ⟨t,m,x,false⟩:=by rw[St.b6];simp[KI]
   have d8:cr h t c (g1.base i) []=some (g1.base i,c):=by cases t<;>rfl
   refine go _ g1 _ _ s1 (p1.trans gW) p2 ?_ (GL i t m x []) (fun u r hr=>hb u r hr) ?_ WV
   .rw[ev];have jP:az h g1.Pr t m x c (Fs i):=by rw[p1,gW];exact rep
    refine dg.rel jP (ER bK t m x [] (g1.base i) c (Fs i) (by simp only[focus]) (by simp only[bu]) ?_ jP) (Ty.kT hz);rw[p3];exact d8
   .intro j hj b hb';exact⟨hH j (by omega) b hb',fun h2=>oQ j i (by omega) b hb' h2,by simp⟩
  cases k with
  | val t=>simp only[enter];refine go S g H _ st gW (.refl g) ?_ (by simp[AV.roots]) hb (fun j hj=>hH j (by omega)) (by simpa only [fU] using hm);obtain⟨c,rep,e⟩:=r1;simp only[qe];exact⟨c,by rw[gW];exact rep,e⟩
  | cm t=>simp only[enter];refine go S g H _ st gW (.refl g) ?_ (by simp[AV.roots]) hb (fun j hj=>hH j (by omega)) (by simpa only [fU] using hm);simp only[qe];obtain⟨b,o,cs,e1,e2,e3⟩:=r1;exact⟨b,o,cs,e1,by rw[gW];exact e2,by rw[gW];exact e3⟩
  | fn=>
   simp only[enter];refine go S g H _ st gW (.refl g) ?_ (by simp[AV.roots]) hb (fun j hj=>hH j (by omega)) (by simpa only [fU] using hm);obtain⟨us,e,hc⟩:=r1;simp only[qe];refine⟨us,e,?_⟩;have:∀(l:List bL)(us:List Value),nR h (PG Pr) l us->nR h g l us:=by
    intro l
    induction l with
    | nil=>intro us h;exact h
    | cons x l ih=>
     intro us hh;simp only[nR]at hh⊢;obtain⟨u,us',e,h1,h2⟩:=hh;refine⟨u,us',e,?_,ih us' h2⟩;cases x with
     | val t y=>simp only[sg]at h1⊢;rw[gW];exact h1
     | cm t y=>simp only[sg]at h1⊢;obtain⟨b,o,cs,e1,e2,e3⟩:=h1;exact⟨b,o,cs,e1,by rw[gW];exact e2,by rw[gW];exact e3⟩
   exact this _ us hc
  | own t m=>simp only[enter];simp only[PK.f5,bI]at hok;obtain⟨c,rep,e⟩:=r1;exact root t m a.1 c hok.1.1 rep e (aM.ax t hok.1.2) (by simpa only [fU] using hm)
  | cO t m m'=>
   simp only[enter];simp only[PK.f5,bI]at hok;simp only[fU]at hm;obtain⟨c,rep,e⟩:=r1;have hc:c=hdc g.hd (1048576+64 * i) t.width:=by
    have e2:=e.symm.trans hm.1.1;have h1:=Ck rep;rw[e2]at h1;rw[<-h1];have:∀(t:Ty)(m:Mk)(l:List Value),t.nz=true->fh t m=true->l.length=t.width->(dK t l).cells.toList=l\/∃y,t=.sl y:=by
     intro t m l hz hh hl;cases t with
     | pair a b=>left;simp[dK,Ty.agg,Value.cells]
     | sl y=>exact .inr ⟨y,rfl⟩
     | unit=>simp[Ty.nz]at hz
     | _=>cases m<;>simp[fh]at hh
    rcases this t m _ hok.1.1 hm.1.2 (xJ g.hd (1048576+64 * i) t.width) with h2 | ⟨y,rfl⟩
    .exact h2
    .obtain⟨aa,n,k,Xn⟩:=az.slice rep;have e3:=e2;simp only[dK,Ty.agg,fe,dV,Ty.width,hdc,List.range_one,cv,fZ,sw]at e3⊢;rw[Xn]at e3;simp only[sw]at e3;rw[<-e3];simp[Value.cells]
   refine root t (BL i m) a.1 c hok.1.1 (Ia t m _ hm.1.2 rep) e ?_ hm.2;rw[hc];exact HG t m _ hm.1.2 hok.1.2.1
  | cC t m m'=>
   simp only[enter];simp only[PK.f5]at hok;obtain⟨b,c,F0,e,rep,ho,bP,hs0,hn0⟩:=r1;obtain⟨g1,s1,p1,p2,p3,p4,_⟩:=st.kS KI (by rw[gW];exact rep) (aM.ax t hok.1) (fun z hz=>hH i (cq _) z (hs0 z hz)) (some b)
    (fun b' hb'=>by simp only[aK]at hb';subst hb';exact⟨hH i (cq _) b bP,hn0,ho⟩) (fun u=>.inl (by
    cases hc:(S.get u).roots.contains i with
    | false=>rfl
    | true=>have:=hb u i (by simpa using hc);omega))
   have bK:(S.aI i (some ⟨t,m,a.1,true⟩)).root i=some ⟨t,m,a.1,true⟩:=by rw[St.b6];simp[KI]
   refine go _ g1 _ _ s1 (p1.trans gW) p2 ?_ (by simp[AV.roots]) (fun u r hr=>hb u r hr) ?_ (by simpa only [fU] using hm)
   .simp only[qe];intro R hR d hf;have vE:R=⟨t,m,a.1,true⟩:=by have ck:(S.aI i (some ⟨t,m,a.1,true⟩)).root i=some R:=hR;rw[bK]at ck;simp only[aK]at ck;exact ck.symm
    subst vE;refine⟨by simp only[bu],b,0,c,?_,e⟩;have d8:cr h t c (g1.base i) []=some (g1.base i,c):=by cases t<;>rfl
    rw[p3,d8];simp[aA.base,p4]
   .intro j hj z hz;refine⟨hH j (by omega) z hz,fun h2=>oQ j i (by omega) z hz (hs0 z h2),?_⟩;intro h2;simp only[aK]at h2;subst h2;exact oQ j i (by omega) _ hz bP
theorem yR.len{h:Array Obj}{Pr:BS}{Fs:Nat->BS}:∀(ks:List PK)(i:Nat){a:ga ks}{vs:List Value},yR h Pr Fs i ks a vs->vs.length=ks.length
 | [],_,_,_,r=>by rw[show _=[] from r];rfl
 | k::ks,i,_,_,r=>by
  obtain⟨v,vs',rfl,_,r2⟩:=r;simp[yR.len ks (i+1) r2]
theorem NQ{h:Array Obj}{Pr:BS}{Fs:Nat->BS}(us:List Value):∀(ks:List PK)(i:Nat)(a:ga ks)(vs:List Value),yR h Pr Fs i ks a vs->ks.all PK.f5=true->(∀k,vs[k]? = us[i+k]?)->
  fU (fun s=>((us.getD ((s-1048576) / 64) Go.undef).cells).getD ((s-1048576) % 64) Go.undef) i ks vs
 | [],_,_,_,_,_,_=>by simp only[fU]
 | k::ks,i,a,vs,r,hok,hu=>by
  obtain⟨v,vs',rfl,r1,r2⟩:=r;simp only[gT,bI]at hok;have ih:=NQ us ks (i+1) a.2 vs' r2 hok.2 (fun k=>by have:=hu (k+1);rw[show i+1+k=i+(k+1) by omega,<-this];simp);cases k with
  | cO t m m'=>
   simp only[fU];refine⟨⟨?_,?_⟩,ih⟩
   .simp only[PK.f5,bI]at hok;obtain⟨c,rep,e⟩:=r1;have hw:=az.width t rep;have h64:=rC hok.1.2.2.2;have fV:=Ck rep;rw[<-e]at fV;have hui:us.getD i Go.undef=v:=by have:=hu 0;simp only[qQ,FT]at this;simp only[List.getD,<-this,uD]
    have:hdc (fun s=>((us.getD ((s-1048576) / 64) Go.undef).cells).getD ((s-1048576) % 64) Go.undef) (1048576+64 * i) t.width=c:=by
     apply B9 (by rw[xJ,hw]);intro k h1 h2;rw[xJ]at h1;simp only[hdc,yg,List.getElem_range];rw[show(1048576+64 * i+k-1048576) / 64=i by omega,show(1048576+64 * i+k-1048576) % 64=k by omega,hui];have hk:k<v.cells.size:=by rw[<-iN,fV];omega
     simp only[pg,vA hk,uD];rw[<-Array.getElem_toList];simp only[fV]
    rw[this];exact e
   .simp only[PK.f5,bI]at hok;exact hok.1.2.2.1
  | _=>simpa only [fU] using ih
theorem lp.mono{h:Array Obj}{Pr gb:BS}{Gs:Nat->BS}(hp:Sub Pr gb):∀(ks:List RK)(i:Nat){a:f7 ks}{us:List Value},lp h Pr Gs i ks a us->lp h gb Gs i ks a us
 | [],_,_,_,r=>r
 | k::ks,i,_,_,r=>by
  obtain⟨v,vs',e,r1,r2⟩:=r;exact⟨v,vs',e,r1.mono hp,lp.mono hp ks (i+1) r2⟩
section
variable {P:Program} {C:Ctx} {D:Den C} (bn:iA P C) (dy:oh P C D) (j4:P.follows .mixedOrders=true)
include bn dy j4
theorem akx{f:FuncId}{fn:Func}{n:Nat}{Hh:Hints}{ks:List PK}{rs:List RK}{a:ga ks}{r:f7 rs×dG ks}(hf:P.funcs[f]? = some fn)(h:vp C D n fn Hh ks rs a=some r)
    {w:World} {Pr:BS} {Fs:Nat->BS} {vs:List Value} (pre:Pre w.heap Pr Fs ks a vs) :
    Calls P f vs.toArray w fun e w'=>∃val fO Gs Os us,e=.returned val/\T5 w w' Pr Fs ks rs r.1 r.2 vs val fO Gs Os us:=by
  unfold vp at h;split at h
  . simp at h
  . rename_i c hb
    split at h
    . rename_i wI
      simp only[bI]at wI;obtain⟨hok,hle,hcf⟩:=wI;have hle:=rC hle;have hlen:=yR.len ks 0 pre.rel;refine calls_of_wp hf hb ?_;have WZ:=NQ vs ks 0 a vs pre.rel hok (fun k=>by simp);generalize hhd:(fun s=>((vs.getD ((s-1048576) / 64) Go.undef).cells).getD ((s-1048576) % 64) Go.undef)=hd at WZ
      let g0:aA:=⟨Pr,fun _=>[],fun _=>none,fun _=>Nil,hd,tP w.heap.size Fs,Pr⟩
      generalize Jd:vs.toArray++Array.replicate (fn.ntmps-vs.toArray.size) Go.undef=tmps;have hsz:tmps.size=fn.ntmps:=by rw[<-Jd];simp;omega
      have iS:∀k v,vs[k]? = some v->tmps.getD k Go.undef=v:=by intro k v hk;have hkl:k<vs.length:=(Sw.1 hk).1;rw[<-Jd];simp only[pg];rw[Array.getElem?_append_left (by simpa using hkl)];simp[hk]
      have bK:∀q,(⟨List.replicate fn.ntmps .undef,List.replicate fn.ntmps none⟩:St).root q=none:=by intro q;simp only[aO.ia,List.getD,vB];split<;>rfl
      have s_:∀t,(⟨List.replicate fn.ntmps .undef,List.replicate fn.ntmps none⟩:St).get t=.undef:=by intro t;simp only[St.get_eq,List.getD,vB];split<;>rfl
      have st0:aE w.heap ⟨List.replicate fn.ntmps .undef,List.replicate fn.ntmps none⟩ g0 tmps (fun b=>∃i,Fs i b):=by
        refine { len:=by simp[hsz],gw:=by simp[hsz],slots:=fun t=>by rw[s_];simp only[qe],roots:=fun q R hR=>?_,dY:=fun q q' _ h1 _=>?_,eg:=fun q h1=>?_,hand:=fun q h1=>?_,bM:=?_,bQ:=pre.bQ,
                 cg:=fun q b h1 _=>?_,ef:=?_,tag:=fun q R hR=>?_,own:=fun q b h1 _=>?_,e_:=fun b hb=>.inr hb,fW:=fun b hb=>.inl hb,p0:=Sub.refl _,kX:=fun b hb=>.inl hb }
        . rw[bK]at hR;simp at hR
        . rw[bK]at h1;simp at h1
        . rw[bK]at h1;simp at h1
        . rw[bK]at h1;simp at h1
        . rintro b ⟨i,hb⟩ hp;exact pre.eg i b hb hp
        . rw[bK]at h1;simp at h1
        . rintro b ⟨i,hb⟩;exact pre.lim i b hb
        . rw[bK]at hR;simp at hR
        . rw[bK]at h1;simp at h1
      obtain⟨g1,H1,DH,al5,Li⟩:=RH pre.dY ks 0 a vs _ g0 _ st0 pre.rel rfl (fun k v hk=>by simpa using iS k v hk) (fun u q hq=>by rw[s_]at hq;simp[AV.roots]at hq) hok
        (fun j _ b hb=>⟨j,hb⟩) (by rw[hsz];omega) WZ
      refine EV (np:=vO 0 ks) (H:=Hh) bn dy j4 c n _ _ hcf h _ g1 ⟨tmps,[]⟩ w (DH.bB (Sub.nil _)) rfl ?_;intro e S' g' a' w' hk st' iI hfr hdf ox;have fin:((vZ C rs fn.results.toList S').bind fun r=>(outs Hh 0 ks r.2).bind fun o=>some (r.1,o))=some r->∃v,(results fn a'.tmps).run P w'=.ok v w'/\
          ∃val fO Gs Os us,Ending.returned v=.returned val/\T5 w w' Pr Fs ks rs r.1 r.2 vs val fO Gs Os us:=by
        intro hk;simp only[cL,aK]at hk;obtain⟨⟨rr,S2⟩,hg,o,ho,rfl⟩:=hk;obtain⟨us,g2,H2,Gs,k1,k2,k3,k4,k5,k6,k7,k8,k9,jo⟩:=QN bn rs _ S' g' Nil 0 rr S2 st' hg;have qA:=(Li.trans iI).trans k3;obtain⟨g3,H3,Os,q⟩:=Jz (Hh:=Hh) ks 0 vs S2 g2 H2 o k2 ho (fun k v hk hmem=>by
          rw[kz]at hmem;rw[kz,ox k hmem];exact iS k v hk) hlen (by rw[qA.1];exact WZ)
        obtain⟨S3,rR⟩:=q.st;have Lj:=qA.trans q.same;have hL:g3.L=tP w.heap.size Fs:=Lj.2.1;have hP0:g3.P0=Pr:=Lj.2.2;have hL1:g1.L=tP w.heap.size Fs:=Li.2.1;refine⟨tF us,abk k1,tF us,g3.Pr,Gs,Os,us,rfl,?_⟩
        exact {
          res:=lp.mono q.pr rs 0 k5
          val:=rfl
          out:=q.rel
          pr:=by rw[<-hP0];exact rR.p0
          kX:=fun b hb=>by have:=rR.kX b hb;rw[hP0,hL]at this;exact this
          gL:=fun i b hb=>by rw[<-hL];exact rR.e_ b (q.hand b (k7 i b hb))
          oL:=fun i b hb=>by rw[<-hL];exact rR.e_ b (q.sub i b hb)
          z7:=k8
          XK:=q.dY
          go:=fun i j b h1 h2=>q.pP j b h2 (k7 i b h1)
          gp:=fun i b h1 h2=>rR.bM b (q.hand b (k7 i b h1)) h2
          op:=fun i b h1 h2=>rR.bM b (q.sub i b h1) h2
          wE:=fun i b h1=>rR.ef b (q.hand b (k7 i b h1))
          Av:=fun i b h1=>rR.ef b (q.sub i b h1)
          Ay:=rR.bQ
          fr:=by rw[<-hL1];exact hfr }
      cases e with
      | normal=>exact⟨hdf,fin hk⟩
      | ret=>exact⟨hdf,fin hk⟩
      | exit id=>simp at hk
    . simp at h
end
theorem NY{P:Program}{C:Ctx}(bn:iA P C)(j4:P.follows .mixedOrders=true){E:Den C}{mg:FuncId->Bool}(KG:∀f,mg f=true->DK P C E f)(CR:∀f a r,mg f=true->E f a=some r->Jm P f)
  (hnm:∀(f:FuncId)(fn:Func),P.funcs[f]? = some fn->fn.name≠ "runtime.NumGoroutine"):∀n,oh P C (Dn C E mg (fun g=>P.funcs[g]?) n)
 | 0=>⟨fun f a r h=>by simp[Dn]at h,fun f a r h=>by simp[Dn]at h⟩
 | n+1=>by
  have ih:=NY bn j4 KG CR hnm n;refine⟨fun f a r h=>?_,fun f a r h=>?_⟩
  .simp only[Dn]at h;by_cases he:mg f=true
   .rw[aj he]at h;exact KG f he a r h
   .rw[af he]at h;split at h
    .simp at h
    .rename_i fn hf;intro w Pr Fs vs pre;exact akx bn ih j4 hf h pre
  .simp only[Dn]at h;by_cases he:mg f=true
   .rw[aj he]at h;exact CR f a r he h
   .rw[af he]at h;split at h
    .simp at h
    .rename_i fn hf;refine⟨fn,hf,hnm f fn hf,?_⟩;unfold vp at h;split at h
     .simp at h
     .rename_i c hb;rw[hb];rfl
end Go.V
namespace Go.V
noncomputable section
open Go
def zv:Value->Value->Bool
 | .int k a,.int j b=>decide (k=j)&&decide (a=b)
 | .bool a,.bool b=>decide (a=b)
 | .string a,.string b=>Nat.beq a.size 0&&Nat.beq b.size 0
 | .slice none n k,.slice none n' k'=>Nat.beq n n'&&Nat.beq k k'
 | _,_=>false
def Kb:List Value->List Value->Bool
 | [],[]=>true
 | a::l,b::l'=>zv a b&&Kb l l'
 | _,_=>false
def I5:Value->Value->Bool
 | .agg a,.agg b=>Kb a.toList b.toList
 | a,b=>zv a b
theorem QY{a:ByteArray}(h:Nat.beq a.size 0=true):a=ByteArray.empty:=by have h:=mP h;obtain⟨⟨l⟩⟩:=a;have:l=[]:=lD.1 h;subst this;rfl
theorem NU:∀{a b:Value},zv a b=true->a=b:=by
 intro a b h;unfold zv at h;split at h
 .simp only[bI,gQ]at h;rw[h.1,h.2]
 .simp only[gQ]at h;rw[h]
 .simp only[bI]at h;rw[QY h.1,QY h.2]
 .simp only[bI]at h;rw[mP h.1,mP h.2]
 .simp at h
theorem NN:∀{l l':List Value},Kb l l'=true->l=l'
 | [],[],_=>rfl
 | a::l,b::l',h=>by
  simp only[Kb,bI]at h;rw[NU h.1,NN h.2]
 | [],_::_,h=>by simp[Kb]at h
 | _::_,[],h=>by simp[Kb]at h
theorem ald{a b:Value}(h:I5 a b=true):a=b:=by
 unfold I5 at h;split at h
 .rename_i x y;have:=NN h;rw[yU this]
 .exact NU h
def JC(C:Ctx):List Field->Nat->Ty->Bool
 | [],_,.unit=>true
 | f::fs,off,.pair a b=>decide (a=C.ty f.type)&&(Nat.beq f.offset off&&((f.name != "_")&&(a.nz&&JC C fs (off+a.width) b)))
 | _,_,_=>false
theorem QD{C:Ctx}:∀(fs:List Field)(off:Nat)(T:Ty),JC C fs off T=true->mU C fs off T
 | [],off,T,h=>by
  cases T<;>simp[JC]at h;simp only[mU]
 | f::fs,off,T,h=>by
  cases T with
  | pair a b=>simp only[JC,bI,gQ,bne_iff_ne,ne_eq]at h;obtain⟨e,h1,h2,h3,h4⟩:=h;subst e;exact⟨b,rfl,mP h1,h2,h3,QD fs _ b h4⟩
  | _=>simp[JC]at h
def Ft(C:Ctx):TypeDesc->Ty->Bool
 | .int k,T=>decide (T=.int k)
 | .bool,T=>decide (T=.bool)
 | .string,T=>decide (T=.str)
 | .slice e,T=>decide (T=.sl (C.ty e))&&(C.ty e).nz
 | .struct fs,T=>JC C fs.toList 0 T&&T.nz
 | _,_=>false
theorem acQ{C:Ctx}{d:TypeDesc}{T:Ty}(h:Ft C d T=true):oI C d T:=by
 cases d<;>simp only[Ft,bI,gQ]at h<;>first
  | exact h
  | exact⟨QD _ _ _ h.1,Ty.kT h.2⟩
  | simp at h
def FL(P:Program)(C:Ctx)(t:TypeId):Bool:=
  if (C.ty t).nz then
    (match P.info? t with
     | some i=>Nat.beq i.size (C.ty t).width&&((match i.zero with | some z=>I5 z (dK (C.ty t) (zc (C.ty t))) | none=>false)&&Nat.ble i.bytes 255)
     | none=>false)&&
    (Nat.blt 0 (C.ty t).width&&((match P.underlying t with | some d=>Ft C d (C.ty t) | none=>false)&&(Nat.blt (C.ty t).deep 10000&&
      (!((C.ty t).agg&&(C.ty t).comp)||(!P.stoodInHeld t&&!P.eqGuardType P.depth t)))))
  else true
theorem adn{P:Program}{C:Ctx}{t:TypeId}(h:FL P C t=true)(hz:(C.ty t).nz=true):mC P C t:=by
 unfold FL at h;rw[aj hz]at h;simp only[bI]at h;obtain⟨h1,h2,h3,h4,h5⟩:=h;refine⟨?_,n6.1 h2,?_,n6.1 h4,?_⟩
 .split at h1
  .rename_i i hi;simp only[bI]at h1;obtain⟨k1,k2,k3⟩:=h1;split at k2
   .rename_i z XG;exact⟨i,hi,mP k1,by rw[XG,ald k2],rC k3⟩
   .simp at k2
  .simp at h1
 .split at h3
  .rename_i d hd;exact⟨d,hd,acQ h3⟩
  .simp at h3
 .intro ha hc;rw[ha,hc]at h5;simp only[Ge,cJ,sA,bI,kr]at h5;exact h5
theorem acv{P:Program}{C:Ctx}(n:Nat)(WW:∀t,Nat.ble t n=false->C.ty t=.unit)(h:(List.range (n+1)).all (FL P C)=true):iA P C:=by
 intro t hz;cases hb:Nat.ble t n with
 | false=>rw[WW t hb]at hz;simp[Ty.nz]at hz
 | true=>have:=rC hb;rw[qO]at h;exact adn (h t (yl.2 (by omega))) hz
theorem ac4 {P:Program} (h:P.funcs.toList.all (fun fn=>fn.name != "runtime.NumGoroutine")=true):∀(f:FuncId)(fn:Func),P.funcs[f]? = some fn->fn.name≠ "runtime.NumGoroutine" := by
 intro f fn hf;rw[qO]at h;have:=h fn (by rw[Fz];exact FY hf);simpa using this
end
open Go.V
abbrev fk:Mk:=Mk.own 0 Mk.no
abbrev ze:Ty:=Ty.int IntKind.u8
abbrev vz:Ty:=Ty.int IntKind.u64
abbrev ah:Ty:=Ty.int IntKind.i64
abbrev mF:Mk:=Mk.own 1048576 Mk.no
abbrev o_:Ty:=Ty.sl ze
abbrev qD:Mk:=Mk.own 0 fk
abbrev bG:Ty:=Ty.sl ah
abbrev iu:Mk:=Mk.pr fk Mk.no
abbrev oU:Mk:=Mk.pr Mk.no iu
abbrev lQ:Mk:=Mk.pr fk iu
abbrev sN:Ty:=Ty.pair ah (Ty.pair ah Ty.unit)
abbrev bR:Ty:=Ty.pair bG (Ty.pair ah Ty.unit)
abbrev iW:Ty:=Ty.sl sN
abbrev lC:Ty:=Ty.pair ah (Ty.pair bG Ty.unit)
abbrev At:Mk:=Mk.pr Mk.no (Mk.pr oU iu)
abbrev bU:Ty:=Ty.pair ah sN
abbrev jk:Ty:=Ty.pair o_ sN
abbrev bT:Ty:=Ty.sl bU
abbrev jQ:Ty:=Ty.sl bT
abbrev iM:Ty:=Ty.pair ah bU
abbrev rq:Ty:=Ty.sl iM
abbrev As:Mk:=Mk.pr lQ (Mk.pr fk (Mk.pr Mk.no lQ))
abbrev lP:Mk:=Mk.pr fk (Mk.pr (Mk.own 0 (Mk.pr Mk.no (Mk.pr Mk.no (Mk.pr fk (Mk.pr oU Mk.no))))) Mk.no)
abbrev se:Mk:=Mk.pr lQ (Mk.pr (Mk.own 0 (Mk.no)) (Mk.pr Mk.no (Mk.pr fk (Mk.pr fk (Mk.pr Mk.no Mk.no)))))
abbrev mN:Ty:=Ty.pair iW (Ty.pair bG (Ty.pair ah (Ty.pair Ty.bool Ty.unit)))
abbrev rm:Ty:=Ty.pair Ty.bool (Ty.pair lC (Ty.pair bT Ty.unit))
abbrev Lu:Mk:=Mk.pr lQ (Mk.pr (Mk.own 0 (Mk.pr Mk.no (Mk.pr Mk.no (Mk.pr Mk.no (Mk.pr fk (Mk.pr Mk.no Mk.no)))))) (Mk.pr Mk.no (Mk.pr fk (Mk.pr fk (Mk.pr Mk.no Mk.no)))))
abbrev wj:Ty:=Ty.pair ah (Ty.pair ah (Ty.pair bT (Ty.pair lC Ty.unit)))
abbrev CH:Ty:=Ty.sl wj
abbrev DI:Ty:=Ty.pair ah (Ty.pair bU (Ty.pair ah (Ty.pair ah (Ty.pair ah (Ty.pair lC Ty.unit)))))
abbrev zf:Ty:=Ty.sl DI
abbrev jX:Ty:=Ty.pair bT (Ty.pair ah (Ty.pair Ty.bool (Ty.pair iW (Ty.pair rq Ty.unit))))
abbrev V3:Ty:=Ty.sl jX
abbrev jW:Ty:=Ty.pair bT (Ty.pair CH Ty.unit)
abbrev Ji:Mk:=Mk.pr lQ (Mk.pr (Mk.own 0 (Mk.pr fk (Mk.pr Mk.no (Mk.pr Mk.no lQ)))) (Mk.pr Mk.no (Mk.pr (Mk.own 0 (Mk.pr Mk.no (Mk.pr Mk.no (Mk.pr Mk.no (Mk.pr Mk.no (Mk.pr Mk.no (Mk.pr oU Mk.no))))))) (Mk.pr fk (Mk.pr iu Mk.no)))))
abbrev tn:Mk:=Mk.pr lP (Mk.pr (Mk.own 0 (Mk.pr fk (Mk.pr Mk.no (Mk.pr Mk.no lQ)))) (Mk.pr Mk.no (Mk.pr (Mk.own 0 (Mk.pr Mk.no (Mk.pr Mk.no (Mk.pr Mk.no (Mk.pr Mk.no (Mk.pr Mk.no (Mk.pr oU Mk.no))))))) (Mk.pr fk (Mk.pr iu Mk.no)))))
abbrev cN:Ty:=Ty.pair jW (Ty.pair V3 (Ty.pair ah (Ty.pair zf (Ty.pair bG (Ty.pair bR Ty.unit)))))
end Go.V
namespace Go.V
open Go
noncomputable def FK:Nat:=237
noncomputable def alP(n:Nat):Ty:=cond (n.ble FK) (cond (n.ble 57) (cond (n.ble 27) (cond (n.ble 10) (cond (n.ble 4) (cond (n.ble 2) (cond (n.beq 2) ah Ty.unit) (cond (n.ble 3) (cond (n.beq 3) ah Ty.unit) (cond (n.beq 4) Ty.bool Ty.unit))) (cond (n.ble 6) (cond (n.ble 5) (cond (n.beq 5) ze Ty.unit) (cond (n.beq 6) ze Ty.unit)) (cond (n.ble 9) (cond (n.beq 9) Ty.str Ty.unit) (cond (n.beq 10) Ty.str Ty.unit)))) (cond (n.ble 22) (cond (n.ble 12) (cond (n.ble 11) (cond (n.beq 11) Ty.str Ty.unit) (cond (n.beq 12) vz Ty.unit)) (cond (n.ble 21) (cond (n.beq 21) (Ty.int IntKind.i32) Ty.unit) (cond (n.beq 22) o_ Ty.unit))) (cond (n.ble 25) (cond (n.ble 24) (cond (n.beq 24) bG Ty.unit) (cond (n.beq 25) bR Ty.unit)) (cond (n.ble 26) (cond (n.beq 26) bR Ty.unit) (cond (n.beq 27) jQ Ty.unit))))) (cond (n.ble 36) (cond (n.ble 32) (cond (n.ble 30) (cond (n.beq 30) bT Ty.unit) (cond (n.ble 31) (cond (n.beq 31) CH Ty.unit) (cond (n.beq 32) jW Ty.unit))) (cond (n.ble 34) (cond (n.ble 33) (cond (n.beq 33) jW Ty.unit) (cond (n.beq 34) V3 Ty.unit)) (cond (n.ble 35) (cond (n.beq 35) zf Ty.unit) (cond (n.beq 36) cN Ty.unit)))) (cond (n.ble 44) (cond (n.ble 42) (cond (n.ble 37) (cond (n.beq 37) cN Ty.unit) (cond (n.beq 42) bT Ty.unit)) (cond (n.ble 43) (cond (n.beq 43) iW Ty.unit) (cond (n.beq 44) rq Ty.unit))) (cond (n.ble 46) (cond (n.ble 45) (cond (n.beq 45) jX Ty.unit) (cond (n.beq 46) jX Ty.unit)) (cond (n.ble 56) (cond (n.beq 56) bU Ty.unit) (cond (n.beq 57) bU Ty.unit)))))) (cond (n.ble 138) (cond (n.ble 65) (cond (n.ble 60) (cond (n.ble 58) (cond (n.beq 58) lC Ty.unit) (cond (n.ble 59) (cond (n.beq 59) lC Ty.unit) (cond (n.beq 60) DI Ty.unit))) (cond (n.ble 63) (cond (n.ble 61) (cond (n.beq 61) DI Ty.unit) (cond (n.beq 63) bT Ty.unit)) (cond (n.ble 64) (cond (n.beq 64) wj Ty.unit) (cond (n.beq 65) wj Ty.unit)))) (cond (n.ble 112) (cond (n.ble 94) (cond (n.ble 93) (cond (n.beq 93) bU Ty.unit) (cond (n.beq 94) bU Ty.unit)) (cond (n.ble 111) (cond (n.beq 111) jk Ty.unit) (cond (n.beq 112) jk Ty.unit))) (cond (n.ble 123) (cond (n.ble 122) (cond (n.beq 122) bU Ty.unit) (cond (n.beq 123) bU Ty.unit)) (cond (n.ble 137) (cond (n.beq 137) sN Ty.unit) (cond (n.beq 138) sN Ty.unit))))) (cond (n.ble 178) (cond (n.ble 147) (cond (n.ble 141) (cond (n.beq 141) iM Ty.unit) (cond (n.ble 142) (cond (n.beq 142) iM Ty.unit) (cond (n.beq 147) vz Ty.unit))) (cond (n.ble 164) (cond (n.ble 163) (cond (n.beq 163) rm Ty.unit) (cond (n.beq 164) rm Ty.unit)) (cond (n.ble 177) (cond (n.beq 177) mN Ty.unit) (cond (n.beq 178) mN Ty.unit)))) (cond (n.ble 214) (cond (n.ble 206) (cond (n.ble 198) (cond (n.beq 198) ah Ty.unit) (cond (n.beq 206) (.int .u32) Ty.unit)) (cond (n.ble 208) (cond (n.beq 208) vz Ty.unit) (cond (n.beq 214) vz Ty.unit))) (cond (n.ble 233) (cond (n.ble 232) (cond (n.beq 232) ze Ty.unit) (cond (n.beq 233) ze Ty.unit)) (cond (n.ble 236) (cond (n.beq 236) (Ty.int IntKind.i32) Ty.unit) (cond (n.beq 237) (Ty.int IntKind.i32) Ty.unit))))))) Ty.unit
noncomputable def ak5(n:Nat):wz:=
 cond (n.ble 106) (cond (n.ble 58) (cond (n.ble 36) (cond (n.ble 18) (cond (n.ble 13) (cond (n.ble 3) (cond (n.ble 2) (⟨[],[]⟩) (⟨[.val o_],[.val Ty.bool (Mk.top Ty.bool)]⟩)) (cond (n.ble 11) (⟨[],[]⟩) (cond (n.ble 12) (⟨[.val o_],[.val Ty.bool (Mk.top Ty.bool)]⟩) (⟨[.val o_],[.val bR (Mk.no),.val jQ (Mk.no),.val bG (Mk.no)]⟩)))) (cond (n.ble 15) (cond (n.ble 14) (⟨[.val bR,.val jQ],[.val cN (Mk.no),.val Ty.bool (Mk.top Ty.bool)]⟩) (⟨[.val bR,.val jQ],[.val cN (Mk.top cN),.val Ty.bool (Mk.top Ty.bool)]⟩)) (cond (n.ble 16) (⟨[.val cN,.val bG],[.val cN (Mk.no)]⟩) (cond (n.ble 17) (⟨[.val jX],[.val Ty.bool (Mk.top Ty.bool)]⟩) (⟨[.val cN,.val ah,.val ah],[.val cN (Mk.no)]⟩))))) (cond (n.ble 28) (cond (n.ble 20) (cond (n.ble 19) (⟨[.val ah],[.val ah (Mk.top ah)]⟩) (⟨[.val cN],[.val Ty.bool (Mk.top Ty.bool)]⟩)) (cond (n.ble 22) (⟨[],[]⟩) (cond (n.ble 23) (⟨[.val bT,.val CH],[.val bG (Mk.top bG)]⟩) (⟨[],[]⟩)))) (cond (n.ble 33) (cond (n.ble 29) (⟨[.val DI,.val DI],[.val Ty.bool (Mk.top Ty.bool)]⟩) (cond (n.ble 30) (⟨[.val cN],[.val Ty.bool (Mk.top Ty.bool)]⟩) (⟨[],[]⟩))) (cond (n.ble 34) (⟨[.val bR,.val ah],[.val ah (Mk.top ah)]⟩) (cond (n.ble 35) (⟨[.val ah],[.val ah (Mk.top ah)]⟩) (⟨[],[]⟩)))))) (cond (n.ble 47) (cond (n.ble 41) (cond (n.ble 38) (cond (n.ble 37) (⟨[.val bR,.val ah],[.val ah (Mk.top ah)]⟩) (⟨[.val bR,.val bU,.val lC],[.val bR (Mk.top bR)]⟩)) (cond (n.ble 39) (⟨[.val cN],[.val bR (Mk.top bR),.val Ty.bool (Mk.top Ty.bool)]⟩) (cond (n.ble 40) (⟨[.val cN],[.val Ty.bool (Mk.top Ty.bool)]⟩) (⟨[],[]⟩)))) (cond (n.ble 44) (cond (n.ble 42) (⟨[.val cN],[.val Ty.bool (Mk.top Ty.bool)]⟩) (cond (n.ble 43) (⟨[],[]⟩) (⟨[.val o_],[.ptr jk (.no)]⟩))) (cond (n.ble 45) (⟨[.cC jk (.no) (.no)],[.val bR (Mk.top bR)]⟩) (cond (n.ble 46) (⟨[.cC jk (.no) (.no)],[.val jQ (Mk.top jQ)]⟩) (⟨[.cC jk (.no) (.no),.val ah],[.val ah (Mk.top ah)]⟩))))) (cond (n.ble 52) (cond (n.ble 49) (cond (n.ble 48) (⟨[.val o_,.val ah,.val ah],[.val ah (Mk.top ah)]⟩) (⟨[.val bR,.val ah],[.val jW lQ,.val Ty.bool (Mk.top Ty.bool)]⟩)) (cond (n.ble 50) (⟨[.val bR],[.val bR (Mk.top bR)]⟩) (cond (n.ble 51) (⟨[.val bT],[.val jX (Mk.top jX)]⟩) (⟨[.val bR,.val ah],[.val jW (Mk.top jW),.val Ty.bool (Mk.top Ty.bool)]⟩)))) (cond (n.ble 55) (cond (n.ble 53) (⟨[.val bR],[.val bR (Mk.top bR)]⟩) (cond (n.ble 54) (⟨[.val bT],[.val jX (Mk.top jX)]⟩) (⟨[.val cN],[.val Ty.bool (Mk.top Ty.bool)]⟩))) (cond (n.ble 56) (⟨[.val cN],[.val cN Lu]⟩) (cond (n.ble 57) (⟨[.val cN,.val ah],[.val cN (Mk.no),.val Ty.bool (Mk.top Ty.bool)]⟩) (⟨[.val ah,.val ah,.val ah],[.val Ty.bool (Mk.top Ty.bool)]⟩))))))) (cond (n.ble 81) (cond (n.ble 70) (cond (n.ble 64) (cond (n.ble 60) (cond (n.ble 59) (⟨[.val cN],[.val Ty.bool (Mk.top Ty.bool)]⟩) (⟨[.val bT,.val CH,.val ah],[.val ah (Mk.top ah)]⟩)) (cond (n.ble 62) (⟨[],[]⟩) (cond (n.ble 63) (⟨[.val jW],[.val Ty.bool (Mk.top Ty.bool)]⟩) (⟨[.val bT,.fn],[.val Ty.bool (Mk.top Ty.bool)]⟩)))) (cond (n.ble 67) (cond (n.ble 65) (⟨[],[]⟩) (cond (n.ble 66) (⟨[.val bR],[.val Ty.bool (Mk.top Ty.bool)]⟩) (⟨[.val bG,.val bG],[.val Ty.bool (Mk.top Ty.bool)]⟩))) (cond (n.ble 68) (⟨[.val bR],[.val bG (Mk.top bG)]⟩) (cond (n.ble 69) (⟨[.val bG],[.val bG (Mk.top bG)]⟩) (⟨[],[.val ah (Mk.top ah)]⟩))))) (cond (n.ble 75) (cond (n.ble 72) (cond (n.ble 71) (⟨[.val bR],[.val Ty.bool (Mk.top Ty.bool)]⟩) (⟨[],[]⟩)) (cond (n.ble 73) (⟨[.val ah],[.val ah (Mk.top ah)]⟩) (cond (n.ble 74) (⟨[.val bG,.val ah],[.val ah (Mk.top ah)]⟩) (⟨[.val Ty.bool,.val ah],[.val ah (Mk.top ah)]⟩)))) (cond (n.ble 78) (cond (n.ble 76) (⟨[.val ah],[.val Ty.bool (Mk.top Ty.bool)]⟩) (cond (n.ble 77) (⟨[.val ah],[.val ah (Mk.top ah)]⟩) (⟨[.val bR,.val bU,.val lC],[.val Ty.bool (Mk.top Ty.bool)]⟩))) (cond (n.ble 79) (⟨[.val DI,.val ah,.cm cN],[.val Ty.bool (Mk.top Ty.bool)]⟩) (cond (n.ble 80) (⟨[.val bU],[.val Ty.bool (Mk.top Ty.bool)]⟩) (⟨[.val jX,.val ah],[.val Ty.bool (Mk.top Ty.bool)]⟩)))))) (cond (n.ble 95) (cond (n.ble 89) (cond (n.ble 83) (cond (n.ble 82) (⟨[.val cN,.val ah],[.val Ty.bool (Mk.top Ty.bool)]⟩) (⟨[.val cN],[.val Ty.bool (Mk.top Ty.bool)]⟩)) (cond (n.ble 84) (⟨[],[]⟩) (cond (n.ble 85) (⟨[.val lC],[.val lC (Mk.top lC)]⟩) (⟨[],[]⟩)))) (cond (n.ble 92) (cond (n.ble 90) (⟨[],[.val bR (Mk.top bR)]⟩) (cond (n.ble 91) (⟨[.val bR,.val ah],[.val ah (Mk.top ah)]⟩) (⟨[.cC jk (.no) (.no),.val bG],[.val ah (Mk.top ah)]⟩))) (cond (n.ble 93) (⟨[.cC jk (.no) (.no)],[.val bU (Mk.top bU)]⟩) (cond (n.ble 94) (⟨[.cC jk (.no) (.no)],[.val ah (Mk.top ah)]⟩) (⟨[.val bT],[.val bT (Mk.top bT)]⟩))))) (cond (n.ble 100) (cond (n.ble 97) (cond (n.ble 96) (⟨[.val bR],[.val bG (Mk.top bG)]⟩) (⟨[.val ah,.val ah,.val ah],[.val Ty.bool (Mk.top Ty.bool)]⟩)) (cond (n.ble 98) (⟨[.val jW],[.val Ty.bool (Mk.top Ty.bool)]⟩) (cond (n.ble 99) (⟨[.val bR],[.val Ty.bool (Mk.top Ty.bool)]⟩) (⟨[.val cN],[.val Ty.bool (Mk.top Ty.bool)]⟩)))) (cond (n.ble 103) (cond (n.ble 101) (⟨[.val jX,.val ah],[.val Ty.bool (Mk.top Ty.bool)]⟩) (cond (n.ble 102) (⟨[.val cN,.val ah],[.val Ty.bool (Mk.top Ty.bool)]⟩) (⟨[.val jW],[.val jW lQ]⟩))) (cond (n.ble 104) (⟨[.val jX],[.val jX (Mk.top jX)]⟩) (cond (n.ble 105) (⟨[.cC cN se se,.val ah],[]⟩) (⟨[.cC cN Lu se,.val ah],[.val Ty.bool (Mk.top Ty.bool)]⟩)))))))) (cond (n.ble 161) (cond (n.ble 136) (cond (n.ble 117) (cond (n.ble 112) (cond (n.ble 108) (cond (n.ble 107) (⟨[.val wj,.val ah],[.val bU (Mk.top bU),.val Ty.bool (Mk.top Ty.bool)]⟩) (⟨[],[]⟩)) (cond (n.ble 109) (⟨[.val CH,.fn],[.val Ty.bool (Mk.top Ty.bool)]⟩) (cond (n.ble 111) (⟨[.val wj],[.val Ty.bool (Mk.top Ty.bool)]⟩) (⟨[.val bU,.val ah],[.val Ty.bool (Mk.top Ty.bool)]⟩)))) (cond (n.ble 114) (cond (n.ble 113) (⟨[.val bT,.fn],[.val ah (Mk.top ah)]⟩) (⟨[.val bG,.val ah],[.val Ty.bool (Mk.top Ty.bool)]⟩)) (cond (n.ble 115) (⟨[.val ah],[.val ah (Mk.top ah)]⟩) (cond (n.ble 116) (⟨[.val bR,.val bU,.val ah],[.val Ty.bool (Mk.top Ty.bool)]⟩) (⟨[.val bR,.val bU],[.val bG (Mk.no),.val Ty.bool (Mk.top Ty.bool)]⟩))))) (cond (n.ble 123) (cond (n.ble 120) (cond (n.ble 119) (⟨[.val ah],[.val Ty.bool (Mk.top Ty.bool)]⟩) (⟨[.val bT,.fn],[.val Ty.bool (Mk.top Ty.bool)]⟩)) (cond (n.ble 121) (⟨[.val bU],[.val Ty.bool (Mk.top Ty.bool)]⟩) (cond (n.ble 122) (⟨[.val iW,.fn],[.val Ty.bool (Mk.top Ty.bool)]⟩) (⟨[.val sN],[.val Ty.bool (Mk.top Ty.bool)]⟩)))) (cond (n.ble 127) (cond (n.ble 125) (⟨[.val ah],[.val Ty.bool (Mk.top Ty.bool)]⟩) (cond (n.ble 126) (⟨[.val rq,.fn],[.val Ty.bool (Mk.top Ty.bool)]⟩) (⟨[.val iM,.cm ah],[.val Ty.bool (Mk.top Ty.bool)]⟩))) (cond (n.ble 131) (⟨[],[]⟩) (cond (n.ble 133) (⟨[.val ah],[.val Ty.bool (Mk.top Ty.bool)]⟩) (⟨[.val ah],[.val ah (Mk.top ah)]⟩)))))) (cond (n.ble 147) (cond (n.ble 141) (cond (n.ble 138) (cond (n.ble 137) (⟨[.val bR,.val ah],[.val ah (Mk.top ah)]⟩) (⟨[.val ah],[.val ah (Mk.top ah)]⟩)) (cond (n.ble 139) (⟨[],[.val ah (Mk.top ah)]⟩) (cond (n.ble 140) (⟨[.val wj],[.val Ty.bool (Mk.top Ty.bool)]⟩) (⟨[.val bU,.val ah],[.val Ty.bool (Mk.top Ty.bool)]⟩)))) (cond (n.ble 144) (cond (n.ble 142) (⟨[.val wj,.val ah],[.val bU (Mk.top bU),.val Ty.bool (Mk.top Ty.bool)]⟩) (cond (n.ble 143) (⟨[.val ah],[.val Ty.bool (Mk.top Ty.bool)]⟩) (⟨[.val cN,.val DI],[.val Ty.bool (Mk.top Ty.bool)]⟩))) (cond (n.ble 145) (⟨[.val Ty.bool],[.val ah (Mk.top ah)]⟩) (cond (n.ble 146) (⟨[.val bU],[.val Ty.bool (Mk.top Ty.bool)]⟩) (⟨[.val cN,.val ah],[.val ah (Mk.top ah)]⟩))))) (cond (n.ble 153) (cond (n.ble 150) (cond (n.ble 149) (⟨[.val bT],[.val bT (Mk.top bT)]⟩) (⟨[.val iW],[.val iW (Mk.top iW)]⟩)) (cond (n.ble 151) (⟨[.val rq],[.val rq (Mk.top rq)]⟩) (cond (n.ble 152) (⟨[.val jX],[.val iM (Mk.top iM),.val Ty.bool (Mk.top Ty.bool)]⟩) (⟨[.val jW,.val iM],[.val jW lQ,.val iM (Mk.top iM),.val iM (Mk.top iM),.val ah (Mk.top ah)]⟩)))) (cond (n.ble 158) (cond (n.ble 155) (⟨[.val jX,.val iM],[.val jX (Mk.top jX)]⟩) (cond (n.ble 156) (⟨[.val jX],[.val jX (Mk.top jX)]⟩) (⟨[.cC cN se se,.val ah,.val lC],[]⟩))) (cond (n.ble 159) (⟨[.val bU,.val iW],[.val ah (Mk.top ah)]⟩) (cond (n.ble 160) (⟨[.val bU,.val iW],[.val rm (Mk.top rm),.val Ty.bool (Mk.top Ty.bool)]⟩) (⟨[.val jW,.val ah,.val bT,.val lC],[.val jW lQ,.val iM (Mk.top iM),.val Ty.bool (Mk.top Ty.bool)]⟩))))))) (cond (n.ble 183) (cond (n.ble 172) (cond (n.ble 166) (cond (n.ble 163) (cond (n.ble 162) (⟨[.val CH,.fn],[.val ah (Mk.top ah)]⟩) (⟨[.val bT,.fn],[.val ah (Mk.top ah)]⟩)) (cond (n.ble 164) (⟨[.val iW,.fn],[.val ah (Mk.top ah)]⟩) (cond (n.ble 165) (⟨[.val rq,.fn],[.val ah (Mk.top ah)]⟩) (⟨[.val ah],[.val Ty.bool (Mk.top Ty.bool)]⟩)))) (cond (n.ble 169) (cond (n.ble 167) (⟨[.val ah],[.val ah (Mk.top ah)]⟩) (cond (n.ble 168) (⟨[.cC jW lQ lQ,.val iM],[.val iM (Mk.top iM),.val iM (Mk.top iM),.val ah (Mk.top ah)]⟩) (⟨[.cC cN se se,.val ah],[.val ah (Mk.top ah)]⟩))) (cond (n.ble 170) (⟨[.val bU,.val iW],[.ptr mN (.pr .no (.pr (.own 0 .no) .no))]⟩) (cond (n.ble 171) (⟨[.val bU,.val iW],[.val lC (Mk.top lC),.val Ty.bool (Mk.top Ty.bool)]⟩) (⟨[.val iW,.val ah],[.val ah (Mk.top ah),.val Ty.bool (Mk.top Ty.bool)]⟩))))) (cond (n.ble 177) (cond (n.ble 174) (cond (n.ble 173) (⟨[.val ah],[.val ah (Mk.top ah)]⟩) (⟨[.val bU,.val iW,.val ah,.val ah],[.val bT (Mk.top bT)]⟩)) (cond (n.ble 175) (⟨[.cO bG (Mk.top bG) (Mk.top bG)],[]⟩) (cond (n.ble 176) (⟨[.val bU,.val ah,.val ah,.val ah,.val ah],[.val ah (Mk.top ah)]⟩) (⟨[.val bU,.cm ah],[.val Ty.bool (Mk.top Ty.bool)]⟩)))) (cond (n.ble 180) (cond (n.ble 178) (⟨[.cC mN (.pr .no (.pr (.own 0 .no) .no)) (.pr .no (.pr (.own 0 .no) .no)),.val bU],[]⟩) (cond (n.ble 179) (⟨[.cC mN (.pr .no (.pr (.own 0 .no) .no)) (.pr .no (.pr (.own 0 .no) .no)),.val ah],[.val ah (Mk.top ah)]⟩) (⟨[.cC mN (.pr .no (.pr (.own 0 .no) .no)) (.pr .no (.pr (.own 0 .no) .no)),.val Ty.bool],[]⟩))) (cond (n.ble 181) (⟨[.val ah,.val ah,.val ah,.cm iW,.cC bT (Mk.top bT) (Mk.top bT)],[]⟩) (cond (n.ble 182) (⟨[.cO bT (Mk.top bT) (Mk.top bT),.fn],[]⟩) (⟨[.val bU,.val bU],[.val ah (Mk.top ah)]⟩)))))) (cond (n.ble 196) (cond (n.ble 190) (cond (n.ble 185) (cond (n.ble 184) (⟨[.cO bG (Mk.top bG) (Mk.top bG),.val ah,.val ah,.val ah],[]⟩) (⟨[.val vz],[.val ah (Mk.top ah)]⟩)) (cond (n.ble 186) (⟨[.cC mN (.pr .no (.pr (.own 0 .no) .no)) (.pr .no (.pr (.own 0 .no) .no)),.val ah,.val bG],[]⟩) (cond (n.ble 187) (⟨[.cO bT (Mk.top bT) (Mk.top bT),.val ah,.val ah,.val ah,.fn],[]⟩) (⟨[.cO bG (Mk.top bG) (Mk.top bG),.val ah,.val ah],[]⟩)))) (cond (n.ble 193) (cond (n.ble 191) (⟨[.val bG,.val ah,.val ah],[.val ah (Mk.top ah),.val ah (Mk.top ah)]⟩) (cond (n.ble 192) (⟨[.cO bG (Mk.top bG) (Mk.top bG),.val ah,.val ah],[]⟩) (⟨[.cO bG (Mk.top bG) (Mk.top bG),.val ah,.val ah],[.val Ty.bool (Mk.top Ty.bool)]⟩))) (cond (n.ble 194) (⟨[.val ah,.val ah],[.val Ty.bool (Mk.top Ty.bool)]⟩) (cond (n.ble 195) (⟨[.cO bG (Mk.top bG) (Mk.top bG),.val ah,.val ah,.val ah],[.val ah (Mk.top ah)]⟩) (⟨[.cO bG (Mk.top bG) (Mk.top bG),.val ah,.val ah,.val ah],[.val ah (Mk.top ah),.val Ty.bool (Mk.top Ty.bool)]⟩))))) (cond (n.ble 203) (cond (n.ble 198) (cond (n.ble 197) (⟨[],[]⟩) (⟨[.val vz],[.val ah (Mk.top ah)]⟩)) (cond (n.ble 201) (⟨[.cO bT (Mk.top bT) (Mk.top bT),.val ah,.val ah,.fn],[]⟩) (cond (n.ble 202) (⟨[.val bT,.val ah,.val ah,.fn],[.val ah (Mk.top ah),.val ah (Mk.top ah)]⟩) (⟨[.cO bT (Mk.top bT) (Mk.top bT),.val ah,.val ah,.fn],[]⟩)))) (cond (n.ble 206) (cond (n.ble 204) (⟨[.cO bT (Mk.top bT) (Mk.top bT),.val ah,.val ah,.fn],[.val Ty.bool (Mk.top Ty.bool)]⟩) (cond (n.ble 205) (⟨[.cO bT (Mk.top bT) (Mk.top bT),.val ah,.val ah,.val ah,.fn],[.val ah (Mk.top ah)]⟩) (⟨[.cO bT (Mk.top bT) (Mk.top bT),.val ah,.val ah,.val ah,.fn],[.val ah (Mk.top ah),.val Ty.bool (Mk.top Ty.bool)]⟩))) (cond (n.ble 211) (⟨[],[]⟩) (cond (n.ble 212) (⟨[.val ah],[.val Ty.bool (Mk.top Ty.bool)]⟩) (⟨[],[]⟩))))))))
noncomputable def akc(n:Nat):Hints:=
 cond (n.ble 93) (cond (n.ble 46) (cond (n.ble 23) (cond (n.ble 14) (cond (n.ble 3) (cond (n.ble 2) ({}) ({ keep:=[(10,[10,11],[2],[]),(17,[10,11,12,13],[2,10,11],[])] })) (cond (n.ble 12) ({}) (cond (n.ble 13) ({ keep:=[(7,[2,5,6,7,8,9,10],[2,6,7,8],[]),(11,[2,5,6,7,8,9,10,11,12],[2,5,6,7,8,9,10],[])] }) ({ keep:=[(4,[4,7,8,22,23,24],[4,7,8],[])] })))) (cond (n.ble 17) (cond (n.ble 15) ({ keep:=[(4,[1,4,7,8,9],[4,7,8],[])] }) (cond (n.ble 16) ({ keep:=[(5,[2,4,13,14,15],[2,4],[])],share:=[(1,2)] }) ({}))) (cond (n.ble 18) ({ keep:=[(6,[1,2,3,6,7,8],[3,6],[])],share:=[(1,2)] }) (cond (n.ble 22) ({}) ({ keep:=[(3,[0,1,5,9,10],[5],[])] }))))) (cond (n.ble 38) (cond (n.ble 30) (cond (n.ble 29) ({}) ({ keep:=[(4,[1,11,12,13],[2],[]),(9,[1,4,11,12,13,36,37,38],[1,2,11,12,13],[])] })) (cond (n.ble 36) ({}) (cond (n.ble 37) ({ keep:=[(3,[1,5,9,10,11],[5],[])] }) ({})))) (cond (n.ble 43) (cond (n.ble 39) ({ keep:=[(6,[1,2,4,5,17,18,19],[2,4,5],[])] }) (cond (n.ble 40) ({ keep:=[(6,[1,3,4,44,45,46],[1,2,3],[]),(12,[1,3,88,89,90],[1,2],[])] }) ({}))) (cond (n.ble 44) ({ keep:=[(3,[0,3,4],[0,3],[])] }) (cond (n.ble 45) ({ keep:=[(3,[0,2,3,4],[0,2,3],[0])],share:=[(8,1)] }) ({ keep:=[(3,[0,3,4],[0,3],[0]),(7,[0,3,4,5,6],[0,3,4,5],[0])] })))))) (cond (n.ble 66) (cond (n.ble 54) (cond (n.ble 49) (cond (n.ble 48) ({}) ({ keep:=[(5,[4,6,17,18,19],[4,6],[])] })) (cond (n.ble 51) ({}) (cond (n.ble 52) ({ keep:=[(4,[1,4,6,7,8],[1,4,6],[])] }) ({})))) (cond (n.ble 62) (cond (n.ble 55) ({ keep:=[(4,[1,3],[2],[])] }) (cond (n.ble 56) ({ keep:=[(3,[1,2,3,21,22,23],[1,2,3],[]),(8,[2,3,36,37,38],[2,3],[])] }) ({}))) (cond (n.ble 63) ({ keep:=[(4,[1,25,26,27],[2],[])] }) (cond (n.ble 65) ({}) ({ keep:=[(2,[1,6,7,8],[1,2],[])] }))))) (cond (n.ble 81) (cond (n.ble 68) (cond (n.ble 67) ({ keep:=[(4,[0,1,12,13],[4],[])] }) ({ keep:=[(6,[1,3,15,16,17],[1,3],[])] })) (cond (n.ble 73) ({}) (cond (n.ble 74) ({ keep:=[(2,[0,1,7,8],[4],[])] }) ({})))) (cond (n.ble 90) (cond (n.ble 82) ({ keep:=[(6,[1,2,5,6,7,8,17,18,19],[2,5,6,7,8],[])] }) (cond (n.ble 83) ({ keep:=[(3,[1,3,9,10,11],[1,3],[]),(9,[1,3,22,23,24],[1,2,3],[])] }) ({}))) (cond (n.ble 91) ({ keep:=[(2,[1,2,5],[4],[])] }) (cond (n.ble 92) ({}) ({ share:=[(1,1)] }))))))) (cond (n.ble 140) (cond (n.ble 106) (cond (n.ble 99) (cond (n.ble 96) (cond (n.ble 95) ({}) ({ keep:=[(5,[1,3,4],[1,3],[]),(14,[1,3,6],[1,3],[])] })) (cond (n.ble 97) ({}) (cond (n.ble 98) ({ keep:=[(4,[1,3],[1,2],[]),(9,[1,4],[2],[])] }) ({ keep:=[(2,[1,3],[1,2],[])] })))) (cond (n.ble 102) (cond (n.ble 100) ({ keep:=[(3,[1,3,4],[1,2,3],[]),(9,[1,3,5],[1,2,3],[]),(15,[1,3,5,6,7],[1,2,3,5],[])] }) (cond (n.ble 101) ({ keep:=[(4,[1,2,5],[1,2,4],[]),(9,[1,2,6],[1,2,4],[]),(14,[1,2,7],[4],[])] }) ({ keep:=[(5,[1,2,5,6,7,8],[2,4,5,6,7],[])] }))) (cond (n.ble 103) ({ keep:=[(3,[2,3,11,12,13],[2,3],[])] }) (cond (n.ble 105) ({}) ({ share:=[(9,9),(9,10),(10,10)] }))))) (cond (n.ble 113) (cond (n.ble 110) (cond (n.ble 107) ({ keep:=[(2,[1,4,9,10,11],[4,5],[])] }) ({})) (cond (n.ble 111) ({ keep:=[(4,[1,31,32,33],[1,2],[])] }) (cond (n.ble 112) ({}) ({ keep:=[(2,[0,1,7,8],[4],[])] })))) (cond (n.ble 136) (cond (n.ble 116) ({}) (cond (n.ble 117) ({ share:=[(10,6),(12,1),(14,4),(21,1)] }) ({}))) (cond (n.ble 137) ({ keep:=[(3,[1,2,5,6],[5],[])] }) (cond (n.ble 139) ({}) ({ keep:=[(6,[1,3],[2],[])] })))))) (cond (n.ble 170) (cond (n.ble 159) (cond (n.ble 147) (cond (n.ble 146) ({}) ({ keep:=[(2,[1,2,5],[4],[])] })) (cond (n.ble 156) ({}) (cond (n.ble 157) ({ keep:=[(100005,[0,1],[0],[0])] }) ({})))) (cond (n.ble 165) (cond (n.ble 160) ({ keep:=[(18,[1,2,4,9,11,13,95,96,97],[1,2,4,13],[])] }) (cond (n.ble 161) ({}) ({ keep:=[(2,[0,1,7,8],[4],[])] }))) (cond (n.ble 168) ({}) (cond (n.ble 169) ({ keep:=[(2,[0,1,5],[0,4],[0])] }) ({ keep:=[(15,[5,45],[5],[])] }))))) (cond (n.ble 185) (cond (n.ble 172) (cond (n.ble 171) ({}) ({ keep:=[(2,[0,1,6],[4,5],[])] })) (cond (n.ble 183) ({}) (cond (n.ble 184) ({ keep:=[(2,[0,1,2,3,8,9],[0],[0])] }) ({})))) (cond (n.ble 188) (cond (n.ble 186) ({ keep:=[(3,[0,18,19,20],[0],[0])] }) (cond (n.ble 187) ({ keep:=[(2,[0,1,2,3,4,10,11],[0],[0])] }) ({ keep:=[(1,[0,1,2,6],[0],[0]),(4,[0,1,2,6,7],[0,1,2,6],[0])] }))) (cond (n.ble 198) ({}) (cond (n.ble 199) ({ keep:=[(1,[0,1,2,3,8],[0],[0]),(4,[0,1,2,3,8,9],[0,1,2,3,8],[0])] }) ({})))))))
open Go.Proofs in
noncomputable def vR(n:Nat):Option Func:=
 cond (n.ble 106) (cond (n.ble 58) (cond (n.ble 36) (cond (n.ble 18) (cond (n.ble 13) (cond (n.ble 3) (cond (n.ble 2) (none) (some Tryz.f3)) (cond (n.ble 11) (none) (cond (n.ble 12) (some Tryz.f12) (some Tryz.f13)))) (cond (n.ble 15) (cond (n.ble 14) (some Tryz.f14) (some Tryz.f15)) (cond (n.ble 16) (some Tryz.f16) (cond (n.ble 17) (some Tryz.f17) (some Tryz.f18))))) (cond (n.ble 28) (cond (n.ble 20) (cond (n.ble 19) (some Tryz.f19) (some Tryz.f20)) (cond (n.ble 22) (none) (cond (n.ble 23) (some Tryz.f23) (none)))) (cond (n.ble 33) (cond (n.ble 29) (some Tryz.f29) (cond (n.ble 30) (some Tryz.f30) (none))) (cond (n.ble 34) (some Tryz.f34) (cond (n.ble 35) (some Tryz.f35) (none)))))) (cond (n.ble 47) (cond (n.ble 41) (cond (n.ble 38) (cond (n.ble 37) (some Tryz.f37) (some Tryz.f38)) (cond (n.ble 39) (some Tryz.f39) (cond (n.ble 40) (some Tryz.f40) (none)))) (cond (n.ble 44) (cond (n.ble 42) (some Tryz.f42) (cond (n.ble 43) (none) (some Tryz.f44))) (cond (n.ble 45) (some Tryz.f45) (cond (n.ble 46) (some Tryz.f46) (some Tryz.f47))))) (cond (n.ble 52) (cond (n.ble 49) (cond (n.ble 48) (some Tryz.f48) (some Tryz.f49)) (cond (n.ble 50) (some Tryz.f50) (cond (n.ble 51) (some Tryz.f51) (some Tryz.f52)))) (cond (n.ble 55) (cond (n.ble 53) (some Tryz.f53) (cond (n.ble 54) (some Tryz.f54) (some Tryz.f55))) (cond (n.ble 56) (some Tryz.f56) (cond (n.ble 57) (some Tryz.f57) (some Tryz.f58))))))) (cond (n.ble 81) (cond (n.ble 70) (cond (n.ble 64) (cond (n.ble 60) (cond (n.ble 59) (some Tryz.f59) (some Tryz.f60)) (cond (n.ble 62) (none) (cond (n.ble 63) (some Tryz.f63) (some Tryz.f64)))) (cond (n.ble 67) (cond (n.ble 65) (none) (cond (n.ble 66) (some Tryz.f66) (some Tryz.f67))) (cond (n.ble 68) (some Tryz.f68) (cond (n.ble 69) (some Tryz.f69) (some Tryz.f70))))) (cond (n.ble 75) (cond (n.ble 72) (cond (n.ble 71) (some Tryz.f71) (none)) (cond (n.ble 73) (some Tryz.f73) (cond (n.ble 74) (some Tryz.f74) (some Tryz.f75)))) (cond (n.ble 78) (cond (n.ble 76) (some Tryz.f76) (cond (n.ble 77) (some Tryz.f77) (some Tryz.f78))) (cond (n.ble 79) (some Tryz.f79) (cond (n.ble 80) (some Tryz.f80) (some Tryz.f81)))))) (cond (n.ble 95) (cond (n.ble 89) (cond (n.ble 83) (cond (n.ble 82) (some Tryz.f82) (some Tryz.f83)) (cond (n.ble 84) (none) (cond (n.ble 85) (some Tryz.f85) (none)))) (cond (n.ble 92) (cond (n.ble 90) (some Tryz.f90) (cond (n.ble 91) (some Tryz.f91) (some Tryz.f92))) (cond (n.ble 93) (some Tryz.f93) (cond (n.ble 94) (some Tryz.f94) (some Tryz.f95))))) (cond (n.ble 100) (cond (n.ble 97) (cond (n.ble 96) (some Tryz.f96) (some Tryz.f97)) (cond (n.ble 98) (some Tryz.f98) (cond (n.ble 99) (some Tryz.f99) (some Tryz.f100)))) (cond (n.ble 103) (cond (n.ble 101) (some Tryz.f101) (cond (n.ble 102) (some Tryz.f102) (some Tryz.f103))) (cond (n.ble 104) (some Tryz.f104) (cond (n.ble 105) (some Tryz.f105) (some Tryz.f106)))))))) (cond (n.ble 152) (cond (n.ble 127) (cond (n.ble 116) (cond (n.ble 111) (cond (n.ble 108) (cond (n.ble 107) (some Tryz.f107) (none)) (cond (n.ble 109) (some Tryz.f109) (cond (n.ble 110) (some Tryz.f110) (some Tryz.f111)))) (cond (n.ble 113) (cond (n.ble 112) (some Tryz.f112) (some Tryz.f113)) (cond (n.ble 114) (some Tryz.f114) (cond (n.ble 115) (some Tryz.f115) (some Tryz.f116))))) (cond (n.ble 121) (cond (n.ble 118) (cond (n.ble 117) (some Tryz.f117) (some Tryz.f118)) (cond (n.ble 119) (some Tryz.f119) (cond (n.ble 120) (some Tryz.f120) (some Tryz.f121)))) (cond (n.ble 124) (cond (n.ble 122) (some Tryz.f122) (cond (n.ble 123) (some Tryz.f123) (some Tryz.f124))) (cond (n.ble 125) (some Tryz.f125) (cond (n.ble 126) (some Tryz.f126) (some Tryz.f127)))))) (cond (n.ble 141) (cond (n.ble 135) (cond (n.ble 132) (cond (n.ble 131) (none) (some Tryz.f132)) (cond (n.ble 133) (some Tryz.f133) (cond (n.ble 134) (some Tryz.f134) (some Tryz.f135)))) (cond (n.ble 138) (cond (n.ble 136) (some Tryz.f136) (cond (n.ble 137) (some Tryz.f137) (some Tryz.f138))) (cond (n.ble 139) (some Tryz.f139) (cond (n.ble 140) (some Tryz.f140) (some Tryz.f141))))) (cond (n.ble 146) (cond (n.ble 143) (cond (n.ble 142) (none) (some Tryz.f143)) (cond (n.ble 144) (none) (cond (n.ble 145) (some Tryz.f145) (some Tryz.f146)))) (cond (n.ble 149) (cond (n.ble 147) (some Tryz.f147) (cond (n.ble 148) (some Tryz.f148) (some Tryz.f149))) (cond (n.ble 150) (some Tryz.f150) (cond (n.ble 151) (some Tryz.f151) (some Tryz.f152))))))) (cond (n.ble 174) (cond (n.ble 163) (cond (n.ble 157) (cond (n.ble 154) (cond (n.ble 153) (some Tryz.f153) (some Tryz.f154)) (cond (n.ble 155) (some Tryz.f155) (cond (n.ble 156) (some Tryz.f156) (some Tryz.f157)))) (cond (n.ble 160) (cond (n.ble 158) (some Tryz.f158) (cond (n.ble 159) (some Tryz.f159) (some Tryz.f160))) (cond (n.ble 161) (some Tryz.f161) (cond (n.ble 162) (some Tryz.f162) (some Tryz.f163))))) (cond (n.ble 168) (cond (n.ble 165) (cond (n.ble 164) (some Tryz.f164) (some Tryz.f165)) (cond (n.ble 166) (some Tryz.f166) (cond (n.ble 167) (some Tryz.f167) (some Tryz.f168)))) (cond (n.ble 171) (cond (n.ble 169) (some Tryz.f169) (cond (n.ble 170) (some Tryz.f170) (some Tryz.f171))) (cond (n.ble 172) (some Tryz.f172) (cond (n.ble 173) (some Tryz.f173) (some Tryz.f174)))))) (cond (n.ble 185) (cond (n.ble 179) (cond (n.ble 176) (cond (n.ble 175) (some Tryz.f175) (some Tryz.f176)) (cond (n.ble 177) (some Tryz.f177) (cond (n.ble 178) (some Tryz.f178) (some Tryz.f179)))) (cond (n.ble 182) (cond (n.ble 180) (some Tryz.f180) (cond (n.ble 181) (some Tryz.f181) (some Tryz.f182))) (cond (n.ble 183) (some Tryz.f183) (cond (n.ble 184) (some Tryz.f184) (some Tryz.f185))))) (cond (n.ble 194) (cond (n.ble 187) (cond (n.ble 186) (some Tryz.f186) (some Tryz.f187)) (cond (n.ble 188) (some Tryz.f188) (cond (n.ble 193) (none) (some Tryz.f194)))) (cond (n.ble 199) (cond (n.ble 197) (none) (cond (n.ble 198) (some Tryz.f198) (some Tryz.f199))) (cond (n.ble 211) (none) (cond (n.ble 212) (some Tryz.f212) (none))))))))
noncomputable def ctx:Ctx:=⟨alP,ak5,akc⟩
open Go.Proofs
theorem N1:iA Tryz.prog ctx:=acv FK (fun t h=>by show cond (Nat.ble t FK) _ _=_;rw[h];rfl) (by kernel_rfl)
theorem alJ:Tryz.prog.follows .mixedOrders=true:=by kernel_rfl
theorem akY:∀(f:FuncId)(fn:Func),Tryz.prog.funcs[f]? = some fn->fn.name≠ "runtime.NumGoroutine" := ac4 (by kernel_rfl)
end Go.V
namespace Go.V
noncomputable section
open Go
def Wf:(t:Ty)->t.den->Prop
 | .unit,_=>True
 | .int k,n=>(Lit.int k n).wf=true
 | .bool,_=>True
 | .str,s=>s.size<=maxLen
 | .sl t,xs=>xs.length<=maxLen/\∀x∈xs,Wf t x
 | .pair a b,x=>Wf a x.1/\Wf b x.2
section
variable {H:Type} {enc:TypeId×Value->H} {P:Program} {C:Ctx} {w:World} {sp:Nat->Bool} {held:Bool}
def Old(w:World):BS:=fun b=>b<w.heap.size
theorem mC.cellsOf{t:TypeId}(k:mC P C t):P.cellsOf t=(C.ty t).width:=by obtain⟨i,h1,h2,_⟩:=k.info;simp[Program.cellsOf,h1,h2]
theorem P2(bn:iA P C){n:Nat}(ih:∀(t:TypeId)(cs:List Value)(z:DataW H×List MemPlace),(C.ty t).nz=true->DataW.trod enc P w 0 sp held n t cs=some z->
   ∃x:(C.ty t).den,Wf (C.ty t) x/\az w.heap (Old w) (C.ty t) .no x cs Nil) {cs:List Value} :
  ∀(fs:List Field)(off:Nat)(T:Ty),mU C fs off T->(∀f∈fs,∃z,DataW.trod enc P w 0 sp held n f.type ((cs.drop f.offset).take (P.cellsOf f.type))=some z)->cs.length=off+T.width->
   ∃x:T.den,Wf T x/\az w.heap (Old w) T .no x (cs.drop off) Nil
 | [],off,T,hs,_,hl=>by
  simp only[mU]at hs;subst hs;simp only[Ty.width,qQ]at hl;exact⟨(),trivial,by simp only[az];exact vC (by omega)⟩
 | f::fs,off,T,hs,hf,hl=>by
  obtain⟨b,rfl,ho,_,hnz,hs⟩:=hs;obtain⟨z,hz⟩:=hf f (e7 ..);obtain⟨x,wx,rx⟩:=ih _ _ z hnz hz;rw[(bn _ hnz).cellsOf,ho]at rx;simp only[Ty.width]at hl;obtain⟨y,wy,ry⟩:=P2 bn ih fs (off+(C.ty f.type).width) b hs (fun g hg=>hf g (cF _ hg)) (by omega);refine⟨(x,y),⟨wx,wy⟩,?_⟩;simp only[az];refine⟨_,_,Nil,Nil,?_,rx,ry,Sub.nil _,Sub.nil _,cB.nil _⟩;rw[<-qP,rD]
theorem acz(bn:iA P C):∀(n:Nat)(t:TypeId)(cs:List Value)(z:DataW H×List MemPlace),(C.ty t).nz=true->DataW.trod enc P w 0 sp held n t cs=some z->
   ∃x:(C.ty t).den,Wf (C.ty t) x/\az w.heap (Old w) (C.ty t) .no x cs Nil:=by
 intro n
 induction n with
 | zero=>intro t cs z _ h;simp[DataW.trod]at h
 | succ n ih=>
  intro t cs z hnz h;have k:=bn t hnz;obtain⟨d,hd,i_⟩:=k.desc;cases d with
  | int kd=>simp only[oI]at i_;obtain⟨m,rfl,_,hw⟩:=DataW.trod_int hd h;rw[i_];exact⟨m,hw,by simp only[az]⟩
  | bool=>
   simp only[oI]at i_;rw[i_];have:∃b,cs=[.bool b]:=by unfold DataW.trod at h;rw[hd]at h;split at h<;>simp_all
   obtain⟨b,rfl⟩:=this;exact⟨b,trivial,by simp only[az]⟩
  | string=>simp only[oI]at i_;obtain⟨s,rfl,_,hw⟩:=DataW.trod_string hd h;rw[i_];exact⟨s,hw,by simp only[az]⟩
  | struct fs=>
   simp only[oI]at i_;obtain⟨xs,m,e,_,hl,hlen,hf⟩:=DataW.trod_struct hd h;obtain rfl:n=m:=by omega
   rw[k.cellsOf]at hl;have:=P2 (cs:=cs) bn ih fs.toList 0 (C.ty t) i_.1 (fun f hf'=>by
    obtain⟨i,hi,e⟩:=nH.1 hf';rw[iN]at hi;have h1:=hf i f (by rw[<-e];simp[hi]);exact⟨xs[i],by rw[h1];simp⟩) (by omega)
   simpa using this
  | slice e=>
   simp only[oI]at i_;obtain⟨he,KV⟩:=i_;have ke:=bn e KV;rw[he];rcases DataW.trod_slice hd h with⟨rfl,_⟩ | ⟨a,len,cap,elems,rest,m,e1,rfl,_,_,hlc,hcm,hel,d8,_⟩
   .exact⟨[],⟨eZ _,fun x hx=>by simp at hx⟩,by simp only[az];exact⟨none,0,by simp,by simp,fun h=>absurd rfl h⟩⟩
   .obtain rfl:n=m:=by omega
    rw[ke.cellsOf]at d8;have hpos:=ke.pos;have key:∀i,i<len->∃(x:(C.ty e).den)(cs:List Value),Wf (C.ty e) x/\az w.heap (Old w) (C.ty e) .no x cs Nil/\cs.length=(C.ty e).width/\∀j,j<(C.ty e).width->w.cell? ((a.add (i * (C.ty e).width)).add j)=cs[j]?:=by intro i hi;have h1:=d8 i hi;rw[gx (by omega)]at h1;rw[cL]at h1;obtain⟨cs,h2,h3⟩:=h1;obtain⟨x,wx,rx⟩:=ih _ _ _ KV h3;obtain⟨_,hl,hc⟩:=World.cells?_some h2;exact⟨x,cs,wx,rx,hl,hc⟩
    by_cases h0:len=0
    .subst h0;exact⟨[],⟨eZ _,fun x hx=>by simp at hx⟩,by simp only[az];exact⟨some a,cap,by simp,by simp,fun h=>absurd rfl h⟩⟩
    .have hz:(C.ty e).den:=(C.ty e).zero;have XH:∀i,∃(x:(C.ty e).den),i<len->∃(cs:List Value),Wf (C.ty e) x/\az w.heap (Old w) (C.ty e) .no x cs Nil/\cs.length=(C.ty e).width/\∀j,j<(C.ty e).width->w.cell? ((a.add (i * (C.ty e).width)).add j)=cs[j]?:=by
      intro i;by_cases hi:i<len
      .obtain⟨x,h⟩:=key i hi;exact⟨x,fun _=>h⟩
      .exact⟨hz,fun h=>absurd h hi⟩
     obtain⟨f,hf⟩:=sO XH;refine⟨(List.range len).map f,⟨by simp;omega,?_⟩,?_⟩
     .intro x hx;simp only[eI,yl]at hx;obtain⟨i,hi,rfl⟩:=hx;obtain⟨_,h,_⟩:=hf i hi;exact h
     .have hb:∃cells ty fr,w.heap[a.block]? = some (.cells cells ty fr)/\a.spot=none:=by
       obtain⟨cs,_,_,hl,hc⟩:=hf 0 (by omega);have h1:=hc 0 hpos;rw[gx (by omega)]at h1;simp only[Nat.zero_mul,Addr.add,aX]at h1;unfold World.cell? at h1;split at h1
       .rename_i c ty fr hh;split at h1
        .simp at h1
        .rename_i hs;exact⟨c,ty,fr,hh,by simpa using hs⟩
       .simp at h1
      obtain⟨cells,ty,fr,hh,C1⟩:=hb;obtain⟨ab,ao,as'⟩:=a;simp only at C1 hh;subst C1;have hcell:∀i,i<len->∀j,j<(C.ty e).width->w.cell? (((⟨ab,ao,none⟩:Addr).add (i * (C.ty e).width)).add j)=cells[ao+i * (C.ty e).width+j]?:=by
       intro i hi j hj;have:((⟨ab,ao,none⟩:Addr).add (i * (C.ty e).width)).add j=⟨ab,ao+i * (C.ty e).width+j,none⟩:=by simp only[Addr.add];split<;>split<;>simp_all
       rw[this];simp[World.cell?,hh]
      have hsub:∀i,i<len->∀cs:List Value,cs.length=(C.ty e).width->(∀j,j<(C.ty e).width->w.cell? (((⟨ab,ao,none⟩:Addr).add (i * (C.ty e).width)).add j)=cs[j]?)->
        sub cells (ao+i * (C.ty e).width) (C.ty e).width=cs/\ao+i * (C.ty e).width+(C.ty e).width<=cells.size:=by
       intro i hi cs hl hc;have h2:∀j,j<(C.ty e).width->cells[ao+i * (C.ty e).width+j]? = cs[j]?:=fun j hj=>by rw[<-hcell i hi j hj];exact hc j hj
       have h3:ao+i * (C.ty e).width+(C.ty e).width<=cells.size:=by have:=h2 ((C.ty e).width-1) (by omega);rw[gx (by omega)]at this;have:=(ru.1 this).1;omega
       refine⟨?_,h3⟩;apply rG;intro j;simp only[sub,gj,iC];split
       .rename_i hj;rw[yb];exact h2 j hj
       .rename_i hj;rw[pn (by omega)]
      simp only[az];refine⟨some ⟨ab,ao,none⟩,cap,by simp,by simpa using hlc,fun _=>⟨ab,ao,cells,rfl,?_,⟨ty,fr,hh⟩,?_,?_⟩⟩
      .exact(ru.1 hh).1
      .obtain⟨cs,_,_,hl,hc⟩:=hf (len-1) (by omega);have:=(hsub (len-1) (by omega) cs hl hc).2;have e2:len * (C.ty e).width=(len-1) * (C.ty e).width+(C.ty e).width:=by rw[show len=(len-1)+1 by omega,jB];simp
       simp only[jA,FH];omega
      .intro i hi;simp only[jA,FH]at hi;obtain⟨cs,wx,rx,hl,hc⟩:=hf i hi;have e3:((List.range len).map f).getD i (C.ty e).zero=f i:=by simp[List.getD,hi]
       rw[e3,(hsub i hi cs hl hc).1];exact rx
  | _=>simp[oI]at i_
theorem alA{t:TypeId}(k:mC P C t){r:Reach}{b0:Nat}{v:Value}(hval:Value.okWide P w r b0 t v):v=dK (C.ty t) v.cells.toList:=by
 obtain⟨d,hd,i_⟩:=k.desc;cases d with
 | int kd=>simp only[oI]at i_;obtain⟨n,rfl⟩:=Go.WideShapes.okWide_int hd hval;rw[i_];simp[dK,Ty.agg,Value.cells]
 | bool=>simp only[oI]at i_;obtain⟨n,rfl⟩:=Go.WideShapes.okWide_bool hd hval;rw[i_];simp[dK,Ty.agg,Value.cells]
 | string=>simp only[oI]at i_;obtain⟨n,rfl⟩:=Go.WideShapes.okWide_string hd hval;rw[i_];simp[dK,Ty.agg,Value.cells]
 | struct fs=>
  simp only[oI]at i_;obtain⟨cs,rfl,_⟩:=Go.WideShapes.okWide_struct hd hval;have:(C.ty t).agg=true:=by
   generalize hfl:fs.toList=l at i_;cases l with
   | nil=>exact absurd i_.1 i_.2
   | cons f l=>obtain⟨⟨b,e,_⟩,_⟩:=i_;rw[e];rfl
  simp[dK,this,Value.cells]
 | slice e=>simp only[oI]at i_;obtain⟨a,l,c,rfl⟩:=Go.WideShapes.okWide_slice hd hval;rw[i_.1];simp[dK,Ty.agg,Value.cells]
 | _=>simp[oI]at i_
def zY:List TypeId->List PK->Ctx->Prop
 | [],[],_=>True
 | t::ts,.val T::ks,C=>T=C.ty t/\(C.ty t).nz=true/\zY ts ks C
 | _,_,_=>False
def BT:(ks:List PK)->ga ks->Prop
 | [],_=>True
 | .val t::ks,a=>Wf t a.1/\BT ks a.2
 | _::ks,a=>BT ks a.2
theorem R5(bn:iA P C){b0:Nat}:∀(ts:List TypeId)(ks:List PK)(vs:List Value)(ds:List (DataW H))(ps:List MemPlace)(i:Nat),zY ts ks C->DataW.TrodAll enc P w 0 sp held ts vs ds ps->
  (∀(j:Nat) t v,ts[j]? = some t->vs[j]? = some v->Value.okWide P w .any b0 t v)->∃a:ga ks,BT ks a/\yR w.heap (Old w) (fun _=>Nil) i ks a vs
 | [],[],vs,ds,ps,i,_,h,_=>by
  obtain⟨rfl,_,_⟩:=Go.ChangeShapes.trodAll_nil h;exact⟨(),trivial,rfl⟩
 | t::ts,.val T::ks,vs,ds,ps,i,hv,h,hok=>by
  obtain⟨rfl,hnz,hv⟩:=hv;obtain⟨v,vs',d,ds',p,q,rfl,rfl,rfl,⟨n,h1⟩,h2⟩:=Go.ChangeShapes.trodAll_cons h;obtain⟨x,wx,rx⟩:=acz bn n t _ _ hnz h1;obtain⟨a,wa,ra⟩:=R5 bn ts ks vs' ds' q (i+1) hv h2 (fun j t' v' ht Ao=>hok (j+1) t' v' (by simpa using ht) (by simpa using Ao));exact⟨(x,a),⟨wx,wa⟩,v,vs',rfl,⟨_,rx,alA (bn t hnz) (hok 0 t v rfl rfl)⟩,ra⟩
 | [],_::_,_,_,_,_,hv,_,_=>by simp[zY]at hv
 | _::_,[],_,_,_,_,hv,_,_=>by simp[zY]at hv
 | _::_,.own _ _::_,_,_,_,_,hv,_,_=>by simp[zY]at hv
 | _::_,.cC _ _ _::_,_,_,_,_,hv,_,_=>by simp[zY]at hv
 | _::_,.cO _ _ _::_,_,_,_,_,hv,_,_=>by simp[zY]at hv
 | _::_,.cm _::_,_,_,_,_,hv,_,_=>by simp[zY]at hv
 | _::_,.fn::_,_,_,_,_,hv,_,_=>by simp[zY]at hv
theorem akR{n b:Nat}(h:tP n (fun _=>Nil) b):n<=b:=h.elim id (fun⟨_,h⟩=>h.elim)
theorem acd{W W':World}(h:kI (tP W.heap.size fun _=>Nil) W W'):Go.RowKit.Below W.heap.size W W':=
 ⟨h.os,h.tape,h.output,h.size,fun k hk=>h.block k hk fun hm=>by have:=akR hm;omega⟩
end
end
end Go.V
namespace Go.V
noncomputable section
open Go
section
variable (C:Ctx) (D:Den C) {R:Type}
def xX(body:St->(Ex->St->Option R)->Option R)(canon fK:St->St):Nat->St->(Ex->St->Option R)->Option R
 | 0,_,_=>none
 | n+1,S,k=>body S fun e S=>match e with
  | .normal=>xX body canon fK n (canon S) k
  | e=>k e (fK S)
theorem Sn(body:St->(Ex->St->Option R)->Option R)(canon fK:St->St)(k:Ex->St->Option R):∀(n:Nat)(S:St),sn body canon fK n S k=xX body canon fK n (canon S) k
 | 0,_=>rfl
 | n+1,S=>by
  simp only[sn,xX];congr 1;funext e S;cases e with
  | normal=>exact Sn body canon fK k n S
  | exit id=>rfl
  | ret=>rfl
noncomputable def mW(H:Hints)(n:Nat):Code->St->(Ex->St->Option R)->Option R
 | .skip,S,k=>k .normal S
 | .region id ops dr,S,k=>
  if L2 ops then
   yN C D H id ops (ops.size+1) (nq ops) S [] fun lg S=>
    if dr then (if EU ops&&DB (Region.before ops) lg lg&&IU (Region.before ops) ops (nq ops) then k .normal S else none) else k .normal S
  else none
 | .seq a b,S,k=>mW H n a S fun e S=>match e with
  | .normal=>mW H n b (rX H b S) k
  | e=>k e S
 | .cond c a b,S,k=>
  match asBool (ev S c) with
  | some t=>br t (mW H n a S k) (mW H n b S k)
  | none=>none
 | .block id b,S,k=>mW H n b S fun e S=>match e with
  | .exit j=>if j=id then k .normal S else k (.exit j) S
  | e=>k e S
 | .loop b,S,k=>
  match H.keep.lookup (Co b) with
  | some kp=>xX (mW H n b) (St.canon kp.1 kp.2.2) (St.canon kp.2.1 kp.2.2) n (St.canon kp.1 kp.2.2 S) k
  | none=>none
 | .exit id,S,k=>k (.exit id) S
 | .ret,S,k=>k .ret S
 | _,_,_=>none
theorem aj8(H:Hints)(n:Nat):∀(c:Code),(exec C D H n c:St->(Ex->St->Option R)->Option R)=mW C D H n c:=by
 intro c
 induction c with
 | seq a b fS kQ=>funext S k;simp only[exec,mW,fS,kQ];rfl
 | cond c a b fS kQ=>funext S k;simp only[exec,mW,fS,kQ];rfl
 | block id b ih=>funext S k;simp only[exec,mW,ih];rfl
 | loop b ih=>funext S k;simp only[exec,mW,ih,Sn];rfl
 | _=>funext S k;simp only[exec,mW]
inductive mB where
 | l | r
def tD:Code->List mB->Code
 | c,[]=>c
 | .seq a _,.l::p=>tD a p
 | .seq _ b,.r::p=>tD b p
 | .cond _ a _,.l::p=>tD a p
 | .cond _ _ b,.r::p=>tD b p
 | .block _ b,.l::p=>tD b p
 | .loop b,.l::p=>tD b p
 | _,_=>.skip
noncomputable def ux(H:Hints)(n:Nat):Nat->Code->St->(St->Option R)->(Ex->St->Option R)->Option R
 | 0,_,S,K,_=>K S
 | m+1,.seq a b,S,K,k=>mW C D H n a S fun e S=>match e with
  | .normal=>ux H n m b (rX H b S) K k
  | e=>k e S
 | _+1,_,_,_,_=>none
def CA:Nat->Code->Bool
 | 0,_=>true
 | m+1,.seq _ b=>CA m b
 | _+1,_=>false
theorem aaU(c:Code):tD c []=c:=by cases c<;>rfl
theorem QH(H:Hints)(n:Nat)(k:Ex->St->Option R):∀(m:Nat)(c:Code)(S:St),CA m c=true->
  ux C D H n m c S (fun S'=>mW C D H n (tD c (List.replicate m .r)) S' k) k=mW C D H n c S k
 | 0,c,S,_=>by simp only[ux,List.replicate,aaU]
 | m+1,c,S,h=>by
  cases c with
  | seq a b=>
   simp only[ux,mW];congr 1;funext e S';cases e with
   | normal=>exact QH H n k m b (rX H b S') h
   | exit id=>rfl
   | ret=>rfl
  | _=>simp[CA]at h
theorem acS(H:Hints)(n m:Nat)(k:Ex->St->Option R)(c:Code)(q:List mB)(S:St)(hq:q=List.replicate m .r)(h:CA m c=true) :
  ux C D H n m c S (fun S'=>mW C D H n (tD c q) S' k) k=mW C D H n c S k:=by
 subst hq;exact QH C D H n k m _ S h
noncomputable def uw(H:Hints)(n:Nat):Code->List mB->(Ex->St->Option R)->Ex->St->Option R
 | _,[],k=>k
 | .seq a b,.l::p,k=>uw H n a p fun e S=>match e with
  | .normal=>mW C D H n b (rX H b S) k
  | e=>k e S
 | .seq _ b,.r::p,k=>uw H n b p k
 | .cond _ a _,.l::p,k=>uw H n a p k
 | .cond _ _ b,.r::p,k=>uw H n b p k
 | .block id b,.l::p,k=>uw H n b p fun e S=>match e with
  | .exit j=>if j=id then k .normal S else k (.exit j) S
  | e=>k e S
 | _,_,_=>fun _ _=>none
end
def xV{α:Type}(d:α):Nat->Nat->List (Nat×α)->List α
 | _,0,_=>[]
 | i,n+1,[]=>d::xV d (i+1) n []
 | i,n+1,(j,v)::l=>cond (Nat.beq i j) (v::xV d (i+1) n l) (d::xV d (i+1) n ((j,v)::l))
def bq(n:Nat)(sl:List (Nat×AV))(rt:List (Nat×aC)):St:=⟨xV .undef 0 n sl,xV none 0 n (rt.map fun x=>(x.1,some x.2))⟩
section
variable {C:Ctx} (func:FuncId->Option Func) (D:Den C) (n:Nat)
def Cy(f:FuncId):Code:=
 match func f with
 | some fn=>fn.body.getD .skip
 | none=>.skip
def NS(f:FuncId):List ResultVar:=
 match func f with
 | some fn=>fn.results.toList
 | none=>[]
def Fq(f:FuncId):Nat:=
 match func f with
 | some fn=>fn.ntmps
 | none=>0
abbrev Out(C:Ctx)(f:FuncId):Type:=f7 (C.sig f).res×dG (C.sig f).params
noncomputable def BU(f:FuncId):Ex->St->Option (Out C f):=fun e S=>
 match e with
 | .exit _=>none
 | _=>(vZ C (C.sig f).res (NS func f) S).bind fun r=>(outs (C.hints f) 0 (C.sig f).params r.2).bind fun o=>some (r.1,o)
noncomputable def Ka(f:FuncId)(a:ga (C.sig f).params):Option (Out C f):=
 match func f with
 | none=>none
 | some fn=>
  if fn.body.isSome&&((C.sig f).params.all PK.f5&&(Nat.ble (C.sig f).params.length fn.ntmps&&sB (vO 0 (C.sig f).params) (Cy func f))) then
   mW C D (C.hints f) n (Cy func f) (enter ⟨List.replicate fn.ntmps .undef,List.replicate fn.ntmps none⟩ 0 (C.sig f).params a) (BU func f)
  else none
def runs(f:FuncId):Bool:=
 match func f with
 | none=>false
 | some fn=>fn.body.isSome&&((C.sig f).params.all PK.f5&&(Nat.ble (C.sig f).params.length fn.ntmps&&sB (vO 0 (C.sig f).params) (Cy func f)))
def H8(f:FuncId)(a:ga (C.sig f).params):St:=enter ⟨List.replicate (Fq func f) .undef,List.replicate (Fq func f) none⟩ 0 (C.sig f).params a
theorem adf(f:FuncId)(a:ga (C.sig f).params)(h:runs (C:=C) func f=true) :
  Ka func D n f a=mW C D (C.hints f) n (Cy func f) (H8 func f a) (BU func f):=by
 unfold runs at h;unfold Ka H8 Fq;split at h
 .simp at h
 .rename_i fn hf;simp only[hf];rw[aj h]
noncomputable def LQ(f:FuncId)(p:List mB)(m:Nat)(S:St)(K:Ex->St->Option (Out C f)):Option (Out C f):=
 match tD (Cy func f) p with
 | .loop b=>
  match (C.hints f).keep.lookup (Co b) with
  | some kp=>xX (mW C D (C.hints f) n b) (St.canon kp.1 kp.2.2) (St.canon kp.2.1 kp.2.2) m S K
  | none=>none
 | _=>none
noncomputable def LK(f:FuncId)(p:List mB)(m:Nat)(K:Ex->St->Option (Out C f)):Ex->St->Option (Out C f):=fun e S=>
 match tD (Cy func f) p with
 | .loop b=>
  match (C.hints f).keep.lookup (Co b) with
  | some kp=>match e with
   | .normal=>LQ func D n f p m (St.canon kp.1 kp.2.2 S) K
   | e=>K e (St.canon kp.2.1 kp.2.2 S)
  | none=>none
 | _=>none
noncomputable def CQ(f:FuncId)(p q:List mB)(K:Ex->St->Option (Out C f)):Ex->St->Option (Out C f):=
 uw C D (C.hints f) n (tD (Cy func f) p) q K
theorem sD(f:FuncId)(p:List mB)(S:St)(K:Ex->St->Option (Out C f)):LQ func D n f p 0 S K=none:=by
 unfold LQ;split
 .split<;>rfl
 .rfl
theorem akw(f:FuncId)(a:ga (C.sig f).params):(match func f with
  | none=>none
  | some fn=>vp C D n fn (C.hints f) (C.sig f).params (C.sig f).res a)=Ka func D n f a:=by
 unfold Ka;split
 .rfl
 .rename_i fn hf;unfold vp Cy BU NS;rw[hf];simp only;cases fn.body with
  | none=>simp
  | some c=>simp only[Option.isSome_some,zE,uD,aj8];rfl
end
end
end Go.V
namespace Go.V
noncomputable section
open Go Go.Proofs Go.RowKit Go.ChangeShapes
structure Ext where
 den:Den ctx
 is:FuncId->Bool
 ok:∀f,is f=true->DK Tryz.prog ctx den f
 call:∀f a r,is f=true->den f a=some r->Jm Tryz.prog f
noncomputable def DD(X:Ext)(n:Nat):Den ctx:=Dn ctx X.den X.is (fun g=>Tryz.prog.funcs[g]?) n
theorem ak9(X:Ext)(n:Nat):oh Tryz.prog ctx (DD X n):=NY N1 alJ X.ok X.call akY n
theorem akd(X:Ext){g:FuncId}{fn:Func}(hf:Tryz.prog.funcs[g]? = some fn)(ht:vR g=some fn)(hx:X.is g=false)(n:Nat)(a:ga (ctx.sig g).params) :
  DD X (n+1) g a=Ka vR (DD X n) n g a:=by
 have:=akw vR (DD X n) n g a;rw[ht]at this;rw[<-this];unfold DD;simp only[Dn,hx,fe,dV,hf]
def xY:Ext:=⟨fun _ _=>none,fun _=>false,fun _ h=>by simp at h,fun _ _ _ h=>by simp at h⟩
section
variable {H:Type} {enc:TypeId×Value->H} {P:Program}
theorem Pe(hl:laidOutB P=true){W W':World}(hb:Below W.heap.size W W'):∀{ts:List TypeId}{vs:List Value}{ds:List (DataW H)}{ps:List MemPlace},
  ts.all (fun t=>P.readableRec t&&Nat.blt t P.types.size)=true->DataW.TrodAll enc P W 0 (fun _=>true) true ts vs ds ps->(∀x∈ps,x.block<W.heap.size)->
  DataW.TrodAll enc P W' 0 (fun b=>decide (b<W.heap.size)) true ts vs ds ps
 | [],_,_,_,_,h,_=>by
  obtain⟨rfl,rfl,rfl⟩:=trodAll_nil h;exact trodAll_mk0
 | t::ts,_,_,_,ht,h,hlt=>by
  obtain⟨v,vs1,d,ds1,a,b,rfl,rfl,rfl,h1,h2⟩:=trodAll_cons h;simp only[gT,bI]at ht;exact⟨a,b,Below.trod hl ht.1.1 (n6.1 ht.1.2) h1 hb (fun x hx=>hlt x (by simp[hx])),Pe hl hb ht.2 h2 (fun x hx=>hlt x (by simp[hx])),rfl⟩
end
theorem laid:laidOutB Tryz.prog=true:=by kernel_rfl
theorem acA:ownKnob Tryz.prog.godebug=none:=by kernel_rfl
theorem ab0{H:Type}{enc:TypeId×Value->H}{X:Ext}{f:FuncId}{fn:Func}{s:ChangeSpec}{conds:List PathCond}{tb:TypeId}{os:Os}(started:os.Started)
  (hfn:Tryz.prog.funcs[f]? = some fn) (KK:Tryz.prog.inits.idxOf? f=none)
  (witness:∃(w:World)(tape:Tape)(i:Input),w.os=os/\(w.forCall tape i).Shaped Tryz.prog/\i.vars=[]/\Input.okWide Tryz.prog (w.forCall tape i) .any w.heap.size f i/\
   s.pre6 enc Tryz.prog fn conds false (w.forCall tape i).memory i.args/\Assume.holds {} Tryz.prog (lone (Frame.enter Tryz.prog f i.args .normal) [] (w.forCall tape i)))
  (hps:zY fn.params.toList (ctx.sig f).params ctx) (hrd:fn.params.toList.all (fun t=>Tryz.prog.readableRec t&&Nat.blt t Tryz.prog.types.size)=true)
  (hres:fn.resultTypes = #[tb]) (htb:Tryz.prog.underlying tb=some .bool) (hvars:s.vars=[])
  (Lm:∀ds:List (DataW H),ds.length=fn.params.size->(s.fn H ds).results=[.lit (.bool true)]/\(s.fn H ds).args=ds/\(s.fn H ds).vars=[])
  (WS:∀a,BT (ctx.sig f).params a->∃n r,DD X n f a=some r/\∀h Pr Gs us,lp h Pr Gs 0 (ctx.sig f).res r.1 us->us=[.bool true]) :
  ReturnsInHanded {} Tryz.checked os f .any (s.pre6 enc Tryz.prog fn conds false) (s.post enc Tryz.prog fn false true false false):=by
 refine returnsInHanded_of_change_sized (C:=Tryz.checked) acA started KK hfn witness ?_;intro W base args ds gs before hval hW nW hsz _;have hW':=hW;have hlt:=hW.lt;obtain⟨p,q,hA,hV,rfl,hfz,Um⟩:=hW;rw[hvars]at hV;obtain⟨rfl,rfl⟩:=trodVars_none hV;obtain⟨a,wa,ra⟩:=R5 N1 fn.params.toList (ctx.sig f).params args.toList ds p 0 hps hA (fun j t v ht hv=>hval j t v (by simpa using ht) (by simpa using hv));obtain⟨n,r,hr,hb⟩:=WS a wa;have pre:Pre W.heap (Old W) (fun _=>Nil) (ctx.sig f).params a args.toList:=
  ⟨ra,fun _ _ _=>cB.nil _,fun _=>cB.nil _,fun _ b hb=>hb.elim,fun b hb=>hb⟩
 have hc:=(ak9 X n).ok f a r hr W (Old W) (fun _=>Nil) args.toList pre;rw[pq]at hc;refine hc.mono ?_;rintro e W' ⟨val,fO,Gs,Os,us,rfl,ps⟩;obtain rfl:=hb _ _ _ _ ps.res;have hv:=ps.val;simp only[tF]at hv;subst hv;have bel:=acd ps.fr;obtain⟨e1,e2,e3⟩:=Lm (ds++[]) (by rw[gR,(trodAll_length hA).2,iN]);refine⟨_,rfl,ds,[],p++[],[],p,[],hW',?_,?_,?_,bel.frame _,fun h=>by cases h⟩
 .rw[e1,hres];exact trodAll_mk1 (shut_bool htb _)
 .rw[e2,gR];exact Pe laid bel hrd hA (fun x hx=>hlt x (by simp[hx]))
 .rw[e3,hvars];rfl
end
end Go.V

import Derived.Orders
import Derived.Test.YtpmimbgkiindbaaGreatProg
import Derived.KernelRfl
import Derived.WalkKit
import Derived.ProofKit
import Derived.OpenShut
import Derived.Below
import Derived.ChangeOld
import Derived.SizedLaws
import Derived.Test.YtpmimbgkiindbaaGreatRows
import Derived.Carry
import Derived.ChangeCalls
import Derived.Test.YtpmimbgkiindbaaGreatAV2
set_option maxRecDepth 100000
set_option linter.unusedVariables false
set_option linter.unusedSimpArgs false
set_option linter.unusedSectionVars false
namespace Go.V
noncomputable section
open Go
theorem Se(look:Nat->Nat)(i:Nat):∀(l:List Edge)(s:Nat),(l.foldl (fun s e=>if Region.binds .any e then s |||2 ^ e.on |||look e.on else s) s).testBit i=true->
  s.testBit i=true\/∃e∈l,Region.binds .any e=true/\(e.on=i\/(look e.on).testBit i=true)
 | [],s,h=>.inl h
 | e::l,s,h=>by
  rw[nK]at h;rcases Se look i l _ h with h | ⟨e',he,hh⟩
  .by_cases hb:Region.binds .any e=true
   .rw[aj hb,Nat.testBit_or,Nat.testBit_or,Nat.testBit_two_pow]at h;simp only[jB,gS]at h;rcases h with(h | h) | h
    .exact .inl h
    .exact .inr ⟨e,e8,hb,.inl h⟩
    .exact .inr ⟨e,e8,hb,.inr h⟩
   .rw[af hb]at h;exact .inl h
  .exact .inr ⟨e',cF _ he,hh⟩
def N7(acc:Array Nat)(l:List Oper):Prop:=acc.size=l.length/\∀j i,(acc.getD j 0).testBit i=true->∃o,l[j]? = some o/\∃e∈o.after,Region.binds .any e=true/\(e.on=i\/(e.on<j/\(acc.getD e.on 0).testBit i=true))
theorem NQ:∀(l:List Oper)(acc:Array Nat)(d:List Oper),N7 acc d->
  N7 (l.foldl (fun acc o=>acc.push (o.after.foldl (fun s e=>if Region.binds .any e then s |||2 ^ e.on |||acc.getD e.on 0 else s) 0)) acc) (d++l)
 | [],acc,d,h=>by simpa using h
 | o::l,acc,d,h=>by
  rw[nK];have e:d++o::l=(d++[o])++l:=by simp
  rw[e];refine NQ l _ _ ⟨by simp[h.1],fun j i hb=>?_⟩;have hs:=h.1;have gd:∀q(v:Nat),(acc.push v).getD q 0=if q=acc.size then v else acc.getD q 0:=by intro q v;simp only[pq,B8];split<;>rfl
  rw[gd]at hb;by_cases hj:j=acc.size
  .rw[aj hj,<-FJ]at hb;rcases Se (fun n=>acc.getD n 0) i _ _ hb with h0 | ⟨e',he,hbd,hh⟩
   .simp at h0
   .refine⟨o,by rw[hj,hs];simp,e',by simpa using he,hbd,?_⟩;rcases hh with hh | hh
    .exact .inl hh
    .have hlt:e'.on<acc.size:=by
      rcases Cf e'.on acc.size with h | h
      .exact h
      .simp[pq,F6 h]at hh
     refine .inr ⟨by omega,?_⟩;rw[gd,af (by omega)];exact hh
  .rw[af hj]at hb;obtain⟨o',ho',e',he,hbd,hh⟩:=h.2 j i hb;have hlt:j<d.length:=(SH.1 ho').1;refine⟨o',by rw[kz hlt];exact ho',e',he,hbd,hh.imp id fun hh=>⟨hh.1,?_⟩⟩;rw[gd,af (by omega)];exact hh.2
theorem Q5(ops:Array Oper){j i:Nat}(h:((Region.before ops).getD j 0).testBit i=true) :
  ∃o,ops[j]? = some o/\∃e∈o.after,Region.binds .any e=true/\(e.on=i\/(e.on<j/\((Region.before ops).getD e.on 0).testBit i=true)):=by
 have:=NQ ops.toList #[] [] ⟨rfl,fun j i hb=>by simp at hb⟩;unfold Region.before at h⊢;rw[<-FJ]at h⊢;obtain⟨o,ho,hh⟩:=this.2 j i h;exact⟨o,by simpa using ho,hh⟩
theorem abD{ops:Array Oper}(he:E9 ops=true):∀(j i:Nat),((Region.before ops).getD j 0).testBit i=true->i<j:=by
 intro j
 induction j using Nat.strongRecOn with
 | _ j ih=>
  intro i h;obtain⟨o,ho,e,hm,hb,hh⟩:=Q5 ops h;have hlt:e.on<j:=by
   simp only[E9,qQ]at he;have hx:(j,o)∈nt ops:=by simp only[nt,eJ];exact⟨(o,j),FW.2 (by simpa using ho),rfl⟩
   have:=he (j,o) hx;rw[N2]at this;have:=this e hm;rw[hb]at this;simpa [n8] using this
  rcases hh with rfl | ⟨_,hh⟩
  .exact hlt
  .exact Nat.lt_trans (ih e.on hlt i hh) hlt
def Down(ops:Array Oper)(listed:Array Bool):Prop:=∀(j:Nat) o,ops[j]? = some o->listed.getD j false=true->∀e∈o.after,Region.binds .any e=true->listed.getD e.on false=true
theorem aiv{ops:Array Oper}{listed:Array Bool}(hd:Down ops listed):∀(j i:Nat),((Region.before ops).getD j 0).testBit i=true->
  (∀o,ops[j]? = some o->∀e∈o.after,Region.binds .any e=true->listed.getD e.on false=true)->listed.getD i false=true:=by
 intro j
 induction j using Nat.strongRecOn with
 | _ j ih=>
  intro i h hl;obtain⟨o,ho,e,hm,hb,hh⟩:=Q5 ops h;have h1:=hl o ho e hm hb;rcases hh with rfl | ⟨hlt,hh⟩
  .exact h1
  .exact ih e.on hlt i hh fun o' ho'=>hd e.on o' ho' h1
theorem jK.tT(e f:jK):e.free f=f.free e:=by
 unfold jK.free;cases e.wr<;>cases f.wr
 .rfl
 .rfl
 .rfl
 .rename_i w w';simp only;cases e.lc<;>cases f.lc<;>cases jd w f.rd<;>cases jd w w'<;>cases jd w' e.rd<;>cases jd w' w<;>cases e.st.contains f.site<;>cases f.st.contains e.site<;>rfl
theorem Qx{M:Array Nat}{e:jK}:∀{l:Log},Bi M e l=true->∀f∈l,e.i=f.i\/u5 M e.i f.i=true\/e.free f=true
 | [],_,f,hf=>by simp at hf
 | g::l,h,f,hf=>by
  simp only[Bi,bI,jB]at h;rcases bh.1 hf with rfl | hf
  .rcases h.1 with(h | h) | h
   .exact .inl (mS h)
   .exact .inr (.inl h)
   .exact .inr (.inr h)
  .exact Qx h.2 f hf
theorem GW{M:Array Nat}{all:Log}:∀{l:Log},DI M all l=true->∀e∈l,e.wr≠none->∀f∈all,e.i=f.i\/u5 M e.i f.i=true\/e.free f=true
 | [],_,e,he=>by simp at he
 | g::l,h,e,he=>by
  simp only[DI,bI]at h;intro hw;rcases bh.1 he with rfl | he
  .have:=h.1;cases mW:e.wr with
   | none=>exact absurd mW hw
   | some W=>rw[mW]at this;exact Qx this
  .exact GW h.2 e he hw
theorem ajV(M:Array Nat)(i j:Nat):u5 M i j=u5 M j i:=by simp[u5,Bool.or_comm]
theorem aj7{M:Array Nat}{LG:Log}(h:DI M LG LG=true){e f:jK}(he:e∈LG)(hf:f∈LG)(hne:e.i≠f.i)(ho:u5 M e.i f.i=false):e.free f=true:=by
 cases mW:e.wr with
 | some W=>
  rcases GW h e he (by rw[mW];simp) f hf with h | h | h
  .exact absurd h hne
  .rw[ho]at h;simp at h
  .exact h
 | none=>
  cases hwf:f.wr with
  | none=>simp[jK.free,mW,hwf]
  | some W=>
   rcases GW h f hf (by rw[hwf];simp) e he with h | h | h
   .exact absurd h.symm hne
   .rw[ajV,ho]at h;simp at h
   .rw[jK.tT];exact h
theorem Qh{M:Array Nat}{ops:Array Oper}{i:Nat}{x:Oper}:∀{l:List (Nat×Oper)},AY M ops i x l=true->∀y∈l,u5 M i y.1=true\/IN ops i y.1 x y.2=true
 | [],_,y,hy=>by simp at hy
 | (j,z)::l,h,y,hy=>by
  simp only[AY,bI,jB]at h;rcases bh.1 hy with rfl | hy
  .exact h.1
  .exact Qh h.2 y hy
theorem Qg{M:Array Nat}{ops:Array Oper}:∀{l:List (Nat×Oper)},I2 M ops l=true->l.Pairwise fun x y=>u5 M x.1 y.1=true\/IN ops x.1 y.1 x.2 y.2=true
 | [],_=>List.Pairwise.nil
 | (i,x)::l,h=>by
  simp only[I2,bI]at h;exact List.Pairwise.cons (fun y hy=>Qh h.1 y hy) (Qg h.2)
section
variable (C:Ctx) (D:Den C) (hints:Hints) (id:Nat) (ops:Array Oper)
noncomputable def jl(β:Nat->Bool):List (Nat×Oper)->St->Option (St×Log)
 | [],S=>some (S,[])
 | (i,o)::l,S=>(g7 C D hints id ops (β i) S i o).bind fun x=>(jl β l x.1).map fun y=>(y.1,x.2::y.2)
end
section
variable {C:Ctx} {D:Den C} {hints:Hints} {id:Nat} {ops:Array Oper}
theorem MR{β:Nat->Bool}:∀(l:List (Nat×Oper))(S:St),jl C D hints id ops β l S=eN C D hints id ops (l.map fun x=>β x.1) l S
 | [],S=>rfl
 | (i,o)::l,S=>by
  simp only[jl,eN,cv,sC,Gh];congr 1;funext x;rw[MR l x.1]
theorem Hr{β:Nat->Bool}{i:Nat}{o:Oper}{l:List (Nat×Oper)}{S S':St}{lg:Log}(h:jl C D hints id ops β ((i,o)::l) S=some (S',lg)) :
  ∃S1 e gI,g7 C D hints id ops (β i) S i o=some (S1,e)/\jl C D hints id ops β l S1=some (S',gI)/\lg=e::gI:=by
 simp only[jl,cM,fq,aY]at h;obtain⟨⟨S1,e⟩,hs,⟨S2,Jr⟩,hr,rfl,rfl⟩:=h;exact⟨S1,e,Jr,hs,hr,rfl⟩
theorem MS{β:Nat->Bool}{i:Nat}{o:Oper}{l:List (Nat×Oper)}{S S1 S':St}{e:jK}{gI:Log}(hs:g7 C D hints id ops (β i) S i o=some (S1,e))(hr:jl C D hints id ops β l S1=some (S',gI)) :
  jl C D hints id ops β ((i,o)::l) S=some (S',e::gI):=by
 simp only[jl,hs,dG,hr,d_]
theorem QH{β β':Nat->Bool}:∀(l:List (Nat×Oper))(S:St),(∀x∈l,β' x.1=β x.1)->jl C D hints id ops β' l S=jl C D hints id ops β l S
 | [],S,_=>rfl
 | (i,o)::l,S,h=>by
  simp only[jl];have:=h (i,o) e8;simp only at this;rw[this];congr 1;funext x;rw[QH l x.1 fun y hy=>h y (cF _ hy)]
theorem QI{β:Nat->Bool}{j:Nat}{y:Oper}{post:List (Nat×Oper)}:∀(pre:List (Nat×Oper))(S S':St)(lg:Log),jl C D hints id ops β (pre++(j,y)::post) S=some (S',lg)->
  (∀x∈pre,IN ops x.1 j x.2 y=true)->(∀ex∈lg,∀ey∈lg,(∃x∈pre,ex.i=x.1)->ey.i=j->ex.free ey=true)->
  ∃EI,jl C D hints id ops β ((j,y)::(pre++post)) S=some (S',EI)/\∀e∈EI,e∈lg
 | [],S,S',lg,h,_,_=>⟨lg,h,fun e he=>he⟩
 | (i,x)::pre,S,S',lg,h,hap,hfr=>by
  rw[fI]at h;obtain⟨S1,ex,gI,h1,h2,rfl⟩:=Hr h;obtain⟨Jr,k1,k2⟩:=QI pre S1 S' gI h2 (fun x hx=>hap x (cF _ hx))
   (fun a ha b hb ⟨z,hz,e⟩ hj=>hfr a (cF _ ha) b (cF _ hb) ⟨z,cF _ hz,e⟩ hj)
  obtain⟨S2,ey,lg3,q1,q2,rfl⟩:=Hr k1;have hi:=(AS h1).2;have hj:=(AS q1).2;obtain⟨T1,t1,t2⟩:=swap h1 q1 (hap (i,x) e8) (hfr ex e8 ey (cF _ (k2 ey e8)) ⟨(i,x),e8,hi⟩ hj);refine⟨ey::ex::lg3,MS t1 (MS t2 q2),fun e he=>?_⟩;rcases bh.1 he with rfl | he
  .exact cF _ (k2 _ e8)
  .rcases bh.1 he with rfl | he
   .exact e8
   .exact cF _ (k2 _ (cF _ he))
end
theorem A8{ops:Array Oper}{j:Nat}{o:Oper}(h:ops[j]? = some o):(j,o)∈nt ops:=by simp only[nt,eJ];exact⟨(o,j),FW.2 (by simpa using h),rfl⟩
section
variable {P:Program} {C:Ctx} {D:Den C} (bn:iC P C) (dz:ot P C D)
include bn dz
theorem ald{np:List Nat}{Q:Exit->Act->World->Prop}{hints:Hints}{id:Nat}{ops:Array Oper}{F:St->Prop}(hgd:Ma ops=true)(hed:E9 ops=true)(XE:I2 (Region.before ops) ops (nt ops)=true)(hnp:JH np ops=true) :
  ∀(fuel:Nat)(listed:Array Bool)(rest:List (Nat×Oper))(S:St)(g:aA)(a:Act)(w:World),rest.length<=fuel->listed.size=ops.size->Down ops listed->rest.Sublist (nt ops)->
   (∀x∈nt ops,x∈rest↔listed.getD x.1 true=false)->aE w.heap S g a.tmps Nil->a.defers=[]->
   (∀β,∃S' lg LG,jl C D hints id ops β rest S=some (S',lg)/\(∀e∈lg,e∈LG)/\DI (Region.before ops) LG LG=true/\F S')->
   (∀S' g' a' w',F S'->aE w'.heap S' g' a'.tmps Nil->g'.cR g->kK g.L w w'->a'.defers=[]->vn np a a'->Q .normal a' w')->wpAny P .any ops Q fuel listed a w:=by
 intro fuel
 induction fuel with
 | zero=>
  intro listed rest S g a w hlen hsz hdn hsub hiff st hdf hrun hQ;have hr:rest=[]:=lG.1 (by omega);subst hr;refine⟨?_,?_⟩
  .apply List.eq_nil_iff_forall_not_mem.2;intro j hj;obtain⟨h0,o,ho,_⟩:=mem_ready.1 hj;have:=(hiff (j,o) (A8 ho)).2 h0;simp at this
  .obtain⟨S',lg,LG,h1,_,_,h4⟩:=hrun fun _=>true;simp only[jl,aK,aY]at h1;obtain⟨rfl,_⟩:=h1;exact hQ S g a w h4 st (.refl g) (.refl _ _) hdf (.refl _ _)
 | succ fuel ih=>
  intro listed rest S g a w hlen hsz hdn hsub hiff st hdf hrun hQ;have hft:∀j,j<ops.size->(listed.getD j true=listed.getD j false):=by
   intro j hj;have:j<listed.size:=by omega
   simp[Array.getD,this]
  refine⟨fun hre=>?_,fun j hj=>?_⟩
  .have hr:rest=[]:=by
    cases rest with
    | nil=>rfl
    | cons x rest=>
     exfalso;have key:∀j,j<ops.size->listed.getD j true=true:=by
      intro j
      induction j using Nat.strongRecOn with
      | _ j ihj=>
       intro hlt;cases hl:listed.getD j true with
       | true=>rfl
       | false=>
        exfalso;have ho:ops[j]? = some ops[j]:=vE hlt;have:j∈Region.ready .any ops listed:=by
         refine mem_ready.2 ⟨hl,ops[j],ho,fun e he hb=>?_⟩;have Xb:e.on<j:=by have UB:=hed;simp only[E9,qQ]at UB;have:=UB (j,ops[j]) (A8 ho);rw[N2]at this;have:=this e he;rw[hb]at this;simpa [n8] using this
         rw[<-hft e.on (by omega)];exact ihj e.on Xb (by omega)
        rw[hre]at this;simp at this
     have hx:=hsub.subset e8;have h0:=(hiff x hx).1 e8;have ej:=xU x hx;have:=key x.1 (rC.1 ej).1;rw[h0]at this;simp at this
   subst hr;obtain⟨S',lg,LG,h1,_,_,h4⟩:=hrun fun _=>true;simp only[jl,aK,aY]at h1;obtain⟨rfl,_⟩:=h1;exact hQ S g a w h4 st (.refl g) (.refl _ _) hdf (.refl _ _)
  .obtain⟨h0,y,hy,wS⟩:=mem_ready.1 hj;have al2:j<ops.size:=(rC.1 hy).1;have hmem:=(hiff (j,y) (A8 hy)).2 h0;obtain⟨pre,post,rfl⟩:=List.append_of_mem hmem
   -- indexes are apart
   have UG:((nt ops).map (·.1)).Nodup:=by rw[U9];exact List.nodup_range
   have Xm:=(hsub.map (·.1)).nodup UG;simp only[pG,cv]at Xm;have Ak:((pre++(j,y)::post).map (·.1)).Pairwise (· < ·):=by refine List.Pairwise.sublist (hsub.map (·.1)) ?_;rw[U9];exact List.pairwise_lt_range
   have hlt:∀x∈pre,x.1<j:=by intro x hx;rw[pG,yf]at Ak;exact Ak.2.2 x.1 (eJ.2 ⟨x,hx,rfl⟩) j (by simp)
   have hgt:∀x∈post,j<x.1:=by intro x hx;rw[pG,yf,cv,me]at Ak;exact Ak.2.1.1 x.1 (eJ.2 ⟨x,hx,rfl⟩)
   have hun:∀x∈pre,u5 (Region.before ops) x.1 j=false:=by
    intro x hx;have hxt:x∈nt ops:=hsub.subset (by simp[hx]);have hxu:=(hiff x hxt).1 (by simp[hx]);cases ho:u5 (Region.before ops) x.1 j with
    | false=>rfl
    | true=>
     exfalso;simp only[u5,jB]at ho;rcases ho with ho | ho
     .have:=aiv hdn j x.1 ho fun o' ho' e he hb=>by
       rw[hy]at ho';simp only[aK]at ho';subst ho';exact wS e he hb
      have XS:x.1<ops.size:=(rC.1 (xU x hxt)).1;rw[<-hft x.1 XS,hxu]at this;simp at this
     .have:=abD hed _ _ ho;have:=hlt x hx;omega
   have hap:∀x∈pre,IN ops x.1 j x.2 y=true:=by
    intro x hx;have:=(Qg XE).sublist hsub;rw[yf]at this;rcases this.2.2 x hx (j,y) (by simp) with h | h
    .have:=hun x hx;simp only at h;rw[this]at h;simp at h
    .exact h
   have C4:∀β,∃S1 e S' lg LG,g7 C D hints id ops (β j) S j y=some (S1,e)/\jl C D hints id ops β (pre++post) S1=some (S',lg)/\(∀e∈lg,e∈LG)/\DI (Region.before ops) LG LG=true/\F S':=by
    intro β;obtain⟨S',lg,LG,h1,h2,h3,h4⟩:=hrun β;obtain⟨EI,q1,q2⟩:=QI pre S S' lg h1 hap (by
     intro ex hex ey hey hx hyj;obtain⟨x,hx,e1⟩:=hx;refine aj7 h3 (h2 ex hex) (h2 ey hey) ?_ ?_
     .rw[e1,hyj];have:=hlt x hx;omega
     .rw[e1,hyj];exact hun x hx)
    obtain⟨S1,e,gI,t1,t2,rfl⟩:=Hr q1;exact⟨S1,e,S',gI,LG,t1,t2,fun e he=>h2 e (q2 e (cF _ he)),h3,h4⟩
   refine Nn bn dz st (hints:=hints) (id:=id) hy (fun j' c=>Rk hgd j y j' c hy) hdf (Sh hnp (j,y) (A8 hy)) (fun β=>?_) ?_
   .obtain⟨S1,e,_,_,_,h1,_⟩:=C4 fun _=>β;exact⟨_,h1⟩
   .intro βj S1 e a' w' g' hs st' iK hfr iI oA;refine ih (listed.setIfInBounds j true) (pre++post) S1 g' a' w' ?_ (by simpa using hsz) ?_ ?_ ?_ st' iI ?_ ?_
    .simp only[cT,ct]at hlen⊢;omega
    .intro q o hq hlq e he hb;by_cases hqj:j=q
     .subst hqj;rw[hy]at hq;simp only[aK]at hq;subst hq;exact getD_set_true (wS e he hb)
     .rw[getD_set_ne false hqj]at hlq;exact getD_set_true (hdn q o hq hlq e he hb)
    .exact List.Sublist.trans (List.Sublist.append (List.Sublist.refl pre) (List.sublist_cons_self _ _)) hsub
    .intro x hx;have hx1:=hiff x hx;by_cases UR:x.1=j
     .constructor
      .intro hm;exfalso;rcases bN.1 hm with hm | hm
       .have:=hlt x hm;omega
       .have:=hgt x hm;omega
      .intro h;exfalso;have iJ:j<listed.size:=by omega
       simp[UR,Array.getD,iJ]at h
     .rw[getD_set_ne true (fun h=>UR h.symm),<-hx1];simp only[bN,bh];constructor
      .rintro(h | h)
       .exact .inl h
       .exact .inr (.inr h)
      .rintro(h | h | h)
       .exact .inl h
       .exact absurd (by rw[h]) UR
       .exact .inr h
    .intro β;obtain⟨S1',e',S',lg,LG,h1,h2,h3⟩:=C4 fun n=>if n=j then βj else β n
     simp only[aX]at h1;rw[hs]at h1;simp only[aK,aY]at h1;obtain⟨rfl,rfl⟩:=h1;refine⟨S',lg,LG,?_,h3⟩;rw[<-h2];symm;refine QH _ _ fun x hx=>?_;rw[af];intro UR;rcases bN.1 hx with hm | hm
     .have:=hlt x hm;omega
     .have:=hgt x hm;omega
    .intro S' tU Jd w'' hF vA xj p_ wR wV;exact hQ S' tU Jd w'' hF vA (iK.trans xj) (hfr.trans (by rw[iK.2.1]at p_;exact p_)) wR (oA.trans wV)
theorem aj2{np:List Nat}{R:Type}{r:R}{H:Hints}{id:Nat}{ops:Array Oper}{S:St}{k:Ex->St->Option R}{Q:Exit->Act->World->Prop}{g:aA}{a:Act}{w:World}{n:Nat}
  (j6:P.follows .mixedOrders=true) (hnp:JH np ops=true) (h:exec C D H n (.region id ops true) S k=some r):jL np P C Q r (.region id ops true) S k g a w:=by
 intro st hdf hQ;simp only[exec]at h;split at h
 .rename_i hgd;have hR:=fun βs=>LY (hints:=H) _ _ _ _ h S (fE.refl S) βs;have wN:E9 ops=true/\I2 (Region.before ops) ops (nt ops)=true:=by
   obtain⟨T1,gr,S1,gI,_,q2,_⟩:=hR [];simp only[aX]at q2;split at q2
   .rename_i hc;simp only[bI]at hc;exact⟨hc.1.1,hc.2⟩
   .simp at q2
  refine wp_region_any j6 ?_;refine ald (hints:=H) (id:=id) (F:=fun S'=>∃S1,k .normal S1=some r/\fE S1 S') bn dz hgd wN.1 wN.2 hnp ops.size _ (nt ops) S g a _ ?_ (by simp) ?_ (List.Sublist.refl _) ?_ st hdf (fun β=>?_) ?_
  .have:=ew List.length (U9 (ops:=ops));simp only[jC,FO]at this;omega
  .intro j o ho hl;exfalso;have hlt:=(rC.1 ho).1;simp[hlt]at hl
  .intro x hx;have hlt:=(rC.1 (xU x hx)).1;simp[hx,hlt]
  .obtain⟨T1,gr,S1,gI,q1,q2,q3,q4,_⟩:=hR ((nt ops).map fun x=>β x.1);simp only[aX]at q2;split at q2
   .rename_i hc;simp only[bI]at hc;exact⟨T1,gr,gI,by rw[MR];exact q1,q4,hc.1.2,S1,q2,q3⟩
   .simp at q2
  .intro S' g' a' w' hF st' iK hfr iI oA;obtain⟨S1,hk,qB⟩:=hF;exact hQ .normal S1 g' a' w' hk (MT qB st') iK ((kK.drawn _).trans hfr) iI oA
 .simp at h
theorem E_{np:List Nat}{R:Type}{r:R}{H:Hints}(j6:P.follows .mixedOrders=true):∀(c:Code)(n:Nat)(S:St)(k:Ex->St->Option R),sF np c=true->exec C D H n c S k=some r->
  ∀(Q:Exit->Act->World->Prop)(g:aA)(a:Act)(w:World),jL np P C Q r c S k g a w
 | .skip,n,S,k,hc,h,Q,g,a,w=>by
  intro st hdf hQ;exact wp_skip (hQ .normal S g a w (by simpa only [exec] using h) st (.refl g) (.refl _ _) hdf (.refl _ _))
 | .region id ops dr,n,S,k,hc,h,Q,g,a,w=>by
  cases dr with
  | false=>exact acn bn dz hc h
  | true=>exact aj2 bn dz j6 hc h
 | .seq x y,n,S,k,hc,h,Q,g,a,w=>by
  intro st hdf hQ;simp only[sF,bI]at hc;simp only[exec]at h;refine wp_seq (E_ j6 x n S _ hc.1 h _ g a w st hdf ?_);intro e S' g' a' w' hk st' iK hfr iI oA;cases e with
  | normal=>simp only[Ex.out,Exit.then];refine E_ j6 y n _ k hc.2 hk Q g' a' w' (show aE w'.heap (r5 H y S') g' a'.tmps Nil by unfold r5;split<;>first | exact A3 st' _ _ | exact st') iI ?_;intro e2 S2 g2 a2 w2 hk2 pe qC ud WX wW;exact hQ e2 S2 g2 a2 w2 hk2 pe (iK.trans qC) (hfr.trans (by rw[iK.2.1]at ud;exact ud)) WX (oA.trans wW)
  | exit id=>exact hQ (.exit id) S' g' a' w' hk st' iK hfr iI oA
  | ret=>exact hQ .ret S' g' a' w' hk st' iK hfr iI oA
 | .cond c x y,n,S,k,hc,h,Q,g,a,w=>by
  intro st hdf hQ;simp only[exec]at h;cases hb:V.asBool (ev S c) with
  | none=>rw[hb]at h;simp at h
  | some t=>
   rw[hb]at h;simp only at h;have hv:=Q3 hb (Od st c);refine wp_cond (t:=t) hv ?_;cases t with
   | true=>exact E_ j6 x n S k (by simp only[sF,bI]at hc;exact hc.1) h Q g a w st hdf hQ
   | false=>exact E_ j6 y n S k (by simp only[sF,bI]at hc;exact hc.2) h Q g a w st hdf hQ
 | .block id x,n,S,k,hc,h,Q,g,a,w=>by
  intro st hdf hQ;simp only[exec]at h;refine wp_block (E_ j6 x n S _ (by simpa only [sF] using hc) h _ g a w st hdf ?_);intro e S' g' a' w' hk st' iK hfr iI oA;cases e with
  | normal=>exact hQ .normal S' g' a' w' hk st' iK hfr iI oA
  | exit j=>
   simp only at hk;simp only[Ex.out,Exit.inBlock];split at hk
   .rename_i hj;rw[aj hj];exact hQ .normal S' g' a' w' hk st' iK hfr iI oA
   .rename_i hj;rw[af hj];exact hQ (.exit j) S' g' a' w' hk st' iK hfr iI oA
  | ret=>exact hQ .ret S' g' a' w' hk st' iK hfr iI oA
 | .loop x,n,S,k,hc,h,Q,g,a,w=>by
  intro st hdf hQ;simp only[exec]at h;cases hl:H.keep.lookup (Ct x) with
  | none=>rw[hl]at h;simp at h
  | some kp=>
   rw[hl]at h;simp only at h;have key:∀(m:Nat)(S:St)(g1:aA)(a1:Act)(w1:World),sv (exec C D H n x) (St.canon kp.1 kp.2.2) (St.canon kp.2.1 kp.2.2) m S k=some r->aE w1.heap S g1 a1.tmps Nil->g1.cR g->kK g.L w w1->a1.defers=[]->vn np a a1->
     ∀b k' cs,∃e a' w',Q e a' w'/\Arrives P (lone (b.at a1 (.code x::.inLoop x::k')) cs w1) b k' cs e a' w':=by
    intro m
    induction m with
    | zero=>intro S g1 a1 w1 h;simp[sv]at h
    | succ m ih=>
     intro S g1 a1 w1 h st iK hfr hdf oA b k' cs;simp only[sv]at h;have hx:=E_ j6 x n _ _ (by simpa only [sF] using hc) h (Exit.then (fun a' w'=>∀b k' cs,∃e Jd w'',Q e Jd w''/\Arrives P (lone (b.at a' (.code x::.inLoop x::k')) cs w') b k' cs e Jd w'') Q) g1 a1 w1 (A3 st kp.1 kp.2.2) hdf (by
      intro e S' g' a' w' hk st' xj p_ iI wV;have wW:=oA.trans wV;have qC:=iK.trans xj;have ud:kK g.L w w':=hfr.trans (by rw[iK.2.1]at p_;exact p_);cases e with
      | normal=>exact ih S' g' a' w' hk st' qC ud iI wW
      | exit id=>exact hQ (.exit id) _ g' a' w' hk (A3 st' kp.2.1 kp.2.2) qC ud iI wW
      | ret=>exact hQ .ret _ g' a' w' hk (A3 st' kp.2.1 kp.2.2) qC ud iI wW)
     obtain⟨e,a₁,w₁,hq,kN⟩:=hx b (.inLoop x::k') cs;cases e with
     | normal=>obtain⟨e₂,a₂,w₂,hq₂,harr₂⟩:=hq b k' cs;exact⟨e₂,a₂,w₂,hq₂,.of_steps (Steps.trans kN (.one step_inLoop)) harr₂⟩
     | exit id=>exact⟨_,a₁,w₁,hq,.pass (x:=.inLoop x) rfl (fun _ _=>.inl (by simp)) kN⟩
     | goto l=>exact⟨_,a₁,w₁,hq,.pass (x:=.inLoop x) rfl (fun _ _=>.inl (by simp)) kN⟩
     | ret=>exact⟨_,a₁,w₁,hq,.pass (x:=.inLoop x) rfl (fun _ _=>.inl (by simp)) kN⟩
     | panic ch=>exact⟨_,a₁,w₁,hq,.pass (x:=.inLoop x) rfl (fun _ _=>.inl (by simp)) kN⟩
     | outgrown=>exact⟨_,a₁,w₁,hq,.pass (x:=.inLoop x) rfl (fun _ _=>.inl (by simp)) kN⟩
   intro b k' cs;obtain⟨e,a',w',hq,kN⟩:=key n S g a w h st (.refl g) (.refl _ _) hdf (.refl _ _) b k' cs;exact⟨e,a',w',hq,.of_steps (.one step_loop) kN⟩
 | .exit id,n,S,k,hc,h,Q,g,a,w=>by
  intro st hdf hQ;exact wp_exit (hQ (.exit id) S g a w (by simpa only [exec] using h) st (.refl g) (.refl _ _) hdf (.refl _ _))
 | .ret,n,S,k,hc,h,Q,g,a,w=>by
  intro st hdf hQ;exact wp_ret (hQ .ret S g a w (by simpa only [exec] using h) st (.refl g) (.refl _ _) hdf (.refl _ _))
 | .rangeFunc _ _ _ _,n,S,k,hc,h,Q,g,a,w=>by simp[exec]at h
 | .scope _,n,S,k,hc,h,Q,g,a,w=>by simp[exec]at h
 | .label _,n,S,k,hc,h,Q,g,a,w=>by simp[exec]at h
 | .goto _,n,S,k,hc,h,Q,g,a,w=>by simp[exec]at h
 | .refuse _,n,S,k,hc,h,Q,g,a,w=>by simp[exec]at h
end
end
end Go.V
namespace Go.V
noncomputable section
open Go
theorem v8.mono{h:Array Obj}{Pr gh:BS}{t:Ty}{m:Mk}{x:t.den}{v:Value}{F:BS}(hp:Sub Pr gh)(r:v8 h Pr t m x v F):v8 h gh t m x v F:=by obtain⟨b,c,F0,e,r,k⟩:=r;exact⟨b,c,F0,e,az.mono hp (fun _ _=>rfl) t r (Sub.refl _) (fun _ _=>rfl),k⟩
theorem rX.mono{h:Array Obj}{Pr gh:BS}{k:RK}{x:k.den}{v:Value}{F:BS}(hp:Sub Pr gh)(r:rX h Pr k x v F):rX h gh k x v F:=by
 cases k with
 | val t m=>exact pM.mono hp r
 | ptr t m=>exact v8.mono hp r
def su(tmps:Array Value):ResultVar->Sem Value
 | .tmp t=>pure (tmps.getD t Go.undef)
 | .cell a t=>do loadVar t (<- asAddr (tmps.getD a Go.undef))
theorem abk{fn:Func}{tmps:Array Value}{P:Program}{w:World}{us:List Value}(h:(fn.results.toList.mapM (su tmps)).run P w=.ok us w):(results fn tmps).run P w=.ok (tJ us) w:=by
 have e:results fn tmps=(do let vs <- fn.results.mapM (su tmps);pure (if h:vs.size=1 then vs[0] else .tuple vs)):=by unfold results su;rfl
 rw[e,Array.mapM_eq_mapM_toList];simp only[Sem.run_bind,Sem.run_map,h,Result.andThen_ok]
 match us with
 | []=>simp[tJ]
 | [v]=>simp[tJ]
 | u::v::l=>simp[tJ]
section
variable {P:Program} {C:Ctx}
theorem RC{w:World}{t:TypeId}(k:mF P C t)(hz:(C.ty t).nz=true){b o:Nat}{c:List Value}(hr:w.rangeAt b o c)(hl:c.length=(C.ty t).width) :
  (do loadVar t (<- asAddr (.pointer (some ⟨b,o,none⟩))):Sem Value).run P w=.ok (dL (C.ty t) c) w:=by
 have:=Hs (P:=P) k hz hr hl;simpa only [Instr.loadAt,Instr.sureAddr,asAddr] using this
theorem alE(bn:iC P C){w:World}{S:St}{g:aA}{tmps:Array Value}{H:BS}(st:aE w.heap S g tmps H){t:TypeId}(hz:(C.ty t).nz=true){a v':AV}{va:Value}
  (ha:qe w.heap S g a va) (hl:vj S.rt (C.ty t) a=some v'):∃u,(do loadVar t (<- asAddr va):Sem Value).run P w=.ok u w/\qe w.heap S g v' u:=by
 have k:=bn t hz;cases a with
 | cj t' y=>
  simp only[vj]at hl;cases hc:qbv t' (C.ty t) y with
  | none=>rw[hc]at hl;simp at hl
  | some z=>rw[hc]at hl;simp only[qe]at ha;obtain⟨b,off,cs,e,hp,hb,hs,rep⟩:=ha;have hw:=az.width t' rep;obtain⟨e1,jR⟩:=az.cast hc rep;subst e1;have hrun:=RC (P:=P) (w:=w) k hz (Dw hb hs) hw;refine⟨_,by rw[e];exact hrun,?_⟩;simp at hl;subst hl;simp only[qe];exact⟨_,jR,rfl⟩
 | addr r p=>
  simp only[vj]at hl;cases hf:S.rt.focus r p with
  | none=>rw[hf]at hl;simp at hl
  | some d=>
   rw[hf]at hl;simp only at hl;by_cases hd:d.ty=C.ty t
   .simp only[hd,aX]at hl;have hf':=hf;simp only[aO.focus]at hf';split at hf'
    .rename_i R hR;obtain⟨b,off,c,hin,ej,e⟩:=Ht st hR hf' ha;obtain⟨base,c',F,q1,q2,q3,q4,q5⟩:=st.update hR hf' hin;rw[ej]at q1;simp only[aK,aY]at q1;obtain⟨rfl,rfl⟩:=q1;obtain⟨_,cs,Ao,hs,hsub⟩:=q4 b off rfl;have hw:=az.width d.ty q2;have m_:w.rangeAt b off c:=by have:=Dw (w:=w) Ao.CO hs;rw[hsub]at this;exact this
     have hrun:=RC (P:=P) k hz m_ (by rw[hw,hd]);obtain⟨dt,dm,dx⟩:=d;simp only at hd;subst hd;refine⟨_,by rw[e];exact hrun,?_⟩;simp only[aK]at hl;subst hl;exact dh.rel q2 (EY hR _ _ _ p (some (b,off)) c F hf' hin ej q2) (Ty.kV hz)
    .simp at hf'
   .rw[af hd]at hl;simp at hl
 | _=>simp[vj]at hl
theorem Mo(bn:iC P C){w:World}{S:St}{g:aA}{tmps:Array Value}{H:BS}(st:aE w.heap S g tmps H){v:ResultVar}{a:AV}(h:yg C S v=some a) :
  ∃u,(su tmps v).run P w=.ok u w/\qe w.heap S g a u:=by
 cases v with
 | tmp t=>simp only[yg,aK]at h;subst h;exact⟨_,by simp only[su,Sem.run_pure],st.slots t⟩
 | cell x t=>
  simp only[yg]at h;split at h
  .rename_i hz;exact alE bn st hz (st.slots x) h
  .simp at h
theorem ML{h:Array Obj}{S:St}{g:aA}{tmps:Array Value}{H:BS}(st:aE h S g tmps H){q:Nat}{R:aC}(hR:S.root q=some R)(hm:R.mem=true){t:Ty}{m:Mk}{x:t.den}{v:Value}
  (hs:m.aP R.ms=true) (hc:qbv R.ty t R.x=some x) (hv:qe h S g (.addr q []) v) :
  ∃g' F,aE h (S.aI q none) g' tmps (Un H F)/\v8 h g'.Pr t m x v F/\cB F H/\g'.cR g/\Sub g.Pr g'.Pr:=by
 obtain⟨F,r1,r2,r3,r4,_⟩:=st.roots q R hR;obtain⟨b,bP,gw,KE⟩:=r4 hm;have hq:(S.root q).isSome:=by rw[hR];rfl
 have s1:=st.gD hq;obtain⟨_,rx⟩:=az.cast hc r1;obtain⟨F1,F2,q1,q2,q3,q4⟩:=az.aP t hs rx;have s2:=s1.cP F2 (fun z hz=>.inr (r2 z (q2 z hz)));obtain⟨b',off,c,hin,ej,e⟩:=Ht st hR (p:=[]) (d:=⟨R.ty,R.ms,R.x⟩) (by simp only[focus]) hv;have WM:cr h R.ty (g.C q) (g.base q) []=some (g.base q,g.C q):=by cases R.ty<;>rfl
 rw[WM]at ej;simp only[aK,aY,aA.base,bP,d_]at ej;obtain⟨⟨rfl,rfl⟩,rfl⟩:=ej;refine⟨{ g with Pr:=Un g.Pr F2 },fun z=>F1 z\/z=b,s2.bB ?_,⟨b,g.C q,F1,e,q4,KE,.inr rfl,fun z hz=>.inl hz,fun hz=>r3 b bP (q1 b hz)⟩,?_,⟨rfl,rfl,rfl⟩,fun z hz=>.inl hz⟩
 .rintro z (hz | hz | rfl)
  .exact⟨.inl hz,fun h2=>st.hand q hq z (r2 z (q2 z h2)) hz⟩
  .exact⟨.inr (r2 z (q1 z hz)),fun h2=>q3 z hz h2⟩
  .exact⟨.inr gw,fun h2=>r3 z bP (q2 z h2)⟩
 .rintro z (hz | rfl) hh
  .exact st.hand q hq z (r2 z (q1 z hz)) hh
  .exact st.hand q hq z gw hh
theorem Q0(bn:iC P C){w:World}{tmps:Array Value}:∀(rs:List RK)(vs:List ResultVar)(S:St)(g:aA)(H:BS)(i:Nat)(r:f9 rs)(S':St),aE w.heap S g tmps H->v_ C rs vs S=some (r,S')->
  ∃us g' H' Gs,(vs.mapM (su tmps)).run P w=.ok us w/\aE w.heap S' g' tmps H'/\g'.cR g/\Sub g.Pr g'.Pr/\lu w.heap g'.Pr Gs i rs r us/\(∀j,j<i->Gs j=Nil)/\
   (∀j,Sub (Gs j) H')/\(∀j k,j≠k->cB (Gs j) (Gs k))/\(∀j,cB (Gs j) H)/\Sub H H'
 | [],[],S,g,H,i,r,S',st,h=>by
  simp only[v_,aK,aY]at h;obtain⟨_,rfl⟩:=h;exact⟨[],g,H,fun _=>Nil,by simp,st,.refl g,Sub.refl _,rfl,fun _ _=>rfl,fun _=>Sub.nil _,fun _ _ _=>cB.nil _,fun _=>cB.nil _,Sub.refl _⟩
 | [],_::_,S,g,H,i,r,S',st,h=>by simp[v_]at h
 | k::_,[],S,g,H,i,r,S',st,h=>by cases k<;>simp[v_]at h
 | k::ks,v::vs,S,g,H,i,r,S',st,h=>by
  -- one
  have one:∃u S1 x g1 F rr,(su tmps v).run P w=.ok u w/\aE w.heap S1 g1 tmps (Un H F)/\rX w.heap g1.Pr k x u F/\cB F H/\g1.cR g/\Sub g.Pr g1.Pr/\v_ C ks vs S1=some (rr,S')/\r=(x,rr):=by
   cases k with
   | val t m=>
    simp only[v_,cM]at h;obtain⟨a,ha,⟨mx,x,rt'⟩,sg,h⟩:=h;split at h
    .rename_i hs;simp only[cM,aK,aY]at h;obtain⟨⟨rr,S2⟩,hg,rfl,rfl⟩:=h;obtain⟨u,hu,rJ⟩:=Mo bn st ha;obtain⟨c,g2,F,ev,cI⟩:=yW _ st sg rJ;obtain⟨F1,F2,q1,q2,q3,q4⟩:=az.aP t hs cI.rep;have s2:=cI.st.cP F2 (fun z hz=>.inr (q2 z hz));refine⟨u,_,x,_,F1,rr,hu,s2.bB ?_,⟨c,q4,ev⟩,fun z hz hh=>cI.d5 z (q1 z hz) hh,aA.cR.trans cI.same ⟨rfl,rfl,rfl⟩,fun z hz=>.inl (cI.pr z hz),hg,rfl⟩;rintro z (hz | hz)
     .exact⟨.inl hz,fun h2=>cI.d5 z (q2 z h2) hz⟩
     .exact⟨.inr (q1 z hz),fun h2=>q3 z hz h2⟩
    .simp at h
   | ptr t m=>
    simp only[v_]at h;split at h
    .rename_i q ha;split at h
     .rename_i R hR;split at h
      .rename_i hs;simp only[cM,aK,aY]at h;obtain⟨x,hc,⟨rr,S2⟩,hg,rfl,rfl⟩:=h;obtain⟨u,hu,rJ⟩:=Mo bn st ha;obtain⟨g1,F,p1,p2,p3,p4,p5⟩:=ML st hR hs.1 hs.2 hc rJ;exact⟨u,_,x,g1,F,rr,hu,p1,p2,p3,p4,p5,hg,rfl⟩
      .simp at h
     .simp at h
    .simp at h
  obtain⟨u,S1,x,g1,F,rr,hu,p1,p2,p3,p4,p5,hg,rfl⟩:=one;obtain⟨us,g',H',Gs,k1,k2,k3,k4,k5,k6,k7,k8,k9,js⟩:=Q0 bn ks vs S1 g1 _ (i+1) rr S' p1 hg;refine⟨u::us,g',H',fun j=>if j=i then F else Gs j,?_,k2,p4.trans k3,p5.trans k4,?_,?_,?_,?_,?_,fun z hz=>js z (.inl hz)⟩
  .simp[List.mapM_cons,hu,k1]
  .refine⟨u,us,rfl,?_,?_⟩
   .show rX w.heap g'.Pr k x u (if i=i then F else Gs i);rw[aj rfl];exact p2.mono k4
   .have:∀(ks:List RK)(n:Nat){a:f9 ks}{us:List Value},i<n->lu w.heap g'.Pr Gs n ks a us->lu w.heap g'.Pr (fun j=>if j=i then F else Gs j) n ks a us:=by
     intro ks
     induction ks with
     | nil=>intro n a us _ h;exact h
     | cons k ks ih=>intro n a us hn h;obtain⟨v,vs',e,r1,r2⟩:=h;exact⟨v,vs',e,by show rX _ _ _ _ _ (if n=i then F else Gs n);rw[af (by omega)];exact r1,ih (n+1) (by omega) r2⟩
    exact this ks (i+1) (by omega) k5
  .intro j hj;show(if j=i then F else Gs j)=Nil;rw[af (by omega)];exact k6 j (by omega)
  .intro j z hz;split at hz
   .exact js z (.inr hz)
   .exact k7 j z hz
  .intro j k oB z h1 h2;split at h1<;>split at h2
   .omega
   .exact k9 k z h2 (.inr h1)
   .exact k9 j z h1 (.inr h2)
   .exact k8 j k oB z h1 h2
  .intro j z h1 h2;split at h1
   .exact p3 z h1 h2
   .exact k9 j z h1 (.inl h2)
end
end
end Go.V
namespace Go.V
noncomputable section
open Go
def hdc(hd:Nat->Value)(n w:Nat):List Value:=(List.range w).map fun k=>hd (n+k)
theorem M8(hd:Nat->Value)(n a b:Nat):hdc hd n (a+b)=hdc hd n a++hdc hd (n+a) b:=by simp only[hdc,List.range_add,pG,BR];congr 1;apply rH;intro k _;simp[Gj]
theorem xN(hd:Nat->Value)(n w:Nat):(hdc hd n w).length=w:=by simp[hdc]
theorem Bx:∀(t:Ty)(m:Mk)(n:Nat),fj t m=true->(m.tag n).2=n+t.width
 | .sl _,.own _ _,n,_=>rfl
 | .pair a b,.pr x y,n,h=>by
  simp only[fj,bI]at h;simp only[Mk.tag,Ty.width];rw[Bx b y _ h.2,Bx a x _ h.1];omega
 | .unit,.no,_,_=>rfl
 | .unit,.gone,_,h=>by simp[fj]at h
 | .unit,.own _ _,_,h=>by simp[fj]at h
 | .unit,.pr _ _,_,h=>by simp[fj]at h
 | .int _,m,_,h=>by cases m<;>simp[fj]at h
 | .bool,m,_,h=>by cases m<;>simp[fj]at h
 | .str,m,_,h=>by cases m<;>simp[fj]at h
 | .sl _,.no,_,h=>by simp[fj]at h
 | .sl _,.gone,_,h=>by simp[fj]at h
 | .sl _,.pr _ _,_,h=>by simp[fj]at h
 | .pair _ _,.no,_,h=>by simp[fj]at h
 | .pair _ _,.gone,_,h=>by simp[fj]at h
 | .pair _ _,.own _ _,_,h=>by simp[fj]at h
theorem BN:∀(t:Ty)(m:Mk)(n:Nat),fj t m=true->(m.tag n).1.same .no=true->t.width=0
 | .sl _,.own _ _,n,_,h=>by simp[Mk.tag,Mk.same]at h
 | .pair a b,.pr x y,n,hh,h=>by
  simp only[fj,bI]at hh;simp only[Mk.tag,Mk.same,bI]at h;simp only[Ty.width,BN a x n hh.1 h.1,BN b y _ hh.2 h.2]
 | .unit,_,_,_,_=>rfl
 | .int _,m,_,h,_=>by cases m<;>simp[fj]at h
 | .bool,m,_,h,_=>by cases m<;>simp[fj]at h
 | .str,m,_,h,_=>by cases m<;>simp[fj]at h
 | .sl _,.no,_,h,_=>by simp[fj]at h
 | .sl _,.gone,_,h,_=>by simp[fj]at h
 | .sl _,.pr _ _,_,h,_=>by simp[fj]at h
 | .pair _ _,.no,_,h,_=>by simp[fj]at h
 | .pair _ _,.gone,_,h,_=>by simp[fj]at h
 | .pair _ _,.own _ _,_,h,_=>by simp[fj]at h
theorem GP{hd:Nat->Value}:∀(t:Ty)(m:Mk)(n:Nat)(m':Mk)(c:List Value),fj t m=true->1048576<=n->(m.tag n).1.same m'=true->aM hd t m' c->c.length=t.width->c=hdc hd n t.width
 | .sl _,.own _ _,n,m',c,_,hn,hs,ht,hl=>by
  simp only[Mk.tag,Mk.same]at hs;split at hs
  .rename_i s' mi';simp only[gS]at hs;subst hs;simp only[aM]at ht;rw[ht.1 hn];rfl
  .simp at hs
 | .pair a b,.pr x y,n,m',c,h,hn,hs,ht,hl=>by
  simp only[fj,bI]at h;simp only[Mk.tag,Mk.same]at hs;split at hs
  .rename_i c1 d1;simp only[bI]at hs;simp only[aM,Mk.fst,Mk.snd]at ht;simp only[Ty.width]at hl⊢;rw[Bx a x n h.1]at hs;have e1:=GP a x n c1 _ h.1 hn hs.1 ht.1 (by simp;omega);have e2:=GP b y (n+a.width) d1 _ h.2 (by omega) hs.2 ht.2 (by simp;omega);rw[M8,<-e1,<-e2,rG]
  .simp only[bI]at hs;simp only[Ty.width]at hl⊢;rw[BN a x n h.1 hs.1,BN b y _ h.2 hs.2]at hl⊢;exact lG.1 hl
  .simp at hs
 | .unit,_,_,_,c,_,_,_,_,hl=>lG.1 hl
 | .int _,m,_,_,_,h,_,_,_,_=>by cases m<;>simp[fj]at h
 | .bool,m,_,_,_,h,_,_,_,_=>by cases m<;>simp[fj]at h
 | .str,m,_,_,_,h,_,_,_,_=>by cases m<;>simp[fj]at h
 | .sl _,.no,_,_,_,h,_,_,_,_=>by simp[fj]at h
 | .sl _,.gone,_,_,_,h,_,_,_,_=>by simp[fj]at h
 | .sl _,.pr _ _,_,_,_,h,_,_,_,_=>by simp[fj]at h
 | .pair _ _,.no,_,_,_,h,_,_,_,_=>by simp[fj]at h
 | .pair _ _,.gone,_,_,_,h,_,_,_,_=>by simp[fj]at h
 | .pair _ _,.own _ _,_,_,_,h,_,_,_,_=>by simp[fj]at h
theorem HN{hd:Nat->Value}:∀(t:Ty)(m:Mk)(n:Nat),fj t m=true->m.ax=true->aM hd t (m.tag n).1 (hdc hd n t.width)
 | .sl _,.own _ _,n,_,hf=>by
  simp only[Mk.ax,bI]at hf;simp only[Mk.tag,aM];exact⟨fun _=>rfl,hf.2⟩
 | .pair a b,.pr x y,n,h,hf=>by
  simp only[fj,bI]at h;simp only[Mk.ax,bI]at hf;simp only[Mk.tag,aM,Mk.fst,Mk.snd,Ty.width,M8];rw[Bx a x n h.1,jq (xN _ _ _),i5 (xN _ _ _)];exact⟨HN a x n h.1 hf.1,HN b y _ h.2 hf.2⟩
 | .unit,_,_,_,_=>by simp only[aM]
 | .int _,m,_,h,_=>by cases m<;>simp[fj]at h
 | .bool,m,_,h,_=>by cases m<;>simp[fj]at h
 | .str,m,_,h,_=>by cases m<;>simp[fj]at h
 | .sl _,.no,_,h,_=>by simp[fj]at h
 | .sl _,.gone,_,h,_=>by simp[fj]at h
 | .sl _,.pr _ _,_,h,_=>by simp[fj]at h
 | .pair _ _,.no,_,h,_=>by simp[fj]at h
 | .pair _ _,.gone,_,h,_=>by simp[fj]at h
 | .pair _ _,.own _ _,_,h,_=>by simp[fj]at h
theorem Ik{h:Array Obj}{Pr:BS}:∀(t:Ty)(m:Mk)(n:Nat){x:t.den}{c:List Value}{F:BS},fj t m=true->az h Pr t m x c F->az h Pr t (m.tag n).1 x c F
 | .sl _,.own _ _,n,_,_,_,_,r=>by
  simp only[Mk.tag,az]at r⊢;exact r
 | .pair a b,.pr x y,n,_,_,_,hh,r=>by
  simp only[fj,bI]at hh;simp only[Mk.tag,az,Mk.fst,Mk.snd]at r⊢;obtain⟨ca,cb,Fa,Fb,e,ra,rb,k⟩:=r;exact⟨ca,cb,Fa,Fb,e,Ik a x _ hh.1 ra,Ik b y _ hh.2 rb,k⟩
 | .unit,m,n,_,_,_,h,r=>by simpa only [az] using r
 | .int _,m,_,_,_,_,h,_=>by cases m<;>simp[fj]at h
 | .bool,m,_,_,_,_,h,_=>by cases m<;>simp[fj]at h
 | .str,m,_,_,_,_,h,_=>by cases m<;>simp[fj]at h
 | .sl _,.no,_,_,_,_,h,_=>by simp[fj]at h
 | .sl _,.gone,_,_,_,_,h,_=>by simp[fj]at h
 | .sl _,.pr _ _,_,_,_,_,h,_=>by simp[fj]at h
 | .pair _ _,.no,_,_,_,_,h,_=>by simp[fj]at h
 | .pair _ _,.gone,_,_,_,_,h,_=>by simp[fj]at h
 | .pair _ _,.own _ _,_,_,_,_,h,_=>by simp[fj]at h
def fV(hd:Nat->Value):Nat->List PK->List Value->Prop
 | i,.cO t m _::ks,v::vs=>(v=dL t (hdc hd (1048576+64 * i) t.width)/\fj t m=true)/\fV hd (i+1) ks vs
 | i,.cC _ _ _::ks,_::vs=>fV hd (i+1) ks vs
 | i,.val _::ks,_::vs=>fV hd (i+1) ks vs
 | i,.own _ _::ks,_::vs=>fV hd (i+1) ks vs
 | i,.cm _::ks,_::vs=>fV hd (i+1) ks vs
 | i,.fn::ks,_::vs=>fV hd (i+1) ks vs
 | _,_,_=>True
theorem akx{h:Array Obj}{S:St}{g:aA}{tmps:Array Value}{H:BS}(st:aE h S g tmps H){q:Nat}{R:aC}(hR:S.root q=some R){t:Ty}{m:Mk}{x:t.den}
  (hs:m.aP R.ms=true) (hc:qbv R.ty t R.x=some x) :
  ∃g' F,aE h (S.aI q none) g' tmps (Un H F)/\pM h g'.Pr t m x (dL t (g.C q)) F/\cB F H/\g'.cR g/\Sub g.Pr g'.Pr:=by
 obtain⟨F,r1,r2,r3,r4,_⟩:=st.roots q R hR;have hq:(S.root q).isSome:=by rw[hR];rfl
 have s1:=st.gD hq;obtain⟨_,rx⟩:=az.cast hc r1;obtain⟨F1,F2,q1,q2,q3,q4⟩:=az.aP t hs rx;have s2:=s1.cP F2 (fun z hz=>.inr (r2 z (q2 z hz)));refine⟨{ g with Pr:=Un g.Pr F2 },F1,s2.bB ?_,⟨g.C q,q4,rfl⟩,?_,⟨rfl,rfl,rfl⟩,fun z hz=>.inl hz⟩
 .rintro z (hz | hz)
  .exact⟨.inl hz,fun h2=>st.hand q hq z (r2 z (q2 z h2)) hz⟩
  .exact⟨.inr (r2 z (q1 z hz)),fun h2=>q3 z hz h2⟩
 .intro z hz hh;exact st.hand q hq z (r2 z (q1 z hz)) hh
theorem nw.shift{h:Array Obj}{Pr:BS}{Os Os2:Nat->BS}:∀(ks:List PK)(i:Nat){o:dI ks}{vs:List Value},(∀j,i<=j->Os2 j=Os j)->nw h Pr Os i ks o vs->nw h Pr Os2 i ks o vs
 | [],_,_,_,_,r=>r
 | .cC t _ m::ks,i,_,_,hj,r=>by
  obtain⟨v,vs',e,r1,r2⟩:=r;exact⟨v,vs',e,by rw[hj i (cq _)];exact r1,nw.shift ks (i+1) (fun j h=>hj j (by omega)) r2⟩
 | .cO t _ m::ks,i,_,_,hj,r=>by
  obtain⟨v,vs',e,r1,r2⟩:=r;exact⟨v,vs',e,by rw[hj i (cq _)];exact r1,nw.shift ks (i+1) (fun j h=>hj j (by omega)) r2⟩
 | .val _::ks,i,_,_,hj,r=>by obtain⟨v,vs',e,r2⟩:=r;exact⟨v,vs',e,nw.shift ks (i+1) (fun j h=>hj j (by omega)) r2⟩
 | .own _ _::ks,i,_,_,hj,r=>by obtain⟨v,vs',e,r2⟩:=r;exact⟨v,vs',e,nw.shift ks (i+1) (fun j h=>hj j (by omega)) r2⟩
 | .cm _::ks,i,_,_,hj,r=>by obtain⟨v,vs',e,r2⟩:=r;exact⟨v,vs',e,nw.shift ks (i+1) (fun j h=>hj j (by omega)) r2⟩
 | .fn::ks,i,_,_,hj,r=>by obtain⟨v,vs',e,r2⟩:=r;exact⟨v,vs',e,nw.shift ks (i+1) (fun j h=>hj j (by omega)) r2⟩
structure Wl (h:Array Obj) (g:aA) (tmps:Array Value) (H:BS) (ks:List PK) (i:Nat) (o:dI ks) (vs:List Value) (g':aA) (H':BS) (Os:Nat->BS):Prop where
 st:∃S',aE h S' g' tmps H'
 same:g'.cR g
 pr:Sub g.Pr g'.Pr
 rel:nw h g'.Pr Os i ks o vs
 nil:∀j,j<i->Os j=Nil
 sub:∀j,Sub (Os j) H'
 d5:∀j k,j≠k->cB (Os j) (Os k)
 pS:∀j,cB (Os j) H
 hand:Sub H H'
theorem abT{i j:Nat}{k:PK}{ks:List PK}(h:j∈vU (i+1) ks):j∈vU i (k::ks):=by cases k<;>simp only[vU,bh]<;>first | exact h | exact .inr h
theorem JI{Hh:Hints}{h:Array Obj}{tmps:Array Value}:∀(ks:List PK)(i:Nat)(vs:List Value)(S:St)(g:aA)(H:BS)(o:dI ks),aE h S g tmps H->outs Hh i ks S=some o->
  (∀k v,vs[k]? = some v->i+k∈vU i ks->tmps.getD (i+k) Go.undef=v)->vs.length=ks.length->fV g.hd i ks vs->∃g' H' Os,Wl h g tmps H ks i o vs g' H' Os
 | [],i,vs,S,g,H,o,st,ho,hv,hl,hm=>by
  refine⟨g,H,fun _=>Nil,⟨S,st⟩,.refl g,Sub.refl _,lG.1 hl,fun _ _=>rfl,fun _=>Sub.nil _,fun _ _ _=>cB.nil _,fun _=>cB.nil _,Sub.refl _⟩
 | k::ks,i,[],S,g,H,o,st,ho,hv,hl,hm=>by simp at hl
 | k::ks,i,v::vs,S,g,H,o,st,ho,hv,hl,hm=>by
  have Ar:∀k v,vs[k]? = some v->i+1+k∈vU (i+1) ks->tmps.getD (i+1+k) Go.undef=v:=by intro k u hk hm;have:=hv (k+1) u (by simpa using hk) (by rw[show i+(k+1)=i+1+k by omega];exact abT hm);rw[<-this];congr 1;omega
  have hl':vs.length=ks.length:=by simpa using hl
  -- one alQ comes back
  have back:∀(t:Ty)(x:t.den)(oo:dI ks)(S1:St)(g1:aA)(F:BS)(rel:BS->BS->Prop),aE h S1 g1 tmps (Un H F)->(∀Pr,Sub g1.Pr Pr->rel Pr F)->cB F H->g1.cR g->Sub g.Pr g1.Pr->
    outs Hh (i+1) ks S1=some oo->fV g.hd (i+1) ks vs->
    ∃g' H' Os,(∃S',aE h S' g' tmps H')/\g'.cR g/\Sub g.Pr g'.Pr/\rel g'.Pr (Os i)/\nw h g'.Pr Os (i+1) ks oo vs/\(∀j,j<i->Os j=Nil)/\(∀j,Sub (Os j) H')/\
     (∀j k,j≠k->cB (Os j) (Os k))/\(∀j,cB (Os j) H)/\Sub H H':=by
   intro t x oo S1 g1 F rel s1 XB hd iK hp ho hm;obtain⟨g',H',Os,q⟩:=JI ks (i+1) vs S1 g1 _ oo s1 ho Ar hl' (by rw[iK.1];exact hm);refine⟨g',H',fun j=>if j=i then F else Os j,q.st,iK.trans q.same,hp.trans q.pr,?_,?_,?_,?_,?_,?_,fun z hz=>q.hand z (.inl hz)⟩
   .show rel g'.Pr (if i=i then F else Os i);rw[aj rfl];exact XB _ q.pr
   .exact nw.shift ks (i+1) (fun j hj=>by show(if j=i then F else Os j)=Os j;rw[af (by omega)]) q.rel
   .intro j hj;show(if j=i then F else Os j)=Nil;rw[af (by omega)];exact q.nil j (by omega)
   .intro j z hz;split at hz
    .exact q.hand z (.inr hz)
    .exact q.sub j z hz
   .intro j k oB z h1 h2;split at h1<;>split at h2
    .omega
    .exact q.pS k z h2 (.inr h1)
    .exact q.pS j z h1 (.inr h2)
    .exact q.d5 j k oB z h1 h2
   .intro j z h1 h2;split at h1
    .exact hd z h1 h2
    .exact q.pS j z h1 (.inl h2)
  cases k with
  | val t=>obtain⟨g',H',Os,q⟩:=JI ks (i+1) vs S g H o st (by simpa only [outs] using ho) Ar hl' (by simpa only [fV] using hm);exact⟨g',H',Os,q.st,q.same,q.pr,⟨v,vs,rfl,q.rel⟩,fun j hj=>q.nil j (by omega),q.sub,q.d5,q.pS,q.hand⟩
  | own t m=>obtain⟨g',H',Os,q⟩:=JI ks (i+1) vs S g H o st (by simpa only [outs] using ho) Ar hl' (by simpa only [fV] using hm);exact⟨g',H',Os,q.st,q.same,q.pr,⟨v,vs,rfl,q.rel⟩,fun j hj=>q.nil j (by omega),q.sub,q.d5,q.pS,q.hand⟩
  | cm t=>obtain⟨g',H',Os,q⟩:=JI ks (i+1) vs S g H o st (by simpa only [outs] using ho) Ar hl' (by simpa only [fV] using hm);exact⟨g',H',Os,q.st,q.same,q.pr,⟨v,vs,rfl,q.rel⟩,fun j hj=>q.nil j (by omega),q.sub,q.d5,q.pS,q.hand⟩
  | fn=>obtain⟨g',H',Os,q⟩:=JI ks (i+1) vs S g H o st (by simpa only [outs] using ho) Ar hl' (by simpa only [fV] using hm);exact⟨g',H',Os,q.st,q.same,q.pr,⟨v,vs,rfl,q.rel⟩,fun j hj=>q.nil j (by omega),q.sub,q.d5,q.pS,q.hand⟩
  | cC t m0 m'=>
   simp only[outs]at ho;split at ho
   .rename_i qq tn;split at ho
    .rename_i R hR;split at ho
     .rename_i hs;simp only[cM,aK]at ho;obtain⟨x,hc,oo,ho,rfl⟩:=ho;have XQ:tmps.getD i Go.undef=v:=by have:=hv 0 v rfl (by simp[vU]);simpa using this
      have rJ:=st.slots i;rw[tn,XQ]at rJ;obtain⟨g1,F,p1,p2,p3,p4,p5⟩:=ML st hR hs.1 hs.2 hc rJ;obtain⟨g',H',Os,k1,k2,k3,k4,k5,k6⟩:=back t x oo _ g1 F (fun Pr F=>v8 h Pr t m' x v F) p1 (fun Pr hp=>p2.mono hp) p3 p4 p5 ho (by simpa only [fV] using hm);exact⟨g',H',Os,k1,k2,k3,⟨v,vs,rfl,k4,k5⟩,k6.1,k6.2.1,k6.2.2.1,k6.2.2.2.1,k6.2.2.2.2⟩
     .simp at ho
    .simp at ho
   .simp at ho
  | cO t m0 m'=>
   simp only[outs]at ho;split at ho
   .rename_i R hR;split at ho
    .rename_i hs;simp only[cM,aK]at ho;obtain⟨x,hc,oo,ho,rfl⟩:=ho;simp only[fV]at hm;obtain⟨⟨ev,hh⟩,hm⟩:=hm;obtain⟨g1,F,p1,p2,p3,p4,p5⟩:=akx st hR hs.1 hc;have hcell:g.C ((Hh.outs.lookup i).getD i)=hdc g.hd (1048576+64 * i) t.width:=by obtain⟨F0,r1,_⟩:=st.roots _ R hR;have ht:=st.tag _ R hR;obtain⟨e,_⟩:=Dv hc;have hw:=az.width _ r1;rw[e]at ht hw;exact GP t m0 _ _ _ hh (by omega) hs.2 ht hw
     rw[hcell,<-ev]at p2;obtain⟨g',H',Os,k1,k2,k3,k4,k5,k6⟩:=back t x oo _ g1 F (fun Pr F=>pM h Pr t m' x v F) p1 (fun Pr hp=>p2.mono hp) p3 p4 p5 ho hm;exact⟨g',H',Os,k1,k2,k3,⟨v,vs,rfl,k4,k5⟩,k6.1,k6.2.1,k6.2.2.1,k6.2.2.2.1,k6.2.2.2.2⟩
    .simp at ho
   .simp at ho
end
theorem GS(r:Nat):∀(t:Ty)(m:Mk)(x:t.den)(p:Path),∀q∈(cW r t m x p).roots,q=r
 | .unit,_,_,_,q,h=>by simp[cW,AV.roots]at h
 | .int _,_,_,_,q,h=>by simp[cW,AV.roots]at h
 | .bool,_,_,_,q,h=>by simp[cW,AV.roots]at h
 | .str,_,_,_,q,h=>by simp[cW,AV.roots]at h
 | .pair a b,m,x,p,q,h=>by
  unfold cW at h;split at h
  .simp[AV.roots]at h
  .simp only[AV.roots,bN]at h;rcases h with h | h
   .exact GS r a _ _ _ q h
   .exact GS r b _ _ _ q h
 | .sl t,m,x,p,q,h=>by cases m<;>simp[cW,AV.roots]at h;exact h
theorem abm{tmps:Array Value}{i:Nat}{v:Value}(h:tmps.getD i Go.undef=v):tmps.setIfInBounds i v=tmps:=by
 apply Array.ext_getElem?;intro j;rw[FV];by_cases e:i=j
 .subst e;rw[aj rfl];by_cases hl:i<tmps.size
  .rw[aj hl];simp only[pq,vE hl,uH]at h;rw[vE hl,h]
  .rw[af hl,F6 (by omega)]
 .rw[af e]
theorem RT{h:Array Obj}{tmps:Array Value}{Pr:BS}{Fs:Nat->BS}(oT:∀i j,i≠j->cB (Fs i) (Fs j)):∀(ks:List PK)(i:Nat)(a:gf ks)(vs:List Value)(S:St)(g:aA)(H:BS),aE h S g tmps H->
  yU h Pr Fs i ks a vs->g.Pr=Pr->(∀k v,vs[k]? = some v->tmps.getD (i+k) Go.undef=v)->(∀u r,r∈(S.get u).roots->r<i)->ks.all PK.f7=true->(∀j,i<=j->Sub (Fs j) H)->
  i+ks.length<=tmps.size->fV g.hd i ks vs->∃g' H',aE h (enter S i ks a) g' tmps H'/\g'.Pr=Pr/\g'.cR g
 | [],i,a,vs,S,g,H,st,hps,gY,hv,hb,hok,hH,hl,hm=>⟨g,H,st,gY,.refl g⟩
 | k::ks,i,a,vs,S,g,H,st,hps,gY,hv,hb,hok,hH,hl,hm=>by
  obtain⟨v,vs',rfl,r1,r2⟩:=hps;simp only[gV,bI]at hok;simp only[ct]at hl;have Ar:∀k v,vs'[k]? = some v->tmps.getD (i+1+k) Go.undef=v:=by intro k u hk;have:=hv (k+1) u (by simpa using hk);rw[<-this];congr 1;omega
  have XQ:tmps.getD i Go.undef=v:=by have:=hv 0 v rfl;simpa using this
  have KR:i<S.rt.length:=by rw[st.gy];omega
  -- zb slot,and on
  have go:∀(S1:St)(g1:aA)(H1:BS)(av:AV),aE h S1 g1 tmps H1->g1.Pr=Pr->g1.cR g->qe h S1 g1 av v->(∀r∈av.roots,r=i)->(∀u r,r∈(S1.get u).roots->r<i)->
    (∀j,i+1<=j->Sub (Fs j) H1)->fV g.hd (i+1) ks vs'->∃g' H',aE h (enter (S1.set i av) (i+1) ks a.2) g' tmps H'/\g'.Pr=Pr/\g'.cR g:=by
   intro S1 g1 H1 av s1 UK tj rJ hr bP tY Xc;have s2:=s1.tP i rJ;rw[abm XQ]at s2;obtain⟨g',H',k1,k2,k3⟩:=RT oT ks (i+1) a.2 vs' (S1.set i av) g1 H1 s2 r2 UK Ar (by
    intro u r hr';rw[St.gv]at hr';split at hr'
    .have:=hr r hr';omega
    .have:=bP u r hr';omega) hok.2 tY (by omega) (by rw[tj.1];exact Xc)
   exact⟨g',H',k1,k2,tj.trans k3⟩
  -- a root,zb slot,and on
  have root:∀(t:Ty)(m:Mk)(x:t.den)(c:List Value),t.nz=true->az h Pr t m x c (Fs i)->v=dL t c->aM g.hd t m c->fV g.hd (i+1) ks vs'->
    ∃g' H',aE h (enter ((S.aI i (some ⟨t,m,x,false⟩)).set i (cW i t m x [])) (i+1) ks a.2) g' tmps H'/\g'.Pr=Pr/\g'.cR g:=by
   intro t m x c hz rep ev ni Xc;obtain⟨g1,s1,p1,p2,p3,p4,_⟩:=st.kU KR (by rw[gY];exact rep) ni (hH i (cq _)) none (fun b hb=>by simp at hb) (fun u=>.inl (by
    cases hc:(S.get u).roots.contains i with
    | false=>rfl
    | true=>have:=hb u i (by simpa using hc);omega))
   have bK:(S.aI i (some ⟨t,m,x,false⟩)).root i=some ⟨t,m,x,false⟩:=by rw[St.b6];simp[KR]
   have ej:cr h t c (g1.base i) []=some (g1.base i,c):=by cases t<;>rfl
   refine go _ g1 _ _ s1 (p1.trans gY) p2 ?_ (GS i t m x []) (fun u r hr=>hb u r hr) ?_ Xc
   .rw[ev];have jR:az h g1.Pr t m x c (Fs i):=by rw[p1,gY];exact rep
    refine dh.rel jR (EY bK t m x [] (g1.base i) c (Fs i) (by simp only[focus]) (by simp only[bu]) ?_ jR) (Ty.kV hz);rw[p3];exact ej
   .intro j hj b hb';exact⟨hH j (by omega) b hb',fun h2=>oT j i (by omega) b hb' h2,by simp⟩
  cases k with
  | val t=>simp only[enter];refine go S g H _ st gY (.refl g) ?_ (by simp[AV.roots]) hb (fun j hj=>hH j (by omega)) (by simpa only [fV] using hm);obtain⟨c,rep,e⟩:=r1;simp only[qe];exact⟨c,by rw[gY];exact rep,e⟩
  | cm t=>simp only[enter];refine go S g H _ st gY (.refl g) ?_ (by simp[AV.roots]) hb (fun j hj=>hH j (by omega)) (by simpa only [fV] using hm);simp only[qe];obtain⟨b,o,cs,e1,e2,e3⟩:=r1;exact⟨b,o,cs,e1,by rw[gY];exact e2,by rw[gY];exact e3⟩
  | fn=>
   simp only[enter];refine go S g H _ st gY (.refl g) ?_ (by simp[AV.roots]) hb (fun j hj=>hH j (by omega)) (by simpa only [fV] using hm);obtain⟨us,e,hc⟩:=r1;simp only[qe];refine⟨us,e,?_⟩;have:∀(l:List bL)(us:List Value),nT h (PG Pr) l us->nT h g l us:=by
    intro l
    induction l with
    | nil=>intro us h;exact h
    | cons x l ih=>
     intro us hh;simp only[nT]at hh⊢;obtain⟨u,us',e,h1,h2⟩:=hh;refine⟨u,us',e,?_,ih us' h2⟩;cases x with
     | val t y=>simp only[sk]at h1⊢;rw[gY];exact h1
     | cm t y=>simp only[sk]at h1⊢;obtain⟨b,o,cs,e1,e2,e3⟩:=h1;exact⟨b,o,cs,e1,by rw[gY];exact e2,by rw[gY];exact e3⟩
   exact this _ us hc
  | own t m=>simp only[enter];simp only[PK.f7,bI]at hok;obtain⟨c,rep,e⟩:=r1;exact root t m a.1 c hok.1.1 rep e (aM.ax t hok.1.2) (by simpa only [fV] using hm)
  | cO t m m'=>
   simp only[enter];simp only[PK.f7,bI]at hok;simp only[fV]at hm;obtain⟨c,rep,e⟩:=r1;have hc:c=hdc g.hd (1048576+64 * i) t.width:=by
    have e2:=e.symm.trans hm.1.1;have h1:=Cp rep;rw[e2]at h1;rw[<-h1];have:∀(t:Ty)(m:Mk)(l:List Value),t.nz=true->fj t m=true->l.length=t.width->(dL t l).cells.toList=l\/∃y,t=.sl y:=by
     intro t m l hz hh hl;cases t with
     | pair a b=>left;simp[dL,Ty.agg,Value.cells]
     | sl y=>exact .inr ⟨y,rfl⟩
     | unit=>simp[Ty.nz]at hz
     | _=>cases m<;>simp[fj]at hh
    rcases this t m _ hok.1.1 hm.1.2 (xN g.hd (1048576+64 * i) t.width) with h2 | ⟨y,rfl⟩
    .exact h2
    .obtain⟨aa,n,k,XE⟩:=az.slice rep;have e3:=e2;simp only[dL,Ty.agg,fh,dZ,Ty.width,hdc,List.range_one,cv,f6,sC]at e3⊢;rw[XE]at e3;simp only[sC]at e3;rw[<-e3];simp[Value.cells]
   refine root t (BO i m) a.1 c hok.1.1 (Ik t m _ hm.1.2 rep) e ?_ hm.2;rw[hc];exact HN t m _ hm.1.2 hok.1.2.1
  | cC t m m'=>
   simp only[enter];simp only[PK.f7]at hok;obtain⟨b,c,F0,e,rep,ho,bP,hs0,hn0⟩:=r1;obtain⟨g1,s1,p1,p2,p3,p4,_⟩:=st.kU KR (by rw[gY];exact rep) (aM.ax t hok.1) (fun z hz=>hH i (cq _) z (hs0 z hz)) (some b)
    (fun b' hb'=>by simp only[aK]at hb';subst hb';exact⟨hH i (cq _) b bP,hn0,ho⟩) (fun u=>.inl (by
    cases hc:(S.get u).roots.contains i with
    | false=>rfl
    | true=>have:=hb u i (by simpa using hc);omega))
   have bK:(S.aI i (some ⟨t,m,a.1,true⟩)).root i=some ⟨t,m,a.1,true⟩:=by rw[St.b6];simp[KR]
   refine go _ g1 _ _ s1 (p1.trans gY) p2 ?_ (by simp[AV.roots]) (fun u r hr=>hb u r hr) ?_ (by simpa only [fV] using hm)
   .simp only[qe];intro R hR d hf;have vI:R=⟨t,m,a.1,true⟩:=by have ck:(S.aI i (some ⟨t,m,a.1,true⟩)).root i=some R:=hR;rw[bK]at ck;simp only[aK]at ck;exact ck.symm
    subst vI;refine⟨by simp only[bu],b,0,c,?_,e⟩;have ej:cr h t c (g1.base i) []=some (g1.base i,c):=by cases t<;>rfl
    rw[p3,ej];simp[aA.base,p4]
   .intro j hj z hz;refine⟨hH j (by omega) z hz,fun h2=>oT j i (by omega) z hz (hs0 z h2),?_⟩;intro h2;simp only[aK]at h2;subst h2;exact oT j i (by omega) _ hz bP
theorem yU.len{h:Array Obj}{Pr:BS}{Fs:Nat->BS}:∀(ks:List PK)(i:Nat){a:gf ks}{vs:List Value},yU h Pr Fs i ks a vs->vs.length=ks.length
 | [],_,_,_,r=>by rw[show _=[] from r];rfl
 | k::ks,i,_,_,r=>by
  obtain⟨v,vs',rfl,_,r2⟩:=r;simp[yU.len ks (i+1) r2]
theorem NX{h:Array Obj}{Pr:BS}{Fs:Nat->BS}(us:List Value):∀(ks:List PK)(i:Nat)(a:gf ks)(vs:List Value),yU h Pr Fs i ks a vs->ks.all PK.f7=true->(∀k,vs[k]? = us[i+k]?)->
  fV (fun s=>((us.getD ((s-1048576) / 64) Go.undef).cells).getD ((s-1048576) % 64) Go.undef) i ks vs
 | [],_,_,_,_,_,_=>by simp only[fV]
 | k::ks,i,a,vs,r,hok,hu=>by
  obtain⟨v,vs',rfl,r1,r2⟩:=r;simp only[gV,bI]at hok;have ih:=NX us ks (i+1) a.2 vs' r2 hok.2 (fun k=>by have:=hu (k+1);rw[show i+1+k=i+(k+1) by omega,<-this];simp);cases k with
  | cO t m m'=>
   simp only[fV];refine⟨⟨?_,?_⟩,ih⟩
   .simp only[PK.f7,bI]at hok;obtain⟨c,rep,e⟩:=r1;have hw:=az.width t rep;have h64:=rE hok.1.2.2.2;have fX:=Cp rep;rw[<-e]at fX;have hui:us.getD i Go.undef=v:=by have:=hu 0;simp only[qS,F4]at this;simp only[List.getD,<-this,uH]
    have:hdc (fun s=>((us.getD ((s-1048576) / 64) Go.undef).cells).getD ((s-1048576) % 64) Go.undef) (1048576+64 * i) t.width=c:=by
     apply Cb (by rw[xN,hw]);intro k h1 h2;rw[xN]at h1;simp only[hdc,yl,List.getElem_range];rw[show(1048576+64 * i+k-1048576) / 64=i by omega,show(1048576+64 * i+k-1048576) % 64=k by omega,hui];have hk:k<v.cells.size:=by rw[<-iP,fX];omega
     simp only[pq,vE hk,uH];rw[<-Array.getElem_toList];simp only[fX]
    rw[this];exact e
   .simp only[PK.f7,bI]at hok;exact hok.1.2.2.1
  | _=>simpa only [fV] using ih
theorem lu.mono{h:Array Obj}{Pr gh:BS}{Gs:Nat->BS}(hp:Sub Pr gh):∀(ks:List RK)(i:Nat){a:f9 ks}{us:List Value},lu h Pr Gs i ks a us->lu h gh Gs i ks a us
 | [],_,_,_,r=>r
 | k::ks,i,_,_,r=>by
  obtain⟨v,vs',e,r1,r2⟩:=r;exact⟨v,vs',e,r1.mono hp,lu.mono hp ks (i+1) r2⟩
section
variable {P:Program} {C:Ctx} {D:Den C} (bn:iC P C) (dz:ot P C D) (j6:P.follows .mixedOrders=true)
include bn dz j6
theorem aku{f:FuncId}{fn:Func}{n:Nat}{Hh:Hints}{ks:List PK}{rs:List RK}{a:gf ks}{r:f9 rs×dI ks}(hf:P.funcs[f]? = some fn)(h:vz C D n fn Hh ks rs a=some r)
    {w:World} {Pr:BS} {Fs:Nat->BS} {vs:List Value} (pre:Pre w.heap Pr Fs ks a vs) :
    Calls P f vs.toArray w fun e w'=>∃val fP Gs Os us,e=.returned val/\Uo w w' Pr Fs ks rs r.1 r.2 vs val fP Gs Os us:=by
  unfold vz at h;split at h
  . simp at h
  . rename_i c hb
    split at h
    . rename_i wN
      simp only[bI]at wN;obtain⟨hok,hle,hcf⟩:=wN;have hle:=rE hle;have hlen:=yU.len ks 0 pre.rel;refine calls_of_wp hf hb ?_;have Xg:=NX vs ks 0 a vs pre.rel hok (fun k=>by simp);generalize hhd:(fun s=>((vs.getD ((s-1048576) / 64) Go.undef).cells).getD ((s-1048576) % 64) Go.undef)=hd at Xg
      let g0:aA:=⟨Pr,fun _=>[],fun _=>none,fun _=>Nil,hd,tS w.heap.size Fs,Pr⟩
      generalize Jl:vs.toArray++Array.replicate (fn.ntmps-vs.toArray.size) Go.undef=tmps;have hsz:tmps.size=fn.ntmps:=by rw[<-Jl];simp;omega
      have iU:∀k v,vs[k]? = some v->tmps.getD k Go.undef=v:=by intro k v hk;have hkl:k<vs.length:=(SH.1 hk).1;rw[<-Jl];simp only[pq];rw[Array.getElem?_append_left (by simpa using hkl)];simp[hk]
      have bK:∀q,(⟨List.replicate fn.ntmps .undef,List.replicate fn.ntmps none⟩:St).root q=none:=by intro q;simp only[aO.ig,List.getD,vF];split<;>rfl
      have tn:∀t,(⟨List.replicate fn.ntmps .undef,List.replicate fn.ntmps none⟩:St).get t=.undef:=by intro t;simp only[St.get_eq,List.getD,vF];split<;>rfl
      have st0:aE w.heap ⟨List.replicate fn.ntmps .undef,List.replicate fn.ntmps none⟩ g0 tmps (fun b=>∃i,Fs i b):=by
        refine { len:=by simp[hsz],gy:=by simp[hsz],slots:=fun t=>by rw[tn];simp only[qe],roots:=fun q R hR=>?_,d5:=fun q q' _ h1 _=>?_,er:=fun q h1=>?_,hand:=fun q h1=>?_,bM:=?_,bQ:=pre.bQ,
                 cg:=fun q b h1 _=>?_,ep:=?_,tag:=fun q R hR=>?_,own:=fun q b h1 _=>?_,fc:=fun b hb=>.inr hb,fY:=fun b hb=>.inl hb,p0:=Sub.refl _,kZ:=fun b hb=>.inl hb }
        . rw[bK]at hR;simp at hR
        . rw[bK]at h1;simp at h1
        . rw[bK]at h1;simp at h1
        . rw[bK]at h1;simp at h1
        . rintro b ⟨i,hb⟩ hp;exact pre.er i b hb hp
        . rw[bK]at h1;simp at h1
        . rintro b ⟨i,hb⟩;exact pre.lim i b hb
        . rw[bK]at hR;simp at hR
        . rw[bK]at h1;simp at h1
      obtain⟨g1,H1,DN,al6,Lr⟩:=RT pre.d5 ks 0 a vs _ g0 _ st0 pre.rel rfl (fun k v hk=>by simpa using iU k v hk) (fun u q hq=>by rw[tn]at hq;simp[AV.roots]at hq) hok
        (fun j _ b hb=>⟨j,hb⟩) (by rw[hsz];omega) Xg
      refine E_ (np:=vU 0 ks) (H:=Hh) bn dz j6 c n _ _ hcf h _ g1 ⟨tmps,[]⟩ w (DN.bB (Sub.nil _)) rfl ?_;intro e S' g' a' w' hk st' iK hfr hdf oA;have fin:((v_ C rs fn.results.toList S').bind fun r=>(outs Hh 0 ks r.2).bind fun o=>some (r.1,o))=some r->∃v,(results fn a'.tmps).run P w'=.ok v w'/\
          ∃val fP Gs Os us,Ending.returned v=.returned val/\Uo w w' Pr Fs ks rs r.1 r.2 vs val fP Gs Os us:=by
        intro hk;simp only[cM,aK]at hk;obtain⟨⟨rr,S2⟩,hg,o,ho,rfl⟩:=hk;obtain⟨us,g2,H2,Gs,k1,k2,k3,k4,k5,k6,k7,k8,k9,js⟩:=Q0 bn rs _ S' g' Nil 0 rr S2 st' hg;have qC:=(Lr.trans iK).trans k3;obtain⟨g3,H3,Os,q⟩:=JI (Hh:=Hh) ks 0 vs S2 g2 H2 o k2 ho (fun k v hk hmem=>by
          rw[kB]at hmem;rw[kB,oA k hmem];exact iU k v hk) hlen (by rw[qC.1];exact Xg)
        obtain⟨S3,rU⟩:=q.st;have Ls:=qC.trans q.same;have hL:g3.L=tS w.heap.size Fs:=Ls.2.1;have hP0:g3.P0=Pr:=Ls.2.2;have hL1:g1.L=tS w.heap.size Fs:=Lr.2.1;refine⟨tJ us,abk k1,tJ us,g3.Pr,Gs,Os,us,rfl,?_⟩
        exact {
          res:=lu.mono q.pr rs 0 k5
          val:=rfl
          out:=q.rel
          pr:=by rw[<-hP0];exact rU.p0
          kZ:=fun b hb=>by have:=rU.kZ b hb;rw[hP0,hL]at this;exact this
          gL:=fun i b hb=>by rw[<-hL];exact rU.fc b (q.hand b (k7 i b hb))
          oL:=fun i b hb=>by rw[<-hL];exact rU.fc b (q.sub i b hb)
          z_:=k8
          X1:=q.d5
          go:=fun i j b h1 h2=>q.pS j b h2 (k7 i b h1)
          gp:=fun i b h1 h2=>rU.bM b (q.hand b (k7 i b h1)) h2
          op:=fun i b h1 h2=>rU.bM b (q.sub i b h1) h2
          wJ:=fun i b h1=>rU.ep b (q.hand b (k7 i b h1))
          Ay:=fun i b h1=>rU.ep b (q.sub i b h1)
          AD:=rU.bQ
          fr:=by rw[<-hL1];exact hfr }
      cases e with
      | normal=>exact⟨hdf,fin hk⟩
      | ret=>exact⟨hdf,fin hk⟩
      | exit id=>simp at hk
    . simp at h
end
theorem N5{P:Program}{C:Ctx}(bn:iC P C)(j6:P.follows .mixedOrders=true){E:Den C}{mw:FuncId->Bool}(KP:∀f,mw f=true->DQ P C E f)(CW:∀f a r,mw f=true->E f a=some r->Jv P f)
  (hnm:∀(f:FuncId)(fn:Func),P.funcs[f]? = some fn->fn.name≠ "runtime.NumGoroutine"):∀n,ot P C (Dn C E mw (fun g=>P.funcs[g]?) n)
 | 0=>⟨fun f a r h=>by simp[Dn]at h,fun f a r h=>by simp[Dn]at h⟩
 | n+1=>by
  have ih:=N5 bn j6 KP CW hnm n;refine⟨fun f a r h=>?_,fun f a r h=>?_⟩
  .simp only[Dn]at h;by_cases he:mw f=true
   .rw[aj he]at h;exact KP f he a r h
   .rw[af he]at h;split at h
    .simp at h
    .rename_i fn hf;intro w Pr Fs vs pre;exact aku bn ih j6 hf h pre
  .simp only[Dn]at h;by_cases he:mw f=true
   .rw[aj he]at h;exact CW f a r he h
   .rw[af he]at h;split at h
    .simp at h
    .rename_i fn hf;refine⟨fn,hf,hnm f fn hf,?_⟩;unfold vz at h;split at h
     .simp at h
     .rename_i c hb;rw[hb];rfl
end Go.V
namespace Go.V
noncomputable section
open Go
def zv:Value->Value->Bool
 | .int k a,.int j b=>decide (k=j)&&decide (a=b)
 | .bool a,.bool b=>decide (a=b)
 | .string a,.string b=>Nat.beq a.size 0&&Nat.beq b.size 0
 | .slice none n k,.slice none n' k'=>Nat.beq n n'&&Nat.beq k k'
 | _,_=>false
def Kk:List Value->List Value->Bool
 | [],[]=>true
 | a::l,b::l'=>zv a b&&Kk l l'
 | _,_=>false
def Jc:Value->Value->Bool
 | .agg a,.agg b=>Kk a.toList b.toList
 | a,b=>zv a b
theorem Q8{a:ByteArray}(h:Nat.beq a.size 0=true):a=ByteArray.empty:=by have h:=mS h;obtain⟨⟨l⟩⟩:=a;have:l=[]:=lG.1 h;subst this;rfl
theorem N1:∀{a b:Value},zv a b=true->a=b:=by
 intro a b h;unfold zv at h;split at h
 .simp only[bI,gS]at h;rw[h.1,h.2]
 .simp only[gS]at h;rw[h]
 .simp only[bI]at h;rw[Q8 h.1,Q8 h.2]
 .simp only[bI]at h;rw[mS h.1,mS h.2]
 .simp at h
theorem NW:∀{l l':List Value},Kk l l'=true->l=l'
 | [],[],_=>rfl
 | a::l,b::l',h=>by
  simp only[Kk,bI]at h;rw[N1 h.1,NW h.2]
 | [],_::_,h=>by simp[Kk]at h
 | _::_,[],h=>by simp[Kk]at h
theorem ala{a b:Value}(h:Jc a b=true):a=b:=by
 unfold Jc at h;split at h
 .rename_i x y;have:=NW h;rw[yX this]
 .exact N1 h
def JL(C:Ctx):List Field->Nat->Ty->Bool
 | [],_,.unit=>true
 | f::fs,off,.pair a b=>decide (a=C.ty f.type)&&(Nat.beq f.offset off&&((f.name != "_")&&(a.nz&&JL C fs (off+a.width) b)))
 | _,_,_=>false
theorem QN{C:Ctx}:∀(fs:List Field)(off:Nat)(T:Ty),JL C fs off T=true->mX C fs off T
 | [],off,T,h=>by
  cases T<;>simp[JL]at h;simp only[mX]
 | f::fs,off,T,h=>by
  cases T with
  | pair a b=>simp only[JL,bI,gS,bne_iff_ne,ne_eq]at h;obtain⟨e,h1,h2,h3,h4⟩:=h;subst e;exact⟨b,rfl,mS h1,h2,h3,QN fs _ b h4⟩
  | _=>simp[JL]at h
def FA(C:Ctx):TypeDesc->Ty->Bool
 | .int k,T=>decide (T=.int k)
 | .bool,T=>decide (T=.bool)
 | .string,T=>decide (T=.str)
 | .slice e,T=>decide (T=.sl (C.ty e))&&(C.ty e).nz
 | .struct fs,T=>JL C fs.toList 0 T&&T.nz
 | _,_=>false
theorem acQ{C:Ctx}{d:TypeDesc}{T:Ty}(h:FA C d T=true):oM C d T:=by
 cases d<;>simp only[FA,bI,gS]at h<;>first
  | exact h
  | exact⟨QN _ _ _ h.1,Ty.kV h.2⟩
  | simp at h
def FT(P:Program)(C:Ctx)(t:TypeId):Bool:=
  if (C.ty t).nz then
    (match P.info? t with
     | some i=>Nat.beq i.size (C.ty t).width&&((match i.zero with | some z=>Jc z (dL (C.ty t) (zc (C.ty t))) | none=>false)&&Nat.ble i.bytes 255)
     | none=>false)&&
    (Nat.blt 0 (C.ty t).width&&((match P.underlying t with | some d=>FA C d (C.ty t) | none=>false)&&(Nat.blt (C.ty t).deep 10000&&
      (!((C.ty t).agg&&(C.ty t).comp)||(!P.stoodInHeld t&&!P.eqGuardType P.depth t)))))
  else true
theorem adp{P:Program}{C:Ctx}{t:TypeId}(h:FT P C t=true)(hz:(C.ty t).nz=true):mF P C t:=by
 unfold FT at h;rw[aj hz]at h;simp only[bI]at h;obtain⟨h1,h2,h3,h4,h5⟩:=h;refine⟨?_,n8.1 h2,?_,n8.1 h4,?_⟩
 .split at h1
  .rename_i i hi;simp only[bI]at h1;obtain⟨k1,k2,k3⟩:=h1;split at k2
   .rename_i z XX;exact⟨i,hi,mS k1,by rw[XX,ala k2],rE k3⟩
   .simp at k2
  .simp at h1
 .split at h3
  .rename_i d hd;exact⟨d,hd,acQ h3⟩
  .simp at h3
 .intro ha hc;rw[ha,hc]at h5;simp only[Gl,cJ,sD,bI,kA]at h5;exact h5
theorem acv{P:Program}{C:Ctx}(n:Nat)(Xd:∀t,Nat.ble t n=false->C.ty t=.unit)(h:(List.range (n+1)).all (FT P C)=true):iC P C:=by
 intro t hz;cases hb:Nat.ble t n with
 | false=>rw[Xd t hb]at hz;simp[Ty.nz]at hz
 | true=>have:=rE hb;rw[qQ]at h;exact adp (h t (yp.2 (by omega))) hz
theorem ac4 {P:Program} (h:P.funcs.toList.all (fun fn=>fn.name != "runtime.NumGoroutine")=true):∀(f:FuncId)(fn:Func),P.funcs[f]? = some fn->fn.name≠ "runtime.NumGoroutine" := by
 intro f fn hf;rw[qQ]at h;have:=h fn (by rw[FH];exact F9 hf);simpa using this
end
open Go.V
abbrev fl:Mk:=Mk.own 0 Mk.no
abbrev zh:Ty:=Ty.int IntKind.u8
abbrev vD:Ty:=Ty.int IntKind.u64
abbrev ah:Ty:=Ty.int IntKind.i64
abbrev mI:Mk:=Mk.own 1048576 Mk.no
abbrev og:Ty:=Ty.sl zh
abbrev qF:Mk:=Mk.own 0 fl
abbrev bG:Ty:=Ty.sl ah
abbrev iA:Mk:=Mk.pr fl Mk.no
abbrev oX:Mk:=Mk.pr Mk.no iA
abbrev lV:Mk:=Mk.pr fl iA
abbrev sS:Ty:=Ty.pair ah (Ty.pair ah Ty.unit)
abbrev bS:Ty:=Ty.pair bG (Ty.pair ah Ty.unit)
abbrev iZ:Ty:=Ty.sl sS
abbrev lE:Ty:=Ty.pair ah (Ty.pair bG Ty.unit)
abbrev Aw:Mk:=Mk.pr Mk.no (Mk.pr oX iA)
abbrev bV:Ty:=Ty.pair ah sS
abbrev jo:Ty:=Ty.pair og sS
abbrev bU:Ty:=Ty.sl bV
abbrev jS:Ty:=Ty.sl bU
abbrev iO:Ty:=Ty.pair ah bV
abbrev rz:Ty:=Ty.sl iO
abbrev Av:Mk:=Mk.pr lV (Mk.pr fl (Mk.pr Mk.no lV))
abbrev lU:Mk:=Mk.pr fl (Mk.pr (Mk.own 0 (Mk.pr Mk.no (Mk.pr Mk.no (Mk.pr fl (Mk.pr oX Mk.no))))) Mk.no)
abbrev sj:Mk:=Mk.pr lV (Mk.pr (Mk.own 0 (Mk.no)) (Mk.pr Mk.no (Mk.pr fl (Mk.pr fl (Mk.pr Mk.no Mk.no)))))
abbrev mQ:Ty:=Ty.pair iZ (Ty.pair bG (Ty.pair ah (Ty.pair Ty.bool Ty.unit)))
abbrev ru:Ty:=Ty.pair Ty.bool (Ty.pair lE (Ty.pair bU Ty.unit))
abbrev LC:Mk:=Mk.pr lV (Mk.pr (Mk.own 0 (Mk.pr Mk.no (Mk.pr Mk.no (Mk.pr Mk.no (Mk.pr fl (Mk.pr Mk.no Mk.no)))))) (Mk.pr Mk.no (Mk.pr fl (Mk.pr fl (Mk.pr Mk.no Mk.no)))))
abbrev wv:Ty:=Ty.pair ah (Ty.pair ah (Ty.pair bU (Ty.pair lE Ty.unit)))
abbrev CM:Ty:=Ty.sl wv
abbrev DO:Ty:=Ty.pair ah (Ty.pair bV (Ty.pair ah (Ty.pair ah (Ty.pair ah (Ty.pair lE Ty.unit)))))
abbrev zi:Ty:=Ty.sl DO
abbrev jZ:Ty:=Ty.pair bU (Ty.pair ah (Ty.pair Ty.bool (Ty.pair iZ (Ty.pair rz Ty.unit))))
abbrev Wk:Ty:=Ty.sl jZ
abbrev jY:Ty:=Ty.pair bU (Ty.pair CM Ty.unit)
abbrev Jq:Mk:=Mk.pr lV (Mk.pr (Mk.own 0 (Mk.pr fl (Mk.pr Mk.no (Mk.pr Mk.no lV)))) (Mk.pr Mk.no (Mk.pr (Mk.own 0 (Mk.pr Mk.no (Mk.pr Mk.no (Mk.pr Mk.no (Mk.pr Mk.no (Mk.pr Mk.no (Mk.pr oX Mk.no))))))) (Mk.pr fl (Mk.pr iA Mk.no)))))
abbrev tw:Mk:=Mk.pr lU (Mk.pr (Mk.own 0 (Mk.pr fl (Mk.pr Mk.no (Mk.pr Mk.no lV)))) (Mk.pr Mk.no (Mk.pr (Mk.own 0 (Mk.pr Mk.no (Mk.pr Mk.no (Mk.pr Mk.no (Mk.pr Mk.no (Mk.pr Mk.no (Mk.pr oX Mk.no))))))) (Mk.pr fl (Mk.pr iA Mk.no)))))
abbrev cK:Ty:=Ty.pair jY (Ty.pair Wk (Ty.pair ah (Ty.pair zi (Ty.pair bG (Ty.pair bS Ty.unit)))))
end Go.V
namespace Go.V
open Go
noncomputable def FR:Nat:=237
noncomputable def alL(n:Nat):Ty:=cond (n.ble FR) (cond (n.ble 57) (cond (n.ble 27) (cond (n.ble 10) (cond (n.ble 4) (cond (n.ble 2) (cond (n.beq 2) ah Ty.unit) (cond (n.ble 3) (cond (n.beq 3) ah Ty.unit) (cond (n.beq 4) Ty.bool Ty.unit))) (cond (n.ble 6) (cond (n.ble 5) (cond (n.beq 5) zh Ty.unit) (cond (n.beq 6) zh Ty.unit)) (cond (n.ble 9) (cond (n.beq 9) Ty.str Ty.unit) (cond (n.beq 10) Ty.str Ty.unit)))) (cond (n.ble 22) (cond (n.ble 12) (cond (n.ble 11) (cond (n.beq 11) Ty.str Ty.unit) (cond (n.beq 12) vD Ty.unit)) (cond (n.ble 21) (cond (n.beq 21) (Ty.int IntKind.i32) Ty.unit) (cond (n.beq 22) og Ty.unit))) (cond (n.ble 25) (cond (n.ble 24) (cond (n.beq 24) bG Ty.unit) (cond (n.beq 25) bS Ty.unit)) (cond (n.ble 26) (cond (n.beq 26) bS Ty.unit) (cond (n.beq 27) jS Ty.unit))))) (cond (n.ble 36) (cond (n.ble 32) (cond (n.ble 30) (cond (n.beq 30) bU Ty.unit) (cond (n.ble 31) (cond (n.beq 31) CM Ty.unit) (cond (n.beq 32) jY Ty.unit))) (cond (n.ble 34) (cond (n.ble 33) (cond (n.beq 33) jY Ty.unit) (cond (n.beq 34) Wk Ty.unit)) (cond (n.ble 35) (cond (n.beq 35) zi Ty.unit) (cond (n.beq 36) cK Ty.unit)))) (cond (n.ble 44) (cond (n.ble 42) (cond (n.ble 37) (cond (n.beq 37) cK Ty.unit) (cond (n.beq 42) bU Ty.unit)) (cond (n.ble 43) (cond (n.beq 43) iZ Ty.unit) (cond (n.beq 44) rz Ty.unit))) (cond (n.ble 46) (cond (n.ble 45) (cond (n.beq 45) jZ Ty.unit) (cond (n.beq 46) jZ Ty.unit)) (cond (n.ble 56) (cond (n.beq 56) bV Ty.unit) (cond (n.beq 57) bV Ty.unit)))))) (cond (n.ble 138) (cond (n.ble 65) (cond (n.ble 60) (cond (n.ble 58) (cond (n.beq 58) lE Ty.unit) (cond (n.ble 59) (cond (n.beq 59) lE Ty.unit) (cond (n.beq 60) DO Ty.unit))) (cond (n.ble 63) (cond (n.ble 61) (cond (n.beq 61) DO Ty.unit) (cond (n.beq 63) bU Ty.unit)) (cond (n.ble 64) (cond (n.beq 64) wv Ty.unit) (cond (n.beq 65) wv Ty.unit)))) (cond (n.ble 112) (cond (n.ble 94) (cond (n.ble 93) (cond (n.beq 93) bV Ty.unit) (cond (n.beq 94) bV Ty.unit)) (cond (n.ble 111) (cond (n.beq 111) jo Ty.unit) (cond (n.beq 112) jo Ty.unit))) (cond (n.ble 123) (cond (n.ble 122) (cond (n.beq 122) bV Ty.unit) (cond (n.beq 123) bV Ty.unit)) (cond (n.ble 137) (cond (n.beq 137) sS Ty.unit) (cond (n.beq 138) sS Ty.unit))))) (cond (n.ble 178) (cond (n.ble 147) (cond (n.ble 141) (cond (n.beq 141) iO Ty.unit) (cond (n.ble 142) (cond (n.beq 142) iO Ty.unit) (cond (n.beq 147) vD Ty.unit))) (cond (n.ble 164) (cond (n.ble 163) (cond (n.beq 163) ru Ty.unit) (cond (n.beq 164) ru Ty.unit)) (cond (n.ble 177) (cond (n.beq 177) mQ Ty.unit) (cond (n.beq 178) mQ Ty.unit)))) (cond (n.ble 214) (cond (n.ble 206) (cond (n.ble 198) (cond (n.beq 198) ah Ty.unit) (cond (n.beq 206) (.int .u32) Ty.unit)) (cond (n.ble 208) (cond (n.beq 208) vD Ty.unit) (cond (n.beq 214) vD Ty.unit))) (cond (n.ble 233) (cond (n.ble 232) (cond (n.beq 232) zh Ty.unit) (cond (n.beq 233) zh Ty.unit)) (cond (n.ble 236) (cond (n.beq 236) (Ty.int IntKind.i32) Ty.unit) (cond (n.beq 237) (Ty.int IntKind.i32) Ty.unit))))))) Ty.unit
noncomputable def ak2(n:Nat):wE:=
 cond (n.ble 105) (cond (n.ble 57) (cond (n.ble 35) (cond (n.ble 18) (cond (n.ble 13) (cond (n.ble 4) (cond (n.ble 3) (⟨[],[]⟩) (⟨[.val og],[.val Ty.bool (Mk.top Ty.bool)]⟩)) (cond (n.ble 11) (⟨[],[]⟩) (cond (n.ble 12) (⟨[.val og],[.val Ty.bool (Mk.top Ty.bool)]⟩) (⟨[.val og],[.val bS (Mk.no),.val jS (Mk.no),.val bG (Mk.no)]⟩)))) (cond (n.ble 15) (cond (n.ble 14) (⟨[.val bS,.val jS],[.val cK (Mk.no),.val Ty.bool (Mk.top Ty.bool)]⟩) (⟨[.val bS,.val jS],[.val cK (Mk.top cK),.val Ty.bool (Mk.top Ty.bool)]⟩)) (cond (n.ble 16) (⟨[.val cK,.val bG],[.val cK (Mk.no)]⟩) (cond (n.ble 17) (⟨[.val jZ],[.val Ty.bool (Mk.top Ty.bool)]⟩) (⟨[.val cK,.val ah,.val ah],[.val cK (Mk.no)]⟩))))) (cond (n.ble 23) (cond (n.ble 20) (cond (n.ble 19) (⟨[],[]⟩) (⟨[.val cK],[.val Ty.bool (Mk.top Ty.bool)]⟩)) (cond (n.ble 21) (⟨[.val og,.val ah],[.val ah (Mk.top ah)]⟩) (cond (n.ble 22) (⟨[],[]⟩) (⟨[.val bU,.val CM],[.val bG (Mk.top bG)]⟩)))) (cond (n.ble 30) (cond (n.ble 28) (⟨[],[]⟩) (cond (n.ble 29) (⟨[.val DO,.val DO],[.val Ty.bool (Mk.top Ty.bool)]⟩) (⟨[.val cK],[.val Ty.bool (Mk.top Ty.bool)]⟩))) (cond (n.ble 33) (⟨[],[]⟩) (cond (n.ble 34) (⟨[.val bS,.val ah],[.val ah (Mk.top ah)]⟩) (⟨[.val ah],[.val ah (Mk.top ah)]⟩)))))) (cond (n.ble 46) (cond (n.ble 40) (cond (n.ble 37) (cond (n.ble 36) (⟨[],[]⟩) (⟨[.val bS,.val ah],[.val ah (Mk.top ah)]⟩)) (cond (n.ble 38) (⟨[.val bS,.val bV,.val lE],[.val bS (Mk.top bS)]⟩) (cond (n.ble 39) (⟨[.val cK],[.val bS (Mk.top bS),.val Ty.bool (Mk.top Ty.bool)]⟩) (⟨[.val cK],[.val Ty.bool (Mk.top Ty.bool)]⟩)))) (cond (n.ble 43) (cond (n.ble 41) (⟨[],[]⟩) (cond (n.ble 42) (⟨[.val cK],[.val Ty.bool (Mk.top Ty.bool)]⟩) (⟨[],[]⟩))) (cond (n.ble 44) (⟨[.val og],[.ptr jo (.no)]⟩) (cond (n.ble 45) (⟨[.cC jo (.no) (.no)],[.val bS (Mk.top bS)]⟩) (⟨[.cC jo (.no) (.no)],[.val jS (Mk.top jS)]⟩))))) (cond (n.ble 51) (cond (n.ble 48) (cond (n.ble 47) (⟨[.cC jo (.no) (.no),.val ah],[.val ah (Mk.top ah)]⟩) (⟨[.val og,.val ah,.val ah],[.val ah (Mk.top ah)]⟩)) (cond (n.ble 49) (⟨[.val bS,.val ah],[.val jY lV,.val Ty.bool (Mk.top Ty.bool)]⟩) (cond (n.ble 50) (⟨[.val bS],[.val bS (Mk.top bS)]⟩) (⟨[.val bU],[.val jZ (Mk.top jZ)]⟩)))) (cond (n.ble 54) (cond (n.ble 52) (⟨[.val bS,.val ah],[.val jY (Mk.top jY),.val Ty.bool (Mk.top Ty.bool)]⟩) (cond (n.ble 53) (⟨[.val bS],[.val bS (Mk.top bS)]⟩) (⟨[.val bU],[.val jZ (Mk.top jZ)]⟩))) (cond (n.ble 55) (⟨[.val cK],[.val Ty.bool (Mk.top Ty.bool)]⟩) (cond (n.ble 56) (⟨[.val cK],[.val cK LC]⟩) (⟨[.val cK,.val ah],[.val cK (Mk.no),.val Ty.bool (Mk.top Ty.bool)]⟩))))))) (cond (n.ble 80) (cond (n.ble 69) (cond (n.ble 63) (cond (n.ble 59) (cond (n.ble 58) (⟨[.val ah,.val ah,.val ah],[.val Ty.bool (Mk.top Ty.bool)]⟩) (⟨[.val cK],[.val Ty.bool (Mk.top Ty.bool)]⟩)) (cond (n.ble 60) (⟨[.val bU,.val CM,.val ah],[.val ah (Mk.top ah)]⟩) (cond (n.ble 62) (⟨[],[]⟩) (⟨[.val jY],[.val Ty.bool (Mk.top Ty.bool)]⟩)))) (cond (n.ble 66) (cond (n.ble 64) (⟨[.val bU,.fn],[.val Ty.bool (Mk.top Ty.bool)]⟩) (cond (n.ble 65) (⟨[],[]⟩) (⟨[.val bS],[.val Ty.bool (Mk.top Ty.bool)]⟩))) (cond (n.ble 67) (⟨[.val bG,.val bG],[.val Ty.bool (Mk.top Ty.bool)]⟩) (cond (n.ble 68) (⟨[.val bS],[.val bG (Mk.top bG)]⟩) (⟨[.val bG],[.val bG (Mk.top bG)]⟩))))) (cond (n.ble 74) (cond (n.ble 71) (cond (n.ble 70) (⟨[],[.val ah (Mk.top ah)]⟩) (⟨[.val bS],[.val Ty.bool (Mk.top Ty.bool)]⟩)) (cond (n.ble 72) (⟨[],[]⟩) (cond (n.ble 73) (⟨[.val ah],[.val ah (Mk.top ah)]⟩) (⟨[.val bG,.val ah],[.val ah (Mk.top ah)]⟩)))) (cond (n.ble 77) (cond (n.ble 75) (⟨[.val Ty.bool,.val ah],[.val ah (Mk.top ah)]⟩) (cond (n.ble 76) (⟨[.val ah],[.val Ty.bool (Mk.top Ty.bool)]⟩) (⟨[.val ah],[.val ah (Mk.top ah)]⟩))) (cond (n.ble 78) (⟨[.val bS,.val bV,.val lE],[.val Ty.bool (Mk.top Ty.bool)]⟩) (cond (n.ble 79) (⟨[.val DO,.val ah,.cm cK],[.val Ty.bool (Mk.top Ty.bool)]⟩) (⟨[.val bV],[.val Ty.bool (Mk.top Ty.bool)]⟩)))))) (cond (n.ble 94) (cond (n.ble 85) (cond (n.ble 82) (cond (n.ble 81) (⟨[.val jZ,.val ah],[.val Ty.bool (Mk.top Ty.bool)]⟩) (⟨[.val cK,.val ah],[.val Ty.bool (Mk.top Ty.bool)]⟩)) (cond (n.ble 83) (⟨[.val cK],[.val Ty.bool (Mk.top Ty.bool)]⟩) (cond (n.ble 84) (⟨[],[]⟩) (⟨[.val lE],[.val lE (Mk.top lE)]⟩)))) (cond (n.ble 91) (cond (n.ble 89) (⟨[],[]⟩) (cond (n.ble 90) (⟨[],[.val bS (Mk.top bS)]⟩) (⟨[.val bS,.val ah],[.val ah (Mk.top ah)]⟩))) (cond (n.ble 92) (⟨[.cC jo (.no) (.no),.val bG],[.val ah (Mk.top ah)]⟩) (cond (n.ble 93) (⟨[.cC jo (.no) (.no)],[.val bV (Mk.top bV)]⟩) (⟨[.cC jo (.no) (.no)],[.val ah (Mk.top ah)]⟩))))) (cond (n.ble 99) (cond (n.ble 96) (cond (n.ble 95) (⟨[.val bU],[.val bU (Mk.top bU)]⟩) (⟨[.val bS],[.val bG (Mk.top bG)]⟩)) (cond (n.ble 97) (⟨[.val ah,.val ah,.val ah],[.val Ty.bool (Mk.top Ty.bool)]⟩) (cond (n.ble 98) (⟨[.val jY],[.val Ty.bool (Mk.top Ty.bool)]⟩) (⟨[.val bS],[.val Ty.bool (Mk.top Ty.bool)]⟩)))) (cond (n.ble 102) (cond (n.ble 100) (⟨[.val cK],[.val Ty.bool (Mk.top Ty.bool)]⟩) (cond (n.ble 101) (⟨[.val jZ,.val ah],[.val Ty.bool (Mk.top Ty.bool)]⟩) (⟨[.val cK,.val ah],[.val Ty.bool (Mk.top Ty.bool)]⟩))) (cond (n.ble 103) (⟨[.val jY],[.val jY lV]⟩) (cond (n.ble 104) (⟨[.val jZ],[.val jZ (Mk.top jZ)]⟩) (⟨[.cC cK sj sj,.val ah],[]⟩)))))))) (cond (n.ble 161) (cond (n.ble 136) (cond (n.ble 117) (cond (n.ble 111) (cond (n.ble 107) (cond (n.ble 106) (⟨[.cC cK LC sj,.val ah],[.val Ty.bool (Mk.top Ty.bool)]⟩) (⟨[.val wv,.val ah],[.val bV (Mk.top bV),.val Ty.bool (Mk.top Ty.bool)]⟩)) (cond (n.ble 108) (⟨[],[]⟩) (cond (n.ble 109) (⟨[.val CM,.fn],[.val Ty.bool (Mk.top Ty.bool)]⟩) (⟨[.val wv],[.val Ty.bool (Mk.top Ty.bool)]⟩)))) (cond (n.ble 114) (cond (n.ble 112) (⟨[.val bV,.val ah],[.val Ty.bool (Mk.top Ty.bool)]⟩) (cond (n.ble 113) (⟨[.val bU,.fn],[.val ah (Mk.top ah)]⟩) (⟨[.val bG,.val ah],[.val Ty.bool (Mk.top Ty.bool)]⟩))) (cond (n.ble 115) (⟨[.val ah],[.val ah (Mk.top ah)]⟩) (cond (n.ble 116) (⟨[.val bS,.val bV,.val ah],[.val Ty.bool (Mk.top Ty.bool)]⟩) (⟨[.val bS,.val bV],[.val bG (Mk.no),.val Ty.bool (Mk.top Ty.bool)]⟩))))) (cond (n.ble 123) (cond (n.ble 120) (cond (n.ble 119) (⟨[.val ah],[.val Ty.bool (Mk.top Ty.bool)]⟩) (⟨[.val bU,.fn],[.val Ty.bool (Mk.top Ty.bool)]⟩)) (cond (n.ble 121) (⟨[.val bV],[.val Ty.bool (Mk.top Ty.bool)]⟩) (cond (n.ble 122) (⟨[.val iZ,.fn],[.val Ty.bool (Mk.top Ty.bool)]⟩) (⟨[.val sS],[.val Ty.bool (Mk.top Ty.bool)]⟩)))) (cond (n.ble 127) (cond (n.ble 125) (⟨[.val ah],[.val Ty.bool (Mk.top Ty.bool)]⟩) (cond (n.ble 126) (⟨[.val rz,.fn],[.val Ty.bool (Mk.top Ty.bool)]⟩) (⟨[.val iO,.cm ah],[.val Ty.bool (Mk.top Ty.bool)]⟩))) (cond (n.ble 131) (⟨[],[]⟩) (cond (n.ble 133) (⟨[.val ah],[.val Ty.bool (Mk.top Ty.bool)]⟩) (⟨[.val ah],[.val ah (Mk.top ah)]⟩)))))) (cond (n.ble 147) (cond (n.ble 141) (cond (n.ble 138) (cond (n.ble 137) (⟨[.val bS,.val ah],[.val ah (Mk.top ah)]⟩) (⟨[.val ah],[.val ah (Mk.top ah)]⟩)) (cond (n.ble 139) (⟨[],[.val ah (Mk.top ah)]⟩) (cond (n.ble 140) (⟨[.val wv],[.val Ty.bool (Mk.top Ty.bool)]⟩) (⟨[.val bV,.val ah],[.val Ty.bool (Mk.top Ty.bool)]⟩)))) (cond (n.ble 144) (cond (n.ble 142) (⟨[.val wv,.val ah],[.val bV (Mk.top bV),.val Ty.bool (Mk.top Ty.bool)]⟩) (cond (n.ble 143) (⟨[.val ah],[.val Ty.bool (Mk.top Ty.bool)]⟩) (⟨[.val cK,.val DO],[.val Ty.bool (Mk.top Ty.bool)]⟩))) (cond (n.ble 145) (⟨[.val Ty.bool],[.val ah (Mk.top ah)]⟩) (cond (n.ble 146) (⟨[.val bV],[.val Ty.bool (Mk.top Ty.bool)]⟩) (⟨[.val cK,.val ah],[.val ah (Mk.top ah)]⟩))))) (cond (n.ble 153) (cond (n.ble 150) (cond (n.ble 149) (⟨[.val bU],[.val bU (Mk.top bU)]⟩) (⟨[.val iZ],[.val iZ (Mk.top iZ)]⟩)) (cond (n.ble 151) (⟨[.val rz],[.val rz (Mk.top rz)]⟩) (cond (n.ble 152) (⟨[.val jZ],[.val iO (Mk.top iO),.val Ty.bool (Mk.top Ty.bool)]⟩) (⟨[.val jY,.val iO],[.val jY lV,.val iO (Mk.top iO),.val iO (Mk.top iO),.val ah (Mk.top ah)]⟩)))) (cond (n.ble 158) (cond (n.ble 155) (⟨[.val jZ,.val iO],[.val jZ (Mk.top jZ)]⟩) (cond (n.ble 156) (⟨[.val jZ],[.val jZ (Mk.top jZ)]⟩) (⟨[.cC cK sj sj,.val ah,.val lE],[]⟩))) (cond (n.ble 159) (⟨[.val bV,.val iZ],[.val ah (Mk.top ah)]⟩) (cond (n.ble 160) (⟨[.val bV,.val iZ],[.val ru (Mk.top ru),.val Ty.bool (Mk.top Ty.bool)]⟩) (⟨[.val jY,.val ah,.val bU,.val lE],[.val jY lV,.val iO (Mk.top iO),.val Ty.bool (Mk.top Ty.bool)]⟩))))))) (cond (n.ble 183) (cond (n.ble 172) (cond (n.ble 166) (cond (n.ble 163) (cond (n.ble 162) (⟨[.val CM,.fn],[.val ah (Mk.top ah)]⟩) (⟨[.val bU,.fn],[.val ah (Mk.top ah)]⟩)) (cond (n.ble 164) (⟨[.val iZ,.fn],[.val ah (Mk.top ah)]⟩) (cond (n.ble 165) (⟨[.val rz,.fn],[.val ah (Mk.top ah)]⟩) (⟨[.val ah],[.val Ty.bool (Mk.top Ty.bool)]⟩)))) (cond (n.ble 169) (cond (n.ble 167) (⟨[.val ah],[.val ah (Mk.top ah)]⟩) (cond (n.ble 168) (⟨[.cC jY lV lV,.val iO],[.val iO (Mk.top iO),.val iO (Mk.top iO),.val ah (Mk.top ah)]⟩) (⟨[.cC cK sj sj,.val ah],[.val ah (Mk.top ah)]⟩))) (cond (n.ble 170) (⟨[.val bV,.val iZ],[.ptr mQ (.pr .no (.pr (.own 0 .no) .no))]⟩) (cond (n.ble 171) (⟨[.val bV,.val iZ],[.val lE (Mk.top lE),.val Ty.bool (Mk.top Ty.bool)]⟩) (⟨[.val iZ,.val ah],[.val ah (Mk.top ah),.val Ty.bool (Mk.top Ty.bool)]⟩))))) (cond (n.ble 177) (cond (n.ble 174) (cond (n.ble 173) (⟨[.val ah],[.val ah (Mk.top ah)]⟩) (⟨[.val bV,.val iZ,.val ah,.val ah],[.val bU (Mk.top bU)]⟩)) (cond (n.ble 175) (⟨[.cO bG (Mk.top bG) (Mk.top bG)],[]⟩) (cond (n.ble 176) (⟨[.val bV,.val ah,.val ah,.val ah,.val ah],[.val ah (Mk.top ah)]⟩) (⟨[.val bV,.cm ah],[.val Ty.bool (Mk.top Ty.bool)]⟩)))) (cond (n.ble 180) (cond (n.ble 178) (⟨[.cC mQ (.pr .no (.pr (.own 0 .no) .no)) (.pr .no (.pr (.own 0 .no) .no)),.val bV],[]⟩) (cond (n.ble 179) (⟨[.cC mQ (.pr .no (.pr (.own 0 .no) .no)) (.pr .no (.pr (.own 0 .no) .no)),.val ah],[.val ah (Mk.top ah)]⟩) (⟨[.cC mQ (.pr .no (.pr (.own 0 .no) .no)) (.pr .no (.pr (.own 0 .no) .no)),.val Ty.bool],[]⟩))) (cond (n.ble 181) (⟨[.val ah,.val ah,.val ah,.cm iZ,.cC bU (Mk.top bU) (Mk.top bU)],[]⟩) (cond (n.ble 182) (⟨[.cO bU (Mk.top bU) (Mk.top bU),.fn],[]⟩) (⟨[.val bV,.val bV],[.val ah (Mk.top ah)]⟩)))))) (cond (n.ble 196) (cond (n.ble 190) (cond (n.ble 185) (cond (n.ble 184) (⟨[.cO bG (Mk.top bG) (Mk.top bG),.val ah,.val ah,.val ah],[]⟩) (⟨[.val vD],[.val ah (Mk.top ah)]⟩)) (cond (n.ble 186) (⟨[.cC mQ (.pr .no (.pr (.own 0 .no) .no)) (.pr .no (.pr (.own 0 .no) .no)),.val ah,.val bG],[]⟩) (cond (n.ble 187) (⟨[.cO bU (Mk.top bU) (Mk.top bU),.val ah,.val ah,.val ah,.fn],[]⟩) (⟨[.cO bG (Mk.top bG) (Mk.top bG),.val ah,.val ah],[]⟩)))) (cond (n.ble 193) (cond (n.ble 191) (⟨[.val bG,.val ah,.val ah],[.val ah (Mk.top ah),.val ah (Mk.top ah)]⟩) (cond (n.ble 192) (⟨[.cO bG (Mk.top bG) (Mk.top bG),.val ah,.val ah],[]⟩) (⟨[.cO bG (Mk.top bG) (Mk.top bG),.val ah,.val ah],[.val Ty.bool (Mk.top Ty.bool)]⟩))) (cond (n.ble 194) (⟨[.val ah,.val ah],[.val Ty.bool (Mk.top Ty.bool)]⟩) (cond (n.ble 195) (⟨[.cO bG (Mk.top bG) (Mk.top bG),.val ah,.val ah,.val ah],[.val ah (Mk.top ah)]⟩) (⟨[.cO bG (Mk.top bG) (Mk.top bG),.val ah,.val ah,.val ah],[.val ah (Mk.top ah),.val Ty.bool (Mk.top Ty.bool)]⟩))))) (cond (n.ble 203) (cond (n.ble 198) (cond (n.ble 197) (⟨[],[]⟩) (⟨[.val vD],[.val ah (Mk.top ah)]⟩)) (cond (n.ble 201) (⟨[.cO bU (Mk.top bU) (Mk.top bU),.val ah,.val ah,.fn],[]⟩) (cond (n.ble 202) (⟨[.val bU,.val ah,.val ah,.fn],[.val ah (Mk.top ah),.val ah (Mk.top ah)]⟩) (⟨[.cO bU (Mk.top bU) (Mk.top bU),.val ah,.val ah,.fn],[]⟩)))) (cond (n.ble 206) (cond (n.ble 204) (⟨[.cO bU (Mk.top bU) (Mk.top bU),.val ah,.val ah,.fn],[.val Ty.bool (Mk.top Ty.bool)]⟩) (cond (n.ble 205) (⟨[.cO bU (Mk.top bU) (Mk.top bU),.val ah,.val ah,.val ah,.fn],[.val ah (Mk.top ah)]⟩) (⟨[.cO bU (Mk.top bU) (Mk.top bU),.val ah,.val ah,.val ah,.fn],[.val ah (Mk.top ah),.val Ty.bool (Mk.top Ty.bool)]⟩))) (cond (n.ble 211) (⟨[],[]⟩) (cond (n.ble 212) (⟨[.val ah],[.val Ty.bool (Mk.top Ty.bool)]⟩) (⟨[],[]⟩))))))))
noncomputable def aj_(n:Nat):Hints:=
 cond (n.ble 93) (cond (n.ble 46) (cond (n.ble 23) (cond (n.ble 14) (cond (n.ble 4) (cond (n.ble 3) ({}) ({ keep:=[(11,[10,11,12],[10,11],[]),(14,[10,11,12,13],[10,11,12],[]),(19,[10,11,14],[2,10],[])] })) (cond (n.ble 12) ({}) (cond (n.ble 13) ({ keep:=[(7,[2,5,6,7,8,9,10],[2,6,7,8],[]),(11,[2,5,6,7,8,9,10,11,12],[2,5,6,7,8,9,10],[])] }) ({ keep:=[(4,[4,7,8,22,23,24],[4,7,8],[])] })))) (cond (n.ble 17) (cond (n.ble 15) ({ keep:=[(4,[1,4,7,8,9],[4,7,8],[])] }) (cond (n.ble 16) ({ keep:=[(5,[2,4,13,14,15],[2,4],[])],share:=[(1,2)] }) ({}))) (cond (n.ble 18) ({ keep:=[(6,[1,2,3,6,7,8],[3,6],[])],share:=[(1,2)] }) (cond (n.ble 22) ({}) ({ keep:=[(3,[0,1,5,9,10],[5],[])] }))))) (cond (n.ble 38) (cond (n.ble 30) (cond (n.ble 29) ({}) ({ keep:=[(4,[1,11,12,13],[2],[]),(9,[1,4,11,12,13,36,37,38],[1,2,11,12,13],[])] })) (cond (n.ble 36) ({}) (cond (n.ble 37) ({ keep:=[(3,[1,5,9,10,11],[5],[])] }) ({})))) (cond (n.ble 43) (cond (n.ble 39) ({ keep:=[(6,[1,2,4,5,17,18,19],[2,4,5],[])] }) (cond (n.ble 40) ({ keep:=[(6,[1,3,4,44,45,46],[1,2,3],[]),(12,[1,3,88,89,90],[1,2],[])] }) ({}))) (cond (n.ble 44) ({ keep:=[(3,[0,3,4],[0,3],[])] }) (cond (n.ble 45) ({ keep:=[(3,[0,2,3,4],[0,2,3],[0])],share:=[(8,1)] }) ({ keep:=[(3,[0,3,4],[0,3],[0]),(7,[0,3,4,5,6],[0,3,4,5],[0])] })))))) (cond (n.ble 66) (cond (n.ble 54) (cond (n.ble 49) (cond (n.ble 48) ({}) ({ keep:=[(5,[4,6,17,18,19],[4,6],[])] })) (cond (n.ble 51) ({}) (cond (n.ble 52) ({ keep:=[(4,[1,4,6,7,8],[1,4,6],[])] }) ({})))) (cond (n.ble 62) (cond (n.ble 55) ({ keep:=[(4,[1,3],[2],[])] }) (cond (n.ble 56) ({ keep:=[(3,[1,2,3,21,22,23],[1,2,3],[]),(8,[2,3,36,37,38],[2,3],[])] }) ({}))) (cond (n.ble 63) ({ keep:=[(4,[1,25,26,27],[2],[])] }) (cond (n.ble 65) ({}) ({ keep:=[(2,[1,6,7,8],[1,2],[])] }))))) (cond (n.ble 81) (cond (n.ble 68) (cond (n.ble 67) ({ keep:=[(4,[0,1,12,13],[4],[])] }) ({ keep:=[(6,[1,3,15,16,17],[1,3],[])] })) (cond (n.ble 73) ({}) (cond (n.ble 74) ({ keep:=[(2,[0,1,7,8],[4],[])] }) ({})))) (cond (n.ble 90) (cond (n.ble 82) ({ keep:=[(6,[1,2,5,6,7,8,17,18,19],[2,5,6,7,8],[])] }) (cond (n.ble 83) ({ keep:=[(3,[1,3,9,10,11],[1,3],[]),(9,[1,3,22,23,24],[1,2,3],[])] }) ({}))) (cond (n.ble 91) ({ keep:=[(2,[1,2,5],[4],[])] }) (cond (n.ble 92) ({}) ({ share:=[(1,1)] }))))))) (cond (n.ble 140) (cond (n.ble 106) (cond (n.ble 99) (cond (n.ble 96) (cond (n.ble 95) ({}) ({ keep:=[(5,[1,3,4],[1,3],[]),(14,[1,3,6],[1,3],[])] })) (cond (n.ble 97) ({}) (cond (n.ble 98) ({ keep:=[(4,[1,3],[1,2],[]),(9,[1,4],[2],[])] }) ({ keep:=[(2,[1,3],[1,2],[])] })))) (cond (n.ble 102) (cond (n.ble 100) ({ keep:=[(3,[1,3,4],[1,2,3],[]),(9,[1,3,5],[1,2,3],[]),(15,[1,3,5,6,7],[1,2,3,5],[])] }) (cond (n.ble 101) ({ keep:=[(4,[1,2,5],[1,2,4],[]),(9,[1,2,6],[1,2,4],[]),(14,[1,2,7],[4],[])] }) ({ keep:=[(5,[1,2,5,6,7,8],[2,4,5,6,7],[])] }))) (cond (n.ble 103) ({ keep:=[(3,[2,3,11,12,13],[2,3],[])] }) (cond (n.ble 105) ({}) ({ share:=[(9,9),(9,10),(10,10)] }))))) (cond (n.ble 113) (cond (n.ble 110) (cond (n.ble 107) ({ keep:=[(2,[1,4,9,10,11],[4,5],[])] }) ({})) (cond (n.ble 111) ({ keep:=[(4,[1,31,32,33],[1,2],[])] }) (cond (n.ble 112) ({}) ({ keep:=[(2,[0,1,7,8],[4],[])] })))) (cond (n.ble 136) (cond (n.ble 116) ({}) (cond (n.ble 117) ({ share:=[(10,6),(12,1),(14,4),(21,1)] }) ({}))) (cond (n.ble 137) ({ keep:=[(3,[1,2,5,6],[5],[])] }) (cond (n.ble 139) ({}) ({ keep:=[(6,[1,3],[2],[])] })))))) (cond (n.ble 170) (cond (n.ble 159) (cond (n.ble 147) (cond (n.ble 146) ({}) ({ keep:=[(2,[1,2,5],[4],[])] })) (cond (n.ble 156) ({}) (cond (n.ble 157) ({ keep:=[(100005,[0,1],[0],[0])] }) ({})))) (cond (n.ble 165) (cond (n.ble 160) ({ keep:=[(18,[1,2,4,9,11,13,95,96,97],[1,2,4,13],[])] }) (cond (n.ble 161) ({}) ({ keep:=[(2,[0,1,7,8],[4],[])] }))) (cond (n.ble 168) ({}) (cond (n.ble 169) ({ keep:=[(2,[0,1,5],[0,4],[0])] }) ({ keep:=[(15,[5,45],[5],[])] }))))) (cond (n.ble 185) (cond (n.ble 172) (cond (n.ble 171) ({}) ({ keep:=[(2,[0,1,6],[4,5],[])] })) (cond (n.ble 183) ({}) (cond (n.ble 184) ({ keep:=[(2,[0,1,2,3,8,9],[0],[0])] }) ({})))) (cond (n.ble 188) (cond (n.ble 186) ({ keep:=[(3,[0,18,19,20],[0],[0])] }) (cond (n.ble 187) ({ keep:=[(2,[0,1,2,3,4,10,11],[0],[0])] }) ({ keep:=[(1,[0,1,2,6],[0],[0]),(4,[0,1,2,6,7],[0,1,2,6],[0])] }))) (cond (n.ble 198) ({}) (cond (n.ble 199) ({ keep:=[(1,[0,1,2,3,8],[0],[0]),(4,[0,1,2,3,8,9],[0,1,2,3,8],[0])] }) ({})))))))
open Go.Proofs in
noncomputable def vX(n:Nat):Option Func:=
 cond (n.ble 105) (cond (n.ble 57) (cond (n.ble 35) (cond (n.ble 18) (cond (n.ble 13) (cond (n.ble 4) (cond (n.ble 3) (none) (some Tryz.f4)) (cond (n.ble 11) (none) (cond (n.ble 12) (some Tryz.f12) (some Tryz.f13)))) (cond (n.ble 15) (cond (n.ble 14) (some Tryz.f14) (some Tryz.f15)) (cond (n.ble 16) (some Tryz.f16) (cond (n.ble 17) (some Tryz.f17) (some Tryz.f18))))) (cond (n.ble 23) (cond (n.ble 20) (cond (n.ble 19) (none) (some Tryz.f20)) (cond (n.ble 21) (some Tryz.f21) (cond (n.ble 22) (none) (some Tryz.f23)))) (cond (n.ble 30) (cond (n.ble 28) (none) (cond (n.ble 29) (some Tryz.f29) (some Tryz.f30))) (cond (n.ble 33) (none) (cond (n.ble 34) (some Tryz.f34) (some Tryz.f35)))))) (cond (n.ble 46) (cond (n.ble 40) (cond (n.ble 37) (cond (n.ble 36) (none) (some Tryz.f37)) (cond (n.ble 38) (some Tryz.f38) (cond (n.ble 39) (some Tryz.f39) (some Tryz.f40)))) (cond (n.ble 43) (cond (n.ble 41) (none) (cond (n.ble 42) (some Tryz.f42) (none))) (cond (n.ble 44) (some Tryz.f44) (cond (n.ble 45) (some Tryz.f45) (some Tryz.f46))))) (cond (n.ble 51) (cond (n.ble 48) (cond (n.ble 47) (some Tryz.f47) (some Tryz.f48)) (cond (n.ble 49) (some Tryz.f49) (cond (n.ble 50) (some Tryz.f50) (some Tryz.f51)))) (cond (n.ble 54) (cond (n.ble 52) (some Tryz.f52) (cond (n.ble 53) (some Tryz.f53) (some Tryz.f54))) (cond (n.ble 55) (some Tryz.f55) (cond (n.ble 56) (some Tryz.f56) (some Tryz.f57))))))) (cond (n.ble 80) (cond (n.ble 69) (cond (n.ble 63) (cond (n.ble 59) (cond (n.ble 58) (some Tryz.f58) (some Tryz.f59)) (cond (n.ble 60) (some Tryz.f60) (cond (n.ble 62) (none) (some Tryz.f63)))) (cond (n.ble 66) (cond (n.ble 64) (some Tryz.f64) (cond (n.ble 65) (none) (some Tryz.f66))) (cond (n.ble 67) (some Tryz.f67) (cond (n.ble 68) (some Tryz.f68) (some Tryz.f69))))) (cond (n.ble 74) (cond (n.ble 71) (cond (n.ble 70) (some Tryz.f70) (some Tryz.f71)) (cond (n.ble 72) (none) (cond (n.ble 73) (some Tryz.f73) (some Tryz.f74)))) (cond (n.ble 77) (cond (n.ble 75) (some Tryz.f75) (cond (n.ble 76) (some Tryz.f76) (some Tryz.f77))) (cond (n.ble 78) (some Tryz.f78) (cond (n.ble 79) (some Tryz.f79) (some Tryz.f80)))))) (cond (n.ble 94) (cond (n.ble 85) (cond (n.ble 82) (cond (n.ble 81) (some Tryz.f81) (some Tryz.f82)) (cond (n.ble 83) (some Tryz.f83) (cond (n.ble 84) (none) (some Tryz.f85)))) (cond (n.ble 91) (cond (n.ble 89) (none) (cond (n.ble 90) (some Tryz.f90) (some Tryz.f91))) (cond (n.ble 92) (some Tryz.f92) (cond (n.ble 93) (some Tryz.f93) (some Tryz.f94))))) (cond (n.ble 99) (cond (n.ble 96) (cond (n.ble 95) (some Tryz.f95) (some Tryz.f96)) (cond (n.ble 97) (some Tryz.f97) (cond (n.ble 98) (some Tryz.f98) (some Tryz.f99)))) (cond (n.ble 102) (cond (n.ble 100) (some Tryz.f100) (cond (n.ble 101) (some Tryz.f101) (some Tryz.f102))) (cond (n.ble 103) (some Tryz.f103) (cond (n.ble 104) (some Tryz.f104) (some Tryz.f105)))))))) (cond (n.ble 152) (cond (n.ble 127) (cond (n.ble 116) (cond (n.ble 110) (cond (n.ble 107) (cond (n.ble 106) (some Tryz.f106) (some Tryz.f107)) (cond (n.ble 108) (none) (cond (n.ble 109) (some Tryz.f109) (some Tryz.f110)))) (cond (n.ble 113) (cond (n.ble 111) (some Tryz.f111) (cond (n.ble 112) (some Tryz.f112) (some Tryz.f113))) (cond (n.ble 114) (some Tryz.f114) (cond (n.ble 115) (some Tryz.f115) (some Tryz.f116))))) (cond (n.ble 121) (cond (n.ble 118) (cond (n.ble 117) (some Tryz.f117) (some Tryz.f118)) (cond (n.ble 119) (some Tryz.f119) (cond (n.ble 120) (some Tryz.f120) (some Tryz.f121)))) (cond (n.ble 124) (cond (n.ble 122) (some Tryz.f122) (cond (n.ble 123) (some Tryz.f123) (some Tryz.f124))) (cond (n.ble 125) (some Tryz.f125) (cond (n.ble 126) (some Tryz.f126) (some Tryz.f127)))))) (cond (n.ble 141) (cond (n.ble 135) (cond (n.ble 132) (cond (n.ble 131) (none) (some Tryz.f132)) (cond (n.ble 133) (some Tryz.f133) (cond (n.ble 134) (some Tryz.f134) (some Tryz.f135)))) (cond (n.ble 138) (cond (n.ble 136) (some Tryz.f136) (cond (n.ble 137) (some Tryz.f137) (some Tryz.f138))) (cond (n.ble 139) (some Tryz.f139) (cond (n.ble 140) (some Tryz.f140) (some Tryz.f141))))) (cond (n.ble 146) (cond (n.ble 143) (cond (n.ble 142) (none) (some Tryz.f143)) (cond (n.ble 144) (none) (cond (n.ble 145) (some Tryz.f145) (some Tryz.f146)))) (cond (n.ble 149) (cond (n.ble 147) (some Tryz.f147) (cond (n.ble 148) (some Tryz.f148) (some Tryz.f149))) (cond (n.ble 150) (some Tryz.f150) (cond (n.ble 151) (some Tryz.f151) (some Tryz.f152))))))) (cond (n.ble 174) (cond (n.ble 163) (cond (n.ble 157) (cond (n.ble 154) (cond (n.ble 153) (some Tryz.f153) (some Tryz.f154)) (cond (n.ble 155) (some Tryz.f155) (cond (n.ble 156) (some Tryz.f156) (some Tryz.f157)))) (cond (n.ble 160) (cond (n.ble 158) (some Tryz.f158) (cond (n.ble 159) (some Tryz.f159) (some Tryz.f160))) (cond (n.ble 161) (some Tryz.f161) (cond (n.ble 162) (some Tryz.f162) (some Tryz.f163))))) (cond (n.ble 168) (cond (n.ble 165) (cond (n.ble 164) (some Tryz.f164) (some Tryz.f165)) (cond (n.ble 166) (some Tryz.f166) (cond (n.ble 167) (some Tryz.f167) (some Tryz.f168)))) (cond (n.ble 171) (cond (n.ble 169) (some Tryz.f169) (cond (n.ble 170) (some Tryz.f170) (some Tryz.f171))) (cond (n.ble 172) (some Tryz.f172) (cond (n.ble 173) (some Tryz.f173) (some Tryz.f174)))))) (cond (n.ble 185) (cond (n.ble 179) (cond (n.ble 176) (cond (n.ble 175) (some Tryz.f175) (some Tryz.f176)) (cond (n.ble 177) (some Tryz.f177) (cond (n.ble 178) (some Tryz.f178) (some Tryz.f179)))) (cond (n.ble 182) (cond (n.ble 180) (some Tryz.f180) (cond (n.ble 181) (some Tryz.f181) (some Tryz.f182))) (cond (n.ble 183) (some Tryz.f183) (cond (n.ble 184) (some Tryz.f184) (some Tryz.f185))))) (cond (n.ble 194) (cond (n.ble 187) (cond (n.ble 186) (some Tryz.f186) (some Tryz.f187)) (cond (n.ble 188) (some Tryz.f188) (cond (n.ble 193) (none) (some Tryz.f194)))) (cond (n.ble 199) (cond (n.ble 197) (none) (cond (n.ble 198) (some Tryz.f198) (some Tryz.f199))) (cond (n.ble 211) (none) (cond (n.ble 212) (some Tryz.f212) (none))))))))
noncomputable def ctx:Ctx:=⟨alL,ak2,aj_⟩
open Go.Proofs
theorem N8:iC Tryz.prog ctx:=acv FR (fun t h=>by show cond (Nat.ble t FR) _ _=_;rw[h];rfl) (by kernel_rfl)
theorem alF:Tryz.prog.follows .mixedOrders=true:=by kernel_rfl
theorem akV:∀(f:FuncId)(fn:Func),Tryz.prog.funcs[f]? = some fn->fn.name≠ "runtime.NumGoroutine" := ac4 (by kernel_rfl)
end Go.V
namespace Go.V
noncomputable section
open Go
def Wf:(t:Ty)->t.den->Prop
 | .unit,_=>True
 | .int k,n=>(Lit.int k n).wf=true
 | .bool,_=>True
 | .str,s=>s.size<=maxLen
 | .sl t,xs=>xs.length<=maxLen/\∀x∈xs,Wf t x
 | .pair a b,x=>Wf a x.1/\Wf b x.2
section
variable {H:Type} {enc:TypeId×Value->H} {P:Program} {C:Ctx} {w:World} {sp:Nat->Bool} {held:Bool}
def Old(w:World):BS:=fun b=>b<w.heap.size
theorem mF.cellsOf{t:TypeId}(k:mF P C t):P.cellsOf t=(C.ty t).width:=by obtain⟨i,h1,h2,_⟩:=k.info;simp[Program.cellsOf,h1,h2]
theorem Qb(bn:iC P C){n:Nat}(ih:∀(t:TypeId)(cs:List Value)(z:DataW H×List MemPlace),(C.ty t).nz=true->DataW.trod enc P w 0 sp held n t cs=some z->
   ∃x:(C.ty t).den,Wf (C.ty t) x/\az w.heap (Old w) (C.ty t) .no x cs Nil) {cs:List Value} :
  ∀(fs:List Field)(off:Nat)(T:Ty),mX C fs off T->(∀f∈fs,∃z,DataW.trod enc P w 0 sp held n f.type ((cs.drop f.offset).take (P.cellsOf f.type))=some z)->cs.length=off+T.width->
   ∃x:T.den,Wf T x/\az w.heap (Old w) T .no x (cs.drop off) Nil
 | [],off,T,hs,_,hl=>by
  simp only[mX]at hs;subst hs;simp only[Ty.width,qS]at hl;exact⟨(),trivial,by simp only[az];exact vG (by omega)⟩
 | f::fs,off,T,hs,hf,hl=>by
  obtain⟨b,rfl,ho,_,hnz,hs⟩:=hs;obtain⟨z,hz⟩:=hf f (e8 ..);obtain⟨x,wx,rx⟩:=ih _ _ z hnz hz;rw[(bn _ hnz).cellsOf,ho]at rx;simp only[Ty.width]at hl;obtain⟨y,wy,ry⟩:=Qb bn ih fs (off+(C.ty f.type).width) b hs (fun g hg=>hf g (cF _ hg)) (by omega);refine⟨(x,y),⟨wx,wy⟩,?_⟩;simp only[az];refine⟨_,_,Nil,Nil,?_,rx,ry,Sub.nil _,Sub.nil _,cB.nil _⟩;rw[<-qR,rG]
theorem acz(bn:iC P C):∀(n:Nat)(t:TypeId)(cs:List Value)(z:DataW H×List MemPlace),(C.ty t).nz=true->DataW.trod enc P w 0 sp held n t cs=some z->
   ∃x:(C.ty t).den,Wf (C.ty t) x/\az w.heap (Old w) (C.ty t) .no x cs Nil:=by
 intro n
 induction n with
 | zero=>intro t cs z _ h;simp[DataW.trod]at h
 | succ n ih=>
  intro t cs z hnz h;have k:=bn t hnz;obtain⟨d,hd,jg⟩:=k.desc;cases d with
  | int kd=>simp only[oM]at jg;obtain⟨m,rfl,_,hw⟩:=DataW.trod_int hd h;rw[jg];exact⟨m,hw,by simp only[az]⟩
  | bool=>
   simp only[oM]at jg;rw[jg];have:∃b,cs=[.bool b]:=by unfold DataW.trod at h;rw[hd]at h;split at h<;>simp_all
   obtain⟨b,rfl⟩:=this;exact⟨b,trivial,by simp only[az]⟩
  | string=>simp only[oM]at jg;obtain⟨s,rfl,_,hw⟩:=DataW.trod_string hd h;rw[jg];exact⟨s,hw,by simp only[az]⟩
  | struct fs=>
   simp only[oM]at jg;obtain⟨xs,m,e,_,hl,hlen,hf⟩:=DataW.trod_struct hd h;obtain rfl:n=m:=by omega
   rw[k.cellsOf]at hl;have:=Qb (cs:=cs) bn ih fs.toList 0 (C.ty t) jg.1 (fun f hf'=>by
    obtain⟨i,hi,e⟩:=nJ.1 hf';rw[iP]at hi;have h1:=hf i f (by rw[<-e];simp[hi]);exact⟨xs[i],by rw[h1];simp⟩) (by omega)
   simpa using this
  | slice e=>
   simp only[oM]at jg;obtain⟨he,Lc⟩:=jg;have ke:=bn e Lc;rw[he];rcases DataW.trod_slice hd h with⟨rfl,_⟩ | ⟨a,len,cap,elems,rest,m,e1,rfl,_,_,hlc,hcm,hel,ej,_⟩
   .exact⟨[],⟨e7 _,fun x hx=>by simp at hx⟩,by simp only[az];exact⟨none,0,by simp,by simp,fun h=>absurd rfl h⟩⟩
   .obtain rfl:n=m:=by omega
    rw[ke.cellsOf]at ej;have hpos:=ke.pos;have key:∀i,i<len->∃(x:(C.ty e).den)(cs:List Value),Wf (C.ty e) x/\az w.heap (Old w) (C.ty e) .no x cs Nil/\cs.length=(C.ty e).width/\∀j,j<(C.ty e).width->w.cell? ((a.add (i * (C.ty e).width)).add j)=cs[j]?:=by intro i hi;have h1:=ej i hi;rw[gz (by omega)]at h1;rw[cM]at h1;obtain⟨cs,h2,h3⟩:=h1;obtain⟨x,wx,rx⟩:=ih _ _ _ Lc h3;obtain⟨_,hl,hc⟩:=World.cells?_some h2;exact⟨x,cs,wx,rx,hl,hc⟩
    by_cases h0:len=0
    .subst h0;exact⟨[],⟨e7 _,fun x hx=>by simp at hx⟩,by simp only[az];exact⟨some a,cap,by simp,by simp,fun h=>absurd rfl h⟩⟩
    .have hz:(C.ty e).den:=(C.ty e).zero;have XY:∀i,∃(x:(C.ty e).den),i<len->∃(cs:List Value),Wf (C.ty e) x/\az w.heap (Old w) (C.ty e) .no x cs Nil/\cs.length=(C.ty e).width/\∀j,j<(C.ty e).width->w.cell? ((a.add (i * (C.ty e).width)).add j)=cs[j]?:=by
      intro i;by_cases hi:i<len
      .obtain⟨x,h⟩:=key i hi;exact⟨x,fun _=>h⟩
      .exact⟨hz,fun h=>absurd h hi⟩
     obtain⟨f,hf⟩:=sU XY;refine⟨(List.range len).map f,⟨by simp;omega,?_⟩,?_⟩
     .intro x hx;simp only[eJ,yp]at hx;obtain⟨i,hi,rfl⟩:=hx;obtain⟨_,h,_⟩:=hf i hi;exact h
     .have hb:∃cells ty fr,w.heap[a.block]? = some (.cells cells ty fr)/\a.spot=none:=by
       obtain⟨cs,_,_,hl,hc⟩:=hf 0 (by omega);have h1:=hc 0 hpos;rw[gz (by omega)]at h1;simp only[Nat.zero_mul,Addr.add,aX]at h1;unfold World.cell? at h1;split at h1
       .rename_i c ty fr hh;split at h1
        .simp at h1
        .rename_i hs;exact⟨c,ty,fr,hh,by simpa using hs⟩
       .simp at h1
      obtain⟨cells,ty,fr,hh,C6⟩:=hb;obtain⟨ab,ao,as'⟩:=a;simp only at C6 hh;subst C6;have hcell:∀i,i<len->∀j,j<(C.ty e).width->w.cell? (((⟨ab,ao,none⟩:Addr).add (i * (C.ty e).width)).add j)=cells[ao+i * (C.ty e).width+j]?:=by
       intro i hi j hj;have:((⟨ab,ao,none⟩:Addr).add (i * (C.ty e).width)).add j=⟨ab,ao+i * (C.ty e).width+j,none⟩:=by simp only[Addr.add];split<;>split<;>simp_all
       rw[this];simp[World.cell?,hh]
      have hsub:∀i,i<len->∀cs:List Value,cs.length=(C.ty e).width->(∀j,j<(C.ty e).width->w.cell? (((⟨ab,ao,none⟩:Addr).add (i * (C.ty e).width)).add j)=cs[j]?)->
        sub cells (ao+i * (C.ty e).width) (C.ty e).width=cs/\ao+i * (C.ty e).width+(C.ty e).width<=cells.size:=by
       intro i hi cs hl hc;have h2:∀j,j<(C.ty e).width->cells[ao+i * (C.ty e).width+j]? = cs[j]?:=fun j hj=>by rw[<-hcell i hi j hj];exact hc j hj
       have h3:ao+i * (C.ty e).width+(C.ty e).width<=cells.size:=by have:=h2 ((C.ty e).width-1) (by omega);rw[gz (by omega)]at this;have:=(rC.1 this).1;omega
       refine⟨?_,h3⟩;apply rI;intro j;simp only[sub,gm,iE];split
       .rename_i hj;rw[ye];exact h2 j hj
       .rename_i hj;rw[pz (by omega)]
      simp only[az];refine⟨some ⟨ab,ao,none⟩,cap,by simp,by simpa using hlc,fun _=>⟨ab,ao,cells,rfl,?_,⟨ty,fr,hh⟩,?_,?_⟩⟩
      .exact(rC.1 hh).1
      .obtain⟨cs,_,_,hl,hc⟩:=hf (len-1) (by omega);have:=(hsub (len-1) (by omega) cs hl hc).2;have e2:len * (C.ty e).width=(len-1) * (C.ty e).width+(C.ty e).width:=by rw[show len=(len-1)+1 by omega,jD];simp
       simp only[jC,FO];omega
      .intro i hi;simp only[jC,FO]at hi;obtain⟨cs,wx,rx,hl,hc⟩:=hf i hi;have e3:((List.range len).map f).getD i (C.ty e).zero=f i:=by simp[List.getD,hi]
       rw[e3,(hsub i hi cs hl hc).1];exact rx
  | _=>simp[oM]at jg
theorem alw{t:TypeId}(k:mF P C t){r:Reach}{b0:Nat}{v:Value}(hval:Value.okWide P w r b0 t v):v=dL (C.ty t) v.cells.toList:=by
 obtain⟨d,hd,jg⟩:=k.desc;cases d with
 | int kd=>simp only[oM]at jg;obtain⟨n,rfl⟩:=Go.WideShapes.okWide_int hd hval;rw[jg];simp[dL,Ty.agg,Value.cells]
 | bool=>simp only[oM]at jg;obtain⟨n,rfl⟩:=Go.WideShapes.okWide_bool hd hval;rw[jg];simp[dL,Ty.agg,Value.cells]
 | string=>simp only[oM]at jg;obtain⟨n,rfl⟩:=Go.WideShapes.okWide_string hd hval;rw[jg];simp[dL,Ty.agg,Value.cells]
 | struct fs=>
  simp only[oM]at jg;obtain⟨cs,rfl,_⟩:=Go.WideShapes.okWide_struct hd hval;have:(C.ty t).agg=true:=by
   generalize hfl:fs.toList=l at jg;cases l with
   | nil=>exact absurd jg.1 jg.2
   | cons f l=>obtain⟨⟨b,e,_⟩,_⟩:=jg;rw[e];rfl
  simp[dL,this,Value.cells]
 | slice e=>simp only[oM]at jg;obtain⟨a,l,c,rfl⟩:=Go.WideShapes.okWide_slice hd hval;rw[jg.1];simp[dL,Ty.agg,Value.cells]
 | _=>simp[oM]at jg
def z5:List TypeId->List PK->Ctx->Prop
 | [],[],_=>True
 | t::ts,.val T::ks,C=>T=C.ty t/\(C.ty t).nz=true/\z5 ts ks C
 | _,_,_=>False
def BW:(ks:List PK)->gf ks->Prop
 | [],_=>True
 | .val t::ks,a=>Wf t a.1/\BW ks a.2
 | _::ks,a=>BW ks a.2
theorem Sg(bn:iC P C){b0:Nat}:∀(ts:List TypeId)(ks:List PK)(vs:List Value)(ds:List (DataW H))(ps:List MemPlace)(i:Nat),z5 ts ks C->DataW.TrodAll enc P w 0 sp held ts vs ds ps->
  (∀(j:Nat) t v,ts[j]? = some t->vs[j]? = some v->Value.okWide P w .any b0 t v)->∃a:gf ks,BW ks a/\yU w.heap (Old w) (fun _=>Nil) i ks a vs
 | [],[],vs,ds,ps,i,_,h,_=>by
  obtain⟨rfl,_,_⟩:=Go.ChangeShapes.trodAll_nil h;exact⟨(),trivial,rfl⟩
 | t::ts,.val T::ks,vs,ds,ps,i,hv,h,hok=>by
  obtain⟨rfl,hnz,hv⟩:=hv;obtain⟨v,vs',d,ds',p,q,rfl,rfl,rfl,⟨n,h1⟩,h2⟩:=Go.ChangeShapes.trodAll_cons h;obtain⟨x,wx,rx⟩:=acz bn n t _ _ hnz h1;obtain⟨a,wa,ra⟩:=Sg bn ts ks vs' ds' q (i+1) hv h2 (fun j t' v' ht Ar=>hok (j+1) t' v' (by simpa using ht) (by simpa using Ar));exact⟨(x,a),⟨wx,wa⟩,v,vs',rfl,⟨_,rx,alw (bn t hnz) (hok 0 t v rfl rfl)⟩,ra⟩
 | [],_::_,_,_,_,_,hv,_,_=>by simp[z5]at hv
 | _::_,[],_,_,_,_,hv,_,_=>by simp[z5]at hv
 | _::_,.own _ _::_,_,_,_,_,hv,_,_=>by simp[z5]at hv
 | _::_,.cC _ _ _::_,_,_,_,_,hv,_,_=>by simp[z5]at hv
 | _::_,.cO _ _ _::_,_,_,_,_,hv,_,_=>by simp[z5]at hv
 | _::_,.cm _::_,_,_,_,_,hv,_,_=>by simp[z5]at hv
 | _::_,.fn::_,_,_,_,_,hv,_,_=>by simp[z5]at hv
theorem akO{n b:Nat}(h:tS n (fun _=>Nil) b):n<=b:=h.elim id (fun⟨_,h⟩=>h.elim)
theorem acd{W W':World}(h:kK (tS W.heap.size fun _=>Nil) W W'):Go.RowKit.Below W.heap.size W W':=
 ⟨h.os,h.tape,h.output,h.size,fun k hk=>h.block k hk fun hm=>by have:=akO hm;omega⟩
end
end
end Go.V
namespace Go.V
noncomputable section
open Go
section
variable (C:Ctx) (D:Den C) {R:Type}
def x_(body:St->(Ex->St->Option R)->Option R)(canon fL:St->St):Nat->St->(Ex->St->Option R)->Option R
 | 0,_,_=>none
 | n+1,S,k=>body S fun e S=>match e with
  | .normal=>x_ body canon fL n (canon S) k
  | e=>k e (fL S)
theorem Sz(body:St->(Ex->St->Option R)->Option R)(canon fL:St->St)(k:Ex->St->Option R):∀(n:Nat)(S:St),sv body canon fL n S k=x_ body canon fL n (canon S) k
 | 0,_=>rfl
 | n+1,S=>by
  simp only[sv,x_];congr 1;funext e S;cases e with
  | normal=>exact Sz body canon fL k n S
  | exit id=>rfl
  | ret=>rfl
noncomputable def mZ(H:Hints)(n:Nat):Code->St->(Ex->St->Option R)->Option R
 | .skip,S,k=>k .normal S
 | .region id ops dr,S,k=>
  if Ma ops then
   yQ C D H id ops (ops.size+1) (nt ops) S [] fun lg S=>
    if dr then (if E9 ops&&DI (Region.before ops) lg lg&&I2 (Region.before ops) ops (nt ops) then k .normal S else none) else k .normal S
  else none
 | .seq a b,S,k=>mZ H n a S fun e S=>match e with
  | .normal=>mZ H n b (r5 H b S) k
  | e=>k e S
 | .cond c a b,S,k=>
  match asBool (ev S c) with
  | some t=>br t (mZ H n a S k) (mZ H n b S k)
  | none=>none
 | .block id b,S,k=>mZ H n b S fun e S=>match e with
  | .exit j=>if j=id then k .normal S else k (.exit j) S
  | e=>k e S
 | .loop b,S,k=>
  match H.keep.lookup (Ct b) with
  | some kp=>x_ (mZ H n b) (St.canon kp.1 kp.2.2) (St.canon kp.2.1 kp.2.2) n (St.canon kp.1 kp.2.2 S) k
  | none=>none
 | .exit id,S,k=>k (.exit id) S
 | .ret,S,k=>k .ret S
 | _,_,_=>none
theorem aj5(H:Hints)(n:Nat):∀(c:Code),(exec C D H n c:St->(Ex->St->Option R)->Option R)=mZ C D H n c:=by
 intro c
 induction c with
 | seq a b fU kS=>funext S k;simp only[exec,mZ,fU,kS];rfl
 | cond c a b fU kS=>funext S k;simp only[exec,mZ,fU,kS];rfl
 | block id b ih=>funext S k;simp only[exec,mZ,ih];rfl
 | loop b ih=>funext S k;simp only[exec,mZ,ih,Sz];rfl
 | _=>funext S k;simp only[exec,mZ]
inductive lN where
 | l | r
def tH:Code->List lN->Code
 | c,[]=>c
 | .seq a _,.l::p=>tH a p
 | .seq _ b,.r::p=>tH b p
 | .cond _ a _,.l::p=>tH a p
 | .cond _ _ b,.r::p=>tH b p
 | .block _ b,.l::p=>tH b p
 | .loop b,.l::p=>tH b p
 | _,_=>.skip
noncomputable def uB(H:Hints)(n:Nat):Nat->Code->St->(St->Option R)->(Ex->St->Option R)->Option R
 | 0,_,S,K,_=>K S
 | m+1,.seq a b,S,K,k=>mZ C D H n a S fun e S=>match e with
  | .normal=>uB H n m b (r5 H b S) K k
  | e=>k e S
 | _+1,_,_,_,_=>none
def CG:Nat->Code->Bool
 | 0,_=>true
 | m+1,.seq _ b=>CG m b
 | _+1,_=>false
theorem aaU(c:Code):tH c []=c:=by cases c<;>rfl
theorem QU(H:Hints)(n:Nat)(k:Ex->St->Option R):∀(m:Nat)(c:Code)(S:St),CG m c=true->
  uB C D H n m c S (fun S'=>mZ C D H n (tH c (List.replicate m .r)) S' k) k=mZ C D H n c S k
 | 0,c,S,_=>by simp only[uB,List.replicate,aaU]
 | m+1,c,S,h=>by
  cases c with
  | seq a b=>
   simp only[uB,mZ];congr 1;funext e S';cases e with
   | normal=>exact QU H n k m b (r5 H b S') h
   | exit id=>rfl
   | ret=>rfl
  | _=>simp[CG]at h
theorem acS(H:Hints)(n m:Nat)(k:Ex->St->Option R)(c:Code)(q:List lN)(S:St)(hq:q=List.replicate m .r)(h:CG m c=true) :
  uB C D H n m c S (fun S'=>mZ C D H n (tH c q) S' k) k=mZ C D H n c S k:=by
 subst hq;exact QU C D H n k m _ S h
noncomputable def uA(H:Hints)(n:Nat):Code->List lN->(Ex->St->Option R)->Ex->St->Option R
 | _,[],k=>k
 | .seq a b,.l::p,k=>uA H n a p fun e S=>match e with
  | .normal=>mZ C D H n b (r5 H b S) k
  | e=>k e S
 | .seq _ b,.r::p,k=>uA H n b p k
 | .cond _ a _,.l::p,k=>uA H n a p k
 | .cond _ _ b,.r::p,k=>uA H n b p k
 | .block id b,.l::p,k=>uA H n b p fun e S=>match e with
  | .exit j=>if j=id then k .normal S else k (.exit j) S
  | e=>k e S
 | _,_,_=>fun _ _=>none
end
def xZ{α:Type}(d:α):Nat->Nat->List (Nat×α)->List α
 | _,0,_=>[]
 | i,n+1,[]=>d::xZ d (i+1) n []
 | i,n+1,(j,v)::l=>cond (Nat.beq i j) (v::xZ d (i+1) n l) (d::xZ d (i+1) n ((j,v)::l))
def bq(n:Nat)(sl:List (Nat×AV))(rt:List (Nat×aC)):St:=⟨xZ .undef 0 n sl,xZ none 0 n (rt.map fun x=>(x.1,some x.2))⟩
section
variable {C:Ctx} (func:FuncId->Option Func) (D:Den C) (n:Nat)
def CD(f:FuncId):Code:=
 match func f with
 | some fn=>fn.body.getD .skip
 | none=>.skip
def NZ(f:FuncId):List ResultVar:=
 match func f with
 | some fn=>fn.results.toList
 | none=>[]
def Fz(f:FuncId):Nat:=
 match func f with
 | some fn=>fn.ntmps
 | none=>0
abbrev Out(C:Ctx)(f:FuncId):Type:=f9 (C.sig f).res×dI (C.sig f).params
noncomputable def BX(f:FuncId):Ex->St->Option (Out C f):=fun e S=>
 match e with
 | .exit _=>none
 | _=>(v_ C (C.sig f).res (NZ func f) S).bind fun r=>(outs (C.hints f) 0 (C.sig f).params r.2).bind fun o=>some (r.1,o)
noncomputable def Kj(f:FuncId)(a:gf (C.sig f).params):Option (Out C f):=
 match func f with
 | none=>none
 | some fn=>
  if fn.body.isSome&&((C.sig f).params.all PK.f7&&(Nat.ble (C.sig f).params.length fn.ntmps&&sF (vU 0 (C.sig f).params) (CD func f))) then
   mZ C D (C.hints f) n (CD func f) (enter ⟨List.replicate fn.ntmps .undef,List.replicate fn.ntmps none⟩ 0 (C.sig f).params a) (BX func f)
  else none
def runs(f:FuncId):Bool:=
 match func f with
 | none=>false
 | some fn=>fn.body.isSome&&((C.sig f).params.all PK.f7&&(Nat.ble (C.sig f).params.length fn.ntmps&&sF (vU 0 (C.sig f).params) (CD func f)))
def Ih(f:FuncId)(a:gf (C.sig f).params):St:=enter ⟨List.replicate (Fz func f) .undef,List.replicate (Fz func f) none⟩ 0 (C.sig f).params a
theorem adh(f:FuncId)(a:gf (C.sig f).params)(h:runs (C:=C) func f=true) :
  Kj func D n f a=mZ C D (C.hints f) n (CD func f) (Ih func f a) (BX func f):=by
 unfold runs at h;unfold Kj Ih Fz;split at h
 .simp at h
 .rename_i fn hf;simp only[hf];rw[aj h]
noncomputable def LQ(f:FuncId)(p:List lN)(m:Nat)(S:St)(K:Ex->St->Option (Out C f)):Option (Out C f):=
 match tH (CD func f) p with
 | .loop b=>
  match (C.hints f).keep.lookup (Ct b) with
  | some kp=>x_ (mZ C D (C.hints f) n b) (St.canon kp.1 kp.2.2) (St.canon kp.2.1 kp.2.2) m S K
  | none=>none
 | _=>none
noncomputable def LK(f:FuncId)(p:List lN)(m:Nat)(K:Ex->St->Option (Out C f)):Ex->St->Option (Out C f):=fun e S=>
 match tH (CD func f) p with
 | .loop b=>
  match (C.hints f).keep.lookup (Ct b) with
  | some kp=>match e with
   | .normal=>LQ func D n f p m (St.canon kp.1 kp.2.2 S) K
   | e=>K e (St.canon kp.2.1 kp.2.2 S)
  | none=>none
 | _=>none
noncomputable def CQ(f:FuncId)(p q:List lN)(K:Ex->St->Option (Out C f)):Ex->St->Option (Out C f):=
 uA C D (C.hints f) n (tH (CD func f) p) q K
theorem sH(f:FuncId)(p:List lN)(S:St)(K:Ex->St->Option (Out C f)):LQ func D n f p 0 S K=none:=by
 unfold LQ;split
 .split<;>rfl
 .rfl
theorem akt(f:FuncId)(a:gf (C.sig f).params):(match func f with
  | none=>none
  | some fn=>vz C D n fn (C.hints f) (C.sig f).params (C.sig f).res a)=Kj func D n f a:=by
 unfold Kj;split
 .rfl
 .rename_i fn hf;unfold vz CD BX NZ;rw[hf];simp only;cases fn.body with
  | none=>simp
  | some c=>simp only[Option.isSome_some,zH,uH,aj5];rfl
end
end
end Go.V
namespace Go.V
noncomputable section
open Go Go.Proofs Go.RowKit Go.ChangeShapes
structure Ext where
 den:Den ctx
 is:FuncId->Bool
 ok:∀f,is f=true->DQ Tryz.prog ctx den f
 call:∀f a r,is f=true->den f a=some r->Jv Tryz.prog f
noncomputable def DD(X:Ext)(n:Nat):Den ctx:=Dn ctx X.den X.is (fun g=>Tryz.prog.funcs[g]?) n
theorem ak6(X:Ext)(n:Nat):ot Tryz.prog ctx (DD X n):=N5 N8 alF X.ok X.call akV n
theorem aka(X:Ext){g:FuncId}{fn:Func}(hf:Tryz.prog.funcs[g]? = some fn)(ht:vX g=some fn)(hx:X.is g=false)(n:Nat)(a:gf (ctx.sig g).params) :
  DD X (n+1) g a=Kj vX (DD X n) n g a:=by
 have:=akt vX (DD X n) n g a;rw[ht]at this;rw[<-this];unfold DD;simp only[Dn,hx,fh,dZ,hf]
def sE:Ext:=⟨fun _ _=>none,fun _=>false,fun _ h=>by simp at h,fun _ _ _ h=>by simp at h⟩
section
variable {H:Type} {enc:TypeId×Value->H} {P:Program}
theorem Pn(hl:laidOutB P=true){W W':World}(hb:Below W.heap.size W W'):∀{ts:List TypeId}{vs:List Value}{ds:List (DataW H)}{ps:List MemPlace},
  ts.all (fun t=>P.readableRec t&&Nat.blt t P.types.size)=true->DataW.TrodAll enc P W 0 (fun _=>true) true ts vs ds ps->(∀x∈ps,x.block<W.heap.size)->
  DataW.TrodAll enc P W' 0 (fun b=>decide (b<W.heap.size)) true ts vs ds ps
 | [],_,_,_,_,h,_=>by
  obtain⟨rfl,rfl,rfl⟩:=trodAll_nil h;exact trodAll_mk0
 | t::ts,_,_,_,ht,h,hlt=>by
  obtain⟨v,vs1,d,ds1,a,b,rfl,rfl,rfl,h1,h2⟩:=trodAll_cons h;simp only[gV,bI]at ht;exact⟨a,b,Below.trod hl ht.1.1 (n8.1 ht.1.2) h1 hb (fun x hx=>hlt x (by simp[hx])),Pn hl hb ht.2 h2 (fun x hx=>hlt x (by simp[hx])),rfl⟩
end
theorem laid:laidOutB Tryz.prog=true:=by kernel_rfl
theorem acA:ownKnob Tryz.prog.godebug=none:=by kernel_rfl
theorem ab0{H:Type}{enc:TypeId×Value->H}{X:Ext}{f:FuncId}{fn:Func}{s:ChangeSpec}{conds:List PathCond}{tb:TypeId}{os:Os}(started:os.Started)
  (hfn:Tryz.prog.funcs[f]? = some fn) (KU:Tryz.prog.inits.idxOf? f=none)
  (witness:∃(w:World)(tape:Tape)(i:Input),w.os=os/\(w.forCall tape i).Shaped Tryz.prog/\i.vars=[]/\Input.okWide Tryz.prog (w.forCall tape i) .any w.heap.size f i/\
   s.pre6 enc Tryz.prog fn conds false (w.forCall tape i).memory i.args/\Assume.holds {} Tryz.prog (lone (Frame.enter Tryz.prog f i.args .normal) [] (w.forCall tape i)))
  (hps:z5 fn.params.toList (ctx.sig f).params ctx) (hrd:fn.params.toList.all (fun t=>Tryz.prog.readableRec t&&Nat.blt t Tryz.prog.types.size)=true)
  (hres:fn.resultTypes = #[tb]) (htb:Tryz.prog.underlying tb=some .bool) (hvars:s.vars=[])
  (Lu:∀ds:List (DataW H),ds.length=fn.params.size->(s.fn H ds).results=[.lit (.bool true)]/\(s.fn H ds).args=ds/\(s.fn H ds).vars=[])
  (W_:∀a,BW (ctx.sig f).params a->∃n r,DD X n f a=some r/\∀h Pr Gs us,lu h Pr Gs 0 (ctx.sig f).res r.1 us->us=[.bool true]) :
  ReturnsInHanded {} Tryz.checked os f .any (s.pre6 enc Tryz.prog fn conds false) (s.post enc Tryz.prog fn false true false false):=by
 refine returnsInHanded_of_change_sized (C:=Tryz.checked) acA started KU hfn witness ?_;intro W base args ds gs before hval hW nY hsz _;have hW':=hW;have hlt:=hW.lt;obtain⟨p,q,hA,hV,rfl,hfz,UG⟩:=hW;rw[hvars]at hV;obtain⟨rfl,rfl⟩:=trodVars_none hV;obtain⟨a,wa,ra⟩:=Sg N8 fn.params.toList (ctx.sig f).params args.toList ds p 0 hps hA (fun j t v ht hv=>hval j t v (by simpa using ht) (by simpa using hv));obtain⟨n,r,hr,hb⟩:=W_ a wa;have pre:Pre W.heap (Old W) (fun _=>Nil) (ctx.sig f).params a args.toList:=
  ⟨ra,fun _ _ _=>cB.nil _,fun _=>cB.nil _,fun _ b hb=>hb.elim,fun b hb=>hb⟩
 have hc:=(ak6 X n).ok f a r hr W (Old W) (fun _=>Nil) args.toList pre;rw[pE]at hc;refine hc.mono ?_;rintro e W' ⟨val,fP,Gs,Os,us,rfl,ps⟩;obtain rfl:=hb _ _ _ _ ps.res;have hv:=ps.val;simp only[tJ]at hv;subst hv;have bel:=acd ps.fr;obtain⟨e1,e2,e3⟩:=Lu (ds++[]) (by rw[gT,(trodAll_length hA).2,iP]);refine⟨_,rfl,ds,[],p++[],[],p,[],hW',?_,?_,?_,bel.frame _,fun h=>by cases h⟩
 .rw[e1,hres];exact trodAll_mk1 (shut_bool htb _)
 .rw[e2,gT];exact Pn laid bel hrd hA (fun x hx=>hlt x (by simp[hx]))
 .rw[e3,hvars];rfl
end
end Go.V

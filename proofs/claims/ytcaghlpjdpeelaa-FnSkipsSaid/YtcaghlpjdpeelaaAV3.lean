import Derived.Orders
import Derived.Test.YtcaghlpjdpeelaaProg
import Derived.KernelRfl
import Derived.WalkKit
import Derived.ProofKit
import Derived.OpenShut
import Derived.Below
import Derived.ChangeOld
import Derived.SizedLaws
import Derived.Lib.Walk
import Derived.Lib.SliceRun
import Derived.Laws.Externs
import Derived.Laws.IdiomCopy
import Derived.Test.YtcaghlpjdpeelaaRows
import Derived.Carry
import Derived.ChangeCalls
import Derived.Test.YtcaghlpjdpeelaaAV2
set_option maxRecDepth 100000
set_option linter.unusedVariables false
set_option linter.unusedSimpArgs false
set_option linter.unusedSectionVars false
namespace Go.V
noncomputable section
open Go
theorem y6{d:Nat}:∀(v:AV),d∉v.roots->v.eL d=true
 | .addr r p,h=>by
  simp only[AV.roots,gk]at h;simp only[AV.eL,fX,gw];left;cases hb:Nat.beq r d with
  | false=>rfl
  | true=>exact absurd (g8 hb).symm h
 | .pair a b,h=>by
  simp only[AV.roots,dw,jw]at h;simp only[AV.eL,aO];exact⟨y6 a h.1,y6 b h.2⟩
 | .fO a,h=>y6 a h
 | .eV _ a,h=>y6 a h
 | .undef,_=>rfl
 | .skip,_=>rfl
 | .bA _,_=>rfl
 | .unit,_=>rfl
 | .cP,_=>rfl
 | .val _ _,_=>rfl
 | .bu _ _ _,_=>rfl
 | .view _ _ _ _ _,_=>rfl
 | .bq _ _,_=>rfl
 | .dK _,_=>rfl
theorem xT{s s':Nat}(h:s≠s'):(!(Nat.ble s s'&&Nat.blt s' (s+1)))=true:=by
 cases h1:Nat.ble s s' with
 | false=>rfl
 | true=>
  cases h2:Nat.blt s' (s+1) with
  | false=>rfl
  | true=>have a:=lI h1;have b:s'+1<=s+1:=lI h2;omega
theorem D8{s:Nat}:∀(p:Path),s∉uR p->gf s (s+1) p=true
 | [],_=>rfl
 | x::p,h=>by
  cases x with
  | idx i s'=>simp only[uR,cU,jw]at h;simp only[gf,aO];exact⟨xT h.1,D8 p h.2⟩
  | _=>exact D8 p (by simpa [uR] using h)
theorem zB{s:Nat}:∀(v:AV),s∉v.stamps->v.aH s (s+1)=true
 | .addr r p,h=>D8 p h
 | .bu r p s',h=>by
  simp only[AV.stamps,cU,jw]at h;simp only[AV.aH,aO];exact⟨xT h.1,D8 p h.2⟩
 | .view r p s' _ _,h=>by
  simp only[AV.stamps,cU,jw]at h;simp only[AV.aH,aO];exact⟨xT h.1,D8 p h.2⟩
 | .pair a b,h=>by
  simp only[AV.stamps,dw,jw]at h;simp only[AV.aH,aO];exact⟨zB a h.1,zB b h.2⟩
 | .fO a,h=>zB a h
 | .eV _ a,h=>zB a h
 | .undef,_=>rfl
 | .skip,_=>rfl
 | .bA _,_=>rfl
 | .unit,_=>rfl
 | .cP,_=>rfl
 | .val _ _,_=>rfl
 | .bq _ _,_=>rfl
 | .dK _,_=>rfl
theorem kB:∀{l l':List Nat},fB l l'=true->∀x∈l,x∉l'
 | [],_,_,x,hx=>by simp at hx
 | a::l,l',h,x,hx=>by
  simp only[fB,aO,gw]at h;rcases cU.1 hx with rfl | hx
  .intro hh;have:=h.1;simp at this;exact this hh
  .exact kB h.2 x hx
theorem D7{S:St}{u r:Nat}:∀{ts:List Nat},u∈ts->r∈(S.get u).roots->r∈b9 S ts
 | [],h,_=>by simp at h
 | t::ts,h,hr=>by
  simp only[b9,dw];rcases cU.1 h with rfl | h
  .exact .inl hr
  .exact .inr (D7 h hr)
theorem D5{S:St}{u r:Nat}:∀{ts:List Nat},u∈ts->r∈(S.get u).stamps->r∈bI S ts
 | [],h,_=>by simp at h
 | t::ts,h,hr=>by
  simp only[bI,dw];rcases cU.1 h with rfl | h
  .exact .inl hr
  .exact .inr (D5 h hr)
theorem HQ{S T:St}:∀{ts:List Nat},(∀u∈ts,T.get u=S.get u)->b9 T ts=b9 S ts
 | [],_=>rfl
 | t::ts,h=>by simp only[b9];rw[h t ef,HQ fun u hu=>h u (d_ _ hu)]
theorem HK{S T:St}:∀{ts:List Nat},(∀u∈ts,T.get u=S.get u)->bI T ts=bI S ts
 | [],_=>rfl
 | t::ts,h=>by simp only[bI];rw[h t ef,HK fun u hu=>h u (d_ _ hu)]
theorem BH{S T:St}(hl:T.sl.length=S.sl.length)(hg:∀u,T.get u=S.get u)(hr:T.rt=S.rt):T=S:=by
 obtain⟨a,b⟩:=S;obtain⟨c,d⟩:=T;simp only at hl hr;subst hr;have:c=a:=by apply xG hl;intro i h1 h2;have:=hg i;simp only[St.get_eq,List.getD,gv h1,gv h2,n8]at this;exact this
 rw[this]
section
variable {C:Ctx} {D:Den C} {hints:Hints} {id:Nat} {ops:Array Oper}
theorem xN{S T:St}{y:Oper}(h:∀u∈rM ops y,T.get u=S.get u):∀x∈y.op.operands,ev T x=ev S x:=by
 intro x hx;cases x with
 | tmp t=>
  simp only[ev];rw[h t (by
   unfold rM;rw[dw];right;rw[List.mem_filterMap];exact⟨.tmp t,by simpa using hx,rfl⟩)]
 | _=>rfl
theorem Cr{S T:St}{y:Oper}(h:∀u∈rM ops y,T.get u=S.get u):jy ops T y=jy ops S y:=by
 unfold jy;cases hg:y.guard with
 | none=>rfl
 | some jb=>obtain⟨j,b⟩:=jb;simp only;rw[h (gP ops j) (by unfold rM;rw[hg];simp)]
theorem xw{S T:St}{j site:Nat}{y:Oper}{v:AV}{a b:aD}(hr:b5 C (ev S) y=none\/(T.rt=S.rt/\a=b)\/nZ C (ev S) y=true)(hk:∀u∈rM ops y,T.get u=S.get u)(ho:∀u∈gb ops j y,T.get u=S.get u):iN C ops T site j y v a=iN C ops S site j y v b:=by
 have he:=xN hk;have hv:nH T y=nH S y:=by unfold nH;exact mP fun x hx=>he x (by simpa using hx)
 unfold iN;have Ox:nC C (ev T) y v=nC C (ev S) y v:=by
  unfold nC;split
  .rename_i t x hop;rw[he x (by rw[hop];simp[Op.operands])]
  .rename_i t x f hop;rw[he x (by rw[hop];simp[Op.operands])]
  .rfl
 rw[hv,HQ ho,HK ho,Jo (C:=C) y he,IL (C:=C) y he,Ox];rcases hr with h | ⟨h1,h2⟩ | h
 .rw[h]
 .rw[h1,h2]
 .rw[h];cases b5 C (ev S) y<;>rfl
theorem I0{S T:St}{j site:Nat}{y:Oper}(ho:∀u∈gb ops j y,T.get u=S.get u):jU ops T site j y=jU ops S site j y:=by unfold jU;rw[HQ ho,HK ho]
theorem sF{S T:St}{rt rt':aD}{j:Nat}{y:Oper}{v:AV}(hl:T.sl.length=S.sl.length)(ho:∀u∈gb ops j y,T.get u=S.get u):∀u∈gb ops j y,(fin ops ⟨T.sl,rt⟩ j y v).get u=(fin ops ⟨S.sl,rt'⟩ j y v).get u:=by
 intro u hu;rw[rL,rL];simp only[hl];have:=ho u hu;by_cases h1:y.dst=some u/\u<S.sl.length
 .rw[aE h1,aE h1]
 .rw[ax h1,ax h1];by_cases h2:u∈mF ops j y
  .rw[aE h2,aE h2]
  .rw[ax h2,ax h2];exact this
theorem w_{S:St}{A:aZ}{site:Nat}{hint:Bool}{y:Oper}(hw:b5 C (ev S) y=none){T:St}{A':aZ}(hrl:T.rt.length=S.rt.length)
  (hr:eW (if lZ y then [] else qk (nH S y)) S.rt T.rt) {β:Bool} {v:AV} {rt':aD} (h:(aS C D A (ev S) S.rt site hint y).dec β=some (v,rt')):rt'=S.rt/\(aS C D A' (ev S) T.rt site hint y).dec β=some (v,T.rt):=
 IW (A:=A) (A':=A') hrl hw hr β v rt' h
def wk(e:gi)(S T:aD):Prop:=eW e.rd S T\/e.bl=true\/∃l,e.ld=some l/\l.1 T=some l.2
theorem IK{S T:St}{A A':aZ}{site:Nat}{hint:Bool}{y:Oper}{β:Bool}{v:AV}{rt':aD}(h:(aS C D A (ev S) S.rt site hint y).dec β=some (v,rt')){l:(aD->Option AV)×AV}(hl:nC C (ev S) y v=some l)
  (hT:l.1 T.rt=some l.2):rt'=S.rt/\(aS C D A' (ev S) T.rt site hint y).dec β=some (v,T.rt):=by
 unfold nC at hl;split at hl
 .rename_i t a hop;simp only[ay]at hl;subst hl;simp only[aS,hop]at h⊢;simp only at hT;by_cases hnz:(C.ty t).nz=true
  .rw[aE hnz]at h hT⊢;rw[hT];cases hv:nW S.rt (C.ty t) (ev S a) with
   | none=>rw[hv]at h;simp[Tr.of,Tr.dec]at h
   | some v2=>rw[hv]at h;simp only[cr,Tr.of,Tr.dec,ay,aJ]at h⊢;exact⟨h.2.symm,trivial⟩
  .rw[ax hnz]at hT;simp at hT
 .rename_i t a f hop;simp only[ay]at hl;subst hl;simp only[aS,hop]at h⊢;simp only at hT;rw[hT];cases hv:tJ S.rt (C.ty t) (ev S a) f with
  | none=>rw[hv]at h;simp[Tr.of,Tr.dec]at h
  | some v2=>rw[hv]at h;simp only[cr,Tr.of,Tr.dec,ay,aJ]at h⊢;exact⟨h.2.symm,trivial⟩
 .simp at hl
theorem wv{S T S':St}{e:gi}{β:Bool}{j:Nat}{y:Oper}(hs:eX C D hints id ops β S j y=some (S',e))(hl:T.sl.length=S.sl.length)(hrl:T.rt.length=S.rt.length)
  (hk:∀u∈rM ops y,T.get u=S.get u) (ho:∀u∈gb ops j y,T.get u=S.get u)
  (hm:(T.rt=S.rt/\gT T.sl y.dst (id * 256+j+1)=gT S.sl y.dst (id * 256+j+1))\/(e.wr=none/\wk e S.rt T.rt)) :
  ∃T',eX C D hints id ops β T j y=some (T',e)/\(∀u∈gb ops j y,T'.get u=S'.get u)/\(e.wr=none->S'.rt=S.rt/\T'.rt=T.rt)/\(T.rt=S.rt->T'.rt=S'.rt):=by
 have hg:=Cr (ops:=ops) hk;have he:=xN hk;unfold eX at hs⊢;rw[hg];split at hs
 .rename_i hgt;simp only[c5,aJ]at hs;obtain⟨⟨v,rt'⟩,hd,hS,hee⟩:=hs;subst hS;subst hee;have oS:∀{A:aZ}{R:aD},aS C D A (ev T) R (id * 256+j+1) (hints.share.contains (id,j)) y=aS C D A (ev S) R (id * 256+j+1) (hints.share.contains (id,j)) y:=Da y he;have hq:b5 C (ev S) y=none->rt'=S.rt:=fun hw=>(w_ (T:=S) (A':=gT S.sl y.dst (id * 256+j+1)) hw rfl (fun _ _=>rfl) hd).1;rcases hm with⟨mo,vo⟩ | ⟨hw,yS⟩
  .refine⟨fin ops ⟨T.sl,rt'⟩ j y v,?_,sF hl ho,fun hw=>?_,fun _=>?_⟩
   .unfold fk at hd⊢;rw[vo,oS,mo,hd];simp only[cr,xw (.inr (.inl ⟨mo,rfl⟩)) hk ho]
   .rw[jW,jW];have:=hq hw;simp only at this⊢;exact⟨this,this.trans mo.symm⟩
   .rw[jW,jW]
  .have rm:b5 C (ev S) y=none:=hw;have G5:rt'=S.rt/\(aS C D (gT T.sl y.dst (id * 256+j+1)) (ev S) T.rt (id * 256+j+1) (hints.share.contains (id,j)) y).dec β=some (v,T.rt):=by
    rcases yS with yS | hb | ⟨l,h1,h2⟩
    .exact w_ (T:=T) (A':=gT T.sl y.dst (id * 256+j+1)) rm hrl (yS.sub fun r hr=>by simp only[iN,dw];exact .inr (.inl hr)) hd
    .have hb':lZ y=true:=hb;exact w_ (T:=T) (A':=gT T.sl y.dst (id * 256+j+1)) rm hrl (by rw[aE hb'];intro r hr;simp at hr) hd
    .exact IK hd h1 h2
   refine⟨fin ops ⟨T.sl,T.rt⟩ j y v,?_,sF hl ho,fun _=>?_,fun mo=>?_⟩
   .unfold fk;rw[oS,G5.2];simp only[cr,xw (b:=rt') (.inl rm) hk ho]
   .rw[jW,jW];exact⟨G5.1,rfl⟩
   .rw[jW,jW];exact mo.trans G5.1.symm
 .rename_i hgt;simp only[ay,aJ]at hs;obtain⟨hS,hee⟩:=hs;subst hS;subst hee;refine⟨fin ops T j y .skip,by rw[I0 ho],?_,fun _=>?_,fun mo=>?_⟩
  .exact sF (S:=S) (T:=T) (rt:=T.rt) (rt':=S.rt) hl ho
  .rw[jW,jW];exact⟨rfl,rfl⟩
  .rw[jW,jW];exact mo
 .simp at hs
theorem Jf{S S':St}{e:gi}{β:Bool}{j:Nat}{y:Oper}(hs:eX C D hints id ops β S j y=some (S',e))(hw:e.wr=none):S'.rt=S.rt:=by obtain⟨_,_,_,h,_⟩:=wv (T:=S) hs rfl rfl (fun _ _=>rfl) (fun _ _=>rfl) (.inl ⟨rfl,rfl⟩);exact(h hw).1
theorem Ku{ρ:Operand->AV}{o:Oper}{W:List Nat}(h:b5 C ρ o=some W):∀d,o.dst=some d->d∈W:=by
 intro d hd;unfold b5 at h;simp only[hd,Option.toList_some]at h
 repeat' split at h
 all_goals first
  | (simp only[ay]at h;subst h;simp;done)
  | (simp at h;done)
theorem tW{S S':St}{e:gi}{β:Bool}{j:Nat}{y:Oper}{W:List Nat}(hs:eX C D hints id ops β S j y=some (S',e))(hw:e.wr=some W):c7 W S.rt S'.rt/\(∀d,y.dst=some d->d∈W):=by
 unfold eX at hs;split at hs
 .simp only[c5,aJ]at hs;obtain⟨⟨v,rt'⟩,hd,hS,hee⟩:=hs;subst hS;subst hee;have rm:b5 C (ev S) y=some W:=hw;rw[jW];exact⟨II rm hd,Ku rm⟩
 .simp only[ay,aJ]at hs;obtain⟨hS,hee⟩:=hs;subst hee;simp[jU]at hw
 .simp at hs
theorem xx{S S':St}{e:gi}{β:Bool}{j:Nat}{y:Oper}(hs:eX C D hints id ops β S j y=some (S',e)){u:Nat}(hu:u∈gb ops j y) :
  (∀r∈(S.get u).roots,r∈e.rd)/\(∀r∈(S'.get u).roots,r∈e.rd)/\(∀r∈(S.get u).stamps,r∈e.st)/\(∀r∈(S'.get u).stamps,r∈e.st):=by
 unfold eX at hs;split at hs
 .simp only[c5,aJ]at hs;obtain⟨⟨v,rt'⟩,hd,hS,hee⟩:=hs;subst hS;subst hee;simp only[iN,dw];refine⟨fun r hr=>.inr (.inr (D7 hu hr)),fun r hr=>?_,fun r hr=>.inr (D5 hu hr),fun r hr=>?_⟩
  .rw[rL]at hr;split at hr
   .exact .inl hr
   .split at hr
    .simp[AV.roots]at hr
    .exact .inr (.inr (D7 hu hr))
  .rw[rL]at hr;split at hr
   .exact .inl hr
   .split at hr
    .simp[AV.stamps]at hr
    .exact .inr (D5 hu hr)
 .simp only[ay,aJ]at hs;obtain⟨hS,hee⟩:=hs;subst hS;subst hee;simp only[jU];refine⟨fun r hr=>D7 hu hr,fun r hr=>?_,fun r hr=>D5 hu hr,fun r hr=>?_⟩
  .rw[rL]at hr;split at hr
   .simp[AV.roots]at hr
   .split at hr
    .simp[AV.roots]at hr
    .exact D7 hu hr
  .rw[rL]at hr;split at hr
   .simp[AV.stamps]at hr
   .split at hr
    .simp[AV.stamps]at hr
    .exact D5 hu hr
 .simp at hs
theorem yt{S S':St}{e:gi}{β:Bool}{j:Nat}{y:Oper}(hs:eX C D hints id ops β S j y=some (S',e)):S'.sl.length=S.sl.length/\∀u,u∉gb ops j y->S'.get u=S.get u:=by
 refine⟨?_,fun u hu=>(wL hs hu).1⟩;unfold eX at hs;split at hs
 .simp only[c5,aJ]at hs;obtain⟨⟨v,rt'⟩,hd,hS,hee⟩:=hs;subst hS;rw[y8]
 .simp only[ay,aJ]at hs;obtain⟨hS,hee⟩:=hs;subst hS;rw[y8]
 .simp at hs
theorem zC{S S':St}{e:gi}{β:Bool}{j:Nat}{y:Oper}(hs:eX C D hints id ops β S j y=some (S',e)){d:Option Nat}{s:Nat}{W:List Nat}(hd:∀d',d=some d'->d'∈W)(jX:fB W e.rd=true)
  (hst:e.st.contains s=false):gT S'.sl d s=gT S.sl d s:=by
 obtain⟨hl,hf⟩:=yt hs;have AD:s∉e.st:=by simpa using hst
 refine Bd d s hl (fun d' e1 k _=>?_) (fun d' e1 k _=>?_) (fun k=>?_)
 .by_cases hk:k∈gb ops j y
  .obtain⟨h1,h2,_,_⟩:=xx hs hk;have hn:=kB jX d' (hd d' e1);have a1:d'∉(S.get k).roots:=fun h=>hn (h1 _ h);have a2:d'∉(S'.get k).roots:=fun h=>hn (h2 _ h);simp only[St.get_eq]at a1 a2;rw[xh,xh,c6 a1,c6 a2]
  .have:=hf k hk;simp only[St.get_eq]at this;rw[this]
 .by_cases hk:k∈gb ops j y
  .obtain⟨h1,h2,_,_⟩:=xx hs hk;have hn:=kB jX d' (hd d' e1);have a1:d'∉(S.get k).roots:=fun h=>hn (h1 _ h);have a2:d'∉(S'.get k).roots:=fun h=>hn (h2 _ h);have b1:=y6 _ a1;have b2:=y6 _ a2;simp only[St.get_eq]at b1 b2;rw[b1,b2]
  .have:=hf k hk;simp only[St.get_eq]at this;rw[this]
 .by_cases hk:k∈gb ops j y
  .obtain⟨_,_,h1,h2⟩:=xx hs hk;have b1:=zB (s:=s) _ (fun h=>AD (h1 _ h));have b2:=zB (s:=s) _ (fun h=>AD (h2 _ h));simp only[St.get_eq]at b1 b2;rw[b1,b2]
  .have:=hf k hk;simp only[St.get_eq]at this;rw[this]
theorem sv{S S':St}{e:gi}{β:Bool}{j:Nat}{y:Oper}(hs:eX C D hints id ops β S j y=some (S',e)):e.site=id * 256+j+1/\e.i=j:=by
 unfold eX at hs;split at hs
 .simp only[c5,aJ]at hs;obtain⟨⟨v,rt'⟩,hd,hS,hee⟩:=hs;subst hee;exact⟨rfl,rfl⟩
 .simp only[ay,aJ]at hs;obtain⟨hS,hee⟩:=hs;subst hee;exact⟨rfl,rfl⟩
 .simp at hs
theorem Cn{S:aD}{l:(aD->Option AV)×AV}(h:sV S l=true):l.1 S=some l.2:=by
 have hp:∀(p q:Path),uV p q=true->p=q:=by
  intro p
  induction p with
  | nil=>intro q h;cases q<;>simp_all [uV]
  | cons x p ih=>
   intro q h;cases q with
   | nil=>cases x<;>simp[uV]at h
   | cons y q=>
    cases x<;>cases y<;>simp only[uV,cL]at h
    .rw[ih q h]
    .rw[ih q h]
 unfold sV at h;split at h
 .rename_i r p s r' p' s' h1 h2;simp only[aO]at h;rw[h1,h2,g8 h.1.1,hp _ _ h.1.2,g8 h.2]
 .rename_i r p r' p' h1 h2;simp only[aO]at h;rw[h1,h2,g8 h.1,hp _ _ h.2]
 .simp at h
theorem KH{S S':St}{e:gi}{β:Bool}{j:Nat}{y:Oper}{W:List Nat}(hs:eX C D hints id ops β S j y=some (S',e))(hw:e.wr=some W):(e.io=none\/e.io=some (S.rt,S'.rt))/\e.dst=y.dst:=by
 unfold eX at hs;split at hs
 .simp only[c5,aJ]at hs;obtain⟨⟨v,rt'⟩,hd,hS,hee⟩:=hs;subst hS;subst hee;have rm:b5 C (ev S) y=some W:=hw;rw[jW];simp only[iN,rm,f_];cases nZ C (ev S) y
  .exact .inr rfl
  .exact .inl rfl
 .simp only[ay,aJ]at hs;obtain⟨hS,hee⟩:=hs;subst hee;simp[jU]at hw
 .simp at hs
theorem Bs{S S':St}{e f:gi}{β:Bool}{j:Nat}{y:Oper}{W:List Nat}(hs:eX C D hints id ops β S j y=some (S',e))(hw:e.wr=some W)(h:tB e f=true) :
  ((f.bl=true\/∃l,f.ld=some l/\l.1 S.rt=some l.2)/\(f.bl=true\/∃l,f.ld=some l/\l.1 S'.rt=some l.2))/\fB y.dst.toList f.rd=true/\f.st.contains e.site=false:=by
 obtain⟨h1,h2⟩:=KH hs hw;unfold tB at h;simp only[aO,gw,fX]at h;obtain⟨⟨a,c⟩,d⟩:=h;refine⟨?_,by rw[<-h2];exact c,d⟩;rcases a with a | a
 .exact⟨.inl a,.inl a⟩
 .split at a
  .rename_i l io hl Ad;rcases h1 with h1 | h1
   .rw[h1]at Ad;simp at Ad
   rw[h1]at Ad;simp only[ay]at Ad;subst Ad;simp only[aO]at a;exact⟨.inr ⟨l,hl,Cn a.1⟩,.inr ⟨l,hl,Cn a.2⟩⟩
  .simp at a
theorem Kh{ρ:Operand->AV}{o:Oper}{W:List Nat}(hw:b5 C ρ o=some W)(hl:nZ C ρ o=true):lZ o=false:=by unfold b5 at hw;unfold lZ;cases ho:o.op<;>rw[ho]at hw<;>simp_all
theorem BC{S T S':St}{e:gi}{β:Bool}{j:Nat}{y:Oper}{W:List Nat}(hs:eX C D hints id ops β S j y=some (S',e))(hw:e.wr=some W)(hlc:e.lc=true)(hl:T.sl.length=S.sl.length)(hrl:T.rt.length=S.rt.length)
  (hk:∀u∈rM ops y,T.get u=S.get u) (ho:∀u∈gb ops j y,T.get u=S.get u) (vo:gT T.sl y.dst (id * 256+j+1)=gT S.sl y.dst (id * 256+j+1))
  (hr:eW (W++e.rd) S.rt T.rt):∃T',eX C D hints id ops β T j y=some (T',e)/\(∀u∈gb ops j y,T'.get u=S'.get u)/\eW W S'.rt T'.rt:=by
 have hg:=Cr (ops:=ops) hk;have he:=xN hk;unfold eX at hs⊢;rw[hg];split at hs
 .rename_i hgt;simp only[c5,aJ]at hs;obtain⟨⟨v,rt'⟩,hd,hS,hee⟩:=hs;subst hS;subst hee;have rm:b5 C (ev S) y=some W:=hw;have vA:nZ C (ev S) y=true:=hlc;have hb:=Kh rm vA;unfold fk at hd⊢;obtain⟨cX,k1,k2,k3⟩:=KJ (A:=gT S.sl y.dst (id * 256+j+1)) hr hrl vA (fun r hr=>by
   refine dw.2 (.inr ?_);simp only[iN,hb,cL,bY,dw];exact .inr (.inl hr)) v rt' hd
  refine⟨fin ops ⟨T.sl,cX⟩ j y v,?_,sF hl ho,?_⟩
  .rw[vo,Da y he,k1];simp only[cr,xw (b:=rt') (.inr (.inr vA)) hk ho]
  .rw[jW,jW];exact k2.sub fun r hr=>dw.2 (.inl hr)
 .simp only[ay,aJ]at hs;obtain⟨hS,hee⟩:=hs;subst hee;simp[jU]at hw
 .simp at hs
theorem Kb{S T:aD}(hl:T.length=S.length)(h:∀r,T.root r=S.root r):T=S:=by apply xG hl;intro i h1 h2;have:=h i;simp only[aD.e8,List.getD,gv h1,gv h2,n8]at this;exact this
theorem swap{S S1 S2:St}{ex ey:gi}{βx βy:Bool}{i j:Nat}{x y:Oper}(h1:eX C D hints id ops βx S i x=some (S1,ex))(h2:eX C D hints id ops βy S1 j y=some (S2,ey))
  (hap:yq ops i j x y=true) (hfr:ex.free ey=true):∃T1,eX C D hints id ops βy S j y=some (T1,ey)/\eX C D hints id ops βx T1 i x=some (S2,ex):=by
 simp only[yq,aO]at hap;obtain⟨⟨p1,p2⟩,p3⟩:=hap;obtain⟨l1,f1⟩:=yt h1;obtain⟨l2,f2⟩:=yt h2;have n1:∀u∈rM ops y,S.get u=S1.get u:=fun u hu=>(f1 u fun h=>kB p1 u h hu).symm;have n2:∀u∈gb ops j y,S.get u=S1.get u:=fun u hu=>(f1 u fun h=>kB p2 u h hu).symm
 -- rQ two OL,and what comes out
 have key:∀(hm:(S.rt=S1.rt/\gT S.sl y.dst (id * 256+j+1)=gT S1.sl y.dst (id * 256+j+1))\/(ey.wr=none/\wk ey S1.rt S.rt))(hrl:S.rt.length=S1.rt.length),
   ∃T1,eX C D hints id ops βy S j y=some (T1,ey)/\(ey.wr=none->S2.rt=S1.rt/\T1.rt=S.rt)/\(S.rt=S1.rt->T1.rt=S2.rt)/\
    (∀(hm2:(T1.rt=S.rt/\gT T1.sl x.dst (id * 256+i+1)=gT S.sl x.dst (id * 256+i+1))\/(ex.wr=none/\wk ex S.rt T1.rt))(Aw:T1.rt.length=S.rt.length),
     ∃T2,eX C D hints id ops βx T1 i x=some (T2,ex)/\(ex.wr=none->S1.rt=S.rt/\T2.rt=T1.rt)/\(T1.rt=S.rt->T2.rt=S1.rt)/\(T2.rt=S2.rt->T2=S2)):=by
  intro hm hrl;obtain⟨T1,k1,k2,k3,k4⟩:=wv h2 l1.symm hrl n1 n2 hm;refine⟨T1,k1,k3,k4,fun hm2 Aw=>?_⟩;obtain⟨lT,fT⟩:=yt k1;obtain⟨T2,q1,q2,q3,q4⟩:=wv h1 lT Aw (fun u hu=>fT u fun h=>kB p3 u h hu) (fun u hu=>fT u fun h=>kB p2 u hu h) hm2;obtain⟨Hy,Ga⟩:=yt q1;refine⟨T2,q1,q3,q4,fun mo=>BH (by rw[Hy,lT,l2,l1]) (fun u=>?_) mo⟩;by_cases hx:u∈gb ops i x
  .rw[q2 u hx,f2 u fun h=>kB p2 u hx h]
  .rw[Ga u hx];by_cases hy:u∈gb ops j y
   .exact k2 u hy
   .rw[fT u hy,f2 u hy,f1 u hx]
 obtain⟨sx,_⟩:=sv h1;obtain⟨sy,_⟩:=sv h2;cases lX:ex.wr with
 | none=>
  have r1:S1.rt=S.rt:=Jf h1 lX;cases kX:ey.wr with
  | none=>obtain⟨T1,k1,k2,k3,k4⟩:=key (.inr ⟨kX,.inl fun r _=>by rw[r1]⟩) (by rw[r1]);obtain⟨e1,e2⟩:=k2 kX;obtain⟨T2,q1,q2,q3,q4⟩:=k4 (.inr ⟨lX,.inl fun r _=>by rw[e2]⟩) (by rw[e2]);have:=q4 ((q2 lX).2.trans (e2.trans (r1.symm.trans e1.symm)));subst this;exact⟨T1,k1,q1⟩
  | some W=>
   simp only[gi.free,lX,kX,fX]at hfr;rcases hfr with hfr | hfr
   rotate_left
   .obtain⟨⟨a1,a2⟩,d1,d2⟩:=Bs h2 kX hfr;rw[sy]at d2;obtain⟨T1,k1,k2,k3,k4⟩:=key (.inl ⟨r1.symm,(zC h1 (W:=y.dst.toList) (fun d' hd'=>by rw[hd'];simp) d1 d2).symm⟩) (by rw[r1]);obtain⟨fr,_⟩:=tW k1 kX;have eT:=k3 r1.symm;obtain⟨T2,q1,q2,q3,q4⟩:=k4 (.inr ⟨lX,.inr (by rw[eT];exact a2)⟩) fr.len;have:=q4 ((q2 lX).2.trans eT);subst this;exact⟨T1,k1,q1⟩
   simp only[tc,aO,gw]at hfr;obtain⟨d1,d2⟩:=hfr;obtain⟨_,Ew⟩:=tW h2 kX;rw[sy]at d2;obtain⟨T1,k1,k2,k3,k4⟩:=key (.inl ⟨r1.symm,(zC h1 Ew d1 d2).symm⟩) (by rw[r1]);obtain⟨fr,_⟩:=tW k1 kX;obtain⟨T2,q1,q2,q3,q4⟩:=k4 (.inr ⟨lX,.inl fun r hr=>fr.root r fun h=>kB d1 r h hr⟩) fr.len;have:=q4 ((q2 lX).2.trans (k3 r1.symm));subst this;exact⟨T1,k1,q1⟩
 | some W=>
  cases kX:ey.wr with
  | none=>
   simp only[gi.free,lX,kX,fX]at hfr;rcases hfr with hfr | hfr
   rotate_left
   .obtain⟨⟨a1,a2⟩,d1,d2⟩:=Bs h1 lX hfr;obtain⟨fr,Ew⟩:=tW h1 lX;rw[sx]at d2;obtain⟨T1,k1,k2,k3,k4⟩:=key (.inr ⟨kX,.inr a1⟩) fr.len.symm;obtain⟨e1,e2⟩:=k2 kX;obtain⟨T2,q1,q2,q3,q4⟩:=k4 (.inl ⟨e2,zC k1 (W:=x.dst.toList) (fun d' hd'=>by rw[hd'];simp) d1 d2⟩) (by rw[e2]);have:=q4 ((q3 e2).trans e1.symm);subst this;exact⟨T1,k1,q1⟩
   simp only[tc,aO,gw]at hfr;obtain⟨d1,d2⟩:=hfr;obtain⟨fr,Ew⟩:=tW h1 lX;rw[sx]at d2;obtain⟨T1,k1,k2,k3,k4⟩:=key (.inr ⟨kX,.inl fun r hr=>(fr.root r fun h=>kB d1 r h hr).symm⟩) fr.len.symm;obtain⟨e1,e2⟩:=k2 kX;obtain⟨T2,q1,q2,q3,q4⟩:=k4 (.inl ⟨e2,zC k1 Ew d1 d2⟩) (by rw[e2]);have:=q4 ((q3 e2).trans e1.symm);subst this;exact⟨T1,k1,q1⟩
  | some W2=>
   simp only[gi.free,lX,kX,aO,gw]at hfr;obtain⟨⟨⟨lx,ly⟩,⟨d1,d2⟩,d3,d4⟩,s1,s2⟩:=hfr;obtain⟨En,yN⟩:=tW h1 lX;obtain⟨Eo,yO⟩:=tW h2 kX;rw[sy]at s1;rw[sx]at s2;obtain⟨T1,k1,k2,k3⟩:=BC (T:=S) h2 kX ly l1.symm En.len.symm n1 n2 (zC h1 yO d3 s1).symm
    (fun r hr=>(En.root r fun h=>by
     rcases dw.1 hr with h' | h'
     .exact kB d2 r h h'
     .exact kB d1 r h h').symm)
   obtain⟨lT,fT⟩:=yt k1;obtain⟨Ep,_⟩:=tW k1 kX;obtain⟨T2,q1,q2,q3⟩:=BC h1 lX lx lT Ep.len (fun u hu=>fT u fun h=>kB p3 u h hu) (fun u hu=>fT u fun h=>kB p2 u hu h) (zC k1 yN d1 s2)
    (fun r hr=>Ep.root r fun h=>by
     rcases dw.1 hr with h' | h'
     .exact kB d4 r h h'
     .exact kB d3 r h h')
   obtain⟨Hy,Ga⟩:=yt q1;obtain⟨zQ,_⟩:=tW q1 lX;have mo:T2.rt=S2.rt:=by
    refine Kb (by rw[zQ.len,Ep.len,Eo.len,En.len]) fun r=>?_;by_cases hx:r∈W
    .rw[q3 r hx,Eo.root r fun h=>kB d2 r hx h]
    .rw[zQ.root r hx];by_cases hy:r∈W2
     .exact k3 r hy
     .rw[Ep.root r hy,Eo.root r hy,En.root r hx]
   have:T2=S2:=BH (by rw[Hy,lT,l2,l1]) (fun u=>by
    by_cases hx:u∈gb ops i x
    .rw[q2 u hx,f2 u fun h=>kB p2 u hx h]
    .rw[Ga u hx];by_cases hy:u∈gb ops j y
     .exact k2 u hy
     .rw[fT u hy,f2 u hy,f1 u hx]) mo
   subst this;exact⟨T1,k1,q1⟩
end
end
end Go.V
namespace Go.V
noncomputable section
open Go
theorem C_(look:Nat->Nat)(i:Nat):∀(l:List Edge)(s:Nat),(l.foldl (fun s e=>if Region.binds .any e then s |||2 ^ e.on |||look e.on else s) s).testBit i=true->
  s.testBit i=true\/∃e∈l,Region.binds .any e=true/\(e.on=i\/(look e.on).testBit i=true)
 | [],s,h=>.inl h
 | e::l,s,h=>by
  rw[n9]at h;rcases C_ look i l _ h with h | ⟨e',he,hh⟩
  .by_cases hb:Region.binds .any e=true
   .rw[aE hb,Nat.testBit_or,Nat.testBit_or,Nat.testBit_two_pow]at h;simp only[fX,fu]at h;rcases h with(h | h) | h
    .exact .inl h
    .exact .inr ⟨e,ef,hb,.inl h⟩
    .exact .inr ⟨e,ef,hb,.inr h⟩
   .rw[ax hb]at h;exact .inl h
  .exact .inr ⟨e',d_ _ he,hh⟩
def BW(acc:Array Nat)(l:List Oper):Prop:=acc.size=l.length/\∀j i,(acc.getD j 0).testBit i=true->∃o,l[j]? = some o/\∃e∈o.after,Region.binds .any e=true/\(e.on=i\/(e.on<j/\(acc.getD e.on 0).testBit i=true))
theorem BI:∀(l:List Oper)(acc:Array Nat)(d:List Oper),BW acc d->
  BW (l.foldl (fun acc o=>acc.push (o.after.foldl (fun s e=>if Region.binds .any e then s |||2 ^ e.on |||acc.getD e.on 0 else s) 0)) acc) (d++l)
 | [],acc,d,h=>by simpa using h
 | o::l,acc,d,h=>by
  rw[n9];have e:d++o::l=(d++[o])++l:=by simp
  rw[e];refine BI l _ _ ⟨by simp[h.1],fun j i hb=>?_⟩;have hs:=h.1;have gd:∀q(v:Nat),(acc.push v).getD q 0=if q=acc.size then v else acc.getD q 0:=by intro q v;simp only[kj,sM];split<;>rfl
  rw[gd]at hb;by_cases hj:j=acc.size
  .rw[aE hj,<-xF]at hb;rcases C_ (fun n=>acc.getD n 0) i _ _ hb with h0 | ⟨e',he,hbd,hh⟩
   .simp at h0
   .refine⟨o,by rw[hj,hs];simp,e',by simpa using he,hbd,?_⟩;rcases hh with hh | hh
    .exact .inl hh
    .have hlt:e'.on<acc.size:=by
      rcases sP e'.on acc.size with h | h
      .exact h
      .simp[kj,xE h]at hh
     refine .inr ⟨by omega,?_⟩;rw[gd,ax (by omega)];exact hh
  .rw[ax hj]at hb;obtain⟨o',ho',e',he,hbd,hh⟩:=h.2 j i hb;have hlt:j<d.length:=(wN.1 ho').1;refine⟨o',by rw[fo hlt];exact ho',e',he,hbd,hh.imp id fun hh=>⟨hh.1,?_⟩⟩;rw[gd,ax (by omega)];exact hh.2
theorem CJ(ops:Array Oper){j i:Nat}(h:((Region.before ops).getD j 0).testBit i=true) :
  ∃o,ops[j]? = some o/\∃e∈o.after,Region.binds .any e=true/\(e.on=i\/(e.on<j/\((Region.before ops).getD e.on 0).testBit i=true)):=by
 have:=BI ops.toList #[] [] ⟨rfl,fun j i hb=>by simp at hb⟩;unfold Region.before at h⊢;rw[<-xF]at h⊢;obtain⟨o,ho,hh⟩:=this.2 j i h;exact⟨o,by simpa using ho,hh⟩
theorem IC{ops:Array Oper}(he:vW ops=true):∀(j i:Nat),((Region.before ops).getD j 0).testBit i=true->i<j:=by
 intro j
 induction j using Nat.strongRecOn with
 | _ j ih=>
  intro i h;obtain⟨o,ho,e,hm,hb,hh⟩:=CJ ops h;have hlt:e.on<j:=by
   simp only[vW,lM]at he;have hx:(j,o)∈iY ops:=by simp only[iY,fZ];exact⟨(o,j),xV.2 (by simpa using ho),rfl⟩
   have:=he (j,o) hx;rw[Ct]at this;have:=this e hm;rw[hb]at this;simpa [jx] using this
  rcases hh with rfl | ⟨_,hh⟩
  .exact hlt
  .exact Nat.lt_trans (ih e.on hlt i hh) hlt
def Down(ops:Array Oper)(listed:Array Bool):Prop:=∀(j:Nat) o,ops[j]? = some o->listed.getD j false=true->∀e∈o.after,Region.binds .any e=true->listed.getD e.on false=true
theorem JH{ops:Array Oper}{listed:Array Bool}(hd:Down ops listed):∀(j i:Nat),((Region.before ops).getD j 0).testBit i=true->
  (∀o,ops[j]? = some o->∀e∈o.after,Region.binds .any e=true->listed.getD e.on false=true)->listed.getD i false=true:=by
 intro j
 induction j using Nat.strongRecOn with
 | _ j ih=>
  intro i h hl;obtain⟨o,ho,e,hm,hb,hh⟩:=CJ ops h;have h1:=hl o ho e hm hb;rcases hh with rfl | ⟨hlt,hh⟩
  .exact h1
  .exact ih e.on hlt i hh fun o' ho'=>hd e.on o' ho' h1
theorem gi.nj(e f:gi):e.free f=f.free e:=by
 unfold gi.free;cases e.wr<;>cases f.wr
 .rfl
 .rfl
 .rfl
 .rename_i w w';simp only;cases e.lc<;>cases f.lc<;>cases fB w f.rd<;>cases fB w w'<;>cases fB w' e.rd<;>cases fB w' w<;>cases e.st.contains f.site<;>cases f.st.contains e.site<;>rfl
theorem Cq{M:Array Nat}{e:gi}:∀{l:Log},sU M e l=true->∀f∈l,e.i=f.i\/nQ M e.i f.i=true\/e.free f=true
 | [],_,f,hf=>by simp at hf
 | g::l,h,f,hf=>by
  simp only[sU,aO,fX]at h;rcases cU.1 hf with rfl | hf
  .rcases h.1 with(h | h) | h
   .exact .inl (g8 h)
   .exact .inr (.inl h)
   .exact .inr (.inr h)
  .exact Cq h.2 f hf
theorem wX{M:Array Nat}{all:Log}:∀{l:Log},uX M all l=true->∀e∈l,e.wr≠none->∀f∈all,e.i=f.i\/nQ M e.i f.i=true\/e.free f=true
 | [],_,e,he=>by simp at he
 | g::l,h,e,he=>by
  simp only[uX,aO]at h;intro hw;rcases cU.1 he with rfl | he
  .have:=h.1;cases AK:e.wr with
   | none=>exact absurd AK hw
   | some W=>rw[AK]at this;exact Cq this
  .exact wX h.2 e he hw
theorem JR(M:Array Nat)(i j:Nat):nQ M i j=nQ M j i:=by simp[nQ,Bool.or_comm]
theorem J4{M:Array Nat}{LG:Log}(h:uX M LG LG=true){e f:gi}(he:e∈LG)(hf:f∈LG)(hne:e.i≠f.i)(ho:nQ M e.i f.i=false):e.free f=true:=by
 cases AK:e.wr with
 | some W=>
  rcases wX h e he (by rw[AK];simp) f hf with h | h | h
  .exact absurd h hne
  .rw[ho]at h;simp at h
  .exact h
 | none=>
  cases hwf:f.wr with
  | none=>simp[gi.free,AK,hwf]
  | some W=>
   rcases wX h f hf (by rw[hwf];simp) e he with h | h | h
   .exact absurd h.symm hne
   .rw[JR,ho]at h;simp at h
   .rw[gi.nj];exact h
theorem Ck{M:Array Nat}{ops:Array Oper}{i:Nat}{x:Oper}:∀{l:List (Nat×Oper)},sB M ops i x l=true->∀y∈l,nQ M i y.1=true\/yq ops i y.1 x y.2=true
 | [],_,y,hy=>by simp at hy
 | (j,z)::l,h,y,hy=>by
  simp only[sB,aO,fX]at h;rcases cU.1 hy with rfl | hy
  .exact h.1
  .exact Ck h.2 y hy
theorem Cj{M:Array Nat}{ops:Array Oper}:∀{l:List (Nat×Oper)},yz M ops l=true->l.Pairwise fun x y=>nQ M x.1 y.1=true\/yq ops x.1 y.1 x.2 y.2=true
 | [],_=>List.Pairwise.nil
 | (i,x)::l,h=>by
  simp only[yz,aO]at h;exact List.Pairwise.cons (fun y hy=>Ck h.1 y hy) (Cj h.2)
section
variable (C:Ctx) (D:Den C) (hints:Hints) (id:Nat) (ops:Array Oper)
noncomputable def fK(β:Nat->Bool):List (Nat×Oper)->St->Option (St×Log)
 | [],S=>some (S,[])
 | (i,o)::l,S=>(eX C D hints id ops (β i) S i o).bind fun x=>(fK β l x.1).map fun y=>(y.1,x.2::y.2)
end
section
variable {C:Ctx} {D:Den C} {hints:Hints} {id:Nat} {ops:Array Oper}
theorem Bk{β:Nat->Bool}:∀(l:List (Nat×Oper))(S:St),fK C D hints id ops β l S=cI C D hints id ops (l.map fun x=>β x.1) l S
 | [],S=>rfl
 | (i,o)::l,S=>by
  simp only[fK,cI,dn,mR,wG];congr 1;funext x;rw[Bk l x.1]
theorem xb{β:Nat->Bool}{i:Nat}{o:Oper}{l:List (Nat×Oper)}{S S':St}{lg:Log}(h:fK C D hints id ops β ((i,o)::l) S=some (S',lg)) :
  ∃S1 e eK,eX C D hints id ops (β i) S i o=some (S1,e)/\fK C D hints id ops β l S1=some (S',eK)/\lg=e::eK:=by
 simp only[fK,bD,c5,aJ]at h;obtain⟨⟨S1,e⟩,hs,⟨S2,yX⟩,hr,rfl,rfl⟩:=h;exact⟨S1,e,yX,hs,hr,rfl⟩
theorem Bl{β:Nat->Bool}{i:Nat}{o:Oper}{l:List (Nat×Oper)}{S S1 S':St}{e:gi}{eK:Log}(hs:eX C D hints id ops (β i) S i o=some (S1,e))(hr:fK C D hints id ops β l S1=some (S',eK)) :
  fK C D hints id ops β ((i,o)::l) S=some (S',e::eK):=by
 simp only[fK,hs,bX,hr,cr]
theorem Cu{β β':Nat->Bool}:∀(l:List (Nat×Oper))(S:St),(∀x∈l,β' x.1=β x.1)->fK C D hints id ops β' l S=fK C D hints id ops β l S
 | [],S,_=>rfl
 | (i,o)::l,S,h=>by
  simp only[fK];have:=h (i,o) ef;simp only at this;rw[this];congr 1;funext x;rw[Cu l x.1 fun y hy=>h y (d_ _ hy)]
theorem Cv{β:Nat->Bool}{j:Nat}{y:Oper}{post:List (Nat×Oper)}:∀(pre:List (Nat×Oper))(S S':St)(lg:Log),fK C D hints id ops β (pre++(j,y)::post) S=some (S',lg)->
  (∀x∈pre,yq ops x.1 j x.2 y=true)->(∀ex∈lg,∀ey∈lg,(∃x∈pre,ex.i=x.1)->ey.i=j->ex.free ey=true)->
  ∃vL,fK C D hints id ops β ((j,y)::(pre++post)) S=some (S',vL)/\∀e∈vL,e∈lg
 | [],S,S',lg,h,_,_=>⟨lg,h,fun e he=>he⟩
 | (i,x)::pre,S,S',lg,h,hap,hfr=>by
  rw[iE]at h;obtain⟨S1,ex,eK,h1,h2,rfl⟩:=xb h;obtain⟨yX,k1,k2⟩:=Cv pre S1 S' eK h2 (fun x hx=>hap x (d_ _ hx))
   (fun a ha b hb ⟨z,hz,e⟩ hj=>hfr a (d_ _ ha) b (d_ _ hb) ⟨z,d_ _ hz,e⟩ hj)
  obtain⟨S2,ey,SM,q1,q2,rfl⟩:=xb k1;have hi:=(sv h1).2;have hj:=(sv q1).2;obtain⟨T1,t1,t2⟩:=swap h1 q1 (hap (i,x) ef) (hfr ex ef ey (d_ _ (k2 ey ef)) ⟨(i,x),ef,hi⟩ hj);refine⟨ey::ex::SM,Bl t1 (Bl t2 q2),fun e he=>?_⟩;rcases cU.1 he with rfl | he
  .exact d_ _ (k2 _ ef)
  .rcases cU.1 he with rfl | he
   .exact ef
   .exact d_ _ (k2 _ (d_ _ he))
end
theorem sG{ops:Array Oper}{j:Nat}{o:Oper}(h:ops[j]? = some o):(j,o)∈iY ops:=by simp only[iY,fZ];exact⟨(o,j),xV.2 (by simpa using h),rfl⟩
section
variable {P:Program} {C:Ctx} {D:Den C} (aM:e_ P C) (eG:oA P C D)
include aM eG
theorem Kz{np:List Nat}{Q:Exit->Act->World->Prop}{hints:Hints}{id:Nat}{ops:Array Oper}{F:St->Prop}(hgd:A6 ops=true)(Oo:vW ops=true)(r0:yz (Region.before ops) ops (iY ops)=true)(hnp:y_ np ops=true) :
  ∀(fuel:Nat)(listed:Array Bool)(rest:List (Nat×Oper))(S:St)(g:ai)(a:Act)(w:World),rest.length<=fuel->listed.size=ops.size->Down ops listed->rest.Sublist (iY ops)->
   (∀x∈iY ops,x∈rest↔listed.getD x.1 true=false)->aj w.heap S g a.tmps Nil->a.defers=[]->
   (∀β,∃S' lg LG,fK C D hints id ops β rest S=some (S',lg)/\(∀e∈lg,e∈LG)/\uX (Region.before ops) LG LG=true/\F S')->
   (∀S' g' a' w',F S'->aj w'.heap S' g' a'.tmps Nil->g'.bG g->gB g.L w w'->a'.defers=[]->nX np a a'->Q .normal a' w')->wpAny P .any ops Q fuel listed a w:=by
 intro fuel
 induction fuel with
 | zero=>
  intro listed rest S g a w hlen hsz hdn hsub hiff st hdf hrun hQ;have hr:rest=[]:=iC.1 (by omega);subst hr;refine⟨?_,?_⟩
  .apply List.eq_nil_iff_forall_not_mem.2;intro j hj;obtain⟨h0,o,ho,_⟩:=mem_ready.1 hj;have:=(hiff (j,o) (sG ho)).2 h0;simp at this
  .obtain⟨S',lg,LG,h1,_,_,h4⟩:=hrun fun _=>true;simp only[fK,ay,aJ]at h1;obtain⟨rfl,_⟩:=h1;exact hQ S g a w h4 st (.refl g) (.refl _ _) hdf (.refl _ _)
 | succ fuel ih=>
  intro listed rest S g a w hlen hsz hdn hsub hiff st hdf hrun hQ;have Ot:∀j,j<ops.size->(listed.getD j true=listed.getD j false):=by
   intro j hj;have:j<listed.size:=by omega
   simp[Array.getD,this]
  refine⟨fun Sx=>?_,fun j hj=>?_⟩
  .have hr:rest=[]:=by
    cases rest with
    | nil=>rfl
    | cons x rest=>
     exfalso;have key:∀j,j<ops.size->listed.getD j true=true:=by
      intro j
      induction j using Nat.strongRecOn with
      | _ j SI=>
       intro hlt;cases hl:listed.getD j true with
       | true=>rfl
       | false=>
        exfalso;have ho:ops[j]? = some ops[j]:=lE hlt;have:j∈Region.ready .any ops listed:=by
         refine mem_ready.2 ⟨hl,ops[j],ho,fun e he hb=>?_⟩;have GM:e.on<j:=by have nu:=Oo;simp only[vW,lM]at nu;have:=nu (j,ops[j]) (sG ho);rw[Ct]at this;have:=this e he;rw[hb]at this;simpa [jx] using this
         rw[<-Ot e.on (by omega)];exact SI e.on GM (by omega)
        rw[Sx]at this;simp at this
     have hx:=hsub.subset ef;have h0:=(hiff x hx).1 ef;have cz:=pJ x hx;have:=key x.1 (lC.1 cz).1;rw[h0]at this;simp at this
   subst hr;obtain⟨S',lg,LG,h1,_,_,h4⟩:=hrun fun _=>true;simp only[fK,ay,aJ]at h1;obtain⟨rfl,_⟩:=h1;exact hQ S g a w h4 st (.refl g) (.refl _ _) hdf (.refl _ _)
  .obtain⟨h0,y,hy,oU⟩:=mem_ready.1 hj;have Sm:j<ops.size:=(lC.1 hy).1;have hmem:=(hiff (j,y) (sG hy)).2 h0;obtain⟨pre,post,rfl⟩:=List.append_of_mem hmem
   -- indexes Wt apart
   have Oz:((iY ops).map (·.1)).Nodup:=by rw[EO];exact List.nodup_range
   have GV:=(hsub.map (·.1)).nodup Oz;simp only[sO,dn]at GV;have rY:((pre++(j,y)::post).map (·.1)).Pairwise (· < ·):=by refine List.Pairwise.sublist (hsub.map (·.1)) ?_;rw[EO];exact List.pairwise_lt_range
   have hlt:∀x∈pre,x.1<j:=by intro x hx;rw[sO,qR]at rY;exact rY.2.2 x.1 (fZ.2 ⟨x,hx,rfl⟩) j (by simp)
   have hgt:∀x∈post,j<x.1:=by intro x hx;rw[sO,qR,dn,jh]at rY;exact rY.2.1.1 x.1 (fZ.2 ⟨x,hx,rfl⟩)
   have hun:∀x∈pre,nQ (Region.before ops) x.1 j=false:=by
    intro x hx;have OI:x∈iY ops:=hsub.subset (by simp[hx]);have SG:=(hiff x OI).1 (by simp[hx]);cases ho:nQ (Region.before ops) x.1 j with
    | false=>rfl
    | true=>
     exfalso;simp only[nQ,fX]at ho;rcases ho with ho | ho
     .have:=JH hdn j x.1 ho fun o' ho' e he hb=>by
       rw[hy]at ho';simp only[ay]at ho';subst ho';exact oU e he hb
      have Hr:x.1<ops.size:=(lC.1 (pJ x OI)).1;rw[<-Ot x.1 Hr,SG]at this;simp at this
     .have:=IC Oo _ _ ho;have:=hlt x hx;omega
   have hap:∀x∈pre,yq ops x.1 j x.2 y=true:=by
    intro x hx;have:=(Cj r0).sublist hsub;rw[qR]at this;rcases this.2.2 x hx (j,y) (by simp) with h | h
    .have:=hun x hx;simp only at h;rw[this]at h;simp at h
    .exact h
   have uA:∀β,∃S1 e S' lg LG,eX C D hints id ops (β j) S j y=some (S1,e)/\fK C D hints id ops β (pre++post) S1=some (S',lg)/\(∀e∈lg,e∈LG)/\uX (Region.before ops) LG LG=true/\F S':=by
    intro β;obtain⟨S',lg,LG,h1,h2,h3,h4⟩:=hrun β;obtain⟨vL,q1,q2⟩:=Cv pre S S' lg h1 hap (by
     intro ex hex ey Sg hx OJ;obtain⟨x,hx,e1⟩:=hx;refine J4 h3 (h2 ex hex) (h2 ey Sg) ?_ ?_
     .rw[e1,OJ];have:=hlt x hx;omega
     .rw[e1,OJ];exact hun x hx)
    obtain⟨S1,e,eK,t1,t2,rfl⟩:=xb q1;exact⟨S1,e,S',eK,LG,t1,t2,fun e he=>h2 e (q2 e (d_ _ he)),h3,h4⟩
   refine Bv aM eG st (hints:=hints) (id:=id) hy (fun j' c=>CP hgd j y j' c hy) hdf (Dc hnp (j,y) (sG hy)) (fun β=>?_) ?_
   .obtain⟨S1,e,_,_,_,h1,_⟩:=uA fun _=>β;exact⟨_,h1⟩
   .intro βj S1 e a' w' g' hs st' fA hfr fj jQ;refine ih (listed.setIfInBounds j true) (pre++post) S1 g' a' w' ?_ (by simpa using hsz) ?_ ?_ ?_ st' fj ?_ ?_
    .simp only[cS,g9]at hlen⊢;omega
    .intro q o hq EA e he hb;by_cases OA:j=q
     .subst OA;rw[hy]at hq;simp only[ay]at hq;subst hq;exact getD_set_true (oU e he hb)
     .rw[getD_set_ne false OA]at EA;exact getD_set_true (hdn q o hq EA e he hb)
    .exact List.Sublist.trans (List.Sublist.append (List.Sublist.refl pre) (List.sublist_cons_self _ _)) hsub
    .intro x hx;have hx1:=hiff x hx;by_cases EC:x.1=j
     .constructor
      .intro hm;exfalso;rcases dw.1 hm with hm | hm
       .have:=hlt x hm;omega
       .have:=hgt x hm;omega
      .intro h;exfalso;have eH:j<listed.size:=by omega
       simp[EC,Array.getD,eH]at h
     .rw[getD_set_ne true (fun h=>EC h.symm),<-hx1];simp only[dw,cU];constructor
      .rintro(h | h)
       .exact .inl h
       .exact .inr (.inr h)
      .rintro(h | h | h)
       .exact .inl h
       .exact absurd (by rw[h]) EC
       .exact .inr h
    .intro β;obtain⟨Ws,e',S',lg,LG,h1,h2,h3⟩:=uA fun n=>if n=j then βj else β n
     simp only[aK]at h1;rw[hs]at h1;simp only[ay,aJ]at h1;obtain⟨rfl,rfl⟩:=h1;refine⟨S',lg,LG,?_,h3⟩;rw[<-h2];symm;refine Cu _ _ fun x hx=>?_;rw[ax];intro EC;rcases dw.1 hx with hm | hm
     .have:=hlt x hm;omega
     .have:=hgt x hm;omega
    .intro S' nk yK w'' hF n4 o9 kT oT oW;exact hQ S' nk yK w'' hF n4 (fA.trans o9) (hfr.trans (by rw[fA.2.1]at kT;exact kT)) oT (jQ.trans oW)
theorem JZ{np:List Nat}{R:Type}{r:R}{H:Hints}{id:Nat}{ops:Array Oper}{S:St}{k:Ex->St->Option R}{Q:Exit->Act->World->Prop}{g:ai}{a:Act}{w:World}{n:Nat}
  (gm:P.follows .mixedOrders=true) (hnp:y_ np ops=true) (h:exec C D H n (.region id ops true) S k=some r):u9 np P C Q r (.region id ops true) S k g a w:=by
 intro st hdf hQ;simp only[exec]at h;split at h
 .rename_i hgd;have hR:=fun βs=>AS (hints:=H) _ _ _ _ h S (de.refl S) βs;have oQ:vW ops=true/\yz (Region.before ops) ops (iY ops)=true:=by
   obtain⟨T1,er,S1,eK,_,q2,_⟩:=hR [];simp only[aK]at q2;split at q2
   .rename_i hc;simp only[aO]at hc;exact⟨hc.1.1,hc.2⟩
   .simp at q2
  refine wp_region_any gm ?_;refine Kz (hints:=H) (id:=id) (F:=fun S'=>∃S1,k .normal S1=some r/\de S1 S') aM eG hgd oQ.1 oQ.2 hnp ops.size _ (iY ops) S g a _ ?_ (by simp) ?_ (List.Sublist.refl _) ?_ st hdf (fun β=>?_) ?_
  .have:=congrArg List.length (EO (ops:=ops));simp only[lO,wB]at this;omega
  .intro j o ho hl;exfalso;have hlt:=(lC.1 ho).1;simp[hlt]at hl
  .intro x hx;have hlt:=(lC.1 (pJ x hx)).1;simp[hx,hlt]
  .obtain⟨T1,er,S1,eK,q1,q2,q3,q4,_⟩:=hR ((iY ops).map fun x=>β x.1);simp only[aK]at q2;split at q2
   .rename_i hc;simp only[aO]at hc;exact⟨T1,er,eK,by rw[Bk];exact q1,q4,hc.1.2,S1,q2,q3⟩
   .simp at q2
  .intro S' g' a' w' hF st' fA hfr fj jQ;obtain⟨S1,hk,kU⟩:=hF;exact hQ .normal S1 g' a' w' hk (Bm kU st') fA ((gB.drawn _).trans hfr) fj jQ
 .simp at h
theorem vX{np:List Nat}{R:Type}{r:R}{H:Hints}(gm:P.follows .mixedOrders=true):∀(c:Code)(n:Nat)(S:St)(k:Ex->St->Option R),m5 np c=true->exec C D H n c S k=some r->
  ∀(Q:Exit->Act->World->Prop)(g:ai)(a:Act)(w:World),u9 np P C Q r c S k g a w
 | .skip,n,S,k,hc,h,Q,g,a,w=>by
  intro st hdf hQ;exact wp_skip (hQ .normal S g a w (by simpa only [exec] using h) st (.refl g) (.refl _ _) hdf (.refl _ _))
 | .region id ops dr,n,S,k,hc,h,Q,g,a,w=>by
  cases dr with
  | false=>exact IX aM eG hc h
  | true=>exact JZ aM eG gm hc h
 | .seq x y,n,S,k,hc,h,Q,g,a,w=>by
  intro st hdf hQ;simp only[m5,aO]at hc;simp only[exec]at h;refine wp_seq (vX gm x n S _ hc.1 h _ g a w st hdf ?_);intro e S' g' a' w' hk st' fA hfr fj jQ;cases e with
  | normal=>simp only[Ex.out,Exit.then];refine vX gm y n _ k hc.2 hk Q g' a' w' (show aj w'.heap (oG H y S') g' a'.tmps Nil by unfold oG;split<;>first | exact sE st' _ _ | exact st') fj ?_;intro e2 S2 g2 a2 w2 hk2 kg kV nv Gw oX;exact hQ e2 S2 g2 a2 w2 hk2 kg (fA.trans kV) (hfr.trans (by rw[fA.2.1]at nv;exact nv)) Gw (jQ.trans oX)
  | exit id=>exact hQ (.exit id) S' g' a' w' hk st' fA hfr fj jQ
  | ret=>exact hQ .ret S' g' a' w' hk st' fA hfr fj jQ
 | .cond c x y,n,S,k,hc,h,Q,g,a,w=>by
  intro st hdf hQ;simp only[exec]at h;cases hb:V.asBool (ev S c) with
  | none=>rw[hb]at h;simp at h
  | some t=>
   rw[hb]at h;simp only at h;have hv:=CI hb (BY st c);refine wp_cond (t:=t) hv ?_;cases t with
   | true=>exact vX gm x n S k (by simp only[m5,aO]at hc;exact hc.1) h Q g a w st hdf hQ
   | false=>exact vX gm y n S k (by simp only[m5,aO]at hc;exact hc.2) h Q g a w st hdf hQ
 | .block id x,n,S,k,hc,h,Q,g,a,w=>by
  intro st hdf hQ;simp only[exec]at h;refine wp_block (vX gm x n S _ (by simpa only [m5] using hc) h _ g a w st hdf ?_);intro e S' g' a' w' hk st' fA hfr fj jQ;cases e with
  | normal=>exact hQ .normal S' g' a' w' hk st' fA hfr fj jQ
  | exit j=>
   simp only at hk;simp only[Ex.out,Exit.inBlock];split at hk
   .rename_i hj;rw[aE hj];exact hQ .normal S' g' a' w' hk st' fA hfr fj jQ
   .rename_i hj;rw[ax hj];exact hQ (.exit j) S' g' a' w' hk st' fA hfr fj jQ
  | ret=>exact hQ .ret S' g' a' w' hk st' fA hfr fj jQ
 | .loop x,n,S,k,hc,h,Q,g,a,w=>by
  intro st hdf hQ;simp only[exec]at h;cases hl:H.keep.lookup (tV x) with
  | none=>rw[hl]at h;simp at h
  | some kp=>
   rw[hl]at h;simp only at h;have key:∀(m:Nat)(S:St)(g1:ai)(a1:Act)(w1:World),mC (exec C D H n x) (St.canon kp.1 kp.2.2) (St.canon kp.2.1 kp.2.2) m S k=some r->aj w1.heap S g1 a1.tmps Nil->g1.bG g->gB g.L w w1->a1.defers=[]->nX np a a1->
     ∀b k' cs,∃e a' w',Q e a' w'/\Arrives P (lone (b.at a1 (.code x::.inLoop x::k')) cs w1) b k' cs e a' w':=by
    intro m
    induction m with
    | zero=>intro S g1 a1 w1 h;simp[mC]at h
    | succ m ih=>
     intro S g1 a1 w1 h st fA hfr hdf jQ b k' cs;simp only[mC]at h;have hx:=vX gm x n _ _ (by simpa only [m5] using hc) h (Exit.then (fun a' w'=>∀b k' cs,∃e yK w'',Q e yK w''/\Arrives P (lone (b.at a' (.code x::.inLoop x::k')) cs w') b k' cs e yK w'') Q) g1 a1 w1 (sE st kp.1 kp.2.2) hdf (by
      intro e S' g' a' w' hk st' o9 kT fj oW;have oX:=jQ.trans oW;have kV:=fA.trans o9;have nv:gB g.L w w':=hfr.trans (by rw[fA.2.1]at kT;exact kT);cases e with
      | normal=>exact ih S' g' a' w' hk st' kV nv fj oX
      | exit id=>exact hQ (.exit id) _ g' a' w' hk (sE st' kp.2.1 kp.2.2) kV nv fj oX
      | ret=>exact hQ .ret _ g' a' w' hk (sE st' kp.2.1 kp.2.2) kV nv fj oX)
     obtain⟨e,a₁,w₁,hq,gE⟩:=hx b (.inLoop x::k') cs;cases e with
     | normal=>obtain⟨e₂,a₂,w₂,hq₂,harr₂⟩:=hq b k' cs;exact⟨e₂,a₂,w₂,hq₂,.of_steps (Steps.trans gE (.one step_inLoop)) harr₂⟩
     | exit id=>exact⟨_,a₁,w₁,hq,.pass (x:=.inLoop x) rfl (fun _ _=>.inl (by simp)) gE⟩
     | goto l=>exact⟨_,a₁,w₁,hq,.pass (x:=.inLoop x) rfl (fun _ _=>.inl (by simp)) gE⟩
     | ret=>exact⟨_,a₁,w₁,hq,.pass (x:=.inLoop x) rfl (fun _ _=>.inl (by simp)) gE⟩
     | panic ch=>exact⟨_,a₁,w₁,hq,.pass (x:=.inLoop x) rfl (fun _ _=>.inl (by simp)) gE⟩
     | outgrown=>exact⟨_,a₁,w₁,hq,.pass (x:=.inLoop x) rfl (fun _ _=>.inl (by simp)) gE⟩
   intro b k' cs;obtain⟨e,a',w',hq,gE⟩:=key n S g a w h st (.refl g) (.refl _ _) hdf (.refl _ _) b k' cs;exact⟨e,a',w',hq,.of_steps (.one step_loop) gE⟩
 | .exit id,n,S,k,hc,h,Q,g,a,w=>by
  intro st hdf hQ;exact wp_exit (hQ (.exit id) S g a w (by simpa only [exec] using h) st (.refl g) (.refl _ _) hdf (.refl _ _))
 | .ret,n,S,k,hc,h,Q,g,a,w=>by
  intro st hdf hQ;exact wp_ret (hQ .ret S g a w (by simpa only [exec] using h) st (.refl g) (.refl _ _) hdf (.refl _ _))
 | .rangeFunc _ _ _ _,n,S,k,hc,h,Q,g,a,w=>by simp[exec]at h
 | .scope _,n,S,k,hc,h,Q,g,a,w=>by simp[exec]at h
 | .label _,n,S,k,hc,h,Q,g,a,w=>by simp[exec]at h
 | .goto _,n,S,k,hc,h,Q,g,a,w=>by simp[exec]at h
 | .refuse _,n,S,k,hc,h,Q,g,a,w=>by simp[exec]at h
end
end
end Go.V
namespace Go.V
noncomputable section
open Go
theorem ow.mono{h:Array Obj}{Pr eg:BS}{t:Ty}{m:Mk}{x:t.den}{v:Value}{F:BS}(hp:Sub Pr eg)(r:ow h Pr t m x v F):ow h eg t m x v F:=by obtain⟨b,c,F0,e,r,k⟩:=r;exact⟨b,c,F0,e,ag.mono hp (fun _ _=>rfl) t r (Sub.refl _) (fun _ _=>rfl),k⟩
theorem l9.mono{h:Array Obj}{Pr eg:BS}{k:RK}{x:k.den}{v:Value}{F:BS}(hp:Sub Pr eg)(r:l9 h Pr k x v F):l9 h eg k x v F:=by
 cases k with
 | val t m=>exact kE.mono hp r
 | ptr t m=>exact ow.mono hp r
def mB(tmps:Array Value):ResultVar->Sem Value
 | .tmp t=>pure (tmps.getD t Go.undef)
 | .cell a t=>do loadVar t (<- asAddr (tmps.getD a Go.undef))
theorem Iu{fn:Func}{tmps:Array Value}{P:Program}{w:World}{us:List Value}(h:(fn.results.toList.mapM (mB tmps)).run P w=.ok us w):(results fn tmps).run P w=.ok (m7 us) w:=by
 have e:results fn tmps=(do let vs <- fn.results.mapM (mB tmps);pure (if h:vs.size=1 then vs[0] else .tuple vs)):=by unfold results mB;rfl
 rw[e,Array.mapM_eq_mapM_toList];simp only[Sem.run_bind,Sem.run_map,h,Result.andThen_ok]
 match us with
 | []=>simp[m7]
 | [v]=>simp[m7]
 | u::v::l=>simp[m7]
section
variable {P:Program} {C:Ctx}
theorem CX{w:World}{t:TypeId}(k:iu P C t)(hz:(C.ty t).nz=true){b o:Nat}{c:List Value}(hr:w.rangeAt b o c)(hl:c.length=(C.ty t).width) :
  (do loadVar t (<- asAddr (.pointer (some ⟨b,o,none⟩))):Sem Value).run P w=.ok (bK (C.ty t) c) w:=by
 have:=xe (P:=P) k hz hr hl;simpa only [Instr.loadAt,Instr.sureAddr,asAddr] using this
theorem KI(aM:e_ P C){w:World}{S:St}{g:ai}{tmps:Array Value}{H:BS}(st:aj w.heap S g tmps H){t:TypeId}(hz:(C.ty t).nz=true){a v':AV}{va:Value}
  (ha:qe w.heap S g a va) (hl:nW S.rt (C.ty t) a=some v'):∃u,(do loadVar t (<- asAddr va):Sem Value).run P w=.ok u w/\qe w.heap S g v' u:=by
 have k:=aM t hz;cases a with
 | bq t' y=>
  simp only[nW]at hl;cases hc:qbv t' (C.ty t) y with
  | none=>rw[hc]at hl;simp at hl
  | some z=>rw[hc]at hl;simp only[qe]at ha;obtain⟨b,off,cs,e,hp,hb,hs,rep⟩:=ha;have hw:=ag.width t' rep;obtain⟨e1,fJ⟩:=ag.cast hc rep;subst e1;have hrun:=CX (P:=P) (w:=w) k hz (tO hb hs) hw;refine⟨_,by rw[e];exact hrun,?_⟩;simp at hl;subst hl;simp only[qe];exact⟨_,fJ,rfl⟩
 | addr r p=>
  simp only[nW]at hl;cases hf:S.rt.focus r p with
  | none=>rw[hf]at hl;simp at hl
  | some d=>
   rw[hf]at hl;simp only at hl;by_cases hd:d.ty=C.ty t
   .simp only[hd,aK]at hl;have hf':=hf;simp only[aD.focus]at hf';split at hf'
    .rename_i R hR;obtain⟨b,off,c,hin,cz,e⟩:=s9 st hR hf' ha;obtain⟨base,c',F,q1,q2,q3,q4,q5⟩:=st.update hR hf' hin;rw[cz]at q1;simp only[ay,aJ]at q1;obtain⟨rfl,rfl⟩:=q1;obtain⟨_,cs,vE,hs,hsub⟩:=q4 b off rfl;have hw:=ag.width d.ty q2;have iT:w.rangeAt b off c:=by have:=tO (w:=w) vE.rS hs;rw[hsub]at this;exact this
     have hrun:=CX (P:=P) k hz iT (by rw[hw,hd]);obtain⟨dt,dm,dx⟩:=d;simp only at hd;subst hd;refine⟨_,by rw[e];exact hrun,?_⟩;simp only[ay]at hl;subst hl;exact bR.rel q2 (vT hR _ _ _ p (some (b,off)) c F hf' hin cz q2) (Ty.gK hz)
    .simp at hf'
   .rw[ax hd]at hl;simp at hl
 | _=>simp[nW]at hl
theorem Ba(aM:e_ P C){w:World}{S:St}{g:ai}{tmps:Array Value}{H:BS}(st:aj w.heap S g tmps H){v:ResultVar}{a:AV}(h:pS C S v=some a) :
  ∃u,(mB tmps v).run P w=.ok u w/\qe w.heap S g a u:=by
 cases v with
 | tmp t=>simp only[pS,ay]at h;subst h;exact⟨_,by simp only[mB,Sem.run_pure],st.slots t⟩
 | cell x t=>
  simp only[pS]at h;split at h
  .rename_i hz;exact KI aM st hz (st.slots x) h
  .simp at h
theorem Bg{h:Array Obj}{S:St}{g:ai}{tmps:Array Value}{H:BS}(st:aj h S g tmps H){q:Nat}{R:aB}(hR:S.root q=some R)(hm:R.mem=true){t:Ty}{m:Mk}{x:t.den}{v:Value}
  (hs:m.aG R.ms=true) (hc:qbv R.ty t R.x=some x) (hv:qe h S g (.addr q []) v) :
  ∃g' F,aj h (S.ak q none) g' tmps (Un H F)/\ow h g'.Pr t m x v F/\bz F H/\g'.bG g/\Sub g.Pr g'.Pr:=by
 obtain⟨F,r1,r2,r3,r4,_⟩:=st.roots q R hR;obtain⟨b,aU,ek,zY⟩:=r4 hm;have hq:(S.root q).isSome:=by rw[hR];rfl
 have s1:=st.eB hq;obtain⟨_,rx⟩:=ag.cast hc r1;obtain⟨F1,F2,q1,q2,q3,q4⟩:=ag.aG t hs rx;have s2:=s1.bH F2 (fun z hz=>.inr (r2 z (q2 z hz)));obtain⟨b',off,c,hin,cz,e⟩:=s9 st hR (p:=[]) (d:=⟨R.ty,R.ms,R.x⟩) (by simp only[focus]) hv;have Gm:a_ h R.ty (g.C q) (g.base q) []=some (g.base q,g.C q):=by cases R.ty<;>rfl
 rw[Gm]at cz;simp only[ay,aJ,ai.base,aU,cr]at cz;obtain⟨⟨rfl,rfl⟩,rfl⟩:=cz;refine⟨{ g with Pr:=Un g.Pr F2 },fun z=>F1 z\/z=b,s2.aN ?_,⟨b,g.C q,F1,e,q4,zY,.inr rfl,fun z hz=>.inl hz,fun hz=>r3 b aU (q1 b hz)⟩,?_,⟨rfl,rfl,rfl⟩,fun z hz=>.inl hz⟩
 .rintro z (hz | hz | rfl)
  .exact⟨.inl hz,fun h2=>st.hand q hq z (r2 z (q2 z h2)) hz⟩
  .exact⟨.inr (r2 z (q1 z hz)),fun h2=>q3 z hz h2⟩
  .exact⟨.inr ek,fun h2=>r3 z aU (q2 z h2)⟩
 .rintro z (hz | rfl) hh
  .exact st.hand q hq z (r2 z (q1 z hz)) hh
  .exact st.hand q hq z ek hh
theorem CG(aM:e_ P C){w:World}{tmps:Array Value}:∀(rs:List RK)(vs:List ResultVar)(S:St)(g:ai)(H:BS)(i:Nat)(r:dU rs)(S':St),aj w.heap S g tmps H->ox C rs vs S=some (r,S')->
  ∃us g' H' Gs,(vs.mapM (mB tmps)).run P w=.ok us w/\aj w.heap S' g' tmps H'/\g'.bG g/\Sub g.Pr g'.Pr/\gO w.heap g'.Pr Gs i rs r us/\(∀j,j<i->Gs j=Nil)/\
   (∀j,Sub (Gs j) H')/\(∀j k,j≠k->bz (Gs j) (Gs k))/\(∀j,bz (Gs j) H)/\Sub H H'
 | [],[],S,g,H,i,r,S',st,h=>by
  simp only[ox,ay,aJ]at h;obtain⟨_,rfl⟩:=h;exact⟨[],g,H,fun _=>Nil,by simp,st,.refl g,Sub.refl _,rfl,fun _ _=>rfl,fun _=>Sub.nil _,fun _ _ _=>bz.nil _,fun _=>bz.nil _,Sub.refl _⟩
 | [],_::_,S,g,H,i,r,S',st,h=>by simp[ox]at h
 | k::_,[],S,g,H,i,r,S',st,h=>by cases k<;>simp[ox]at h
 | k::ks,v::vs,S,g,H,i,r,S',st,h=>by
  -- one
  have one:∃u S1 x g1 F rr,(mB tmps v).run P w=.ok u w/\aj w.heap S1 g1 tmps (Un H F)/\l9 w.heap g1.Pr k x u F/\bz F H/\g1.bG g/\Sub g.Pr g1.Pr/\ox C ks vs S1=some (rr,S')/\r=(x,rr):=by
   cases k with
   | val t m=>
    simp only[ox,bD]at h;obtain⟨a,ha,⟨mx,x,rt'⟩,mw,h⟩:=h;split at h
    .rename_i hs;simp only[bD,ay,aJ]at h;obtain⟨⟨rr,S2⟩,hg,rfl,rfl⟩:=h;obtain⟨u,hu,lQ⟩:=Ba aM st ha;obtain⟨c,g2,F,ev,bB⟩:=qH _ st mw lQ;obtain⟨F1,F2,q1,q2,q3,q4⟩:=ag.aG t hs bB.rep;have s2:=bB.st.bH F2 (fun z hz=>.inr (q2 z hz));refine⟨u,_,x,_,F1,rr,hu,s2.aN ?_,⟨c,q4,ev⟩,fun z hz hh=>bB.cj z (q1 z hz) hh,ai.bG.trans bB.same ⟨rfl,rfl,rfl⟩,fun z hz=>.inl (bB.pr z hz),hg,rfl⟩;rintro z (hz | hz)
     .exact⟨.inl hz,fun h2=>bB.cj z (q2 z h2) hz⟩
     .exact⟨.inr (q1 z hz),fun h2=>q3 z hz h2⟩
    .simp at h
   | ptr t m=>
    simp only[ox]at h;split at h
    .rename_i q ha;split at h
     .rename_i R hR;split at h
      .rename_i hs;simp only[bD,ay,aJ]at h;obtain⟨x,hc,⟨rr,S2⟩,hg,rfl,rfl⟩:=h;obtain⟨u,hu,lQ⟩:=Ba aM st ha;obtain⟨g1,F,p1,p2,p3,p4,p5⟩:=Bg st hR hs.1 hs.2 hc lQ;exact⟨u,_,x,g1,F,rr,hu,p1,p2,p3,p4,p5,hg,rfl⟩
      .simp at h
     .simp at h
    .simp at h
  obtain⟨u,S1,x,g1,F,rr,hu,p1,p2,p3,p4,p5,hg,rfl⟩:=one;obtain⟨us,g',H',Gs,k1,k2,k3,k4,k5,k6,k7,k8,k9,vK⟩:=CG aM ks vs S1 g1 _ (i+1) rr S' p1 hg;refine⟨u::us,g',H',fun j=>if j=i then F else Gs j,?_,k2,p4.trans k3,p5.trans k4,?_,?_,?_,?_,?_,fun z hz=>vK z (.inl hz)⟩
  .simp[List.mapM_cons,hu,k1]
  .refine⟨u,us,rfl,?_,?_⟩
   .show l9 w.heap g'.Pr k x u (if i=i then F else Gs i);rw[aE rfl];exact p2.mono k4
   .have:∀(ks:List RK)(n:Nat){a:dU ks}{us:List Value},i<n->gO w.heap g'.Pr Gs n ks a us->gO w.heap g'.Pr (fun j=>if j=i then F else Gs j) n ks a us:=by
     intro ks
     induction ks with
     | nil=>intro n a us _ h;exact h
     | cons k ks ih=>intro n a us hn h;obtain⟨v,vs',e,r1,r2⟩:=h;exact⟨v,vs',e,by show l9 _ _ _ _ _ (if n=i then F else Gs n);rw[ax (by omega)];exact r1,ih (n+1) (by omega) r2⟩
    exact this ks (i+1) (by omega) k5
  .intro j hj;show(if j=i then F else Gs j)=Nil;rw[ax (by omega)];exact k6 j (by omega)
  .intro j z hz;split at hz
   .exact vK z (.inr hz)
   .exact k7 j z hz
  .intro j k oe z h1 h2;split at h1<;>split at h2
   .omega
   .exact k9 k z h2 (.inr h1)
   .exact k9 j z h1 (.inr h2)
   .exact k8 j k oe z h1 h2
  .intro j z h1 h2;split at h1
   .exact p3 z h1 h2
   .exact k9 j z h1 (.inl h2)
end
end
end Go.V
namespace Go.V
noncomputable section
open Go
def hdc(hd:Nat->Value)(n w:Nat):List Value:=(List.range w).map fun k=>hd (n+k)
theorem Bo(hd:Nat->Value)(n a b:Nat):hdc hd n (a+b)=hdc hd n a++hdc hd (n+a) b:=by simp only[hdc,List.range_add,sO,xH];congr 1;apply mP;intro k _;simp[wm]
theorem pF(hd:Nat->Value)(n w:Nat):(hdc hd n w).length=w:=by simp[hdc]
theorem s8:∀(t:Ty)(m:Mk)(n:Nat),cW t m=true->(m.tag n).2=n+t.width
 | .sl _,.own _ _,n,_=>rfl
 | .pair a b,.pr x y,n,h=>by
  simp only[cW,aO]at h;simp only[Mk.tag,Ty.width];rw[s8 b y _ h.2,s8 a x _ h.1];omega
 | .unit,.no,_,_=>rfl
 | .unit,.gone,_,h=>by simp[cW]at h
 | .unit,.own _ _,_,h=>by simp[cW]at h
 | .unit,.pr _ _,_,h=>by simp[cW]at h
 | .int _,m,_,h=>by cases m<;>simp[cW]at h
 | .bool,m,_,h=>by cases m<;>simp[cW]at h
 | .str,m,_,h=>by cases m<;>simp[cW]at h
 | .sl _,.no,_,h=>by simp[cW]at h
 | .sl _,.gone,_,h=>by simp[cW]at h
 | .sl _,.pr _ _,_,h=>by simp[cW]at h
 | .pair _ _,.no,_,h=>by simp[cW]at h
 | .pair _ _,.gone,_,h=>by simp[cW]at h
 | .pair _ _,.own _ _,_,h=>by simp[cW]at h
theorem tr:∀(t:Ty)(m:Mk)(n:Nat),cW t m=true->(m.tag n).1.same .no=true->t.width=0
 | .sl _,.own _ _,n,_,h=>by simp[Mk.tag,Mk.same]at h
 | .pair a b,.pr x y,n,hh,h=>by
  simp only[cW,aO]at hh;simp only[Mk.tag,Mk.same,aO]at h;simp only[Ty.width,tr a x n hh.1 h.1,tr b y _ hh.2 h.2]
 | .unit,_,_,_,_=>rfl
 | .int _,m,_,h,_=>by cases m<;>simp[cW]at h
 | .bool,m,_,h,_=>by cases m<;>simp[cW]at h
 | .str,m,_,h,_=>by cases m<;>simp[cW]at h
 | .sl _,.no,_,h,_=>by simp[cW]at h
 | .sl _,.gone,_,h,_=>by simp[cW]at h
 | .sl _,.pr _ _,_,h,_=>by simp[cW]at h
 | .pair _ _,.no,_,h,_=>by simp[cW]at h
 | .pair _ _,.gone,_,h,_=>by simp[cW]at h
 | .pair _ _,.own _ _,_,h,_=>by simp[cW]at h
theorem wS{hd:Nat->Value}:∀(t:Ty)(m:Mk)(n:Nat)(m':Mk)(c:List Value),cW t m=true->1048576<=n->(m.tag n).1.same m'=true->aA hd t m' c->c.length=t.width->c=hdc hd n t.width
 | .sl _,.own _ _,n,m',c,_,hn,hs,ht,hl=>by
  simp only[Mk.tag,Mk.same]at hs;split at hs
  .rename_i s' WJ;simp only[fu]at hs;subst hs;simp only[aA]at ht;rw[ht.1 hn];rfl
  .simp at hs
 | .pair a b,.pr x y,n,m',c,h,hn,hs,ht,hl=>by
  simp only[cW,aO]at h;simp only[Mk.tag,Mk.same]at hs;split at hs
  .rename_i c1 d1;simp only[aO]at hs;simp only[aA,Mk.fst,Mk.snd]at ht;simp only[Ty.width]at hl⊢;rw[s8 a x n h.1]at hs;have e1:=wS a x n c1 _ h.1 hn hs.1 ht.1 (by simp;omega);have e2:=wS b y (n+a.width) d1 _ h.2 (by omega) hs.2 ht.2 (by simp;omega);rw[Bo,<-e1,<-e2,lJ]
  .simp only[aO]at hs;simp only[Ty.width]at hl⊢;rw[tr a x n h.1 hs.1,tr b y _ h.2 hs.2]at hl⊢;exact iC.1 hl
  .simp at hs
 | .unit,_,_,_,c,_,_,_,_,hl=>iC.1 hl
 | .int _,m,_,_,_,h,_,_,_,_=>by cases m<;>simp[cW]at h
 | .bool,m,_,_,_,h,_,_,_,_=>by cases m<;>simp[cW]at h
 | .str,m,_,_,_,h,_,_,_,_=>by cases m<;>simp[cW]at h
 | .sl _,.no,_,_,_,h,_,_,_,_=>by simp[cW]at h
 | .sl _,.gone,_,_,_,h,_,_,_,_=>by simp[cW]at h
 | .sl _,.pr _ _,_,_,_,h,_,_,_,_=>by simp[cW]at h
 | .pair _ _,.no,_,_,_,h,_,_,_,_=>by simp[cW]at h
 | .pair _ _,.gone,_,_,_,h,_,_,_,_=>by simp[cW]at h
 | .pair _ _,.own _ _,_,_,_,h,_,_,_,_=>by simp[cW]at h
theorem xA{hd:Nat->Value}:∀(t:Ty)(m:Mk)(n:Nat),cW t m=true->m.af=true->aA hd t (m.tag n).1 (hdc hd n t.width)
 | .sl _,.own _ _,n,_,hf=>by
  simp only[Mk.af,aO]at hf;simp only[Mk.tag,aA];exact⟨fun _=>rfl,hf.2⟩
 | .pair a b,.pr x y,n,h,hf=>by
  simp only[cW,aO]at h;simp only[Mk.af,aO]at hf;simp only[Mk.tag,aA,Mk.fst,Mk.snd,Ty.width,Bo];rw[s8 a x n h.1,fL (pF _ _ _),fz (pF _ _ _)];exact⟨xA a x n h.1 hf.1,xA b y _ h.2 hf.2⟩
 | .unit,_,_,_,_=>by simp only[aA]
 | .int _,m,_,h,_=>by cases m<;>simp[cW]at h
 | .bool,m,_,h,_=>by cases m<;>simp[cW]at h
 | .str,m,_,h,_=>by cases m<;>simp[cW]at h
 | .sl _,.no,_,h,_=>by simp[cW]at h
 | .sl _,.gone,_,h,_=>by simp[cW]at h
 | .sl _,.pr _ _,_,h,_=>by simp[cW]at h
 | .pair _ _,.no,_,h,_=>by simp[cW]at h
 | .pair _ _,.gone,_,h,_=>by simp[cW]at h
 | .pair _ _,.own _ _,_,h,_=>by simp[cW]at h
theorem xQ{h:Array Obj}{Pr:BS}:∀(t:Ty)(m:Mk)(n:Nat){x:t.den}{c:List Value}{F:BS},cW t m=true->ag h Pr t m x c F->ag h Pr t (m.tag n).1 x c F
 | .sl _,.own _ _,n,_,_,_,_,r=>by
  simp only[Mk.tag,ag]at r⊢;exact r
 | .pair a b,.pr x y,n,_,_,_,hh,r=>by
  simp only[cW,aO]at hh;simp only[Mk.tag,ag,Mk.fst,Mk.snd]at r⊢;obtain⟨ca,cb,Fa,Fb,e,ra,rb,k⟩:=r;exact⟨ca,cb,Fa,Fb,e,xQ a x _ hh.1 ra,xQ b y _ hh.2 rb,k⟩
 | .unit,m,n,_,_,_,h,r=>by simpa only [ag] using r
 | .int _,m,_,_,_,_,h,_=>by cases m<;>simp[cW]at h
 | .bool,m,_,_,_,_,h,_=>by cases m<;>simp[cW]at h
 | .str,m,_,_,_,_,h,_=>by cases m<;>simp[cW]at h
 | .sl _,.no,_,_,_,_,h,_=>by simp[cW]at h
 | .sl _,.gone,_,_,_,_,h,_=>by simp[cW]at h
 | .sl _,.pr _ _,_,_,_,_,h,_=>by simp[cW]at h
 | .pair _ _,.no,_,_,_,_,h,_=>by simp[cW]at h
 | .pair _ _,.gone,_,_,_,_,h,_=>by simp[cW]at h
 | .pair _ _,.own _ _,_,_,_,_,h,_=>by simp[cW]at h
def dJ(hd:Nat->Value):Nat->List PK->List Value->Prop
 | i,.cD t m _::ks,v::vs=>(v=bK t (hdc hd (1048576+64 * i) t.width)/\cW t m=true)/\dJ hd (i+1) ks vs
 | i,.bS _ _ _::ks,_::vs=>dJ hd (i+1) ks vs
 | i,.val _::ks,_::vs=>dJ hd (i+1) ks vs
 | i,.own _ _::ks,_::vs=>dJ hd (i+1) ks vs
 | i,.bP _::ks,_::vs=>dJ hd (i+1) ks vs
 | i,.fn::ks,_::vs=>dJ hd (i+1) ks vs
 | _,_,_=>True
theorem Kg{h:Array Obj}{S:St}{g:ai}{tmps:Array Value}{H:BS}(st:aj h S g tmps H){q:Nat}{R:aB}(hR:S.root q=some R){t:Ty}{m:Mk}{x:t.den}
  (hs:m.aG R.ms=true) (hc:qbv R.ty t R.x=some x) :
  ∃g' F,aj h (S.ak q none) g' tmps (Un H F)/\kE h g'.Pr t m x (bK t (g.C q)) F/\bz F H/\g'.bG g/\Sub g.Pr g'.Pr:=by
 obtain⟨F,r1,r2,r3,r4,_⟩:=st.roots q R hR;have hq:(S.root q).isSome:=by rw[hR];rfl
 have s1:=st.eB hq;obtain⟨_,rx⟩:=ag.cast hc r1;obtain⟨F1,F2,q1,q2,q3,q4⟩:=ag.aG t hs rx;have s2:=s1.bH F2 (fun z hz=>.inr (r2 z (q2 z hz)));refine⟨{ g with Pr:=Un g.Pr F2 },F1,s2.aN ?_,⟨g.C q,q4,rfl⟩,?_,⟨rfl,rfl,rfl⟩,fun z hz=>.inl hz⟩
 .rintro z (hz | hz)
  .exact⟨.inl hz,fun h2=>st.hand q hq z (r2 z (q2 z h2)) hz⟩
  .exact⟨.inr (r2 z (q1 z hz)),fun h2=>q3 z hz h2⟩
 .intro z hz hh;exact st.hand q hq z (r2 z (q1 z hz)) hh
theorem iZ.shift{h:Array Obj}{Pr:BS}{Os N4:Nat->BS}:∀(ks:List PK)(i:Nat){o:bV ks}{vs:List Value},(∀j,i<=j->N4 j=Os j)->iZ h Pr Os i ks o vs->iZ h Pr N4 i ks o vs
 | [],_,_,_,_,r=>r
 | .bS t _ m::ks,i,_,_,hj,r=>by
  obtain⟨v,vs',e,r1,r2⟩:=r;exact⟨v,vs',e,by rw[hj i (bN _)];exact r1,iZ.shift ks (i+1) (fun j h=>hj j (by omega)) r2⟩
 | .cD t _ m::ks,i,_,_,hj,r=>by
  obtain⟨v,vs',e,r1,r2⟩:=r;exact⟨v,vs',e,by rw[hj i (bN _)];exact r1,iZ.shift ks (i+1) (fun j h=>hj j (by omega)) r2⟩
 | .val _::ks,i,_,_,hj,r=>by obtain⟨v,vs',e,r2⟩:=r;exact⟨v,vs',e,iZ.shift ks (i+1) (fun j h=>hj j (by omega)) r2⟩
 | .own _ _::ks,i,_,_,hj,r=>by obtain⟨v,vs',e,r2⟩:=r;exact⟨v,vs',e,iZ.shift ks (i+1) (fun j h=>hj j (by omega)) r2⟩
 | .bP _::ks,i,_,_,hj,r=>by obtain⟨v,vs',e,r2⟩:=r;exact⟨v,vs',e,iZ.shift ks (i+1) (fun j h=>hj j (by omega)) r2⟩
 | .fn::ks,i,_,_,hj,r=>by obtain⟨v,vs',e,r2⟩:=r;exact⟨v,vs',e,iZ.shift ks (i+1) (fun j h=>hj j (by omega)) r2⟩
structure FT (h:Array Obj) (g:ai) (tmps:Array Value) (H:BS) (ks:List PK) (i:Nat) (o:bV ks) (vs:List Value) (g':ai) (H':BS) (Os:Nat->BS):Prop where
 st:∃S',aj h S' g' tmps H'
 same:g'.bG g
 pr:Sub g.Pr g'.Pr
 rel:iZ h g'.Pr Os i ks o vs
 nil:∀j,j<i->Os j=Nil
 sub:∀j,Sub (Os j) H'
 cj:∀j k,j≠k->bz (Os j) (Os k)
 kL:∀j,bz (Os j) H
 hand:Sub H H'
theorem IG{i j:Nat}{k:PK}{ks:List PK}(h:j∈pX (i+1) ks):j∈pX i (k::ks):=by cases k<;>simp only[pX,cU]<;>first | exact h | exact .inr h
theorem za{Hh:Hints}{h:Array Obj}{tmps:Array Value}:∀(ks:List PK)(i:Nat)(vs:List Value)(S:St)(g:ai)(H:BS)(o:bV ks),aj h S g tmps H->outs Hh i ks S=some o->
  (∀k v,vs[k]? = some v->i+k∈pX i ks->tmps.getD (i+k) Go.undef=v)->vs.length=ks.length->dJ g.hd i ks vs->∃g' H' Os,FT h g tmps H ks i o vs g' H' Os
 | [],i,vs,S,g,H,o,st,ho,hv,hl,hm=>by
  refine⟨g,H,fun _=>Nil,⟨S,st⟩,.refl g,Sub.refl _,iC.1 hl,fun _ _=>rfl,fun _=>Sub.nil _,fun _ _ _=>bz.nil _,fun _=>bz.nil _,Sub.refl _⟩
 | k::ks,i,[],S,g,H,o,st,ho,hv,hl,hm=>by simp at hl
 | k::ks,i,v::vs,S,g,H,o,st,ho,hv,hl,hm=>by
  have r5:∀k v,vs[k]? = some v->i+1+k∈pX (i+1) ks->tmps.getD (i+1+k) Go.undef=v:=by intro k u hk hm;have:=hv (k+1) u (by simpa using hk) (by rw[show i+(k+1)=i+1+k by omega];exact IG hm);rw[<-this];congr 1;omega
  have hl':vs.length=ks.length:=by simpa using hl
  -- one NZ comes back
  have back:∀(t:Ty)(x:t.den)(oo:bV ks)(S1:St)(g1:ai)(F:BS)(rel:BS->BS->Prop),aj h S1 g1 tmps (Un H F)->(∀Pr,Sub g1.Pr Pr->rel Pr F)->bz F H->g1.bG g->Sub g.Pr g1.Pr->
    outs Hh (i+1) ks S1=some oo->dJ g.hd (i+1) ks vs->
    ∃g' H' Os,(∃S',aj h S' g' tmps H')/\g'.bG g/\Sub g.Pr g'.Pr/\rel g'.Pr (Os i)/\iZ h g'.Pr Os (i+1) ks oo vs/\(∀j,j<i->Os j=Nil)/\(∀j,Sub (Os j) H')/\
     (∀j k,j≠k->bz (Os j) (Os k))/\(∀j,bz (Os j) H)/\Sub H H':=by
   intro t x oo S1 g1 F rel s1 G7 hd fA hp ho hm;obtain⟨g',H',Os,q⟩:=za ks (i+1) vs S1 g1 _ oo s1 ho r5 hl' (by rw[fA.1];exact hm);refine⟨g',H',fun j=>if j=i then F else Os j,q.st,fA.trans q.same,hp.trans q.pr,?_,?_,?_,?_,?_,?_,fun z hz=>q.hand z (.inl hz)⟩
   .show rel g'.Pr (if i=i then F else Os i);rw[aE rfl];exact G7 _ q.pr
   .exact iZ.shift ks (i+1) (fun j hj=>by show(if j=i then F else Os j)=Os j;rw[ax (by omega)]) q.rel
   .intro j hj;show(if j=i then F else Os j)=Nil;rw[ax (by omega)];exact q.nil j (by omega)
   .intro j z hz;split at hz
    .exact q.hand z (.inr hz)
    .exact q.sub j z hz
   .intro j k oe z h1 h2;split at h1<;>split at h2
    .omega
    .exact q.kL k z h2 (.inr h1)
    .exact q.kL j z h1 (.inr h2)
    .exact q.cj j k oe z h1 h2
   .intro j z h1 h2;split at h1
    .exact hd z h1 h2
    .exact q.kL j z h1 (.inl h2)
  cases k with
  | val t=>obtain⟨g',H',Os,q⟩:=za ks (i+1) vs S g H o st (by simpa only [outs] using ho) r5 hl' (by simpa only [dJ] using hm);exact⟨g',H',Os,q.st,q.same,q.pr,⟨v,vs,rfl,q.rel⟩,fun j hj=>q.nil j (by omega),q.sub,q.cj,q.kL,q.hand⟩
  | own t m=>obtain⟨g',H',Os,q⟩:=za ks (i+1) vs S g H o st (by simpa only [outs] using ho) r5 hl' (by simpa only [dJ] using hm);exact⟨g',H',Os,q.st,q.same,q.pr,⟨v,vs,rfl,q.rel⟩,fun j hj=>q.nil j (by omega),q.sub,q.cj,q.kL,q.hand⟩
  | bP t=>obtain⟨g',H',Os,q⟩:=za ks (i+1) vs S g H o st (by simpa only [outs] using ho) r5 hl' (by simpa only [dJ] using hm);exact⟨g',H',Os,q.st,q.same,q.pr,⟨v,vs,rfl,q.rel⟩,fun j hj=>q.nil j (by omega),q.sub,q.cj,q.kL,q.hand⟩
  | fn=>obtain⟨g',H',Os,q⟩:=za ks (i+1) vs S g H o st (by simpa only [outs] using ho) r5 hl' (by simpa only [dJ] using hm);exact⟨g',H',Os,q.st,q.same,q.pr,⟨v,vs,rfl,q.rel⟩,fun j hj=>q.nil j (by omega),q.sub,q.cj,q.kL,q.hand⟩
  | bS t m0 m'=>
   simp only[outs]at ho;split at ho
   .rename_i qq mZ;split at ho
    .rename_i R hR;split at ho
     .rename_i hs;simp only[bD,ay]at ho;obtain⟨x,hc,oo,ho,rfl⟩:=ho;have AH:tmps.getD i Go.undef=v:=by have:=hv 0 v rfl (by simp[pX]);simpa using this
      have lQ:=st.slots i;rw[mZ,AH]at lQ;obtain⟨g1,F,p1,p2,p3,p4,p5⟩:=Bg st hR hs.1 hs.2 hc lQ;obtain⟨g',H',Os,k1,k2,k3,k4,k5,k6⟩:=back t x oo _ g1 F (fun Pr F=>ow h Pr t m' x v F) p1 (fun Pr hp=>p2.mono hp) p3 p4 p5 ho (by simpa only [dJ] using hm);exact⟨g',H',Os,k1,k2,k3,⟨v,vs,rfl,k4,k5⟩,k6.1,k6.2.1,k6.2.2.1,k6.2.2.2.1,k6.2.2.2.2⟩
     .simp at ho
    .simp at ho
   .simp at ho
  | cD t m0 m'=>
   simp only[outs]at ho;split at ho
   .rename_i R hR;split at ho
    .rename_i hs;simp only[bD,ay]at ho;obtain⟨x,hc,oo,ho,rfl⟩:=ho;simp only[dJ]at hm;obtain⟨⟨ev,hh⟩,hm⟩:=hm;obtain⟨g1,F,p1,p2,p3,p4,p5⟩:=Kg st hR hs.1 hc;have hcell:g.C ((Hh.outs.lookup i).getD i)=hdc g.hd (1048576+64 * i) t.width:=by obtain⟨F0,r1,_⟩:=st.roots _ R hR;have ht:=st.tag _ R hR;obtain⟨e,_⟩:=uP hc;have hw:=ag.width _ r1;rw[e]at ht hw;exact wS t m0 _ _ _ hh (by omega) hs.2 ht hw
     rw[hcell,<-ev]at p2;obtain⟨g',H',Os,k1,k2,k3,k4,k5,k6⟩:=back t x oo _ g1 F (fun Pr F=>kE h Pr t m' x v F) p1 (fun Pr hp=>p2.mono hp) p3 p4 p5 ho hm;exact⟨g',H',Os,k1,k2,k3,⟨v,vs,rfl,k4,k5⟩,k6.1,k6.2.1,k6.2.2.1,k6.2.2.2.1,k6.2.2.2.2⟩
    .simp at ho
   .simp at ho
end
theorem wU(r:Nat):∀(t:Ty)(m:Mk)(x:t.den)(p:Path),∀q∈(bL r t m x p).roots,q=r
 | .unit,_,_,_,q,h=>by simp[bL,AV.roots]at h
 | .int _,_,_,_,q,h=>by simp[bL,AV.roots]at h
 | .bool,_,_,_,q,h=>by simp[bL,AV.roots]at h
 | .str,_,_,_,q,h=>by simp[bL,AV.roots]at h
 | .pair a b,m,x,p,q,h=>by
  unfold bL at h;split at h
  .simp[AV.roots]at h
  .simp only[AV.roots,dw]at h;rcases h with h | h
   .exact wU r a _ _ _ q h
   .exact wU r b _ _ _ q h
 | .sl t,m,x,p,q,h=>by cases m<;>simp[bL,AV.roots]at h;exact h
theorem Iw{tmps:Array Value}{i:Nat}{v:Value}(h:tmps.getD i Go.undef=v):tmps.setIfInBounds i v=tmps:=by
 apply Array.ext_getElem?;intro j;rw[xD];by_cases e:i=j
 .subst e;rw[aE rfl];by_cases hl:i<tmps.size
  .rw[aE hl];simp only[kj,lE hl,n8]at h;rw[lE hl,h]
  .rw[ax hl,xE (by omega)]
 .rw[ax e]
theorem C5{h:Array Obj}{tmps:Array Value}{Pr:BS}{Fs:Nat->BS}(jX:∀i j,i≠j->bz (Fs i) (Fs j)):∀(ks:List PK)(i:Nat)(a:eF ks)(vs:List Value)(S:St)(g:ai)(H:BS),aj h S g tmps H->
  qF h Pr Fs i ks a vs->g.Pr=Pr->(∀k v,vs[k]? = some v->tmps.getD (i+k) Go.undef=v)->(∀u r,r∈(S.get u).roots->r<i)->ks.all PK.eu=true->(∀j,i<=j->Sub (Fs j) H)->
  i+ks.length<=tmps.size->dJ g.hd i ks vs->∃g' H',aj h (enter S i ks a) g' tmps H'/\g'.Pr=Pr/\g'.bG g
 | [],i,a,vs,S,g,H,st,hps,hY,hv,hb,hok,hH,hl,hm=>⟨g,H,st,hY,.refl g⟩
 | k::ks,i,a,vs,S,g,H,st,hps,hY,hv,hb,hok,hH,hl,hm=>by
  obtain⟨v,vs',rfl,r1,r2⟩:=hps;simp only[eU,aO]at hok;simp only[g9]at hl;have r5:∀k v,vs'[k]? = some v->tmps.getD (i+1+k) Go.undef=v:=by intro k u hk;have:=hv (k+1) u (by simpa using hk);rw[<-this];congr 1;omega
  have AH:tmps.getD i Go.undef=v:=by have:=hv 0 v rfl;simpa using this
  have Ey:i<S.rt.length:=by rw[st.eA];omega
  -- rQ slot,and on
  have go:∀(S1:St)(g1:ai)(H1:BS)(av:AV),aj h S1 g1 tmps H1->g1.Pr=Pr->g1.bG g->qe h S1 g1 av v->(∀r∈av.roots,r=i)->(∀u r,r∈(S1.get u).roots->r<i)->
    (∀j,i+1<=j->Sub (Fs j) H1)->dJ g.hd (i+1) ks vs'->∃g' H',aj h (enter (S1.set i av) (i+1) ks a.2) g' tmps H'/\g'.Pr=Pr/\g'.bG g:=by
   intro S1 g1 H1 av s1 EB fE lQ hr aU RX GN;have s2:=s1.nc i lQ;rw[Iw AH]at s2;obtain⟨g',H',k1,k2,k3⟩:=C5 jX ks (i+1) a.2 vs' (S1.set i av) g1 H1 s2 r2 EB r5 (by
    intro u r hr';rw[St.ez]at hr';split at hr'
    .have:=hr r hr';omega
    .have:=aU u r hr';omega) hok.2 RX (by omega) (by rw[fE.1];exact GN)
   exact⟨g',H',k1,k2,fE.trans k3⟩
  -- a root,rQ slot,and on
  have root:∀(t:Ty)(m:Mk)(x:t.den)(c:List Value),t.nz=true->ag h Pr t m x c (Fs i)->v=bK t c->aA g.hd t m c->dJ g.hd (i+1) ks vs'->
    ∃g' H',aj h (enter ((S.ak i (some ⟨t,m,x,false⟩)).set i (bL i t m x [])) (i+1) ks a.2) g' tmps H'/\g'.Pr=Pr/\g'.bG g:=by
   intro t m x c hz rep ev iX GN;obtain⟨g1,s1,p1,p2,p3,p4,_⟩:=st.gJ Ey (by rw[hY];exact rep) iX (hH i (bN _)) none (fun b hb=>by simp at hb) (fun u=>.inl (by
    cases hc:(S.get u).roots.contains i with
    | false=>rfl
    | true=>have:=hb u i (by simpa using hc);omega))
   have aP:(S.ak i (some ⟨t,m,x,false⟩)).root i=some ⟨t,m,x,false⟩:=by rw[St.bg];simp[Ey]
   have cz:a_ h t c (g1.base i) []=some (g1.base i,c):=by cases t<;>rfl
   refine go _ g1 _ _ s1 (p1.trans hY) p2 ?_ (wU i t m x []) (fun u r hr=>hb u r hr) ?_ GN
   .rw[ev];have fJ:ag h g1.Pr t m x c (Fs i):=by rw[p1,hY];exact rep
    refine bR.rel fJ (vT aP t m x [] (g1.base i) c (Fs i) (by simp only[focus]) (by simp only[bO]) ?_ fJ) (Ty.gK hz);rw[p3];exact cz
   .intro j hj b hb';exact⟨hH j (by omega) b hb',fun h2=>jX j i (by omega) b hb' h2,by simp⟩
  cases k with
  | val t=>simp only[enter];refine go S g H _ st hY (.refl g) ?_ (by simp[AV.roots]) hb (fun j hj=>hH j (by omega)) (by simpa only [dJ] using hm);obtain⟨c,rep,e⟩:=r1;simp only[qe];exact⟨c,by rw[hY];exact rep,e⟩
  | bP t=>simp only[enter];refine go S g H _ st hY (.refl g) ?_ (by simp[AV.roots]) hb (fun j hj=>hH j (by omega)) (by simpa only [dJ] using hm);simp only[qe];obtain⟨b,o,cs,e1,e2,e3⟩:=r1;exact⟨b,o,cs,e1,by rw[hY];exact e2,by rw[hY];exact e3⟩
  | fn=>
   simp only[enter];refine go S g H _ st hY (.refl g) ?_ (by simp[AV.roots]) hb (fun j hj=>hH j (by omega)) (by simpa only [dJ] using hm);obtain⟨us,e,hc⟩:=r1;simp only[qe];refine⟨us,e,?_⟩;have:∀(l:List gh)(us:List Value),jn h (PG Pr) l us->jn h g l us:=by
    intro l
    induction l with
    | nil=>intro us h;exact h
    | cons x l ih=>
     intro us hh;simp only[jn]at hh⊢;obtain⟨u,us',e,h1,h2⟩:=hh;refine⟨u,us',e,?_,ih us' h2⟩;cases x with
     | val t y=>simp only[mA]at h1⊢;rw[hY];exact h1
     | bP t y=>simp only[mA]at h1⊢;obtain⟨b,o,cs,e1,e2,e3⟩:=h1;exact⟨b,o,cs,e1,by rw[hY];exact e2,by rw[hY];exact e3⟩
   exact this _ us hc
  | own t m=>simp only[enter];simp only[PK.eu,aO]at hok;obtain⟨c,rep,e⟩:=r1;exact root t m a.1 c hok.1.1 rep e (aA.af t hok.1.2) (by simpa only [dJ] using hm)
  | cD t m m'=>
   simp only[enter];simp only[PK.eu,aO]at hok;simp only[dJ]at hm;obtain⟨c,rep,e⟩:=r1;have hc:c=hdc g.hd (1048576+64 * i) t.width:=by
    have e2:=e.symm.trans hm.1.1;have h1:=tU rep;rw[e2]at h1;rw[<-h1];have:∀(t:Ty)(m:Mk)(l:List Value),t.nz=true->cW t m=true->l.length=t.width->(bK t l).cells.toList=l\/∃y,t=.sl y:=by
     intro t m l hz hh hl;cases t with
     | pair a b=>left;simp[bK,Ty.agg,Value.cells]
     | sl y=>exact .inr ⟨y,rfl⟩
     | unit=>simp[Ty.nz]at hz
     | _=>cases m<;>simp[cW]at hh
    rcases this t m _ hok.1.1 hm.1.2 (pF g.hd (1048576+64 * i) t.width) with h2 | ⟨y,rfl⟩
    .exact h2
    .obtain⟨aa,n,k,r0⟩:=ag.slice rep;have e3:=e2;simp only[bK,Ty.agg,cL,bY,Ty.width,hdc,List.range_one,dn,kz,mR]at e3⊢;rw[r0]at e3;simp only[mR]at e3;rw[<-e3];simp[Value.cells]
   refine root t (tu i m) a.1 c hok.1.1 (xQ t m _ hm.1.2 rep) e ?_ hm.2;rw[hc];exact xA t m _ hm.1.2 hok.1.2.1
  | bS t m m'=>
   simp only[enter];simp only[PK.eu]at hok;obtain⟨b,c,F0,e,rep,ho,aU,hs0,hn0⟩:=r1;obtain⟨g1,s1,p1,p2,p3,p4,_⟩:=st.gJ Ey (by rw[hY];exact rep) (aA.af t hok.1) (fun z hz=>hH i (bN _) z (hs0 z hz)) (some b)
    (fun b' hb'=>by simp only[ay]at hb';subst hb';exact⟨hH i (bN _) b aU,hn0,ho⟩) (fun u=>.inl (by
    cases hc:(S.get u).roots.contains i with
    | false=>rfl
    | true=>have:=hb u i (by simpa using hc);omega))
   have aP:(S.ak i (some ⟨t,m,a.1,true⟩)).root i=some ⟨t,m,a.1,true⟩:=by rw[St.bg];simp[Ey]
   refine go _ g1 _ _ s1 (p1.trans hY) p2 ?_ (by simp[AV.roots]) (fun u r hr=>hb u r hr) ?_ (by simpa only [dJ] using hm)
   .simp only[qe];intro R hR d hf;have oa:R=⟨t,m,a.1,true⟩:=by have bt:(S.ak i (some ⟨t,m,a.1,true⟩)).root i=some R:=hR;rw[aP]at bt;simp only[ay]at bt;exact bt.symm
    subst oa;refine⟨by simp only[bO],b,0,c,?_,e⟩;have cz:a_ h t c (g1.base i) []=some (g1.base i,c):=by cases t<;>rfl
    rw[p3,cz];simp[ai.base,p4]
   .intro j hj z hz;refine⟨hH j (by omega) z hz,fun h2=>jX j i (by omega) z hz (hs0 z h2),?_⟩;intro h2;simp only[ay]at h2;subst h2;exact jX j i (by omega) _ hz aU
theorem qF.len{h:Array Obj}{Pr:BS}{Fs:Nat->BS}:∀(ks:List PK)(i:Nat){a:eF ks}{vs:List Value},qF h Pr Fs i ks a vs->vs.length=ks.length
 | [],_,_,_,r=>by rw[show _=[] from r];rfl
 | k::ks,i,_,_,r=>by
  obtain⟨v,vs',rfl,_,r2⟩:=r;simp[qF.len ks (i+1) r2]
theorem BO{h:Array Obj}{Pr:BS}{Fs:Nat->BS}(us:List Value):∀(ks:List PK)(i:Nat)(a:eF ks)(vs:List Value),qF h Pr Fs i ks a vs->ks.all PK.eu=true->(∀k,vs[k]? = us[i+k]?)->
  dJ (fun s=>((us.getD ((s-1048576) / 64) Go.undef).cells).getD ((s-1048576) % 64) Go.undef) i ks vs
 | [],_,_,_,_,_,_=>by simp only[dJ]
 | k::ks,i,a,vs,r,hok,hu=>by
  obtain⟨v,vs',rfl,r1,r2⟩:=r;simp only[eU,aO]at hok;have ih:=BO us ks (i+1) a.2 vs' r2 hok.2 (fun k=>by have:=hu (k+1);rw[show i+1+k=i+(k+1) by omega,<-this];simp);cases k with
  | cD t m m'=>
   simp only[dJ];refine⟨⟨?_,?_⟩,ih⟩
   .simp only[PK.eu,aO]at hok;obtain⟨c,rep,e⟩:=r1;have hw:=ag.width t rep;have Wy:=lI hok.1.2.2.2;have dM:=tU rep;rw[<-e]at dM;have SE:us.getD i Go.undef=v:=by have:=hu 0;simp only[iG,List.getElem?_cons_zero]at this;simp only[List.getD,<-this,n8]
    have:hdc (fun s=>((us.getD ((s-1048576) / 64) Go.undef).cells).getD ((s-1048576) % 64) Go.undef) (1048576+64 * i) t.width=c:=by
     apply xG (by rw[pF,hw]);intro k h1 h2;rw[pF]at h1;simp only[hdc,List.getElem_map,List.getElem_range];rw[show(1048576+64 * i+k-1048576) / 64=i by omega,show(1048576+64 * i+k-1048576) % 64=k by omega,SE];have hk:k<v.cells.size:=by rw[<-dH,dM];omega
     simp only[kj,lE hk,n8];rw[<-Array.getElem_toList];simp only[dM]
    rw[this];exact e
   .simp only[PK.eu,aO]at hok;exact hok.1.2.2.1
  | _=>simpa only [dJ] using ih
theorem gO.mono{h:Array Obj}{Pr eg:BS}{Gs:Nat->BS}(hp:Sub Pr eg):∀(ks:List RK)(i:Nat){a:dU ks}{us:List Value},gO h Pr Gs i ks a us->gO h eg Gs i ks a us
 | [],_,_,_,r=>r
 | k::ks,i,_,_,r=>by
  obtain⟨v,vs',e,r1,r2⟩:=r;exact⟨v,vs',e,r1.mono hp,gO.mono hp ks (i+1) r2⟩
section
variable {P:Program} {C:Ctx} {D:Den C} (aM:e_ P C) (eG:oA P C D) (gm:P.follows .mixedOrders=true)
include aM eG gm
theorem Kd{f:FuncId}{fn:Func}{n:Nat}{Hh:Hints}{ks:List PK}{rs:List RK}{a:eF ks}{r:dU rs×bV ks}(hf:P.funcs[f]? = some fn)(h:n3 C D n fn Hh ks rs a=some r)
    {w:World} {Pr:BS} {Fs:Nat->BS} {vs:List Value} (pre:Pre w.heap Pr Fs ks a vs) :
    Calls P f vs.toArray w fun e w'=>∃val dD Gs Os us,e=.returned val/\Ek w w' Pr Fs ks rs r.1 r.2 vs val dD Gs Os us:=by
  unfold n3 at h;split at h
  . simp at h
  . rename_i c hb
    split at h
    . rename_i oQ
      simp only[aO]at oQ;obtain⟨hok,hle,Sa⟩:=oQ;have hle:=lI hle;have hlen:=qF.len ks 0 pre.rel;refine calls_of_wp hf hb ?_;have GQ:=BO vs ks 0 a vs pre.rel hok (fun k=>by simp);generalize WB:(fun s=>((vs.getD ((s-1048576) / 64) Go.undef).cells).getD ((s-1048576) % 64) Go.undef)=hd at GQ
      let g0:ai:=⟨Pr,fun _=>[],fun _=>none,fun _=>Nil,hd,nh w.heap.size Fs,Pr⟩
      generalize OE:vs.toArray++Array.replicate (fn.ntmps-vs.toArray.size) Go.undef=tmps;have hsz:tmps.size=fn.ntmps:=by rw[<-OE];simp;omega
      have Aa:∀k v,vs[k]? = some v->tmps.getD k Go.undef=v:=by intro k v hk;have Sq:k<vs.length:=(wN.1 hk).1;rw[<-OE];simp only[kj];rw[Array.getElem?_append_left (by simpa using Sq)];simp[hk]
      have aP:∀q,(⟨List.replicate fn.ntmps .undef,List.replicate fn.ntmps none⟩:St).root q=none:=by intro q;simp only[aD.e8,List.getD,uk];split<;>rfl
      have mZ:∀t,(⟨List.replicate fn.ntmps .undef,List.replicate fn.ntmps none⟩:St).get t=.undef:=by intro t;simp only[St.get_eq,List.getD,uk];split<;>rfl
      have Wi:aj w.heap ⟨List.replicate fn.ntmps .undef,List.replicate fn.ntmps none⟩ g0 tmps (fun b=>∃i,Fs i b):=by
        refine { len:=by simp[hsz],eA:=by simp[hsz],slots:=fun t=>by rw[mZ];simp only[qe],roots:=fun q R hR=>?_,cj:=fun q q' _ h1 _=>?_,ck:=fun q h1=>?_,hand:=fun q h1=>?_,aR:=?_,aV:=pre.aV,
                 bk:=fun q b h1 _=>?_,cv:=?_,tag:=fun q R hR=>?_,own:=fun q b h1 _=>?_,cQ:=fun b hb=>.inr hb,dN:=fun b hb=>.inl hb,p0:=Sub.refl _,gM:=fun b hb=>.inl hb }
        . rw[aP]at hR;simp at hR
        . rw[aP]at h1;simp at h1
        . rw[aP]at h1;simp at h1
        . rw[aP]at h1;simp at h1
        . rintro b ⟨i,hb⟩ hp;exact pre.ck i b hb hp
        . rw[aP]at h1;simp at h1
        . rintro b ⟨i,hb⟩;exact pre.SN i b hb
        . rw[aP]at hR;simp at hR
        . rw[aP]at h1;simp at h1
      obtain⟨g1,H1,u6,Sw,Az⟩:=C5 pre.cj ks 0 a vs _ g0 _ Wi pre.rel rfl (fun k v hk=>by simpa using Aa k v hk) (fun u q hq=>by rw[mZ]at hq;simp[AV.roots]at hq) hok
        (fun j _ b hb=>⟨j,hb⟩) (by rw[hsz];omega) GQ
      refine vX (np:=pX 0 ks) (H:=Hh) aM eG gm c n _ _ Sa h _ g1 ⟨tmps,[]⟩ w (u6.aN (Sub.nil _)) rfl ?_;intro e S' g' a' w' hk st' fA hfr hdf jQ;have fin:((ox C rs fn.results.toList S').bind fun r=>(outs Hh 0 ks r.2).bind fun o=>some (r.1,o))=some r->∃v,(results fn a'.tmps).run P w'=.ok v w'/\
          ∃val dD Gs Os us,Ending.returned v=.returned val/\Ek w w' Pr Fs ks rs r.1 r.2 vs val dD Gs Os us:=by
        intro hk;simp only[bD,ay]at hk;obtain⟨⟨rr,S2⟩,hg,o,ho,rfl⟩:=hk;obtain⟨us,g2,H2,Gs,k1,k2,k3,k4,k5,k6,k7,k8,k9,vK⟩:=CG aM rs _ S' g' Nil 0 rr S2 st' hg;have kV:=(Az.trans fA).trans k3;obtain⟨g3,H3,Os,q⟩:=za (Hh:=Hh) ks 0 vs S2 g2 H2 o k2 ho (fun k v hk hmem=>by
          rw[g_]at hmem;rw[g_,jQ k hmem];exact Aa k v hk) hlen (by rw[kV.1];exact GQ)
        obtain⟨S3,l6⟩:=q.st;have AA:=kV.trans q.same;have hL:g3.L=nh w.heap.size Fs:=AA.2.1;have Oi:g3.P0=Pr:=AA.2.2;have RY:g1.L=nh w.heap.size Fs:=Az.2.1;refine⟨m7 us,Iu k1,m7 us,g3.Pr,Gs,Os,us,rfl,?_⟩
        exact {
          res:=gO.mono q.pr rs 0 k5
          val:=rfl
          out:=q.rel
          pr:=by rw[<-Oi];exact l6.p0
          gM:=fun b hb=>by have:=l6.gM b hb;rw[Oi,hL]at this;exact this
          gL:=fun i b hb=>by rw[<-hL];exact l6.cQ b (q.hand b (k7 i b hb))
          oL:=fun i b hb=>by rw[<-hL];exact l6.cQ b (q.sub i b hb)
          rV:=k8
          HA:=q.cj
          go:=fun i j b h1 h2=>q.kL j b h2 (k7 i b h1)
          gp:=fun i b h1 h2=>l6.aR b (q.hand b (k7 i b h1)) h2
          op:=fun i b h1 h2=>l6.aR b (q.sub i b h1) h2
          oJ:=fun i b h1=>l6.cv b (q.hand b (k7 i b h1))
          r9:=fun i b h1=>l6.cv b (q.sub i b h1)
          r_:=l6.aV
          fr:=by rw[<-RY];exact hfr }
      cases e with
      | normal=>exact⟨hdf,fin hk⟩
      | ret=>exact⟨hdf,fin hk⟩
      | exit id=>simp at hk
    . simp at h
end
theorem BU{P:Program}{C:Ctx}(aM:e_ P C)(gm:P.follows .mixedOrders=true){E:Den C}{h_:FuncId->Bool}(z9:∀f,h_ f=true->u7 P C E f)(uw:∀f a r,h_ f=true->E f a=some r->vQ P f)
  (hnm:∀(f:FuncId)(fn:Func),P.funcs[f]? = some fn->fn.name≠ "runtime.NumGoroutine") (oY:∀f,C.jB f=true->NO P f):∀n,oA P C (Dn C E h_ (fun g=>P.funcs[g]?) n)
 | 0=>⟨fun f a r h=>by simp[Dn]at h,fun f a r h=>by simp[Dn]at h,oY⟩
 | n+1=>by
  have ih:=BU aM gm z9 uw hnm oY n;refine⟨fun f a r h=>?_,fun f a r h=>?_,oY⟩
  .simp only[Dn]at h;by_cases he:h_ f=true
   .rw[aE he]at h;exact z9 f he a r h
   .rw[ax he]at h;split at h
    .simp at h
    .rename_i fn hf;intro w Pr Fs vs pre;exact Kd aM ih gm hf h pre
  .simp only[Dn]at h;by_cases he:h_ f=true
   .rw[aE he]at h;exact uw f a r he h
   .rw[ax he]at h;split at h
    .simp at h
    .rename_i fn hf;refine⟨fn,hf,hnm f fn hf,?_⟩;unfold n3 at h;split at h
     .simp at h
     .rename_i c hb;rw[hb];rfl
end Go.V
namespace Go.V
noncomputable section
open Go
def zv:Value->Value->Bool
 | .int k a,.int j b=>decide (k=j)&&decide (a=b)
 | .bool a,.bool b=>decide (a=b)
 | .string a,.string b=>Nat.beq a.size 0&&Nat.beq b.size 0
 | .slice none n k,.slice none n' k'=>Nat.beq n n'&&Nat.beq k k'
 | _,_=>false
def zJ:List Value->List Value->Bool
 | [],[]=>true
 | a::l,b::l'=>zv a b&&zJ l l'
 | _,_=>false
def yJ:Value->Value->Bool
 | .agg a,.agg b=>zJ a.toList b.toList
 | a,b=>zv a b
theorem CM{a:ByteArray}(h:Nat.beq a.size 0=true):a=ByteArray.empty:=by have h:=g8 h;obtain⟨⟨l⟩⟩:=a;have:l=[]:=iC.1 h;subst this;rfl
theorem BR:∀{a b:Value},zv a b=true->a=b:=by
 intro a b h;unfold zv at h;split at h
 .simp only[aO,fu]at h;rw[h.1,h.2]
 .simp only[fu]at h;rw[h]
 .simp only[aO]at h;rw[CM h.1,CM h.2]
 .simp only[aO]at h;rw[g8 h.1,g8 h.2]
 .simp at h
theorem BM:∀{l l':List Value},zJ l l'=true->l=l'
 | [],[],_=>rfl
 | a::l,b::l',h=>by
  simp only[zJ,aO]at h;rw[BR h.1,BM h.2]
 | [],_::_,h=>by simp[zJ]at h
 | _::_,[],h=>by simp[zJ]at h
theorem Ky{a b:Value}(h:yJ a b=true):a=b:=by
 unfold yJ at h;split at h
 .rename_i x y;have:=BM h;rw[jj this]
 .exact BR h
def zb(C:Ctx):List Field->Nat->Ty->Bool
 | [],_,.unit=>true
 | f::fs,off,.pair a b=>decide (a=C.ty f.type)&&(Nat.beq f.offset off&&((f.name != "_")&&(a.nz&&zb C fs (off+a.width) b)))
 | _,_,_=>false
theorem Cx{C:Ctx}:∀(fs:List Field)(off:Nat)(T:Ty),zb C fs off T=true->iM C fs off T
 | [],off,T,h=>by
  cases T<;>simp[zb]at h;simp only[iM]
 | f::fs,off,T,h=>by
  cases T with
  | pair a b=>simp only[zb,aO,fu,bne_iff_ne,ne_eq]at h;obtain⟨e,h1,h2,h3,h4⟩:=h;subst e;exact⟨b,rfl,g8 h1,h2,h3,Cx fs _ b h4⟩
  | _=>simp[zb]at h
def wj(C:Ctx):TypeDesc->Ty->Bool
 | .int k,T=>decide (T=.int k)
 | .bool,T=>decide (T=.bool)
 | .string,T=>decide (T=.str)
 | .slice e,T=>decide (T=.sl (C.ty e))&&(C.ty e).nz
 | .struct fs,T=>zb C fs.toList 0 T&&T.nz
 | _,_=>false
theorem I8{C:Ctx}{d:TypeDesc}{T:Ty}(h:wj C d T=true):jV C d T:=by
 cases d<;>simp only[wj,aO,fu]at h<;>first
  | exact h
  | exact⟨Cx _ _ _ h.1,Ty.gK h.2⟩
  | simp at h
def wA(P:Program)(C:Ctx)(t:TypeId):Bool:=
  if (C.ty t).nz then
    (match P.info? t with
     | some i=>Nat.beq i.size (C.ty t).width&&((match i.zero with | some z=>yJ z (bK (C.ty t) (zc (C.ty t))) | none=>false)&&Nat.ble i.bytes 255)
     | none=>false)&&
    (Nat.blt 0 (C.ty t).width&&((match P.underlying t with | some d=>wj C d (C.ty t) | none=>false)&&(Nat.blt (C.ty t).deep 10000&&
      (!((C.ty t).agg&&(C.ty t).comp)||(!P.stoodInHeld t&&!P.eqGuardType P.depth t)))))
  else true
theorem Jl{P:Program}{C:Ctx}{t:TypeId}(h:wA P C t=true)(hz:(C.ty t).nz=true):iu P C t:=by
 unfold wA at h;rw[aE hz]at h;simp only[aO]at h;obtain⟨h1,h2,h3,h4,h5⟩:=h;refine⟨?_,jx.1 h2,?_,jx.1 h4,?_⟩
 .split at h1
  .rename_i i hi;simp only[aO]at h1;obtain⟨k1,k2,k3⟩:=h1;split at k2
   .rename_i z Hv;exact⟨i,hi,g8 k1,by rw[Hv,Ky k2],lI k3⟩
   .simp at k2
  .simp at h1
 .split at h3
  .rename_i d hd;exact⟨d,hd,I8 h3⟩
  .simp at h3
 .intro ha hc;rw[ha,hc]at h5;simp only[tw,cT,Bool.false_or,aO,gw]at h5;exact h5
theorem I2{P:Program}{C:Ctx}(n:Nat)(GO:∀t,Nat.ble t n=false->C.ty t=.unit)(h:(List.range (n+1)).all (wA P C)=true):e_ P C:=by
 intro t hz;cases hb:Nat.ble t n with
 | false=>rw[GO t hb]at hz;simp[Ty.nz]at hz
 | true=>have:=lI hb;rw[lM]at h;exact Jl (h t (List.mem_range.2 (by omega))) hz
theorem Jc {P:Program} (h:P.funcs.toList.all (fun fn=>fn.name != "runtime.NumGoroutine")=true):∀(f:FuncId)(fn:Func),P.funcs[f]? = some fn->fn.name≠ "runtime.NumGoroutine" := by
 intro f fn hf;rw[lM]at h;have:=h fn (by rw[w5];exact wO hf);simpa using this
end
end Go.V
namespace Go.V
noncomputable section
open Go
abbrev Rj:Ty:=.pair .str (.pair (.sl (.int .i64)) .unit)
abbrev DZ:Ty:=.pair (.sl (.int .i64)) (.pair (.sl Rj) .unit)
theorem Ql{w:World}{S:St}{g:ai}{tmps:Array Value}(st:aj w.heap S g tmps Nil){r:Nat}{R:aB}{p:Path}{x:Int}{v:AV}{S':aD}(hR:S.root r=some R)(hin:bO R.ty R.x p)
  (h:(zx S.rt r R p x).dec true=some (v,S')) {b off:Nat} {c:List Value} (cz:a_ w.heap R.ty (g.C r) (g.base r) p=some (some (b,off),c)) :
  v=.fO .unit/\w.there b off 1/\Post S g w tmps v S' (.tuple #[]) (w.setCells b off [.int .i64 x]):=by
 unfold zx at h;split at h
 .rename_i old y hf hput;simp only[Tr.dec,ay,aJ]at h;obtain⟨rfl,rfl⟩:=h;obtain⟨base,c0,F0,q1,q2,q3,q4,q5,q6⟩:=st.update hR hf hin;rw[cz]at q1;simp only[ay,aJ]at q1;obtain⟨rfl,rfl⟩:=q1;have Af:=ag.width _ q2;replace Af:c.length=1:=Af;obtain⟨og,cs,jY,hfit,hsub⟩:=q4 b off rfl;have oM:=q5 b off rfl;have aQ:(S.root r).isSome:=by rw[hR];rfl
  have bw:∀b',b'≠b->(w.setCells b off [.int .i64 x]).heap[b']? = w.heap[b']?:=fun b' hb'=>tM _ off w b' hb';have mW:off+[Value.int .i64 x].length<=cs.size:=by rw[mO];omega
  obtain⟨g2,s1,s2,s3,s4,s5,s6⟩:=q6 0 0 (w.setCells b off [.int .i64 x]).heap .no x [.int .i64 x] Nil y.1 y.2 (fun u=>uQ _)
   (fun b' _ _ hb'=>bw b' (fun e=>hb' off (by rw[e]))) (by rw[lp];exact bN _) (sJ rfl jY mW) (by simp only[ag])
   (fun b' hb'=>hb'.elim) (fun b' hb'=>hb'.elim) hput (Mk.cE 0 0 _) (aA.af _ rfl) (fun _=>rfl)
   (by
    intro p' t1 n1 hp dF hi';cases p' with
    | nil=>refine⟨trivial,fun bp cp ha=>?_⟩;simp only[q8,ay,aJ]at dF;obtain⟨rfl,rfl⟩:=dF;simp only[a_,ay,aJ]at ha⊢;obtain⟨rfl,rfl⟩:=ha;exact⟨_,⟨rfl,rfl⟩,fun s a e=>by cases e⟩
    | cons z p'=>cases z<;>simp[q8]at dF)
  have b7:=yu (b:=b) [.int .i64 x] off w;refine⟨rfl,nE jY (by omega),g2,s1.aN (Sub.nil _),⟨[],rfl,rfl⟩,s3,⟨b7.1,b7.2.1,b7.2.2,by rw[lp];exact bN _,fun b' _ hb'=>bw b' (fun e=>hb' (by
   have:=st.own r b aQ oM;rw[e];exact this))⟩⟩
 .simp[Tr.dec]at h
theorem NM{h:Array Obj}{Pr:BS}{e:Ty}{s:Nat}{m:Mk}{xs:(Ty.sl e).den}{c:List Value}{F:BS}(rep:ag h Pr (.sl e) (.own s m) xs c F){i:Nat}(hi:i<xs.length) :
  ∃b cap cs,c=[.slice (some ⟨b,0,none⟩) xs.length cap]/\xs.length<=cap/\fI h b cs/\cap * e.width<=cs.size/\∃G,ag h Pr e m (xs.getD i e.zero) (sub cs (i * e.width) e.width) G:=by
 simp only[ag]at rep;obtain⟨a,cap,rfl,h1,h2⟩:=rep;rcases h2 with h2 | ⟨b,cs,rfl,_,hb,h3,Fs,_,_,h4⟩
 .omega
 .exact⟨b,cap,cs,rfl,h1,hb,h3,Fs i,h4 i hi⟩
end
open Go.V
abbrev gR:Ty:=Ty.sl Ty.str
abbrev cA:Mk:=Mk.own 0 Mk.no
abbrev qP:Ty:=Ty.int IntKind.u8
abbrev bf:Ty:=Ty.int IntKind.i64
abbrev ug:Ty:=Ty.sl qP
abbrev dZ:Ty:=Ty.sl bf
abbrev Hx:Mk:=Mk.pr Mk.no (Mk.pr cA Mk.no)
abbrev Eh:Ty:=Ty.pair Ty.str (Ty.pair dZ Ty.unit)
abbrev FQ:Ty:=Ty.sl Eh
abbrev EE:Mk:=Mk.pr cA (Mk.pr (Mk.own 0 (Mk.pr Mk.no (Mk.pr Mk.no Mk.no))) Mk.no)
abbrev fF:Mk:=Mk.pr cA (Mk.pr (Mk.own 0 Hx) Mk.no)
abbrev oz:Ty:=Ty.pair ug (Ty.pair bf (Ty.pair bf Ty.unit))
abbrev bC:Ty:=Ty.pair dZ (Ty.pair FQ Ty.unit)
end Go.V
namespace Go.V
open Go
noncomputable def wz:Nat:=83
noncomputable def KM(n:Nat):Ty:=cond (n.ble wz) (cond (n.ble 25) (cond (n.ble 9) (cond (n.ble 4) (cond (n.ble 2) (cond (n.beq 2) bf Ty.unit) (cond (n.ble 3) (cond (n.beq 3) bf Ty.unit) (cond (n.beq 4) Ty.bool Ty.unit))) (cond (n.ble 5) (cond (n.beq 5) qP Ty.unit) (cond (n.ble 6) (cond (n.beq 6) qP Ty.unit) (cond (n.beq 9) Ty.str Ty.unit)))) (cond (n.ble 12) (cond (n.ble 10) (cond (n.beq 10) Ty.str Ty.unit) (cond (n.ble 11) (cond (n.beq 11) Ty.str Ty.unit) (cond (n.beq 12) (Ty.int IntKind.u64) Ty.unit))) (cond (n.ble 22) (cond (n.ble 21) (cond (n.beq 21) (Ty.int IntKind.i32) Ty.unit) (cond (n.beq 22) ug Ty.unit)) (cond (n.ble 24) (cond (n.beq 24) dZ Ty.unit) (cond (n.beq 25) FQ Ty.unit))))) (cond (n.ble 59) (cond (n.ble 37) (cond (n.ble 26) (cond (n.beq 26) bC Ty.unit) (cond (n.ble 27) (cond (n.beq 27) bC Ty.unit) (cond (n.beq 37) gR Ty.unit))) (cond (n.ble 47) (cond (n.beq 47) Eh Ty.unit) (cond (n.ble 48) (cond (n.beq 48) Eh Ty.unit) (cond (n.beq 59) oz Ty.unit)))) (cond (n.ble 77) (cond (n.ble 60) (cond (n.beq 60) oz Ty.unit) (cond (n.ble 69) (cond (n.beq 69) (Ty.int IntKind.u64) Ty.unit) (cond (n.beq 77) (.int .u32) Ty.unit))) (cond (n.ble 79) (cond (n.ble 78) (cond (n.beq 78) qP Ty.unit) (cond (n.beq 79) qP Ty.unit)) (cond (n.ble 82) (cond (n.beq 82) (Ty.int IntKind.i32) Ty.unit) (cond (n.beq 83) (Ty.int IntKind.i32) Ty.unit)))))) Ty.unit
noncomputable def Kr(n:Nat):oF:=
 cond (n.ble 25) (cond (n.ble 14) (cond (n.ble 7) (cond (n.ble 4) (cond (n.ble 2) (⟨[],[]⟩) (⟨[.val ug],[.val Ty.bool (Mk.top Ty.bool)]⟩)) (cond (n.ble 5) (⟨[.val ug],[.val bC EE,.val Ty.str (Mk.top Ty.str)]⟩) (⟨[.val bC,.val Ty.str],[.val bC (Mk.top bC),.val Ty.bool (Mk.top Ty.bool)]⟩))) (cond (n.ble 10) (cond (n.ble 8) (⟨[.val ug],[.val bC EE,.val Ty.str (Mk.top Ty.str)]⟩) (⟨[.val bC,.val Ty.str],[.val bC (Mk.top bC),.val Ty.bool (Mk.top Ty.bool)]⟩)) (cond (n.ble 11) (⟨[.val ug],[.val bC EE]⟩) (cond (n.ble 12) (⟨[.val bC,.val bC],[.val Ty.bool (Mk.top Ty.bool)]⟩) (⟨[.val bC],[.val Ty.bool (Mk.top Ty.bool)]⟩))))) (cond (n.ble 20) (cond (n.ble 17) (cond (n.ble 16) (⟨[],[.val bC (Mk.top bC)]⟩) (⟨[.val gR,.val Ty.str],[.val Ty.bool (Mk.top Ty.bool)]⟩)) (cond (n.ble 18) (⟨[.val bC],[.val gR (Mk.top gR)]⟩) (cond (n.ble 19) (⟨[.val ug],[.ptr oz (.no)]⟩) (⟨[.bS oz (.no) (.no)],[.val bC EE]⟩)))) (cond (n.ble 22) (cond (n.ble 21) (⟨[.bS oz (.no) (.no)],[.val Ty.str (Mk.top Ty.str)]⟩) (⟨[.val bC],[.val bC (Mk.top bC)]⟩)) (cond (n.ble 23) (⟨[.val bC,.val Ty.str],[.val dZ (Mk.top dZ),.val bf (Mk.top bf)]⟩) (cond (n.ble 24) (⟨[.val bC,.val bf,.val bf],[.val bf (Mk.top bf)]⟩) (⟨[.val Ty.str],[.val bf (Mk.top bf)]⟩)))))) (cond (n.ble 35) (cond (n.ble 29) (cond (n.ble 27) (cond (n.ble 26) (⟨[.bS bC (Mk.top bC) (Mk.top bC),.val bf,.val bf,.val bf],[]⟩) (⟨[.val bC],[.val bC (Mk.top bC)]⟩)) (cond (n.ble 28) (⟨[.val bC,.val Ty.str],[.val bf (Mk.top bf)]⟩) (⟨[.val Ty.str],[.val bf (Mk.top bf)]⟩))) (cond (n.ble 31) (cond (n.ble 30) (⟨[.val bC,.val bf,.val Ty.str],[.val bf (Mk.top bf)]⟩) (⟨[.cD bC (Mk.top bC) (Mk.top bC),.val bf,.val bf,.val bf],[]⟩)) (cond (n.ble 32) (⟨[.val bC,.val bf,.val bf],[.val bf (Mk.top bf)]⟩) (cond (n.ble 33) (⟨[.val dZ,.val dZ],[.val Ty.bool (Mk.top Ty.bool)]⟩) (⟨[.val bC,.val bf],[.val dZ (Mk.top dZ),.val Ty.bool (Mk.top Ty.bool)]⟩))))) (cond (n.ble 40) (cond (n.ble 37) (cond (n.ble 36) (⟨[.val dZ,.val bf],[.val bf (Mk.top bf)]⟩) (⟨[.bS oz (.no) (.no)],[.val bC (Mk.top bC)]⟩)) (cond (n.ble 38) (⟨[.bS oz (.no) (.no),.val bf],[.val bf (Mk.top bf)]⟩) (cond (n.ble 39) (⟨[.bS oz (.no) (.no),.val gR],[.val Ty.str (Mk.top Ty.str)]⟩) (⟨[.val dZ],[.val dZ (Mk.top dZ)]⟩)))) (cond (n.ble 43) (cond (n.ble 42) (⟨[.val bf,.val bf,.val bf],[.val Ty.bool (Mk.top Ty.bool)]⟩) (⟨[.val Ty.bool],[.val bf (Mk.top bf)]⟩)) (cond (n.ble 44) (⟨[.bS oz (.no) (.no),.val bf],[.val Ty.bool (Mk.top Ty.bool)]⟩) (cond (n.ble 45) (⟨[.bS oz (.no) (.no)],[.val bf (Mk.top bf)]⟩) (⟨[],[]⟩))))))
noncomputable def J5(n:Nat):Hints:=
 cond (n.ble 20) (cond (n.ble 10) (cond (n.ble 6) (cond (n.ble 3) (cond (n.ble 2) ({}) ({ keep:=[(18,[4,5,16,17,18],[2,4,5,16,17],[])] })) (cond (n.ble 5) ({}) ({ keep:=[(11,[1,2,4,6,9,10,60,61],[1,2,4,6,9,10],[]),(17,[2,4,6,9,84,85],[2,4],[])] }))) (cond (n.ble 8) (cond (n.ble 7) ({ keep:=[(8,[1,2,4,6,7,8,9],[4,6,7],[])] }) ({})) (cond (n.ble 9) ({ keep:=[(9,[2,4,6,8,51,52,53],[2,4,8],[])],share:=[(11,6)] }) ({ keep:=[(6,[1,2,4,6,7,8],[4,6,7],[])] })))) (cond (n.ble 14) (cond (n.ble 12) (cond (n.ble 11) ({}) ({ keep:=[(4,[2,3,5],[4],[])] })) (cond (n.ble 13) ({ keep:=[(5,[1,3,25],[1,2,3],[]),(11,[1,3,25,36,37,38],[1,3,25],[]),(17,[3,51,52,53],[2],[])] }) ({ keep:=[(5,[1,3,4],[2],[]),(13,[1,3,4,5,7],[1,2,3,4,5],[]),(18,[1,3,4,5,8],[1,2,3,4],[])],share:=[(3,1),(7,6)] }))) (cond (n.ble 17) (cond (n.ble 16) ({}) ({ keep:=[(2,[0,1,5],[4],[])] })) (cond (n.ble 18) ({ keep:=[(6,[1,3,18,19,20],[3],[])] }) (cond (n.ble 19) ({ keep:=[(3,[0,3,4],[0,3],[])] }) ({ share:=[(7,7),(7,8)] })))))) (cond (n.ble 28) (cond (n.ble 24) (cond (n.ble 22) (cond (n.ble 21) ({ share:=[(1,1)] }) ({ keep:=[(3,[2,3,11,12,13],[2,3],[])] })) (cond (n.ble 23) ({ keep:=[(5,[1,2,6,7,8,9],[6,7],[]),(7,[1,2,6,7,8,9],[1,2,6,7,8,9],[])] }) ({}))) (cond (n.ble 26) (cond (n.ble 25) ({ keep:=[(3,[0,3,6,7],[3],[])] }) ({})) (cond (n.ble 27) ({ keep:=[(3,[1,2,3,4],[2,3],[])] }) ({ keep:=[(3,[1,2,5,7],[4],[])] })))) (cond (n.ble 32) (cond (n.ble 30) (cond (n.ble 29) ({ keep:=[(3,[0,3,4],[3],[])] }) ({ keep:=[(4,[2,3,7,9,10],[9],[])] })) (cond (n.ble 31) ({ outs:=[(0,4)] }) ({}))) (cond (n.ble 35) (cond (n.ble 33) ({ keep:=[(4,[0,1,5],[4],[])] }) ({ keep:=[(3,[1,2,6,7],[4,5,6],[])] })) (cond (n.ble 36) ({ keep:=[(3,[0,1,5,6],[5],[])] }) (cond (n.ble 37) ({ keep:=[(3,[0,2,3,4],[0,2,3],[0])] }) ({}))))))
open Go.Proofs in
noncomputable def rJ(n:Nat):Option Func:=
 cond (n.ble 23) (cond (n.ble 12) (cond (n.ble 6) (cond (n.ble 3) (cond (n.ble 2) (none) (some Try.f3)) (cond (n.ble 4) (some Try.f4) (cond (n.ble 5) (some Try.f5) (some Try.f6)))) (cond (n.ble 9) (cond (n.ble 7) (some Try.f7) (cond (n.ble 8) (some Try.f8) (some Try.f9))) (cond (n.ble 10) (some Try.f10) (cond (n.ble 11) (some Try.f11) (some Try.f12))))) (cond (n.ble 17) (cond (n.ble 14) (cond (n.ble 13) (some Try.f13) (some Try.f14)) (cond (n.ble 15) (some Try.f15) (cond (n.ble 16) (some Try.f16) (some Try.f17)))) (cond (n.ble 20) (cond (n.ble 18) (some Try.f18) (cond (n.ble 19) (some Try.f19) (some Try.f20))) (cond (n.ble 21) (some Try.f21) (cond (n.ble 22) (some Try.f22) (some Try.f23)))))) (cond (n.ble 34) (cond (n.ble 28) (cond (n.ble 25) (cond (n.ble 24) (some Try.f24) (some Try.f25)) (cond (n.ble 26) (some Try.f26) (cond (n.ble 27) (some Try.f27) (some Try.f28)))) (cond (n.ble 31) (cond (n.ble 29) (some Try.f29) (cond (n.ble 30) (some Try.f30) (some Try.f31))) (cond (n.ble 32) (some Try.f32) (cond (n.ble 33) (some Try.f33) (some Try.f34))))) (cond (n.ble 40) (cond (n.ble 37) (cond (n.ble 35) (some Try.f35) (cond (n.ble 36) (some Try.f36) (some Try.f37))) (cond (n.ble 38) (some Try.f38) (cond (n.ble 39) (some Try.f39) (some Try.f40)))) (cond (n.ble 43) (cond (n.ble 41) (some Try.f41) (cond (n.ble 42) (some Try.f42) (some Try.f43))) (cond (n.ble 44) (some Try.f44) (cond (n.ble 45) (some Try.f45) (none))))))
noncomputable def ctx:Ctx:=⟨KM,Kr,J5,fun g=>Nat.beq g 26⟩
open Go.Proofs
theorem BX:e_ Try.prog ctx:=I2 wz (fun t h=>by show cond (Nat.ble t wz) _ _=_;rw[h];rfl) (by kernel_rfl)
theorem yf:Try.prog.follows .mixedOrders=true:=by kernel_rfl
theorem Ko:∀(f:FuncId)(fn:Func),Try.prog.funcs[f]? = some fn->fn.name≠ "runtime.NumGoroutine" := Jc (by kernel_rfl)
end Go.V
namespace Go.V
noncomputable section
open Go
def Wf:(t:Ty)->t.den->Prop
 | .unit,_=>True
 | .int k,n=>(Lit.int k n).wf=true
 | .bool,_=>True
 | .str,s=>s.size<=maxLen
 | .sl t,xs=>xs.length<=maxLen/\∀x∈xs,Wf t x
 | .pair a b,x=>Wf a x.1/\Wf b x.2
section
variable {H:Type} {enc:TypeId×Value->H} {P:Program} {C:Ctx} {w:World} {sp:Nat->Bool} {held:Bool}
def Old(w:World):BS:=fun b=>b<w.heap.size
theorem iu.cellsOf{t:TypeId}(k:iu P C t):P.cellsOf t=(C.ty t).width:=by obtain⟨i,h1,h2,_⟩:=k.info;simp[Program.cellsOf,h1,h2]
theorem Ce(aM:e_ P C){n:Nat}(ih:∀(t:TypeId)(cs:List Value)(z:DataW H×List MemPlace),(C.ty t).nz=true->DataW.trod enc P w 0 sp held n t cs=some z->
   ∃x:(C.ty t).den,Wf (C.ty t) x/\ag w.heap (Old w) (C.ty t) .no x cs Nil) {cs:List Value} :
  ∀(fs:List Field)(off:Nat)(T:Ty),iM C fs off T->(∀f∈fs,∃z,DataW.trod enc P w 0 sp held n f.type ((cs.drop f.offset).take (P.cellsOf f.type))=some z)->cs.length=off+T.width->
   ∃x:T.den,Wf T x/\ag w.heap (Old w) T .no x (cs.drop off) Nil
 | [],off,T,hs,_,hl=>by
  simp only[iM]at hs;subst hs;simp only[Ty.width,iG]at hl;exact⟨(),trivial,by simp only[ag];exact lH (by omega)⟩
 | f::fs,off,T,hs,hf,hl=>by
  obtain⟨b,rfl,ho,_,hnz,hs⟩:=hs;obtain⟨z,hz⟩:=hf f (ef ..);obtain⟨x,wx,rx⟩:=ih _ _ z hnz hz;rw[(aM _ hnz).cellsOf,ho]at rx;simp only[Ty.width]at hl;obtain⟨y,wy,ry⟩:=Ce aM ih fs (off+(C.ty f.type).width) b hs (fun g hg=>hf g (d_ _ hg)) (by omega);refine⟨(x,y),⟨wx,wy⟩,?_⟩;simp only[ag];refine⟨_,_,Nil,Nil,?_,rx,ry,Sub.nil _,Sub.nil _,bz.nil _⟩;rw[<-lP,lJ]
theorem I5(aM:e_ P C):∀(n:Nat)(t:TypeId)(cs:List Value)(z:DataW H×List MemPlace),(C.ty t).nz=true->DataW.trod enc P w 0 sp held n t cs=some z->
   ∃x:(C.ty t).den,Wf (C.ty t) x/\ag w.heap (Old w) (C.ty t) .no x cs Nil:=by
 intro n
 induction n with
 | zero=>intro t cs z _ h;simp[DataW.trod]at h
 | succ n ih=>
  intro t cs z hnz h;have k:=aM t hnz;obtain⟨d,hd,hU⟩:=k.desc;cases d with
  | int kd=>simp only[jV]at hU;obtain⟨m,rfl,_,hw⟩:=DataW.trod_int hd h;rw[hU];exact⟨m,hw,by simp only[ag]⟩
  | bool=>
   simp only[jV]at hU;rw[hU];have:∃b,cs=[.bool b]:=by unfold DataW.trod at h;rw[hd]at h;split at h<;>simp_all
   obtain⟨b,rfl⟩:=this;exact⟨b,trivial,by simp only[ag]⟩
  | string=>simp only[jV]at hU;obtain⟨s,rfl,_,hw⟩:=DataW.trod_string hd h;rw[hU];exact⟨s,hw,by simp only[ag]⟩
  | struct fs=>
   simp only[jV]at hU;obtain⟨xs,m,e,_,hl,hlen,hf⟩:=DataW.trod_struct hd h;obtain rfl:n=m:=by omega
   rw[k.cellsOf]at hl;have:=Ce (cs:=cs) aM ih fs.toList 0 (C.ty t) hU.1 (fun f hf'=>by
    obtain⟨i,hi,e⟩:=jg.1 hf';rw[dH]at hi;have h1:=hf i f (by rw[<-e];simp[hi]);exact⟨xs[i],by rw[h1];simp⟩) (by omega)
   simpa using this
  | slice e=>
   simp only[jV]at hU;obtain⟨he,Ap⟩:=hU;have ke:=aM e Ap;rw[he];rcases DataW.trod_slice hd h with⟨rfl,_⟩ | ⟨a,len,cap,elems,rest,m,e1,rfl,_,_,hlc,WA,hel,cz,_⟩
   .exact⟨[],⟨ji _,fun x hx=>by simp at hx⟩,by simp only[ag];exact⟨none,0,by simp,by simp,fun h=>absurd rfl h⟩⟩
   .obtain rfl:n=m:=by omega
    rw[ke.cellsOf]at cz;have hpos:=ke.pos;have key:∀i,i<len->∃(x:(C.ty e).den)(cs:List Value),Wf (C.ty e) x/\ag w.heap (Old w) (C.ty e) .no x cs Nil/\cs.length=(C.ty e).width/\∀j,j<(C.ty e).width->w.cell? ((a.add (i * (C.ty e).width)).add j)=cs[j]?:=by intro i hi;have h1:=cz i hi;rw[gv (by omega)]at h1;rw[bD]at h1;obtain⟨cs,h2,h3⟩:=h1;obtain⟨x,wx,rx⟩:=ih _ _ _ Ap h3;obtain⟨_,hl,hc⟩:=World.cells?_some h2;exact⟨x,cs,wx,rx,hl,hc⟩
    by_cases h0:len=0
    .subst h0;exact⟨[],⟨ji _,fun x hx=>by simp at hx⟩,by simp only[ag];exact⟨some a,cap,by simp,by simp,fun h=>absurd rfl h⟩⟩
    .have hz:(C.ty e).den:=(C.ty e).zero;have Hw:∀i,∃(x:(C.ty e).den),i<len->∃(cs:List Value),Wf (C.ty e) x/\ag w.heap (Old w) (C.ty e) .no x cs Nil/\cs.length=(C.ty e).width/\∀j,j<(C.ty e).width->w.cell? ((a.add (i * (C.ty e).width)).add j)=cs[j]?:=by
      intro i;by_cases hi:i<len
      .obtain⟨x,h⟩:=key i hi;exact⟨x,fun _=>h⟩
      .exact⟨hz,fun h=>absurd h hi⟩
     obtain⟨f,hf⟩:=mN Hw;refine⟨(List.range len).map f,⟨by simp;omega,?_⟩,?_⟩
     .intro x hx;simp only[fZ,List.mem_range]at hx;obtain⟨i,hi,rfl⟩:=hx;obtain⟨_,h,_⟩:=hf i hi;exact h
     .have hb:∃cells ty fr,w.heap[a.block]? = some (.cells cells ty fr)/\a.spot=none:=by
       obtain⟨cs,_,_,hl,hc⟩:=hf 0 (by omega);have h1:=hc 0 hpos;rw[gv (by omega)]at h1;simp only[Nat.zero_mul,Addr.add,aK]at h1;unfold World.cell? at h1;split at h1
       .rename_i c ty fr hh;split at h1
        .simp at h1
        .rename_i hs;exact⟨c,ty,fr,hh,by simpa using hs⟩
       .simp at h1
      obtain⟨cells,ty,fr,hh,uC⟩:=hb;obtain⟨ab,ao,as'⟩:=a;simp only at uC hh;subst uC;have hcell:∀i,i<len->∀j,j<(C.ty e).width->w.cell? (((⟨ab,ao,none⟩:Addr).add (i * (C.ty e).width)).add j)=cells[ao+i * (C.ty e).width+j]?:=by
       intro i hi j hj;have:((⟨ab,ao,none⟩:Addr).add (i * (C.ty e).width)).add j=⟨ab,ao+i * (C.ty e).width+j,none⟩:=by simp only[Addr.add];split<;>split<;>simp_all
       rw[this];simp[World.cell?,hh]
      have hsub:∀i,i<len->∀cs:List Value,cs.length=(C.ty e).width->(∀j,j<(C.ty e).width->w.cell? (((⟨ab,ao,none⟩:Addr).add (i * (C.ty e).width)).add j)=cs[j]?)->
        sub cells (ao+i * (C.ty e).width) (C.ty e).width=cs/\ao+i * (C.ty e).width+(C.ty e).width<=cells.size:=by
       intro i hi cs hl hc;have h2:∀j,j<(C.ty e).width->cells[ao+i * (C.ty e).width+j]? = cs[j]?:=fun j hj=>by rw[<-hcell i hi j hj];exact hc j hj
       have h3:ao+i * (C.ty e).width+(C.ty e).width<=cells.size:=by have:=h2 ((C.ty e).width-1) (by omega);rw[gv (by omega)]at this;have:=(lC.1 this).1;omega
       refine⟨?_,h3⟩;apply kq;intro j;simp only[sub,di,dW];split
       .rename_i hj;rw[lK];exact h2 j hj
       .rename_i hj;rw[iD (by omega)]
      simp only[ag];refine⟨some ⟨ab,ao,none⟩,cap,by simp,by simpa using hlc,fun _=>⟨ab,ao,cells,rfl,?_,⟨ty,fr,hh⟩,?_,?_⟩⟩
      .exact(lC.1 hh).1
      .obtain⟨cs,_,_,hl,hc⟩:=hf (len-1) (by omega);have:=(hsub (len-1) (by omega) cs hl hc).2;have e2:len * (C.ty e).width=(len-1) * (C.ty e).width+(C.ty e).width:=by rw[show len=(len-1)+1 by omega,fl];simp
       simp only[lO,wB];omega
      .intro i hi;simp only[lO,wB]at hi;obtain⟨cs,wx,rx,hl,hc⟩:=hf i hi;have e3:((List.range len).map f).getD i (C.ty e).zero=f i:=by simp[List.getD,hi]
       rw[e3,(hsub i hi cs hl hc).1];exact rx
  | _=>simp[jV]at hU
theorem KD{t:TypeId}(k:iu P C t){r:Reach}{b0:Nat}{v:Value}(hval:Value.okWide P w r b0 t v):v=bK (C.ty t) v.cells.toList:=by
 obtain⟨d,hd,hU⟩:=k.desc;cases d with
 | int kd=>simp only[jV]at hU;obtain⟨n,rfl⟩:=Go.WideShapes.okWide_int hd hval;rw[hU];simp[bK,Ty.agg,Value.cells]
 | bool=>simp only[jV]at hU;obtain⟨n,rfl⟩:=Go.WideShapes.okWide_bool hd hval;rw[hU];simp[bK,Ty.agg,Value.cells]
 | string=>simp only[jV]at hU;obtain⟨n,rfl⟩:=Go.WideShapes.okWide_string hd hval;rw[hU];simp[bK,Ty.agg,Value.cells]
 | struct fs=>
  simp only[jV]at hU;obtain⟨cs,rfl,_⟩:=Go.WideShapes.okWide_struct hd hval;have:(C.ty t).agg=true:=by
   generalize hfl:fs.toList=l at hU;cases l with
   | nil=>exact absurd hU.1 hU.2
   | cons f l=>obtain⟨⟨b,e,_⟩,_⟩:=hU;rw[e];rfl
  simp[bK,this,Value.cells]
 | slice e=>simp only[jV]at hU;obtain⟨a,l,c,rfl⟩:=Go.WideShapes.okWide_slice hd hval;rw[hU.1];simp[bK,Ty.agg,Value.cells]
 | _=>simp[jV]at hU
def rP:List TypeId->List PK->Ctx->Prop
 | [],[],_=>True
 | t::ts,.val T::ks,C=>T=C.ty t/\(C.ty t).nz=true/\rP ts ks C
 | _,_,_=>False
def tA:(ks:List PK)->eF ks->Prop
 | [],_=>True
 | .val t::ks,a=>Wf t a.1/\tA ks a.2
 | _::ks,a=>tA ks a.2
theorem Db(aM:e_ P C){b0:Nat}:∀(ts:List TypeId)(ks:List PK)(vs:List Value)(ds:List (DataW H))(ps:List MemPlace)(i:Nat),rP ts ks C->DataW.TrodAll enc P w 0 sp held ts vs ds ps->
  (∀(j:Nat) t v,ts[j]? = some t->vs[j]? = some v->Value.okWide P w .any b0 t v)->∃a:eF ks,tA ks a/\qF w.heap (Old w) (fun _=>Nil) i ks a vs
 | [],[],vs,ds,ps,i,_,h,_=>by
  obtain⟨rfl,_,_⟩:=Go.ChangeShapes.trodAll_nil h;exact⟨(),trivial,rfl⟩
 | t::ts,.val T::ks,vs,ds,ps,i,hv,h,hok=>by
  obtain⟨rfl,hnz,hv⟩:=hv;obtain⟨v,vs',d,ds',p,q,rfl,rfl,rfl,⟨n,h1⟩,h2⟩:=Go.ChangeShapes.trodAll_cons h;obtain⟨x,wx,rx⟩:=I5 aM n t _ _ hnz h1;obtain⟨a,wa,ra⟩:=Db aM ts ks vs' ds' q (i+1) hv h2 (fun j t' v' ht r5=>hok (j+1) t' v' (by simpa using ht) (by simpa using r5));exact⟨(x,a),⟨wx,wa⟩,v,vs',rfl,⟨_,rx,KD (aM t hnz) (hok 0 t v rfl rfl)⟩,ra⟩
 | [],_::_,_,_,_,_,hv,_,_=>by simp[rP]at hv
 | _::_,[],_,_,_,_,hv,_,_=>by simp[rP]at hv
 | _::_,.own _ _::_,_,_,_,_,hv,_,_=>by simp[rP]at hv
 | _::_,.bS _ _ _::_,_,_,_,_,hv,_,_=>by simp[rP]at hv
 | _::_,.cD _ _ _::_,_,_,_,_,hv,_,_=>by simp[rP]at hv
 | _::_,.bP _::_,_,_,_,_,hv,_,_=>by simp[rP]at hv
 | _::_,.fn::_,_,_,_,_,hv,_,_=>by simp[rP]at hv
theorem Kj{n b:Nat}(h:nh n (fun _=>Nil) b):n<=b:=h.elim id (fun⟨_,h⟩=>h.elim)
theorem IT{W W':World}(h:gB (nh W.heap.size fun _=>Nil) W W'):Go.RowKit.Below W.heap.size W W':=
 ⟨h.os,h.tape,h.output,h.size,fun k hk=>h.block k hk fun hm=>by have:=Kj hm;omega⟩
end
end
end Go.V
namespace Go.V
noncomputable section
open Go
section
variable (C:Ctx) (D:Den C) {R:Type}
def pP(body:St->(Ex->St->Option R)->Option R)(canon dy:St->St):Nat->St->(Ex->St->Option R)->Option R
 | 0,_,_=>none
 | n+1,S,k=>body S fun e S=>match e with
  | .normal=>pP body canon dy n (canon S) k
  | e=>k e (dy S)
theorem Dh(body:St->(Ex->St->Option R)->Option R)(canon dy:St->St)(k:Ex->St->Option R):∀(n:Nat)(S:St),mC body canon dy n S k=pP body canon dy n (canon S) k
 | 0,_=>rfl
 | n+1,S=>by
  simp only[mC,pP];congr 1;funext e S;cases e with
  | normal=>exact Dh body canon dy k n S
  | exit id=>rfl
  | ret=>rfl
noncomputable def mG(H:Hints)(n:Nat):Code->St->(Ex->St->Option R)->Option R
 | .skip,S,k=>k .normal S
 | .region id ops dr,S,k=>
  if A6 ops then
   qC C D H id ops (ops.size+1) (iY ops) S [] fun lg S=>
    if dr then (if vW ops&&uX (Region.before ops) lg lg&&yz (Region.before ops) ops (iY ops) then k .normal S else none) else k .normal S
  else none
 | .seq a b,S,k=>mG H n a S fun e S=>match e with
  | .normal=>mG H n b (oG H b S) k
  | e=>k e S
 | .cond c a b,S,k=>
  match asBool (ev S c) with
  | some t=>br t (mG H n a S k) (mG H n b S k)
  | none=>none
 | .block id b,S,k=>mG H n b S fun e S=>match e with
  | .exit j=>if j=id then k .normal S else k (.exit j) S
  | e=>k e S
 | .loop b,S,k=>
  match H.keep.lookup (tV b) with
  | some kp=>pP (mG H n b) (St.canon kp.1 kp.2.2) (St.canon kp.2.1 kp.2.2) n (St.canon kp.1 kp.2.2 S) k
  | none=>none
 | .exit id,S,k=>k (.exit id) S
 | .ret,S,k=>k .ret S
 | _,_,_=>none
theorem J2(H:Hints)(n:Nat):∀(c:Code),(exec C D H n c:St->(Ex->St->Option R)->Option R)=mG C D H n c:=by
 intro c
 induction c with
 | seq a b dI gH=>funext S k;simp only[exec,mG,dI,gH];rfl
 | cond c a b dI gH=>funext S k;simp only[exec,mG,dI,gH];rfl
 | block id b ih=>funext S k;simp only[exec,mG,ih];rfl
 | loop b ih=>funext S k;simp only[exec,mG,ih,Dh];rfl
 | _=>funext S k;simp only[exec,mG]
inductive jJ where
 | l | r
def tR:Code->List jJ->Code
 | c,[]=>c
 | .seq a _,.l::p=>tR a p
 | .seq _ b,.r::p=>tR b p
 | .cond _ a _,.l::p=>tR a p
 | .cond _ _ b,.r::p=>tR b p
 | .block _ b,.l::p=>tR b p
 | .loop b,.l::p=>tR b p
 | _,_=>.skip
noncomputable def nG(H:Hints)(n:Nat):Code->List jJ->(Ex->St->Option R)->Ex->St->Option R
 | _,[],k=>k
 | .seq a b,.l::p,k=>nG H n a p fun e S=>match e with
  | .normal=>mG C D H n b (oG H b S) k
  | e=>k e S
 | .seq _ b,.r::p,k=>nG H n b p k
 | .cond _ a _,.l::p,k=>nG H n a p k
 | .cond _ _ b,.r::p,k=>nG H n b p k
 | .block id b,.l::p,k=>nG H n b p fun e S=>match e with
  | .exit j=>if j=id then k .normal S else k (.exit j) S
  | e=>k e S
 | _,_,_=>fun _ _=>none
end
def pO{α:Type}(d:α):Nat->Nat->List (Nat×α)->List α
 | _,0,_=>[]
 | i,n+1,[]=>d::pO d (i+1) n []
 | i,n+1,(j,v)::l=>cond (Nat.beq i j) (v::pO d (i+1) n l) (d::pO d (i+1) n ((j,v)::l))
def cF(n:Nat)(sl:List (Nat×AV))(rt:List (Nat×aB)):St:=⟨pO .undef 0 n sl,pO none 0 n (rt.map fun x=>(x.1,some x.2))⟩
section
variable {C:Ctx} (func:FuncId->Option Func) (D:Den C) (n:Nat)
def yA(f:FuncId):Code:=
 match func f with
 | some fn=>fn.body.getD .skip
 | none=>.skip
def BQ(f:FuncId):List ResultVar:=
 match func f with
 | some fn=>fn.results.toList
 | none=>[]
abbrev Out(C:Ctx)(f:FuncId):Type:=dU (C.sig f).res×bV (C.sig f).params
noncomputable def xU(f:FuncId):Ex->St->Option (Out C f):=fun e S=>
 match e with
 | .exit _=>none
 | _=>(ox C (C.sig f).res (BQ func f) S).bind fun r=>(outs (C.hints f) 0 (C.sig f).params r.2).bind fun o=>some (r.1,o)
noncomputable def FN(f:FuncId)(a:eF (C.sig f).params):Option (Out C f):=
 match func f with
 | none=>none
 | some fn=>
  if fn.body.isSome&&((C.sig f).params.all PK.eu&&(Nat.ble (C.sig f).params.length fn.ntmps&&m5 (pX 0 (C.sig f).params) (yA func f))) then
   mG C D (C.hints f) n (yA func f) (enter ⟨List.replicate fn.ntmps .undef,List.replicate fn.ntmps none⟩ 0 (C.sig f).params a) (xU func f)
  else none
noncomputable def LQ(f:FuncId)(p:List jJ)(m:Nat)(S:St)(K:Ex->St->Option (Out C f)):Option (Out C f):=
 match tR (yA func f) p with
 | .loop b=>
  match (C.hints f).keep.lookup (tV b) with
  | some kp=>pP (mG C D (C.hints f) n b) (St.canon kp.1 kp.2.2) (St.canon kp.2.1 kp.2.2) m S K
  | none=>none
 | _=>none
noncomputable def LK(f:FuncId)(p:List jJ)(m:Nat)(K:Ex->St->Option (Out C f)):Ex->St->Option (Out C f):=fun e S=>
 match tR (yA func f) p with
 | .loop b=>
  match (C.hints f).keep.lookup (tV b) with
  | some kp=>match e with
   | .normal=>LQ func D n f p m (St.canon kp.1 kp.2.2 S) K
   | e=>K e (St.canon kp.2.1 kp.2.2 S)
  | none=>none
 | _=>none
noncomputable def CQ(f:FuncId)(p q:List jJ)(K:Ex->St->Option (Out C f)):Ex->St->Option (Out C f):=
 nG C D (C.hints f) n (tR (yA func f) p) q K
theorem tI(f:FuncId)(p:List jJ)(S:St)(K:Ex->St->Option (Out C f)):LQ func D n f p 0 S K=none:=by
 unfold LQ;split
 .split<;>rfl
 .rfl
theorem Kc(f:FuncId)(a:eF (C.sig f).params):(match func f with
  | none=>none
  | some fn=>n3 C D n fn (C.hints f) (C.sig f).params (C.sig f).res a)=FN func D n f a:=by
 unfold FN;split
 .rfl
 .rename_i fn hf;unfold n3 yA xU BQ;rw[hf];simp only;cases fn.body with
  | none=>simp
  | some c=>simp only[Option.isSome_some,Bool.true_and,n8,J2];rfl
end
end
set_option maxHeartbeats 4000000
open Go.Proofs Go.RowKit Go.Lib
theorem AO:Try.f26.ntmps=28:=by kernel_rfl
theorem VI(b0 j6 bh n cap l:Nat)(x:Int)(w:World)(hc:w.cell? ⟨b0,j6,none⟩=some (.slice (some ⟨bh,0,none⟩) n cap))(hl:l<n)(hnc:n<=cap)(ht:w.there bh l 1) :
  Calls Try.prog 26 #[.pointer (some ⟨b0,j6,none⟩),.int .i64 (-1),.int .i64 l,.int .i64 x] w fun e w'=>e=.returned (.tuple #[])/\w'=w.setCells bh l [.int .i64 x]:=by
 have mx:=yf;have N1:Try.prog.underlying 24=some (.slice 3):=by kernel_rfl
 have Wk:=run_underlying N1;have s3:(Try.prog.info? 3).map (·.size)=some 1:=by kernel_rfl
 obtain⟨i3,yP⟩:∃i0,Try.prog.info? 3=some i0:=by cases h:Try.prog.info? 3 with | none=>rw[h]at s3;cases s3 | some x=>exact⟨x,rfl⟩
 have mY:i3.size=1:=by rw[yP]at s3;simpa using s3
 obtain⟨h1,h2⟩:=ht 0 (by omega);simp only[iG]at h1 h2;obtain⟨v0,AH⟩:=lG.1 h1
 go_enter Try.func26,AO
 go_wp2
 exact bodyPost_end (results_none rfl ..) rfl ⟨rfl,rfl⟩
theorem VJ(b0 j6 bn nn cn bx n cap a l:Nat)(x:Int)(w:World)(hc0:w.cell? ⟨b0,j6+1,none⟩=some (.slice (some ⟨bn,0,none⟩) nn cn))(ha:a<nn)(WD:nn<=cn)
  (hc:w.cell? ⟨bn,a * 2+1,none⟩=some (.slice (some ⟨bx,0,none⟩) n cap)) (hl:l<n) (hnc:n<=cap) (ht:w.there bx l 1) :
  Calls Try.prog 26 #[.pointer (some ⟨b0,j6,none⟩),.int .i64 a,.int .i64 l,.int .i64 x] w fun e w'=>e=.returned (.tuple #[])/\w'=w.setCells bx l [.int .i64 x]:=by
 have mx:=yf;have N1:Try.prog.underlying 24=some (.slice 3):=by kernel_rfl
 have Wk:=run_underlying N1;have Wj:Try.prog.underlying 25=some (.slice 48):=by kernel_rfl
 have WM:=run_underlying Wj;have s3:(Try.prog.info? 3).map (·.size)=some 1:=by kernel_rfl
 obtain⟨i3,yP⟩:∃i0,Try.prog.info? 3=some i0:=by cases h:Try.prog.info? 3 with | none=>rw[h]at s3;cases s3 | some x=>exact⟨x,rfl⟩
 have mY:i3.size=1:=by rw[yP]at s3;simpa using s3
 have FO:(Try.prog.info? 48).map (·.size)=some 2:=by kernel_rfl
 obtain⟨i48,GD⟩:∃i0,Try.prog.info? 48=some i0:=by cases h:Try.prog.info? 48 with | none=>rw[h]at FO;cases FO | some x=>exact⟨x,rfl⟩
 have Sz:i48.size=2:=by rw[GD]at FO;simpa using FO
 obtain⟨h1,h2⟩:=ht 0 (by omega);simp only[iG]at h1 h2;obtain⟨v0,AH⟩:=lG.1 h1;have hne:¬ ((a:Int) = -1):=by omega
 go_enter Try.func26,AO
 go_wp2
 exact bodyPost_end (results_none rfl ..) rfl ⟨rfl,rfl⟩
theorem NC{w:World}{b o:Nat}{cs:Array Value}{v:Value}(h:fI w.heap b cs)(hv:cs.toList[o]? = some v):w.cell? ⟨b,o,none⟩=some v:=by
 have ho:o<cs.size:=by
  have:=(wN.1 hv).1
  rwa [dH]at this
 have hr:=tO (w:=w) h.rS (o:=o) (n:=1) (by omega);have:=hr 0 v (by
  unfold sub;rw[di,aE (by omega),dW,iG];exact hv)
 simpa using this
theorem NN{cs:Array Value}{o n i:Nat}{c:List Value}(h:sub cs o n=c)(hi:i<n):cs.toList[o+i]? = c[i]?:=by rw[<-h];unfold sub;rw[di,aE hi,dW]
theorem VY:∀f,ctx.jB f=true->NO Try.prog f:=by
 intro f hf;obtain rfl:f=26:=g8 hf;refine⟨⟨Try.f26,Try.func26,by decide +kernel,rfl⟩,?_⟩;intro S g w tmps au vs st ha ht;obtain⟨⟨v,S'⟩,hd⟩:=ht true;have Ev:=hd;unfold zw at hd;split at hd
 rotate_left
 .simp[Tr.dec]at hd
 rename_i r a l x;obtain⟨v1,Wl,rfl,x1,v2,Wm,rfl,⟨c2,r2,rfl⟩,v3,WN,rfl,⟨c3,r3,rfl⟩,v4,Wn,rfl,⟨c4,r4,rfl⟩,k⟩:=ha;obtain rfl:Wn=[]:=k;simp only[ag]at r2 r3 r4;subst r2;subst r3;subst r4;split at hd
 rotate_left
 .simp[Tr.dec]at hd
 rename_i R hR;split at hd
 rotate_left
 .simp[Tr.dec]at hd
 rename_i SO x0 s0 m1 hs s1 m2 ns me z_ mg;have Es:S.root r=some R:=hR;obtain⟨b0,j6,c,GG,nt,rfl⟩:=s9 st Es me x1;obtain⟨base,c',F,q1,q2,q3,q4,q5,_⟩:=st.update Es me GG;rw[nt]at q1;simp only[ay,aJ]at q1;obtain⟨rfl,rfl⟩:=q1;obtain⟨ty,ms,rx,mem⟩:=R;have F_:ty=DZ:=by simp only[focus,ay]at me;exact(Dy.mk.inj me).1
 subst F_;have e0:ms=SO/\rx=x0:=by simpa [focus] using me
 obtain⟨rfl,rfl⟩:=e0;have e1:ms.fst=.own s0 m1/\rx.1=hs:=by simpa [focus] using z_
 have e2:ms.snd.fst=.own s1 m2/\rx.2.1=ns:=by simpa [focus] using mg
 obtain⟨e1,rfl⟩:=e1;obtain⟨e2,rfl⟩:=e2;dsimp only at q2 hd nt;simp only[a_,ay,aJ]at nt;obtain⟨hbase,hC⟩:=nt;obtain⟨_,cs0,Aq,kR,uD⟩:=q4 b0 j6 rfl;simp only[ag]at q2;obtain⟨ca,cb,Fa,Fb,rfl,yB,⟨cc,cd,Fc,Fd,rfl,yC,rfl,_⟩,_⟩:=q2;have AI:=ag.width _ yB;have OF:=ag.width _ yC;replace AI:ca.length=1:=AI;replace OF:cc.length=1:=OF;simp only[Tr.dec]at hd;split at hd
 .rename_i ur;replace ur:=jG ur;subst ur;split at hd
  .rename_i hl;rw[aO]at hl;have l0:(0:Int)<=l:=jG hl.1;have l1:l<(List.length rx.1:Int):=jG hl.2;obtain⟨l,rfl⟩:=w4 l0;have vC:l<List.length rx.1:=xI.1 l1;rw[e1]at yB;obtain⟨bh,cap,RA,rfl,hcap,jY,hsz,_⟩:=NM yB vC;have hin:bO DZ rx [.fst,.idx (Int.toNat (l:Int)) s0]:=⟨by rw[dR];exact vC,trivial⟩
   have ju:=jY;obtain⟨F_,lo,hi,he,_⟩:=ju;have cz:a_ w.heap DZ (g.C r) (g.base r) [.fst,.idx (Int.toNat (l:Int)) s0]=some (some (bh,l),sub RA l 1):=by rw[hC,hbase,dR];simp[a_,Ty.width,he]
   obtain⟨rfl,uF,hpost⟩:=Ql st Es hin hd cz;refine(VI b0 j6 bh _ cap l x w (NC Aq ?_) vC hcap uF).mono ?_
   .have:=NN (i:=0) uD (by simp);rw[iG]at this;rw[this];rfl
   .rintro e w' ⟨rfl,rfl⟩;exact⟨true,_,_,Ev,hpost⟩
  .simp at hd
 .rename_i ur;replace ur:=of_decide_eq_false ur;split at hd
  .rename_i zV;rw[aO]at zV;have a0:(0:Int)<=a:=jG zV.1;have a1:a<(List.length rx.2.1:Int):=jG zV.2;obtain⟨a,rfl⟩:=w4 a0;have Gl:a<List.length rx.2.1:=xI.1 a1;split at hd
   .rename_i s2 m3 xs Sh;simp only[Tr.dec]at hd;split at hd
    .rename_i hl;rw[aO]at hl;have l0:(0:Int)<=l:=jG hl.1;have l1:l<(List.length xs:Int):=jG hl.2;obtain⟨l,rfl⟩:=w4 l0;have vC:l<List.length xs:=xI.1 l1;rw[e2]at yC;obtain⟨bn,FW,RB,rfl,z4,Ar,SA,G,Ec⟩:=NM yC Gl;have e3:m2.snd.fst=.own s2 m3/\(List.getD rx.2.1 a Rj.zero).2.1=xs:=by simpa [focus,e2] using Sh
     obtain⟨e3,rfl⟩:=e3;simp only[ag]at Ec;obtain⟨ce,cf,Fe,Ff,hce,rfl,⟨cg,ch,Fg,Fh,rfl,Ee,rfl,_⟩,_⟩:=Ec;rw[e3]at Ee;obtain⟨bx,FX,RC,rfl,z6,GX,SB,_⟩:=NM Ee vC;have hin:bO DZ rx [.snd,.fst,.idx (Int.toNat (a:Int)) s1,.snd,.fst,.idx (Int.toNat (l:Int)) s2]:=by rw[dR,dR];exact⟨Gl,vC,trivial⟩
     have As:=Ar;obtain⟨F_,lo,hi,he,_⟩:=As;have At:=GX;obtain⟨RN,WI,hi2,nu,_⟩:=At;have cz:a_ w.heap DZ (g.C r) (g.base r) [.snd,.fst,.idx (Int.toNat (a:Int)) s1,.snd,.fst,.idx (Int.toNat (l:Int)) s2]=some (some (bx,l),sub RC l 1):=by rw[hC,hbase,dR,dR];replace hce:sub RB (a * 2) 2=_:=hce;simp[a_,Ty.width,he,hce,nu,AI]
     obtain⟨rfl,uF,hpost⟩:=Ql st Es hin hd cz;refine(VJ b0 j6 bn _ FW bx _ FX a l x w (NC Aq ?_) Gl z4 (NC Ar ?_) vC z6 uF).mono ?_
     .have:=NN (i:=1) uD (by simp[AI]);rw[this,fW (by omega),AI];rfl
     .have:=NN (i:=1) hce (by decide);exact this
     .rintro e w' ⟨rfl,rfl⟩;exact⟨true,_,_,Ev,hpost⟩
    .simp at hd
   .simp[Tr.dec]at hd
  .simp at hd
end Go.V
namespace Go.V
noncomputable section
open Go Go.Proofs Go.RowKit Go.ChangeShapes
structure Ext where
 den:Den ctx
 is:FuncId->Bool
 ok:∀f,is f=true->u7 Try.prog ctx den f
 call:∀f a r,is f=true->den f a=some r->vQ Try.prog f
noncomputable def DD(X:Ext)(n:Nat):Den ctx:=Dn ctx X.den X.is (fun g=>Try.prog.funcs[g]?) n
theorem Kv(X:Ext)(n:Nat):oA Try.prog ctx (DD X n):=BU BX yf X.ok X.call Ko VY n
theorem J6(X:Ext){g:FuncId}{fn:Func}(hf:Try.prog.funcs[g]? = some fn)(ht:rJ g=some fn)(hx:X.is g=false)(n:Nat)(a:eF (ctx.sig g).params) :
  DD X (n+1) g a=FN rJ (DD X n) n g a:=by
 have:=Kc rJ (DD X n) n g a;rw[ht]at this;rw[<-this];unfold DD;simp only[Dn,hx,cL,bY,hf]
def nO:Ext:=⟨fun _ _=>none,fun _=>false,fun _ h=>by simp at h,fun _ _ _ h=>by simp at h⟩
section
variable {H:Type} {enc:TypeId×Value->H} {P:Program}
theorem B6(hl:laidOutB P=true){W W':World}(hb:Below W.heap.size W W'):∀{ts:List TypeId}{vs:List Value}{ds:List (DataW H)}{ps:List MemPlace},
  ts.all (fun t=>P.readableRec t&&Nat.blt t P.types.size)=true->DataW.TrodAll enc P W 0 (fun _=>true) true ts vs ds ps->(∀x∈ps,x.block<W.heap.size)->
  DataW.TrodAll enc P W' 0 (fun b=>decide (b<W.heap.size)) true ts vs ds ps
 | [],_,_,_,_,h,_=>by
  obtain⟨rfl,rfl,rfl⟩:=trodAll_nil h;exact trodAll_mk0
 | t::ts,_,_,_,ht,h,hlt=>by
  obtain⟨v,Wl,d,Wv,a,b,rfl,rfl,rfl,h1,h2⟩:=trodAll_cons h;simp only[eU,aO]at ht;exact⟨a,b,Below.trod hl ht.1.1 (jx.1 ht.1.2) h1 hb (fun x hx=>hlt x (by simp[hx])),B6 hl hb ht.2 h2 (fun x hx=>hlt x (by simp[hx])),rfl⟩
end
theorem laid:laidOutB Try.prog=true:=by kernel_rfl
theorem I6:ownKnob Try.prog.godebug=none:=by kernel_rfl
theorem IJ{H:Type}{enc:TypeId×Value->H}{X:Ext}{f:FuncId}{fn:Func}{s:ChangeSpec}{conds:List PathCond}{tb:TypeId}{os:Os}(started:os.Started)
  (hfn:Try.prog.funcs[f]? = some fn) (Ac:Try.prog.inits.idxOf? f=none)
  (witness:∃(w:World)(tape:Tape)(i:Input),w.os=os/\(w.forCall tape i).Shaped Try.prog/\i.vars=[]/\Input.okWide Try.prog (w.forCall tape i) .any w.heap.size f i/\
   s.pre6 enc Try.prog fn conds false (w.forCall tape i).memory i.args/\Assume.holds {} Try.prog (lone (Frame.enter Try.prog f i.args .normal) [] (w.forCall tape i)))
  (hps:rP fn.params.toList (ctx.sig f).params ctx) (hrd:fn.params.toList.all (fun t=>Try.prog.readableRec t&&Nat.blt t Try.prog.types.size)=true)
  (hres:fn.resultTypes = #[tb]) (htb:Try.prog.underlying tb=some .bool) (hvars:s.vars=[])
  (AB:∀ds:List (DataW H),ds.length=fn.params.size->(s.fn H ds).results=[.lit (.bool true)]/\(s.fn H ds).args=ds/\(s.fn H ds).vars=[])
  (GJ:∀a,tA (ctx.sig f).params a->∃n r,DD X n f a=some r/\∀h Pr Gs us,gO h Pr Gs 0 (ctx.sig f).res r.1 us->us=[.bool true]) :
  ReturnsInHanded {} Try.checked os f .any (s.pre6 enc Try.prog fn conds false) (s.post enc Try.prog fn false true false false):=by
 refine returnsInHanded_of_change_sized (C:=Try.checked) I6 started Ac hfn witness ?_;intro W base args ds gs before hval hW jt hsz _;have R4:=hW;have hlt:=hW.lt;obtain⟨p,q,hA,hV,rfl,hfz,Oz⟩:=hW;rw[hvars]at hV;obtain⟨rfl,rfl⟩:=trodVars_none hV;obtain⟨a,wa,ra⟩:=Db BX fn.params.toList (ctx.sig f).params args.toList ds p 0 hps hA (fun j t v ht hv=>hval j t v (by simpa using ht) (by simpa using hv));obtain⟨n,r,hr,hb⟩:=GJ a wa;have pre:Pre W.heap (Old W) (fun _=>Nil) (ctx.sig f).params a args.toList:=
  ⟨ra,fun _ _ _=>bz.nil _,fun _=>bz.nil _,fun _ b hb=>hb.elim,fun b hb=>hb⟩
 have hc:=(Kv X n).ok f a r hr W (Old W) (fun _=>Nil) args.toList pre;rw[jE]at hc;refine hc.mono ?_;rintro e W' ⟨val,dD,Gs,Os,us,rfl,ps⟩;obtain rfl:=hb _ _ _ _ ps.res;have hv:=ps.val;simp only[m7]at hv;subst hv;have N5:=IT ps.fr;obtain⟨e1,e2,e3⟩:=AB (ds++[]) (by rw[wE,(trodAll_length hA).2,dH]);refine⟨_,rfl,ds,[],p++[],[],p,[],R4,?_,?_,?_,N5.frame _,fun h=>by cases h⟩
 .rw[e1,hres];exact trodAll_mk1 (shut_bool htb _)
 .rw[e2,wE];exact B6 laid N5 hrd hA (fun x hx=>hlt x (by simp[hx]))
 .rw[e3,hvars];rfl
end
end Go.V

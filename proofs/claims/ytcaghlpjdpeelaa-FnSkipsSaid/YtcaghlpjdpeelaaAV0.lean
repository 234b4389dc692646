import Derived.Calls
import Derived.Deep.MidRow
import Derived.Laws.MakeOwn
import Derived.Orders
set_option linter.unusedVariables false
set_option linter.unusedSimpArgs false
set_option linter.unusedSectionVars false
namespace Go
abbrev ay:=@Option.some.injEq
abbrev aJ:=@Prod.mk.injEq
abbrev aO:=@Bool.and_eq_true
abbrev bD:=@Option.bind_eq_some_iff
abbrev ax:=@if_neg
abbrev aE:=@if_pos
abbrev d_:=@List.mem_cons_of_mem
abbrev ef:=@List.mem_cons_self
abbrev dR:=@Int.toNat_natCast
abbrev dw:=@List.mem_append
abbrev aK:=@if_true
abbrev cq:=@Nat.mul_le_mul_right
abbrev c5:=@Option.map_eq_some_iff
abbrev bX:=@Option.bind_some
abbrev bJ:=@decide_eq_true
abbrev cL:=@Bool.false_eq_true
abbrev cS:=@List.length_append
abbrev cr:=@Option.map_some
abbrev di:=@List.getElem?_take
abbrev dH:=@Array.length_toList
abbrev bN:=@Nat.le_refl
abbrev fo:=@List.getElem?_append_left
abbrev dW:=@List.getElem?_drop
abbrev c6:=@decide_eq_false
abbrev dj:=@List.cons.injEq
abbrev fW:=@List.getElem?_append_right
abbrev dX:=@List.length_take
abbrev cT:=@Bool.not_true
abbrev cU:=@List.mem_cons
abbrev dn:=@List.map_cons
abbrev gv:=@List.getElem?_eq_getElem
abbrev fe:=@List.append_assoc
abbrev bY:=@if_false
abbrev fu:=@decide_eq_true_eq
abbrev fy:=@List.getElem_mem
abbrev eU:=@List.all_cons
abbrev gk:=@List.mem_singleton
abbrev fz:=@List.drop_left'
abbrev iB:=@decide_eq_false_iff_not
abbrev iC:=@List.length_eq_zero_iff
abbrev g8:=@Nat.eq_of_beq_eq_true
abbrev fL:=@List.take_left'
abbrev gw:=@Bool.not_eq_true'
abbrev fX:=@Bool.or_eq_true
abbrev iD:=@List.getElem?_eq_none
abbrev kj:=@Array.getD_eq_getD_getElem?
abbrev fY:=@Bool.not_false
abbrev fl:=@Nat.add_mul
abbrev jg:=@List.mem_iff_getElem
abbrev jC:=@Bool.and_eq_false_iff
abbrev jD:=@List.length_replicate
abbrev g9:=@List.length_cons
abbrev lC:=@Array.getElem?_eq_some_iff
abbrev lD:=@Int.tmod_eq_emod_of_nonneg
abbrev fZ:=@List.mem_map
abbrev mM:=@List.take_append_of_le_length
abbrev lE:=@Array.getElem?_eq_getElem
abbrev jE:=@Array.toArray_toList
abbrev jh:=@List.pairwise_cons
abbrev lG:=@Option.isSome_iff_exists
abbrev iE:=@List.cons_append
abbrev gl:=@Nat.succ_mul
abbrev ko:=@Nat.ble_eq_true_of_le
abbrev lH:=@List.drop_eq_nil_of_le
abbrev jF:=@List.getElem?_set
abbrev jG:=@of_decide_eq_true
abbrev lI:=@Nat.le_of_ble_eq_true
abbrev lJ:=@List.take_append_drop
abbrev lK:=@Array.getElem?_toList
abbrev iF:=@List.drop_zero
abbrev mN:=@Classical.axiomOfChoice
abbrev g_:=@Nat.zero_add
abbrev kq:=@List.ext_getElem?
abbrev mO:=@List.length_singleton
abbrev iG:=@Nat.add_zero
abbrev f_:=@and_true
abbrev kr:=@List.length_set
abbrev mP:=@List.map_congr_left
abbrev n6:=@List.take_of_length_le
abbrev lM:=@List.all_eq_true
abbrev qQ:=@Classical.byContradiction
abbrev ji:=@Nat.zero_le
abbrev jH:=@Nat.le_trans
abbrev lN:=@List.nil_append
abbrev lO:=@List.length_map
abbrev uh:=@List.drop_append_of_le_length
abbrev lP:=@List.drop_drop
abbrev mQ:=@Array.mem_append
abbrev jj:=@Array.ext'
abbrev kz:=@List.map_nil
abbrev mR:=@List.headD_cons
abbrev hJ:=@Eq.trans
abbrev qR:=@List.pairwise_append
abbrev jI:=@cond_false
abbrev uj:=@List.mem_or_eq_of_mem_set
abbrev n7:=@List.length_drop
abbrev n8:=@Option.getD_some
abbrev qS:=@List.getD_cons_zero
abbrev uk:=@List.getElem?_replicate
abbrev n9:=@List.foldl_cons
abbrev ru:=@cond_true
abbrev nF:=@List.take_take
abbrev xD:=@Array.getElem?_setIfInBounds
abbrev mE:=@Nat.mul_comm
abbrev xV:=@List.mem_zipIdx_iff_getElem?
abbrev sM:=@Array.getElem?_push
abbrev wN:=@List.getElem?_eq_some_iff
abbrev wZ:=@List.pairwise_iff_getElem
abbrev NU:=@List.Pairwise.imp_of_mem
abbrev AZ:=@List.drop_take
abbrev w4:=@Int.eq_ofNat_of_zero_le
abbrev xE:=@Array.getElem?_eq_none
abbrev Ct:=@Array.all_eq_true_iff_forall_mem
abbrev HS:=@List.mem_iff_getElem?
abbrev wO:=@Array.mem_of_getElem?
abbrev xg:=@List.mem_of_mem_erase
abbrev sN:=@Nat.min_eq_left
abbrev xh:=@List.contains_eq_mem
abbrev jw:=@not_or
abbrev w5:=@Array.mem_toList_iff
abbrev sO:=@List.map_append
abbrev sk:=@List.nodup_cons
abbrev pE:=@Nat.one_mul
abbrev xF:=@Array.foldl_toList
abbrev Cz:=@Array.toList_setIfInBounds
abbrev tw:=@Bool.and_self
abbrev xW:=@Bool.not_eq_false
abbrev xX:=@List.getElem?_map
abbrev wB:=@List.length_range
abbrev Bx:=@List.extract_eq_take_drop
abbrev C2:=@List.drop_eq_getElem_cons
abbrev wC:=@List.drop_append
abbrev sP:=@Nat.lt_or_ge
abbrev nN:=@true_and
abbrev xY:=@Array.toList_inj
abbrev xG:=@List.ext_getElem
abbrev CA:=@List.length_erase_of_mem
abbrev By:=@List.filter_cons_of_pos
abbrev wD:=@List.foldr_cons
abbrev xZ:=@Option.map_none
abbrev x8:=@Nat.div_add_mod
abbrev wE:=@List.append_nil
abbrev sn:=@decide_true
abbrev Bz:=@List.filter_eq_nil_iff
abbrev CB:=@Array.getElem?_modify
abbrev x9:=@Nat.mul_le_mul
abbrev wG:=@List.tail_cons
abbrev C3:=@List.erase_of_not_mem
abbrev C4:=@List.set_append_right
abbrev so:=@Nat.mod_lt
abbrev wm:=@Nat.add_assoc
abbrev wo:=@Nat.lt_irrefl
abbrev HL:=@decide_false
abbrev wq:=@Nat.le_of_lt
abbrev xH:=@List.map_map
abbrev xI:=@Int.ofNat_lt
end Go
namespace Go.V
open Go
inductive Ty where
 | unit | int (k:IntKind) | bool | str | sl (t:Ty) | pair (a b:Ty)
 deriving DecidableEq
@[reducible] def Ty.den:Ty->Type
 | .unit=>Unit
 | .int _=>Int
 | .bool=>Bool
 | .str=>ByteArray
 | .sl t=>List t.den
 | .pair a b=>a.den×b.den
def Ty.width:Ty->Nat
 | .unit=>0
 | .int _=>1
 | .bool=>1
 | .str=>1
 | .sl _=>1
 | .pair a b=>a.width+b.width
def Ty.zero:(t:Ty)->t.den
 | .unit=>()
 | .int _=>0
 | .bool=>false
 | .str=>ByteArray.empty
 | .sl _=>[]
 | .pair a b=>(a.zero,b.zero)
def Ty.agg:Ty->Bool
 | .unit=>true
 | .pair _ _=>true
 | _=>false
inductive Mk where
 | no | gone | own (s:Nat) (m:Mk) | pr (a b:Mk)
 deriving DecidableEq
def Mk.fst:Mk->Mk
 | .pr a _=>a
 | .gone=>.gone
 | _=>.no
def Mk.snd:Mk->Mk
 | .pr _ b=>b
 | .gone=>.gone
 | _=>.no
def Mk.whole:Mk->Bool
 | .no=>true
 | .gone=>false
 | .own _ m=>m.whole
 | .pr a b=>a.whole&&b.whole
def Mk.still:Mk->Bool
 | .no=>true
 | .gone=>false
 | .own _ _=>false
 | .pr a b=>a.still&&b.still
def Mk.stamp(s:Nat):Mk->Mk
 | .no=>.no
 | .gone=>.gone
 | .own s0 m=>.own (if s0<1048576 then s else s0) (m.stamp s)
 | .pr a b=>.pr (a.stamp s) (b.stamp s)
def Mk.cZ:Mk->Mk
 | .pr a b=>.pr a.cZ b.cZ
 | .gone=>.gone
 | .own _ m=>if m.whole then .no else .gone
 | .no=>.no
def Mk.meet:Mk->Mk->Mk
 | .no,x=>x.cZ
 | .gone,_=>.gone
 | .own _ a,x=>
  match x with
  | .own s b=>.own s (a.meet b)
  | .no=>if a.whole then .no else .gone
  | _=>.gone
 | .pr a b,x=>
  match x with
  | .pr c d=>.pr (a.meet c) (b.meet d)
  | .no=>.pr (a.meet .no) (b.meet .no)
  | _=>.gone
def Mk.top:Ty->Mk
 | .sl t=>.own 0 (Mk.top t)
 | .pair a b=>.pr (Mk.top a) (Mk.top b)
 | _=>.no
def Mk.mJ:Ty->Mk
 | .pair (.sl _) b=>.pr .no (Mk.mJ b)
 | .pair a b=>.pr (Mk.top a) (Mk.mJ b)
 | t=>Mk.top t
def Mk.rR(hint:Bool)(t:Ty):Mk:=if hint then Mk.mJ t else Mk.top t
def Mk.aG:(want Ok:Mk)->Bool
 | .gone,_=>true
 | .no,h=>h.whole
 | .own _ w,.own _ h=>w.aG h
 | .pr a b,.pr c d=>a.aG c&&b.aG d
 | .pr a b,.no=>a.aG .no&&b.aG .no
 | _,_=>false
inductive iP where
 | fst | snd | idx (i:Nat) (s:Nat)
 deriving DecidableEq
abbrev Path:=List iP
def e6:Nat->Path
 | 0=>[.fst]
 | n+1=>.snd::e6 n
def iP.plain:iP->Bool
 | .idx _ _=>false
 | _=>true
structure Dy where
 ty:Ty
 ms:Mk
 x:ty.den
structure aB where
 ty:Ty
 ms:Mk
 x:ty.den
 mem:Bool
inductive gh where
 | val (t:Ty) (x:t.den)
 | bP (t:Ty) (x:t.den)
structure Ei where
 f:FuncId
 caps:List gh
inductive AV where
 | undef
 | skip
 | bA (b:Bool)
 | unit
 | cP
 | val (t:Ty) (x:t.den)
 | bu (r:Nat) (p:Path) (s:Nat)
 | view (r:Nat) (p:Path) (s:Nat) (lo hi:Nat)
 | addr (r:Nat) (p:Path)
 | bq (t:Ty) (x:t.den)
 | pair (a b:AV)
 | fO (a:AV)
 | eV (f:FuncId) (caps:AV)
 | dK (c:Ei)
abbrev aD:=List (Option aB)
structure St where
 sl:List AV
 rt:aD
noncomputable section
def rW{α:Type}(l:List α)(i:Nat)(d:α):α:=
 List.rec (motive:=fun _=>Nat->α) (fun _=>d) (fun a _ ih i=>Nat.rec (motive:=fun _=>α) a (fun j _=>ih j) i) l i
theorem xO{α:Type}(d:α):∀(l:List α)(i:Nat),rW l i d=l.getD i d
 | [],_=>rfl
 | _::_,0=>rfl
 | _::l,i+1=>by show rW l i d=_;rw[xO d l i];rfl
def uc{α:Type}(l:List α)(i:Nat)(v:α):List α:=
 List.rec (motive:=fun _=>Nat->List α) (fun _=>[]) (fun a l ih i=>Nat.rec (motive:=fun _=>List α) (v::l) (fun j _=>a::ih j) i) l i
theorem xK{α:Type}(v:α):∀(l:List α)(i:Nat),uc l i v=l.set i v
 | [],_=>rfl
 | _::_,0=>rfl
 | a::l,i+1=>by show a::uc l i v=_;rw[xK v l i];rfl
def aD.root(S:aD)(r:Nat):Option aB:=rW S r none
def aD.ak(S:aD)(r:Nat)(x:Option aB):aD:=uc S r x
def St.get(S:St)(t:Nat):AV:=rW S.sl t .undef
abbrev St.root(S:St)(r:Nat):Option aB:=S.rt.root r
def St.set(S:St)(t:Nat)(v:AV):St:={ S with sl:=uc S.sl t v }
theorem aD.e8(S:aD)(r:Nat):S.root r=S.getD r none:=xO _ _ _
theorem aD.aY(S:aD)(r:Nat)(x:Option aB):S.ak r x=S.set r x:=xK _ _ _
theorem St.get_eq(S:St)(t:Nat):S.get t=S.sl.getD t .undef:=xO _ _ _
theorem St.ep(S:St)(t:Nat)(v:AV):S.set t v={ S with sl:=S.sl.set t v }:=by unfold St.set;rw[xK]
def St.ak(S:St)(r:Nat)(x:Option aB):St:={ S with rt:=S.rt.ak r x }
def qbv(a b:Ty)(x:a.den):Option b.den:=if h:a=b then some (h ▸ x) else none
def focus:(t:Ty)->Mk->t.den->Path->Option Dy
 | t,m,x,[]=>some ⟨t,m,x⟩
 | .pair a _,m,x,.fst::p=>focus a m.fst x.1 p
 | .pair _ b,m,x,.snd::p=>focus b m.snd x.2 p
 | .sl t,.own s m,xs,.idx i s'::p=>if s=s' then focus t m (xs.getD i t.zero) p else none
 | _,_,_,_::_=>none
def put:(t:Ty)->Mk->t.den->Path->(t2:Ty)->Mk->t2.den->Option (Mk×t.den)
 | t,_,_,[],t2,m2,y=>(qbv t2 t y).bind fun y=>some (m2,y)
 | .pair a b,m,x,.fst::p,t2,m2,y=>(put a m.fst x.1 p t2 m2 y).bind fun r=>some (.pr r.1 m.snd,(r.2,x.2))
 | .pair a b,m,x,.snd::p,t2,m2,y=>(put b m.snd x.2 p t2 m2 y).bind fun r=>some (.pr m.fst r.1,(x.1,r.2))
 | .sl t,.own s m,xs,.idx i s'::p,t2,m2,y=>
  if s=s' then (put t m (xs.getD i t.zero) p t2 m2 y).bind fun r=>some (.own s (m.meet r.1),xs.set i r.2) else none
 | _,_,_,_::_,_,_,_=>none
def gV:Ty->Mk->Path->Mk->Option Mk
 | _,_,[],m2=>some m2
 | .pair a _,m,.fst::p,m2=>(gV a m.fst p m2).bind fun r=>some (.pr r m.snd)
 | .pair _ b,m,.snd::p,m2=>(gV b m.snd p m2).bind fun r=>some (.pr m.fst r)
 | .sl t,.own s m,.idx _ s'::p,m2=>if s=s' then (gV t m p m2).bind fun r=>some (.own s (m.meet r)) else none
 | _,_,_::_,_=>none
def bL(r:Nat):(t:Ty)->Mk->t.den->Path->AV
 | .unit,_,_,_=>.unit
 | .pair a b,m,x,p=>if m.still then .val (.pair a b) x else .pair (bL r a m.fst x.1 (p++[.fst])) (bL r b m.snd x.2 (p++[.snd]))
 | .sl t,.own s _,_,p=>.bu r p s
 | .sl _,.gone,_,_=>.undef
 | t,_,x,_=>.val t x
def aD.focus(S:aD)(r:Nat)(p:Path):Option Dy:=
 match S.root r with
 | some R=>V.focus R.ty R.ms R.x p
 | none=>none
abbrev St.focus(S:St)(r:Nat)(p:Path):Option Dy:=S.rt.focus r p
def rd(S:aD):(t:Ty)->AV->Option t.den
 | t,.val t' x=>qbv t' t x
 | .unit,.unit=>some ()
 | .bool,.bA b=>some b
 | .sl _,.cP=>some []
 | .sl t,.bu r p s=>
  match S.focus r p with
  | some ⟨.sl t',.own s' m,xs⟩=>if s=s'/\m.whole then qbv (.sl t') (.sl t) xs else none
  | _=>none
 | .pair a b,.pair u v=>(rd S a u).bind fun x=>(rd S b v).bind fun y=>some (x,y)
 | _,_=>none
def tk(S:aD):(t:Ty)->AV->Option (Mk×t.den×aD)
 | t,.val t' x=>(qbv t' t x).bind fun x=>some (.no,x,S)
 | .unit,.unit=>some (.no,(),S)
 | .bool,.bA b=>some (.no,b,S)
 | .sl t,.cP=>some (Mk.top (.sl t),[],S)
 | .sl t,.bu r p s=>
  match S.root r with
  | some R=>
   match V.focus R.ty R.ms R.x p with
   | some ⟨.sl t',.own s' m,xs⟩=>
    if s=s' then
     (qbv (.sl t') (.sl t) xs).bind fun xs=>
     (gV R.ty R.ms p .gone).bind fun m'=>
     some (.own s' m,xs,S.ak r (some { R with ms:=m' }))
    else none
   | _=>none
  | none=>none
 | .pair a b,.pair u v=>(tk S a u).bind fun x=>(tk x.2.2 b v).bind fun y=>some (.pr x.1 y.1,(x.2.1,y.2.1),y.2.2)
 | _,_=>none
def tq(S:aD):AV->Option Ty
 | .val t _=>some t
 | .bA _=>some .bool
 | .unit=>some .unit
 | .bu r p _=>(S.focus r p).bind fun d=>some d.ty
 | .pair a b=>(tq S a).bind fun x=>(tq S b).bind fun y=>some (.pair x y)
 | _=>none
def share(S:aD)(t:Ty)(v:AV):Option (t.den×aD):=
 (tk S t v).bind fun x=>some (x.2.1,x.2.2)
def Ty.nz:Ty->Bool
 | .unit=>false
 | _=>true
def qx:Path->Bool
 | []=>false
 | .idx _ _::_=>true
 | _::p=>qx p
def AV.eL(d:Nat):AV->Bool
 | .addr r p=>!(Nat.beq r d)||qx p
 | .pair a b=>a.eL d&&b.eL d
 | .fO a=>a.eL d
 | .eV _ a=>a.eL d
 | _=>true
def Mk.af:Mk->Bool
 | .own s m=>Nat.blt s 1048576&&m.af
 | .pr a b=>a.af&&b.af
 | _=>true
def AV.roots:AV->List Nat
 | .bu r _ _=>[r]
 | .view r _ _ _ _=>[r]
 | .addr r _=>[r]
 | .pair a b=>a.roots++b.roots
 | .fO a=>a.roots
 | .eV _ c=>c.roots
 | _=>[]
def mD(d:Nat):Nat->List AV->Bool
 | _,[]=>true
 | i,v::l=>(Nat.beq i d||!(v.roots.contains d))&&mD d (i+1) l
def v5(d:Nat):Nat->List AV->Bool
 | _,[]=>true
 | i,v::l=>(Nat.beq i d||v.eL d)&&v5 d (i+1) l
inductive PK where
 | val (t:Ty)
 | own (t:Ty) (m:Mk)
 | bS (t:Ty) (m m':Mk)
 | cD (t:Ty) (m m':Mk)
 | bP (t:Ty)
 | fn
inductive RK where
 | val (t:Ty) (m:Mk)
 | ptr (t:Ty) (m:Mk)
structure oF where
 params:List PK
 res:List RK
@[reducible] def PK.den:PK->Type
 | .val t | .own t _ | .bS t _ _ | .cD t _ _ | .bP t=>t.den
 | .fn=>Ei
@[reducible] def RK.den:RK->Type
 | .val t _ | .ptr t _=>t.den
@[reducible] def eF:List PK->Type
 | []=>Unit
 | k::ks=>k.den×eF ks
@[reducible] def dU:List RK->Type
 | []=>Unit
 | k::ks=>k.den×dU ks
@[reducible] def bV:List PK->Type
 | []=>Unit
 | .bS t _ _::ks | .cD t _ _::ks=>t.den×bV ks
 | _::ks=>bV ks
structure Hints where
 keep:List (Nat×List Nat×List Nat×List Nat):=[]
 share:List (Nat×Nat):=[]
 outs:List (Nat×Nat):=[]
structure Ctx where
 ty:TypeId->Ty
 sig:FuncId->oF
 hints:FuncId->Hints
 jB:FuncId->Bool
abbrev Den(C:Ctx):=(g:FuncId)->eF (C.sig g).params->Option (dU (C.sig g).res×bV (C.sig g).params)
def gf(lo hi:Nat):Path->Bool
 | []=>true
 | .idx _ s::p=>!(Nat.ble lo s&&Nat.blt s hi)&&gf lo hi p
 | _::p=>gf lo hi p
@[reducible] def fP:List PK->Type
 | []=>Unit
 | .own t _::ks=>t.den×fP ks
 | _::ks=>fP ks
inductive Tr (α:Type):Type 1 where
 | ret (a:α)
 | fail
 | br (c:Bool) (x y:Tr α)
 | nil (n:Nat) (neg:Bool) (f:Bool->Tr α)
 | call {β:Type} (x:Option β) (f:β->Tr α)
def br{R:Type}(c:Bool)(a b:Option R):Option R:=
 match c with
 | true=>a
 | false=>b
def qd{α R:Type}(x:Option α)(f:α->Option R):Option R:=x.bind f
noncomputable def both{R:Type}(x y:Option R):Option R:=
 match x,y with
 | some a,some b=>open Classical in if a=b then some a else none
 | _,_=>none
noncomputable def vN{R:Type}(n:Nat)(neg:Bool)(k:Bool->Option R):Option R:=
 V.br (decide (n=0)) (both (k true) (k false)) (k neg)
noncomputable def Tr.run{α R:Type}(k:α->Option R):Tr α->Option R
 | .ret a=>k a
 | .fail=>none
 | .br c x y=>V.br c (x.run k) (y.run k)
 | .nil n neg f=>vN n neg fun b=>(f b).run k
 | .call x f=>qd x fun b=>(f b).run k
def Tr.dec{α:Type}(β:Bool):Tr α->Option α
 | .ret a=>some a
 | .fail=>none
 | .br c x y=>match c with
  | true=>x.dec β
  | false=>y.dec β
 | .nil n neg f=>(f (if n=0 then β else neg)).dec β
 | .call x f=>x.bind fun b=>(f b).dec β
theorem Tr.fm{α R:Type}{k:α->Option R}{r:R}(β:Bool):∀(t:Tr α),t.run k=some r->∃a,t.dec β=some a/\k a=some r
 | .ret a,h=>⟨a,rfl,h⟩
 | .fail,h=>by simp[Tr.run]at h
 | .br c x y,h=>by
  cases c with
  | true=>exact Tr.fm β x h
  | false=>exact Tr.fm β y h
 | .nil n neg f,h=>by
  simp only[Tr.run,vN]at h;simp only[Tr.dec];by_cases e:n=0
  .simp only[e,sn,V.br,aK]at h⊢;unfold both at h;split at h
   .rename_i a b h1 h2;split at h
    .rename_i hab;subst hab;simp only[ay]at h;subst h;cases β with
     | true=>exact Tr.fm true _ h1
     | false=>exact Tr.fm false _ h2
    .simp at h
   .simp at h
  .simp only[e,HL,V.br,bY]at h⊢;exact Tr.fm β _ h
 | .call x f,h=>by
  simp only[Tr.run,qd]at h;cases x with
  | none=>simp at h
  | some b=>simp only[bX]at h;obtain⟨a,h1,h2⟩:=Tr.fm β (f b) h;exact⟨a,by simpa [Tr.dec] using h1,h2⟩
def Tr.of{α:Type}:Option α->Tr α
 | some a=>.ret a
 | none=>.fail
def AV.flat:AV->AV
 | .bA b=>.val .bool b
 | v=>v
def sS:Value->AV
 | .bool b=>.val .bool b
 | .int k n=>.val (.int k) n
 | .string s=>.val .str s
 | .slice none 0 0=>.cP
 | _=>.undef
def ev(S:St):Operand->AV
 | .tmp t=>(S.get t).flat
 | .const v=>sS v
 | .func f=>.eV f .unit
 | .global _=>.undef
def oy:AV->Option (IntKind×Int)
 | .val (.int k) n=>some (k,n)
 | _=>none
def asBool:AV->Option Bool
 | .val .bool b=>some b
 | .bA b=>some b
 | _=>none
def tT:(t:Ty)->t.den->t.den->Bool
 | .unit,_,_=>true
 | .int _,x,y=>x == y
 | .bool,x,y=>x == y
 | .str,x,y=>x.toList == y.toList
 | .sl _,_,_=>false
 | .pair a b,x,y=>tT a x.1 y.1&&tT b x.2 y.2
def Ty.comp:Ty->Bool
 | .sl _=>false
 | .pair a b=>a.comp&&b.comp
 | _=>true
def wu(T:Ty)(op:BinOp)(u:Ty)(x:u.den)(t:Ty)(y:t.den):Tr AV:=
 if u.comp/\T=u then
  match op,qbv t u y with
  | .eql,some y=>.ret (.val .bool (tT u x y))
  | .neq,some y=>.ret (.val .bool (!(tT u x y)))
  | _,_=>.fail
 else .fail
def gC(T:Ty)(op:BinOp)(x y:AV):Tr AV:=
 match x,y with
 | .val (.int ka) a,.val (.int kb) b=>
  match op with
  | .shl=>.br (decide (b<0)) .fail (.ret (.val (.int ka) (ka.wrap (a * 2 ^ (min b.toNat ka.bits)))))
  | .shr=>.br (decide (b<0)) .fail (.ret (.val (.int ka) (a.fdiv (2 ^ (min b.toNat ka.bits)))))
  | .add=>if ka=kb then .ret (.val (.int ka) (ka.wrap (a+b))) else .fail
  | .sub=>if ka=kb then .ret (.val (.int ka) (ka.wrap (a-b))) else .fail
  | .mul=>if ka=kb then .ret (.val (.int ka) (ka.wrap (a * b))) else .fail
  | .quo=>if ka=kb then (.br (decide (b=0)) .fail (.ret (.val (.int ka) (ka.wrap (a.tdiv b))))) else .fail
  | .rem=>if ka=kb then (.br (decide (b=0)) .fail (.ret (.val (.int ka) (a.tmod b)))) else .fail
  | .and=>if ka=kb then .ret (.val (.int ka) (ka.wrap (BitVec.ofInt ka.bits a &&&BitVec.ofInt ka.bits b).toNat)) else .fail
  | .or=>if ka=kb then .ret (.val (.int ka) (ka.wrap (BitVec.ofInt ka.bits a |||BitVec.ofInt ka.bits b).toNat)) else .fail
  | .xor=>if ka=kb then .ret (.val (.int ka) (ka.wrap (BitVec.ofInt ka.bits a ^^^ BitVec.ofInt ka.bits b).toNat)) else .fail
  | .andNot=>.fail
  | .eql=>if ka=kb then .ret (.val .bool (a == b)) else .fail
  | .neq=>if ka=kb then .ret (.val .bool (a != b)) else .fail
  | .lss=>if ka=kb then .ret (.val .bool (decide (a<b))) else .fail
  | .leq=>if ka=kb then .ret (.val .bool (decide (a<=b))) else .fail
  | .gtr=>if ka=kb then .ret (.val .bool (decide (a>b))) else .fail
  | .geq=>if ka=kb then .ret (.val .bool (decide (a>=b))) else .fail
 | .val .str a,.val .str b=>
  match op with
  | .add=>.br (decide (a.size+b.size<=2 ^ 47)) (.ret (.val .str (a++b))) .fail
  | .eql=>.ret (.val .bool (a.toList == b.toList))
  | .neq=>.ret (.val .bool (!(a.toList == b.toList)))
  | .lss=>.ret (.val .bool (Op.bytesLess a.toList b.toList))
  | .leq=>.ret (.val .bool (Op.bytesLess a.toList b.toList||a.toList == b.toList))
  | .gtr=>.ret (.val .bool (!(Op.bytesLess a.toList b.toList||a.toList == b.toList)))
  | .geq=>.ret (.val .bool (!(Op.bytesLess a.toList b.toList)))
  | _=>.fail
 | .val .bool a,.val .bool b=>
  if T=.bool then
   match op with
   | .eql=>.ret (.val .bool (a == b))
   | .neq=>.ret (.val .bool (!(a == b)))
   | _=>.fail
  else .fail
 | .val (.pair a b) x,.val t y=>wu T op (.pair a b) x t y
 | _,_=>.fail
def qG(S:aD):AV->Option Int
 | .val (.sl _) xs=>some xs.length
 | .cP=>some 0
 | .bu r p s=>
  match S.focus r p with
  | some ⟨.sl _,.own s' _,xs⟩=>if s=s' then some (xs.length:Int) else none
  | _=>none
 | _=>none
def gj:Nat:=2 ^ 38
def pL(S:aD)(T:Ty)(x i:AV):Tr AV:=
 match oy i with
 | none=>.fail
 | some (_,n)=>
  match x with
  | .val (.sl t) xs=>if T=.sl t then .br (decide (0<=n)&&decide (n<(xs.length:Int))) (.ret (.bq t (xs.getD n.toNat t.zero))) .fail else .fail
  | .bu r p s=>
   match S.focus r p with
   | some ⟨.sl t,.own s' _,xs⟩=>if s=s'/\T=.sl t then (.br (decide (0<=n)&&decide (n<(xs.length:Int))) (.ret (.addr r (p++[.idx n.toNat s]))) .fail) else .fail
   | _=>.fail
  | _=>.fail
def nW(S:aD)(t:Ty):AV->Option AV
 | .bq t' x=>(qbv t' t x).bind fun x=>some (.val t x)
 | .addr r p=>
  match S.focus r p with
  | some d=>if d.ty=t then some (bL r d.ty d.ms d.x p) else none
  | none=>none
 | _=>none
def tJ(S:aD)(T:Ty)(x:AV)(f:Nat):Option AV:=
 match x with
 | .addr r p=>
  match S.focus r p with
  | some d=>if d.ty=T/\(focus d.ty d.ms d.x (e6 f)).isSome then some (.addr r (p++e6 f)) else none
  | none=>none
 | .bq t x=>if t=T then (focus t .no x (e6 f)).bind fun d=>some (.bq d.ty d.x) else none
 | _=>none
def Eg(S:aD)(hint:Bool)(t:Ty)(v:AV):Option (Mk×t.den×aD):=
 (tk S t v).bind fun x=>if hint then (if x.1.whole then some (.no,x.2.1,x.2.2) else none) else some x
def sY(S:aD)(site:Nat)(hint:Bool)(t:Ty)(a v:AV):Option aD:=
 match a with
 | .addr r p=>
  (Eg S hint t v).bind fun x=>
  match x.2.2.root r with
  | some R=>
   (V.focus R.ty R.ms R.x p).bind fun d=>
   if d.ty=t/\x.1.af then
    (put R.ty R.ms R.x p t (x.1.stamp site) x.2.1).bind fun r'=>some (x.2.2.ak r (some { R with ms:=r'.1,x:=r'.2 }))
   else none
  | none=>none
 | _=>none
def jT(S:aD)(t:Ty):Mk×t.den->List (Nat×AV)->Option (Mk×t.den×aD)
 | acc,[]=>some (acc.1,acc.2,S)
 | acc,(i,v)::rest=>
  (focus t acc.1 acc.2 (e6 i)).bind fun d=>
  (tk S d.ty v).bind fun x=>
  (put t acc.1 acc.2 (e6 i) d.ty x.1 x.2.1).bind fun r=>jT x.2.2 t r rest
def m6(S:aD)(t:Ty):Mk×List t.den->List (Nat×AV)->Option (Mk×List t.den×aD)
 | acc,[]=>some (acc.1,acc.2,S)
 | acc,(i,v)::rest=>
  if i<acc.2.length then
   (tk S t v).bind fun x=>m6 x.2.2 t (acc.1.meet x.1,acc.2.set i x.2.1) rest
  else none
def AW:AV->Nat->Option AV
 | .fO (.pair a _),0=>some a
 | .fO (.pair _ b),n+1=>AW (.fO b) n
 | _,_=>none
def qM:(t:Ty)->t.den->AV
 | .unit,_=>.unit
 | .pair a b,x=>.pair (.val a x.1) (qM b x.2)
 | t,x=>.val t x
def pT:AV->AV
 | .val t x=>qM t x
 | .pair a b=>.pair a (pT b)
 | v=>v
def g7(S:aD):AV->Option (List gh)
 | .unit=>some []
 | .pair (.addr r p) rest=>
  match S.focus r p with
  | some d=>if d.ms.whole then (g7 S rest).bind fun l=>some (.bP d.ty d.x::l) else none
  | none=>none
 | .pair (.bq t x) rest=>(g7 S rest).bind fun l=>some (.bP t x::l)
 | .pair (.val t x) rest=>(g7 S rest).bind fun l=>some (.val t x::l)
 | _=>none
def dP(S:aD):(ks:List PK)->List AV->Option (fP ks×aD)
 | [],[]=>some ((),S)
 | .own t m::ks,a::au=>
  (tk S t a).bind fun x=>if m.aG x.1 then (dP x.2.2 ks au).bind fun r=>some ((x.2.1,r.1),r.2) else none
 | .val _::ks,_::au=>dP S ks au
 | .bS _ _ _::ks,_::au=>dP S ks au
 | .cD _ _ _::ks,_::au=>dP S ks au
 | .bP _::ks,_::au=>dP S ks au
 | .fn::ks,_::au=>dP S ks au
 | _,_=>none
def gz:AV->Option (Nat×Path)
 | .bu r p _=>some (r,p)
 | .pair a b=>
  match gz a with
  | some (r,p)=>some (r,p.dropLast)
  | none=>match gz b with
   | some (r,p)=>some (r,p.dropLast)
   | none=>none
 | _=>none
def nR:AV->Path->Bool
 | .bu _ p' _,p=>decide (p'=p)
 | .pair a b,p=>nR a (p++[.fst])&&nR b (p++[.snd])
 | _,_=>true
def ov:List PK->List AV->Bool
  | .cD _ _ _::ks,a::au=>
    (match gz a with
     | some (_,p)=>nR a p
     | none=>true)&&ov ks au
  | _::ks,_::au=>ov ks au
  | _,_=>true
def gn(r:Nat):(t:Ty)->AV->Path->Mk->t.den->Option (Mk×t.den)
 | .pair a b,.pair u v,p,md,xd=>
  (gn r a u (p++[.fst]) md.fst xd.1).bind fun y=>
  (gn r b v (p++[.snd]) md.snd xd.2).bind fun z=>some (.pr y.1 z.1,(y.2,z.2))
 | .sl _,.bu r' p' s,p,md,xd=>
  match md with
  | .own s' m0=>if r=r'/\s=s' then some (.own s' m0,xd) else none
  | _=>none
 | t,.val t' x,_,md,_=>if md.still then (qbv t' t x).bind fun y=>some (.no,y) else none
 | .unit,.unit,_,md,_=>if md.still then some (.no,()) else none
 | _,_,_,_,_=>none
def eC(S:aD):(ks:List PK)->List AV->Option (bV ks×aD)
 | [],[]=>some ((),S)
 | .cD t m _::ks,a::au=>
  match gz a with
  | some (q,p)=>
   match S.root q with
   | some R=>
    (focus R.ty R.ms R.x p).bind fun d=>
    if h:d.ty=t then
     (gn q t a p d.ms (h ▸ d.x)).bind fun x=>if m.aG x.1 then (eC (S.ak q none) ks au).bind fun r=>some ((x.2,r.1),r.2) else none
    else none
   | none=>none
  | none=>none
 | .bS t m _::ks,a::au=>
  match a with
  | .addr q []=>
   match S.root q with
   | some R=>if m.aG R.ms/\R.mem then (qbv R.ty t R.x).bind fun x=>(eC (S.ak q none) ks au).bind fun r=>some ((x,r.1),r.2) else none
   | none=>none
  | _=>none
 | .val _::ks,_::au=>eC S ks au
 | .own _ _::ks,_::au=>eC S ks au
 | .bP _::ks,_::au=>eC S ks au
 | .fn::ks,_::au=>eC S ks au
 | _,_=>none
def fH(S:aD):(ks:List PK)->List AV->fP ks->bV ks->Option (eF ks)
 | [],[],_,_=>some ()
 | .val t::ks,a::au,g,o=>(rd S t a).bind fun x=>(fH S ks au g o).bind fun r=>some (x,r)
 | .bP t::ks,a::au,g,o=>
  match a with
  | .bq t' x=>(qbv t' t x).bind fun x=>(fH S ks au g o).bind fun r=>some (x,r)
  | .addr q p=>
   match S.focus q p with
   | some d=>if d.ms.whole then (qbv d.ty t d.x).bind fun x=>(fH S ks au g o).bind fun r=>some (x,r) else none
   | none=>none
  | _=>none
 | .own _ _::ks,_::au,g,o=>(fH S ks au g.2 o).bind fun r=>some (g.1,r)
 | .bS _ _ _::ks,_::au,g,o=>(fH S ks au g o.2).bind fun r=>some (o.1,r)
 | .cD _ _ _::ks,_::au,g,o=>(fH S ks au g o.2).bind fun r=>some (o.1,r)
 | .fn::ks,a::au,g,o=>
  match a with
  | .eV f caps=>(g7 S caps).bind fun l=>(fH S ks au g o).bind fun r=>some (⟨f,l⟩,r)
  | .dK c=>(fH S ks au g o).bind fun r=>some (c,r)
  | _=>none
 | _,_,_,_=>none
def eD(site r:Nat):(t:Ty)->AV->Path->Mk->t.den->Mk->t.den->Option (Mk×t.den)
 | .pair a b,.pair u v,p,md,xd,m,o=>
  (eD site r a u (p++[.fst]) md.fst xd.1 m.fst o.1).bind fun y=>
  (eD site r b v (p++[.snd]) md.snd xd.2 m.snd o.2).bind fun z=>some (.pr y.1 z.1,(y.2,z.2))
 | .sl _,.bu r' p' s,p,md,_,m,o=>
  match md with
  | .own s' m0=>if r=r'/\s=s'/\m0.af/\(Mk.own s' m0).aG m then some (.own s' (m0.stamp site),o) else none
  | _=>none
 | _,.val _ _,_,md,xd,_,_=>if md.still then some (.no,xd) else none
 | _,.unit,_,md,xd,_,_=>if md.still then some (.no,xd) else none
 | _,_,_,_,_,_,_=>none
def pK(S:aD)(site:Nat)(t:Ty)(a:AV)(m:Mk)(o:t.den):Option aD:=
 match gz a with
 | none=>some S
 | some (r,p)=>
  match S.root r with
  | some R=>
   (focus R.ty R.ms R.x p).bind fun d=>
   if h:d.ty=t then
    (eD site r t a p d.ms (h ▸ d.x) m o).bind fun y=>
    if qx p&&!y.1.af then none else
    (put R.ty R.ms R.x p t y.1 y.2).bind fun r'=>some (S.ak r (some { R with ms:=r'.1,x:=r'.2 }))
   else none
  | none=>none
def PK.plain:PK->Bool
 | .val _ | .bP _ | .fn=>true
 | _=>false
def PK.hO:PK->Bool
 | .own _ _=>true
 | _=>false
def PK.cC:PK->Bool
 | .bS _ _ _ | .cD _ _ _=>true
 | _=>false
def Mk.full:Ty->Mk->Bool
 | .sl t,.own _ m=>m.full t
 | .sl _,_=>false
 | .pair a b,m=>m.fst.full a&&m.snd.full b
 | _,_=>true
def PK.full:PK->Bool
 | .bS t _ m | .cD t _ m=>m.full t
 | _=>true
def RK.full:RK->Bool
 | .val t m | .ptr t m=>m.full t
def oF.full(s:oF):Bool:=s.params.all PK.full&&s.res.all RK.full
def AV.shared:AV->Bool
 | .val _ _ | .unit | .bA _ | .cP | .bq _ _ | .dK _=>true
 | .pair a b=>a.shared&&b.shared
 | .eV _ c=>c.shared
 | _=>false
def iy:List PK->List AV->Bool
 | k::ks,a::au=>(!k.plain||a.shared)&&iy ks au
 | _,_=>true
def xP(ks:List PK):Bool:=
 match ks.filter PK.cC with
 | []=>true
 | [_]=>ks.all fun k=>!k.hO
 | _=>false
def dY(S:aD)(site:Nat):(ks:List PK)->List AV->bV ks->Option aD
 | [],[],_=>some S
 | .bS t _ m'::ks,a::au,o=>
  match a with
  | .addr q []=>if m'.af then dY (S.ak q (some ⟨t,m'.stamp site,o.1,true⟩)) site ks au o.2 else none
  | _=>none
 | .cD t _ m'::ks,a::au,o=>(pK S site t a m' o.1).bind fun S=>dY S site ks au o.2
 | .val _::ks,_::au,o=>dY S site ks au o
 | .own _ _::ks,_::au,o=>dY S site ks au o
 | .bP _::ks,_::au,o=>dY S site ks au o
 | .fn::ks,_::au,o=>dY S site ks au o
 | _,_,_=>none
def RK.ty:RK->Ty
 | .val t _ | .ptr t _=>t
def RK.ms:RK->Mk
 | .val _ m | .ptr _ m=>m
def RK.gI:RK->Bool
 | .ptr _ _=>true
 | _=>false
def fN:List RK->Ty
 | []=>.unit
 | k::ks=>.pair k.ty (fN ks)
def kF:List RK->Mk
 | []=>.no
 | k::ks=>.pr k.ms (kF ks)
def gq:(ks:List RK)->dU ks->(fN ks).den
 | [],_=>()
 | .val _ _::ks,r=>(r.1,gq ks r.2)
 | .ptr _ _::ks,r=>(r.1,gq ks r.2)
structure aZ where
 pq:Bool
 pl:Bool
 fr:Bool
 sh:Bool
def b8(A:aZ)(S:aD)(d:Option Nat)(site:Nat)(t:Ty)(m:Mk)(x:t.den)(mem:Bool):Tr (AV×aD):=
 match d with
 | none=>.ret (.undef,S)
 | some d=>
  if !Nat.blt d S.length||!Nat.blt site 1048576 then .fail
  else if mem then (if A.pq then .ret (.addr d [],S.ak d (some ⟨t,m.stamp site,x,true⟩)) else .fail)
  else if m.still then .ret (.val t x,S)
  else if A.pq||(A.fr&&m.af&&A.pl) then .ret (bL d t (m.stamp site) x [],S.ak d (some ⟨t,m.stamp site,x,false⟩)) else .fail
section ops
variable (C:Ctx) (D:Den C)
def tX(A:aZ)(S:aD)(d:Option Nat)(site:Nat)(ks:List RK)(r:dU ks):Tr (AV×aD):=
 if (kF ks).af&&ks.all (fun k=>!k.gI&&k.ty.nz) then
  match d with
  | none=>.ret (.undef,S)
  | some d=>
   match b8 A S (some d) site (fN ks) (kF ks) (gq ks r) false with
   | .ret (v,S)=>.ret (.fO (pT v),S)
   | _=>.fail
 else .fail
def ig(A:aZ)(S:aD)(d:Option Nat)(site:Nat):(ks:List RK)->dU ks->Tr (AV×aD)
 | [],_=>.ret (.fO .unit,S)
 | [.val t m],r=>if A.sh then (if m.whole then .ret (.val t r.1,S) else .fail) else if m.af then b8 A S d site t m r.1 false else .fail
 | [.ptr t m],r=>if m.af then b8 A S d site t m r.1 true else .fail
 | ks,r=>tX A S d site ks r
def l5(A:aZ)(S:aD)(d:Option Nat)(site:Nat)(g:FuncId)(args:List AV):Tr (AV×aD):=
  match dP S (C.sig g).params args with
  | none=>.fail
  | some (gd,S1)=>
  match eC S1 (C.sig g).params args with
  | none=>.fail
  | some (od,S2)=>
  match fH S2 (C.sig g).params args gd od with
  | none=>.fail
  | some a=>
    if xP (C.sig g).params&&(iy (C.sig g).params args||(C.sig g).full) then
      .call (D g a) fun r=>
        if (C.sig g).params.all (fun k=>!k.cC) then ig A S1 d site (C.sig g).res r.1
        else if A.fr then
          .br (ov (C.sig g).params args)
            (match dY S1 site (C.sig g).params args r.2 with
             | none=>.fail
             | some S3=>ig A S3 d site (C.sig g).res r.1) .fail
        else .fail
    else .fail
def gN(S:aD):List PK->List AV->Option (List AV×aD)
 | [],[]=>some ([],S)
 | .val t::ks,a::au=>
  if a.shared then (gN S ks au).map fun z=>(a::z.1,z.2)
  else match tk S t a with
   | some (m,y,S1)=>if m.whole then (gN S1 ks au).map fun z=>(.val t y::z.1,z.2) else none
   | none=>none
 | _::ks,a::au=>(gN S ks au).map fun z=>(a::z.1,z.2)
 | _,_=>none
def pM(s:oF)(args:List AV):Bool:=!(iy s.params args||s.full)
def zx(S:aD)(r:Nat)(R:aB)(p:Path)(x:Int):Tr (AV×aD):=
 match V.focus R.ty R.ms R.x p,put R.ty R.ms R.x p (.int .i64) .no x with
 | some ⟨.int .i64,.no,_⟩,some y=>.ret (.fO .unit,S.ak r (some { R with ms:=y.1,x:=y.2 }))
 | _,_=>.fail
def zw(S:aD)(args:List AV):Tr (AV×aD):=
  match args with
  | [.addr r [],.val (.int .i64) a,.val (.int .i64) l,.val (.int .i64) x]=>
    match S.root r with
    | some R=>
      match V.focus R.ty R.ms R.x [],V.focus R.ty R.ms R.x [.fst],V.focus R.ty R.ms R.x [.snd,.fst] with
      | some ⟨.pair (.sl (.int .i64)) (.pair (.sl (.pair .str (.pair (.sl (.int .i64)) .unit))) .unit),_,_⟩,some ⟨.sl (.int .i64),.own s0 _,hs⟩,some ⟨.sl (.pair .str (.pair (.sl (.int .i64)) .unit)),.own s1 _,ns⟩=>
        .br (decide (a = -1))
          (.br (decide (0<=l)&&decide (l<((hs:List Int).length:Int))) (zx S r R [.fst,.idx l.toNat s0] x) .fail)
          (.br (decide (0<=a)&&decide (a<((ns:List (ByteArray×List Int×Unit)).length:Int)))
            (match V.focus R.ty R.ms R.x [.snd,.fst,.idx a.toNat s1,.snd,.fst] with
             | some ⟨.sl (.int .i64),.own s2 _,xs⟩=>.br (decide (0<=l)&&decide (l<((xs:List Int).length:Int))) (zx S r R [.snd,.fst,.idx a.toNat s1,.snd,.fst,.idx l.toNat s2] x) .fail
             | _=>.fail) .fail)
      | _,_,_=>.fail
    | none=>.fail
  | _=>.fail
def k_(A:aZ)(S:aD)(d:Option Nat)(site:Nat)(g:FuncId)(args:List AV):Tr (AV×aD):=
 if (C.jB g&&A.sh)=true then zw S args else
 if pM (C.sig g) args then
  match gN S (C.sig g).params args with
  | some z=>l5 C D A z.2 d site g z.1
  | none=>.fail
 else l5 C D A S d site g args
def qB:(ks:List PK)->List gh->Option (eF ks)
 | [],[]=>some ()
 | .val t::ks,.val t' x::l=>(qbv t' t x).bind fun x=>(qB ks l).bind fun r=>some (x,r)
 | .bP t::ks,.bP t' x::l=>(qbv t' t x).bind fun x=>(qB ks l).bind fun r=>some (x,r)
 | _,_=>none
def v_:(ks:List RK)->dU ks->(t:Ty)->Option t.den
 | [.val t' _],r,t=>qbv t' t r.1
 | _,_,_=>none
def EP(c:Ei)(xs:List gh)(t:Ty):Option t.den:=
 (qB (C.sig c.f).params (xs++c.caps)).bind fun a=>(D c.f a).bind fun r=>v_ (C.sig c.f).res r.1 t
def qI(S:aD):List Ty->List AV->Option (List gh)
 | [],[]=>some []
 | t::ts,a::au=>(rd S t a).bind fun x=>(qI S ts au).bind fun l=>some (.val t x::l)
 | _,_=>none
def Ty.scalar:Ty->Bool
 | .int _=>true
 | .bool=>true
 | .str=>true
 | _=>false
def ij:AV->List AV
 | .pair a b=>a::ij b
 | _=>[]
def kM:Mk->Option Mk
 | .own _ m=>some m
 | .no=>some .no
 | _=>none
def uW(A:aZ)(S:aD)(d:Option Nat)(site:Nat)(t:Ty)(x y:AV):Tr (AV×aD):=
 match tk S (.sl t) x with
 | some (.own _ m,xs,S1)=>
  match tk S1 (.sl t) y with
  | some (my,ys,S2)=>
   match kM my with
   | some m'=>
    if (m.meet m').af then
     .br (decide (xs.length+ys.length<=gj)) (b8 A S2 d site (.sl t) (.own 0 (m.meet m')) (xs++ys) false) .fail
    else .fail
   | none=>.fail
  | none=>.fail
 | _=>.fail
def lf(S:aD)(t:Ty):AV->AV->Tr (AV×aD)
 | .bu r p s,.val (.sl t2) ys=>
  match S.root r with
  | some R=>
   match V.focus R.ty R.ms R.x p with
   | some ⟨.sl t',.own s' m,xs⟩=>
    if s=s'/\t'=t/\t2=t/\m.still=true then
     match qbv (.sl t') (.sl t) xs,qbv (.sl t2) (.sl t) ys,put R.ty R.ms R.x p (.sl t') .no xs with
     | some xs',some ys',some r'=>.br (decide ((xs':List t.den).length+(ys':List t.den).length<=gj)) (.ret (.val (.sl t) ((xs':List t.den)++(ys':List t.den)),S.ak r (some { R with ms:=r'.1,x:=r'.2 }))) .fail
     | _,_,_=>.fail
    else .fail
   | _=>.fail
  | none=>.fail
 | _,_=>.fail
def we(A:aZ)(S:aD)(d:Option Nat)(site:Nat)(hint:Bool)(v:AV):Tr (AV×aD):=
 match tq S v with
 | some t=>
  match tk S t v with
  | some (m,y,S1)=>
   if hint then (if m.whole then .ret (.val t y,S1) else .fail)
   else b8 A S1 d site t m y false
  | none=>.fail
 | none=>.fail
def y9:Option AV->Option Int
 | none=>some 0
 | some v=>(oy v).map (·.2)
def vR(n:Int):Option AV->Option Int
 | none=>some n
 | some v=>(oy v).map (·.2)
def nL(S:aD)(e:Ty)(r:Nat)(p:Path)(s:Nat)(lo:AV)(hi:Option AV):Tr (AV×aD):=
 match oy lo,hi with
 | some kl,none=>
  match S.focus r p with
  | some ⟨.sl e',.own s' _,xs⟩=>if s=s'/\e=e' then .br (decide (0<=kl.2)&&decide (kl.2<=((xs:List e'.den).length:Int))) (.ret (.view r p s kl.2.toNat (xs:List e'.den).length,S)) .fail else .fail
  | _=>.fail
 | _,_=>.fail
def rO(t:Ty)(xs:List t.den)(lo hi:Nat):List t.den:=xs.take lo++List.replicate (hi-lo) t.zero++xs.drop hi
def pV(S:aD)(t:Ty):AV->Tr (AV×aD)
 | .view r p s lo hi=>
  match S.root r with
  | some R=>
   match V.focus R.ty R.ms R.x p with
   | some ⟨.sl t',.own s' m,xs⟩=>
    if s=s'/\t=t'/\m.still=true/\s'<1048576 then
     match put R.ty R.ms R.x p (.sl t') (.own s' m) (rO t' xs lo hi) with
     | some r'=>.br (decide (lo<hi)) (.ret (.undef,S.ak r (some { R with ms:=r'.1,x:=r'.2 }))) (.ret (.undef,S))
     | none=>.fail
    else .fail
   | _=>.fail
  | none=>.fail
 | _=>.fail
def rN(t:Ty)(xs ys:List t.den):List t.den:=ys.take xs.length++xs.drop ys.length
def pQ(S:aD)(t:Ty):AV->AV->Tr (AV×aD)
 | .bu r p s,.val (.sl t2) ys=>
  match S.root r with
  | some R=>
   match V.focus R.ty R.ms R.x p with
   | some ⟨.sl t',.own s' .no,xs⟩=>
    if s=s'/\t'=t/\t2=t/\s'<1048576 then
     match qbv (.sl t2) (.sl t') ys with
     | some ys'=>
      match put R.ty R.ms R.x p (.sl t') (.own s' .no) (rN t' xs ys') with
      | some r'=>.br (decide (0<(ys':List t'.den).length)&&decide (0<(xs:List t'.den).length)) (.ret (.val (.int .i64) ((min (ys':List t'.den).length (xs:List t'.den).length:Nat):Int),S.ak r (some { R with ms:=r'.1,x:=r'.2 }))) (.ret (.val (.int .i64) ((0:Nat):Int),S))
      | none=>.fail
     | none=>.fail
    else .fail
   | _=>.fail
  | none=>.fail
 | _,_=>.fail
def nK(A:aZ)(S:aD)(T:Ty)(d:Option Nat)(site:Nat)(x:AV)(lo hi:Option AV):Tr (AV×aD):=
 match x,T with
 | .val .str s,.str=>
  match y9 lo,vR s.size hi with
  | some l,some h=>.br (decide (0<=l)&&decide (l<=h)&&decide (h<=(s.size:Int))) (.ret (.val .str (s.extract l.toNat h.toNat),S)) .fail
  | _,_=>.fail
 | .val (.sl e) xs,.sl e'=>
  match y9 lo,vR xs.length hi with
  | some l,some h=>if e=e' then .br (decide (0<=l)&&decide (l<=h)&&decide (h<=(xs.length:Int))) (.ret (.val (.sl e) ((xs.take h.toNat).drop l.toNat),S)) .fail else .fail
  | _,_=>.fail
 | .bu r p s,.sl e=>
  match lo with
  | none=>
   match tk S (.sl e) (.bu r p s) with
   | some (.own _ m,xs,S2)=>
    match vR xs.length hi with
    | some h=>if m.af then (.br (decide (0<=h)&&decide (h<=(xs.length:Int))) (b8 A S2 d site (.sl e) (.own 0 m) (xs.take h.toNat) false) .fail) else .fail
    | none=>.fail
   | _=>.fail
  | some v=>nL S e r p s v hi
 | _,_=>.fail
def aS(A:aZ)(ρ:Operand->AV)(S:aD)(site:Nat)(hint:Bool)(o:Oper):Tr (AV×aD):=
 match o.op with
 | .move x=>.ret (ρ x,S)
 | .assign x=>
  match ρ x with
  | .bu r p s=>if qx p&&!hint then .ret (.bu r p s,S) else we A S o.dst site hint (.bu r p s)
  | .pair a b=>we A S o.dst site hint (.pair a b)
  | v=>.ret (v,S)
 | .pick c a b=>
  match asBool (ρ c) with
  | some c=>.br c (.ret (ρ a,S)) (.ret (ρ b,S))
  | none=>.fail
 | .alloc t=>if (C.ty t).nz then b8 A S o.dst site (C.ty t) (Mk.top (C.ty t)) (C.ty t).zero true else .fail
 | .box t x=>
  if (C.ty t).nz then
   match tk S (C.ty t) (ρ x) with
   | some (m,y,S1)=>if hint then (if m.whole then b8 A S1 o.dst site (C.ty t) .no y true else .fail) else b8 A S1 o.dst site (C.ty t) m y true
   | none=>.fail
  else .fail
 | .build t parts=>
  if (C.ty t).nz&&(C.ty t).agg then
   match jT S (C.ty t) (Mk.rR hint (C.ty t),(C.ty t).zero) (parts.toList.map fun p=>(p.1,ρ p.2)) with
   | some (m,y,S1)=>b8 A S1 o.dst site (C.ty t) m y false
   | none=>.fail
  else .fail
 | .buildSlice t n parts=>
  match C.ty t with
  | .sl e=>
   match m6 S e (Mk.top e,List.replicate n e.zero) (parts.toList.map fun p=>(p.1,ρ p.2)) with
   | some (m,y,S1)=>
    if m.af&&Nat.ble (n * e.width) 16777216 then
     (if hint then (if m.whole then .ret (.val (.sl e) y,S1) else .fail) else b8 A S1 o.dst site (.sl e) (.own 0 m) y false)
    else .fail
   | none=>.fail
  | _=>.fail
 | .load t a=>if (C.ty t).nz then .of ((nW S (C.ty t) (ρ a)).map fun v=>(v,S)) else .fail
 | .store t a x=>if (C.ty t).nz&&A.fr then .of ((sY S site hint (C.ty t) (ρ a) (ρ x)).map fun S=>(.undef,S)) else .fail
 | .nilCheck x=>
  match ρ x with
  | .addr r p=>match S.focus r p with | some _=>.ret (.addr r p,S) | none=>.fail
  | .bq t x=>.ret (.bq t x,S)
  | .eV f c=>.ret (.eV f c,S)
  | _=>.fail
 | .binOp op xt x y _=>
  match ρ y with
  | .cP=>
   match C.ty xt,op,qG S (ρ x) with
   | .sl _,.eql,some n=>.nil n.toNat false fun b=>.ret (.val .bool b,S)
   | .sl _,.neq,some n=>.nil n.toNat true fun b=>.ret (.val .bool b,S)
   | _,_,_=>.fail
  | w=>
   match gC (C.ty xt) op (ρ x) w with
   | .ret v=>.ret (v,S)
   | .br c (.ret v) .fail=>.br c (.ret (v,S)) .fail
   | .br c .fail (.ret v)=>.br c .fail (.ret (v,S))
   | _=>.fail
 | .unOp op _ x=>
  match op,ρ x with
  | .not,.val .bool b=>.ret (.val .bool (!b),S)
  | .neg,.val (.int kd) n=>.ret (.val (.int kd) (kd.wrap (0-n)),S)
  | _,_=>.fail
 | .convert src dst x=>
  match C.ty src,C.ty dst,ρ x with
  | .int _,.int kd,.val (.int _) n=>.ret (.val (.int kd) (kd.wrap n),S)
  | .str,.str,.val .str s=>.ret (.val .str s,S)
  | .sl (.int .u8),.str,v=>
   match rd S (.sl (.int .u8)) v with
   | some xs=>.ret (.val .str (ByteArray.mk (xs.map fun n=>UInt8.ofNat n.toNat).toArray),S)
   | none=>.fail
  | _,_,_=>.fail
 | .makeFunc (.func f) first caps=>if first.isEmpty then .ret (.eV f (caps.toList.foldr (fun x r=>.pair (ρ x) r) .unit),S) else .fail
 | .makeSlice t len cap=>
  match C.ty t,oy (ρ len),oy (ρ cap) with
  | .sl e,some (.i64,l),some (.i64,c)=>
   .br (decide (0<=l)&&decide (l<=c)&&decide (c<=(gj:Int)))
    (b8 A S o.dst site (.sl e) (.own 0 (Mk.top e)) (List.replicate l.toNat e.zero) false) .fail
  | _,_,_=>.fail
 | .slice t x lo hi none=>nK A S (C.ty t) o.dst site (ρ x) (lo.map ρ) (hi.map ρ)
 | .fieldAddr s x f=>.of ((tJ S (C.ty s) (ρ x) f).map fun v=>(v,S))
 | .field ts x f=>
  match ρ x with
  | .val t y=>
   if t=C.ty ts then
    match focus t .no y (e6 f) with
    | some dd=>.ret (.val dd.ty dd.x,S)
    | none=>.fail
   else .fail
  | _=>.fail
 | .indexAddr t x i=>
  match pL S (C.ty t) (ρ x) (ρ i) with
  | .br c (.ret v) .fail=>.br c (.ret (v,S)) .fail
  | _=>.fail
 | .index t x i=>
  match C.ty t,ρ x,oy (ρ i) with
  | .str,.val .str s,some (_,n)=>.br (decide (0<=n)&&decide (n<(s.size:Int))) (.ret (.val (.int .u8) ((s.data.getD n.toNat 0).toNat:Int),S)) .fail
  | _,_,_=>.fail
 | .extract x i=>.of ((AW (ρ x) i).map fun v=>(v,S))
 | .call c=>
  match c.callee with
  | .builtin b=>
   match b,c.args.toList.map ρ,c.argTypes.toList.map C.ty with
   | .len,[.val .str s],.str::_=>.ret (.val (.int .i64) (s.size:Nat),S)
   | .len,[x],.sl _::_=>.of ((qG S x).map fun n=>(.val (.int .i64) n,S))
   | .append,[x,y],.sl t::.sl t'::_=>if t=t' then (if hint then lf S t x y else uW A S o.dst site t x y) else .fail
   | .clear,[x],.sl t::_=>pV S t x
   | .copy,[x,y],.sl t::_=>pQ S t x y
   | .min,[x,y],_=>match x,y with | .val (.int ka) a,.val (.int kb) b=>if ka=kb then .ret (.val (.int ka) (if b<a then b else a),S) else .fail | _,_=>.fail
   | .max,[x,y],_=>match x,y with | .val (.int ka) a,.val (.int kb) b=>if ka=kb then .ret (.val (.int ka) (if b>a then b else a),S) else .fail | _,_=>.fail
   | _,_,_=>.fail
  | .value f=>
   match ρ f with
   | .eV g caps=>k_ C D { A with sh:=hint } S o.dst site g (c.args.toList.map ρ++ij caps)
   | .dK f=>
    if (C.ty o.type).scalar then
     match qI S (c.argTypes.toList.map C.ty) (c.args.toList.map ρ) with
     | some xs=>.call (EP C D f xs (C.ty o.type)) fun x=>.ret (.val (C.ty o.type) x,S)
     | none=>.fail
    else .fail
   | _=>.fail
  | _=>.fail
 | _=>.fail
end ops
def AV.aH(lo hi:Nat):AV->Bool
 | .bu _ p s=>!(Nat.ble lo s&&Nat.blt s hi)&&gf lo hi p
 | .view _ p s _ _=>!(Nat.ble lo s&&Nat.blt s hi)&&gf lo hi p
 | .addr _ p=>gf lo hi p
 | .pair a b=>a.aH lo hi&&b.aH lo hi
 | .fO a=>a.aH lo hi
 | .eV _ c=>c.aH lo hi
 | _=>true
def yx(s:Nat):List AV->Bool
 | []=>true
 | v::l=>v.aH s (s+1)&&yx s l
def gT(sl:List AV)(d:Option Nat)(s:Nat):aZ where
 pq:=match d with | some d=>mD d 0 sl | none=>true
 pl:=match d with | some d=>v5 d 0 sl | none=>true
 fr:=Nat.blt s 1048576&&yx s sl
 sh:=false
end
end Go.V
namespace Go.V
noncomputable section
open Go
inductive Ex where
 | normal | exit (id:Nat) | ret
section
variable (C:Ctx) (D:Den C) {R:Type}
def nJ(S:St)(o:Oper)(v:AV):St:=
 match o.dst with
 | some d=>S.set d v
 | none=>S
def gP(ops:Array Oper)(j:Nat):Nat:=((ops[j]?).bind (·.dst)).getD 0
def uR:Path->List Nat
 | []=>[]
 | .idx _ s::p=>s::uR p
 | _::p=>uR p
def AV.stamps:AV->List Nat
 | .bu _ p s=>s::uR p
 | .view _ p s _ _=>s::uR p
 | .addr _ p=>uR p
 | .pair a b=>a.stamps++b.stamps
 | .fO a=>a.stamps
 | .eV _ c=>c.stamps
 | _=>[]
structure gi where
 i:Nat
 rd:List Nat
 st:List Nat
 site:Nat
 wr:Option (List Nat)
 io:Option (aD×aD)
 dst:Option Nat
 ld:Option ((aD->Option AV)×AV)
 bl:Bool
 lc:Bool
abbrev Log:=List gi
def BL(ops:Array Oper)(c:Nat):Nat->Oper->Bool
 | 0,_=>false
 | n+1,o=>
  match o.guard with
  | none=>false
  | some (j,_)=>Nat.beq (gP ops j) c||(match ops[j]? with | some oj=>BL ops c n oj | none=>false)
def mF(ops:Array Oper)(i:Nat)(o:Oper):List Nat:=
 match o.op with
 | .pick (.tmp c) _ _=>(ops.toList.take i).filterMap fun o'=>if BL ops c 8 o' then o'.dst else none
 | _=>[]
def St.forget(S:St):List Nat->St
 | []=>S
 | t::ts=>(S.set t .undef).forget ts
def fin(ops:Array Oper)(S:St)(i:Nat)(o:Oper)(v:AV):St:=nJ (S.forget (mF ops i o)) o v
def qk:List AV->List Nat
 | []=>[]
 | v::l=>v.roots++qk l
def nH(S:St)(o:Oper):List AV:=o.op.operands.toList.map (ev S)
def ic:List PK->List AV->List Nat
 | k::ks,a::au=>if k.plain then ic ks au else a.roots++ic ks au
 | _,_=>[]
def xp(s:oF):Bool:=s.params.all PK.plain&&s.res.all (fun k=>!k.gI&&k.ms.still)
def Ty.flat:Ty->Bool
 | .sl _=>false
 | .pair a b=>a.flat&&b.flat
 | _=>true
def AV.isVal:AV->Bool
 | .val _ _=>true
 | .bA _=>true
 | _=>false
def D9(ρ:Operand->AV)(l:List (Nat×Operand)):Bool:=l.all fun p=>(ρ p.2).isVal
def b5(ρ:Operand->AV)(o:Oper):Option (List Nat):=
 let all:=some (o.dst.toList++qk (o.op.operands.toList.map ρ))
 match o.op with
 | .move _ | .pick _ _ _ | .load _ _ | .nilCheck _ | .binOp _ _ _ _ _ | .unOp _ _ _ | .convert _ _ _ | .makeFunc _ _ _ | .fieldAddr _ _ _ | .field _ _ _ | .indexAddr _ _ _ | .index _ _ _ | .extract _ _=>none
 | .assign x=>match ρ x with | .bu _ _ _=>all | .pair _ _=>all | _=>none
 | .build t parts=>if (C.ty t).flat&&D9 ρ parts.toList then none else all
 | .call c=>
  match c.callee with
  | .builtin .len | .builtin .min | .builtin .max=>none
  | .builtin _=>all
  | .value f=>
   match ρ f with
   | .eV g caps=>if C.jB g||pM (C.sig g) (c.args.toList.map ρ++ij caps) then all else if xp (C.sig g) then none else some (o.dst.toList++ic (C.sig g).params (c.args.toList.map ρ++ij caps))
   | .dK _=>none
   | _=>all
  | _=>all
 | _=>all
def PK.loc:PK->Bool
 | .own _ _ | .cD _ _ _=>false
 | _=>true
def nZ(ρ:Operand->AV)(o:Oper):Bool:=
 match o.op with
 | .alloc _ | .box _ _ | .build _ _ | .buildSlice _ _ _ | .makeSlice _ _ _ | .slice _ _ _ _ none=>true
 | .call c=>
  match c.callee with
  | .builtin .append=>
   match c.args.toList.map ρ with
   | .bu _ p _::_=>!qx p
   | _=>true
  | .value f=>
   match ρ f with
   | .eV g _=>!C.jB g&&(C.sig g).params.all PK.loc
   | _=>false
  | _=>false
 | _=>false
def b9(S:St):List Nat->List Nat
 | []=>[]
 | t::ts=>(S.get t).roots++b9 S ts
def bI(S:St):List Nat->List Nat
 | []=>[]
 | t::ts=>(S.get t).stamps++bI S ts
def gb(ops:Array Oper)(i:Nat)(o:Oper):List Nat:=o.dst.toList++mF ops i o
def lZ(o:Oper):Bool:=
 match o.op with
 | .move _ | .pick _ _ _ | .unOp _ _ _ | .makeFunc _ _ _ | .field _ _ _ | .extract _ _=>true
 | _=>false
def nC(ρ:Operand->AV)(o:Oper)(v:AV):Option ((aD->Option AV)×AV):=
 match o.op with
 | .load t a=>some (fun S=>if (C.ty t).nz then nW S (C.ty t) (ρ a) else none,v)
 | .fieldAddr s x f=>some (fun S=>tJ S (C.ty s) (ρ x) f,v)
 | _=>none
def iN(ops:Array Oper)(S:St)(site i:Nat)(o:Oper)(v:AV)(rt':aD):gi:=
 ⟨i,v.roots++((if lZ o then [] else qk (nH S o))++b9 S (gb ops i o)),v.stamps++bI S (gb ops i o),site,b5 C (ev S) o,(match b5 C (ev S) o,nZ C (ev S) o with | some _,false=>some (S.rt,rt') | _,_=>none),o.dst,nC C (ev S) o v,lZ o,nZ C (ev S) o⟩
def jU(ops:Array Oper)(S:St)(site i:Nat)(o:Oper):gi:=⟨i,b9 S (gb ops i o),bI S (gb ops i o),site,none,none,none,none,true,false⟩
def nQ(M:Array Nat)(i j:Nat):Bool:=(M.getD j 0).testBit i||(M.getD i 0).testBit j
def fB:List Nat->List Nat->Bool
 | [],_=>true
 | a::l,l'=>!(l'.contains a)&&fB l l'
def tc(w:List Nat)(e f:gi):Bool:=fB w f.rd&&!f.st.contains e.site
def uV:Path->Path->Bool
 | [],[]=>true
 | .fst::p,.fst::q=>uV p q
 | .snd::p,.snd::q=>uV p q
 | _,_=>false
def sV(S:aD)(l:(aD->Option AV)×AV):Bool:=
 match l.1 S,l.2 with
 | some (.bu r p s),.bu r' p' s'=>Nat.beq r r'&&uV p p'&&Nat.beq s s'
 | some (.addr r p),.addr r' p'=>Nat.beq r r'&&uV p p'
 | _,_=>false
def tB(e f:gi):Bool:=
 (f.bl||(match f.ld,e.io with
  | some l,some io=>sV io.1 l&&sV io.2 l
  | _,_=>false))&&fB e.dst.toList f.rd&&!f.st.contains e.site
def gi.free(e f:gi):Bool:=
 match e.wr,f.wr with
 | none,none=>true
 | some w,none=>tc w e f||tB e f
 | none,some w=>tc w f e||tB f e
 | some w,some w'=>(e.lc&&f.lc)&&((fB w f.rd&&fB w w')&&(fB w' e.rd&&fB w' w))&&(!e.st.contains f.site&&!f.st.contains e.site)
def sU(M:Array Nat)(e:gi):Log->Bool
 | []=>true
 | f::l=>(Nat.beq e.i f.i||nQ M e.i f.i||e.free f)&&sU M e l
def uX(M:Array Nat)(all:Log):Log->Bool
 | []=>true
 | e::l=>(match e.wr with | none=>true | some _=>sU M e all)&&uX M all l
def rM(ops:Array Oper)(o:Oper):List Nat:=
 (match o.guard with | some (j,_)=>[gP ops j] | none=>[])++o.op.operands.toList.filterMap fun x=>match x with | .tmp t=>some t | _=>none
def yq(ops:Array Oper)(i j:Nat)(x y:Oper):Bool:=
 fB (gb ops i x) (rM ops y)&&fB (gb ops i x) (gb ops j y)&&fB (gb ops j y) (rM ops x)
def sB(M:Array Nat)(ops:Array Oper)(i:Nat)(x:Oper):List (Nat×Oper)->Bool
 | []=>true
 | (j,y)::l=>(nQ M i j||yq ops i j x y)&&sB M ops i x l
def yz(M:Array Nat)(ops:Array Oper):List (Nat×Oper)->Bool
 | []=>true
 | (i,x)::l=>sB M ops i x l&&yz M ops l
def kC(o:Oper):Bool:=
 match o.op with
 | .move _ | .pick _ _ _ | .unOp _ _ _ | .fieldAddr _ _ _ | .field _ _ _ | .load _ _ | .extract _ _=>true
 | .binOp op _ _ _ _=>match op with | .eql | .neq | .lss | .leq | .gtr | .geq | .sub | .mul=>true | _=>false
 | .call c=>match c.callee with | .builtin .len=>true | _=>false
 | _=>false
def yd(t:Nat)(o:Oper):Bool:=
 match o.op with
 | .pick (.tmp c) _ _=>Nat.beq c t
 | _=>false
def AY(t:Nat):List (Nat×Oper)->Option (List (Nat×Oper)×(Nat×Oper)×List (Nat×Oper))
 | []=>none
 | x::l=>if yd t x.2 then some ([],x,l) else match AY t l with
  | some y=>some (x::y.1,y.2)
  | none=>none
def BP(ops:Array Oper)(S:St)(D:List Nat)(o:Oper):Bool:=
 match o.guard with
 | none=>true
 | some (j,b)=>!D.contains (gP ops j)&&(match S.get (gP ops j) with | .bA c=>c == b | _=>false)
def fk(S:St)(site:Nat)(hint:Bool)(o:Oper):Tr (AV×aD):=aS C D (gT S.sl o.dst site) (ev S) S.rt site hint o
def tf(ops:Array Oper)(id:Nat)(lu:List (Nat×Oper)->St->Log->Option (St×Log))(t:Nat)(c:Bool)(l:List (Nat×Oper))(S:St)(lg:Log) :
  Option (St×Log×List (Nat×Oper)):=
 match AY t l with
 | some (seg,(i,o),rest)=>
  let D:=mF ops i o
  if seg.all (fun x=>kC x.2&&(gb ops x.1 x.2).all D.contains)&&BP ops S D o&&!D.contains t then
   match o.op,lu seg (S.set t (.bA true)) [],lu seg (S.set t (.bA false)) [] with
   | .pick _ a b,some (S1,l1),some (S2,l2)=>
    match asBool (ev S1 a),asBool (ev S2 b) with
    | some x,some y=>some (fin ops S i o (.val .bool (cond c x y)),
      iN C ops S1 (id * 256+i+1) i o (.val .bool x) S1.rt::iN C ops S2 (id * 256+i+1) i o (.val .bool y) S2.rt::(l1++(l2++lg)),rest)
    | _,_=>none
   | _,_,_=>none
  else none
 | _=>none
noncomputable def iz(id:Nat)(ops:Array Oper):Nat->List (Nat×Oper)->St->Log->Option (St×Log)
 | 0,_,_,_=>none
 | _+1,[],S,lg=>some (S,lg)
 | n+1,(i,o)::rest,S,lg=>
  let site:=id * 256+i+1
  let go:=match fk C D S site false o with
   | .ret (v,rt')=>iz id ops n rest (fin ops ⟨S.sl,rt'⟩ i o v) (iN C ops S site i o v rt'::lg)
   | _=>none
  match o.guard with
  | none=>go
  | some (j,b)=>
   match S.get (gP ops j) with
   | .skip=>iz id ops n rest (fin ops S i o .skip) (jU ops S site i o::lg)
   | .bA c=>if c=b then go else iz id ops n rest (fin ops S i o .skip) (jU ops S site i o::lg)
   | .val .bool c=>
    match tf C ops id (iz id ops n) (gP ops j) c ((i,o)::rest) S lg with
    | some (S',lg,rest)=>iz id ops n rest S' lg
    | none=>none
   | _=>none
noncomputable def qC(H:Hints)(id:Nat)(ops:Array Oper):Nat->List (Nat×Oper)->St->Log->(Log->St->Option R)->Option R
 | 0,_,_,_,_=>none
 | _+1,[],S,lg,k=>k lg S
 | n+1,(i,o)::rest,S,lg,k=>
  let site:=id * 256+i+1
  let go:=fun(S:St)=>(fk C D S site (H.share.contains (id,i)) o).run fun x=>qC H id ops n rest (fin ops ⟨S.sl,x.2⟩ i o x.1) (iN C ops S site i o x.1 x.2::lg) k
  let skip:=fun(S:St)=>qC H id ops n rest (fin ops S i o .skip) (jU ops S site i o::lg) k
  match o.guard with
  | none=>go S
  | some (j,b)=>
   match S.get (gP ops j) with
   | .skip=>skip S
   | .bA c=>if c=b then go S else skip S
   | .val .bool c=>
    match tf C ops id (iz C D id ops n) (gP ops j) c ((i,o)::rest) S lg with
    | some (S',lg,rest)=>qC H id ops n rest S' lg k
    | none=>
     br c
      (if b=true then go (S.set (gP ops j) (.bA true)) else skip (S.set (gP ops j) (.bA true)))
      (if b=false then go (S.set (gP ops j) (.bA false)) else skip (S.set (gP ops j) (.bA false)))
   | _=>none
def mC(body:St->(Ex->St->Option R)->Option R)(canon dy:St->St):Nat->St->(Ex->St->Option R)->Option R
 | 0,_,_=>none
 | n+1,S,k=>body (canon S) fun e S=>match e with
  | .normal=>mC body canon dy n S k
  | e=>k e (dy S)
def Mk.yZ:Mk->Mk->Mk
 | .no,.no=>.no
 | a,b=>.pr a b
def Mk.aL:Mk->Mk
 | .no=>.no
 | .gone=>.gone
 | .own s m=>.own (if s<1048576 then 0 else s) m.aL
 | .pr a b=>Mk.yZ a.aL b.aL
def iP.zero:iP->iP
 | .idx i s=>.idx i (if s<1048576 then 0 else s)
 | p=>p
def AV.canon(S:St):AV->AV
 | .bu r p s=>
  match S.focus r p with
  | some ⟨.sl _,.own s' _,_⟩=>if s=s' then .bu r (p.map iP.zero) (if s<1048576 then 0 else s) else .undef
  | _=>.undef
 | .addr r p=>
  match S.focus r p with
  | some _=>.addr r (p.map iP.zero)
  | _=>.undef
 | .pair a b=>.pair (a.canon S) (b.canon S)
 | .eV f c=>.eV f (c.canon S)
 | .fO a=>.undef
 | .view _ _ _ _ _=>.undef
 | v=>v
def AU(x:Option aB):Option aB:=x.bind fun R=>match R.ms with | .gone=>none | _=>some { R with ms:=R.ms.aL }
def vU(j5:List Nat):Nat->List (Option aB)->List (Option aB)
 | _,[]=>[]
 | i,x::l=>
  (if j5.contains i then AU x else none)
   :: vU j5 (i+1) l
def vV(S:St)(keep:List Nat):Nat->List AV->List AV
 | _,[]=>[]
 | i,x::l=>(if keep.contains i then x.canon S else .undef)::vV S keep (i+1) l
def St.canon(keep extra:List Nat)(S:St):St:=
 let sl:=vV S keep 0 S.sl
 ⟨sl,vU (extra++sl.flatMap AV.roots) 0 S.rt⟩
def tV:Code->Nat
 | .region id _ _=>id
 | .seq a _=>tV a
 | .block _ b=>tV b
 | .loop b=>tV b
 | _=>0
def iY(ops:Array Oper):List (Nat×Oper):=ops.toList.zipIdx.map fun x=>(x.2,x.1)
def A6(ops:Array Oper):Bool:=ops.toList.all fun o=>match o.guard with | none=>true | some (j,_)=>((ops[j]?).bind (·.dst)).isSome
def vW(ops:Array Oper):Bool:=(iY ops).all fun x=>x.2.after.all fun e=>!Region.binds .any e||Nat.blt e.on x.1
def oG(H:Hints)(b:Code)(S:St):St:=
 match H.keep.lookup (100000+tV b) with
 | some kp=>St.canon kp.1 kp.2.2 S
 | none=>S
noncomputable def exec(H:Hints)(n:Nat):Code->St->(Ex->St->Option R)->Option R
 | .skip,S,k=>k .normal S
 | .region id ops dr,S,k=>
  if A6 ops then
   qC C D H id ops (ops.size+1) (iY ops) S [] fun lg S=>
    if dr then (if vW ops&&uX (Region.before ops) lg lg&&yz (Region.before ops) ops (iY ops) then k .normal S else none) else k .normal S
  else none
 | .seq a b,S,k=>exec H n a S fun e S=>match e with
  | .normal=>exec H n b (oG H b S) k
  | e=>k e S
 | .cond c a b,S,k=>
  match asBool (ev S c) with
  | some t=>br t (exec H n a S k) (exec H n b S k)
  | none=>none
 | .block id b,S,k=>exec H n b S fun e S=>match e with
  | .exit j=>if j=id then k .normal S else k (.exit j) S
  | e=>k e S
 | .loop b,S,k=>
  match H.keep.lookup (tV b) with
  | some kp=>mC (exec H n b) (St.canon kp.1 kp.2.2) (St.canon kp.2.1 kp.2.2) n S k
  | none=>none
 | .exit id,S,k=>k (.exit id) S
 | .ret,S,k=>k .ret S
 | _,_,_=>none
def Mk.tag:Mk->Nat->Mk×Nat
 | .no,n=>(.no,n)
 | .gone,n=>(.gone,n)
 | .own _ m,n=>(.own n m,n+1)
 | .pr a b,n=>let x:=a.tag n;let y:=b.tag x.2;(.pr x.1 y.1,y.2)
def tu(i:Nat)(m:Mk):Mk:=(m.tag (1048576+64 * i)).1
def enter(S:St):Nat->(ks:List PK)->eF ks->St
 | _,[],_=>S
 | i,.val t::ks,a=>enter (S.set i (.val t a.1)) (i+1) ks a.2
 | i,.bP t::ks,a=>enter (S.set i (.bq t a.1)) (i+1) ks a.2
 | i,.own t m::ks,a=>enter ((S.ak i (some ⟨t,m,a.1,false⟩)).set i (bL i t m a.1 [])) (i+1) ks a.2
 | i,.bS t m _::ks,a=>enter ((S.ak i (some ⟨t,m,a.1,true⟩)).set i (.addr i [])) (i+1) ks a.2
 | i,.cD t m _::ks,a=>enter ((S.ak i (some ⟨t,tu i m,a.1,false⟩)).set i (bL i t (tu i m) a.1 [])) (i+1) ks a.2
 | i,.fn::ks,a=>enter (S.set i (.dK a.1)) (i+1) ks a.2
def pS(C:Ctx)(S:St):ResultVar->Option AV
 | .tmp t=>some (S.get t)
 | .cell a t=>if (C.ty t).nz then nW S.rt (C.ty t) (S.get a) else none
def ox(C:Ctx):(ks:List RK)->List ResultVar->St->Option (dU ks×St)
 | [],[],S=>some ((),S)
 | .val t m::ks,v::vs,S=>
  (pS C S v).bind fun a=>
  (tk S.rt t a).bind fun x=>if m.aG x.1 then (ox C ks vs ⟨S.sl,x.2.2⟩).bind fun r=>some ((x.2.1,r.1),r.2) else none
 | .ptr t m::ks,v::vs,S=>
  match pS C S v with
  | some (.addr q [])=>
   match S.root q with
   | some R=>if R.mem/\m.aG R.ms then (qbv R.ty t R.x).bind fun x=>(ox C ks vs (S.ak q none)).bind fun r=>some ((x,r.1),r.2) else none
   | none=>none
  | _=>none
 | _,_,_=>none
def Mk.same:(uf now:Mk)->Bool
 | .no,h=>h.still
 | .own s _,h=>
  match h with
  | .own s' _=>s=s'
  | _=>false
 | .pr a b,h=>
  match h with
  | .pr c d=>a.same c&&b.same d
  | .no=>a.same .no&&b.same .no
  | _=>false
 | .gone,_=>false
def outs(H:Hints):Nat->(ks:List PK)->St->Option (bV ks)
 | _,[],_=>some ()
 | i,.bS t _ m'::ks,S=>
  match S.get i with
  | .addr q []=>
   match S.root q with
   | some R=>if R.mem/\m'.aG R.ms then (qbv R.ty t R.x).bind fun x=>(outs H (i+1) ks (S.ak q none)).bind fun r=>some (x,r) else none
   | none=>none
  | _=>none
 | i,.cD t m m'::ks,S=>
  let q:=(H.outs.lookup i).getD i
  match S.root q with
  | some R=>if m'.aG R.ms/\(tu i m).same R.ms then (qbv R.ty t R.x).bind fun x=>(outs H (i+1) ks (S.ak q none)).bind fun r=>some (x,r) else none
  | none=>none
 | i,.val _::ks,S=>outs H (i+1) ks S
 | i,.own _ _::ks,S=>outs H (i+1) ks S
 | i,.bP _::ks,S=>outs H (i+1) ks S
 | i,.fn::ks,S=>outs H (i+1) ks S
def y_(np:List Nat)(ops:Array Oper):Bool:=ops.toList.all fun o=>match o.dst with | some d=>!np.contains d | none=>true
def pX:Nat->List PK->List Nat
 | _,[]=>[]
 | i,.bS _ _ _::ks=>i::pX (i+1) ks
 | i,_::ks=>pX (i+1) ks
def m5(np:List Nat):Code->Bool
 | .region _ ops _=>y_ np ops
 | .seq a b=>m5 np a&&m5 np b
 | .cond _ a b=>m5 np a&&m5 np b
 | .block _ b=>m5 np b
 | .loop b=>m5 np b
 | _=>true
def cW:Ty->Mk->Bool
 | .sl _,.own _ _=>true
 | .pair a b,.pr x y=>cW a x&&cW b y
 | .unit,.no=>true
 | _,_=>false
def PK.eu:PK->Bool
 | .own t m=>t.nz&&m.af
 | .bS _ m _=>m.af
 | .cD t m _=>t.nz&&(m.af&&(cW t m&&Nat.ble t.width 64))
 | _=>true
noncomputable def n3(n:Nat)(fn:Func)(H:Hints)(ks:List PK)(rs:List RK)(a:eF ks):Option (dU rs×bV ks):=
 match fn.body with
 | none=>none
 | some c=>
  if ks.all PK.eu&&(Nat.ble ks.length fn.ntmps&&m5 (pX 0 ks) c) then
  exec C D H n c (enter ⟨List.replicate fn.ntmps .undef,List.replicate fn.ntmps none⟩ 0 ks a) fun e S=>
   match e with
   | .exit _=>none
   | _=>(ox C rs fn.results.toList S).bind fun r=>(outs H 0 ks r.2).bind fun o=>some (r.1,o)
  else none
end
structure N2 where
 func:FuncId->Option Func
noncomputable def Dn(C:Ctx)(E:Den C)(h_:FuncId->Bool)(func:FuncId->Option Func):Nat->Den C
 | 0,_=>fun _=>none
 | n+1,g=>fun a=>
  if h_ g then E g a else
  match func g with
  | none=>none
  | some fn=>n3 C (Dn C E h_ func n) n fn (C.hints g) (C.sig g).params (C.sig g).res a
end
end Go.V
namespace Go.V
noncomputable section
open Go
abbrev BS:=Nat->Prop
def Sub(F G:BS):Prop:=∀b,F b->G b
def bz(F G:BS):Prop:=∀b,F b->G b->False
def Nil:BS:=fun _=>False
theorem Sub.refl(F:BS):Sub F F:=fun _ h=>h
theorem Sub.trans{F G H:BS}(h:Sub F G)(h':Sub G H):Sub F H:=fun b x=>h' b (h b x)
theorem Sub.nil(F:BS):Sub Nil F:=fun _ h=>h.elim
theorem bz.symm{F G:BS}(h:bz F G):bz G F:=fun b x y=>h b y x
theorem bz.mono{F G F' G':BS}(h:bz F G)(hf:Sub F' F)(hg:Sub G' G):bz F' G':=fun b x y=>h b (hf b x) (hg b y)
theorem bz.nil(F:BS):bz Nil F:=fun _ h _=>h.elim
def fI(h:Array Obj)(b:Nat)(cs:Array Value):Prop:=
 ∃e lo hi,h[b]? = some (.cells cs e (lo,hi))/\∀i,i<=cs.size->¬ (lo<=i/\i<hi)
def mS(h:Array Obj)(b:Nat)(cs:Array Value):Prop:=∃e fr,h[b]? = some (.cells cs e fr)
theorem fI.rS{h:Array Obj}{b:Nat}{cs:Array Value}(x:fI h b cs):mS h b cs:=let ⟨e,lo,hi,he,_⟩:=x;⟨e,(lo,hi),he⟩
theorem fI.congr{h h':Array Obj}{b:Nat}{cs:Array Value}(x:fI h b cs)(e:h'[b]? = h[b]?):fI h' b cs:=
 let ⟨t,lo,hi,he,hf⟩:=x;⟨t,lo,hi,e.trans he,hf⟩
theorem mS.congr{h h':Array Obj}{b:Nat}{cs:Array Value}(x:mS h b cs)(e:h'[b]? = h[b]?):mS h' b cs:=
 let ⟨t,fr,he⟩:=x;⟨t,fr,e.trans he⟩
def sub(cs:Array Value)(off n:Nat):List Value:=(cs.toList.drop off).take n
def ag(h:Array Obj)(Pr:BS):(t:Ty)->Mk->t.den->List Value->BS->Prop
 | .unit,_,_,c,_=>c=[]
 | .int k,_,x,c,_=>c=[.int k x]
 | .bool,_,x,c,_=>c=[.bool x]
 | .str,_,x,c,_=>c=[.string x]
 | .pair a b,m,x,c,F=>∃ca cb Fa Fb,c=ca++cb/\ag h Pr a m.fst x.1 ca Fa/\ag h Pr b m.snd x.2 cb Fb/\
   Sub Fa F/\Sub Fb F/\bz Fa Fb
 | .sl t,.gone,xs,c,F=>∃a n k,c=[.slice a n k]
 | .sl t,.own _ mi,xs,c,F=>∃a cap,c=[.slice a xs.length cap]/\xs.length<=cap/\
   (cap=0\/∃b cs,a=some ⟨b,0,none⟩/\F b/\fI h b cs/\cap * t.width<=cs.size/\
    ∃Fs:Nat->BS,(∀i,Sub (Fs i) F/\¬ Fs i b)/\(∀i j,i≠j->bz (Fs i) (Fs j))/\
     ∀i,i<xs.length->ag h Pr t mi (xs.getD i t.zero) (sub cs (i * t.width) t.width) (Fs i))
 | .sl t,_,xs,c,F=>∃a cap,c=[.slice a xs.length cap]/\xs.length<=cap/\
   (xs≠[]->∃b o cs,a=some ⟨b,o,none⟩/\Pr b/\mS h b cs/\o+xs.length * t.width<=cs.size/\
    ∀i,i<xs.length->ag h Pr t .no (xs.getD i t.zero) (sub cs (o+i * t.width) t.width) Nil)
theorem ag.width{h:Array Obj}{Pr:BS}:∀(t:Ty){m:Mk}{x:t.den}{c:List Value}{F:BS},ag h Pr t m x c F->c.length=t.width
 | .unit,_,_,_,_,r=>by simp only[ag]at r;subst r;rfl
 | .int k,_,_,_,_,r=>by simp only[ag]at r;subst r;rfl
 | .bool,_,_,_,_,r=>by simp only[ag]at r;subst r;rfl
 | .str,_,_,_,_,r=>by simp only[ag]at r;subst r;rfl
 | .pair a b,_,_,_,_,r=>by
  simp only[ag]at r;obtain⟨ca,cb,Fa,Fb,rfl,ra,rb,_⟩:=r;simp[Ty.width,ag.width a ra,ag.width b rb]
 | .sl t,m,_,_,_,r=>by
  cases m<;>simp only[ag]at r
  .obtain⟨_,_,rfl,_⟩:=r;rfl
  .obtain⟨_,_,_,rfl⟩:=r;rfl
  .obtain⟨_,_,rfl,_⟩:=r;rfl
  .obtain⟨_,_,rfl,_⟩:=r;rfl
theorem ag.mono{h h':Array Obj}{Pr dD:BS}(hp:Sub Pr dD)(hY:∀b,Pr b->h'[b]? = h[b]?) :
  ∀(t:Ty){m:Mk}{x:t.den}{c:List Value}{F F':BS},ag h Pr t m x c F->Sub F F'->(∀b,F b->h'[b]? = h[b]?)->ag h' dD t m x c F'
 | .unit,_,_,_,_,_,r,_,_=>by simpa only [ag] using r
 | .int k,_,_,_,_,_,r,_,_=>by simpa only [ag] using r
 | .bool,_,_,_,_,_,r,_,_=>by simpa only [ag] using r
 | .str,_,_,_,_,_,r,_,_=>by simpa only [ag] using r
 | .pair a b,_,_,_,_,_,r,hf,hk=>by
  simp only[ag]at r⊢;obtain⟨ca,cb,Fa,Fb,rfl,ra,rb,sa,sb,d⟩:=r;exact⟨ca,cb,Fa,Fb,rfl,ag.mono hp hY a ra (Sub.refl _) (fun b hb=>hk b (sa b hb)),ag.mono hp hY b rb (Sub.refl _) (fun b hb=>hk b (sb b hb)),
   sa.trans hf,sb.trans hf,d⟩
 | .sl t,m,_,_,_,_,r,hf,hk=>by
  cases m<;>simp only[ag]at r⊢
  .obtain⟨a,cap,rfl,hl,r⟩:=r;refine⟨a,cap,rfl,hl,fun hne=>?_⟩;obtain⟨b,o,cs,rfl,pb,hb,hs,re⟩:=r hne;exact⟨b,o,cs,rfl,hp b pb,hb.congr (hY b pb),hs,fun i hi=>ag.mono hp hY t (re i hi) (Sub.refl _) (fun _ h=>h.elim)⟩
  .exact r
  .obtain⟨a,cap,rfl,hl,r⟩:=r;refine⟨a,cap,rfl,hl,?_⟩;rcases r with r | ⟨b,cs,rfl,fb,hb,hs,Fs,hF,hd,re⟩
   .exact .inl r
   .exact .inr ⟨b,cs,rfl,hf b fb,hb.congr (hk b fb),hs,Fs,fun i=>⟨(hF i).1.trans hf,(hF i).2⟩,hd,
     fun i hi=>ag.mono hp hY t (re i hi) (Sub.refl _) (fun b' h'=>hk b' ((hF i).1 b' h'))⟩
  .obtain⟨a,cap,rfl,hl,r⟩:=r;refine⟨a,cap,rfl,hl,fun hne=>?_⟩;obtain⟨b,o,cs,rfl,pb,hb,hs,re⟩:=r hne;exact⟨b,o,cs,rfl,hp b pb,hb.congr (hY b pb),hs,fun i hi=>ag.mono hp hY t (re i hi) (Sub.refl _) (fun _ h=>h.elim)⟩
theorem ag.room{h:Array Obj}{Pr:BS}(t:Ty){m:Mk}{x:t.den}{c:List Value}{F F':BS}(r:ag h Pr t m x c F)(hf:Sub F F'):ag h Pr t m x c F':=
 ag.mono (Sub.refl _) (fun _ _=>rfl) t r hf (fun _ _=>rfl)
theorem ag.cH{h:Array Obj}{Pr:BS}:∀(t:Ty){m:Mk}{x:t.den}{c:List Value}{F F':BS},m.still=true->ag h Pr t m x c F->ag h Pr t .no x c F'
 | .unit,_,_,_,_,_,_,r=>by simpa only [ag] using r
 | .int k,_,_,_,_,_,_,r=>by simpa only [ag] using r
 | .bool,_,_,_,_,_,_,r=>by simpa only [ag] using r
 | .str,_,_,_,_,_,_,r=>by simpa only [ag] using r
 | .pair a b,m,_,_,_,_,hm,r=>by
  simp only[ag]at r⊢;obtain⟨ca,cb,Fa,Fb,rfl,ra,rb,sa,sb,d⟩:=r;have h1:m.fst.still=true:=by cases m<;>simp_all [Mk.still,Mk.fst]
  have h2:m.snd.still=true:=by cases m<;>simp_all [Mk.still,Mk.snd]
  exact⟨ca,cb,Nil,Nil,rfl,ag.cH a h1 ra,ag.cH b h2 rb,Sub.nil _,Sub.nil _,bz.nil _⟩
 | .sl t,m,_,_,_,_,hm,r=>by
  cases m<;>simp only[ag]at r⊢
  .exact r
  .simp[Mk.still]at hm
  .simp[Mk.still]at hm
  .exact r
theorem ag.stamp{h:Array Obj}{Pr:BS}(s:Nat):∀(t:Ty){m:Mk}{x:t.den}{c:List Value}{F:BS},ag h Pr t m x c F↔ag h Pr t (m.stamp s) x c F
 | .unit,_,_,_,_=>by simp only[ag]
 | .int k,_,_,_,_=>by simp only[ag]
 | .bool,_,_,_,_=>by simp only[ag]
 | .str,_,_,_,_=>by simp only[ag]
 | .pair a b,m,x,_,_=>by
  simp only[ag];have h1:(m.stamp s).fst=m.fst.stamp s:=by cases m<;>rfl
  have h2:(m.stamp s).snd=m.snd.stamp s:=by cases m<;>rfl
  rw[h1,h2];constructor
  .rintro⟨ca,cb,Fa,Fb,rfl,ra,rb,r⟩;exact⟨ca,cb,Fa,Fb,rfl,(ag.stamp s a).1 ra,(ag.stamp s b).1 rb,r⟩
  .rintro⟨ca,cb,Fa,Fb,rfl,ra,rb,r⟩;exact⟨ca,cb,Fa,Fb,rfl,(ag.stamp s a).2 ra,(ag.stamp s b).2 rb,r⟩
 | .sl t,m,_,_,_=>by
  cases m<;>simp only[ag,Mk.stamp];constructor
  .rintro⟨a,cap,rfl,hl,r⟩;refine⟨a,cap,rfl,hl,r.imp id ?_⟩;rintro⟨b,cs,rfl,fb,hb,hs,Fs,hF,hd,re⟩;exact⟨b,cs,rfl,fb,hb,hs,Fs,hF,hd,fun i hi=>(ag.stamp s t).1 (re i hi)⟩
  .rintro⟨a,cap,rfl,hl,r⟩;refine⟨a,cap,rfl,hl,r.imp id ?_⟩;rintro⟨b,cs,rfl,fb,hb,hs,Fs,hF,hd,re⟩;exact⟨b,cs,rfl,fb,hb,hs,Fs,hF,hd,fun i hi=>(ag.stamp s t).2 (re i hi)⟩
theorem Mk.sg(a b:Mk):(Mk.yZ a b).fst=a:=by cases a<;>cases b<;>rfl
theorem Mk.si(a b:Mk):(Mk.yZ a b).snd=b:=by cases a<;>cases b<;>rfl
theorem Mk.kY(a b:Mk):(Mk.yZ a b).af=(a.af&&b.af):=by cases a<;>cases b<;>rfl
theorem Mk.jS(a b:Mk):Mk.yZ a b=.no\/Mk.yZ a b=.pr a b:=by cases a<;>cases b<;>first | exact .inl rfl | exact .inr rfl
theorem Mk.iq(m:Mk):m.aL.fst=m.fst.aL:=by cases m<;>first | rfl | exact Mk.sg _ _
theorem Mk.ir(m:Mk):m.aL.snd=m.snd.aL:=by cases m<;>first | rfl | exact Mk.si _ _
theorem ag.aL{h:Array Obj}{Pr:BS}:∀(t:Ty){m:Mk}{x:t.den}{c:List Value}{F:BS},ag h Pr t m x c F↔ag h Pr t m.aL x c F
 | .unit,_,_,_,_=>by simp only[ag]
 | .int k,_,_,_,_=>by simp only[ag]
 | .bool,_,_,_,_=>by simp only[ag]
 | .str,_,_,_,_=>by simp only[ag]
 | .pair a b,m,x,_,_=>by
  simp only[ag];have h1:=Mk.iq m;have h2:=Mk.ir m;rw[h1,h2];constructor
  .rintro⟨ca,cb,Fa,Fb,rfl,ra,rb,r⟩;exact⟨ca,cb,Fa,Fb,rfl,(ag.aL a).1 ra,(ag.aL b).1 rb,r⟩
  .rintro⟨ca,cb,Fa,Fb,rfl,ra,rb,r⟩;exact⟨ca,cb,Fa,Fb,rfl,(ag.aL a).2 ra,(ag.aL b).2 rb,r⟩
 | .sl t,m,_,_,_=>by
  cases m<;>simp only[ag,Mk.aL];constructor
  .rintro⟨a,cap,rfl,hl,r⟩;refine⟨a,cap,rfl,hl,r.imp id ?_⟩;rintro⟨b,cs,rfl,fb,hb,hs,Fs,hF,hd,re⟩;exact⟨b,cs,rfl,fb,hb,hs,Fs,hF,hd,fun i hi=>(ag.aL t).1 (re i hi)⟩
  .rintro⟨a,cap,rfl,hl,r⟩;refine⟨a,cap,rfl,hl,r.imp id ?_⟩;rintro⟨b,cs,rfl,fb,hb,hs,Fs,hF,hd,re⟩;exact⟨b,cs,rfl,fb,hb,hs,Fs,hF,hd,fun i hi=>(ag.aL t).2 (re i hi)⟩
  rename_i a b;rcases Mk.jS a.aL b.aL with e | e<;>rw[e]<;>simp only[ag]
theorem ag.share{h:Array Obj}{Pr:BS}:∀(t:Ty){m:Mk}{x:t.den}{c:List Value}{F:BS},m.whole=true->ag h Pr t m x c F->
  ag h (fun b=>Pr b\/F b) t .no x c Nil
 | .unit,_,_,_,_,_,r=>by simpa only [ag] using r
 | .int k,_,_,_,_,_,r=>by simpa only [ag] using r
 | .bool,_,_,_,_,_,r=>by simpa only [ag] using r
 | .str,_,_,_,_,_,r=>by simpa only [ag] using r
 | .pair a b,m,_,_,F,hm,r=>by
  simp only[ag]at r⊢;obtain⟨ca,cb,Fa,Fb,rfl,ra,rb,sa,sb,d⟩:=r;have h1:m.fst.whole=true:=by cases m<;>simp_all [Mk.whole,Mk.fst]
  have h2:m.snd.whole=true:=by cases m<;>simp_all [Mk.whole,Mk.snd]
  have e1:=ag.share a h1 ra;have e2:=ag.share b h2 rb;exact⟨ca,cb,Nil,Nil,rfl,
   ag.mono (fun b hb=>hb.imp id (sa b)) (fun _ _=>rfl) a e1 (Sub.refl _) (fun _ _=>rfl),
   ag.mono (fun b hb=>hb.imp id (sb b)) (fun _ _=>rfl) b e2 (Sub.refl _) (fun _ _=>rfl),Sub.nil _,Sub.nil _,bz.nil _⟩
 | .sl t,m,xs,_,F,hm,r=>by
  cases m with
  | no=>simp only[ag]at r⊢;obtain⟨a,cap,rfl,hl,r⟩:=r;refine⟨a,cap,rfl,hl,fun hne=>?_⟩;obtain⟨b,o,cs,rfl,pb,hb,hs,re⟩:=r hne;exact⟨b,o,cs,rfl,.inl pb,hb,hs,fun i hi=>ag.mono (fun b hb=>.inl hb) (fun _ _=>rfl) t (re i hi) (Sub.refl _) (fun _ _=>rfl)⟩
  | gone=>simp[Mk.whole]at hm
  | pr _ _=>simp only[ag]at r⊢;obtain⟨a,cap,rfl,hl,r⟩:=r;refine⟨a,cap,rfl,hl,fun hne=>?_⟩;obtain⟨b,o,cs,rfl,pb,hb,hs,re⟩:=r hne;exact⟨b,o,cs,rfl,.inl pb,hb,hs,fun i hi=>ag.mono (fun b hb=>.inl hb) (fun _ _=>rfl) t (re i hi) (Sub.refl _) (fun _ _=>rfl)⟩
  | own s mi=>
   simp only[ag]at r⊢;obtain⟨a,cap,rfl,hl,r⟩:=r;refine⟨a,cap,rfl,hl,fun hne=>?_⟩;have hpos:0<xs.length:=List.length_pos_iff.2 hne;rcases r with r | ⟨b,cs,rfl,fb,hb,hs,Fs,hF,hd,re⟩
   .omega
   .refine⟨b,0,cs,rfl,.inr fb,hb.rS,?_,fun i hi=>?_⟩
    .have:=cq t.width hl;omega
    .have e:=ag.share t (by simpa [Mk.whole] using hm) (re i hi);rw[g_];exact ag.mono (fun b hb=>hb.imp id ((hF i).1 b)) (fun _ _=>rfl) t e (Sub.refl _) (fun _ _=>rfl)
end
end Go.V
namespace Go.V
noncomputable section
open Go
theorem Mk.mH{w h:Mk}(x:w.aG h=true):w.fst.aG h.fst=true:=by cases w<;>cases h<;>simp_all [Mk.aG,Mk.fst,Mk.whole]
theorem Mk.mI{w h:Mk}(x:w.aG h=true):w.snd.aG h.snd=true:=by cases w<;>cases h<;>simp_all [Mk.aG,Mk.snd,Mk.whole]
theorem Mk.g6:∀b:Mk,b.cZ.aG .no=true
 | .no=>rfl
 | .gone=>rfl
 | .own _ m=>by unfold Mk.cZ;split<;>rfl
 | .pr a b=>by simp[Mk.cZ,Mk.aG,Mk.g6 a,Mk.g6 b]
theorem Mk.fU:∀b:Mk,b.cZ.aG b=true
 | .no=>rfl
 | .gone=>rfl
 | .own _ m=>by unfold Mk.cZ;split<;>simp_all [Mk.aG,Mk.whole]
 | .pr a b=>by simp[Mk.cZ,Mk.aG,Mk.fU a,Mk.fU b]
theorem Mk.c8:∀a b:Mk,(a.meet b).aG a=true/\(a.meet b).aG b=true
 | .no,b=>⟨by simpa [Mk.meet] using Mk.g6 b,by simpa [Mk.meet] using Mk.fU b⟩
 | .gone,_=>⟨rfl,rfl⟩
 | .own _ a,b=>by
  cases b with
  | no=>simp only[Mk.meet];split<;>simp_all [Mk.aG,Mk.whole]
  | gone=>exact⟨rfl,rfl⟩
  | own s b=>have:=Mk.c8 a b;simpa [Mk.meet,Mk.aG] using this
  | pr _ _=>exact⟨rfl,rfl⟩
 | .pr a b,c=>by
  cases c with
  | no=>have h1:=Mk.c8 a .no;have h2:=Mk.c8 b .no;simp[Mk.meet,Mk.aG,h1,h2]
  | gone=>exact⟨rfl,rfl⟩
  | own _ _=>exact⟨rfl,rfl⟩
  | pr c d=>have h1:=Mk.c8 a c;have h2:=Mk.c8 b d;simp[Mk.meet,Mk.aG,h1,h2]
theorem ag.aG{h:Array Obj}{Pr:BS}:∀(t:Ty){w m:Mk}{x:t.den}{c:List Value}{F:BS},w.aG m=true->ag h Pr t m x c F->
  ∃F1 F2:BS,Sub F1 F/\Sub F2 F/\bz F1 F2/\ag h (fun b=>Pr b\/F2 b) t w x c F1
 | .unit,_,_,_,_,_,_,r=>⟨Nil,Nil,Sub.nil _,Sub.nil _,bz.nil _,by simpa only [ag] using r⟩
 | .int k,_,_,_,_,_,_,r=>⟨Nil,Nil,Sub.nil _,Sub.nil _,bz.nil _,by simpa only [ag] using r⟩
 | .bool,_,_,_,_,_,_,r=>⟨Nil,Nil,Sub.nil _,Sub.nil _,bz.nil _,by simpa only [ag] using r⟩
 | .str,_,_,_,_,_,_,r=>⟨Nil,Nil,Sub.nil _,Sub.nil _,bz.nil _,by simpa only [ag] using r⟩
 | .pair a b,w,m,x,c,F,hw,r=>by
  simp only[ag]at r;obtain⟨ca,cb,Fa,Fb,rfl,ra,rb,sa,sb,d⟩:=r;obtain⟨A1,A2,s1,s2,dA,rA⟩:=ag.aG a (Mk.mH hw) ra;obtain⟨B1,B2,s3,s4,dB,rB⟩:=ag.aG b (Mk.mI hw) rb;refine⟨fun b=>A1 b\/B1 b,fun b=>A2 b\/B2 b,?_,?_,?_,?_⟩
  .rintro z (hz | hz)
   .exact sa z (s1 z hz)
   .exact sb z (s3 z hz)
  .rintro z (hz | hz)
   .exact sa z (s2 z hz)
   .exact sb z (s4 z hz)
  .rintro z (hz | hz) (hy | hy)
   .exact dA z hz hy
   .exact d z (s1 z hz) (s4 z hy)
   .exact d z (s2 z hy) (s3 z hz)
   .exact dB z hz hy
  .simp only[ag];exact⟨ca,cb,A1,B1,rfl,ag.mono (fun z hz=>hz.imp id .inl) (fun _ _=>rfl) a rA (Sub.refl _) (fun _ _=>rfl),
    ag.mono (fun z hz=>hz.imp id .inr) (fun _ _=>rfl) b rB (Sub.refl _) (fun _ _=>rfl),fun z hz=>.inl hz,fun z hz=>.inr hz,d.mono s1 s3⟩
 | .sl t,w,m,xs,c,F,hw,r=>by
  cases w with
  | gone=>
   refine⟨Nil,Nil,Sub.nil _,Sub.nil _,bz.nil _,?_⟩;simp only[ag];cases m<;>simp only[ag]at r
   .obtain⟨a,k,e,_⟩:=r;exact⟨a,_,k,e⟩
   .exact r
   .obtain⟨a,k,e,_⟩:=r;exact⟨a,_,k,e⟩
   .obtain⟨a,k,e,_⟩:=r;exact⟨a,_,k,e⟩
  | no=>
   have hm:m.whole=true:=by cases m<;>simp_all [Mk.aG]
   exact⟨Nil,F,Sub.nil _,Sub.refl _,bz.nil _,ag.share (.sl t) hm r⟩
  | pr w1 w2=>
   refine⟨Nil,Nil,Sub.nil _,Sub.nil _,bz.nil _,?_⟩;have r':ag h Pr (.sl t) .no xs c F:=by cases m<;>simp_all [Mk.aG]<;>simpa only [ag] using r
   have r2:=ag.mono (dD:=fun b=>Pr b\/Nil b) (fun z hz=>.inl hz) (fun _ _=>rfl) (.sl t) r' (Sub.refl _) (fun _ _=>rfl);simpa only [ag] using r2
  | own s wi=>
   cases m with
   | no=>simp[Mk.aG]at hw
   | gone=>simp[Mk.aG]at hw
   | pr _ _=>simp[Mk.aG]at hw
   | own s' mi=>
    simp only[Mk.aG]at hw;simp only[ag]at r;obtain⟨a,cap,rfl,hl,r⟩:=r;rcases r with r | ⟨b,cs,rfl,fb,hb,hs,Fs,hF,hd,re⟩
    .exact⟨Nil,Nil,Sub.nil _,Sub.nil _,bz.nil _,by simp only[ag];exact⟨a,cap,rfl,hl,.inl r⟩⟩
    .have key:∀i,∃F1 F2:BS,Sub F1 (Fs i)/\Sub F2 (Fs i)/\bz F1 F2/\
       (i<xs.length->ag h (fun b=>Pr b\/F2 b) t wi (xs.getD i t.zero) (sub cs (i * t.width) t.width) F1):=by
      intro i;by_cases hi:i<xs.length
      .obtain⟨F1,F2,s1,s2,dd,rr⟩:=ag.aG t hw (re i hi);exact⟨F1,F2,s1,s2,dd,fun _=>rr⟩
      .exact⟨Nil,Nil,Sub.nil _,Sub.nil _,bz.nil _,fun h=>absurd h hi⟩
     obtain⟨F1,key⟩:=mN key;obtain⟨F2,key⟩:=mN key;refine⟨fun z=>z=b\/∃i,F1 i z,fun z=>∃i,F2 i z,?_,?_,?_,?_⟩
     .rintro z (rfl | ⟨i,hz⟩)
      .exact fb
      .exact(hF i).1 z ((key i).1 z hz)
     .rintro z ⟨i,hz⟩;exact(hF i).1 z ((key i).2.1 z hz)
     .rintro z (rfl | ⟨i,hz⟩) ⟨j,hy⟩
      .exact(hF j).2 ((key j).2.1 z hy)
      .by_cases e:i=j
       .subst e;exact(key i).2.2.1 z hz hy
       .exact hd i j e z ((key i).1 z hz) ((key j).2.1 z hy)
     .simp only[ag];refine⟨_,cap,rfl,hl,.inr ⟨b,cs,rfl,.inl rfl,hb,hs,F1,fun i=>⟨fun z hz=>.inr ⟨i,hz⟩,fun hz=>(hF i).2 ((key i).1 _ hz)⟩,
       fun i j e=>(hd i j e).mono (key i).1 (key j).1,fun i hi=>?_⟩⟩
      exact ag.mono (fun z hz=>hz.imp id fun hz=>⟨i,hz⟩) (fun _ _=>rfl) t ((key i).2.2.2 hi) (Sub.refl _) (fun _ _=>rfl)
def bO:(t:Ty)->t.den->Path->Prop
 | _,_,[]=>True
 | .pair a _,x,.fst::p=>bO a x.1 p
 | .pair _ b,x,.snd::p=>bO b x.2 p
 | .sl t,xs,.idx i _::p=>i<xs.length/\bO t (xs.getD i t.zero) p
 | _,_,_::_=>False
abbrev dc:=Option (Nat×Nat)
def a_(h:Array Obj):(t:Ty)->List Value->dc->Path->Option (dc×List Value)
 | _,c,base,[]=>some (base,c)
 | .pair a _,c,base,.fst::p=>a_ h a (c.take a.width) base p
 | .pair a b,c,base,.snd::p=>a_ h b (c.drop a.width) (base.map fun x=>(x.1,x.2+a.width)) p
 | .sl t,c,_,.idx i _::p=>
  match c with
  | [.slice (some ⟨b,0,none⟩) _ _]=>
   match h[b]? with
   | some (.cells cs _ _)=>a_ h t (sub cs (i * t.width) t.width) (some (b,i * t.width)) p
   | _=>none
  | _=>none
 | _,_,_,_::_=>none
def aW(l:List Value)(o:Nat)(c:List Value):List Value:=l.take o++c++l.drop (o+c.length)
theorem tP{l:List Value}{o:Nat}{c:List Value}(h:o+c.length<=l.length):(aW l o c).length=l.length:=by simp[aW];omega
theorem IY{l:List Value}{o:Nat}{c:List Value}(h:o+c.length<=l.length):((aW l o c).drop o).take c.length=c:=by
 have:(l.take o).length=o:=by simp;omega
 simp only[aW,fe];rw[uh (by omega),lH (by omega)];simp
theorem wR{l:List Value}{o:Nat}{c:List Value}(h:o+c.length<=l.length){o' n:Nat}(hd:o'+n<=o\/o+c.length<=o') :
  ((aW l o c).drop o').take n=(l.drop o').take n:=by
 apply kq;intro i;simp only[di,dW];split
 .rename_i hi;simp only[aW];by_cases h1:o'+i<o
  .rw[fe,fo (by simp;omega),di];simp[h1]
  .have h2:o+c.length<=o'+i:=by omega
   rw[fW (by simp;omega),dW];congr 1;simp;omega
 .rfl
def qD(h:Array Obj)(base:dc)(c:List Value)(F:BS):Prop:=
 ∀b o,base=some (b,o)->¬ F b/\∃cs,fI h b cs/\o+c.length<=cs.size/\sub cs o c.length=c
def qT(h h2:Array Obj)(base:dc)(c2:List Value):Prop:=
 ∀b o,base=some (b,o)->∀cs,fI h b cs->∃dL:Array Value,fI h2 b dL/\dL.toList=aW cs.toList o c2
def cB:Ty->Path->Nat
 | .pair a _,.fst::p=>cB a p
 | .pair a b,.snd::p=>a.width+cB b p
 | _,_=>0
end
end Go.V
namespace Go.V
noncomputable section
open Go
structure ai where
 Pr:BS
 C:Nat->List Value
 B:Nat->Option Nat
 G:Nat->BS
 hd:Nat->Value
 L:BS
 P0:BS
def ai.bG(g' g:ai):Prop:=g'.hd=g.hd/\g'.L=g.L/\g'.P0=g.P0
theorem ai.bG.refl(g:ai):g.bG g:=⟨rfl,rfl,rfl⟩
theorem ai.bG.trans{a b c:ai}(h:b.bG a)(k:c.bG b):c.bG a:=⟨k.1.trans h.1,k.2.1.trans h.2.1,k.2.2.trans h.2.2⟩
def aA(hd:Nat->Value):Ty->Mk->List Value->Prop
 | .pair a b,m,c=>aA hd a m.fst (c.take a.width)/\aA hd b m.snd (c.drop a.width)
 | .sl _,.own s mi,c=>(1048576<=s->c=[hd s])/\mi.af=true
 | _,_,_=>True
def ai.base(g:ai)(r:Nat):dc:=(g.B r).map fun b=>(b,0)
def bK(t:Ty)(c:List Value):Value:=if t.agg then .agg c.toArray else c.headD undef
theorem ag.slice{h:Array Obj}{Pr:BS}{t:Ty}{m:Mk}{x:(Ty.sl t).den}{c:List Value}{F:BS}(r:ag h Pr (.sl t) m x c F):∃a n k,c=[.slice a n k]:=by
 cases m<;>simp only[ag]at r
 .obtain⟨a,k,e,_⟩:=r;exact⟨a,_,k,e⟩
 .exact r
 .obtain⟨a,k,e,_⟩:=r;exact⟨a,_,k,e⟩
 .obtain⟨a,k,e,_⟩:=r;exact⟨a,_,k,e⟩
theorem tU{h:Array Obj}{Pr:BS}{t:Ty}{m:Mk}{x:t.den}{c:List Value}{F:BS}(r:ag h Pr t m x c F):(bK t c).cells.toList=c:=by
 cases t with
 | unit=>simp only[ag]at r;subst r;simp[bK,Ty.agg,Value.cells]
 | int k=>simp only[ag]at r;subst r;simp[bK,Ty.agg,Value.cells]
 | bool=>simp only[ag]at r;subst r;simp[bK,Ty.agg,Value.cells]
 | str=>simp only[ag]at r;subst r;simp[bK,Ty.agg,Value.cells]
 | pair a b=>simp[bK,Ty.agg,Value.cells]
 | sl t=>obtain⟨a,n,k,rfl⟩:=ag.slice r;simp[bK,Ty.agg,Value.cells]
theorem Kk{h h':Array Obj}{Pr dD:BS}{t:Ty}{m m':Mk}{x x':t.den}{c c':List Value}{F F':BS}
  (r:ag h Pr t m x c F) (r':ag h' dD t m' x' c' F') (e:bK t c=bK t c'):c=c':=by
 rw[<-tU r,<-tU r',e]
section rel
variable (h:Array Obj) (S:St) (g:ai)
def kZ(r:Nat)(p:Path)(s:Nat)(v:Value):Prop:=
 ∀R,S.root r=some R->∀t m xs,focus R.ty R.ms R.x p=some ⟨.sl t,.own s m,xs⟩->
  bO R.ty R.x p/\∃base,a_ h R.ty (g.C r) (g.base r) p=some (base,[v])
def s_(r:Nat)(p:Path)(s lo hi:Nat)(v:Value):Prop:=
 ∀R,S.root r=some R->∀t m xs,focus R.ty R.ms R.x p=some ⟨.sl t,.own s m,xs⟩->
  bO R.ty R.x p/\∃base a n k,a_ h R.ty (g.C r) (g.base r) p=some (base,[.slice a n k])/\lo<=hi/\hi<=n/\
   v=.slice (if k=lo then a else a.map (·.add (lo * t.width))) (hi-lo) (k-lo)
def nD(r:Nat)(p:Path)(v:Value):Prop:=
 ∀R,S.root r=some R->∀d,focus R.ty R.ms R.x p=some d->
  bO R.ty R.x p/\∃b o c,a_ h R.ty (g.C r) (g.base r) p=some (some (b,o),c)/\v=.pointer (some ⟨b,o,none⟩)
def p_(t:Ty)(x:t.den)(v:Value):Prop:=
 ∃b o cs,v=.pointer (some ⟨b,o,none⟩)/\g.Pr b/\mS h b cs/\o+t.width<=cs.size/\ag h g.Pr t .no x (Go.V.sub cs o t.width) Nil
def mA:gh->Value->Prop
 | .val t x,v=>∃c,ag h g.Pr t .no x c Nil/\v=bK t c
 | .bP t x,v=>p_ h g t x v
def jn:List gh->List Value->Prop
 | [],vs=>vs=[]
 | c::l,vs=>∃v vs',vs=v::vs'/\mA h g c v/\jn l vs'
def bR:AV->List Value->Prop
 | .undef,_=>True
 | .unit,c=>c=[]
 | .val t x,c=>ag h g.Pr t .no x c Nil
 | .bu r p s,c=>∃v,c=[v]/\kZ h S g r p s v
 | .pair a b,c=>∃ca cb,c=ca++cb/\bR a ca/\bR b cb
 | _,_=>False
mutual
def qe:AV->Value->Prop
 | .undef,_=>True
 | .skip,v=>v=Go.undef
 | .bA b,v=>v=.bool b
 | .unit,v=>v=.agg #[]
 | .cP,v=>v=.slice none 0 0
 | .val t x,v=>∃c,ag h g.Pr t .no x c Nil/\v=bK t c
 | .bu r p s,v=>kZ h S g r p s v
 | .view r p s lo hi,v=>s_ h S g r p s lo hi v
 | .addr r p,v=>nD h S g r p v
 | .bq t x,v=>p_ h g t x v
 | .pair a b,v=>∃ca cb,v=.agg (ca++cb).toArray/\bR h S g a ca/\bR h S g b cb
 | .fO a,v=>∃vs,v=.tuple vs.toArray/\aC a vs
 | .eV f c,v=>∃vs,v=.func (.func f) #[] vs.toArray/\aC c vs
 | .dK c,v=>∃vs,v=.func (.func c.f) #[] vs.toArray/\jn h g c.caps vs
def aC:AV->List Value->Prop
 | .unit,vs=>vs=[]
 | .pair a b,vs=>∃v vs',vs=v::vs'/\qe a v/\aC b vs'
 | _,_=>False
end
structure aj (tmps:Array Value) (H:BS):Prop where
 len:S.sl.length=tmps.size
 eA:S.rt.length=tmps.size
 slots:∀t,qe h S g (S.get t) (tmps.getD t Go.undef)
 roots:∀r R,S.root r=some R->∃F,ag h g.Pr R.ty R.ms R.x (g.C r) F/\Sub F (g.G r)/\(∀b,g.B r=some b->¬ F b)/\
  (R.mem=true->∃b,g.B r=some b/\g.G r b/\fI h b (g.C r).toArray)/\(R.mem=false->g.B r=none)
 cj:∀r r',r≠r'->(S.root r).isSome->(S.root r').isSome->bz (g.G r) (g.G r')
 ck:∀r,(S.root r).isSome->bz (g.G r) g.Pr
 hand:∀r,(S.root r).isSome->bz (g.G r) H
 aR:bz H g.Pr
 aV:∀b,g.Pr b->b<h.size
 bk:∀r b,(S.root r).isSome->g.G r b->b<h.size
 cv:∀b,H b->b<h.size
 tag:∀r R,S.root r=some R->aA g.hd R.ty R.ms (g.C r)
 own:∀r b,(S.root r).isSome->g.G r b->g.L b
 cQ:∀b,H b->g.L b
 dN:∀b,h.size<=b->g.L b
 p0:Sub g.P0 g.Pr
 gM:∀b,g.Pr b->g.P0 b\/g.L b
end rel
section keep
variable (h h':Array Obj) (S S':St) (g g':ai)
def m8(r:Nat)(p:Path):Prop:=
 ∀R',S'.root r=some R'->∀d',focus R'.ty R'.ms R'.x p=some d'->
  ∃R d,S.root r=some R/\focus R.ty R.ms R.x p=some d/\(bO R.ty R.x p->bO R'.ty R'.x p/\
   ∀base c,a_ h R.ty (g.C r) (g.base r) p=some (base,c)->∃c',a_ h' R'.ty (g'.C r) (g'.base r) p=some (base,c'))
def lq(r:Nat)(p:Path)(s:Nat):Prop:=
 ∀R',S'.root r=some R'->∀t m xs,focus R'.ty R'.ms R'.x p=some ⟨.sl t,.own s m,xs⟩->
  ∃R m0 yI,S.root r=some R/\focus R.ty R.ms R.x p=some ⟨.sl t,.own s m0,yI⟩/\(bO R.ty R.x p->bO R'.ty R'.x p/\
   ∀base c,a_ h R.ty (g.C r) (g.base r) p=some (base,c)->a_ h' R'.ty (g'.C r) (g'.base r) p=some (base,c))
def AV.bT:AV->Prop
 | .bu r p s=>lq h h' S S' g g' r p s
 | .view r p s _ _=>lq h h' S S' g g' r p s
 | .addr r p=>m8 h h' S S' g g' r p
 | .pair a b=>a.bT/\b.bT
 | .fO a=>a.bT
 | .eV _ a=>a.bT
 | _=>True
variable {h h' S S' g g'}
theorem kZ.keep{r:Nat}{p:Path}{s:Nat}{v:Value}(x:kZ h S g r p s v)(k:lq h h' S S' g g' r p s):kZ h' S' g' r p s v:=by intro R' bt t m xs hf;obtain⟨R,m0,yI,hR,me,hr⟩:=k R' bt t m xs hf;obtain⟨h1,base,h2⟩:=x R hR t m0 yI me;exact⟨(hr h1).1,base,(hr h1).2 _ _ h2⟩
theorem s_.keep{r:Nat}{p:Path}{s lo hi:Nat}{v:Value}(x:s_ h S g r p s lo hi v)(k:lq h h' S S' g g' r p s):s_ h' S' g' r p s lo hi v:=by intro R' bt t m xs hf;obtain⟨R,m0,yI,hR,me,hr⟩:=k R' bt t m xs hf;obtain⟨h1,base,a,n,k,h2,h3⟩:=x R hR t m0 yI me;exact⟨(hr h1).1,base,a,n,k,(hr h1).2 _ _ h2,h3⟩
theorem nD.keep{r:Nat}{p:Path}{v:Value}(x:nD h S g r p v)(k:m8 h h' S S' g g' r p):nD h' S' g' r p v:=by intro R' bt d hf;obtain⟨R,d0,hR,me,hr⟩:=k R' bt d hf;obtain⟨h1,b,o,c,h2,h3⟩:=x R hR d0 me;obtain⟨c',h4⟩:=(hr h1).2 _ _ h2;exact⟨(hr h1).1,b,o,c',h4,h3⟩
theorem p_.keep(hp:Sub g.Pr g'.Pr)(hk:∀b,g.Pr b->h'[b]? = h[b]?){t:Ty}{x:t.den}{v:Value}(y:p_ h g t x v):p_ h' g' t x v:=by obtain⟨b,o,cs,e,pb,hb,hs,r⟩:=y;exact⟨b,o,cs,e,hp b pb,hb.congr (hk b pb),hs,ag.mono hp hk t r (Sub.refl _) (fun _ h=>h.elim)⟩
theorem mA.keep(hp:Sub g.Pr g'.Pr)(hk:∀b,g.Pr b->h'[b]? = h[b]?){c:gh}{v:Value}(y:mA h g c v):mA h' g' c v:=by
 cases c with
 | val t x=>obtain⟨c,r,e⟩:=y;exact⟨c,ag.mono hp hk t r (Sub.refl _) (fun _ h=>h.elim),e⟩
 | bP t x=>exact p_.keep hp hk y
theorem jn.keep(hp:Sub g.Pr g'.Pr)(hk:∀b,g.Pr b->h'[b]? = h[b]?):∀{l:List gh}{vs:List Value},jn h g l vs->jn h' g' l vs
 | [],_,y=>y
 | c::l,_,y=>by
  obtain⟨v,vs',e,h1,h2⟩:=y;exact⟨v,vs',e,mA.keep hp hk h1,jn.keep hp hk h2⟩
theorem bR.keep(hp:Sub g.Pr g'.Pr)(hk:∀b,g.Pr b->h'[b]? = h[b]?):∀{a:AV}{c:List Value},bR h S g a c->a.bT h h' S S' g g'->bR h' S' g' a c
 | .undef,_,_,_=>trivial
 | .unit,_,y,_=>y
 | .val t x,_,y,_=>ag.mono hp hk t y (Sub.refl _) (fun _ h=>h.elim)
 | .bu r p s,_,y,k=>by obtain⟨v,e,y⟩:=y;exact⟨v,e,y.keep k⟩
 | .pair a b,_,y,k=>by
  obtain⟨ca,cb,e,y1,y2⟩:=y;exact⟨ca,cb,e,bR.keep hp hk y1 k.1,bR.keep hp hk y2 k.2⟩
 | .skip,_,y,_=>y.elim
 | .bA _,_,y,_=>y.elim
 | .cP,_,y,_=>y.elim
 | .view _ _ _ _ _,_,y,_=>y.elim
 | .addr _ _,_,y,_=>y.elim
 | .bq _ _,_,y,_=>y.elim
 | .fO _,_,y,_=>y.elim
 | .eV _ _,_,y,_=>y.elim
 | .dK _,_,y,_=>y.elim
theorem qe.keep(hp:Sub g.Pr g'.Pr)(hk:∀b,g.Pr b->h'[b]? = h[b]?):∀(a:AV),(∀v,qe h S g a v->a.bT h h' S S' g g'->qe h' S' g' a v)/\
  (∀vs,aC h S g a vs->a.bT h h' S S' g g'->aC h' S' g' a vs):=by
 intro a
 induction a with
 | undef=>exact⟨fun _ _ _=>by simp only[qe],fun _ y _=>by simp only[aC]at y⟩
 | skip=>exact⟨fun _ y _=>by simpa only [qe] using y,fun _ y _=>by simp only[aC]at y⟩
 | bA b=>exact⟨fun _ y _=>by simpa only [qe] using y,fun _ y _=>by simp only[aC]at y⟩
 | unit=>exact⟨fun _ y _=>by simpa only [qe] using y,fun _ y _=>by simpa only [aC] using y⟩
 | cP=>exact⟨fun _ y _=>by simpa only [qe] using y,fun _ y _=>by simp only[aC]at y⟩
 | val t x=>refine⟨fun v y _=>?_,fun _ y _=>by simp only[aC]at y⟩;simp only[qe]at y⊢;obtain⟨c,r,e⟩:=y;exact⟨c,ag.mono hp hk t r (Sub.refl _) (fun _ h=>h.elim),e⟩
 | bu r p s=>exact⟨fun v y k=>by simp only[qe]at y⊢;exact y.keep k,fun _ y _=>by simp only[aC]at y⟩
 | view r p s lo hi=>exact⟨fun v y k=>by simp only[qe]at y⊢;exact y.keep k,fun _ y _=>by simp only[aC]at y⟩
 | addr r p=>exact⟨fun v y k=>by simp only[qe]at y⊢;exact y.keep k,fun _ y _=>by simp only[aC]at y⟩
 | bq t x=>exact⟨fun v y k=>by simp only[qe]at y⊢;exact p_.keep hp hk y,fun _ y _=>by simp only[aC]at y⟩
 | pair a b dI gH=>
  refine⟨fun v y k=>?_,fun vs y k=>?_⟩
  .simp only[qe]at y⊢;obtain⟨ca,cb,e,y1,y2⟩:=y;exact⟨ca,cb,e,bR.keep hp hk y1 k.1,bR.keep hp hk y2 k.2⟩
  .simp only[aC]at y⊢;obtain⟨v,vs',e,y1,y2⟩:=y;exact⟨v,vs',e,dI.1 v y1 k.1,gH.2 vs' y2 k.2⟩
 | fO a dI=>refine⟨fun v y k=>?_,fun _ y _=>by simp only[aC]at y⟩;simp only[qe]at y⊢;obtain⟨vs,e,y⟩:=y;exact⟨vs,e,dI.2 vs y k⟩
 | eV f a dI=>refine⟨fun v y k=>?_,fun _ y _=>by simp only[aC]at y⟩;simp only[qe]at y⊢;obtain⟨vs,e,y⟩:=y;exact⟨vs,e,dI.2 vs y k⟩
 | dK c=>refine⟨fun v y k=>?_,fun _ y _=>by simp only[aC]at y⟩;simp only[qe]at y⊢;obtain⟨vs,e,y⟩:=y;exact⟨vs,e,jn.keep hp hk y⟩
end keep
theorem yw{h h':Array Obj}{Pr:BS}:∀(p:Path){t:Ty}{m:Mk}{x:t.den}{c:List Value}{F:BS}(base:dc){d:Dy},
  ag h Pr t m x c F->focus t m x p=some d->bO t x p->(∀b,F b->h'[b]? = h[b]?)->a_ h' t c base p=a_ h t c base p
 | [],t,m,x,c,F,base,d,_,_,_,_=>by cases t<;>rfl
 | .fst::p,t,m,x,c,F,base,d,r,hf,hr,hk=>by
  cases t with
  | pair a b=>simp only[focus]at hf;simp only[bO]at hr;simp only[ag]at r;obtain⟨ca,cb,Fa,Fb,rfl,ra,rb,sa,sb,dd⟩:=r;simp only[a_];rw[<-ag.width a ra,fL rfl];exact yw p base ra hf hr fun b hb=>hk b (sa b hb)
  | _=>simp[focus]at hf
 | .snd::p,t,m,x,c,F,base,d,r,hf,hr,hk=>by
  cases t with
  | pair a b=>simp only[focus]at hf;simp only[bO]at hr;simp only[ag]at r;obtain⟨ca,cb,Fa,Fb,rfl,ra,rb,sa,sb,dd⟩:=r;simp only[a_];rw[<-ag.width a ra,fz rfl];exact yw p _ rb hf hr fun b hb=>hk b (sb b hb)
  | _=>simp[focus]at hf
 | .idx i s'::p,t,m,xs,c,F,base,d,r,hf,hr,hk=>by
  cases t with
  | sl e=>
   cases m with
   | own s mi=>
    simp only[focus]at hf;by_cases hs:s=s'
    .simp only[hs,aK]at hf;simp only[bO]at hr;obtain⟨hi,hr⟩:=hr;simp only[ag]at r;obtain⟨a,cap,rfl,hl,r⟩:=r;rcases r with r | ⟨b1,cs,rfl,fb,aU,hsz,Fs,hF,lV,re⟩
     .omega
     simp only[a_];rw[hk b1 fb];obtain⟨ty,lo,hi',he,_⟩:=aU;simp only[he];exact yw p _ (re i hi) hf hr fun b hb=>hk b ((hF i).1 b hb)
    .simp[hs]at hf
   | _=>simp[focus]at hf
  | _=>simp[focus]at hf
end
end Go.V
namespace Go.V
noncomputable section
open Go
def q8:Ty->Mk->Path->Option (Ty×Mk)
 | t,m,[]=>some (t,m)
 | .pair a _,m,.fst::p=>q8 a m.fst p
 | .pair _ b,m,.snd::p=>q8 b m.snd p
 | .sl t,.own s m,.idx _ s'::p=>if s=s' then q8 t m p else none
 | _,_,_::_=>none
theorem nT:∀(p:Path){t:Ty}{m:Mk}{x:t.den}{d:Dy},focus t m x p=some d->q8 t m p=some (d.ty,d.ms)
 | [],t,m,x,d,h=>by simp only[focus,ay]at h;subst h;cases t<;>rfl
 | .fst::p,t,m,x,d,h=>by
  cases t with
  | pair a b=>simp only[focus]at h;simp only[q8];exact nT p h
  | _=>simp[focus]at h
 | .snd::p,t,m,x,d,h=>by
  cases t with
  | pair a b=>simp only[focus]at h;simp only[q8];exact nT p h
  | _=>simp[focus]at h
 | .idx i s'::p,t,m,x,d,h=>by
  cases t with
  | sl e=>
   cases m with
   | own s mi=>
    simp only[focus]at h;simp only[q8];split at h
    .rename_i hs;simp only[hs,aK];exact nT p h
    .simp at h
   | _=>simp[focus]at h
  | _=>simp[focus]at h
theorem rI:∀(p:Path){t:Ty}{m:Mk}(x:t.den){t':Ty}{m':Mk},q8 t m p=some (t',m')->∃y,focus t m x p=some ⟨t',m',y⟩
 | [],t,m,x,t',m',h=>by
  have:q8 t m []=some (t,m):=by cases t<;>rfl
  rw[this]at h;simp only[ay,aJ]at h;obtain⟨rfl,rfl⟩:=h;exact⟨x,by simp[focus]⟩
 | .fst::p,t,m,x,t',m',h=>by
  cases t with
  | pair a b=>simp only[q8]at h;simp only[focus];exact rI p x.1 h
  | _=>simp[q8]at h
 | .snd::p,t,m,x,t',m',h=>by
  cases t with
  | pair a b=>simp only[q8]at h;simp only[focus];exact rI p x.2 h
  | _=>simp[q8]at h
 | .idx i s'::p,t,m,x,t',m',h=>by
  cases t with
  | sl e=>
   cases m with
   | own s mi=>
    simp only[q8]at h;simp only[focus];split at h
    .rename_i hs;simp only[hs,aK];exact rI p _ h
    .simp at h
   | _=>simp[q8]at h
  | _=>simp[q8]at h
def Mk.le:(less more:Mk)->Prop
 | .gone,_=>True
 | .no,m=>m=.no
 | .own s a,m=>∃b,m=.own s b/\a.le b
 | .pr a b,m=>∃c d,m=.pr c d/\a.le c/\b.le d
theorem Mk.le_refl:∀m:Mk,m.le m
 | .no=>rfl
 | .gone=>trivial
 | .own s m=>⟨m,rfl,m.le_refl⟩
 | .pr a b=>⟨a,b,rfl,a.le_refl,b.le_refl⟩
theorem Mk.le_trans:∀{a b c:Mk},a.le b->b.le c->a.le c
 | .gone,_,_,_,_=>trivial
 | .no,b,c,h,h'=>by simp only[Mk.le]at h;subst h;exact h'
 | .own s a,b,c,h,h'=>by
  obtain⟨b',rfl,h⟩:=h;obtain⟨c',rfl,h'⟩:=h';exact⟨c',rfl,Mk.le_trans h h'⟩
 | .pr a1 a2,b,c,h,h'=>by
  obtain⟨b1,b2,rfl,h1,h2⟩:=h;obtain⟨c1,c2,rfl,h3,h4⟩:=h';exact⟨c1,c2,rfl,Mk.le_trans h1 h3,Mk.le_trans h2 h4⟩
def Mk.jd(lo hi:Nat)(m:Mk):Mk->Prop
 | .own s b=>(lo<=s/\s<hi)\/∃a,m=.own s a/\Mk.jd lo hi a b
 | .pr c d=>Mk.jd lo hi m.fst c/\Mk.jd lo hi m.snd d
 | _=>True
theorem Mk.ud{lo hi:Nat}{m n:Mk}(h:m.jd lo hi n):m.fst.jd lo hi n.fst:=by
 cases n with
 | no=>trivial
 | gone=>trivial
 | own s b=>trivial
 | pr c d=>exact h.1
theorem Mk.ue{lo hi:Nat}{m n:Mk}(h:m.jd lo hi n):m.snd.jd lo hi n.snd:=by
 cases n with
 | no=>trivial
 | gone=>trivial
 | own s b=>trivial
 | pr c d=>exact h.2
theorem Mk.cE(lo hi:Nat):∀m:Mk,m.jd lo hi m
 | .no=>trivial
 | .gone=>trivial
 | .own s m=>.inr ⟨m,rfl,m.cE lo hi⟩
 | .pr a b=>⟨a.cE lo hi,b.cE lo hi⟩
theorem Mk.gu{lo hi:Nat}:∀{m b:Mk},m.jd lo hi b->m.jd lo hi b.cZ
 | m,.no,_=>trivial
 | m,.gone,_=>trivial
 | m,.own s b,_=>by unfold Mk.cZ;split<;>trivial
 | m,.pr c d,h=>⟨Mk.gu h.1,Mk.gu h.2⟩
theorem Mk.e9{lo hi:Nat}:∀(a:Mk)(m:Mk),m.jd lo hi (a.meet .no)
 | .no,m=>trivial
 | .gone,m=>trivial
 | .own s a,m=>by simp only[Mk.meet];split<;>trivial
 | .pr a b,m=>⟨Mk.e9 a _,Mk.e9 b _⟩
theorem Mk.eR{lo hi:Nat}:∀{a m b:Mk},m.jd lo hi b->m.jd lo hi (a.meet b)
 | .no,m,b,h=>by simpa [Mk.meet] using Mk.gu h
 | .gone,m,b,h=>trivial
 | .own s a,m,b,h=>by
  cases b with
  | no=>simp only[Mk.meet];split<;>trivial
  | gone=>trivial
  | pr _ _=>trivial
  | own s' b=>
   simp only[Mk.meet];rcases h with h | ⟨a',rfl,h⟩
   .exact .inl h
   .exact .inr ⟨a',rfl,Mk.eR h⟩
 | .pr a1 a2,m,b,h=>by
  cases b with
  | no=>exact⟨Mk.e9 a1 _,Mk.e9 a2 _⟩
  | gone=>trivial
  | own s' b=>trivial
  | pr b1 b2=>exact⟨Mk.eR h.1,Mk.eR h.2⟩
def Mk.fresh(lo hi:Nat):Mk->Prop
 | .own s m=>lo<=s/\s<hi
 | .pr a b=>a.fresh lo hi/\b.fresh lo hi
 | _=>True
theorem Mk.cJ{lo hi:Nat}:∀{n:Mk}(m:Mk),n.fresh lo hi->m.jd lo hi n
 | .no,m,_=>trivial
 | .gone,m,_=>trivial
 | .own s b,m,h=>.inl h
 | .pr c d,m,h=>⟨Mk.cJ _ h.1,Mk.cJ _ h.2⟩
theorem sX{lo hi:Nat}:∀(q:Path){t:Ty}{m:Mk}{x:t.den}{t2:Ty}{m2:Mk}{y:t2.den}{m':Mk}{x':t.den},
  put t m x q t2 m2 y=some (m',x')->m2.fresh lo hi->m.jd lo hi m'
 | [],t,m,x,t2,m2,y,m',x',h,hm=>by
  simp only[put]at h;cases hc:qbv t2 t y with
  | none=>rw[hc]at h;simp at h
  | some z=>rw[hc]at h;simp only[bX,ay,aJ]at h;rw[<-h.1];exact Mk.cJ _ hm
 | .fst::q,t,m,x,t2,m2,y,m',x',h,hm=>by
  cases t with
  | pair a b=>
   simp only[put]at h;cases hq:put a m.fst x.1 q t2 m2 y with
   | none=>rw[hq]at h;simp at h
   | some r=>rw[hq]at h;simp only[bX,ay,aJ]at h;rw[<-h.1];exact⟨sX q hq hm,Mk.cE _ _ _⟩
  | _=>simp[put]at h
 | .snd::q,t,m,x,t2,m2,y,m',x',h,hm=>by
  cases t with
  | pair a b=>
   simp only[put]at h;cases hq:put b m.snd x.2 q t2 m2 y with
   | none=>rw[hq]at h;simp at h
   | some r=>rw[hq]at h;simp only[bX,ay,aJ]at h;rw[<-h.1];exact⟨Mk.cE _ _ _,sX q hq hm⟩
  | _=>simp[put]at h
 | .idx i s'::q,t,m,x,t2,m2,y,m',x',h,hm=>by
  cases t with
  | sl e=>
   cases m with
   | own s mi=>
    simp only[put]at h;split at h
    .rename_i hs;cases hq:put e mi (x.getD i e.zero) q t2 m2 y with
     | none=>rw[hq]at h;simp at h
     | some r=>rw[hq]at h;simp only[bX,ay,aJ]at h;rw[<-h.1];exact .inr ⟨mi,rfl,Mk.eR (sX q hq hm)⟩
    .simp at h
   | _=>simp[put]at h
  | _=>simp[put]at h
theorem tN{lo hi:Nat}:∀(p:Path){t:Ty}{m n:Mk}{t':Ty}{n':Mk},m.jd lo hi n->gf lo hi p=true->q8 t n p=some (t',n')->
  ∃m',q8 t m p=some (t',m')/\m'.jd lo hi n'
 | [],t,m,n,t',n',h,_,hf=>by
  have e:∀m,q8 t m []=some (t,m):=fun m=>by cases t<;>rfl
  rw[e]at hf;simp only[ay,aJ]at hf;obtain⟨rfl,rfl⟩:=hf;exact⟨m,e m,h⟩
 | .fst::p,t,m,n,t',n',h,hp,hf=>by
  cases t with
  | pair t1 t2=>simp only[q8]at hf⊢;exact tN p (Mk.ud h) (by simpa [gf] using hp) hf
  | _=>simp[q8]at hf
 | .snd::p,t,m,n,t',n',h,hp,hf=>by
  cases t with
  | pair t1 t2=>simp only[q8]at hf⊢;exact tN p (Mk.ue h) (by simpa [gf] using hp) hf
  | _=>simp[q8]at hf
 | .idx i s'::p,t,m,n,t',n',h,hp,hf=>by
  cases t with
  | sl e=>
   cases n with
   | own s b=>
    simp only[q8]at hf;split at hf
    .rename_i hs;subst hs;simp only[gf,aO,gw,jC]at hp;rcases h with h | ⟨a,rfl,h⟩
     .exfalso;rcases hp.1 with h1 | h1
      .have:Nat.ble lo s=true:=ko h.1;rw[this]at h1;simp at h1
      .have:Nat.blt s hi=true:=ko h.2;rw[this]at h1;simp at h1
     .simp only[q8,aK];exact tN p h hp.2 hf
    .simp at hf
   | _=>simp[q8]at hf
  | _=>simp[q8]at hf
end
end Go.V
namespace Go.V
noncomputable section
open Go
abbrev Un(F G:BS):BS:=fun b=>F b\/G b
theorem HP{a b c:List Value}{o:Nat}(h:o+c.length<=a.length):aW (a++b) o c=aW a o c++b:=by simp only[aW];rw[mM (by omega),uh (by omega)];simp
theorem HI{a b c:List Value}{o:Nat}:aW (a++b) (a.length+o) c=a++aW b o c:=by simp only[aW];rw[List.take_append,n6 (by omega),wC,lH (by omega)];simp[Nat.add_sub_cancel_left,wm]
theorem sA{a c:List Value}(h:c.length=a.length):aW a 0 c=c:=by simp[aW,h]
theorem Bw{cs:Array Value}{o:Nat}{a b:List Value}(h:sub cs o (a++b).length=a++b) :
  sub cs o a.length=a/\sub cs (o+a.length) b.length=b:=by
 simp only[sub,cS]at h⊢;constructor
 .have:=congrArg (List.take a.length) h;rw[nF]at this;simpa [sN (Nat.le_add_right _ _)] using this
 .have:=congrArg (List.drop a.length) h;rw[AZ,lP]at this;simpa using this
theorem fI.uniq{h:Array Obj}{b:Nat}{cs cs':Array Value}(x:fI h b cs)(y:fI h b cs'):cs=cs':=by obtain⟨e,lo,hi,he,_⟩:=x;obtain⟨e',lo',hi',he',_⟩:=y;rw[he]at he';simp at he';exact he'.1
theorem tL:∀p:Path,gf 0 0 p=true
 | []=>rfl
 | .fst::p=>tL p
 | .snd::p=>tL p
 | .idx i s::p=>by
  have:Nat.blt s 0=false:=rfl;simp[gf,this,tL p]
theorem BA{lo hi s:Nat}(h:lo<=s/\s<hi):(!(Nat.ble lo s&&Nat.blt s hi))=false:=by have e1:Nat.ble lo s=true:=ko h.1;have e2:Nat.blt s hi=true:=ko h.2;simp[e1,e2]
theorem uO{lo hi:Nat}:∀(p:Path){t:Ty}{m:Mk}{t':Ty}{m':Mk},m.fresh lo hi->gf lo hi p=true->q8 t m p=some (t',m')->
  qx p=false/\m'.fresh lo hi
 | [],t,m,t',m',h,_,hf=>by
  have e:∀m,q8 t m []=some (t,m):=fun m=>by cases t<;>rfl
  rw[e]at hf;simp only[ay,aJ]at hf;exact⟨rfl,hf.2 ▸ h⟩
 | .fst::p,t,m,t',m',h,hp,hf=>by
  cases t with
  | pair a b=>
   simp only[q8]at hf;have:m.fst.fresh lo hi:=by cases m<;>first | exact h.1 | trivial
   exact uO p this (by simpa [gf] using hp) hf
  | _=>simp[q8]at hf
 | .snd::p,t,m,t',m',h,hp,hf=>by
  cases t with
  | pair a b=>
   simp only[q8]at hf;have:m.snd.fresh lo hi:=by cases m<;>first | exact h.2 | trivial
   exact uO p this (by simpa [gf] using hp) hf
  | _=>simp[q8]at hf
 | .idx i s'::p,t,m,t',m',h,hp,hf=>by
  cases t with
  | sl e=>
   cases m with
   | own s mi=>
    simp only[q8]at hf;split at hf
    .rename_i hs;subst hs;simp only[gf,aO]at hp;rw[BA h]at hp;simp at hp
    .simp at hf
   | _=>simp[q8]at hf
  | _=>simp[q8]at hf
theorem pZ:∀(p:Path){t:Ty}{m:Mk}{t':Ty}{m':Mk}(x:t.den),qx p=false->q8 t m p=some (t',m')->bO t x p
 | [],t,_,_,_,x,_,_=>by cases t<;>trivial
 | .fst::p,t,m,t',m',x,hp,hf=>by
  cases t with
  | pair a b=>simp only[q8]at hf;simp only[bO];exact pZ p x.1 hp hf
  | _=>simp[q8]at hf
 | .snd::p,t,m,t',m',x,hp,hf=>by
  cases t with
  | pair a b=>simp only[q8]at hf;simp only[bO];exact pZ p x.2 hp hf
  | _=>simp[q8]at hf
 | .idx i s::p,_,_,_,_,_,hp,_=>by simp[qx]at hp
theorem uS{h h':Array Obj}:∀(p:Path){t:Ty}(c c':List Value)(base:dc){bp:dc}{cp:List Value},qx p=false->a_ h t c base p=some (bp,cp)->
  ∃fh,a_ h' t c' base p=some (bp,fh)
 | [],t,c,c',base,bp,cp,_,ha=>by
  have e:∀h c,a_ h t c base []=some (base,c):=fun h c=>by cases t<;>rfl
  rw[e]at ha;simp only[ay,aJ]at ha;exact⟨c',by rw[e,ha.1]⟩
 | .fst::p,t,c,c',base,bp,cp,hp,ha=>by
  cases t with
  | pair a b=>simp only[a_]at ha⊢;exact uS p _ _ base hp ha
  | _=>simp[a_]at ha
 | .snd::p,t,c,c',base,bp,cp,hp,ha=>by
  cases t with
  | pair a b=>simp only[a_]at ha⊢;exact uS p _ _ _ hp ha
  | _=>simp[a_]at ha
 | .idx i s::p,_,_,_,_,_,_,hp,_=>by simp[qx]at hp
theorem Iv{w i n o:Nat}{l l2 c2:List Value}(ht:l2=aW l (i * w+o) c2)(hfit:i * w+w<=l.length)(ho:o+c2.length<=w) :
  ((l2.drop (i * w)).take w=aW ((l.drop (i * w)).take w) o c2)/\∀j,j≠i->(l2.drop (j * w)).take w=(l.drop (j * w)).take w:=by
 subst ht;have hf:i * w+o+c2.length<=l.length:=by omega
 constructor
 .apply kq;intro k;simp only[aW,di,dW];by_cases hk':k<w
  .simp only[hk',aK];by_cases Sn:k<o
   .rw[fe,fo (by simp;omega),fe,fo (by simp;omega)];simp only[di,dW];rw[aE (by omega),aE (by omega),aE (by omega)]
   .by_cases hk2:k<o+c2.length
    .rw[fe,fW (by simp;omega),fo (by simp;omega),fe,
      fW (by simp;omega),fo (by simp;omega)]
     congr 1;simp;omega
    .rw[fW (by simp;omega),fW (by simp;omega)];simp only[dW,di];simp only[cS,dX,n7];rw[aE (by omega)];congr 1;omega
  .simp only[hk',bY];rw[iD (by simp;omega)]
 .intro j hj;apply wR hf;rcases Nat.lt_or_gt_of_ne hj with h1 | h1
  .left;have:=cq w (show j+1<=i by omega);rw[fl,pE]at this;omega
  .right;have:=cq w (show i+1<=j by omega);rw[fl,pE]at this;omega
structure Zip (h:Array Obj) (Pr:BS) (p:Path) (t:Ty) (m:Mk) (x:t.den) (c:List Value) (F:BS) (base:dc) (d:Dy) (base':dc) (c':List Value) (F' Fr:BS):Prop where
 at_:a_ h t c base p=some (base',c')
 rep:ag h Pr d.ty d.ms d.x c' F'
 ok:qD h base' c' F'
 sub:Sub F' F
 fr:Sub Fr F
 cj:bz F' Fr
 home:∀b o,base'=some (b,o)->Fr b\/∃o0,base=some (b,o0)
 idx:qx p=true->∃b o,base'=some (b,o)/\Fr b
 plain:qx p=false->base'=base.map (fun z=>(z.1,z.2+cB t p))/\c'=(c.drop (cB t p)).take d.ty.width/\cB t p+d.ty.width<=c.length
 n5:∀(h2:Array Obj)(eg:BS)(m2:Mk)(y:d.ty.den)(c2:List Value)(F2:BS)(m':Mk)(x':t.den),
  Sub Pr eg->(∀b,Pr b->h2[b]? = h[b]?)->(∀b,Fr b->(∀o,base'≠some (b,o))->h2[b]? = h[b]?)->qT h h2 base' c2->
  ag h2 eg d.ty m2 y c2 F2->bz F2 Fr->put t m x p d.ty m2 y=some (m',x')->
  ∃F3 D3:BS,Sub F3 (Un Fr F2)/\Sub D3 (Un Fr F2)/\bz F3 D3/\ag h2 (Un eg D3) t m' x' (if qx p then c else aW c (cB t p) c2) F3
 paths:∀(lo hi:Nat)(h2:Array Obj)(m2:Mk)(y:d.ty.den)(c2:List Value)(m':Mk)(x':t.den),
  (∀b,Fr b->(∀o,base'≠some (b,o))->h2[b]? = h[b]?)->qT h h2 base' c2->c2.length=d.ty.width->put t m x p d.ty m2 y=some (m',x')->d.ms.jd lo hi m2->
  (∀p' t1 n1,gf lo hi p'=true->q8 d.ty m2 p'=some (t1,n1)->bO d.ty d.x p'->bO d.ty y p'/\∀bp cp,a_ h d.ty c' base' p'=some (bp,cp)->
   ∃fh,a_ h2 d.ty c2 base' p'=some (bp,fh)/\(∀s a,n1=.own s a->¬ (lo<=s/\s<hi)->fh=cp))->
  m.jd lo hi m'/\∀p' t1 n1,gf lo hi p'=true->q8 t m' p'=some (t1,n1)->bO t x p'->bO t x' p'/\∀bp cp,a_ h t c base p'=some (bp,cp)->
   ∃fh,a_ h2 t (if qx p then c else aW c (cB t p) c2) base p'=some (bp,fh)/\(∀s a,n1=.own s a->¬ (lo<=s/\s<hi)->fh=cp)
theorem D6(t:Ty)(x:t.den):qbv t t x=some x:=by simp[qbv]
theorem zip{h:Array Obj}{Pr:BS}:∀(p:Path)(t:Ty)(m:Mk)(x:t.den)(c:List Value)(F:BS)(base:dc)(d:Dy),
  ag h Pr t m x c F->focus t m x p=some d->bO t x p->qD h base c F->
  ∃base' c' F' Fr,Zip h Pr p t m x c F base d base' c' F' Fr
 | [],t,m,x,c,F,base,d,r,hf,_,hb=>by
  simp only[focus,ay]at hf;subst hf;refine⟨base,c,F,Nil,by cases t<;>rfl,r,hb,Sub.refl _,Sub.nil _,fun _ _ h=>h.elim,fun b o e=>.inr ⟨o,e⟩,by simp[qx],?_,?_,?_⟩
  .intro _;refine⟨by cases base<;>simp[cB],?_,?_⟩
   .simp[cB,<-ag.width t r]
   .simp[cB,ag.width t r]
  .intro h2 eg m2 y c2 F2 m' x' hp _ _ _ r2 _ hput;have e0:cB t []=0:=by cases t<;>rfl
   simp only[put,D6,bX,ay,aJ]at hput;obtain⟨rfl,rfl⟩:=hput;refine⟨F2,Nil,fun b hb=>.inr hb,Sub.nil _,fun _ _ h=>h.elim,?_⟩;simp only[qx,cL,bY,e0];rw[sA (by rw[ag.width t r2,ag.width t r])];exact ag.mono (fun b hb=>.inl hb) (fun _ _=>rfl) t r2 (Sub.refl _) (fun _ _=>rfl)
  .intro lo hi h2 m2 y c2 m' x' _ _ hc hput om hbase;have e0:cB t []=0:=by cases t<;>rfl
   simp only[put,D6,bX,ay,aJ]at hput;obtain⟨rfl,rfl⟩:=hput;refine⟨om,?_⟩;simp only[qx,cL,bY,e0];rw[sA (by rw[hc,ag.width t r])];exact hbase
 | .fst::p,t,m,x,c,F,base,d,r,hf,hr,hb=>by
  cases t with
  | pair a b=>
   simp only[focus]at hf;simp only[bO]at hr;simp only[ag]at r;obtain⟨ca,cb,Fa,Fb,rfl,ra,rb,sa,sb,dd⟩:=r;have wa:=ag.width a ra;have hba:qD h base ca Fa:=by intro b' o e;obtain⟨h1,cs,h2,h3,h4⟩:=hb b' o e;exact⟨fun hz=>h1 (sa _ hz),cs,h2,by simp at h3;omega,(Bw h4).1⟩
   obtain⟨base',c',F',Fr,z⟩:=zip p a m.fst x.1 ca Fa base d ra hf hr hba;refine⟨base',c',F',Un Fr Fb,?_,z.rep,z.ok,z.sub.trans sa,?_,?_,?_,?_,?_,?_,?_⟩
   .simp only[a_];rw[<-wa,fL rfl];exact z.at_
   .rintro y (hy | hy)
    .exact sa y (z.fr y hy)
    .exact sb y hy
   .rintro y hy (hz | hz)
    .exact z.cj y hy hz
    .exact dd y (z.sub y hy) hz
   .intro b' o e;exact(z.home b' o e).imp .inl id
   .intro e;obtain⟨b',o,e1,e2⟩:=z.idx (by simpa [qx] using e);exact⟨b',o,e1,.inl e2⟩
   .intro e;obtain⟨e1,e2,e3⟩:=z.plain (by simpa [qx] using e);refine⟨by simpa [cB] using e1,?_,by simp[cB];omega⟩;rw[e2];simp only[cB];rw[uh (by omega),mM (by simp;omega)]
   .intro h2 eg m2 y c2 F2 m' x' hp hpk hk hu r2 hd hput;simp only[put]at hput;cases hq:put a m.fst x.1 p d.ty m2 y with
    | none=>simp[hq]at hput
    | some q=>
     simp only[hq,bX,ay,aJ]at hput;obtain⟨rfl,rfl⟩:=hput;obtain⟨F3,D3,s3,sd,d3,r3⟩:=z.n5 h2 eg m2 y c2 F2 q.1 q.2 hp hpk (fun b' hb' hn=>hk b' (.inl hb') hn) hu r2 (hd.mono (Sub.refl _) fun b hb=>.inl hb) hq;refine⟨Un F3 Fb,D3,?_,?_,?_,?_⟩
     .rintro b' (hz | hz)
      .rcases s3 b' hz with hz | hz
       .exact .inl (.inl hz)
       .exact .inr hz
      .exact .inl (.inr hz)
     .intro b' hz;rcases sd b' hz with hz | hz
      .exact .inl (.inl hz)
      .exact .inr hz
     .rintro b' (hz | hz) hy
      .exact d3 b' hz hy
      .rcases sd b' hy with hy | hy
       .exact dd b' (z.fr b' hy) hz
       .exact hd b' hy (.inr hz)
     .have GA:∀b',Fb b'->h2[b']? = h[b']?:=by
       intro b' hb';refine hk b' (.inr hb') fun o e=>?_;rcases z.home b' o e with h1 | ⟨o0,h1⟩
       .exact dd b' (z.fr b' h1) hb'
       .exact(hb b' o0 h1).1 (sb b' hb')
      have rb':=ag.mono (dD:=Un eg D3) (fun b' hz=>.inl (hp b' hz)) hpk b rb (Sub.refl _) GA;have fD:c2.length=d.ty.width:=ag.width d.ty r2;simp only[ag];refine⟨if qx p then ca else aW ca (cB a p) c2,cb,F3,Fb,?_,r3,rb',fun _ h=>.inl h,fun _ h=>.inr h,?_⟩
      .simp only[qx];by_cases hi:qx p=true
       .simp[hi]
       .have hi':qx p=false:=by simpa using hi
        have:=(z.plain hi').2.2;simp only[hi',cL,bY,cB];rw[HP (by omega)]
      .intro b' hz hy;rcases s3 b' hz with hz | hz
       .exact dd b' (z.fr b' hz) hy
       .exact hd b' hz (.inr hy)
   .intro lo hi h2 m2 y c2 m' x' hk hu hc hput om hbase;simp only[put]at hput;cases hq:put a m.fst x.1 p d.ty m2 y with
    | none=>rw[hq]at hput;simp at hput
    | some rr=>
     rw[hq]at hput;simp only[bX,ay,aJ]at hput;obtain⟨rfl,rfl⟩:=hput;obtain⟨ny,eI⟩:=z.paths lo hi h2 m2 y c2 rr.1 rr.2 (fun b' hb' hn=>hk b' (.inl hb') hn) hu hc hq om hbase;have hnew:(if qx (.fst::p) then ca++cb else aW (ca++cb) (cB (.pair a b) (.fst::p)) c2)=(if qx p then ca else aW ca (cB a p) c2)++cb:=by
      simp only[qx,cB];by_cases hi':qx p=true
      .simp[hi']
      .have iS:qx p=false:=by simpa using hi'
       have:=(z.plain iS).2.2;simp only[iS,cL,bY];rw[HP (by omega)]
     have hlen:(if qx p then ca else aW ca (cB a p) c2).length=a.width:=by
      by_cases hi':qx p=true
      .simp[hi',wa]
      .have iS:qx p=false:=by simpa using hi'
       have:=(z.plain iS).2.2;simp only[iS,cL,bY];rw[tP (by omega),wa]
     refine⟨⟨ny,Mk.cE _ _ _⟩,?_⟩;rw[hnew];intro p' t1 n1 hp iR hin;cases p' with
     | nil=>refine⟨trivial,fun bp cp hap=>?_⟩;simp only[a_,ay,aJ]at hap⊢;simp only[q8,ay,aJ]at iR;refine⟨_,⟨hap.1,rfl⟩,fun s a' e _=>?_⟩;rw[<-iR.2]at e;simp at e
     | cons p0 p'=>
      cases p0 with
      | fst=>simp only[q8]at iR;simp only[bO]at hin⊢;obtain⟨h1,h3⟩:=eI p' t1 n1 (by simpa [gf] using hp) iR hin;refine⟨h1,fun bp cp hap=>?_⟩;simp only[a_]at hap⊢;rw[<-wa,fL rfl]at hap;rw[<-hlen,fL rfl];exact h3 bp cp hap
      | snd=>
       simp only[q8]at iR;simp only[bO]at hin⊢;refine⟨hin,fun bp cp hap=>?_⟩;simp only[a_]at hap⊢;rw[<-wa,fz rfl]at hap;rw[<-hlen,fz rfl,hlen];obtain⟨y',hy'⟩:=rI p' x.2 iR;have oR:=yw (h':=h2) p' (base.map fun z=>(z.1,z.2+a.width)) rb hy' hin (fun b' hb'=>by
        refine hk b' (.inr hb') fun o e=>?_;rcases z.home b' o e with h1 | ⟨o0,h1⟩
        .exact dd b' (z.fr b' h1) hb'
        .exact(hb b' o0 h1).1 (sb b' hb'))
       rw[oR];rw[wa]at hap;exact⟨cp,hap,fun _ _ _ _=>rfl⟩
      | idx i s=>simp[q8]at iR
  | _=>simp[focus]at hf
 | .snd::p,t,m,x,c,F,base,d,r,hf,hr,hb=>by
  cases t with
  | pair a b=>
   simp only[focus]at hf;simp only[bO]at hr;simp only[ag]at r;obtain⟨ca,cb,Fa,Fb,rfl,ra,rb,sa,sb,dd⟩:=r;have wa:=ag.width a ra;have R7:qD h (base.map fun z=>(z.1,z.2+a.width)) cb Fb:=by intro b' o e;simp only[c5]at e;obtain⟨⟨b0,o0⟩,e,e'⟩:=e;simp only[aJ]at e';obtain⟨rfl,rfl⟩:=e';obtain⟨h1,cs,h2,h3,h4⟩:=hb b0 o0 e;exact⟨fun hz=>h1 (sb _ hz),cs,h2,by simp at h3;omega,by rw[<-wa];exact(Bw h4).2⟩
   obtain⟨base',c',F',Fr,z⟩:=zip p b m.snd x.2 cb Fb _ d rb hf hr R7;refine⟨base',c',F',Un Fr Fa,?_,z.rep,z.ok,z.sub.trans sb,?_,?_,?_,?_,?_,?_,?_⟩
   .simp only[a_];rw[<-wa,fz rfl,wa];exact z.at_
   .rintro y (hy | hy)
    .exact sb y (z.fr y hy)
    .exact sa y hy
   .rintro y hy (hz | hz)
    .exact z.cj y hy hz
    .exact dd y hz (z.sub y hy)
   .intro b' o e;rcases z.home b' o e with h1 | ⟨o0,h1⟩
    .exact .inl (.inl h1)
    .simp only[c5]at h1;obtain⟨⟨b0,o1⟩,h1,h2⟩:=h1;simp only[aJ]at h2;exact .inr ⟨o1,by rw[h1,<-h2.1]⟩
   .intro e;obtain⟨b',o,e1,e2⟩:=z.idx (by simpa [qx] using e);exact⟨b',o,e1,.inl e2⟩
   .intro e;obtain⟨e1,e2,e3⟩:=z.plain (by simpa [qx] using e);refine⟨?_,?_,by simp[cB];omega⟩
    .rw[e1];cases base<;>simp[cB,wm]
    .rw[e2];simp only[cB];rw[show List.drop (a.width+cB b p) (ca++cb)=List.drop (cB b p) cb from by rw[<-lP,<-wa,fz rfl]]
   .intro h2 eg m2 y c2 F2 m' x' hp hpk hk hu r2 hd hput;simp only[put]at hput;cases hq:put b m.snd x.2 p d.ty m2 y with
    | none=>simp[hq]at hput
    | some q=>
     simp only[hq,bX,ay,aJ]at hput;obtain⟨rfl,rfl⟩:=hput;obtain⟨F3,D3,s3,sd,d3,r3⟩:=z.n5 h2 eg m2 y c2 F2 q.1 q.2 hp hpk (fun b' hb' hn=>hk b' (.inl hb') hn) hu r2 (hd.mono (Sub.refl _) fun b hb=>.inl hb) hq;refine⟨Un F3 Fa,D3,?_,?_,?_,?_⟩
     .rintro b' (hz | hz)
      .rcases s3 b' hz with hz | hz
       .exact .inl (.inl hz)
       .exact .inr hz
      .exact .inl (.inr hz)
     .intro b' hz;rcases sd b' hz with hz | hz
      .exact .inl (.inl hz)
      .exact .inr hz
     .rintro b' (hz | hz) hy
      .exact d3 b' hz hy
      .rcases sd b' hy with hy | hy
       .exact dd b' hz (z.fr b' hy)
       .exact hd b' hy (.inr hz)
     .have Gz:∀b',Fa b'->h2[b']? = h[b']?:=by
       intro b' hb';refine hk b' (.inr hb') fun o e=>?_;rcases z.home b' o e with h1 | ⟨o0,h1⟩
       .exact dd b' hb' (z.fr b' h1)
       .simp only[c5]at h1;obtain⟨⟨b0,o1⟩,h1,h2⟩:=h1;simp only[aJ]at h2;obtain⟨rfl,_⟩:=h2;exact(hb b0 o1 h1).1 (sa b0 hb')
      have ra':=ag.mono (dD:=Un eg D3) (fun b' hz=>.inl (hp b' hz)) hpk a ra (Sub.refl _) Gz;have fD:c2.length=d.ty.width:=ag.width d.ty r2;simp only[ag];refine⟨ca,if qx p then cb else aW cb (cB b p) c2,Fa,F3,?_,ra',r3,fun _ h=>.inr h,fun _ h=>.inl h,?_⟩
      .simp only[qx];by_cases hi:qx p=true
       .simp[hi]
       .have hi':qx p=false:=by simpa using hi
        simp only[hi',cL,bY,cB];rw[<-wa,HI]
      .intro b' hy hz;rcases s3 b' hz with hz | hz
       .exact dd b' hy (z.fr b' hz)
       .exact hd b' hz (.inr hy)
   .intro lo hi h2 m2 y c2 m' x' hk hu hc hput om hbase;simp only[put]at hput;cases hq:put b m.snd x.2 p d.ty m2 y with
    | none=>rw[hq]at hput;simp at hput
    | some rr=>
     rw[hq]at hput;simp only[bX,ay,aJ]at hput;obtain⟨rfl,rfl⟩:=hput;obtain⟨ny,eI⟩:=z.paths lo hi h2 m2 y c2 rr.1 rr.2 (fun b' hb' hn=>hk b' (.inl hb') hn) hu hc hq om hbase;have hnew:(if qx (.snd::p) then ca++cb else aW (ca++cb) (cB (.pair a b) (.snd::p)) c2)=ca++(if qx p then cb else aW cb (cB b p) c2):=by
      simp only[qx,cB];by_cases hi':qx p=true
      .simp[hi']
      .have iS:qx p=false:=by simpa using hi'
       simp only[iS,cL,bY];rw[<-wa,HI]
     refine⟨⟨Mk.cE _ _ _,ny⟩,?_⟩;rw[hnew];intro p' t1 n1 hp iR hin;cases p' with
     | nil=>refine⟨trivial,fun bp cp hap=>?_⟩;simp only[a_,ay,aJ]at hap⊢;simp only[q8,ay,aJ]at iR;refine⟨_,⟨hap.1,rfl⟩,fun s a' e _=>?_⟩;rw[<-iR.2]at e;simp at e
     | cons p0 p'=>
      cases p0 with
      | snd=>simp only[q8]at iR;simp only[bO]at hin⊢;obtain⟨h1,h3⟩:=eI p' t1 n1 (by simpa [gf] using hp) iR hin;refine⟨h1,fun bp cp hap=>?_⟩;simp only[a_]at hap⊢;rw[<-wa,fz rfl,wa]at hap;rw[<-wa,fz rfl,wa];exact h3 bp cp hap
      | fst=>
       simp only[q8]at iR;simp only[bO]at hin⊢;refine⟨hin,fun bp cp hap=>?_⟩;simp only[a_]at hap⊢;rw[<-wa,fL rfl]at hap;rw[<-wa,fL rfl];obtain⟨y',hy'⟩:=rI p' x.1 iR;have oR:=yw (h':=h2) p' base ra hy' hin (fun b' hb'=>by
        refine hk b' (.inr hb') fun o e=>?_;rcases z.home b' o e with h1 | ⟨o0,h1⟩
        .exact dd b' hb' (z.fr b' h1)
        .simp only[c5]at h1;obtain⟨⟨b0,o1⟩,h1,h2⟩:=h1;simp only[aJ]at h2;obtain⟨rfl,_⟩:=h2;exact(hb b0 o1 h1).1 (sa b0 hb'))
       rw[oR];exact⟨cp,hap,fun _ _ _ _=>rfl⟩
      | idx i s=>simp[q8]at iR
  | _=>simp[focus]at hf
 | .idx i s'::p,t,m,xs,c,F,base,d,r,hf,hr,hb=>by
  cases t with
  | sl e=>
   cases m with
   | own s mi=>
    simp only[focus]at hf;by_cases hs:s=s'
    .simp only[hs,aK]at hf;simp only[bO]at hr;obtain⟨hi,hr⟩:=hr;simp only[ag]at r;obtain⟨a,cap,rfl,hl,r⟩:=r;rcases r with r | ⟨b1,cs,rfl,fb,aU,hsz,Fs,hF,lV,re⟩
     .omega
     have ri:=re i hi;have wi:=ag.width e ri;have hle:i * e.width+e.width<=cs.size:=by have:=cq e.width (show i+1<=cap by omega);rw[fl,pE]at this;omega
     have R8:qD h (some (b1,i * e.width)) (sub cs (i * e.width) e.width) (Fs i):=by intro b' o e';simp only[ay,aJ]at e';obtain⟨rfl,rfl⟩:=e';refine⟨(hF i).2,cs,aU,by rw[wi];exact hle,?_⟩;rw[wi]
     obtain⟨base',c',F',Fr,z⟩:=zip p e mi (xs.getD i e.zero) _ (Fs i) (some (b1,i * e.width)) d ri hf hr R8;refine⟨base',c',F',fun b=>b=b1\/Fr b\/∃j,j≠i/\Fs j b,?_,z.rep,z.ok,z.sub.trans (hF i).1,?_,?_,?_,?_,by simp[qx],?_,?_⟩
     .simp only[a_];obtain⟨ty,lo,hi',he,_⟩:=aU;simp only[he];exact z.at_
     .rintro b' (rfl | hz | ⟨j,_,hz⟩)
      .exact fb
      .exact(hF i).1 b' (z.fr b' hz)
      .exact(hF j).1 b' hz
     .rintro b' hy (rfl | hz | ⟨j,hj,hz⟩)
      .exact(hF i).2 (z.sub _ hy)
      .exact z.cj b' hy hz
      .exact lV j i hj b' hz (z.sub b' hy)
     .intro b' o e';rcases z.home b' o e' with h1 | ⟨o0,h1⟩
      .exact .inl (.inr (.inl h1))
      .simp only[ay,aJ]at h1;exact .inl (.inl h1.1.symm)
     .intro _;by_cases hp:qx p=true
      .obtain⟨b',o,e1,e2⟩:=z.idx hp;exact⟨b',o,e1,.inr (.inl e2)⟩
      .have rZ:qx p=false:=by simpa using hp
       have:=(z.plain rZ).1;simp only[cr]at this;exact⟨b1,_,this,.inl rfl⟩
     .intro h2 eg m2 y c2 F2 m' x' hp hpk hk hu r2 hd hput;simp only[put,hs,aK]at hput;cases hq:put e mi (xs.getD i e.zero) p d.ty m2 y with
      | none=>rw[hq]at hput;simp at hput
      | some q=>
       rw[hq]at hput;simp only[bX,ay,aJ]at hput;obtain⟨rfl,rfl⟩:=hput;obtain⟨F3,D3,s3,sd,d3,r3⟩:=z.n5 h2 eg m2 y c2 F2 q.1 q.2 hp hpk (fun b' hb' hn=>hk b' (.inr (.inl hb')) hn) hu r2
        (hd.mono (Sub.refl _) fun b hb=>.inr (.inl hb)) hq
       have fD:c2.length=d.ty.width:=ag.width d.ty r2
       -- rQ block behind it
       have mc:∃dL:Array Value,fI h2 b1 dL/\dL.size=cs.size/\
         sub dL (i * e.width) e.width=(if qx p then sub cs (i * e.width) e.width else aW (sub cs (i * e.width) e.width) (cB e p) c2)/\
         ∀j,j≠i->sub dL (j * e.width) e.width=sub cs (j * e.width) e.width:=by
        by_cases hi':qx p=true
        .obtain⟨b',o,e1,e2⟩:=z.idx hi';refine⟨cs,aU.congr (hk b1 (.inl rfl) fun o' e'=>?_),rfl,by simp[hi'],fun _ _=>rfl⟩;rw[e1]at e';simp only[ay,aJ]at e';obtain⟨rfl,_⟩:=e';exact(hF i).2 (z.fr _ e2)
        .have iS:qx p=false:=by simpa using hi'
         obtain⟨e1,e2,e3⟩:=z.plain iS;rw[wi]at e3;simp only[cr]at e1;obtain⟨dL,mX,ht⟩:=hu b1 _ e1 cs aU;have hfit:i * e.width+cB e p+c2.length<=cs.toList.length:=by simp;omega
         refine⟨dL,mX,?_,?_,fun j hj=>?_⟩
         .have:=congrArg List.length ht;rw[tP hfit]at this;simpa using this
         .simp only[iS,cL,bY];simp only[sub];rw[ht];apply kq;intro k;simp only[aW,di,dW];by_cases hk':k<e.width
          .simp only[hk',aK];by_cases Sn:k<cB e p
           .rw[fe,fo (by simp;omega),fe,fo (by simp;omega)];simp only[di,dW];rw[aE (by omega),aE (by omega),aE (by omega)]
           .by_cases hk2:k<cB e p+c2.length
            .rw[fe,fW (by simp;omega),fo (by simp;omega),fe,
              fW (by simp;omega),fo (by simp;omega)]
             congr 1;simp;omega
            .rw[fW (by simp;omega),fW (by simp;omega)];simp only[dW,di];simp only[cS,dX,n7];rw[aE (by omega)];have e5:cs.toList.length=cs.size:=by simp
             congr 1;omega
          .simp only[hk',bY];rw[iD (by simp;omega)]
         .simp only[sub];rw[ht];apply wR hfit;rcases Nat.lt_or_gt_of_ne hj with h1 | h1
          .left;have:=cq e.width (show j+1<=i by omega);rw[fl,pE]at this;omega
          .right;have:=cq e.width (show i+1<=j by omega);rw[fl,pE]at this;omega
       obtain⟨dL,mX,j4,hsi,hsj⟩:=mc;have hmb:=Mk.c8 mi q.1
       -- rQ others
       have GZ:∀j,j≠i->∀b',Fs j b'->h2[b']? = h[b']?:=by
        intro j hj b' hb';refine hk b' (.inr (.inr ⟨j,hj,hb'⟩)) fun o e'=>?_;rcases z.home b' o e' with h1 | ⟨o0,h1⟩
        .exact lV j i hj b' hb' (z.fr b' h1)
        .simp only[ay,aJ]at h1;obtain⟨rfl,_⟩:=h1;exact(hF j).2 hb'
       have key:∀j,∃G1 G2:BS,Sub G1 (if j=i then F3 else Fs j)/\Sub G2 (if j=i then F3 else Fs j)/\bz G1 G2/\
         (j<xs.length->ag h2 (Un (Un eg D3) G2) e (mi.meet q.1) ((xs.set i q.2).getD j e.zero) (sub dL (j * e.width) e.width) G1):=by
        intro j;by_cases hj:j=i
        .subst hj;obtain⟨G1,G2,s1,s2,dd,rr⟩:=ag.aG e hmb.2 r3;refine⟨G1,G2,by simpa using s1,by simpa using s2,dd,fun _=>?_⟩;rw[hsi];have:(xs.set j q.2).getD j e.zero=q.2:=by simp[List.getD,jF,hi]
         rw[this];exact rr
        .by_cases hjl:j<xs.length
         .have rj:=ag.mono (dD:=Un eg D3) (fun b' hz=>.inl (hp b' hz)) hpk e (re j hjl) (Sub.refl _) (GZ j hj);obtain⟨G1,G2,s1,s2,dd,rr⟩:=ag.aG e hmb.1 rj;refine⟨G1,G2,by simpa [hj] using s1,by simpa [hj] using s2,dd,fun _=>?_⟩;rw[hsj j hj];have:(xs.set i q.2).getD j e.zero=xs.getD j e.zero:=by simp[List.getD,jF,Ne.symm hj]
          rw[this];exact rr
         .exact⟨Nil,Nil,Sub.nil _,Sub.nil _,bz.nil _,fun h=>absurd h hjl⟩
       obtain⟨G1,key⟩:=mN key;obtain⟨G2,key⟩:=mN key;have hG:∀j b',(if j=i then F3 else Fs j) b'->(j=i/\(Fr b'\/F2 b'))\/(j≠i/\Fs j b'):=by
        intro j b' hb';by_cases hj:j=i
        .simp only[hj,aK]at hb';exact .inl ⟨hj,s3 b' hb'⟩
        .simp only[hj,bY]at hb';exact .inr ⟨hj,hb'⟩
       have um:∀j k b',j≠k->(if j=i then F3 else Fs j) b'->(if k=i then F3 else Fs k) b'->False:=by
        intro j k b' oe h1 kN;rcases hG j b' h1 with⟨e1,h1⟩ | ⟨e1,h1⟩<;>rcases hG k b' kN with⟨e2,h3⟩ | ⟨e2,h3⟩
        .exact oe (e1.trans e2.symm)
        .rcases h1 with h1 | h1
         .exact lV k i e2 b' h3 (z.fr b' h1)
         .exact hd b' h1 (.inr (.inr ⟨k,e2,h3⟩))
        .rcases h3 with h3 | h3
         .exact lV j i e1 b' h1 (z.fr b' h3)
         .exact hd b' h3 (.inr (.inr ⟨j,e1,h1⟩))
        .exact lV j k oe b' h1 h3
       have zX:∀j,¬ (if j=i then F3 else Fs j) b1:=by
        intro j h1;rcases hG j b1 h1 with⟨e1,h1 | h1⟩ | ⟨e1,h1⟩
        .exact(hF i).2 (z.fr b1 h1)
        .exact hd b1 h1 (.inl rfl)
        .exact(hF j).2 h1
       refine⟨fun b=>b=b1\/∃j,G1 j b,fun b=>D3 b\/∃j,G2 j b,?_,?_,?_,?_⟩
       .rintro b' (rfl | ⟨j,hj⟩)
        .exact .inl (.inl rfl)
        .rcases hG j b' ((key j).1 b' hj) with⟨_,h1 | h1⟩ | ⟨e1,h1⟩
         .exact .inl (.inr (.inl h1))
         .exact .inr h1
         .exact .inl (.inr (.inr ⟨j,e1,h1⟩))
       .rintro b' (hz | ⟨j,hj⟩)
        .rcases sd b' hz with h1 | h1
         .exact .inl (.inr (.inl h1))
         .exact .inr h1
        .rcases hG j b' ((key j).2.1 b' hj) with⟨_,h1 | h1⟩ | ⟨e1,h1⟩
         .exact .inl (.inr (.inl h1))
         .exact .inr h1
         .exact .inl (.inr (.inr ⟨j,e1,h1⟩))
       .rintro b' (rfl | ⟨j,hj⟩) (hz | ⟨k,hk'⟩)
        .rcases sd _ hz with h1 | h1
         .exact(hF i).2 (z.fr _ h1)
         .exact hd _ h1 (.inl rfl)
        .exact zX k ((key k).2.1 _ hk')
        .have h1:=(key j).1 b' hj;by_cases e1:j=i
         .simp only[e1,aK]at h1;exact d3 b' h1 hz
         .simp only[e1,bY]at h1;rcases sd b' hz with kN | kN
          .exact lV j i e1 b' h1 (z.fr b' kN)
          .exact hd b' kN (.inr (.inr ⟨j,e1,h1⟩))
        .by_cases e1:j=k
         .subst e1;exact(key j).2.2.1 b' hj hk'
         .exact um j k b' e1 ((key j).1 b' hj) ((key k).2.1 b' hk')
       .simp only[qx,aK,ag];refine⟨_,cap,by simp,by simpa using hl,.inr ⟨b1,dL,rfl,.inl rfl,mX,by omega,G1,fun j=>⟨fun b' hb'=>.inr ⟨j,hb'⟩,fun h1=>zX j ((key j).1 b1 h1)⟩,
         fun j k oe b' h1 kN=>um j k b' oe ((key j).1 b' h1) ((key k).1 b' kN),fun j hj=>?_⟩⟩
        have hj':j<xs.length:=by simpa using hj
        refine ag.mono (fun b' hb'=>?_) (fun _ _=>rfl) e ((key j).2.2.2 hj') (Sub.refl _) (fun _ _=>rfl);rcases hb' with(hb' | hb') | hb'
        .exact .inl hb'
        .exact .inr (.inl hb')
        .exact .inr (.inr ⟨j,hb'⟩)
     .intro lo hi h2 m2 y c2 m' x' hk hu hc hput om hbase;subst hs;simp only[put,aK]at hput;cases hq:put e mi (xs.getD i e.zero) p d.ty m2 y with
      | none=>rw[hq]at hput;simp at hput
      | some rr=>
       rw[hq]at hput;simp only[bX,ay,aJ]at hput;obtain⟨rfl,rfl⟩:=hput;obtain⟨ny,eI⟩:=z.paths lo hi h2 m2 y c2 rr.1 rr.2 (fun b' hb' hn=>hk b' (.inr (.inl hb')) hn) hu hc hq om hbase;simp only[qx,aK];have mc:∃dL:Array Value,mS h2 b1 dL/\
         sub dL (i * e.width) e.width=(if qx p then sub cs (i * e.width) e.width else aW (sub cs (i * e.width) e.width) (cB e p) c2)/\
         ∀j,j≠i->sub dL (j * e.width) e.width=sub cs (j * e.width) e.width:=by
        by_cases hi2:qx p=true
        .obtain⟨b',o,e1,e2⟩:=z.idx hi2;refine⟨cs,aU.rS.congr (hk b1 (.inl rfl) fun o' e'=>?_),by simp[hi2],fun _ _=>rfl⟩;rw[e1]at e';simp only[ay,aJ]at e';obtain⟨rfl,_⟩:=e';exact(hF i).2 (z.fr _ e2)
        .have yP:qx p=false:=by simpa using hi2
         obtain⟨e1,e2,e3⟩:=z.plain yP;rw[wi]at e3;simp only[cr]at e1;obtain⟨dL,mX,ht⟩:=hu b1 _ e1 cs aU;have yS:=Iv (n:=0) ht (by simpa using hle) (by omega);exact⟨dL,mX.rS,by simp only[yP,cL,bY,sub];exact yS.1,fun j hj=>by simp only[sub];exact yS.2 j hj⟩
       obtain⟨dL,⟨WL,Eo,mX⟩,hsi,hsj⟩:=mc;refine⟨.inr ⟨mi,rfl,Mk.eR ny⟩,?_⟩;intro p' t1 n1 hp iR hin;cases p' with
       | nil=>refine⟨trivial,fun bp cp hap=>?_⟩;simp only[a_,ay,aJ]at hap⊢;exact⟨_,⟨hap.1,rfl⟩,fun _ _ _ _=>hap.2⟩
       | cons p0 p'=>
        cases p0 with
        | fst=>simp[q8]at iR
        | snd=>simp[q8]at iR
        | idx j s1=>
         simp only[q8]at iR;split at iR
         .rename_i fE;subst fE;simp only[gf,aO]at hp;simp only[bO]at hin⊢;obtain⟨hj,hin⟩:=hin;have cz:∀(bp:dc)(cp:List Value),a_ h (.sl e) [.slice (some ⟨b1,0,none⟩) xs.length cap] base (.idx j s::p')=some (bp,cp)->
            a_ h e (sub cs (j * e.width) e.width) (some (b1,j * e.width)) p'=some (bp,cp):=by
           intro bp cp hap;simp only[a_]at hap;obtain⟨ty,lo',iS,he,_⟩:=aU;simp only[he]at hap;exact hap
          have zW:∀(bp:dc)(cp:List Value),a_ h2 e (sub dL (j * e.width) e.width) (some (b1,j * e.width)) p'=some (bp,cp)->
            a_ h2 (.sl e) [.slice (some ⟨b1,0,none⟩) xs.length cap] base (.idx j s::p')=some (bp,cp):=by
           intro bp cp hap;simp only[a_,mX];exact hap
          by_cases hji:j=i
          .subst hji;have hx':(xs.set j rr.2).getD j e.zero=rr.2:=by simp[List.getD,jF,hj]
           have Ho:rr.1.jd 0 0 (mi.meet rr.1):=Mk.eR (Mk.cE 0 0 rr.1);obtain⟨n2,mg,hn2⟩:=tN p' Ho (tL p') iR;obtain⟨h1,h3⟩:=eI p' t1 n2 hp.2 mg hin;refine⟨⟨by simpa using hj,by rw[hx'];exact h1⟩,fun bp cp hap=>?_⟩;obtain⟨fh,h4,h5⟩:=h3 bp cp (cz bp cp hap);rw[<-hsi]at h4;refine⟨fh,zW _ _ h4,fun s2 a2 e2 jR=>?_⟩;subst e2;rcases hn2 with hn2 | ⟨a3,rfl,_⟩
           .omega
           .exact h5 s2 a3 rfl jR
          .have hx':(xs.set i rr.2).getD j e.zero=xs.getD j e.zero:=by simp[List.getD,jF,Ne.symm hji]
           refine⟨⟨by simpa using hj,by rw[hx'];exact hin⟩,fun bp cp hap=>?_⟩;obtain⟨n2,mg,hn2⟩:=tN p' (Mk.eR (a:=mi) ny) hp.2 iR;obtain⟨y',hy'⟩:=rI p' (xs.getD j e.zero) mg;have oR:=yw (h':=h2) p' (some (b1,j * e.width)) (re j hj) hy' hin (fun b' hb'=>by
            refine hk b' (.inr (.inr ⟨j,hji,hb'⟩)) fun o e'=>?_;rcases z.home b' o e' with h1 | ⟨o0,h1⟩
            .exact lV j i hji b' hb' (z.fr b' h1)
            .simp only[ay,aJ]at h1;obtain⟨rfl,_⟩:=h1;exact(hF j).2 hb')
           refine⟨cp,zW _ _ ?_,fun _ _ _ _=>rfl⟩;rw[hsj j hji,oR];exact cz bp cp hap
         .simp at iR
    .simp[hs]at hf
   | _=>simp[focus]at hf
  | _=>simp[focus]at hf
end
theorem AV.ct{h h':Array Obj}{S S':St}{g g':ai}(hA:∀r p,m8 h h' S S' g g' r p)(hB:∀r p s,lq h h' S S' g g' r p s) :
  ∀a:AV,a.bT h h' S S' g g':=by
 intro a
 induction a with
 | bu r p s=>exact hB r p s
 | view r p s lo hi=>exact hB r p s
 | addr r p=>exact hA r p
 | pair a b dI gH=>exact⟨dI,gH⟩
 | fO a dI=>exact dI
 | eV f a dI=>exact dI
 | _=>trivial
theorem AV.pg{lo hi:Nat}{h h':Array Obj}{S S':St}{g g':ai}(hA:∀r p,gf lo hi p=true->m8 h h' S S' g g' r p)
  (hB:∀r p s,gf lo hi p=true->¬ (lo<=s/\s<hi)->lq h h' S S' g g' r p s):∀a:AV,a.aH lo hi=true->a.bT h h' S S' g g':=by
 have hs:∀s,(!(Nat.ble lo s&&Nat.blt s hi))=true->¬ (lo<=s/\s<hi):=by intro s h1 h2;have e1:Nat.ble lo s=true:=ko h2.1;have e2:Nat.blt s hi=true:=ko h2.2;simp[e1,e2]at h1
 intro a
 induction a with
 | bu r p s=>intro h1;simp only[AV.aH,aO]at h1;exact hB r p s h1.2 (hs s h1.1)
 | view r p s lo hi=>intro h1;simp only[AV.aH,aO]at h1;exact hB r p s h1.2 (hs s h1.1)
 | addr r p=>intro h1;exact hA r p h1
 | pair a b dI gH=>intro h1;simp only[AV.aH,aO]at h1;exact⟨dI h1.1,gH h1.2⟩
 | fO a dI=>intro h1;exact dI h1
 | eV f a dI=>intro h1;exact dI h1
 | _=>intro _;trivial
theorem jm{h h':Array Obj}{S S':St}{g g':ai}{tmps:Array Value}{H:BS}(st:aj h S g tmps H){r:Nat}
  (hr:S'.root r=S.root r\/S'.root r=none) (hC:g'.C r=g.C r) (hB:g'.B r=g.B r) (hk:(S.root r).isSome->∀b,g.G r b->h'[b]? = h[b]?) :
  (∀p,m8 h h' S S' g g' r p)/\∀p s,lq h h' S S' g g' r p s:=by
 have key:∀p R' d',S'.root r=some R'->focus R'.ty R'.ms R'.x p=some d'->S.root r=some R'/\(bO R'.ty R'.x p->
   ∀base c,a_ h R'.ty (g.C r) (g.base r) p=some (base,c)->a_ h' R'.ty (g'.C r) (g'.base r) p=some (base,c)):=by
  intro p R' d' bt hf;have hR:S.root r=some R':=by
   rcases hr with e | e
   .rw[<-e];exact bt
   .rw[e]at bt;simp at bt
  refine⟨hR,fun hin base c ha=>?_⟩;obtain⟨F,rep,hF,_⟩:=st.roots r R' hR;have hb:g'.base r=g.base r:=by simp only[ai.base,hB]
  rw[hC,hb,yw p _ rep hf hin fun b hb=>hk (by rw[hR];rfl) b (hF b hb)];exact ha
 constructor
 .intro p R' bt d' hf;obtain⟨h1,h2⟩:=key p R' d' bt hf;exact⟨R',d',h1,hf,fun hin=>⟨hin,fun base c ha=>⟨c,h2 hin base c ha⟩⟩⟩
 .intro p s R' bt t m xs hf;obtain⟨h1,h2⟩:=key p R' _ bt hf;exact⟨R',m,xs,h1,hf,fun hin=>⟨hin,fun base c ha=>h2 hin base c ha⟩⟩
theorem St.ez(S:St)(t:Nat)(v:AV)(u:Nat):(S.set t v).get u=if u=t/\t<S.sl.length then v else S.get u:=by
 simp only[St.get_eq,St.ep,List.getD,jF];by_cases e:t=u
 .subst e;by_cases hl:t<S.sl.length
  .simp[hl]
  .simp[hl]
 .have:¬ u=t:=fun h=>e h.symm;simp[e,this]
theorem St.i_(S:St)(t:Nat)(v:AV)(r:Nat):(S.set t v).root r=S.root r:=rfl
theorem St.bg(S:St)(d:Nat)(x:Option aB)(r:Nat):(S.ak d x).root r=if r=d/\d<S.rt.length then x else S.root r:=by
 simp only[aD.e8,St.ak,aD.aY,List.getD,jF];by_cases e:d=r
 .subst e;by_cases hl:d<S.rt.length
  .simp[hl]
  .simp[hl]
 .have:¬ r=d:=fun h=>e h.symm;simp[e,this]
theorem St.eZ(S:St)(d:Nat)(x:Option aB)(t:Nat):(S.ak d x).get t=S.get t:=rfl
theorem St.j9{S:St}{r:Nat}{R:aB}(h:S.root r=some R):r<S.rt.length:=by
 simp only[aD.e8,List.getD]at h;rcases sP r S.rt.length with h1 | h1
 .exact h1
 .rw[iD h1]at h;simp at h
theorem qe.eE{h:Array Obj}{S S':St}{g:ai}{tmps:Array Value}{H:BS}(st:aj h S g tmps H)(e:S'.rt=S.rt){a:AV}{v:Value}
  (x:qe h S g a v):qe h S' g a v:=by
 have hr:∀r,S'.root r=S.root r:=fun r=>by simp only[St.root,e]
 refine(qe.keep (Sub.refl _) (fun _ _=>rfl) a).1 v x (AV.ct (fun r p=>?_) (fun r p s=>?_) a)
 .exact(jm st (.inl (hr r)) rfl rfl (fun _ _ _=>rfl)).1 p
 .exact(jm st (.inl (hr r)) rfl rfl (fun _ _ _=>rfl)).2 p s
theorem aj.nc{h:Array Obj}{S:St}{g:ai}{tmps:Array Value}{H:BS}(st:aj h S g tmps H)(t:Nat){a:AV}{v:Value}(x:qe h S g a v) :
  aj h (S.set t a) g (tmps.setIfInBounds t v) H where
 len:=by simp[St.ep,st.len]
 eA:=by simp[St.ep,st.eA]
 slots:=by
  intro u;rw[St.ez];have hs:(S.set t a).rt=S.rt:=rfl;by_cases hu:u=t/\t<S.sl.length
  .obtain⟨rfl,hl⟩:=hu;rw[aE ⟨rfl,hl⟩];have:(tmps.setIfInBounds u v).getD u Go.undef=v:=by have:=st.len;simp[Array.getD,Array.getElem_setIfInBounds];omega
   rw[this];exact qe.eE st hs x
  .rw[ax hu];have:(tmps.setIfInBounds t v).getD u Go.undef=tmps.getD u Go.undef:=by
    have hlen:=st.len;simp only[kj,xD];by_cases e:t=u
    .subst e;have hl:¬ t<tmps.size:=fun hl=>hu ⟨rfl,by omega⟩;rw[aE rfl,ax hl,xE (by omega)]
    .rw[ax e]
   rw[this];exact qe.eE st hs (st.slots u)
 roots:=fun r R hR=>st.roots r R hR
 cj:=fun r r' hn h1 h2=>st.cj r r' hn h1 h2
 ck:=fun r h1=>st.ck r h1
 hand:=fun r h1=>st.hand r h1
 aR:=st.aR
 aV:=st.aV
 bk:=fun r b h1 h2=>st.bk r b h1 h2
 cv:=st.cv
 tag:=st.tag
 own:=st.own
 cQ:=st.cQ
 dN:=st.dN
 p0:=st.p0
 gM:=st.gM
theorem aj.forget{h:Array Obj}{S:St}{g:ai}{tmps:Array Value}{H:BS}(st:aj h S g tmps H)(t:Nat):aj h (S.set t .undef) g tmps H where
 len:=by simp[St.ep,st.len]
 eA:=by simp[St.ep,st.eA]
 slots:=by
  intro u;rw[St.ez];by_cases hu:u=t/\t<S.sl.length
  .rw[aE hu];simp only[qe]
  .rw[ax hu];exact qe.eE (S':=S.set t .undef) st rfl (st.slots u)
 roots:=fun r R hR=>st.roots r R hR
 cj:=fun r r' hn h1 h2=>st.cj r r' hn h1 h2
 ck:=fun r h1=>st.ck r h1
 hand:=fun r h1=>st.hand r h1
 aR:=st.aR
 aV:=st.aV
 bk:=fun r b h1 h2=>st.bk r b h1 h2
 cv:=st.cv
 tag:=st.tag
 own:=st.own
 cQ:=st.cQ
 dN:=st.dN
 p0:=st.p0
 gM:=st.gM
theorem Mk.c9{m:Mk}(h:m.af=true):m.fst.af=true:=by cases m<;>simp_all [Mk.af,Mk.fst]
theorem Mk.c_{m:Mk}(h:m.af=true):m.snd.af=true:=by cases m<;>simp_all [Mk.af,Mk.snd]
theorem Mk.eO:∀m:Mk,m.cZ.af=true
 | .no=>rfl
 | .gone=>rfl
 | .own _ m=>by unfold Mk.cZ;split<;>rfl
 | .pr a b=>by simp[Mk.cZ,Mk.af,Mk.eO a,Mk.eO b]
theorem Mk.eN:∀m:Mk,(m.meet .no).af=true
 | .no=>by simp[Mk.meet,Mk.cZ,Mk.af]
 | .gone=>rfl
 | .own _ m=>by simp only[Mk.meet];split<;>rfl
 | .pr a b=>by simp[Mk.meet,Mk.af,Mk.eN a,Mk.eN b]
theorem Mk.b_:∀{a b:Mk},b.af=true->(a.meet b).af=true
 | .no,b,_=>by simpa [Mk.meet] using Mk.eO b
 | .gone,_,_=>rfl
 | .own _ a,b,h=>by
  cases b with
  | no=>simp only[Mk.meet];split<;>rfl
  | gone=>rfl
  | pr _ _=>rfl
  | own s b=>simp only[Mk.meet,Mk.af,aO]at h⊢;exact⟨h.1,Mk.b_ h.2⟩
 | .pr a1 a2,b,h=>by
  cases b with
  | no=>simp[Mk.meet,Mk.af,Mk.eN]
  | gone=>rfl
  | own _ _=>rfl
  | pr c d=>simp only[Mk.meet,Mk.af,aO]at h⊢;exact⟨Mk.b_ h.1,Mk.b_ h.2⟩
theorem jx{a b:Nat}:Nat.blt a b=true↔a<b:=by
 constructor
 .intro h;exact lI h
 .intro h;exact ko h
theorem Mk.bE{s:Nat}(hs:s<1048576):∀{m:Mk},m.af=true->(m.stamp s).af=true
 | .no,_=>rfl
 | .gone,_=>rfl
 | .own s0 m,h=>by
  simp only[Mk.af,Mk.stamp,aO,jx]at h⊢;refine⟨?_,Mk.bE hs h.2⟩;rw[aE h.1];exact hs
 | .pr a b,h=>by
  simp only[Mk.af,Mk.stamp,aO]at h⊢;exact⟨Mk.bE hs h.1,Mk.bE hs h.2⟩
theorem Mk.bQ:∀t:Ty,(Mk.top t).af=true
 | .unit=>rfl
 | .int _=>rfl
 | .bool=>rfl
 | .str=>rfl
 | .sl t=>by simp[Mk.top,Mk.af,jx,Mk.bQ t]
 | .pair a b=>by simp[Mk.top,Mk.af,Mk.bQ a,Mk.bQ b]
theorem Mk.gQ:∀t:Ty,(Mk.mJ t).af=true
 | .unit=>rfl
 | .int _=>rfl
 | .bool=>rfl
 | .str=>rfl
 | .sl t=>Mk.bQ _
 | .pair a b=>by
  cases a<;>simp[Mk.mJ,Mk.af,Mk.bQ,Mk.gQ b]
theorem Mk.lB(hint:Bool)(t:Ty):(Mk.rR hint t).af=true:=by
 unfold Mk.rR;split
 .exact Mk.gQ t
 .exact Mk.bQ t
theorem Mk.fc:∀{m:Mk},m.still=true->m.af=true
 | .no,_=>rfl
 | .gone,h=>by simp[Mk.still]at h
 | .own _ _,h=>by simp[Mk.still]at h
 | .pr a b,h=>by
  simp only[Mk.still,aO]at h;simp[Mk.af,Mk.fc h.1,Mk.fc h.2]
theorem aA.af{hd:Nat->Value}:∀(t:Ty){m:Mk}{c:List Value},m.af=true->aA hd t m c
 | .unit,_,_,_=>by simp only[aA]
 | .int _,_,_,_=>by simp only[aA]
 | .bool,_,_,_=>by simp only[aA]
 | .str,_,_,_=>by simp only[aA]
 | .pair a b,m,c,h=>by simp only[aA];exact⟨aA.af a (Mk.c9 h),aA.af b (Mk.c_ h)⟩
 | .sl t,m,c,h=>by
  cases m with
  | own s mi=>simp only[Mk.af,aO,jx]at h;simp only[aA];exact⟨fun h2=>by omega,h.2⟩
  | no=>simp only[aA]
  | gone=>simp only[aA]
  | pr _ _=>simp only[aA]
theorem aA.gone{hd:Nat->Value}(t:Ty)(c:List Value):aA hd t .gone c:=aA.af t rfl
theorem aA.no{hd:Nat->Value}(t:Ty)(c:List Value):aA hd t .no c:=aA.af t rfl
theorem aA.stamp{hd:Nat->Value}{s:Nat}(hs:s<1048576):∀(t:Ty){m:Mk}{c:List Value},aA hd t m c->aA hd t (m.stamp s) c
 | .unit,_,_,_=>by simp only[aA]
 | .int _,_,_,_=>by simp only[aA]
 | .bool,_,_,_=>by simp only[aA]
 | .str,_,_,_=>by simp only[aA]
 | .pair a b,m,c,h=>by
  simp only[aA]at h⊢;have h1:(m.stamp s).fst=m.fst.stamp s:=by cases m<;>rfl
  have h2:(m.stamp s).snd=m.snd.stamp s:=by cases m<;>rfl
  rw[h1,h2];exact⟨aA.stamp hs a h.1,aA.stamp hs b h.2⟩
 | .sl t,m,c,h=>by
  cases m with
  | own s0 mi=>
   simp only[Mk.stamp,aA]at h⊢;refine⟨fun h2=>?_,Mk.bE hs h.2⟩;split at h2
   .omega
   .rename_i hn;rw[ax hn];exact h.1 h2
  | no=>simp only[Mk.stamp,aA]
  | gone=>simp only[Mk.stamp,aA]
  | pr _ _=>simp only[Mk.stamp,aA]
theorem FG:∀(p:Path){t:Ty}{m m2 m':Mk},gV t m p m2=some m'->m.af=true->m2.af=true->m'.af=true
 | [],t,m,m2,m',h,_,h2=>by
  have:gV t m [] m2=some m2:=by cases t<;>rfl
  rw[this]at h;simp only[ay]at h;rw[<-h];exact h2
 | .fst::p,t,m,m2,m',h,h1,h2=>by
  cases t with
  | pair a b=>simp only[gV,bD,ay]at h;obtain⟨r,hr,rfl⟩:=h;simp only[Mk.af,aO];exact⟨FG p hr (Mk.c9 h1) h2,Mk.c_ h1⟩
  | _=>simp[gV]at h
 | .snd::p,t,m,m2,m',h,h1,h2=>by
  cases t with
  | pair a b=>simp only[gV,bD,ay]at h;obtain⟨r,hr,rfl⟩:=h;simp only[Mk.af,aO];exact⟨Mk.c9 h1,FG p hr (Mk.c_ h1) h2⟩
  | _=>simp[gV]at h
 | .idx i s'::p,t,m,m2,m',h,h1,h2=>by
  cases t with
  | sl e=>
   cases m with
   | own s mi=>
    simp only[gV]at h;split at h
    .simp only[bD,ay]at h;obtain⟨r,hr,rfl⟩:=h;simp only[Mk.af,aO]at h1⊢;exact⟨h1.1,Mk.b_ (FG p hr h1.2 h2)⟩
    .simp at h
   | _=>simp[gV]at h
  | _=>simp[gV]at h
theorem aA.j7{hd:Nat->Value}:∀(p:Path){t:Ty}{m m':Mk}{c:List Value},gV t m p .gone=some m'->aA hd t m c->aA hd t m' c
 | [],t,m,m',c,h,_=>by
  have:gV t m [] .gone=some .gone:=by cases t<;>rfl
  rw[this]at h;simp only[ay]at h;rw[<-h];exact aA.gone t c
 | .fst::p,t,m,m',c,h,hc=>by
  cases t with
  | pair a b=>simp only[gV,bD,ay]at h;obtain⟨r,hr,rfl⟩:=h;simp only[aA]at hc⊢;exact⟨aA.j7 p hr hc.1,hc.2⟩
  | _=>simp[gV]at h
 | .snd::p,t,m,m',c,h,hc=>by
  cases t with
  | pair a b=>simp only[gV,bD,ay]at h;obtain⟨r,hr,rfl⟩:=h;simp only[aA]at hc⊢;exact⟨hc.1,aA.j7 p hr hc.2⟩
  | _=>simp[gV]at h
 | .idx i s'::p,t,m,m',c,h,hc=>by
  cases t with
  | sl e=>
   cases m with
   | own s mi=>
    simp only[gV]at h;split at h
    .simp only[bD,ay]at h;obtain⟨r,hr,rfl⟩:=h;simp only[aA]at hc⊢;exact⟨hc.1,Mk.b_ (FG p hr hc.2 rfl)⟩
    .simp at h
   | _=>simp[gV]at h
  | _=>simp[gV]at h
theorem FE:∀(p:Path){t:Ty}{m:Mk}{x:t.den}{d:Dy},focus t m x p=some d->m.af=true->d.ms.af=true
 | [],t,m,x,d,h,hm=>by simp only[focus,ay]at h;subst h;exact hm
 | .fst::p,t,m,x,d,h,hm=>by
  cases t with
  | pair a b=>simp only[focus]at h;exact FE p h (Mk.c9 hm)
  | _=>simp[focus]at h
 | .snd::p,t,m,x,d,h,hm=>by
  cases t with
  | pair a b=>simp only[focus]at h;exact FE p h (Mk.c_ hm)
  | _=>simp[focus]at h
 | .idx i s'::p,t,m,x,d,h,hm=>by
  cases t with
  | sl e=>
   cases m with
   | own s mi=>
    simp only[focus]at h;simp only[Mk.af,aO]at hm;split at h
    .exact FE p h hm.2
    .simp at h
   | _=>simp[focus]at h
  | _=>simp[focus]at h
theorem aA.at{hd:Nat->Value}{hp:Array Obj}:∀(p:Path){t:Ty}{m:Mk}{x:t.den}{c:List Value}{base base':dc}{c':List Value}{d:Dy},
  aA hd t m c->focus t m x p=some d->a_ hp t c base p=some (base',c')->aA hd d.ty d.ms c'
 | [],t,m,x,c,base,base',c',d,hc,hf,ha=>by
  simp only[focus,ay]at hf;subst hf;have:a_ hp t c base []=some (base,c):=by cases t<;>rfl
  rw[this]at ha;simp only[ay,aJ]at ha;rw[<-ha.2];exact hc
 | .fst::p,t,m,x,c,base,base',c',d,hc,hf,ha=>by
  cases t with
  | pair a b=>simp only[focus]at hf;simp only[a_]at ha;simp only[aA]at hc;exact aA.at p hc.1 hf ha
  | _=>simp[focus]at hf
 | .snd::p,t,m,x,c,base,base',c',d,hc,hf,ha=>by
  cases t with
  | pair a b=>simp only[focus]at hf;simp only[a_]at ha;simp only[aA]at hc;exact aA.at p hc.2 hf ha
  | _=>simp[focus]at hf
 | .idx i s'::p,t,m,x,c,base,base',c',d,hc,hf,ha=>by
  cases t with
  | sl e=>
   cases m with
   | own s mi=>
    simp only[focus]at hf;simp only[aA]at hc;split at hf
    .exact aA.af _ (FE p hf hc.2)
    .simp at hf
   | _=>simp[focus]at hf
  | _=>simp[focus]at hf
theorem EI:∀(p:Path){t:Ty}{m:Mk}{x:t.den}{t2:Ty}{m2:Mk}{y:t2.den}{m':Mk}{x':t.den},
  put t m x p t2 m2 y=some (m',x')->m.af=true->m2.af=true->m'.af=true
 | [],t,m,x,t2,m2,y,m',x',h,_,h2=>by
  simp only[put,bD,ay,aJ]at h;obtain⟨_,_,h,_⟩:=h;rw[<-h];exact h2
 | .fst::p,t,m,x,t2,m2,y,m',x',h,h1,h2=>by
  cases t with
  | pair a b=>simp only[put,bD,ay,aJ]at h;obtain⟨r,hr,rfl,_⟩:=h;simp only[Mk.af,aO];exact⟨EI p hr (Mk.c9 h1) h2,Mk.c_ h1⟩
  | _=>simp[put]at h
 | .snd::p,t,m,x,t2,m2,y,m',x',h,h1,h2=>by
  cases t with
  | pair a b=>simp only[put,bD,ay,aJ]at h;obtain⟨r,hr,rfl,_⟩:=h;simp only[Mk.af,aO];exact⟨Mk.c9 h1,EI p hr (Mk.c_ h1) h2⟩
  | _=>simp[put]at h
 | .idx i s'::p,t,m,x,t2,m2,y,m',x',h,h1,h2=>by
  cases t with
  | sl e=>
   cases m with
   | own s mi=>
    simp only[put]at h;split at h
    .simp only[bD,ay,aJ]at h;obtain⟨r,hr,rfl,_⟩:=h;simp only[Mk.af,aO]at h1⊢;exact⟨h1.1,Mk.b_ (EI p hr h1.2 h2)⟩
    .simp at h
   | _=>simp[put]at h
  | _=>simp[put]at h
theorem xo:∀(p:Path){t:Ty}{m:Mk}{x:t.den}{t2:Ty}{m2:Mk}{y:t2.den}{m':Mk}{x':t.den},
  put t m x p t2 m2 y=some (m',x')->qx p=false->cB t p+t2.width<=t.width
 | [],t,m,x,t2,m2,y,m',x',h,_=>by
  simp only[put,bD,qbv]at h;obtain⟨z,hz,_⟩:=h;split at hz
  .rename_i e;subst e;have:cB t2 []=0:=by cases t2<;>rfl
   omega
  .simp at hz
 | .fst::p,t,m,x,t2,m2,y,m',x',h,hi=>by
  cases t with
  | pair a b=>simp only[put,bD,ay,aJ]at h;obtain⟨r,hr,_⟩:=h;have:=xo p hr (by simpa [qx] using hi);simp only[cB,Ty.width];omega
  | _=>simp[put]at h
 | .snd::p,t,m,x,t2,m2,y,m',x',h,hi=>by
  cases t with
  | pair a b=>simp only[put,bD,ay,aJ]at h;obtain⟨r,hr,_⟩:=h;have:=xo p hr (by simpa [qx] using hi);simp only[cB,Ty.width];omega
  | _=>simp[put]at h
 | .idx i s'::p,t,m,x,t2,m2,y,m',x',h,hi=>by simp[qx]at hi
theorem aA.put{hd:Nat->Value}:∀(p:Path){t:Ty}{m:Mk}{x:t.den}{t2:Ty}{m2:Mk}{y:t2.den}{m':Mk}{x':t.den}{c c2:List Value},
  put t m x p t2 m2 y=some (m',x')->aA hd t m c->aA hd t2 m2 c2->(qx p=true->m2.af=true)->c.length=t.width->c2.length=t2.width->
  aA hd t m' (if qx p then c else aW c (cB t p) c2)
 | [],t,m,x,t2,m2,y,m',x',c,c2,h,hc,h2,_,hl,eH=>by
  simp only[V.put,bD,qbv,ay,aJ]at h;obtain⟨z,hz,rfl,_⟩:=h;split at hz
  .rename_i e;subst e;have:cB t2 []=0:=by cases t2<;>rfl
   rw[this,ax (by simp[qx]),sA (by omega)];exact h2
  .simp at hz
 | .fst::p,t,m,x,t2,m2,y,m',x',c,c2,h,hc,h2,hi,hl,eH=>by
  cases t with
  | pair a b=>
   simp only[V.put,bD,ay,aJ]at h;obtain⟨r,hr,rfl,_⟩:=h;simp only[aA]at hc;simp only[Ty.width]at hl;have hca:(c.take a.width).length=a.width:=by simp;omega
   have ih:=aA.put p hr hc.1 h2 (by simpa [qx] using hi) hca eH;have hx:qx (.fst::p)=qx p:=rfl;have ha:cB (.pair a b) (.fst::p)=cB a p:=rfl;rw[hx,ha];by_cases hp:qx p=true
   .rw[aE hp]at ih⊢;simp only[aA];exact⟨ih,hc.2⟩
   .rw[ax hp]at ih⊢;have hf:=xo p hr (by simpa using hp);have e:aW c (cB a p) c2=aW (c.take a.width) (cB a p) c2++c.drop a.width:=by
     conv=>lhs;rw[<-lJ a.width c]
     exact HP (by omega)
    have Ow:(aW (c.take a.width) (cB a p) c2).length=a.width:=by rw[tP (by omega)];exact hca
    simp only[aA];rw[e,fL Ow,fz Ow];exact⟨ih,hc.2⟩
  | _=>simp[V.put]at h
 | .snd::p,t,m,x,t2,m2,y,m',x',c,c2,h,hc,h2,hi,hl,eH=>by
  cases t with
  | pair a b=>
   simp only[V.put,bD,ay,aJ]at h;obtain⟨r,hr,rfl,_⟩:=h;simp only[aA]at hc;simp only[Ty.width]at hl;have hca:(c.take a.width).length=a.width:=by simp;omega
   have hcb:(c.drop a.width).length=b.width:=by simp;omega
   have ih:=aA.put p hr hc.2 h2 (by simpa [qx] using hi) hcb eH;have hx:qx (.snd::p)=qx p:=rfl;have ha:cB (.pair a b) (.snd::p)=a.width+cB b p:=rfl;rw[hx,ha];by_cases hp:qx p=true
   .rw[aE hp]at ih⊢;simp only[aA];exact⟨hc.1,ih⟩
   .rw[ax hp]at ih⊢;have e:aW c (a.width+cB b p) c2=c.take a.width++aW (c.drop a.width) (cB b p) c2:=by
     conv=>lhs;rw[<-lJ a.width c]
     have:=@HI (c.take a.width) (c.drop a.width) c2 (cB b p);rw[hca]at this;exact this
    simp only[aA];rw[e,fL hca,fz hca];exact⟨hc.1,ih⟩
  | _=>simp[V.put]at h
 | .idx i s'::p,t,m,x,t2,m2,y,m',x',c,c2,h,hc,h2,hi,hl,eH=>by
  cases t with
  | sl e=>
   cases m with
   | own s mi=>
    simp only[V.put]at h;split at h
    .simp only[bD,ay,aJ]at h;obtain⟨r,hr,rfl,_⟩:=h;simp only[qx,aK];simp only[aA]at hc⊢;exact⟨hc.1,Mk.b_ (EI p hr hc.2 (hi rfl))⟩
    .simp at h
   | _=>simp[V.put]at h
  | _=>simp[V.put]at h
theorem ag.gone{h:Array Obj}{Pr:BS}:∀(t:Ty){m:Mk}{x:t.den}{c:List Value}{F:BS},ag h Pr t m x c F->ag h Pr t .gone x c Nil
 | .unit,_,_,_,_,r=>by simpa only [ag] using r
 | .int k,_,_,_,_,r=>by simpa only [ag] using r
 | .bool,_,_,_,_,r=>by simpa only [ag] using r
 | .str,_,_,_,_,r=>by simpa only [ag] using r
 | .pair a b,m,x,c,F,r=>by
  simp only[ag]at r⊢;obtain⟨ca,cb,Fa,Fb,rfl,ra,rb,sa,sb,d⟩:=r;exact⟨ca,cb,Nil,Nil,rfl,ag.gone a ra,ag.gone b rb,Sub.nil _,Sub.nil _,bz.nil _⟩
 | .sl t,m,x,c,F,r=>by
  simp only[ag];exact ag.slice r
theorem sH{n:Mk}:∀(q:Path){t:Ty}{m:Mk}{x:t.den}{d:Dy},focus t m x q=some d->bO t x q->
  ∃mm,put t m x q d.ty n d.x=some (mm,x)/\gV t m q n=some mm
 | [],t,m,x,d,hf,_=>by
  simp only[focus,ay]at hf;subst hf;refine⟨n,by simp[put,D6],by cases t<;>rfl⟩
 | .fst::q,t,m,x,d,hf,hr=>by
  cases t with
  | pair a b=>
   simp only[focus]at hf;simp only[bO]at hr;obtain⟨mm,h1,h2⟩:=sH (n:=n) q hf hr;refine⟨.pr mm m.snd,?_,?_⟩
   .simp only[put];rw[h1];rfl
   .simp only[gV];rw[h2];rfl
  | _=>simp[focus]at hf
 | .snd::q,t,m,x,d,hf,hr=>by
  cases t with
  | pair a b=>
   simp only[focus]at hf;simp only[bO]at hr;obtain⟨mm,h1,h2⟩:=sH (n:=n) q hf hr;refine⟨.pr m.fst mm,?_,?_⟩
   .simp only[put];rw[h1];rfl
   .simp only[gV];rw[h2];rfl
  | _=>simp[focus]at hf
 | .idx i s'::q,t,m,x,d,hf,hr=>by
  cases t with
  | sl e=>
   cases m with
   | own s mi=>
    simp only[focus]at hf;simp only[bO]at hr;split at hf
    .rename_i hs;obtain⟨mm,h1,h2⟩:=sH (n:=n) q hf hr.2;refine⟨.own s (mi.meet mm),?_,?_⟩
     .simp only[put,hs,aK];rw[h1];simp only[bX,ay,aJ,nN];have:=hr.1;rw[List.getD,gv hr.1];simp
     .simp only[gV,hs,aK];rw[h2];rfl
    .simp at hf
   | _=>simp[focus]at hf
  | _=>simp[focus]at hf
theorem qT.self{h:Array Obj}{base:dc}{c:List Value}{F:BS}(hb:qD h base c F):qT h h base c:=by
 intro b o e cs hcs;obtain⟨_,cs',h1,h2,h3⟩:=hb b o e;have:=fI.uniq hcs h1;subst this;refine⟨cs,hcs,?_⟩;simp only[sub]at h3;simp only[aW];have h4:cs.toList.drop (o+c.length)=(cs.toList.drop o).drop c.length:=by rw[lP]
 rw[h4,fe]
 conv=>lhs;rw[<-lJ o cs.toList]
 congr 1
 conv=>lhs;rw[<-lJ c.length (cs.toList.drop o),h3]
theorem sI{c:List Value}{n k:Nat}(h:n+k<=c.length):aW c n ((c.drop n).take k)=c:=by
 simp only[aW];have:((c.drop n).take k).length=k:=by simp;omega
 rw[this];have h4:c.drop (n+k)=(c.drop n).drop k:=by rw[lP]
 rw[h4,fe,lJ,lJ]
theorem aj.l_{h:Array Obj}{S:St}{g:ai}{tmps:Array Value}{H:BS}(st:aj h S g tmps H){r:Nat}{R:aB}(hR:S.root r=some R)
  {F:BS} (rep:ag h g.Pr R.ty R.ms R.x (g.C r) F) (hB:∀b,g.B r=some b->¬ F b)
  (hm:R.mem=true->∃b,g.B r=some b/\g.G r b/\fI h b (g.C r).toArray) (hn:R.mem=false->g.B r=none):qD h (g.base r) (g.C r) F:=by
 intro b o e;simp only[ai.base,c5]at e;obtain⟨b',e,e'⟩:=e;simp only[aJ]at e';obtain⟨rfl,rfl⟩:=e';refine⟨hB b' e,?_⟩;cases hmem:R.mem with
 | false=>rw[hn hmem]at e;simp at e
 | true=>obtain⟨b2,h1,_,h2⟩:=hm hmem;rw[e]at h1;simp only[ay]at h1;subst h1;exact⟨_,h2,by simp,by simp[sub]⟩
theorem aj.take{h:Array Obj}{S:St}{g:ai}{tmps:Array Value}{H:BS}(st:aj h S g tmps H){r:Nat}{R:aB}{p:Path}{d:Dy}{m':Mk}
  (hR:S.root r=some R) (hf:focus R.ty R.ms R.x p=some d) (hin:bO R.ty R.x p) (hm:gV R.ty R.ms p .gone=some m') :
  ∃g' F base c,aj h (S.ak r (some { R with ms:=m' })) g' tmps (Un H F)/\Sub g.Pr g'.Pr/\g'.C=g.C/\g'.B=g.B/\(∀r,Sub (g'.G r) (g.G r))/\
   a_ h R.ty (g.C r) (g.base r) p=some (base,c)/\ag h g'.Pr d.ty d.ms d.x c F/\aA g.hd d.ty d.ms c/\g'.bG g/\bz F H/\Sub F (g.G r)/\bz F g'.Pr/\
   ∀a:AV,a.bT h h S (S.ak r (some { R with ms:=m' })) g g':=by
 obtain⟨F0,rep,hF,hB,hmem,j3⟩:=st.roots r R hR;have hb:=st.l_ hR rep hB hmem j3;obtain⟨base,c,F,Fr,z⟩:=zip p _ _ _ _ F0 _ d rep hf hin hb;obtain⟨mm,EB,G0⟩:=sH (n:=.gone) p hf hin;rw[hm]at G0;simp only[ay]at G0;subst G0;obtain⟨F3,D3,s3,sd,d3,r3⟩:=z.n5 h g.Pr .gone d.x c Nil m' R.x (Sub.refl _) (fun _ _=>rfl) (fun _ _ _=>rfl) (qT.self z.ok) (ag.gone d.ty z.rep) (bz.nil _) EB;have NX:Sub F3 Fr:=fun b hb=>(s3 b hb).resolve_right id;have FP:Sub D3 Fr:=fun b hb=>(sd b hb).resolve_right id;have aQ:(S.root r).isSome:=by rw[hR];rfl
 have hc:(if qx p then g.C r else aW (g.C r) (cB R.ty p) c)=g.C r:=by
  by_cases hi:qx p=true
  .simp[hi]
  .have hi':qx p=false:=by simpa using hi
   obtain⟨_,e2,e3⟩:=z.plain hi';simp only[hi',cL,bY];rw[e2];exact sI e3
 rw[hc]at r3;have hlt:=St.j9 hR
 let g':ai:={ g with Pr:=Un g.Pr D3,G:=fun r'=>if r'=r then (fun b=>g.B r=some b\/F3 b) else g.G r' }
 have aP:∀r',(S.ak r (some { R with ms:=m' })).root r'=if r'=r then some { R with ms:=m' } else S.root r':=by intro r';rw[St.bg];simp[hlt]
 have hsub:∀r',Sub (g'.G r') (g.G r'):=by
  intro r' b hb';simp only[g']at hb';split at hb'
  .rename_i e;subst e;rcases hb' with hb' | hb'
   .cases iJ:R.mem with
    | false=>rw[j3 iJ]at hb';simp at hb'
    | true=>obtain⟨b2,h1,h2,_⟩:=hmem iJ;rw[hb']at h1;simp only[ay]at h1;subst h1;exact h2
   .exact hF b (z.fr b (NX b hb'))
  .exact hb'
 have hsome:∀r',((S.ak r (some { R with ms:=m' })).root r').isSome->(S.root r').isSome:=by
  intro r' h1;rw[aP]at h1;split at h1
  .rename_i e;subst e;exact aQ
  .exact h1
 have Er:Sub D3 (g.G r):=fun b hb'=>hF b (z.fr b (FP b hb'));have kO:Sub F (g.G r):=fun b hb'=>hF b (z.sub b hb');have om:=sX (lo:=0) (hi:=0) p EB (by trivial);have hkeep:∀a:AV,a.bT h h S (S.ak r (some { R with ms:=m' })) g g':=by
  intro a;refine AV.ct (fun r' p'=>?_) (fun r' p' s'=>?_) a
  .by_cases e:r'=r
   .subst e;intro R' bt d' hf';rw[aP,aE rfl]at bt;simp only[ay]at bt;subst bt;obtain⟨n0,h1,_⟩:=tN p' om (tL p') (nT p' hf');obtain⟨y,h2⟩:=rI p' R.x h1;exact⟨R,_,hR,h2,fun mj=>⟨mj,fun bs cc ha=>⟨cc,ha⟩⟩⟩
   .exact(jm st (.inl (by rw[aP,ax e])) rfl rfl (fun _ _ _=>rfl)).1 p'
  .by_cases e:r'=r
   .subst e;intro R' bt t' mq xs hf';rw[aP,aE rfl]at bt;simp only[ay]at bt;subst bt;obtain⟨n0,h1,h3⟩:=tN p' om (tL p') (nT p' hf');rcases h3 with h3 | ⟨a,rfl,_⟩
    .omega
    .obtain⟨y,h2⟩:=rI p' R.x h1;exact⟨R,a,y,hR,h2,fun mj=>⟨mj,fun bs cc ha=>ha⟩⟩
   .exact(jm st (.inl (by rw[aP,ax e])) rfl rfl (fun _ _ _=>rfl)).2 p' s'
 refine⟨g',F,base,c,?_,fun b hb'=>.inl hb',rfl,rfl,hsub,z.at_,ag.mono (fun b hb'=>.inl hb') (fun _ _=>rfl) d.ty z.rep (Sub.refl _) (fun _ _=>rfl),aA.at p (st.tag r R hR) hf z.at_,⟨rfl,rfl,rfl⟩,?_,kO,?_,hkeep⟩
 .refine { len:=st.len,eA:=by simp[St.ak,aD.aY,st.eA],slots:=?_,roots:=?_,cj:=?_,ck:=?_,hand:=?_,aR:=?_,aV:=?_,bk:=?_,cv:=?_,tag:=?_,own:=?_,cQ:=?_,dN:=st.dN,p0:=fun b hb'=>.inl (st.p0 b hb'),gM:=?_ }
  .intro t;rw[St.eZ];exact(qe.keep (g':=g') (fun b hb'=>Or.inl hb') (fun _ _=>rfl) _).1 _ (st.slots t) (hkeep _)
  .intro r' R' bt;rw[aP]at bt;by_cases e:r'=r
   .subst e;rw[aE rfl]at bt;simp only[ay]at bt;subst bt;refine⟨F3,r3,fun b hb'=>?_,fun b e' hb'=>hB b e' (z.fr b (NX b hb')),fun iJ=>?_,j3⟩
    .simp only[g',aK];exact .inr hb'
    .obtain⟨b,h1,h2,h3⟩:=hmem iJ;exact⟨b,h1,by simp only[g',aK];exact .inl h1,h3⟩
   .rw[ax e]at bt;obtain⟨F1,q1,q2,q3,q4,q5⟩:=st.roots r' R' bt;refine⟨F1,ag.mono (fun b hb'=>.inl hb') (fun _ _=>rfl) _ q1 (Sub.refl _) (fun _ _=>rfl),?_,q3,?_,q5⟩
    .simp only[g',ax e];exact q2
    .intro iJ;obtain⟨b,h1,h2,h3⟩:=q4 iJ;exact⟨b,h1,by simp only[g',ax e];exact h2,h3⟩
  .intro r1 r2 hne h1 h2;exact(st.cj r1 r2 hne (hsome _ h1) (hsome _ h2)).mono (hsub _) (hsub _)
  .intro r1 h1;rintro b hb' (hz | hz)
   .exact st.ck r1 (hsome _ h1) b (hsub _ b hb') hz
   .by_cases e:r1=r
    .subst e;simp only[g',aK]at hb';rcases hb' with hb' | hb'
     .exact hB b hb' (z.fr b (FP b hz))
     .exact d3 b hb' hz
    .exact st.cj r1 r e (hsome _ h1) aQ b (hsub _ b hb') (Er b hz)
  .intro r1 h1;rintro b hb' (hz | hz)
   .exact st.hand r1 (hsome _ h1) b (hsub _ b hb') hz
   .by_cases e:r1=r
    .subst e;simp only[g',aK]at hb';rcases hb' with hb' | hb'
     .exact hB b hb' (z.sub b hz)
     .exact z.cj b hz (NX b hb')
    .exact st.cj r1 r e (hsome _ h1) aQ b (hsub _ b hb') (kO b hz)
  .rintro b (hz | hz) (hy | hy)
   .exact st.aR b hz hy
   .exact st.hand r aQ b (Er b hy) hz
   .exact st.ck r aQ b (kO b hz) hy
   .exact z.cj b hz (FP b hy)
  .rintro b (hz | hz)
   .exact st.aV b hz
   .exact st.bk r b aQ (Er b hz)
  .intro r1 b h1 hb';exact st.bk r1 b (hsome _ h1) (hsub _ b hb')
  .rintro b (hz | hz)
   .exact st.cv b hz
   .exact st.bk r b aQ (kO b hz)
  .intro r' R' bt;rw[aP]at bt;by_cases e:r'=r
   .subst e;rw[aE rfl]at bt;simp only[ay]at bt;subst bt;exact aA.j7 p hm (st.tag _ R hR)
   .rw[ax e]at bt;exact st.tag r' R' bt
  .intro r1 b h1 hb';exact st.own r1 b (hsome _ h1) (hsub _ b hb')
  .rintro b (hz | hz)
   .exact st.cQ b hz
   .exact st.own r b aQ (kO b hz)
  .rintro b (hz | hz)
   .exact st.gM b hz
   .exact .inr (st.own r b aQ (Er b hz))
 .intro b hz hy;exact st.hand r aQ b (kO b hz) hy
 .rintro b hz (hy | hy)
  .exact st.ck r aQ b (kO b hz) hy
  .exact z.cj b hz (FP b hy)
theorem aj.iO{h:Array Obj}{S:St}{g:ai}{tmps:Array Value}{H:BS}(st:aj h S g tmps H){r:Nat}{R:aB}{q:Path}{d:Dy}
  (hR:S.root r=some R) (hf:focus R.ty R.ms R.x q=some d) (hin:bO R.ty R.x q) :
  ∃base c F,a_ h R.ty (g.C r) (g.base r) q=some (base,c)/\ag h g.Pr d.ty d.ms d.x c F/\Sub F (g.G r)/\qD h base c F/\
   (∀b o,base=some (b,o)->g.G r b)/\
   ∀(lo hi:Nat)(h2:Array Obj)(m2:Mk)(y:d.ty.den)(c2:List Value)(F2 Dd:BS)(m':Mk)(x':R.ty.den),
    (∀t,(S.get t).aH lo hi=true)->
    (∀b,b<h.size->¬ F b->(∀o,base≠some (b,o))->h2[b]? = h[b]?)->h.size<=h2.size->qT h h2 base c2->
    ag h2 (Un g.Pr Dd) d.ty m2 y c2 F2->bz Dd F2->(∀b,F2 b\/Dd b->F b\/H b\/h.size<=b)->(∀b,F2 b\/Dd b->b<h2.size)->
    put R.ty R.ms R.x q d.ty m2 y=some (m',x')->d.ms.jd lo hi m2->aA g.hd d.ty m2 c2->(qx q=true->m2.af=true)->
    (∀p' t1 n1,gf lo hi p'=true->q8 d.ty m2 p'=some (t1,n1)->bO d.ty d.x p'->bO d.ty y p'/\∀bp cp,a_ h d.ty c base p'=some (bp,cp)->
     ∃fh,a_ h2 d.ty c2 base p'=some (bp,fh)/\(∀s a,n1=.own s a->¬ (lo<=s/\s<hi)->fh=cp))->
    ∃g',aj h2 (S.ak r (some { R with ms:=m',x:=x' })) g' tmps (fun b=>(H b\/F b\/(h.size<=b/\b<h2.size))/\¬ (F2 b\/Dd b))/\Sub g.Pr g'.Pr/\Sub Dd g'.Pr/\g'.bG g/\g'.B=g.B/\(∀b,g.Pr b->h2[b]? = h[b]?)/\
     ∀a:AV,a.aH lo hi=true->a.bT h h2 S (S.ak r (some { R with ms:=m',x:=x' })) g g':=by
 obtain⟨F0,rep,hF,hB,hmem,j3⟩:=st.roots r R hR;have hb:=st.l_ hR rep hB hmem j3;obtain⟨base,c,F,Fr,z⟩:=zip q _ _ _ _ F0 _ d rep hf hin hb;have aQ:(S.root r).isSome:=by rw[hR];rfl
 have kO:Sub F (g.G r):=fun b hb'=>hF b (z.sub b hb');have n_:Sub Fr (g.G r):=fun b hb'=>hF b (z.fr b hb');have oN:∀b o,g.base r=some (b,o)->g.B r=some b/\g.G r b:=by
  intro b o e;simp only[ai.base,c5]at e;obtain⟨b',e,e'⟩:=e;simp only[aJ]at e';obtain⟨rfl,rfl⟩:=e';refine⟨e,?_⟩;cases iJ:R.mem with
  | false=>rw[j3 iJ]at e;simp at e
  | true=>obtain⟨b2,h1,h2,_⟩:=hmem iJ;rw[e]at h1;simp only[ay]at h1;subst h1;exact h2
 have Hf:∀b o,base=some (b,o)->g.G r b:=by
  intro b o e;rcases z.home b o e with h1 | ⟨o0,h1⟩
  .exact n_ b h1
  .exact(oN b o0 h1).2
 refine⟨base,c,F,z.at_,z.rep,kO,z.ok,Hf,?_⟩;intro lo hi h2 m2 y c2 F2 Dd m' x' hs hk hsz hu r2 Se nq Ge hput om iX iW hbase;have fD:c2.length=d.ty.width:=ag.width d.ty r2;have Ae:∀b,Fr b->(∀o,base≠some (b,o))->h2[b]? = h[b]?:=fun b hb' hn=>
  hk b (st.bk r b aQ (n_ b hb')) (fun hz=>z.cj b hz hb') hn
 have yQ:∀b,g.Pr b->h2[b]? = h[b]?:=fun b hb'=>
  hk b (st.aV b hb') (fun hz=>st.ck r aQ b (kO b hz) hb') (fun o e=>st.ck r aQ b (Hf b o e) hb')
 have Ez:∀r',r'≠r->(S.root r').isSome->∀b,g.G r' b->h2[b]? = h[b]?:=fun r' hne h1 b hb'=>
  hk b (st.bk r' b h1 hb') (fun hz=>st.cj r' r hne h1 aQ b hb' (kO b hz)) (fun o e=>st.cj r' r hne h1 aQ b hb' (Hf b o e))
 have Sd:bz Dd Fr:=by
  intro b hz hy;rcases nq b (.inr hz) with h1 | h1 | h1
  .exact z.cj b h1 hy
  .exact st.hand r aQ b (n_ b hy) h1
  .have:=st.bk r b aQ (n_ b hy);omega
 have yO:bz F2 Fr:=by
  intro b hz hy;rcases nq b (.inl hz) with h1 | h1 | h1
  .exact z.cj b h1 hy
  .exact st.hand r aQ b (n_ b hy) h1
  .have:=st.bk r b aQ (n_ b hy);omega
 obtain⟨F3,D3,s3,sd,d3,r3⟩:=z.n5 h2 (Un g.Pr Dd) m2 y c2 F2 m' x' (fun b hb'=>.inl hb') yQ Ae hu r2 yO hput;obtain⟨AG,eI⟩:=z.paths lo hi h2 m2 y c2 m' x' Ae hu fD hput om hbase;have r3:=ag.mono (dD:=Un g.Pr (fun b=>Dd b\/D3 b)) (fun b hb'=>hb'.elim (fun h=>h.imp id .inl) (fun h=>.inr (.inr h))) (fun _ _=>rfl) _ r3 (Sub.refl _) (fun _ _=>rfl);have mY:∀b,F3 b->Fr b\/(F2 b\/Dd b):=fun b hb'=>(s3 b hb').imp id .inl;have Ax:∀b,Dd b\/D3 b->Fr b\/(F2 b\/Dd b):=fun b hb'=>hb'.elim (fun h=>.inr (.inr h)) (fun h=>(sd b h).imp id .inl);have Gu:∀b,F3 b->Dd b->False:=fun b h1 h2=>(s3 b h1).elim (fun h3=>Sd b h2 h3) (fun h3=>Se b h2 h3);have hlt:=St.j9 hR
 let cn:List Value:=if qx q then g.C r else aW (g.C r) (cB R.ty q) c2
 let g':ai:=⟨Un g.Pr (fun b=>Dd b\/D3 b),fun r1=>if r1=r then cn else g.C r1,g.B,fun r1=>if r1=r then (fun b=>g.B r=some b\/F3 b) else g.G r1,g.hd,g.L,g.P0⟩
 have aP:∀r',(S.ak r (some { R with ms:=m',x:=x' })).root r'=if r'=r then some { R with ms:=m',x:=x' } else S.root r':=by intro r';rw[St.bg];simp[hlt]
 have hsome:∀r',((S.ak r (some { R with ms:=m',x:=x' })).root r').isSome->(S.root r').isSome:=by
  intro r' h1;rw[aP]at h1;split at h1
  .rename_i e;subst e;exact aQ
  .exact h1
 have fR:∀b,g.B r=some b->g.G r b/\¬ F0 b:=by intro b e;refine⟨(oN b 0 (by simp[ai.base,e])).2,hB b e⟩
 -- where new N0 may WH
 have hnew:∀b,Fr b\/(F2 b\/Dd b)->(g.G r b/\F0 b)\/H b\/h.size<=b:=by
  rintro b (hz | hz)
  .exact .inl ⟨n_ b hz,z.fr b hz⟩
  .rcases nq b hz with h1 | h1 | h1
   .exact .inl ⟨kO b h1,z.sub b h1⟩
   .exact .inr (.inl h1)
   .exact .inr (.inr h1)
 have o4:∀r1,r1≠r->(S.root r1).isSome->∀b,g.G r1 b->Fr b\/(F2 b\/Dd b)->False:=by
  intro r1 hne h1 b hb' hz;rcases hnew b hz with h3 | h3 | h3
  .exact st.cj r1 r hne h1 aQ b hb' h3.1
  .exact st.hand r1 h1 b hb' h3
  .have:=st.bk r1 b h1 hb';omega
 have Ak:∀b,g.Pr b->Fr b\/(F2 b\/Dd b)->False:=by
  intro b hb' hz;rcases hnew b hz with h3 | h3 | h3
  .exact st.ck r aQ b h3.1 hb'
  .exact st.aR b h3 hb'
  .have:=st.aV b hb';omega
 have uy:∀b,g.B r=some b->Fr b\/(F2 b\/Dd b)->False:=by
  intro b hb' hz;rcases hnew b hz with h3 | h3 | h3
  .exact(fR b hb').2 h3.2
  .exact st.hand r aQ b (fR b hb').1 h3
  .have:=st.bk r b aQ (fR b hb').1;omega
 have ux:∀b,Fr b\/(F2 b\/Dd b)->b<h2.size:=by
  rintro b (hz | hz)
  .have:=st.bk r b aQ (n_ b hz);omega
  .exact Ge b hz
 have uz:∀b,Fr b\/(F2 b\/Dd b)->g.L b:=by
  intro b hz;rcases hnew b hz with h3 | h3 | h3
  .exact st.own r b aQ h3.1
  .exact st.cQ b h3
  .exact st.dN b h3
 have hkeep:∀a:AV,a.aH lo hi=true->a.bT h h2 S (S.ak r (some { R with ms:=m',x:=x' })) g g':=by
  intro a ha;refine AV.pg (lo:=lo) (hi:=hi) (fun r' p' hp=>?_) (fun r' p' s' hp hs'=>?_) a ha
  .by_cases e:r'=r
   .subst e;intro R' bt d' hf';rw[aP,aE rfl]at bt;simp only[ay]at bt;subst bt;have dF:=nT p' hf';obtain⟨n0,h1,_⟩:=tN p' AG hp dF;obtain⟨y',h3⟩:=rI p' R.x h1;refine⟨R,_,hR,h3,fun mj=>?_⟩;obtain⟨h4,h5⟩:=eI p' _ _ hp dF mj;refine⟨h4,fun bs cc ha=>?_⟩;obtain⟨fh,h6,_⟩:=h5 bs cc ha;exact⟨fh,by simp only[g',aK];exact h6⟩
   .exact(jm (g':=g') st (.inl (by rw[aP,ax e])) (by simp only[g',ax e]) rfl (fun h1 b hb'=>Ez r' e h1 b hb')).1 p'
  .by_cases e:r'=r
   .subst e;intro R' bt t' mq xs hf';rw[aP,aE rfl]at bt;simp only[ay]at bt;subst bt;have dF:=nT p' hf';obtain⟨n0,h1,h3⟩:=tN p' AG hp dF;rcases h3 with h3 | ⟨a,rfl,_⟩
    .exact absurd h3 hs'
    .obtain⟨y',h4⟩:=rI p' R.x h1;refine⟨R,a,y',hR,h4,fun mj=>?_⟩;obtain⟨h5,h6⟩:=eI p' _ _ hp dF mj;refine⟨h5,fun bs cc ha=>?_⟩;obtain⟨fh,h7,h8⟩:=h6 bs cc ha;rw[h8 _ _ rfl hs']at h7;simp only[g',aK];exact h7
   .exact(jm (g':=g') st (.inl (by rw[aP,ax e])) (by simp only[g',ax e]) rfl (fun h1 b hb'=>Ez r' e h1 b hb')).2 p' s'
 refine⟨g',?_,fun b hb'=>.inl hb',fun b hb'=>.inr (.inl hb'),⟨rfl,rfl,rfl⟩,rfl,yQ,hkeep⟩;refine { len:=st.len,eA:=by simp[St.ak,aD.aY,st.eA],slots:=?_,roots:=?_,cj:=?_,ck:=?_,hand:=?_,aR:=?_,aV:=?_,bk:=?_,cv:=?_,tag:=?_,own:=?_,cQ:=fun b hz=>hz.1.elim (st.cQ b) (fun h=>h.elim (fun h=>st.own r b aQ (kO b h)) (fun h=>st.dN b h.1)),dN:=fun b hb'=>st.dN b (by omega),p0:=fun b hb'=>.inl (st.p0 b hb'),gM:=?_ }
 .intro t;rw[St.eZ];exact(qe.keep (g':=g') (fun b hb'=>Or.inl hb') yQ _).1 _ (st.slots t) (hkeep _ (hs t))
 .intro r' R' bt;rw[aP]at bt;by_cases e:r'=r
  .subst e;rw[aE rfl]at bt;simp only[ay]at bt;subst bt;refine⟨F3,by simp only[g',aK];exact r3,fun b hb'=>by simp only[g',aK];exact .inr hb',fun b e' hb'=>uy b e' (mY b hb'),fun iJ=>?_,j3⟩;obtain⟨b,h1,h3,h4⟩:=hmem iJ;refine⟨b,h1,by simp only[g',aK];exact .inl h1,?_⟩;simp only[g',aK,cn];by_cases hi':qx q=true
   .simp only[hi',aK];obtain⟨b',o,e1,e2⟩:=z.idx hi';refine h4.congr (hk b (st.bk r' b aQ h3) (fun hz=>hB b h1 (z.sub b hz)) fun o' e'=>?_);rw[e1]at e';simp only[ay,aJ]at e';obtain⟨rfl,_⟩:=e';exact hB _ h1 (z.fr _ e2)
   .have hi2:qx q=false:=by simpa using hi'
    obtain⟨e1,e2,e3⟩:=z.plain hi2;simp only[hi2,cL,bY];simp only[ai.base,h1,cr,g_]at e1;obtain⟨dL,ho,ht⟩:=hu b _ e1 _ h4;have:dL=(aW (g.C r') (cB R.ty q) c2).toArray:=by apply xY.1;rw[ht]
    rw[<-this];exact ho
  .rw[ax e]at bt;have h1:(S.root r').isSome:=by rw[bt];rfl
   obtain⟨F1,q1,q2,q3,q4,q5⟩:=st.roots r' R' bt;refine⟨F1,?_,?_,q3,?_,q5⟩
   .simp only[g',ax e];exact ag.mono (fun b hb'=>.inl hb') yQ _ q1 (Sub.refl _) (fun b hb'=>Ez r' e h1 b (q2 b hb'))
   .simp only[g',ax e];exact q2
   .intro iJ;obtain⟨b,h3,h4,h5⟩:=q4 iJ;refine⟨b,h3,by simp only[g',ax e];exact h4,?_⟩;simp only[g',ax e];exact h5.congr (Ez r' e h1 b h4)
 .intro r1 uY hne h1 h3;have k1:=hsome _ h1;have k2:=hsome _ h3;intro b aU ek;by_cases e1:r1=r
  .subst e1;have e2:uY≠r1:=fun e=>hne e.symm;simp only[g',aK]at aU;simp only[g',ax e2]at ek;rcases aU with aU | aU
   .exact st.cj r1 uY hne k1 k2 b (fR b aU).1 ek
   .exact o4 uY e2 k2 b ek (mY b aU)
  .simp only[g',ax e1]at aU;by_cases e2:uY=r
   .subst e2;simp only[g',aK]at ek;rcases ek with ek | ek
    .exact st.cj r1 uY hne k1 k2 b aU (fR b ek).1
    .exact o4 r1 e1 k1 b aU (mY b ek)
   .simp only[g',ax e2]at ek;exact st.cj r1 uY hne k1 k2 b aU ek
 .intro r1 h1;have k1:=hsome _ h1;rintro b aU (hz | hz)
  .by_cases e1:r1=r
   .subst e1;simp only[g',aK]at aU;rcases aU with aU | aU
    .exact st.ck r1 k1 b (fR b aU).1 hz
    .exact Ak b hz (mY b aU)
   .simp only[g',ax e1]at aU;exact st.ck r1 k1 b aU hz
  .by_cases e1:r1=r
   .subst e1;simp only[g',aK]at aU;rcases aU with aU | aU
    .exact uy b aU (Ax b hz)
    .exact hz.elim (Gu b aU) (d3 b aU)
   .simp only[g',ax e1]at aU;exact o4 r1 e1 k1 b aU (Ax b hz)
 .intro r1 h1;have k1:=hsome _ h1;rintro b aU ⟨hz,Hu⟩;by_cases e1:r1=r
  .subst e1;simp only[g',aK]at aU;rcases aU with aU | aU
   .exact hz.elim (st.hand r1 k1 b (fR b aU).1) (fun h=>h.elim (fun h=>(fR b aU).2 (z.sub b h)) (fun h=>absurd (st.bk r1 b k1 (fR b aU).1) (by omega)))
   .rcases s3 b aU with h3 | h3
    .exact hz.elim (st.hand r1 k1 b (n_ b h3)) (fun h=>h.elim (fun h=>z.cj b h h3) (fun h=>absurd (st.bk r1 b k1 (n_ b h3)) (by omega)))
    .exact Hu (.inl h3)
  .simp only[g',ax e1]at aU;exact hz.elim (st.hand r1 k1 b aU) (fun h=>h.elim (fun h=>st.cj r1 r e1 k1 aQ b aU (kO b h)) (fun h=>absurd (st.bk r1 b k1 aU) (by omega)))
 .rintro b ⟨hz,Hu⟩ (hy | hy)
  .exact hz.elim (fun h=>st.aR b h hy) (fun h=>h.elim (fun h=>st.ck r aQ b (kO b h) hy) (fun h=>absurd (st.aV b hy) (by omega)))
  .rcases Ax b hy with h3 | h3
   .exact hz.elim (st.hand r aQ b (n_ b h3)) (fun h=>h.elim (fun h=>z.cj b h h3) (fun h=>absurd (st.bk r b aQ (n_ b h3)) (by omega)))
   .exact Hu h3
 .rintro b (hz | hz)
  .have:=st.aV b hz;omega
  .exact ux b (Ax b hz)
 .intro r1 b h1 aU;have k1:=hsome _ h1;by_cases e1:r1=r
  .subst e1;simp only[g',aK]at aU;rcases aU with aU | aU
   .have:=st.bk r1 b k1 (fR b aU).1;omega
   .exact ux b (mY b aU)
  .simp only[g',ax e1]at aU;have:=st.bk r1 b k1 aU;omega
 .rintro b ⟨hz | hz | hz,_⟩
  .have:=st.cv b hz;omega
  .have:=st.bk r b aQ (kO b hz);omega
  .exact hz.2
 .intro r' R' bt;rw[aP]at bt;by_cases e:r'=r
  .subst e;rw[aE rfl]at bt;simp only[ay]at bt;subst bt;simp only[g',aK,cn];exact aA.put q hput (st.tag r' R hR) iX iW (ag.width R.ty rep) fD
  .rw[ax e]at bt;simp only[g',ax e];exact st.tag r' R' bt
 .intro r1 b h1 aU;have k1:=hsome _ h1;by_cases e1:r1=r
  .subst e1;simp only[g',aK]at aU;rcases aU with aU | aU
   .exact st.own r1 b k1 (fR b aU).1
   .exact uz b (mY b aU)
  .simp only[g',ax e1]at aU;exact st.own r1 b k1 aU
 .rintro b (hz | hz)
  .exact st.gM b hz
  .exact .inr (uz b (Ax b hz))
theorem aj.grow{h h2:Array Obj}{S:St}{g:ai}{tmps:Array Value}{H:BS}(st:aj h S g tmps H)(hk:∀b,b<h.size->h2[b]? = h[b]?)(hsz:h.size<=h2.size)
  (H2:BS) (rX:∀b,H2 b->H b\/(h.size<=b/\b<h2.size)):aj h2 S g tmps H2 where
 len:=st.len
 eA:=st.eA
 slots:=by
  intro t;refine(qe.keep (Sub.refl _) (fun b hb=>hk b (st.aV b hb)) _).1 _ (st.slots t) (AV.ct (fun r p=>?_) (fun r p s=>?_) _)
  .exact(jm st (.inl rfl) rfl rfl (fun h1 b hb=>hk b (st.bk r b h1 hb))).1 p
  .exact(jm st (.inl rfl) rfl rfl (fun h1 b hb=>hk b (st.bk r b h1 hb))).2 p s
 roots:=by
  intro r R hR;have h1:(S.root r).isSome:=by rw[hR];rfl
  obtain⟨F,q1,q2,q3,q4,q5⟩:=st.roots r R hR;refine⟨F,ag.mono (Sub.refl _) (fun b hb=>hk b (st.aV b hb)) _ q1 (Sub.refl _) (fun b hb=>hk b (st.bk r b h1 (q2 b hb))),q2,q3,?_,q5⟩;intro hm;obtain⟨b,e1,e2,e3⟩:=q4 hm;exact⟨b,e1,e2,e3.congr (hk b (st.bk r b h1 e2))⟩
 cj:=st.cj
 ck:=st.ck
 hand:=by
  intro r h1 b hb hz;rcases rX b hz with h3 | h3
  .exact st.hand r h1 b hb h3
  .have:=st.bk r b h1 hb;omega
 aR:=by
  intro b hz hb;rcases rX b hz with h3 | h3
  .exact st.aR b h3 hb
  .have:=st.aV b hb;omega
 aV:=fun b hb=>by have:=st.aV b hb;omega
 bk:=fun r b h1 hb=>by have:=st.bk r b h1 hb;omega
 cv:=by
  intro b hz;rcases rX b hz with h3 | h3
  .have:=st.cv b h3;omega
  .exact h3.2
 tag:=st.tag
 own:=st.own
 cQ:=by
  intro b hz;rcases rX b hz with h3 | h3
  .exact st.cQ b h3
  .exact st.dN b h3.1
 dN:=fun b hb=>st.dN b (by omega)
 p0:=st.p0
 gM:=st.gM
theorem qe.grow{h h2:Array Obj}{S:St}{g:ai}{tmps:Array Value}{H:BS}(st:aj h S g tmps H)(hk:∀b,b<h.size->h2[b]? = h[b]?){a:AV}{v:Value}
  (x:qe h S g a v):qe h2 S g a v:=by
 refine(qe.keep (Sub.refl _) (fun b hb=>hk b (st.aV b hb)) _).1 _ x (AV.ct (fun r p=>?_) (fun r p s=>?_) _)
 .exact(jm st (.inl rfl) rfl rfl (fun h1 b hb=>hk b (st.bk r b h1 hb))).1 p
 .exact(jm st (.inl rfl) rfl rfl (fun h1 b hb=>hk b (st.bk r b h1 hb))).2 p s
theorem aj.bH{h:Array Obj}{S:St}{g:ai}{tmps:Array Value}{H:BS}(st:aj h S g tmps H)(D:BS)(hD:Sub D H) :
  aj h S { g with Pr:=Un g.Pr D } tmps (fun b=>H b/\¬ D b) where
 len:=st.len
 eA:=st.eA
 slots:=by
  intro t;refine(qe.keep (g':={ g with Pr:=Un g.Pr D }) (fun b hb=>Or.inl hb) (fun _ _=>rfl) _).1 _ (st.slots t) (AV.ct (fun r p=>?_) (fun r p s=>?_) _)
  .exact(jm (g':={ g with Pr:=Un g.Pr D }) st (.inl rfl) rfl rfl (fun _ _ _=>rfl)).1 p
  .exact(jm (g':={ g with Pr:=Un g.Pr D }) st (.inl rfl) rfl rfl (fun _ _ _=>rfl)).2 p s
 roots:=by intro r R hR;obtain⟨F,q1,q2⟩:=st.roots r R hR;exact⟨F,ag.mono (fun b hb=>.inl hb) (fun _ _=>rfl) _ q1 (Sub.refl _) (fun _ _=>rfl),q2⟩
 cj:=st.cj
 ck:=by
  rintro r h1 b hb (hz | hz)
  .exact st.ck r h1 b hb hz
  .exact st.hand r h1 b hb (hD b hz)
 hand:=fun r h1 b hb hz=>st.hand r h1 b hb hz.1
 aR:=by
  rintro b ⟨hz,hn⟩ (hb | hb)
  .exact st.aR b hz hb
  .exact hn hb
 aV:=by
  rintro b (hb | hb)
  .exact st.aV b hb
  .exact st.cv b (hD b hb)
 bk:=st.bk
 cv:=fun b hz=>st.cv b hz.1
 tag:=st.tag
 own:=st.own
 cQ:=fun b hz=>st.cQ b hz.1
 dN:=st.dN
 p0:=fun b hb=>.inl (st.p0 b hb)
 gM:=by
  rintro b (hb | hb)
  .exact st.gM b hb
  .exact .inr (st.cQ b (hD b hb))
theorem aj.aN{h:Array Obj}{S:St}{g:ai}{tmps:Array Value}{H H':BS}(st:aj h S g tmps H)(hs:Sub H' H):aj h S g tmps H' where
 len:=st.len
 eA:=st.eA
 slots:=st.slots
 roots:=st.roots
 cj:=st.cj
 ck:=st.ck
 hand:=fun r h1 b hb hz=>st.hand r h1 b hb (hs b hz)
 aR:=fun b hz hb=>st.aR b (hs b hz) hb
 aV:=st.aV
 bk:=st.bk
 cv:=fun b hz=>st.cv b (hs b hz)
 tag:=st.tag
 own:=st.own
 cQ:=fun b hz=>st.cQ b (hs b hz)
 dN:=st.dN
 p0:=st.p0
 gM:=st.gM
theorem Be{a b:Nat}:Nat.beq a b=true↔a=b:=⟨g8,fun e=>e ▸ Nat.beq_refl a⟩
theorem AV.nB{lo hi d:Nat}{h h':Array Obj}{S S':St}{g g':ai}(hA:∀r p,r≠d->m8 h h' S S' g g' r p)(hB:∀r p s,r≠d->lq h h' S S' g g' r p s)
  (dA:∀p,gf lo hi p=true->qx p=true->m8 h h' S S' g g' d p)
  (dB:∀p s,gf lo hi p=true->¬ (lo<=s/\s<hi)->lq h h' S S' g g' d p s):∀a:AV,a.aH lo hi=true->a.eL d=true->a.bT h h' S S' g g':=by
 have hs:∀s,(!(Nat.ble lo s&&Nat.blt s hi))=true->¬ (lo<=s/\s<hi):=by intro s h1 h2;rw[BA h2]at h1;simp at h1
 intro a
 induction a with
 | bu r p s=>
  intro h1 _;simp only[AV.aH,aO]at h1;by_cases e:r=d
  .subst e;exact dB p s h1.2 (hs s h1.1)
  .exact hB r p s e
 | view r p s l1 Wx=>
  intro h1 _;simp only[AV.aH,aO]at h1;by_cases e:r=d
  .subst e;exact dB p s h1.2 (hs s h1.1)
  .exact hB r p s e
 | addr r p=>
  intro h1 h2;by_cases e:r=d
  .subst e;simp only[AV.eL,Nat.beq_refl,cT,Bool.false_or]at h2;exact dA p h1 h2
  .exact hA r p e
 | pair a b dI gH=>intro h1 h2;simp only[AV.aH,AV.eL,aO]at h1 h2;exact⟨dI h1.1 h2.1,gH h1.2 h2.2⟩
 | fO a dI=>intro h1 h2;exact dI h1 h2
 | eV f a dI=>intro h1 h2;exact dI h1 h2
 | _=>intro _ _;trivial
theorem AV.nA{d:Nat}{h h':Array Obj}{S S':St}{g g':ai}(hA:∀r p,r≠d->m8 h h' S S' g g' r p)(hB:∀r p s,r≠d->lq h h' S S' g g' r p s) :
  ∀a:AV,a.roots.contains d=false->a.bT h h' S S' g g':=by
 intro a
 induction a with
 | bu r p s=>intro h1;exact hB r p s (by simp[AV.roots]at h1;exact fun e=>h1 e.symm)
 | view r p s _ _=>intro h1;exact hB r p s (by simp[AV.roots]at h1;exact fun e=>h1 e.symm)
 | addr r p=>intro h1;exact hA r p (by simp[AV.roots]at h1;exact fun e=>h1 e.symm)
 | pair a b dI gH=>intro h1;simp only[AV.roots,xh,iB,dw,jw]at h1;exact⟨dI (by simpa using h1.1),gH (by simpa using h1.2)⟩
 | fO a dI=>intro h1;exact dI (by simpa [AV.roots] using h1)
 | eV f a dI=>intro h1;exact dI (by simpa [AV.roots] using h1)
 | _=>intro _;trivial
theorem aj.gJ{h:Array Obj}{S:St}{g:ai}{tmps:Array Value}{H:BS}(st:aj h S g tmps H){d:Nat}(hd:d<S.rt.length)
  {t:Ty} {m:Mk} {x:t.den} {c:List Value} {F:BS} (rep:ag h g.Pr t m x c F) (iX:aA g.hd t m c) (hF:Sub F H) (ob:Option Nat)
  (jY:∀b,ob=some b->H b/\¬ F b/\fI h b c.toArray)
  (hs:∀u,(S.get u).roots.contains d=false\/(∃lo hi,(S.get u).aH lo hi=true/\(S.get u).eL d=true/\m.fresh lo hi/\ob=none)) :
  ∃g',aj h (S.ak d (some ⟨t,m,x,ob.isSome⟩)) g' tmps (fun b=>H b/\¬ F b/\ob≠some b)/\g'.Pr=g.Pr/\g'.bG g/\g'.C d=c/\g'.B d=ob/\
   ∀a:AV,(a.roots.contains d=false\/(∃lo hi,a.aH lo hi=true/\a.eL d=true/\m.fresh lo hi/\ob=none))->a.bT h h S (S.ak d (some ⟨t,m,x,ob.isSome⟩)) g g':=by
 let g':ai:=⟨g.Pr,fun r1=>if r1=d then c else g.C r1,fun r1=>if r1=d then ob else g.B r1,fun r1=>if r1=d then (fun b=>F b\/ob=some b) else g.G r1,g.hd,g.L,g.P0⟩
 have aP:∀r',(S.ak d (some ⟨t,m,x,ob.isSome⟩)).root r'=if r'=d then some ⟨t,m,x,ob.isSome⟩ else S.root r':=by intro r';rw[St.bg];simp[hd]
 have hsome:∀r',r'≠d->((S.ak d (some ⟨t,m,x,ob.isSome⟩)).root r').isSome->(S.root r').isSome:=by intro r' hne h1;rwa [aP,ax hne]at h1
 have um:∀b,(F b\/ob=some b)->H b:=by
  rintro b (hb | hb)
  .exact hF b hb
  .exact(jY b hb).1
 have hA:∀r p,r≠d->m8 h h S (S.ak d (some ⟨t,m,x,ob.isSome⟩)) g g' r p:=fun r p e=>
  (jm (g':=g') st (.inl (by rw[aP,ax e])) (by simp only[g',ax e]) (by simp only[g',ax e]) (fun _ _ _=>rfl)).1 p
 have hB:∀r p s,r≠d->lq h h S (S.ak d (some ⟨t,m,x,ob.isSome⟩)) g g' r p s:=fun r p s e=>
  (jm (g':=g') st (.inl (by rw[aP,ax e])) (by simp only[g',ax e]) (by simp only[g',ax e]) (fun _ _ _=>rfl)).2 p s
 have hkeep:∀a:AV,(a.roots.contains d=false\/(∃lo hi,a.aH lo hi=true/\a.eL d=true/\m.fresh lo hi/\ob=none))->a.bT h h S (S.ak d (some ⟨t,m,x,ob.isSome⟩)) g g':=by
  intro a hsa;rcases hsa with h1 | ⟨lo,hi,h1,h2,h3,h4⟩
  .exact AV.nA hA hB _ h1
  .refine AV.nB (lo:=lo) (hi:=hi) (d:=d) hA hB (fun p hp hi'=>?_) (fun p s hp hs'=>?_) _ h1 h2
   .intro R' bt d' hf';rw[aP,aE rfl]at bt;simp only[ay]at bt;subst bt;have:=(uO p h3 hp (nT p hf')).1;rw[this]at hi';simp at hi'
   .intro R' bt t' mq xs hf';rw[aP,aE rfl]at bt;simp only[ay]at bt;subst bt;exact absurd (uO p h3 hp (nT p hf')).2 hs'
 refine⟨g',?_,rfl,⟨rfl,rfl,rfl⟩,by simp[g'],by simp[g'],hkeep⟩;refine { len:=st.len,eA:=by simp[St.ak,aD.aY,st.eA],slots:=?_,roots:=?_,cj:=?_,ck:=?_,hand:=?_,aR:=fun b hz hb=>st.aR b hz.1 hb,aV:=st.aV,bk:=?_,cv:=fun b hz=>st.cv b hz.1,tag:=?_,own:=?_,cQ:=fun b hz=>st.cQ b hz.1,dN:=st.dN,p0:=st.p0,gM:=st.gM }
 .intro u;rw[St.eZ];exact(qe.keep (g:=g) (g':=g') (Sub.refl _) (fun _ _=>rfl) _).1 _ (st.slots u) (hkeep _ (hs u))
 .intro r' R' bt;rw[aP]at bt;by_cases e:r'=d
  .subst e;rw[aE rfl]at bt;simp only[ay]at bt;subst bt;refine⟨F,by simp only[g',aK];exact rep,fun b hb=>by simp only[g',aK];exact .inl hb,fun b e' hb=>?_,fun hm=>?_,fun hm=>?_⟩
   .simp only[g',aK]at e';exact(jY b e').2.1 hb
   .simp only[lG]at hm;obtain⟨b,hm⟩:=hm;exact⟨b,by simp only[g',aK];exact hm,by simp only[g',aK];exact .inr hm,by simp only[g',aK];exact(jY b hm).2.2⟩
   .simp only[g',aK];cases ob with
    | none=>rfl
    | some b=>simp at hm
  .rw[ax e]at bt;obtain⟨F1,q1,q2,q3,q4,q5⟩:=st.roots r' R' bt;exact⟨F1,by simp only[g',ax e];exact q1,by simp only[g',ax e];exact q2,by simp only[g',ax e];exact q3,by simp only[g',ax e];exact q4,by simp only[g',ax e];exact q5⟩
 .intro r1 r2 hne h1 h2 b aU ek;by_cases e1:r1=d
  .subst e1;have e2:r2≠r1:=fun e=>hne e.symm;simp only[g',aK]at aU;simp only[g',ax e2]at ek;exact st.hand r2 (hsome _ e2 h2) b ek (um b aU)
  .simp only[g',ax e1]at aU;by_cases e2:r2=d
   .subst e2;simp only[g',aK]at ek;exact st.hand r1 (hsome _ e1 h1) b aU (um b ek)
   .simp only[g',ax e2]at ek;exact st.cj r1 r2 hne (hsome _ e1 h1) (hsome _ e2 h2) b aU ek
 .intro r1 h1 b aU hp;by_cases e1:r1=d
  .subst e1;simp only[g',aK]at aU;exact st.aR b (um b aU) hp
  .simp only[g',ax e1]at aU;exact st.ck r1 (hsome _ e1 h1) b aU hp
 .rintro r1 h1 b aU ⟨hz,hn,hn2⟩;by_cases e1:r1=d
  .subst e1;simp only[g',aK]at aU;rcases aU with aU | aU
   .exact hn aU
   .exact hn2 aU
  .simp only[g',ax e1]at aU;exact st.hand r1 (hsome _ e1 h1) b aU hz
 .intro r1 b h1 aU;by_cases e1:r1=d
  .subst e1;simp only[g',aK]at aU;exact st.cv b (um b aU)
  .simp only[g',ax e1]at aU;exact st.bk r1 b (hsome _ e1 h1) aU
 .intro r' R' bt;rw[aP]at bt;by_cases e:r'=d
  .subst e;rw[aE rfl]at bt;simp only[ay]at bt;subst bt;simp only[g',aK];exact iX
  .rw[ax e]at bt;simp only[g',ax e];exact st.tag r' R' bt
 .intro r1 b h1 aU;by_cases e1:r1=d
  .subst e1;simp only[g',aK]at aU;exact st.cQ b (um b aU)
  .simp only[g',ax e1]at aU;exact st.own r1 b (hsome _ e1 h1) aU
theorem aj.oH{h:Array Obj}{S:St}{g:ai}{tmps:Array Value}{H:BS}(st:aj h S g tmps H)(d:Nat):aj h (S.ak d none) g tmps H:=by
 have aP:∀r',(S.ak d none).root r'=S.root r'\/(S.ak d none).root r'=none:=by intro r';rw[St.bg];by_cases e:r'=d/\d<S.rt.length<;>simp[e]
 have hsome:∀r',((S.ak d none).root r').isSome->(S.root r').isSome:=by
  intro r' h1;rcases aP r' with e | e
  .rwa [e]at h1
  .rw[e]at h1;simp at h1
 refine { len:=st.len,eA:=by simp[St.ak,aD.aY,st.eA],slots:=?_,roots:=?_,cj:=fun r r' hn h1 h2=>st.cj r r' hn (hsome _ h1) (hsome _ h2),ck:=fun r h1=>st.ck r (hsome _ h1),hand:=fun r h1=>st.hand r (hsome _ h1),aR:=st.aR,aV:=st.aV,bk:=fun r b h1 hb=>st.bk r b (hsome _ h1) hb,cv:=st.cv,tag:=?_,own:=fun r b h1 hb=>st.own r b (hsome _ h1) hb,cQ:=st.cQ,dN:=st.dN,p0:=st.p0,gM:=st.gM }
 .intro t;rw[St.eZ];refine(qe.keep (Sub.refl _) (fun _ _=>rfl) _).1 _ (st.slots t) (AV.ct (fun r p=>?_) (fun r p s=>?_) _)
  .exact(jm st (aP r) rfl rfl (fun _ _ _=>rfl)).1 p
  .exact(jm st (aP r) rfl rfl (fun _ _ _=>rfl)).2 p s
 .intro r R hR;rcases aP r with e | e
  .rw[e]at hR;exact st.roots r R hR
  .rw[e]at hR;simp at hR
 .intro r R hR;rcases aP r with e | e
  .rw[e]at hR;exact st.tag r R hR
  .rw[e]at hR;simp at hR
theorem aj.update{h:Array Obj}{S:St}{g:ai}{tmps:Array Value}{H:BS}(st:aj h S g tmps H){r:Nat}{R:aB}{q:Path}{d:Dy}
  (hR:S.root r=some R) (hf:focus R.ty R.ms R.x q=some d) (hin:bO R.ty R.x q) :
  ∃base c F,a_ h R.ty (g.C r) (g.base r) q=some (base,c)/\ag h g.Pr d.ty d.ms d.x c F/\Sub F (g.G r)/\qD h base c F/\
   (∀b o,base=some (b,o)->g.G r b)/\
   ∀(lo hi:Nat)(h2:Array Obj)(m2:Mk)(y:d.ty.den)(c2:List Value)(F2:BS)(m':Mk)(x':R.ty.den),
    (∀t,(S.get t).aH lo hi=true)->
    (∀b,b<h.size->¬ F b->(∀o,base≠some (b,o))->h2[b]? = h[b]?)->h.size<=h2.size->qT h h2 base c2->
    ag h2 g.Pr d.ty m2 y c2 F2->(∀b,F2 b->F b\/H b\/h.size<=b)->(∀b,F2 b->b<h2.size)->
    put R.ty R.ms R.x q d.ty m2 y=some (m',x')->d.ms.jd lo hi m2->aA g.hd d.ty m2 c2->(qx q=true->m2.af=true)->
    (∀p' t1 n1,gf lo hi p'=true->q8 d.ty m2 p'=some (t1,n1)->bO d.ty d.x p'->bO d.ty y p'/\∀bp cp,a_ h d.ty c base p'=some (bp,cp)->
     ∃fh,a_ h2 d.ty c2 base p'=some (bp,fh)/\(∀s a,n1=.own s a->¬ (lo<=s/\s<hi)->fh=cp))->
    ∃g',aj h2 (S.ak r (some { R with ms:=m',x:=x' })) g' tmps (fun b=>H b/\¬ F2 b)/\Sub g.Pr g'.Pr/\g'.bG g/\g'.B=g.B/\(∀b,g.Pr b->h2[b]? = h[b]?)/\
     ∀a:AV,a.aH lo hi=true->a.bT h h2 S (S.ak r (some { R with ms:=m',x:=x' })) g g':=by
 obtain⟨base,c,F,q1,q2,q3,q4,q5,q6⟩:=st.iO hR hf hin;refine⟨base,c,F,q1,q2,q3,q4,q5,?_⟩;intro lo hi h2 m2 y c2 F2 m' x' p1 p2 p3 p4 p5 p6 p7 p8 p9 HB HC HD;obtain⟨g',k1,k2,k3,k4,k5,k6,k7⟩:=q6 lo hi h2 m2 y c2 F2 Nil m' x' p1 p2 p3 p4 (ag.mono (fun b hb=>.inl hb) (fun _ _=>rfl) _ p5 (Sub.refl _) (fun _ _=>rfl)) (bz.nil _)
  (fun b hb=>p6 b (hb.resolve_right id)) (fun b hb=>p7 b (hb.resolve_right id)) p8 p9 HB HC HD
 exact⟨g',k1.aN (fun b hb=>⟨.inl hb.1,fun h=>h.elim hb.2 id⟩),k2,k4,k5,k6,k7⟩
theorem aj.eB{h:Array Obj}{S:St}{g:ai}{tmps:Array Value}{H:BS}(st:aj h S g tmps H){d:Nat}(hd:(S.root d).isSome) :
  aj h (S.ak d none) g tmps (fun b=>H b\/g.G d b):=by
 have s0:=st.oH d;have hlt:d<S.rt.length:=by obtain⟨R,hR⟩:=lG.1 hd;exact St.j9 hR
 have hn:∀r,((S.ak d none).root r).isSome->r≠d/\(S.root r).isSome:=by
  intro r h1;rw[St.bg]at h1;by_cases e:r=d
  .subst e;simp[hlt]at h1
  .rw[ax (fun h=>e h.1)]at h1;exact⟨e,h1⟩
 refine { s0 with hand:=?_,aR:=?_,cv:=?_,cQ:=?_ }
 .rintro r h1 b hb (hz | hz)
  .exact s0.hand r h1 b hb hz
  .exact st.cj r d (hn r h1).1 (hn r h1).2 hd b hb hz
 .rintro b (hz | hz) hp
  .exact st.aR b hz hp
  .exact st.ck d hd b hz hp
 .rintro b (hz | hz)
  .exact st.cv b hz
  .exact st.bk d b hd hz
 .rintro b (hz | hz)
  .exact st.cQ b hz
  .exact st.own d b hd hz
end Go.V
namespace Go.V
noncomputable section
open Go
theorem nP:∀(p q:Path){t:Ty}{m:Mk}{x:t.den}{d:Dy},focus t m x p=some d->focus t m x (p++q)=focus d.ty d.ms d.x q
 | [],q,t,m,x,d,h=>by simp only[focus,ay]at h;subst h;rfl
 | .fst::p,q,t,m,x,d,h=>by
  cases t with
  | pair a b=>simp only[focus,iE]at h⊢;exact nP p q h
  | _=>simp[focus]at h
 | .snd::p,q,t,m,x,d,h=>by
  cases t with
  | pair a b=>simp only[focus,iE]at h⊢;exact nP p q h
  | _=>simp[focus]at h
 | .idx i s'::p,q,t,m,x,d,h=>by
  cases t with
  | sl e=>
   cases m with
   | own s mi=>
    simp only[focus,iE]at h⊢;split at h
    .rename_i hs;simp only[hs,aK];exact nP p q h
    .simp at h
   | _=>simp[focus]at h
  | _=>simp[focus]at h
theorem qA:∀(p q:Path){t:Ty}{m:Mk}{x:t.den}{d:Dy},focus t m x p=some d->(bO t x (p++q)↔bO t x p/\bO d.ty d.x q)
 | [],q,t,m,x,d,h=>by
  simp only[focus,ay]at h;subst h;have:bO t x []=True:=by cases t<;>rfl
  simp[this]
 | .fst::p,q,t,m,x,d,h=>by
  cases t with
  | pair a b=>simp only[focus,iE,bO]at h⊢;exact qA p q h
  | _=>simp[focus]at h
 | .snd::p,q,t,m,x,d,h=>by
  cases t with
  | pair a b=>simp only[focus,iE,bO]at h⊢;exact qA p q h
  | _=>simp[focus]at h
 | .idx i s'::p,q,t,m,x,d,h=>by
  cases t with
  | sl e=>
   cases m with
   | own s mi=>
    simp only[focus,iE,bO]at h⊢;split at h
    .rw[qA p q h,and_assoc]
    .simp at h
   | _=>simp[focus]at h
  | _=>simp[focus]at h
theorem nS{hp:Array Obj}:∀(p q:Path){t:Ty}{m:Mk}{x:t.den}{d:Dy}{c:List Value}{base base':dc}{c':List Value},focus t m x p=some d->
  a_ hp t c base p=some (base',c')->a_ hp t c base (p++q)=a_ hp d.ty c' base' q
 | [],q,t,m,x,d,c,base,base',c',hf,h=>by
  simp only[focus,ay]at hf;subst hf;have e:a_ hp t c base []=some (base,c):=by cases t<;>rfl
  rw[e]at h;simp only[ay,aJ]at h;obtain⟨rfl,rfl⟩:=h;rfl
 | .fst::p,q,t,m,x,d,c,base,base',c',hf,h=>by
  cases t with
  | pair a b=>simp only[focus,iE,a_]at hf h⊢;exact nS p q hf h
  | _=>simp[focus]at hf
 | .snd::p,q,t,m,x,d,c,base,base',c',hf,h=>by
  cases t with
  | pair a b=>simp only[focus,iE,a_]at hf h⊢;exact nS p q hf h
  | _=>simp[focus]at hf
 | .idx i s'::p,q,t,m,x,d,c,base,base',c',hf,h=>by
  cases t with
  | sl e=>
   cases m with
   | own s mi=>
    simp only[focus]at hf;split at hf
    .simp only[iE,a_]at h⊢;split at h
     .rename_i b n k;split at h
      .rename_i cs e1 e2 hb;exact nS p q hf h
      .simp at h
     .simp at h
    .simp at hf
   | _=>simp[focus]at hf
  | _=>simp[focus]at hf
theorem vT{h:Array Obj}{S:St}{g:ai}{r:Nat}{R:aB}(hR:S.root r=some R) :
  ∀(t:Ty)(m:Mk)(x:t.den)(p:Path)(base:dc)(c:List Value)(F:BS),focus R.ty R.ms R.x p=some ⟨t,m,x⟩->bO R.ty R.x p->
   a_ h R.ty (g.C r) (g.base r) p=some (base,c)->ag h g.Pr t m x c F->bR h S g (bL r t m x p) c
 | .unit,m,x,p,base,c,F,_,_,_,r=>by simp only[ag]at r;simp only[bL,bR];exact r
 | .int k,m,x,p,base,c,F,_,_,_,r=>by simp only[bL,bR];simpa only [ag] using r
 | .bool,m,x,p,base,c,F,_,_,_,r=>by simp only[bL,bR];simpa only [ag] using r
 | .str,m,x,p,base,c,F,_,_,_,r=>by simp only[bL,bR];simpa only [ag] using r
 | .pair a b,m,x,p,base,c,F,hf,hin,cz,r=>by
  unfold bL;by_cases hs:m.still=true
  .simp only[hs,aK,bR];exact ag.cH _ hs r
  .simp only[hs,cL,bY,bR];simp only[ag]at r;obtain⟨ca,cb,Fa,Fb,rfl,ra,rb,sa,sb,dd⟩:=r;have wa:=ag.width a ra;refine⟨ca,cb,rfl,?_,?_⟩
   .refine vT hR a m.fst x.1 (p++[.fst]) base ca Fa ?_ ?_ ?_ ra
    .rw[nP p _ hf];simp[focus]
    .rw[qA p _ hf];exact⟨hin,by simp only[bO]⟩
    .rw[nS p _ hf cz];simp only[a_];rw[<-wa,fL rfl]
   .refine vT hR b m.snd x.2 (p++[.snd]) (base.map fun z=>(z.1,z.2+a.width)) cb Fb ?_ ?_ ?_ rb
    .rw[nP p _ hf];simp[focus]
    .rw[qA p _ hf];exact⟨hin,by simp only[bO]⟩
    .rw[nS p _ hf cz];simp only[a_];rw[<-wa,fz rfl]
 | .sl t,m,x,p,base,c,F,hf,hin,cz,r=>by
  cases m with
  | no=>simp only[bL,bR];exact ag.cH _ rfl r
  | gone=>simp only[bL,bR]
  | pr _ _=>simp only[bL,bR];simpa only [ag] using r
  | own s mi=>simp only[bL,bR];obtain⟨a,n,k,rfl⟩:=ag.slice r;refine⟨_,rfl,fun R' bt t' m' xs hf'=>?_⟩;rw[hR]at bt;simp only[ay]at bt;subst bt;exact⟨hin,base,cz⟩
theorem bR.rel{h:Array Obj}{S:St}{g:ai}{r:Nat}{t:Ty}{m:Mk}{x:t.den}{p:Path}{c:List Value}{F:BS}(rep:ag h g.Pr t m x c F)
  (y:bR h S g (bL r t m x p) c) (hu:t≠.unit):qe h S g (bL r t m x p) (bK t c):=by
 cases t with
 | unit=>exact absurd rfl hu
 | int k=>simp only[bL,bR]at y;simp only[bL,qe];exact⟨c,y,rfl⟩
 | bool=>simp only[bL,bR]at y;simp only[bL,qe];exact⟨c,y,rfl⟩
 | str=>simp only[bL,bR]at y;simp only[bL,qe];exact⟨c,y,rfl⟩
 | pair a b=>
  unfold bL at y⊢;by_cases hs:m.still=true
  .simp only[hs,aK,bR]at y;simp only[hs,aK,qe];exact⟨c,y,rfl⟩
  .simp only[hs,cL,bY,bR]at y;simp only[hs,cL,bY,qe];obtain⟨ca,cb,rfl,y1,y2⟩:=y;exact⟨ca,cb,rfl,y1,y2⟩
 | sl t=>
  cases m with
  | no=>simp only[bL,bR]at y;simp only[bL,qe];exact⟨c,y,rfl⟩
  | gone=>simp only[bL,qe]
  | pr _ _=>simp only[bL,bR]at y;simp only[bL,qe];exact⟨c,y,rfl⟩
  | own s mi=>simp only[bL,bR]at y;obtain⟨v,rfl,y⟩:=y;simp only[bL,qe,bK,Ty.agg,cL,bY,mR];exact y
theorem uP{a b:Ty}{x:a.den}{y:b.den}(h:qbv a b x=some y):∃e:a=b,e ▸ x=y:=by
 unfold qbv at h;split at h
 .rename_i e;exact⟨e,by simpa using h⟩
 .simp at h
theorem ag.cast{h:Array Obj}{Pr:BS}{a b:Ty}{m:Mk}{x:a.den}{y:b.den}{c:List Value}{F:BS}(e:qbv a b x=some y)(r:ag h Pr a m x c F):a=b/\ag h Pr b m y c F:=by obtain⟨rfl,rfl⟩:=uP e;exact⟨rfl,r⟩
def qU(S:St)(g:ai):BS:=fun b=>g.Pr b\/∃r,(S.root r).isSome/\g.G r b
theorem A4{h:Array Obj}{S:St}{g:ai}{tmps:Array Value}{H:BS}(st:aj h S g tmps H){r:Nat}{p:Path}{s s':Nat}{t':Ty}{m:Mk}{xs:(Ty.sl t').den}{v:Value}
  (hf:S.focus r p=some ⟨.sl t',.own s' m,xs⟩) (hs:s=s') (x:kZ h S g r p s v) :
  ∃R base F,S.root r=some R/\focus R.ty R.ms R.x p=some ⟨.sl t',.own s' m,xs⟩/\bO R.ty R.x p/\a_ h R.ty (g.C r) (g.base r) p=some (base,[v])/\
   ag h g.Pr (.sl t') (.own s' m) xs [v] F/\Sub F (g.G r):=by
 simp only[St.focus,aD.focus]at hf;split at hf
 .rename_i R hR;subst hs;obtain⟨hin,base,cz⟩:=x R hR t' m xs hf;obtain⟨F0,rep,hF,hB,hmem,j3⟩:=st.roots r R hR;obtain⟨base',c',F,Fr,z⟩:=zip p _ _ _ _ F0 _ _ rep hf hin (st.l_ hR rep hB hmem j3);have:=z.at_;rw[cz]at this;simp only[ay,aJ]at this;obtain⟨rfl,rfl⟩:=this;exact⟨R,base,F,hR,hf,hin,cz,z.rep,fun b hb=>hF b (z.sub b hb)⟩
 .simp at hf
theorem tj{h:Array Obj}{S:St}{g:ai}{tmps:Array Value}{H:BS}(st:aj h S g tmps H):∀(t:Ty){a:AV}{x:t.den}{c:List Value},
  rd S.rt t a=some x->bR h S g a c->ag h (qU S g) t .no x c Nil
 | t,a,x,c,hr,y=>by
  have hval:∀(t:Ty)(x:t.den)(t':Ty)(x':t'.den),qbv t' t x'=some x->ag h g.Pr t' .no x' c Nil->ag h (qU S g) t .no x c Nil:=by intro t x t' x' e r;exact ag.mono (fun b hb=>Or.inl hb) (fun _ _=>rfl) t (ag.cast e r).2 (Sub.refl _) (fun _ _=>rfl)
  cases a with
  | val t' x'=>cases t<;>(simp only[rd]at hr;simp only[bR]at y;exact hval _ _ _ _ hr y)
  | unit=>
   cases t with
   | unit=>simp only[bR]at y;simp only[ag];exact y
   | _=>simp[rd]at hr
  | bu r p s=>
   cases t with
   | sl e=>
    simp only[rd]at hr;simp only[bR]at y;obtain⟨v,rfl,y⟩:=y;split at hr
    .rename_i t' s' m xs hf;split at hr
     .rename_i hs;obtain⟨R,base,F,zT,_,_,_,rep,hF⟩:=A4 st hf hs.1 y;have aQ:(S.root r).isSome:=by rw[zT];rfl
      have r2:=ag.share _ (by simpa [Mk.whole] using hs.2) rep;have r3:=ag.mono (dD:=qU S g) (fun b hb=>hb.elim .inl (fun hb=>.inr ⟨r,aQ,hF b hb⟩)) (fun _ _=>rfl) _ r2 (Sub.refl _) (fun _ _=>rfl);exact(ag.cast hr r3).2
     .simp at hr
    .simp at hr
   | _=>simp[rd]at hr
  | pair u v=>
   cases t with
   | pair a b=>
    simp only[rd]at hr;simp only[bR]at y;obtain⟨ca,cb,rfl,y1,y2⟩:=y;cases h1:rd S.rt a u with
    | none=>rw[h1]at hr;simp at hr
    | some x1=>
     rw[h1]at hr;simp only[bX]at hr;cases h2:rd S.rt b v with
     | none=>rw[h2]at hr;simp at hr
     | some x2=>rw[h2]at hr;simp only[bX,ay]at hr;subst hr;simp only[ag];exact⟨ca,cb,Nil,Nil,rfl,tj st a h1 y1,tj st b h2 y2,Sub.nil _,Sub.nil _,bz.nil _⟩
   | _=>simp[rd]at hr
  | undef=>cases t<;>simp[rd]at hr
  | _=>simp only[bR]at y
theorem wI{h:Array Obj}{S:St}{g:ai}{tmps:Array Value}{H:BS}(st:aj h S g tmps H)(t:Ty){a:AV}{x:t.den}{v:Value}
  (hr:rd S.rt t a=some x) (y:qe h S g a v):∃c,v=bK t c/\ag h (qU S g) t .no x c Nil:=by
 cases a with
 | val t' x'=>
  have hc:qbv t' t x'=some x:=by cases t<;>simpa only [rd] using hr
  simp only[qe]at y;obtain⟨c,r,rfl⟩:=y;obtain⟨rfl,r2⟩:=ag.cast hc r;exact⟨c,rfl,ag.mono (fun b hb=>Or.inl hb) (fun _ _=>rfl) _ r2 (Sub.refl _) (fun _ _=>rfl)⟩
 | bA b=>
  cases t with
  | bool=>simp only[rd,ay]at hr;simp only[qe]at y;subst hr;subst y;exact⟨[.bool b],by simp[bK,Ty.agg],by simp only[ag]⟩
  | _=>simp[rd]at hr
 | unit=>
  cases t with
  | unit=>simp only[qe]at y;exact⟨[],by rw[y];rfl,by simp only[ag]⟩
  | _=>simp[rd]at hr
 | cP=>
  cases t with
  | sl e=>simp only[rd,ay]at hr;simp only[qe]at y;subst hr;subst y;exact⟨[.slice none 0 0],by simp[bK,Ty.agg],by simp only[ag];exact⟨none,0,by simp,by simp,by simp⟩⟩
  | _=>simp[rd]at hr
 | bu r p s=>
  cases t with
  | sl e=>have:=tj st (.sl e) (c:=[v]) hr (by simp only[qe]at y;simp only[bR];exact⟨v,rfl,y⟩);exact⟨[v],by simp[bK,Ty.agg],this⟩
  | _=>simp[rd]at hr
 | pair u w=>
  cases t with
  | pair a b=>simp only[qe]at y;obtain⟨ca,cb,rfl,y1,y2⟩:=y;exact⟨ca++cb,by simp[bK,Ty.agg],tj st (.pair a b) hr (by simp only[bR];exact⟨ca,cb,rfl,y1,y2⟩)⟩
  | _=>simp[rd]at hr
 | _=>cases t<;>simp[rd]at hr
end
section trans
variable {h h' h'':Array Obj} {S S' oE:St} {g g' nk:ai}
theorem m8.trans{r:Nat}{p:Path}(x:m8 h h' S S' g g' r p)(y:m8 h' h'' S' oE g' nk r p):m8 h h'' S oE g nk r p:=by intro R2 oa d2 mg;obtain⟨R1,d1,Gh,z_,k1⟩:=y R2 oa d2 mg;obtain⟨R0,d0,zT,me,k0⟩:=x R1 Gh d1 z_;refine⟨R0,d0,zT,me,fun hin=>⟨(k1 (k0 hin).1).1,fun base c ha=>?_⟩⟩;obtain⟨c1,h1⟩:=(k0 hin).2 base c ha;exact(k1 (k0 hin).1).2 base c1 h1
theorem lq.trans{r:Nat}{p:Path}{s:Nat}(x:lq h h' S S' g g' r p s)(y:lq h' h'' S' oE g' nk r p s):lq h h'' S oE g nk r p s:=by intro R2 oa t m xs mg;obtain⟨R1,m1,Wo,Gh,z_,k1⟩:=y R2 oa t m xs mg;obtain⟨R0,m0,yI,zT,me,k0⟩:=x R1 Gh t m1 Wo z_;exact⟨R0,m0,yI,zT,me,fun hin=>⟨(k1 (k0 hin).1).1,fun base c ha=>(k1 (k0 hin).1).2 base c ((k0 hin).2 base c ha)⟩⟩
theorem AV.bT.trans:∀{a:AV},a.bT h h' S S' g g'->a.bT h' h'' S' oE g' nk->a.bT h h'' S oE g nk:=by
 intro a
 induction a with
 | bu r p s=>exact lq.trans
 | view r p s lo hi=>exact lq.trans
 | addr r p=>exact m8.trans
 | pair a b dI gH=>exact fun x y=>⟨dI x.1 y.1,gH x.2 y.2⟩
 | fO a dI=>exact dI
 | eV f a dI=>exact dI
 | _=>exact fun _ _=>trivial
theorem AV.bT.refl:∀(a:AV),a.bT h h S S g g:=
 AV.ct (fun r p R hR d hf=>⟨R,d,hR,hf,fun hin=>⟨hin,fun base c ha=>⟨c,ha⟩⟩⟩)
  (fun r p s R hR t m xs hf=>⟨R,m,xs,hR,hf,fun hin=>⟨hin,fun base c ha=>ha⟩⟩)
end trans
structure gA (h:Array Obj) (S S':St) (g:ai) (tmps:Array Value) (H:BS) (t:Ty) (m:Mk) (x:t.den) (c:List Value) (g':ai) (F:BS):Prop where
 st:aj h S' g' tmps (Un H F)
 pr:Sub g.Pr g'.Pr
 rep:ag h g'.Pr t m x c F
 cj:bz F H
 mU:bz F g'.Pr
 keeps:∀a:AV,a.bT h h S S' g g'
 sl:S'.sl=S.sl
 rl:S'.rt.length=S.rt.length
 tag:aA g.hd t m c
 same:g'.bG g
theorem gA.none{h:Array Obj}{S:St}{g:ai}{tmps:Array Value}{H:BS}(st:aj h S g tmps H){t:Ty}{m:Mk}{x:t.den}{c:List Value}
  (r:ag h g.Pr t m x c Nil) (iX:aA g.hd t m c):gA h S S g tmps H t m x c g Nil where
 st:=st.aN (fun b hb=>hb.resolve_right id)
 pr:=Sub.refl _
 rep:=r
 cj:=bz.nil _
 mU:=bz.nil _
 keeps:=AV.bT.refl
 sl:=rfl
 rl:=rfl
 tag:=iX
 same:=.refl g
theorem tv{h:Array Obj}{tmps:Array Value}:∀(t:Ty){S:St}{rt':aD}{g:ai}{H:BS}{a:AV}{m:Mk}{x:t.den}{c:List Value},aj h S g tmps H->
  tk S.rt t a=some (m,x,rt')->bR h S g a c->∃g' F,gA h S ⟨S.sl,rt'⟩ g tmps H t m x c g' F
 | t,S,rt',g,H,a,m,x,c,st,ht,y=>by
  have hval:∀(t:Ty)(x:t.den)(t':Ty)(x':t'.den),((qbv t' t x').bind fun x=>some (Mk.no,x,S.rt))=some (m,x,rt')->ag h g.Pr t' .no x' c Nil->
    ∃g' F,gA h S ⟨S.sl,rt'⟩ g tmps H t m x c g' F:=by
   intro t x t' x' e r;cases hc:qbv t' t x' with
   | none=>rw[hc]at e;simp at e
   | some z=>rw[hc]at e;simp only[bX,ay,aJ]at e;obtain⟨rfl,rfl,rfl⟩:=e;exact⟨g,Nil,gA.none st (ag.cast hc r).2 (aA.no _ _)⟩
  cases a with
  | val t' x'=>cases t<;>(simp only[tk]at ht;simp only[bR]at y;exact hval _ _ _ _ ht y)
  | unit=>
   cases t with
   | unit=>simp only[bR]at y;simp only[tk,ay,aJ]at ht;obtain⟨rfl,_,rfl⟩:=ht;exact⟨g,Nil,gA.none st (by simp only[ag];exact y) (aA.no _ _)⟩
   | _=>simp[tk]at ht
  | bu r p s=>
   cases t with
   | sl e=>
    simp only[tk]at ht;simp only[bR]at y;obtain⟨v,rfl,y⟩:=y;split at ht
    .rename_i R hR;split at ht
     .rename_i t' s' mi xs hf;split at ht
      .rename_i hs;cases hc:qbv (.sl t') (.sl e) xs with
       | none=>rw[hc]at ht;simp at ht
       | some z=>
        rw[hc]at ht;simp only[bX]at ht;cases hm:gV R.ty R.ms p .gone with
        | none=>rw[hm]at ht;simp at ht
        | some m'=>rw[hm]at ht;simp only[bX,ay,aJ]at ht;obtain⟨rfl,rfl,rfl⟩:=ht;have hin:=(y R hR t' mi xs (by rw[hf];simp[hs])).1;obtain⟨jL,nt⟩:=(y R hR t' mi xs (by rw[hf];simp[hs])).2;obtain⟨g',F,base,c',h1,h2,h3,h4,h5,h6,h7,iX,fA,h8,h9,RS,RT⟩:=st.take hR hf hin hm;rw[nt]at h6;simp only[ay,aJ]at h6;obtain⟨_,rfl⟩:=h6;obtain⟨_,h12⟩:=ag.cast hc h7;exact⟨g',F,{ st:=h1,pr:=h2,rep:=h12,cj:=h8,mU:=RS,keeps:=RT,sl:=rfl,rl:=by simp[aD.aY],tag:=by obtain⟨e1,e2⟩:=uP hc;simp only[Ty.sl.injEq]at e1;subst e1;exact iX,same:=fA }⟩
      .simp at ht
     .simp at ht
    .simp at ht
   | _=>simp[tk]at ht
  | pair u v=>
   cases t with
   | pair a b=>
    simp only[tk]at ht;simp only[bR]at y;obtain⟨ca,cb,rfl,y1,y2⟩:=y;cases h1:tk S.rt a u with
    | none=>rw[h1]at ht;simp at ht
    | some z1=>
     obtain⟨m1,x1,S1⟩:=z1;rw[h1]at ht;simp only[bX]at ht;cases h2:tk S1 b v with
     | none=>rw[h2]at ht;simp at ht
     | some z2=>
      obtain⟨m2,x2,S2⟩:=z2;rw[h2]at ht;simp only[bX,ay,aJ]at ht;obtain⟨rfl,rfl,rfl⟩:=ht;obtain⟨g1,F1,k1⟩:=tv a st h1 y1;obtain⟨g2,F2,k2⟩:=tv b (S:=⟨S.sl,S1⟩) k1.st h2 (bR.keep k1.pr (fun _ _=>rfl) y2 (k1.keeps v));refine⟨g2,Un F1 F2,{ st:=k2.st.aN ?_,pr:=k1.pr.trans k2.pr,rep:=?_,cj:=?_,mU:=?_,keeps:=fun a=>(k1.keeps a).trans (k2.keeps a),sl:=k2.sl.trans k1.sl,rl:=k2.rl.trans k1.rl,tag:=?_,same:=k1.same.trans k2.same }⟩
      .rintro b' (hb | hb | hb)
       .exact .inl (.inl hb)
       .exact .inl (.inr hb)
       .exact .inr hb
      .simp only[ag,Mk.fst,Mk.snd];refine⟨ca,cb,F1,F2,rfl,ag.mono k2.pr (fun _ _=>rfl) a k1.rep (Sub.refl _) (fun _ _=>rfl),k2.rep,fun _ hb=>.inl hb,fun _ hb=>.inr hb,?_⟩;intro b' aU ek;exact k2.cj b' ek (.inr aU)
      .rintro b' (hb | hb) hH
       .exact k1.cj b' hb hH
       .exact k2.cj b' hb (.inl hH)
      .rintro b' (hb | hb) hp
       .exact k2.st.aR b' (.inl (.inr hb)) hp
       .exact k2.mU b' hb hp
      .simp only[aA,Mk.fst,Mk.snd];have hl:=ag.width a k1.rep;rw[fL hl,fz hl];have:=k2.tag;rw[k1.same.1]at this;exact⟨k1.tag,this⟩
   | _=>simp[tk]at ht
  | undef=>cases t<;>simp[tk]at ht
  | _=>simp only[bR]at y
theorem qH{h:Array Obj}{tmps:Array Value}(t:Ty){S:St}{rt':aD}{g:ai}{H:BS}{a:AV}{m:Mk}{x:t.den}{v:Value}(st:aj h S g tmps H)
  (ht:tk S.rt t a=some (m,x,rt')) (y:qe h S g a v):∃c g' F,v=bK t c/\gA h S ⟨S.sl,rt'⟩ g tmps H t m x c g' F:=by
 cases a with
 | val t' x'=>
  have hc0:((qbv t' t x').bind fun x=>some (Mk.no,x,S.rt))=some (m,x,rt'):=by cases t<;>simpa only [tk] using ht
  simp only[qe]at y;obtain⟨c,r,rfl⟩:=y;cases hc:qbv t' t x' with
  | none=>rw[hc]at hc0;simp at hc0
  | some z=>rw[hc]at hc0;simp only[bX,ay,aJ]at hc0;obtain⟨rfl,rfl,rfl⟩:=hc0;obtain⟨rfl,r2⟩:=ag.cast hc r;exact⟨c,g,Nil,rfl,gA.none st r2 (aA.no _ _)⟩
 | bA b=>
  cases t with
  | bool=>simp only[tk,ay,aJ]at ht;simp only[qe]at y;obtain⟨rfl,rfl,rfl⟩:=ht;subst y;exact⟨[.bool b],g,Nil,by simp[bK,Ty.agg],gA.none st (by simp only[ag]) (aA.no _ _)⟩
  | _=>simp[tk]at ht
 | unit=>
  cases t with
  | unit=>simp only[tk,ay,aJ]at ht;simp only[qe]at y;obtain⟨rfl,_,rfl⟩:=ht;exact⟨[],g,Nil,by rw[y];rfl,gA.none st (by simp only[ag]) (aA.no _ _)⟩
  | _=>simp[tk]at ht
 | cP=>
  cases t with
  | sl e=>simp only[tk,ay,aJ]at ht;simp only[qe]at y;obtain⟨rfl,rfl,rfl⟩:=ht;subst y;exact⟨[.slice none 0 0],g,Nil,by simp[bK,Ty.agg],gA.none st (by simp only[Mk.top,ag];exact⟨none,0,by simp,by simp,.inl rfl⟩) (aA.af _ (Mk.bQ _))⟩
  | _=>simp[tk]at ht
 | bu r p s=>
  cases t with
  | sl e=>obtain⟨g',F,k⟩:=tv (.sl e) (c:=[v]) st ht (by simp only[qe]at y;simp only[bR];exact⟨v,rfl,y⟩);exact⟨[v],g',F,by simp[bK,Ty.agg],k⟩
  | _=>simp[tk]at ht
 | pair u w=>
  cases t with
  | pair a b=>simp only[qe]at y;obtain⟨ca,cb,rfl,y1,y2⟩:=y;obtain⟨g',F,k⟩:=tv (.pair a b) (c:=ca++cb) st ht (by simp only[bR];exact⟨ca,cb,rfl,y1,y2⟩);exact⟨ca++cb,g',F,by simp[bK,Ty.agg],k⟩
  | _=>simp[tk]at ht
 | _=>cases t<;>simp[tk]at ht
end Go.V
namespace Go.V
noncomputable section
open Go
def zc:Ty->List Value
 | .unit=>[]
 | .int k=>[.int k 0]
 | .bool=>[.bool false]
 | .str=>[.string ByteArray.empty]
 | .sl _=>[.slice none 0 0]
 | .pair a b=>zc a++zc b
theorem t_:∀t:Ty,(zc t).length=t.width
 | .unit=>rfl
 | .int _=>rfl
 | .bool=>rfl
 | .str=>rfl
 | .sl _=>rfl
 | .pair a b=>by simp[zc,Ty.width,t_ a,t_ b]
theorem ag.zero{h:Array Obj}{Pr:BS}:∀(t:Ty)(m:Mk),ag h Pr t m t.zero (zc t) Nil
 | .unit,_=>by simp only[ag,zc]
 | .int _,_=>by simp only[ag,zc,Ty.zero]
 | .bool,_=>by simp only[ag,zc,Ty.zero]
 | .str,_=>by simp only[ag,zc,Ty.zero]
 | .sl t,m=>by
  cases m<;>simp only[ag,zc,Ty.zero]
  .exact⟨none,0,rfl,bN _,fun h=>absurd rfl h⟩
  .exact⟨none,0,0,rfl⟩
  .exact⟨none,0,rfl,bN _,.inl rfl⟩
  .exact⟨none,0,rfl,bN _,fun h=>absurd rfl h⟩
 | .pair a b,m=>by
  simp only[ag,zc,Ty.zero];exact⟨zc a,zc b,Nil,Nil,rfl,ag.zero a _,ag.zero b _,Sub.nil _,Sub.nil _,bz.nil _⟩
theorem ag.one{h:Array Obj}{Pr:BS}:∀(t:Ty){m:Mk}{x:t.den}{c:List Value}{F:BS},ag h Pr t m x c F->∀v∈c,v.oneCell'=true
 | .unit,_,_,_,_,r,v,hv=>by simp only[ag]at r;subst r;simp at hv
 | .int k,_,_,_,_,r,v,hv=>by simp only[ag]at r;subst r;simp only[gk]at hv;subst hv;rfl
 | .bool,_,_,_,_,r,v,hv=>by simp only[ag]at r;subst r;simp only[gk]at hv;subst hv;rfl
 | .str,_,_,_,_,r,v,hv=>by simp only[ag]at r;subst r;simp only[gk]at hv;subst hv;rfl
 | .sl t,m,_,_,_,r,v,hv=>by
  obtain⟨a,n,k,rfl⟩:=ag.slice r;simp only[gk]at hv;subst hv;rfl
 | .pair a b,m,_,_,_,r,v,hv=>by
  simp only[ag]at r;obtain⟨ca,cb,Fa,Fb,rfl,ra,rb,_⟩:=r;rcases dw.1 hv with hv | hv
  .exact ag.one a ra v hv
  .exact ag.one b rb v hv
def Ty.deep:Ty->Nat
 | .pair a b=>a.deep+b.deep+1
 | .sl t=>t.deep+1
 | _=>1
def iM(C:Ctx):List Field->Nat->Ty->Prop
 | [],_,T=>T=.unit
 | f::fs,off,T=>∃b,T=.pair (C.ty f.type) b/\f.offset=off/\f.name≠ "_" /\ (C.ty f.type).nz=true/\iM C fs (off+(C.ty f.type).width) b
def jV(C:Ctx):TypeDesc->Ty->Prop
 | .int k,T=>T=.int k
 | .bool,T=>T=.bool
 | .string,T=>T=.str
 | .slice e,T=>T=.sl (C.ty e)/\(C.ty e).nz=true
 | .struct fs,T=>iM C fs.toList 0 T/\T≠.unit
 | _,_=>False
structure iu (P:Program) (C:Ctx) (t:TypeId):Prop where
 info:∃i,P.info? t=some i/\i.size=(C.ty t).width/\i.zero=some (bK (C.ty t) (zc (C.ty t)))/\i.bytes<=255
 pos:0<(C.ty t).width
 desc:∃d,P.underlying t=some d/\jV C d (C.ty t)
 deep:(C.ty t).deep<10000
 eq:(C.ty t).agg=true->(C.ty t).comp=true->P.stoodInHeld t=false/\P.eqGuardType P.depth t=false
def e_(P:Program)(C:Ctx):Prop:=∀t,(C.ty t).nz=true->iu P C t
section
variable {P:Program} {C:Ctx} {t:TypeId} (k:iu P C t) (w:World)
include k
theorem iu.lA:(zeroValue t).run P w=.ok (bK (C.ty t) (zc (C.ty t))) w:=by obtain⟨i,h1,h2,h3,h4⟩:=k.info;simp[zeroValue,typeInfo,h1,h3]
theorem iu.dz:(sizeOf t).run P w=.ok (C.ty t).width w:=by obtain⟨i,h1,h2,h3,h4⟩:=k.info;simp[sizeOf,typeInfo,h1,h2]
theorem iu.j_:(isAgg t).run P w=.ok (C.ty t).agg w:=by
 obtain⟨d,h1,h2⟩:=k.desc;have:(underlying t).run P w=.ok d w:=by simp[underlying,h1]
 cases d<;>simp only[jV]at h2<;>simp[isAgg,this,Sem.run_bind]
 case bool=>rw[h2];rfl
 case int=>rw[h2];rfl
 case string=>rw[h2];rfl
 case slice=>rw[h2.1];rfl
 case struct fs=>
  cases hl:fs.toList with
  | nil=>rw[hl]at h2;simp only[iM]at h2;exact absurd h2.1 h2.2
  | cons f l=>rw[hl]at h2;simp only[iM]at h2;obtain⟨⟨b,e,_⟩,_⟩:=h2;rw[e];rfl
end
theorem tE(T:Ty):(bK T (zc T)).cells.toList=zc T:=tU (ag.zero (h:=#[]) (Pr:=Nil) T .no)
structure gB (L:BS) (w w':World):Prop where
 os:w'.os=w.os
 tape:w'.tape=w.tape
 output:w'.output=w.output
 size:w.heap.size<=w'.heap.size
 block:∀b,b<w.heap.size->¬ L b->w'.heap[b]? = w.heap[b]?
theorem gB.refl(L:BS)(w:World):gB L w w:=⟨rfl,rfl,rfl,bN _,fun _ _ _=>rfl⟩
theorem gB.trans{L:BS}{a b c:World}(h:gB L a b)(k:gB L b c):gB L a c:=
 ⟨k.os.trans h.os,k.tape.trans h.tape,k.output.trans h.output,jH h.size k.size,
  fun i hi hn=>(k.block i (Nat.lt_of_lt_of_le hi h.size) hn).trans (h.block i hi hn)⟩
theorem gB.mono{L L':BS}{a b:World}(h:gB L a b)(hs:∀i,i<a.heap.size->L i->L' i):gB L' a b:=
 ⟨h.os,h.tape,h.output,h.size,fun i hi hn=>h.block i hi fun hl=>hn (hs i hi hl)⟩
theorem gB.drawn{L:BS}{w:World}(n:Nat):gB L w { w with drawn:=n }:=⟨rfl,rfl,rfl,bN _,fun _ _ _=>rfl⟩
theorem gB.push{L:BS}{w:World}(o:Obj):gB L w { w with heap:=w.heap.push o }:=
 ⟨rfl,rfl,rfl,by simp,fun b hb _=>by show(w.heap.push o)[b]? = _;rw[sM,ax (by omega)]⟩
theorem rK{h:Array Obj}{o:Obj}:∀b,b<h.size->(h.push o)[b]? = h[b]?:=fun b hb=>by rw[sM,ax (by omega)]
theorem Je{h:Array Obj}{o:Obj}:(h.push o)[h.size]? = some o:=by rw[sM,aE rfl]
theorem fI.new{h:Array Obj}{cs:Array Value}{e:TypeId}:fI (h.push (.cells cs e)) h.size cs:=⟨e,0,0,Je,fun i _=>by omega⟩
theorem C8{w:World}{b:Nat}{cs:Array Value}{e:TypeId}{fr:Nat×Nat}(h:w.heap[b]? = some (.cells cs e fr))(i:Nat):w.cell? ⟨b,i,none⟩=cs[i]?:=by simp[World.cell?,h]
theorem tO{w:World}{b o n:Nat}{cs:Array Value}(h:mS w.heap b cs)(hn:o+n<=cs.size):w.rangeAt b o (sub cs o n):=by
 obtain⟨e,fr,he⟩:=h;intro j v hv;rw[C8 he];simp only[sub,di,dW]at hv;split at hv
 .simpa using hv
 .simp at hv
theorem wT{cs:Array Value}{o n:Nat}(h:o+n<=cs.size):(sub cs o n).length=n:=by simp[sub];omega
theorem tM{b:Nat}:∀(vs:List Value)(o:Nat)(w:World)(k:Nat),k≠b->(w.setCells b o vs).heap[k]? = w.heap[k]?
 | [],_,_,_,_=>rfl
 | v::r,o,w,k,hk=>by
  rw[World.setCells,tM r (o+1) _ k hk];simp only[World.setCell,CB];rw[ax (by omega)]
theorem lp{b:Nat}:∀(vs:List Value)(o:Nat)(w:World),(w.setCells b o vs).heap.size=w.heap.size
 | [],_,_=>rfl
 | v::r,o,w=>by rw[World.setCells,lp r];simp[World.setCell]
theorem yu{b:Nat}:∀(vs:List Value)(o:Nat)(w:World),(w.setCells b o vs).os=w.os/\(w.setCells b o vs).tape=w.tape/\(w.setCells b o vs).output=w.output
 | [],_,_=>⟨rfl,rfl,rfl⟩
 | v::r,o,w=>by rw[World.setCells];exact yu r _ _
theorem CU{l:List Value}{o:Nat}{v:Value}{r:List Value}(h:o+(v::r).length<=l.length):aW (l.set o v) (o+1) r=aW l o (v::r):=by
 simp only[g9]at h;have hA:(l.take o).length=o:=by simp;omega
 have e0:l.set o v=l.take o++v::l.drop (o+1):=by rw[List.set_eq_take_append_cons_drop,aE (by omega)]
 have e1:(l.set o v).take (o+1)=l.take o++[v]:=by
  rw[e0,List.take_append,hA,n6 (by omega)];have:o+1-o=1:=by omega
  rw[this];rfl
 have e2:(l.set o v).drop (o+1+r.length)=l.drop (o+(r.length+1)):=by
  rw[e0,wC,hA,lH (by omega),lN];have:o+1+r.length-o=r.length+1:=by omega
  rw[this,List.drop_succ_cons,lP];congr 1;omega
 simp only[aW,g9];rw[e1,e2];simp
theorem EJ{b:Nat}{e:TypeId}{fr:Nat×Nat}:∀(vs:List Value)(o:Nat)(w:World)(cs:Array Value),w.heap[b]? = some (.cells cs e fr)->o+vs.length<=cs.size->
  ∃dL:Array Value,(w.setCells b o vs).heap[b]? = some (.cells dL e fr)/\dL.toList=aW cs.toList o vs
 | [],o,w,cs,h,hl=>⟨cs,h,by simp[aW]⟩
 | v::r,o,w,cs,h,hl=>by
  simp only[g9]at hl;rw[World.setCells];have h1:(w.setCell ⟨b,o,none⟩ v).heap[b]? = some (.cells (cs.setIfInBounds o v) e fr):=by simp[World.setCell,CB,h]
  obtain⟨dL,h2,h3⟩:=EJ r (o+1) _ _ h1 (by simp;omega);refine⟨dL,h2,?_⟩;rw[h3,Cz];exact CU (by simp;omega)
theorem nE{w:World}{b o n:Nat}{cs:Array Value}(h:fI w.heap b cs)(hn:o+n<=cs.size):w.there b o n:=by obtain⟨e,lo,hi,he,hf⟩:=h;intro j hj;rw[C8 he];refine⟨by rw[lE (by omega)];rfl,?_⟩;have:=hf (o+j) (by omega);simp only[World.frozen?,he];simpa using this
theorem sJ{w:World}{b o:Nat}{c2:List Value}{base:dc}(hb:base=some (b,o)){cs:Array Value}(h:fI w.heap b cs)(hn:o+c2.length<=cs.size) :
  qT w.heap (w.setCells b o c2).heap base c2:=by
 intro b' o' e cs' h';rw[hb]at e;simp only[ay,aJ]at e;obtain⟨rfl,rfl⟩:=e;obtain rfl:=fI.uniq h h';obtain⟨ty,lo,hi,he,hf⟩:=h;obtain⟨dL,h2,h3⟩:=EJ c2 o w cs he hn;refine⟨dL,⟨ty,lo,hi,h2,fun i hi'=>hf i ?_⟩,h3⟩;have:dL.size=cs.size:=by rw[<-dH,h3,tP (by simpa using hn),dH]
 omega
end
end Go.V

import Derived.Calls
import Derived.Deep.MidRow
import Derived.Laws.MakeOwn
import Derived.Orders
set_option linter.unusedVariables false
set_option linter.unusedSimpArgs false
set_option linter.unusedSectionVars false
namespace Go
abbrev af:=@if_neg
abbrev aK:=@Option.some.injEq
abbrev aj:=@if_pos
abbrev aY:=@Prod.mk.injEq
abbrev bI:=@Bool.and_eq_true
abbrev cM:=@Option.bind_eq_some_iff
abbrev b7:=@decide_eq_false
abbrev cJ:=@Bool.not_true
abbrev eE:=@Int.toNat_natCast
abbrev e8:=@List.mem_cons_self
abbrev bh:=@List.mem_cons
abbrev bw:=@decide_eq_true
abbrev bN:=@List.mem_append
abbrev cF:=@List.mem_cons_of_mem
abbrev bf:=@cond_false
abbrev b8:=@List.length_set
abbrev ct:=@List.length_cons
abbrev cT:=@List.length_append
abbrev aX:=@if_true
abbrev bA:=@cond_true
abbrev dg:=@List.not_mem_nil
abbrev cv:=@List.map_cons
abbrev d9:=@List.mem_singleton
abbrev fq:=@Option.map_eq_some_iff
abbrev dG:=@Option.bind_some
abbrev fu:=@Nat.mul_le_mul_right
abbrev cq:=@Nat.le_refl
abbrev eI:=@List.append_assoc
abbrev fh:=@Bool.false_eq_true
abbrev gz:=@List.getElem?_eq_getElem
abbrev eB:=@List.getElem_mem
abbrev d_:=@Option.map_some
abbrev eR:=@List.length_take
abbrev eZ:=@List.cons.injEq
abbrev fI:=@List.cons_append
abbrev gm:=@List.getElem?_take
abbrev eJ:=@List.mem_map
abbrev eD:=@Int.le_refl
abbrev gS:=@decide_eq_true_eq
abbrev mR:=@List.take_succ_eq_append_getElem
abbrev iP:=@Array.length_toList
abbrev iE:=@List.getElem?_drop
abbrev kz:=@List.getElem?_append_left
abbrev e7:=@Nat.zero_le
abbrev gA:=@List.nil_append
abbrev gB:=@List.length_nil
abbrev cZ:=@Eq.trans
abbrev jT:=@List.take_of_length_le
abbrev gT:=@List.append_nil
abbrev gU:=@Option.some.inj
abbrev dj:=@or_false
abbrev mc:=@List.getElem?_append_right
abbrev f6:=@List.map_nil
abbrev lG:=@List.length_eq_zero_iff
abbrev dZ:=@if_false
abbrev jU:=@List.length_reverse
abbrev gV:=@List.all_cons
abbrev ew:=@congrArg
abbrev i5:=@List.drop_left'
abbrev jV:=@List.getElem?_set
abbrev jq:=@List.take_left'
abbrev i6:=@Bool.not_false
abbrev pn:=@List.take_append_of_le_length
abbrev kA:=@Bool.not_eq_true'
abbrev jB:=@Bool.or_eq_true
abbrev jC:=@List.length_map
abbrev nG:=@decide_eq_false_iff_not
abbrev nH:=@List.getLast?_singleton
abbrev mS:=@Nat.eq_of_beq_eq_true
abbrev mT:=@List.mem_iff_getElem?
abbrev pq:=@Array.getD_eq_getD_getElem?
abbrev me:=@List.pairwise_cons
abbrev nI:=@List.length_singleton
abbrev jW:=@List.drop_zero
abbrev nJ:=@List.mem_iff_getElem
abbrev oh:=@Bool.and_eq_false_iff
abbrev om:=@List.length_replicate
abbrev rC:=@Array.getElem?_eq_some_iff
abbrev pz:=@List.getElem?_eq_none
abbrev jD:=@Nat.add_mul
abbrev kB:=@Nat.zero_add
abbrev pE:=@Array.toArray_toList
abbrev kC:=@Int.le_of_eq
abbrev pF:=@List.length_pos_iff
abbrev oq:=@List.reverse_cons
abbrev rD:=@Nat.ble_eq_true_of_le
abbrev rE:=@Nat.le_of_ble_eq_true
abbrev rG:=@List.take_append_drop
abbrev nK:=@List.foldl_cons
abbrev sU:=@Classical.axiomOfChoice
abbrev iQ:=@and_true
abbrev mg:=@Nat.succ_mul
abbrev rH:=@List.map_congr_left
abbrev vE:=@Array.getElem?_eq_getElem
abbrev vF:=@List.getElem?_replicate
abbrev rI:=@List.ext_getElem?
abbrev pG:=@List.map_append
abbrev i7:=@Iff.rfl
abbrev vG:=@List.drop_eq_nil_of_le
abbrev nL:=@Nat.le_trans
abbrev zH:=@Bool.true_and
abbrev qQ:=@List.all_eq_true
abbrev yc:=@List.pairwise_iff_getElem
abbrev yd:=@Option.isSome_iff_exists
abbrev B5:=@List.drop_append_of_le_length
abbrev uG:=@List.getD_cons_zero
abbrev qR:=@List.drop_drop
abbrev sB:=@Array.mem_append
abbrev yX:=@Array.ext'
abbrev AJ:=@List.set_set
abbrev sC:=@List.headD_cons
abbrev ye:=@Array.getElem?_toList
abbrev yf:=@List.pairwise_append
abbrev AK:=@decide_true
abbrev qS:=@Nat.add_zero
abbrev uH:=@Option.getD_some
abbrev uI:=@List.mem_reverse
abbrev uJ:=@forall_eq_or_imp
abbrev FU:=@List.takeWhile_append_dropWhile
abbrev sD:=@Bool.false_or
abbrev uK:=@List.take_take
abbrev FV:=@Array.getElem?_setIfInBounds
abbrev FW:=@List.mem_zipIdx_iff_getElem?
abbrev yj:=@List.length_drop
abbrev yl:=@List.getElem_map
abbrev ym:=@List.reverse_nil
abbrev B6:=@List.reverse_reverse
abbrev B7:=@List.mem_append_left
abbrev FX:=@Int.tmod_eq_emod_of_nonneg
abbrev FY:=@List.getD_eq_getElem?_getD
abbrev B8:=@Array.getElem?_push
abbrev FZ:=@List.mem_or_eq_of_mem_set
abbrev uL:=@Nat.mul_comm
abbrev uO:=@implies_true
abbrev B9:=@List.set_cons_zero
abbrev yo:=@List.drop_take
abbrev yp:=@List.mem_range
abbrev F4:=@List.getElem?_cons_zero
abbrev F5:=@List.append_cancel_left
abbrev B_:=@List.flatMap_cons
abbrev Ca:=@Int.lt_trichotomy
abbrev F6:=@Array.getElem?_eq_none
abbrev F7:=@List.dropWhile_sublist
abbrev F8:=@List.reverse_singleton
abbrev yq:=@List.any_cons
abbrev Cb:=@List.ext_getElem
abbrev N2:=@Array.all_eq_true_iff_forall_mem
abbrev Cc:=@List.take_length
abbrev Cd:=@List.filter_cons
abbrev F9:=@Array.mem_of_getElem?
abbrev FE:=@List.set_getElem_self
abbrev FG:=@List.contains_eq_mem
abbrev zI:=@not_or
abbrev FH:=@Array.mem_toList_iff
abbrev yt:=@Bool.true_or
abbrev yu:=@Int.add_zero
abbrev FI:=@List.getD_cons_succ
abbrev yw:=@Nat.one_mul
abbrev FJ:=@Array.foldl_toList
abbrev FK:=@Int.emod_lt_of_pos
abbrev uP:=@forall_eq
abbrev FL:=@List.set_cons_succ
abbrev N3:=@Array.toList_setIfInBounds
abbrev Ce:=@false_implies
abbrev N4:=@List.perm_ext_iff_of_nodup
abbrev FM:=@Bool.not_eq_false
abbrev FN:=@List.getElem?_map
abbrev FO:=@List.length_range
abbrev F_:=@List.nodup_append
abbrev SF:=@List.extract_eq_take_drop
abbrev SG:=@List.drop_eq_getElem_cons
abbrev SH:=@List.getElem?_eq_some_iff
abbrev Ga:=@List.drop_append
abbrev Cf:=@Nat.lt_or_ge
abbrev BR:=@List.map_map
abbrev BT:=@forall_const
abbrev BU:=@Nat.sub_zero
abbrev BV:=@Int.le_trans
abbrev SI:=@List.filter_cons_of_pos
abbrev SJ:=@List.getLast?_cons_cons
abbrev Gb:=@Nat.min_eq_left
abbrev Gc:=@List.foldr_cons
abbrev Gd:=@Option.map_none
abbrev Ge:=@Nat.div_add_mod
abbrev Gf:=@Int.emod_nonneg
abbrev Gg:=@List.nodup_cons
abbrev SK:=@List.filter_eq_nil_iff
abbrev SL:=@List.getElem_cons_succ
abbrev SM:=@List.getElem_cons_zero
abbrev SN:=@Array.getElem?_modify
abbrev Gh:=@List.tail_cons
abbrev SO:=@List.singleton_append
abbrev Gi:=@List.foldl_nil
abbrev Gj:=@Nat.add_assoc
abbrev Gk:=@Nat.lt_irrefl
abbrev Gl:=@Bool.and_self
end Go
namespace Go.V
open Go
inductive Ty where
 | unit | int (k:IntKind) | bool | str | sl (t:Ty) | pair (a b:Ty)
 deriving DecidableEq
@[reducible] def Ty.den:Ty->Type
 | .unit=>Unit
 | .int _=>Int
 | .bool=>Bool
 | .str=>ByteArray
 | .sl t=>List t.den
 | .pair a b=>a.den×b.den
def Ty.width:Ty->Nat
 | .unit=>0
 | .int _=>1
 | .bool=>1
 | .str=>1
 | .sl _=>1
 | .pair a b=>a.width+b.width
def Ty.zero:(t:Ty)->t.den
 | .unit=>()
 | .int _=>0
 | .bool=>false
 | .str=>ByteArray.empty
 | .sl _=>[]
 | .pair a b=>(a.zero,b.zero)
def Ty.agg:Ty->Bool
 | .unit=>true
 | .pair _ _=>true
 | _=>false
inductive Mk where
 | no | gone | own (s:Nat) (m:Mk) | pr (a b:Mk)
 deriving DecidableEq
def Mk.fst:Mk->Mk
 | .pr a _=>a
 | .gone=>.gone
 | _=>.no
def Mk.snd:Mk->Mk
 | .pr _ b=>b
 | .gone=>.gone
 | _=>.no
def Mk.whole:Mk->Bool
 | .no=>true
 | .gone=>false
 | .own _ m=>m.whole
 | .pr a b=>a.whole&&b.whole
def Mk.still:Mk->Bool
 | .no=>true
 | .gone=>false
 | .own _ _=>false
 | .pr a b=>a.still&&b.still
def Mk.stamp(s:Nat):Mk->Mk
 | .no=>.no
 | .gone=>.gone
 | .own s0 m=>.own (if s0<1048576 then s else s0) (m.stamp s)
 | .pr a b=>.pr (a.stamp s) (b.stamp s)
def Mk.fo:Mk->Mk
 | .pr a b=>.pr a.fo b.fo
 | .gone=>.gone
 | .own _ m=>if m.whole then .no else .gone
 | .no=>.no
def Mk.meet:Mk->Mk->Mk
 | .no,x=>x.fo
 | .gone,_=>.gone
 | .own _ a,x=>
  match x with
  | .own s b=>.own s (a.meet b)
  | .no=>if a.whole then .no else .gone
  | _=>.gone
 | .pr a b,x=>
  match x with
  | .pr c d=>.pr (a.meet c) (b.meet d)
  | .no=>.pr (a.meet .no) (b.meet .no)
  | _=>.gone
def Mk.top:Ty->Mk
 | .sl t=>.own 0 (Mk.top t)
 | .pair a b=>.pr (Mk.top a) (Mk.top b)
 | _=>.no
def Mk.sO:Ty->Mk
 | .pair (.sl _) b=>.pr .no (Mk.sO b)
 | .pair a b=>.pr (Mk.top a) (Mk.sO b)
 | t=>Mk.top t
def Mk.z8(hint:Bool)(t:Ty):Mk:=if hint then Mk.sO t else Mk.top t
def Mk.aP:(want alX:Mk)->Bool
 | .gone,_=>true
 | .no,h=>h.whole
 | .own _ w,.own _ h=>w.aP h
 | .pr a b,.pr c d=>a.aP c&&b.aP d
 | .pr a b,.no=>a.aP .no&&b.aP .no
 | _,_=>false
inductive ov where
 | fst | snd | idx (i:Nat) (s:Nat)
 deriving DecidableEq
abbrev Path:=List ov
def ic:Nat->Path
 | 0=>[.fst]
 | n+1=>.snd::ic n
def ov.plain:ov->Bool
 | .idx _ _=>false
 | _=>true
structure Dy where
 ty:Ty
 ms:Mk
 x:ty.den
structure aC where
 ty:Ty
 ms:Mk
 x:ty.den
 mem:Bool
inductive bL where
 | val (t:Ty) (x:t.den)
 | cm (t:Ty) (x:t.den)
structure bk where
 f:FuncId
 caps:List bL
inductive AV where
 | undef
 | skip
 | cG (b:Bool)
 | unit
 | fm
 | val (t:Ty) (x:t.den)
 | b9 (r:Nat) (p:Path) (s:Nat)
 | view (r:Nat) (p:Path) (s:Nat) (lo hi:Nat)
 | addr (r:Nat) (p:Path)
 | cj (t:Ty) (x:t.den)
 | pair (a b:AV)
 | jJ (a:AV)
 | gH (f:FuncId) (caps:AV)
 | eA (c:bk)
abbrev aO:=List (Option aC)
structure St where
 sl:List AV
 rt:aO
noncomputable section
def Aa{α:Type}(l:List α)(i:Nat)(d:α):α:=
 List.rec (motive:=fun _=>Nat->α) (fun _=>d) (fun a _ ih i=>Nat.rec (motive:=fun _=>α) a (fun j _=>ih j) i) l i
theorem Ia{α:Type}(d:α):∀(l:List α)(i:Nat),Aa l i d=l.getD i d
 | [],_=>rfl
 | _::_,0=>rfl
 | _::l,i+1=>by show Aa l i d=_;rw[Ia d l i];rfl
def CH{α:Type}(l:List α)(i:Nat)(v:α):List α:=
 List.rec (motive:=fun _=>Nat->List α) (fun _=>[]) (fun a l ih i=>Nat.rec (motive:=fun _=>List α) (v::l) (fun j _=>a::ih j) i) l i
theorem HW{α:Type}(v:α):∀(l:List α)(i:Nat),CH l i v=l.set i v
 | [],_=>rfl
 | _::_,0=>rfl
 | a::l,i+1=>by show a::CH l i v=_;rw[HW v l i];rfl
def aO.root(S:aO)(r:Nat):Option aC:=Aa S r none
def aO.aI(S:aO)(r:Nat)(x:Option aC):aO:=CH S r x
def St.get(S:St)(t:Nat):AV:=Aa S.sl t .undef
abbrev St.root(S:St)(r:Nat):Option aC:=S.rt.root r
def St.set(S:St)(t:Nat)(v:AV):St:={ S with sl:=CH S.sl t v }
theorem aO.ig(S:aO)(r:Nat):S.root r=S.getD r none:=Ia _ _ _
theorem aO.bX(S:aO)(r:Nat)(x:Option aC):S.aI r x=S.set r x:=HW _ _ _
theorem St.get_eq(S:St)(t:Nat):S.get t=S.sl.getD t .undef:=Ia _ _ _
theorem St.gl(S:St)(t:Nat)(v:AV):S.set t v={ S with sl:=S.sl.set t v }:=by unfold St.set;rw[HW]
def St.aI(S:St)(r:Nat)(x:Option aC):St:={ S with rt:=S.rt.aI r x }
def qbv(a b:Ty)(x:a.den):Option b.den:=if h:a=b then some (h ▸ x) else none
def focus:(t:Ty)->Mk->t.den->Path->Option Dy
 | t,m,x,[]=>some ⟨t,m,x⟩
 | .pair a _,m,x,.fst::p=>focus a m.fst x.1 p
 | .pair _ b,m,x,.snd::p=>focus b m.snd x.2 p
 | .sl t,.own s m,xs,.idx i s'::p=>if s=s' then focus t m (xs.getD i t.zero) p else none
 | _,_,_,_::_=>none
def put:(t:Ty)->Mk->t.den->Path->(t2:Ty)->Mk->t2.den->Option (Mk×t.den)
 | t,_,_,[],t2,m2,y=>(qbv t2 t y).bind fun y=>some (m2,y)
 | .pair a b,m,x,.fst::p,t2,m2,y=>(put a m.fst x.1 p t2 m2 y).bind fun r=>some (.pr r.1 m.snd,(r.2,x.2))
 | .pair a b,m,x,.snd::p,t2,m2,y=>(put b m.snd x.2 p t2 m2 y).bind fun r=>some (.pr m.fst r.1,(x.1,r.2))
 | .sl t,.own s m,xs,.idx i s'::p,t2,m2,y=>
  if s=s' then (put t m (xs.getD i t.zero) p t2 m2 y).bind fun r=>some (.own s (m.meet r.1),xs.set i r.2) else none
 | _,_,_,_::_,_,_,_=>none
def lK:Ty->Mk->Path->Mk->Option Mk
 | _,_,[],m2=>some m2
 | .pair a _,m,.fst::p,m2=>(lK a m.fst p m2).bind fun r=>some (.pr r m.snd)
 | .pair _ b,m,.snd::p,m2=>(lK b m.snd p m2).bind fun r=>some (.pr m.fst r)
 | .sl t,.own s m,.idx _ s'::p,m2=>if s=s' then (lK t m p m2).bind fun r=>some (.own s (m.meet r)) else none
 | _,_,_::_,_=>none
def cW(r:Nat):(t:Ty)->Mk->t.den->Path->AV
 | .unit,_,_,_=>.unit
 | .pair a b,m,x,p=>if m.still then .val (.pair a b) x else .pair (cW r a m.fst x.1 (p++[.fst])) (cW r b m.snd x.2 (p++[.snd]))
 | .sl t,.own s _,_,p=>.b9 r p s
 | .sl _,.gone,_,_=>.undef
 | t,_,x,_=>.val t x
def aO.focus(S:aO)(r:Nat)(p:Path):Option Dy:=
 match S.root r with
 | some R=>V.focus R.ty R.ms R.x p
 | none=>none
abbrev St.focus(S:St)(r:Nat)(p:Path):Option Dy:=S.rt.focus r p
def rd(S:aO):(t:Ty)->AV->Option t.den
 | t,.val t' x=>qbv t' t x
 | .unit,.unit=>some ()
 | .bool,.cG b=>some b
 | .sl _,.fm=>some []
 | .sl t,.b9 r p s=>
  match S.focus r p with
  | some ⟨.sl t',.own s' m,xs⟩=>if s=s'/\m.whole then qbv (.sl t') (.sl t) xs else none
  | _=>none
 | .pair a b,.pair u v=>(rd S a u).bind fun x=>(rd S b v).bind fun y=>some (x,y)
 | _,_=>none
def tk(S:aO):(t:Ty)->AV->Option (Mk×t.den×aO)
 | t,.val t' x=>(qbv t' t x).bind fun x=>some (.no,x,S)
 | .unit,.unit=>some (.no,(),S)
 | .bool,.cG b=>some (.no,b,S)
 | .sl t,.fm=>some (Mk.top (.sl t),[],S)
 | .sl t,.b9 r p s=>
  match S.root r with
  | some R=>
   match V.focus R.ty R.ms R.x p with
   | some ⟨.sl t',.own s' m,xs⟩=>
    if s=s' then
     (qbv (.sl t') (.sl t) xs).bind fun xs=>
     (lK R.ty R.ms p .gone).bind fun m'=>
     some (.own s' m,xs,S.aI r (some { R with ms:=m' }))
    else none
   | _=>none
  | none=>none
 | .pair a b,.pair u v=>(tk S a u).bind fun x=>(tk x.2.2 b v).bind fun y=>some (.pr x.1 y.1,(x.2.1,y.2.1),y.2.2)
 | _,_=>none
def BM(S:aO):AV->Option Ty
 | .val t _=>some t
 | .cG _=>some .bool
 | .unit=>some .unit
 | .b9 r p _=>(S.focus r p).bind fun d=>some d.ty
 | .pair a b=>(BM S a).bind fun x=>(BM S b).bind fun y=>some (.pair x y)
 | _=>none
def share(S:aO)(t:Ty)(v:AV):Option (t.den×aO):=
 (tk S t v).bind fun x=>some (x.2.1,x.2.2)
def Ty.nz:Ty->Bool
 | .unit=>false
 | _=>true
def qx:Path->Bool
 | []=>false
 | .idx _ _::_=>true
 | _::p=>qx p
def AV.gJ(d:Nat):AV->Bool
 | .addr r p=>!(Nat.beq r d)||qx p
 | .pair a b=>a.gJ d&&b.gJ d
 | .jJ a=>a.gJ d
 | .gH _ a=>a.gJ d
 | _=>true
def Mk.ax:Mk->Bool
 | .own s m=>Nat.blt s 1048576&&m.ax
 | .pr a b=>a.ax&&b.ax
 | _=>true
def AV.roots:AV->List Nat
 | .b9 r _ _=>[r]
 | .view r _ _ _ _=>[r]
 | .addr r _=>[r]
 | .pair a b=>a.roots++b.roots
 | .jJ a=>a.roots
 | .gH _ c=>c.roots
 | _=>[]
def sw(d:Nat):Nat->List AV->Bool
 | _,[]=>true
 | i,v::l=>(Nat.beq i d||!(v.roots.contains d))&&sw d (i+1) l
def Fh(d:Nat):Nat->List AV->Bool
 | _,[]=>true
 | i,v::l=>(Nat.beq i d||v.gJ d)&&Fh d (i+1) l
inductive PK where
 | val (t:Ty)
 | own (t:Ty) (m:Mk)
 | cC (t:Ty) (m m':Mk)
 | cO (t:Ty) (m m':Mk)
 | cm (t:Ty)
 | fn
inductive RK where
 | val (t:Ty) (m:Mk)
 | ptr (t:Ty) (m:Mk)
structure wE where
 params:List PK
 res:List RK
@[reducible] def PK.den:PK->Type
 | .val t | .own t _ | .cC t _ _ | .cO t _ _ | .cm t=>t.den
 | .fn=>bk
@[reducible] def RK.den:RK->Type
 | .val t _ | .ptr t _=>t.den
@[reducible] def gf:List PK->Type
 | []=>Unit
 | k::ks=>k.den×gf ks
@[reducible] def f9:List RK->Type
 | []=>Unit
 | k::ks=>k.den×f9 ks
@[reducible] def dI:List PK->Type
 | []=>Unit
 | .cC t _ _::ks | .cO t _ _::ks=>t.den×dI ks
 | _::ks=>dI ks
structure Hints where
 keep:List (Nat×List Nat×List Nat×List Nat):=[]
 share:List (Nat×Nat):=[]
 outs:List (Nat×Nat):=[]
structure Ctx where
 ty:TypeId->Ty
 sig:FuncId->wE
 hints:FuncId->Hints
abbrev Den(C:Ctx):=(g:FuncId)->gf (C.sig g).params->Option (f9 (C.sig g).res×dI (C.sig g).params)
def jH(lo hi:Nat):Path->Bool
 | []=>true
 | .idx _ s::p=>!(Nat.ble lo s&&Nat.blt s hi)&&jH lo hi p
 | _::p=>jH lo hi p
@[reducible] def ju:List PK->Type
 | []=>Unit
 | .own t _::ks=>t.den×ju ks
 | _::ks=>ju ks
inductive Tr (α:Type):Type 1 where
 | ret (a:α)
 | fail
 | br (c:Bool) (x y:Tr α)
 | nil (n:Nat) (neg:Bool) (f:Bool->Tr α)
 | call {β:Type} (x:Option β) (f:β->Tr α)
def br{R:Type}(c:Bool)(a b:Option R):Option R:=
 match c with
 | true=>a
 | false=>b
def qd{α R:Type}(x:Option α)(f:α->Option R):Option R:=x.bind f
noncomputable def both{R:Type}(x y:Option R):Option R:=
 match x,y with
 | some a,some b=>open Classical in if a=b then some a else none
 | _,_=>none
noncomputable def LD{R:Type}(n:Nat)(neg:Bool)(k:Bool->Option R):Option R:=
 V.br (decide (n=0)) (both (k true) (k false)) (k neg)
noncomputable def Tr.run{α R:Type}(k:α->Option R):Tr α->Option R
 | .ret a=>k a
 | .fail=>none
 | .br c x y=>V.br c (x.run k) (y.run k)
 | .nil n neg f=>LD n neg fun b=>(f b).run k
 | .call x f=>qd x fun b=>(f b).run k
def Tr.dec{α:Type}(β:Bool):Tr α->Option α
 | .ret a=>some a
 | .fail=>none
 | .br c x y=>match c with
  | true=>x.dec β
  | false=>y.dec β
 | .nil n neg f=>(f (if n=0 then β else neg)).dec β
 | .call x f=>x.bind fun b=>(f b).dec β
theorem Tr.iX{α R:Type}{k:α->Option R}{r:R}(β:Bool):∀(t:Tr α),t.run k=some r->∃a,t.dec β=some a/\k a=some r
 | .ret a,h=>⟨a,rfl,h⟩
 | .fail,h=>by simp[Tr.run]at h
 | .br c x y,h=>by
  cases c with
  | true=>exact Tr.iX β x h
  | false=>exact Tr.iX β y h
 | .nil n neg f,h=>by
  simp only[Tr.run,LD]at h;simp only[Tr.dec];by_cases e:n=0
  .simp only[e,AK,V.br,aX]at h⊢;unfold both at h;split at h
   .rename_i a b h1 h2;split at h
    .rename_i hab;subst hab;simp only[aK]at h;subst h;cases β with
     | true=>exact Tr.iX true _ h1
     | false=>exact Tr.iX false _ h2
    .simp at h
   .simp at h
  .simp only[e,decide_false,V.br,dZ]at h⊢;exact Tr.iX β _ h
 | .call x f,h=>by
  simp only[Tr.run,qd]at h;cases x with
  | none=>simp at h
  | some b=>simp only[dG]at h;obtain⟨a,h1,h2⟩:=Tr.iX β (f b) h;exact⟨a,by simpa [Tr.dec] using h1,h2⟩
def Tr.of{α:Type}:Option α->Tr α
 | some a=>.ret a
 | none=>.fail
def AV.flat:AV->AV
 | .cG b=>.val .bool b
 | v=>v
def Bg:Value->AV
 | .bool b=>.val .bool b
 | .int k n=>.val (.int k) n
 | .string s=>.val .str s
 | .slice none 0 0=>.fm
 | _=>.undef
def ev(S:St):Operand->AV
 | .tmp t=>(S.get t).flat
 | .const v=>Bg v
 | .func f=>.gH f .unit
 | .global _=>.undef
def wg:AV->Option (IntKind×Int)
 | .val (.int k) n=>some (k,n)
 | _=>none
def asBool:AV->Option Bool
 | .val .bool b=>some b
 | .cG b=>some b
 | _=>none
def pN:(t:Ty)->t.den->t.den->Bool
 | .unit,_,_=>true
 | .int _,x,y=>x == y
 | .bool,x,y=>x == y
 | .str,x,y=>x.toList == y.toList
 | .sl _,_,_=>false
 | .pair a b,x,y=>pN a x.1 y.1&&pN b x.2 y.2
def Ty.comp:Ty->Bool
 | .sl _=>false
 | .pair a b=>a.comp&&b.comp
 | _=>true
def FP(T:Ty)(op:BinOp)(u:Ty)(x:u.den)(t:Ty)(y:t.den):Tr AV:=
 if u.comp/\T=u then
  match op,qbv t u y with
  | .eql,some y=>.ret (.val .bool (pN u x y))
  | .neq,some y=>.ret (.val .bool (!(pN u x y)))
  | _,_=>.fail
 else .fail
def kL(T:Ty)(op:BinOp)(x y:AV):Tr AV:=
 match x,y with
 | .val (.int ka) a,.val (.int kb) b=>
  match op with
  | .shl=>.br (decide (b<0)) .fail (.ret (.val (.int ka) (ka.wrap (a * 2 ^ (min b.toNat ka.bits)))))
  | .shr=>.br (decide (b<0)) .fail (.ret (.val (.int ka) (a.fdiv (2 ^ (min b.toNat ka.bits)))))
  | .add=>if ka=kb then .ret (.val (.int ka) (ka.wrap (a+b))) else .fail
  | .sub=>if ka=kb then .ret (.val (.int ka) (ka.wrap (a-b))) else .fail
  | .mul=>if ka=kb then .ret (.val (.int ka) (ka.wrap (a * b))) else .fail
  | .quo=>if ka=kb then (.br (decide (b=0)) .fail (.ret (.val (.int ka) (ka.wrap (a.tdiv b))))) else .fail
  | .rem=>if ka=kb then (.br (decide (b=0)) .fail (.ret (.val (.int ka) (a.tmod b)))) else .fail
  | .and=>if ka=kb then .ret (.val (.int ka) (ka.wrap (BitVec.ofInt ka.bits a &&&BitVec.ofInt ka.bits b).toNat)) else .fail
  | .or=>if ka=kb then .ret (.val (.int ka) (ka.wrap (BitVec.ofInt ka.bits a |||BitVec.ofInt ka.bits b).toNat)) else .fail
  | .xor=>if ka=kb then .ret (.val (.int ka) (ka.wrap (BitVec.ofInt ka.bits a ^^^ BitVec.ofInt ka.bits b).toNat)) else .fail
  | .andNot=>.fail
  | .eql=>if ka=kb then .ret (.val .bool (a == b)) else .fail
  | .neq=>if ka=kb then .ret (.val .bool (a != b)) else .fail
  | .lss=>if ka=kb then .ret (.val .bool (decide (a<b))) else .fail
  | .leq=>if ka=kb then .ret (.val .bool (decide (a<=b))) else .fail
  | .gtr=>if ka=kb then .ret (.val .bool (decide (a>b))) else .fail
  | .geq=>if ka=kb then .ret (.val .bool (decide (a>=b))) else .fail
 | .val .str a,.val .str b=>
  match op with
  | .add=>.br (decide (a.size+b.size<=2 ^ 47)) (.ret (.val .str (a++b))) .fail
  | .eql=>.ret (.val .bool (a.toList == b.toList))
  | .neq=>.ret (.val .bool (!(a.toList == b.toList)))
  | .lss=>.ret (.val .bool (Op.bytesLess a.toList b.toList))
  | .leq=>.ret (.val .bool (Op.bytesLess a.toList b.toList||a.toList == b.toList))
  | .gtr=>.ret (.val .bool (!(Op.bytesLess a.toList b.toList||a.toList == b.toList)))
  | .geq=>.ret (.val .bool (!(Op.bytesLess a.toList b.toList)))
  | _=>.fail
 | .val .bool a,.val .bool b=>
  if T=.bool then
   match op with
   | .eql=>.ret (.val .bool (a == b))
   | .neq=>.ret (.val .bool (!(a == b)))
   | _=>.fail
  else .fail
 | .val (.pair a b) x,.val t y=>FP T op (.pair a b) x t y
 | _,_=>.fail
def yV(S:aO):AV->Option Int
 | .val (.sl _) xs=>some xs.length
 | .fm=>some 0
 | .b9 r p s=>
  match S.focus r p with
  | some ⟨.sl _,.own s' _,xs⟩=>if s=s' then some (xs.length:Int) else none
  | _=>none
 | _=>none
def ga:Nat:=2 ^ 38
def xW(S:aO)(T:Ty)(x i:AV):Tr AV:=
 match wg i with
 | none=>.fail
 | some (_,n)=>
  match x with
  | .val (.sl t) xs=>if T=.sl t then .br (decide (0<=n)&&decide (n<(xs.length:Int))) (.ret (.cj t (xs.getD n.toNat t.zero))) .fail else .fail
  | .b9 r p s=>
   match S.focus r p with
   | some ⟨.sl t,.own s' _,xs⟩=>if s=s'/\T=.sl t then (.br (decide (0<=n)&&decide (n<(xs.length:Int))) (.ret (.addr r (p++[.idx n.toNat s]))) .fail) else .fail
   | _=>.fail
  | _=>.fail
def vj(S:aO)(t:Ty):AV->Option AV
 | .cj t' x=>(qbv t' t x).bind fun x=>some (.val t x)
 | .addr r p=>
  match S.focus r p with
  | some d=>if d.ty=t then some (cW r d.ty d.ms d.x p) else none
  | none=>none
 | _=>none
def Cj(S:aO)(T:Ty)(x:AV)(f:Nat):Option AV:=
 match x with
 | .addr r p=>
  match S.focus r p with
  | some d=>if d.ty=T/\(focus d.ty d.ms d.x (ic f)).isSome then some (.addr r (p++ic f)) else none
  | none=>none
 | .cj t x=>if t=T then (focus t .no x (ic f)).bind fun d=>some (.cj d.ty d.x) else none
 | _=>none
def Uf(S:aO)(hint:Bool)(t:Ty)(v:AV):Option (Mk×t.den×aO):=
 (tk S t v).bind fun x=>if hint then (if x.1.whole then some (.no,x.2.1,x.2.2) else none) else some x
def Bu(S:aO)(site:Nat)(hint:Bool)(t:Ty)(a v:AV):Option aO:=
 match a with
 | .addr r p=>
  (Uf S hint t v).bind fun x=>
  match x.2.2.root r with
  | some R=>
   (V.focus R.ty R.ms R.x p).bind fun d=>
   if d.ty=t/\x.1.ax then
    (put R.ty R.ms R.x p t (x.1.stamp site) x.2.1).bind fun r'=>some (x.2.2.aI r (some { R with ms:=r'.1,x:=r'.2 }))
   else none
  | none=>none
 | _=>none
def oH(S:aO)(t:Ty):Mk×t.den->List (Nat×AV)->Option (Mk×t.den×aO)
 | acc,[]=>some (acc.1,acc.2,S)
 | acc,(i,v)::rest=>
  (focus t acc.1 acc.2 (ic i)).bind fun d=>
  (tk S d.ty v).bind fun x=>
  (put t acc.1 acc.2 (ic i) d.ty x.1 x.2.1).bind fun r=>oH x.2.2 t r rest
def tF(S:aO)(t:Ty):Mk×List t.den->List (Nat×AV)->Option (Mk×List t.den×aO)
 | acc,[]=>some (acc.1,acc.2,S)
 | acc,(i,v)::rest=>
  if i<acc.2.length then
   (tk S t v).bind fun x=>tF x.2.2 t (acc.1.meet x.1,acc.2.set i x.2.1) rest
  else none
def L3:AV->Nat->Option AV
 | .jJ (.pair a _),0=>some a
 | .jJ (.pair _ b),n+1=>L3 (.jJ b) n
 | _,_=>none
def ze:(t:Ty)->t.den->AV
 | .unit,_=>.unit
 | .pair a b,x=>.pair (.val a x.1) (ze b x.2)
 | t,x=>.val t x
def yh:AV->AV
 | .val t x=>ze t x
 | .pair a b=>.pair a (yh b)
 | v=>v
def lZ(S:aO):AV->Option (List bL)
 | .unit=>some []
 | .pair (.addr r p) rest=>
  match S.focus r p with
  | some d=>if d.ms.whole then (lZ S rest).bind fun l=>some (.cm d.ty d.x::l) else none
  | none=>none
 | .pair (.cj t x) rest=>(lZ S rest).bind fun l=>some (.cm t x::l)
 | .pair (.val t x) rest=>(lZ S rest).bind fun l=>some (.val t x::l)
 | _=>none
def f5(S:aO):(ks:List PK)->List AV->Option (ju ks×aO)
 | [],[]=>some ((),S)
 | .own t m::ks,a::aJ=>
  (tk S t a).bind fun x=>if m.aP x.1 then (f5 x.2.2 ks aJ).bind fun r=>some ((x.2.1,r.1),r.2) else none
 | .val _::ks,_::aJ=>f5 S ks aJ
 | .cC _ _ _::ks,_::aJ=>f5 S ks aJ
 | .cO _ _ _::ks,_::aJ=>f5 S ks aJ
 | .cm _::ks,_::aJ=>f5 S ks aJ
 | .fn::ks,_::aJ=>f5 S ks aJ
 | _,_=>none
def kF:AV->Option (Nat×Path)
 | .b9 r p _=>some (r,p)
 | .pair a b=>
  match kF a with
  | some (r,p)=>some (r,p.dropLast)
  | none=>match kF b with
   | some (r,p)=>some (r,p.dropLast)
   | none=>none
 | _=>none
def u6:AV->Path->Bool
 | .b9 _ p' _,p=>decide (p'=p)
 | .pair a b,p=>u6 a (p++[.fst])&&u6 b (p++[.snd])
 | _,_=>true
def v5:List PK->List AV->Bool
  | .cO _ _ _::ks,a::aJ=>
    (match kF a with
     | some (_,p)=>u6 a p
     | none=>true)&&v5 ks aJ
  | _::ks,_::aJ=>v5 ks aJ
  | _,_=>true
def kg(r:Nat):(t:Ty)->AV->Path->Mk->t.den->Option (Mk×t.den)
 | .pair a b,.pair u v,p,md,xd=>
  (kg r a u (p++[.fst]) md.fst xd.1).bind fun y=>
  (kg r b v (p++[.snd]) md.snd xd.2).bind fun z=>some (.pr y.1 z.1,(y.2,z.2))
 | .sl _,.b9 r' p' s,p,md,xd=>
  match md with
  | .own s' m0=>if r=r'/\s=s' then some (.own s' m0,xd) else none
  | _=>none
 | t,.val t' x,_,md,_=>if md.still then (qbv t' t x).bind fun y=>some (.no,y) else none
 | .unit,.unit,_,md,_=>if md.still then some (.no,()) else none
 | _,_,_,_,_=>none
def gE(S:aO):(ks:List PK)->List AV->Option (dI ks×aO)
 | [],[]=>some ((),S)
 | .cO t m _::ks,a::aJ=>
  match kF a with
  | some (q,p)=>
   match S.root q with
   | some R=>
    (focus R.ty R.ms R.x p).bind fun d=>
    if h:d.ty=t then
     (kg q t a p d.ms (h ▸ d.x)).bind fun x=>if m.aP x.1 then (gE (S.aI q none) ks aJ).bind fun r=>some ((x.2,r.1),r.2) else none
    else none
   | none=>none
  | none=>none
 | .cC t m _::ks,a::aJ=>
  match a with
  | .addr q []=>
   match S.root q with
   | some R=>if m.aP R.ms/\R.mem then (qbv R.ty t R.x).bind fun x=>(gE (S.aI q none) ks aJ).bind fun r=>some ((x,r.1),r.2) else none
   | none=>none
  | _=>none
 | .val _::ks,_::aJ=>gE S ks aJ
 | .own _ _::ks,_::aJ=>gE S ks aJ
 | .cm _::ks,_::aJ=>gE S ks aJ
 | .fn::ks,_::aJ=>gE S ks aJ
 | _,_=>none
def jk(S:aO):(ks:List PK)->List AV->ju ks->dI ks->Option (gf ks)
 | [],[],_,_=>some ()
 | .val t::ks,a::aJ,g,o=>(rd S t a).bind fun x=>(jk S ks aJ g o).bind fun r=>some (x,r)
 | .cm t::ks,a::aJ,g,o=>
  match a with
  | .cj t' x=>(qbv t' t x).bind fun x=>(jk S ks aJ g o).bind fun r=>some (x,r)
  | .addr q p=>
   match S.focus q p with
   | some d=>if d.ms.whole then (qbv d.ty t d.x).bind fun x=>(jk S ks aJ g o).bind fun r=>some (x,r) else none
   | none=>none
  | _=>none
 | .own _ _::ks,_::aJ,g,o=>(jk S ks aJ g.2 o).bind fun r=>some (g.1,r)
 | .cC _ _ _::ks,_::aJ,g,o=>(jk S ks aJ g o.2).bind fun r=>some (o.1,r)
 | .cO _ _ _::ks,_::aJ,g,o=>(jk S ks aJ g o.2).bind fun r=>some (o.1,r)
 | .fn::ks,a::aJ,g,o=>
  match a with
  | .gH f caps=>(lZ S caps).bind fun l=>(jk S ks aJ g o).bind fun r=>some (⟨f,l⟩,r)
  | .eA c=>(jk S ks aJ g o).bind fun r=>some (c,r)
  | _=>none
 | _,_,_,_=>none
def gF(site r:Nat):(t:Ty)->AV->Path->Mk->t.den->Mk->t.den->Option (Mk×t.den)
 | .pair a b,.pair u v,p,md,xd,m,o=>
  (gF site r a u (p++[.fst]) md.fst xd.1 m.fst o.1).bind fun y=>
  (gF site r b v (p++[.snd]) md.snd xd.2 m.snd o.2).bind fun z=>some (.pr y.1 z.1,(y.2,z.2))
 | .sl _,.b9 r' p' s,p,md,_,m,o=>
  match md with
  | .own s' m0=>if r=r'/\s=s'/\m0.ax/\(Mk.own s' m0).aP m then some (.own s' (m0.stamp site),o) else none
  | _=>none
 | _,.val _ _,_,md,xd,_,_=>if md.still then some (.no,xd) else none
 | _,.unit,_,md,xd,_,_=>if md.still then some (.no,xd) else none
 | _,_,_,_,_,_,_=>none
def xV(S:aO)(site:Nat)(t:Ty)(a:AV)(m:Mk)(o:t.den):Option aO:=
 match kF a with
 | none=>some S
 | some (r,p)=>
  match S.root r with
  | some R=>
   (focus R.ty R.ms R.x p).bind fun d=>
   if h:d.ty=t then
    (gF site r t a p d.ms (h ▸ d.x) m o).bind fun y=>
    if qx p&&!y.1.ax then none else
    (put R.ty R.ms R.x p t y.1 y.2).bind fun r'=>some (S.aI r (some { R with ms:=r'.1,x:=r'.2 }))
   else none
  | none=>none
def PK.plain:PK->Bool
 | .val _ | .cm _ | .fn=>true
 | _=>false
def PK.mh:PK->Bool
 | .own _ _=>true
 | _=>false
def PK.eG:PK->Bool
 | .cC _ _ _ | .cO _ _ _=>true
 | _=>false
def Mk.full:Ty->Mk->Bool
 | .sl t,.own _ m=>m.full t
 | .sl _,_=>false
 | .pair a b,m=>m.fst.full a&&m.snd.full b
 | _,_=>true
def PK.full:PK->Bool
 | .cC t _ m | .cO t _ m=>m.full t
 | _=>true
def RK.full:RK->Bool
 | .val t m | .ptr t m=>m.full t
def wE.full(s:wE):Bool:=s.params.all PK.full&&s.res.all RK.full
def AV.shared:AV->Bool
 | .val _ _ | .unit | .cG _ | .fm | .cj _ _ | .eA _=>true
 | .pair a b=>a.shared&&b.shared
 | .gH _ c=>c.shared
 | _=>false
def mL:List PK->List AV->Bool
 | k::ks,a::aJ=>(!k.plain||a.shared)&&mL ks aJ
 | _,_=>true
def Ig(ks:List PK):Bool:=
 match ks.filter PK.eG with
 | []=>true
 | [_]=>ks.all fun k=>!k.mh
 | _=>false
def gb(S:aO)(site:Nat):(ks:List PK)->List AV->dI ks->Option aO
 | [],[],_=>some S
 | .cC t _ m'::ks,a::aJ,o=>
  match a with
  | .addr q []=>if m'.ax then gb (S.aI q (some ⟨t,m'.stamp site,o.1,true⟩)) site ks aJ o.2 else none
  | _=>none
 | .cO t _ m'::ks,a::aJ,o=>(xV S site t a m' o.1).bind fun S=>gb S site ks aJ o.2
 | .val _::ks,_::aJ,o=>gb S site ks aJ o
 | .own _ _::ks,_::aJ,o=>gb S site ks aJ o
 | .cm _::ks,_::aJ,o=>gb S site ks aJ o
 | .fn::ks,_::aJ,o=>gb S site ks aJ o
 | _,_,_=>none
def RK.ty:RK->Ty
 | .val t _ | .ptr t _=>t
def RK.ms:RK->Mk
 | .val _ m | .ptr _ m=>m
def RK.kT:RK->Bool
 | .ptr _ _=>true
 | _=>false
def jt:List RK->Ty
 | []=>.unit
 | k::ks=>.pair k.ty (jt ks)
def pO:List RK->Mk
 | []=>.no
 | k::ks=>.pr k.ms (pO ks)
def kj:(ks:List RK)->f9 ks->(jt ks).den
 | [],_=>()
 | .val _ _::ks,r=>(r.1,kj ks r.2)
 | .ptr _ _::ks,r=>(r.1,kj ks r.2)
structure bY where
 xB:Bool
 pl:Bool
 fr:Bool
 sh:Bool
def dU(A:bY)(S:aO)(d:Option Nat)(site:Nat)(t:Ty)(m:Mk)(x:t.den)(mem:Bool):Tr (AV×aO):=
 match d with
 | none=>.ret (.undef,S)
 | some d=>
  if !Nat.blt d S.length||!Nat.blt site 1048576 then .fail
  else if mem then (if A.xB then .ret (.addr d [],S.aI d (some ⟨t,m.stamp site,x,true⟩)) else .fail)
  else if m.still then .ret (.val t x,S)
  else if A.xB||(A.fr&&m.ax&&A.pl) then .ret (cW d t (m.stamp site) x [],S.aI d (some ⟨t,m.stamp site,x,false⟩)) else .fail
section ops
variable (C:Ctx) (D:Den C)
def Cx(A:bY)(S:aO)(d:Option Nat)(site:Nat)(ks:List RK)(r:f9 ks):Tr (AV×aO):=
 if (pO ks).ax&&ks.all (fun k=>!k.kT&&k.ty.nz) then
  match d with
  | none=>.ret (.undef,S)
  | some d=>
   match dU A S (some d) site (jt ks) (pO ks) (kj ks r) false with
   | .ret (v,S)=>.ret (.jJ (yh v),S)
   | _=>.fail
 else .fail
def mA(A:bY)(S:aO)(d:Option Nat)(site:Nat):(ks:List RK)->f9 ks->Tr (AV×aO)
 | [],_=>.ret (.jJ .unit,S)
 | [.val t m],r=>if A.sh then (if m.whole then .ret (.val t r.1,S) else .fail) else if m.ax then dU A S d site t m r.1 false else .fail
 | [.ptr t m],r=>if m.ax then dU A S d site t m r.1 true else .fail
 | ks,r=>Cx A S d site ks r
def rS(A:bY)(S:aO)(d:Option Nat)(site:Nat)(g:FuncId)(args:List AV):Tr (AV×aO):=
  match f5 S (C.sig g).params args with
  | none=>.fail
  | some (gd,S1)=>
  match gE S1 (C.sig g).params args with
  | none=>.fail
  | some (od,S2)=>
  match jk S2 (C.sig g).params args gd od with
  | none=>.fail
  | some a=>
    if Ig (C.sig g).params&&(mL (C.sig g).params args||(C.sig g).full) then
      .call (D g a) fun r=>
        if (C.sig g).params.all (fun k=>!k.eG) then mA A S1 d site (C.sig g).res r.1
        else if A.fr then
          .br (v5 (C.sig g).params args)
            (match gb S1 site (C.sig g).params args r.2 with
             | none=>.fail
             | some S3=>mA A S3 d site (C.sig g).res r.1) .fail
        else .fail
    else .fail
def k_(S:aO):List PK->List AV->Option (List AV×aO)
 | [],[]=>some ([],S)
 | .val t::ks,a::aJ=>
  if a.shared then (k_ S ks aJ).map fun z=>(a::z.1,z.2)
  else match tk S t a with
   | some (m,y,S1)=>if m.whole then (k_ S1 ks aJ).map fun z=>(.val t y::z.1,z.2) else none
   | none=>none
 | _::ks,a::aJ=>(k_ S ks aJ).map fun z=>(a::z.1,z.2)
 | _,_=>none
def He(s:wE)(args:List AV):Bool:=!(mL s.params args||s.full)
def qO(A:bY)(S:aO)(d:Option Nat)(site:Nat)(g:FuncId)(args:List AV):Tr (AV×aO):=
 if He (C.sig g) args then
  match k_ S (C.sig g).params args with
  | some z=>rS C D A z.2 d site g z.1
  | none=>.fail
 else rS C D A S d site g args
def yP:(ks:List PK)->List bL->Option (gf ks)
 | [],[]=>some ()
 | .val t::ks,.val t' x::l=>(qbv t' t x).bind fun x=>(yP ks l).bind fun r=>some (x,r)
 | .cm t::ks,.cm t' x::l=>(qbv t' t x).bind fun x=>(yP ks l).bind fun r=>some (x,r)
 | _,_=>none
def Fq:(ks:List RK)->f9 ks->(t:Ty)->Option t.den
 | [.val t' _],r,t=>qbv t' t r.1
 | _,_,_=>none
def iM(c:bk)(xs:List bL)(t:Ty):Option t.den:=
 (yP (C.sig c.f).params (xs++c.caps)).bind fun a=>(D c.f a).bind fun r=>Fq (C.sig c.f).res r.1 t
def yY(S:aO):List Ty->List AV->Option (List bL)
 | [],[]=>some []
 | t::ts,a::aJ=>(rd S t a).bind fun x=>(yY S ts aJ).bind fun l=>some (.val t x::l)
 | _,_=>none
def Ty.scalar:Ty->Bool
 | .int _=>true
 | .bool=>true
 | .str=>true
 | _=>false
def mY:AV->List AV
 | .pair a b=>a::mY b
 | _=>[]
def pT:Mk->Option Mk
 | .own _ m=>some m
 | .no=>some .no
 | _=>none
def DH(A:bY)(S:aO)(d:Option Nat)(site:Nat)(t:Ty)(x y:AV):Tr (AV×aO):=
 match tk S (.sl t) x with
 | some (.own _ m,xs,S1)=>
  match tk S1 (.sl t) y with
  | some (my,ys,S2)=>
   match pT my with
   | some m'=>
    if (m.meet m').ax then
     .br (decide (xs.length+ys.length<=ga)) (dU A S2 d site (.sl t) (.own 0 (m.meet m')) (xs++ys) false) .fail
    else .fail
   | none=>.fail
  | none=>.fail
 | _=>.fail
def qP(S:aO)(t:Ty):AV->AV->Tr (AV×aO)
 | .b9 r p s,.val (.sl t2) ys=>
  match S.root r with
  | some R=>
   match V.focus R.ty R.ms R.x p with
   | some ⟨.sl t',.own s' m,xs⟩=>
    if s=s'/\t'=t/\t2=t/\m.still=true then
     match qbv (.sl t') (.sl t) xs,qbv (.sl t2) (.sl t) ys,put R.ty R.ms R.x p (.sl t') .no xs with
     | some xs',some ys',some r'=>.br (decide ((xs':List t.den).length+(ys':List t.den).length<=ga)) (.ret (.val (.sl t) ((xs':List t.den)++(ys':List t.den)),S.aI r (some { R with ms:=r'.1,x:=r'.2 }))) .fail
     | _,_,_=>.fail
    else .fail
   | _=>.fail
  | none=>.fail
 | _,_=>.fail
def Ft(A:bY)(S:aO)(d:Option Nat)(site:Nat)(hint:Bool)(v:AV):Tr (AV×aO):=
 match BM S v with
 | some t=>
  match tk S t v with
  | some (m,y,S1)=>
   if hint then (if m.whole then .ret (.val t y,S1) else .fail)
   else dU A S1 d site t m y false
  | none=>.fail
 | none=>.fail
def JG:Option AV->Option Int
 | none=>some 0
 | some v=>(wg v).map (·.2)
def EV(n:Int):Option AV->Option Int
 | none=>some n
 | some v=>(wg v).map (·.2)
def uN(S:aO)(e:Ty)(r:Nat)(p:Path)(s:Nat)(lo:AV)(hi:Option AV):Tr (AV×aO):=
 match wg lo,hi with
 | some kl,none=>
  match S.focus r p with
  | some ⟨.sl e',.own s' _,xs⟩=>if s=s'/\e=e' then .br (decide (0<=kl.2)&&decide (kl.2<=((xs:List e'.den).length:Int))) (.ret (.view r p s kl.2.toNat (xs:List e'.den).length,S)) .fail else .fail
  | _=>.fail
 | _,_=>.fail
def alq(S:aO)(t:Ty):AV->Tr (AV×aO):=fun _=>.fail
def v9(t:Ty)(xs ys:List t.den):List t.den:=ys.take xs.length++xs.drop ys.length
def yb(S:aO)(t:Ty):AV->AV->Tr (AV×aO)
 | .b9 r p s,.val (.sl t2) ys=>
  match S.root r with
  | some R=>
   match V.focus R.ty R.ms R.x p with
   | some ⟨.sl t',.own s' .no,xs⟩=>
    if s=s'/\t'=t/\t2=t/\s'<1048576 then
     match qbv (.sl t2) (.sl t') ys with
     | some ys'=>
      match put R.ty R.ms R.x p (.sl t') (.own s' .no) (v9 t' xs ys') with
      | some r'=>.br (decide (0<(ys':List t'.den).length)&&decide (0<(xs:List t'.den).length)) (.ret (.val (.int .i64) ((min (ys':List t'.den).length (xs:List t'.den).length:Nat):Int),S.aI r (some { R with ms:=r'.1,x:=r'.2 }))) (.ret (.val (.int .i64) ((0:Nat):Int),S))
      | none=>.fail
     | none=>.fail
    else .fail
   | _=>.fail
  | none=>.fail
 | _,_=>.fail
def uF(A:bY)(S:aO)(T:Ty)(d:Option Nat)(site:Nat)(x:AV)(lo hi:Option AV):Tr (AV×aO):=
 match x,T with
 | .val .str s,.str=>
  match JG lo,EV s.size hi with
  | some l,some h=>.br (decide (0<=l)&&decide (l<=h)&&decide (h<=(s.size:Int))) (.ret (.val .str (s.extract l.toNat h.toNat),S)) .fail
  | _,_=>.fail
 | .val (.sl e) xs,.sl e'=>
  match JG lo,EV xs.length hi with
  | some l,some h=>if e=e' then .br (decide (0<=l)&&decide (l<=h)&&decide (h<=(xs.length:Int))) (.ret (.val (.sl e) ((xs.take h.toNat).drop l.toNat),S)) .fail else .fail
  | _,_=>.fail
 | .b9 r p s,.sl e=>
  match lo with
  | none=>
   match tk S (.sl e) (.b9 r p s) with
   | some (.own _ m,xs,S2)=>
    match EV xs.length hi with
    | some h=>if m.ax then (.br (decide (0<=h)&&decide (h<=(xs.length:Int))) (dU A S2 d site (.sl e) (.own 0 m) (xs.take h.toNat) false) .fail) else .fail
    | none=>.fail
   | _=>.fail
  | some v=>uN S e r p s v hi
 | _,_=>.fail
def aV(A:bY)(ρ:Operand->AV)(S:aO)(site:Nat)(hint:Bool)(o:Oper):Tr (AV×aO):=
 match o.op with
 | .move x=>.ret (ρ x,S)
 | .assign x=>
  match ρ x with
  | .b9 r p s=>if qx p&&!hint then .ret (.b9 r p s,S) else Ft A S o.dst site hint (.b9 r p s)
  | .pair a b=>Ft A S o.dst site hint (.pair a b)
  | v=>.ret (v,S)
 | .pick c a b=>
  match asBool (ρ c) with
  | some c=>.br c (.ret (ρ a,S)) (.ret (ρ b,S))
  | none=>.fail
 | .alloc t=>if (C.ty t).nz then dU A S o.dst site (C.ty t) (Mk.top (C.ty t)) (C.ty t).zero true else .fail
 | .box t x=>
  if (C.ty t).nz then
   match tk S (C.ty t) (ρ x) with
   | some (m,y,S1)=>if hint then (if m.whole then dU A S1 o.dst site (C.ty t) .no y true else .fail) else dU A S1 o.dst site (C.ty t) m y true
   | none=>.fail
  else .fail
 | .build t parts=>
  if (C.ty t).nz&&(C.ty t).agg then
   match oH S (C.ty t) (Mk.z8 hint (C.ty t),(C.ty t).zero) (parts.toList.map fun p=>(p.1,ρ p.2)) with
   | some (m,y,S1)=>dU A S1 o.dst site (C.ty t) m y false
   | none=>.fail
  else .fail
 | .buildSlice t n parts=>
  match C.ty t with
  | .sl e=>
   match tF S e (Mk.top e,List.replicate n e.zero) (parts.toList.map fun p=>(p.1,ρ p.2)) with
   | some (m,y,S1)=>
    if m.ax&&Nat.ble (n * e.width) 16777216 then
     (if hint then (if m.whole then .ret (.val (.sl e) y,S1) else .fail) else dU A S1 o.dst site (.sl e) (.own 0 m) y false)
    else .fail
   | none=>.fail
  | _=>.fail
 | .load t a=>if (C.ty t).nz then .of ((vj S (C.ty t) (ρ a)).map fun v=>(v,S)) else .fail
 | .store t a x=>if (C.ty t).nz&&A.fr then .of ((Bu S site hint (C.ty t) (ρ a) (ρ x)).map fun S=>(.undef,S)) else .fail
 | .nilCheck x=>
  match ρ x with
  | .addr r p=>match S.focus r p with | some _=>.ret (.addr r p,S) | none=>.fail
  | .cj t x=>.ret (.cj t x,S)
  | .gH f c=>.ret (.gH f c,S)
  | _=>.fail
 | .binOp op xt x y _=>
  match ρ y with
  | .fm=>
   match C.ty xt,op,yV S (ρ x) with
   | .sl _,.eql,some n=>.nil n.toNat false fun b=>.ret (.val .bool b,S)
   | .sl _,.neq,some n=>.nil n.toNat true fun b=>.ret (.val .bool b,S)
   | _,_,_=>.fail
  | w=>
   match kL (C.ty xt) op (ρ x) w with
   | .ret v=>.ret (v,S)
   | .br c (.ret v) .fail=>.br c (.ret (v,S)) .fail
   | .br c .fail (.ret v)=>.br c .fail (.ret (v,S))
   | _=>.fail
 | .unOp op _ x=>
  match op,ρ x with
  | .not,.val .bool b=>.ret (.val .bool (!b),S)
  | .neg,.val (.int kd) n=>.ret (.val (.int kd) (kd.wrap (0-n)),S)
  | _,_=>.fail
 | .convert src dst x=>
  match C.ty src,C.ty dst,ρ x with
  | .int _,.int kd,.val (.int _) n=>.ret (.val (.int kd) (kd.wrap n),S)
  | .str,.str,.val .str s=>.ret (.val .str s,S)
  | .sl (.int .u8),.str,v=>
   match rd S (.sl (.int .u8)) v with
   | some xs=>.ret (.val .str (ByteArray.mk (xs.map fun n=>UInt8.ofNat n.toNat).toArray),S)
   | none=>.fail
  | _,_,_=>.fail
 | .makeFunc (.func f) first caps=>if first.isEmpty then .ret (.gH f (caps.toList.foldr (fun x r=>.pair (ρ x) r) .unit),S) else .fail
 | .makeSlice t len cap=>
  match C.ty t,wg (ρ len),wg (ρ cap) with
  | .sl e,some (.i64,l),some (.i64,c)=>
   .br (decide (0<=l)&&decide (l<=c)&&decide (c<=(ga:Int)))
    (dU A S o.dst site (.sl e) (.own 0 (Mk.top e)) (List.replicate l.toNat e.zero) false) .fail
  | _,_,_=>.fail
 | .slice t x lo hi none=>uF A S (C.ty t) o.dst site (ρ x) (lo.map ρ) (hi.map ρ)
 | .fieldAddr s x f=>.of ((Cj S (C.ty s) (ρ x) f).map fun v=>(v,S))
 | .field ts x f=>
  match ρ x with
  | .val t y=>
   if t=C.ty ts then
    match focus t .no y (ic f) with
    | some dd=>.ret (.val dd.ty dd.x,S)
    | none=>.fail
   else .fail
  | _=>.fail
 | .indexAddr t x i=>
  match xW S (C.ty t) (ρ x) (ρ i) with
  | .br c (.ret v) .fail=>.br c (.ret (v,S)) .fail
  | _=>.fail
 | .index t x i=>
  match C.ty t,ρ x,wg (ρ i) with
  | .str,.val .str s,some (_,n)=>.br (decide (0<=n)&&decide (n<(s.size:Int))) (.ret (.val (.int .u8) ((s.data.getD n.toNat 0).toNat:Int),S)) .fail
  | _,_,_=>.fail
 | .extract x i=>.of ((L3 (ρ x) i).map fun v=>(v,S))
 | .call c=>
  match c.callee with
  | .builtin b=>
   match b,c.args.toList.map ρ,c.argTypes.toList.map C.ty with
   | .len,[.val .str s],.str::_=>.ret (.val (.int .i64) (s.size:Nat),S)
   | .len,[x],.sl _::_=>.of ((yV S x).map fun n=>(.val (.int .i64) n,S))
   | .append,[x,y],.sl t::.sl t'::_=>if t=t' then (if hint then qP S t x y else DH A S o.dst site t x y) else .fail
   | .clear,[x],.sl t::_=>alq S t x
   | .copy,[x,y],.sl t::_=>yb S t x y
   | .min,[x,y],_=>match x,y with | .val (.int ka) a,.val (.int kb) b=>if ka=kb then .ret (.val (.int ka) (if b<a then b else a),S) else .fail | _,_=>.fail
   | .max,[x,y],_=>match x,y with | .val (.int ka) a,.val (.int kb) b=>if ka=kb then .ret (.val (.int ka) (if b>a then b else a),S) else .fail | _,_=>.fail
   | _,_,_=>.fail
  | .value f=>
   match ρ f with
   | .gH g caps=>qO C D { A with sh:=hint } S o.dst site g (c.args.toList.map ρ++mY caps)
   | .eA f=>
    if (C.ty o.type).scalar then
     match yY S (c.argTypes.toList.map C.ty) (c.args.toList.map ρ) with
     | some xs=>.call (iM C D f xs (C.ty o.type)) fun x=>.ret (.val (C.ty o.type) x,S)
     | none=>.fail
    else .fail
   | _=>.fail
  | _=>.fail
 | _=>.fail
end ops
def AV.aQ(lo hi:Nat):AV->Bool
 | .b9 _ p s=>!(Nat.ble lo s&&Nat.blt s hi)&&jH lo hi p
 | .view _ p s _ _=>!(Nat.ble lo s&&Nat.blt s hi)&&jH lo hi p
 | .addr _ p=>jH lo hi p
 | .pair a b=>a.aQ lo hi&&b.aQ lo hi
 | .jJ a=>a.aQ lo hi
 | .gH _ c=>c.aQ lo hi
 | _=>true
def IZ(s:Nat):List AV->Bool
 | []=>true
 | v::l=>v.aQ s (s+1)&&IZ s l
def lI(sl:List AV)(d:Option Nat)(s:Nat):bY where
 xB:=match d with | some d=>sw d 0 sl | none=>true
 pl:=match d with | some d=>Fh d 0 sl | none=>true
 fr:=Nat.blt s 1048576&&IZ s sl
 sh:=false
end
end Go.V
namespace Go.V
noncomputable section
open Go
inductive Ex where
 | normal | exit (id:Nat) | ret
section
variable (C:Ctx) (D:Den C) {R:Type}
def uE(S:St)(o:Oper)(v:AV):St:=
 match o.dst with
 | some d=>S.set d v
 | none=>S
def lz(ops:Array Oper)(j:Nat):Nat:=((ops[j]?).bind (·.dst)).getD 0
def Dz:Path->List Nat
 | []=>[]
 | .idx _ s::p=>s::Dz p
 | _::p=>Dz p
def AV.stamps:AV->List Nat
 | .b9 _ p s=>s::Dz p
 | .view _ p s _ _=>s::Dz p
 | .addr _ p=>Dz p
 | .pair a b=>a.stamps++b.stamps
 | .jJ a=>a.stamps
 | .gH _ c=>c.stamps
 | _=>[]
structure jK where
 i:Nat
 rd:List Nat
 st:List Nat
 site:Nat
 wr:Option (List Nat)
 io:Option (aO×aO)
 dst:Option Nat
 ld:Option ((aO->Option AV)×AV)
 bl:Bool
 lc:Bool
abbrev Log:=List jK
def NT(ops:Array Oper)(c:Nat):Nat->Oper->Bool
 | 0,_=>false
 | n+1,o=>
  match o.guard with
  | none=>false
  | some (j,_)=>Nat.beq (lz ops j) c||(match ops[j]? with | some oj=>NT ops c n oj | none=>false)
def sG(ops:Array Oper)(i:Nat)(o:Oper):List Nat:=
 match o.op with
 | .pick (.tmp c) _ _=>(ops.toList.take i).filterMap fun o'=>if NT ops c 8 o' then o'.dst else none
 | _=>[]
def St.forget(S:St):List Nat->St
 | []=>S
 | t::ts=>(S.set t .undef).forget ts
def fin(ops:Array Oper)(S:St)(i:Nat)(o:Oper)(v:AV):St:=uE (S.forget (sG ops i o)) o v
def qk:List AV->List Nat
 | []=>[]
 | v::l=>v.roots++qk l
def uC(S:St)(o:Oper):List AV:=o.op.operands.toList.map (ev S)
def mz:List PK->List AV->List Nat
 | k::ks,a::aJ=>if k.plain then mz ks aJ else a.roots++mz ks aJ
 | _,_=>[]
def Hx(s:wE):Bool:=s.params.all PK.plain&&s.res.all (fun k=>!k.kT&&k.ms.still)
def Ty.flat:Ty->Bool
 | .sl _=>false
 | .pair a b=>a.flat&&b.flat
 | _=>true
def AV.isVal:AV->Bool
 | .val _ _=>true
 | .cG _=>true
 | _=>false
def T_(ρ:Operand->AV)(l:List (Nat×Operand)):Bool:=l.all fun p=>(ρ p.2).isVal
def dP(ρ:Operand->AV)(o:Oper):Option (List Nat):=
 let all:=some (o.dst.toList++qk (o.op.operands.toList.map ρ))
 match o.op with
 | .move _ | .pick _ _ _ | .load _ _ | .nilCheck _ | .binOp _ _ _ _ _ | .unOp _ _ _ | .convert _ _ _ | .makeFunc _ _ _ | .fieldAddr _ _ _ | .field _ _ _ | .indexAddr _ _ _ | .index _ _ _ | .extract _ _=>none
 | .assign x=>match ρ x with | .b9 _ _ _=>all | .pair _ _=>all | _=>none
 | .build t parts=>if (C.ty t).flat&&T_ ρ parts.toList then none else all
 | .call c=>
  match c.callee with
  | .builtin .len | .builtin .min | .builtin .max=>none
  | .builtin _=>all
  | .value f=>
   match ρ f with
   | .gH g caps=>if He (C.sig g) (c.args.toList.map ρ++mY caps) then all else if Hx (C.sig g) then none else some (o.dst.toList++mz (C.sig g).params (c.args.toList.map ρ++mY caps))
   | .eA _=>none
   | _=>all
  | _=>all
 | _=>all
def PK.loc:PK->Bool
 | .own _ _ | .cO _ _ _=>false
 | _=>true
def vq(ρ:Operand->AV)(o:Oper):Bool:=
 match o.op with
 | .alloc _ | .box _ _ | .build _ _ | .buildSlice _ _ _ | .makeSlice _ _ _ | .slice _ _ _ _ none=>true
 | .call c=>
  match c.callee with
  | .builtin .append=>
   match c.args.toList.map ρ with
   | .b9 _ p _::_=>!qx p
   | _=>true
  | .value f=>
   match ρ f with
   | .gH g _=>(C.sig g).params.all PK.loc
   | _=>false
  | _=>false
 | _=>false
def dV(S:St):List Nat->List Nat
 | []=>[]
 | t::ts=>(S.get t).roots++dV S ts
def cS(S:St):List Nat->List Nat
 | []=>[]
 | t::ts=>(S.get t).stamps++cS S ts
def jG(ops:Array Oper)(i:Nat)(o:Oper):List Nat:=o.dst.toList++sG ops i o
def rQ(o:Oper):Bool:=
 match o.op with
 | .move _ | .pick _ _ _ | .unOp _ _ _ | .makeFunc _ _ _ | .field _ _ _ | .extract _ _=>true
 | _=>false
def uu(ρ:Operand->AV)(o:Oper)(v:AV):Option ((aO->Option AV)×AV):=
 match o.op with
 | .load t a=>some (fun S=>if (C.ty t).nz then vj S (C.ty t) (ρ a) else none,v)
 | .fieldAddr s x f=>some (fun S=>Cj S (C.ty s) (ρ x) f,v)
 | _=>none
def jI(ops:Array Oper)(S:St)(site i:Nat)(o:Oper)(v:AV)(rt':aO):jK:=
 ⟨i,v.roots++((if rQ o then [] else qk (uC S o))++dV S (jG ops i o)),v.stamps++cS S (jG ops i o),site,dP C (ev S) o,(match dP C (ev S) o,vq C (ev S) o with | some _,false=>some (S.rt,rt') | _,_=>none),o.dst,uu C (ev S) o v,rQ o,vq C (ev S) o⟩
def oK(ops:Array Oper)(S:St)(site i:Nat)(o:Oper):jK:=⟨i,dV S (jG ops i o),cS S (jG ops i o),site,none,none,none,none,true,false⟩
def u5(M:Array Nat)(i j:Nat):Bool:=(M.getD j 0).testBit i||(M.getD i 0).testBit j
def jd:List Nat->List Nat->Bool
 | [],_=>true
 | a::l,l'=>!(l'.contains a)&&jd l l'
def BB(w:List Nat)(e f:jK):Bool:=jd w f.rd&&!f.st.contains e.site
def DG:Path->Path->Bool
 | [],[]=>true
 | .fst::p,.fst::q=>DG p q
 | .snd::p,.snd::q=>DG p q
 | _,_=>false
def Bo(S:aO)(l:(aO->Option AV)×AV):Bool:=
 match l.1 S,l.2 with
 | some (.b9 r p s),.b9 r' p' s'=>Nat.beq r r'&&DG p p'&&Nat.beq s s'
 | some (.addr r p),.addr r' p'=>Nat.beq r r'&&DG p p'
 | _,_=>false
def BY(e f:jK):Bool:=
 (f.bl||(match f.ld,e.io with
  | some l,some io=>Bo io.1 l&&Bo io.2 l
  | _,_=>false))&&jd e.dst.toList f.rd&&!f.st.contains e.site
def jK.free(e f:jK):Bool:=
 match e.wr,f.wr with
 | none,none=>true
 | some w,none=>BB w e f||BY e f
 | none,some w=>BB w f e||BY f e
 | some w,some w'=>(e.lc&&f.lc)&&((jd w f.rd&&jd w w')&&(jd w' e.rd&&jd w' w))&&(!e.st.contains f.site&&!f.st.contains e.site)
def Bi(M:Array Nat)(e:jK):Log->Bool
 | []=>true
 | f::l=>(Nat.beq e.i f.i||u5 M e.i f.i||e.free f)&&Bi M e l
def DI(M:Array Nat)(all:Log):Log->Bool
 | []=>true
 | e::l=>(match e.wr with | none=>true | some _=>Bi M e all)&&DI M all l
def zY(ops:Array Oper)(o:Oper):List Nat:=
 (match o.guard with | some (j,_)=>[lz ops j] | none=>[])++o.op.operands.toList.filterMap fun x=>match x with | .tmp t=>some t | _=>none
def IN(ops:Array Oper)(i j:Nat)(x y:Oper):Bool:=
 jd (jG ops i x) (zY ops y)&&jd (jG ops i x) (jG ops j y)&&jd (jG ops j y) (zY ops x)
def AY(M:Array Nat)(ops:Array Oper)(i:Nat)(x:Oper):List (Nat×Oper)->Bool
 | []=>true
 | (j,y)::l=>(u5 M i j||IN ops i j x y)&&AY M ops i x l
def I2(M:Array Nat)(ops:Array Oper):List (Nat×Oper)->Bool
 | []=>true
 | (i,x)::l=>AY M ops i x l&&I2 M ops l
def pL(o:Oper):Bool:=
 match o.op with
 | .move _ | .pick _ _ _ | .unOp _ _ _ | .fieldAddr _ _ _ | .field _ _ _ | .load _ _ | .extract _ _=>true
 | .binOp op _ _ _ _=>match op with | .eql | .neq | .lss | .leq | .gtr | .geq | .sub | .mul=>true | _=>false
 | .call c=>match c.callee with | .builtin .len=>true | _=>false
 | _=>false
def Iv(t:Nat)(o:Oper):Bool:=
 match o.op with
 | .pick (.tmp c) _ _=>Nat.beq c t
 | _=>false
def L5(t:Nat):List (Nat×Oper)->Option (List (Nat×Oper)×(Nat×Oper)×List (Nat×Oper))
 | []=>none
 | x::l=>if Iv t x.2 then some ([],x,l) else match L5 t l with
  | some y=>some (x::y.1,y.2)
  | none=>none
def NY(ops:Array Oper)(S:St)(D:List Nat)(o:Oper):Bool:=
 match o.guard with
 | none=>true
 | some (j,b)=>!D.contains (lz ops j)&&(match S.get (lz ops j) with | .cG c=>c == b | _=>false)
def iL(S:St)(site:Nat)(hint:Bool)(o:Oper):Tr (AV×aO):=aV C D (lI S.sl o.dst site) (ev S) S.rt site hint o
def BD(ops:Array Oper)(id:Nat)(q_:List (Nat×Oper)->St->Log->Option (St×Log))(t:Nat)(c:Bool)(l:List (Nat×Oper))(S:St)(lg:Log) :
  Option (St×Log×List (Nat×Oper)):=
 match L5 t l with
 | some (seg,(i,o),rest)=>
  let D:=sG ops i o
  if seg.all (fun x=>pL x.2&&(jG ops x.1 x.2).all D.contains)&&NY ops S D o&&!D.contains t then
   match o.op,q_ seg (S.set t (.cG true)) [],q_ seg (S.set t (.cG false)) [] with
   | .pick _ a b,some (S1,l1),some (S2,l2)=>
    match asBool (ev S1 a),asBool (ev S2 b) with
    | some x,some y=>some (fin ops S i o (.val .bool (cond c x y)),
      jI C ops S1 (id * 256+i+1) i o (.val .bool x) S1.rt::jI C ops S2 (id * 256+i+1) i o (.val .bool y) S2.rt::(l1++(l2++lg)),rest)
    | _,_=>none
   | _,_,_=>none
  else none
 | _=>none
noncomputable def mN(id:Nat)(ops:Array Oper):Nat->List (Nat×Oper)->St->Log->Option (St×Log)
 | 0,_,_,_=>none
 | _+1,[],S,lg=>some (S,lg)
 | n+1,(i,o)::rest,S,lg=>
  let site:=id * 256+i+1
  let go:=match iL C D S site false o with
   | .ret (v,rt')=>mN id ops n rest (fin ops ⟨S.sl,rt'⟩ i o v) (jI C ops S site i o v rt'::lg)
   | _=>none
  match o.guard with
  | none=>go
  | some (j,b)=>
   match S.get (lz ops j) with
   | .skip=>mN id ops n rest (fin ops S i o .skip) (oK ops S site i o::lg)
   | .cG c=>if c=b then go else mN id ops n rest (fin ops S i o .skip) (oK ops S site i o::lg)
   | .val .bool c=>
    match BD C ops id (mN id ops n) (lz ops j) c ((i,o)::rest) S lg with
    | some (S',lg,rest)=>mN id ops n rest S' lg
    | none=>none
   | _=>none
noncomputable def yQ(H:Hints)(id:Nat)(ops:Array Oper):Nat->List (Nat×Oper)->St->Log->(Log->St->Option R)->Option R
 | 0,_,_,_,_=>none
 | _+1,[],S,lg,k=>k lg S
 | n+1,(i,o)::rest,S,lg,k=>
  let site:=id * 256+i+1
  let go:=fun(S:St)=>(iL C D S site (H.share.contains (id,i)) o).run fun x=>yQ H id ops n rest (fin ops ⟨S.sl,x.2⟩ i o x.1) (jI C ops S site i o x.1 x.2::lg) k
  let skip:=fun(S:St)=>yQ H id ops n rest (fin ops S i o .skip) (oK ops S site i o::lg) k
  match o.guard with
  | none=>go S
  | some (j,b)=>
   match S.get (lz ops j) with
   | .skip=>skip S
   | .cG c=>if c=b then go S else skip S
   | .val .bool c=>
    match BD C ops id (mN C D id ops n) (lz ops j) c ((i,o)::rest) S lg with
    | some (S',lg,rest)=>yQ H id ops n rest S' lg k
    | none=>
     br c
      (if b=true then go (S.set (lz ops j) (.cG true)) else skip (S.set (lz ops j) (.cG true)))
      (if b=false then go (S.set (lz ops j) (.cG false)) else skip (S.set (lz ops j) (.cG false)))
   | _=>none
def sv(body:St->(Ex->St->Option R)->Option R)(canon fL:St->St):Nat->St->(Ex->St->Option R)->Option R
 | 0,_,_=>none
 | n+1,S,k=>body (canon S) fun e S=>match e with
  | .normal=>sv body canon fL n S k
  | e=>k e (fL S)
def Mk.Ju:Mk->Mk->Mk
 | .no,.no=>.no
 | a,b=>.pr a b
def Mk.bg:Mk->Mk
 | .no=>.no
 | .gone=>.gone
 | .own s m=>.own (if s<1048576 then 0 else s) m.bg
 | .pr a b=>Mk.Ju a.bg b.bg
def ov.zero:ov->ov
 | .idx i s=>.idx i (if s<1048576 then 0 else s)
 | p=>p
def AV.canon(S:St):AV->AV
 | .b9 r p s=>
  match S.focus r p with
  | some ⟨.sl _,.own s' _,_⟩=>if s=s' then .b9 r (p.map ov.zero) (if s<1048576 then 0 else s) else .undef
  | _=>.undef
 | .addr r p=>
  match S.focus r p with
  | some _=>.addr r (p.map ov.zero)
  | _=>.undef
 | .pair a b=>.pair (a.canon S) (b.canon S)
 | .gH f c=>.gH f (c.canon S)
 | .jJ a=>.undef
 | .view _ _ _ _ _=>.undef
 | v=>v
def L1(x:Option aC):Option aC:=x.bind fun R=>match R.ms with | .gone=>none | _=>some { R with ms:=R.ms.bg }
def EZ(oY:List Nat):Nat->List (Option aC)->List (Option aC)
 | _,[]=>[]
 | i,x::l=>
  (if oY.contains i then L1 x else none)
   :: EZ oY (i+1) l
def E0(S:St)(keep:List Nat):Nat->List AV->List AV
 | _,[]=>[]
 | i,x::l=>(if keep.contains i then x.canon S else .undef)::E0 S keep (i+1) l
def St.canon(keep extra:List Nat)(S:St):St:=
 let sl:=E0 S keep 0 S.sl
 ⟨sl,EZ (extra++sl.flatMap AV.roots) 0 S.rt⟩
def Ct:Code->Nat
 | .region id _ _=>id
 | .seq a _=>Ct a
 | .block _ b=>Ct b
 | .loop b=>Ct b
 | _=>0
def nt(ops:Array Oper):List (Nat×Oper):=ops.toList.zipIdx.map fun x=>(x.2,x.1)
def Ma(ops:Array Oper):Bool:=ops.toList.all fun o=>match o.guard with | none=>true | some (j,_)=>((ops[j]?).bind (·.dst)).isSome
def E9(ops:Array Oper):Bool:=(nt ops).all fun x=>x.2.after.all fun e=>!Region.binds .any e||Nat.blt e.on x.1
def r5(H:Hints)(b:Code)(S:St):St:=
 match H.keep.lookup (100000+Ct b) with
 | some kp=>St.canon kp.1 kp.2.2 S
 | none=>S
noncomputable def exec(H:Hints)(n:Nat):Code->St->(Ex->St->Option R)->Option R
 | .skip,S,k=>k .normal S
 | .region id ops dr,S,k=>
  if Ma ops then
   yQ C D H id ops (ops.size+1) (nt ops) S [] fun lg S=>
    if dr then (if E9 ops&&DI (Region.before ops) lg lg&&I2 (Region.before ops) ops (nt ops) then k .normal S else none) else k .normal S
  else none
 | .seq a b,S,k=>exec H n a S fun e S=>match e with
  | .normal=>exec H n b (r5 H b S) k
  | e=>k e S
 | .cond c a b,S,k=>
  match asBool (ev S c) with
  | some t=>br t (exec H n a S k) (exec H n b S k)
  | none=>none
 | .block id b,S,k=>exec H n b S fun e S=>match e with
  | .exit j=>if j=id then k .normal S else k (.exit j) S
  | e=>k e S
 | .loop b,S,k=>
  match H.keep.lookup (Ct b) with
  | some kp=>sv (exec H n b) (St.canon kp.1 kp.2.2) (St.canon kp.2.1 kp.2.2) n S k
  | none=>none
 | .exit id,S,k=>k (.exit id) S
 | .ret,S,k=>k .ret S
 | _,_,_=>none
def Mk.tag:Mk->Nat->Mk×Nat
 | .no,n=>(.no,n)
 | .gone,n=>(.gone,n)
 | .own _ m,n=>(.own n m,n+1)
 | .pr a b,n=>let x:=a.tag n;let y:=b.tag x.2;(.pr x.1 y.1,y.2)
def BO(i:Nat)(m:Mk):Mk:=(m.tag (1048576+64 * i)).1
def enter(S:St):Nat->(ks:List PK)->gf ks->St
 | _,[],_=>S
 | i,.val t::ks,a=>enter (S.set i (.val t a.1)) (i+1) ks a.2
 | i,.cm t::ks,a=>enter (S.set i (.cj t a.1)) (i+1) ks a.2
 | i,.own t m::ks,a=>enter ((S.aI i (some ⟨t,m,a.1,false⟩)).set i (cW i t m a.1 [])) (i+1) ks a.2
 | i,.cC t m _::ks,a=>enter ((S.aI i (some ⟨t,m,a.1,true⟩)).set i (.addr i [])) (i+1) ks a.2
 | i,.cO t m _::ks,a=>enter ((S.aI i (some ⟨t,BO i m,a.1,false⟩)).set i (cW i t (BO i m) a.1 [])) (i+1) ks a.2
 | i,.fn::ks,a=>enter (S.set i (.eA a.1)) (i+1) ks a.2
def yg(C:Ctx)(S:St):ResultVar->Option AV
 | .tmp t=>some (S.get t)
 | .cell a t=>if (C.ty t).nz then vj S.rt (C.ty t) (S.get a) else none
def v_(C:Ctx):(ks:List RK)->List ResultVar->St->Option (f9 ks×St)
 | [],[],S=>some ((),S)
 | .val t m::ks,v::vs,S=>
  (yg C S v).bind fun a=>
  (tk S.rt t a).bind fun x=>if m.aP x.1 then (v_ C ks vs ⟨S.sl,x.2.2⟩).bind fun r=>some ((x.2.1,r.1),r.2) else none
 | .ptr t m::ks,v::vs,S=>
  match yg C S v with
  | some (.addr q [])=>
   match S.root q with
   | some R=>if R.mem/\m.aP R.ms then (qbv R.ty t R.x).bind fun x=>(v_ C ks vs (S.aI q none)).bind fun r=>some ((x,r.1),r.2) else none
   | none=>none
  | _=>none
 | _,_,_=>none
def Mk.same:(was now:Mk)->Bool
 | .no,h=>h.still
 | .own s _,h=>
  match h with
  | .own s' _=>s=s'
  | _=>false
 | .pr a b,h=>
  match h with
  | .pr c d=>a.same c&&b.same d
  | .no=>a.same .no&&b.same .no
  | _=>false
 | .gone,_=>false
def outs(H:Hints):Nat->(ks:List PK)->St->Option (dI ks)
 | _,[],_=>some ()
 | i,.cC t _ m'::ks,S=>
  match S.get i with
  | .addr q []=>
   match S.root q with
   | some R=>if R.mem/\m'.aP R.ms then (qbv R.ty t R.x).bind fun x=>(outs H (i+1) ks (S.aI q none)).bind fun r=>some (x,r) else none
   | none=>none
  | _=>none
 | i,.cO t m m'::ks,S=>
  let q:=(H.outs.lookup i).getD i
  match S.root q with
  | some R=>if m'.aP R.ms/\(BO i m).same R.ms then (qbv R.ty t R.x).bind fun x=>(outs H (i+1) ks (S.aI q none)).bind fun r=>some (x,r) else none
  | none=>none
 | i,.val _::ks,S=>outs H (i+1) ks S
 | i,.own _ _::ks,S=>outs H (i+1) ks S
 | i,.cm _::ks,S=>outs H (i+1) ks S
 | i,.fn::ks,S=>outs H (i+1) ks S
def JH(np:List Nat)(ops:Array Oper):Bool:=ops.toList.all fun o=>match o.dst with | some d=>!np.contains d | none=>true
def vU:Nat->List PK->List Nat
 | _,[]=>[]
 | i,.cC _ _ _::ks=>i::vU (i+1) ks
 | i,_::ks=>vU (i+1) ks
def sF(np:List Nat):Code->Bool
 | .region _ ops _=>JH np ops
 | .seq a b=>sF np a&&sF np b
 | .cond _ a b=>sF np a&&sF np b
 | .block _ b=>sF np b
 | .loop b=>sF np b
 | _=>true
def fj:Ty->Mk->Bool
 | .sl _,.own _ _=>true
 | .pair a b,.pr x y=>fj a x&&fj b y
 | .unit,.no=>true
 | _,_=>false
def PK.f7:PK->Bool
 | .own t m=>t.nz&&m.ax
 | .cC _ m _=>m.ax
 | .cO t m _=>t.nz&&(m.ax&&(fj t m&&Nat.ble t.width 64))
 | _=>true
noncomputable def vz(n:Nat)(fn:Func)(H:Hints)(ks:List PK)(rs:List RK)(a:gf ks):Option (f9 rs×dI ks):=
 match fn.body with
 | none=>none
 | some c=>
  if ks.all PK.f7&&(Nat.ble ks.length fn.ntmps&&sF (vU 0 ks) c) then
  exec C D H n c (enter ⟨List.replicate fn.ntmps .undef,List.replicate fn.ntmps none⟩ 0 ks a) fun e S=>
   match e with
   | .exit _=>none
   | _=>(v_ C rs fn.results.toList S).bind fun r=>(outs H 0 ks r.2).bind fun o=>some (r.1,o)
  else none
end
structure alW where
 func:FuncId->Option Func
noncomputable def Dn(C:Ctx)(E:Den C)(mw:FuncId->Bool)(func:FuncId->Option Func):Nat->Den C
 | 0,_=>fun _=>none
 | n+1,g=>fun a=>
  if mw g then E g a else
  match func g with
  | none=>none
  | some fn=>vz C (Dn C E mw func n) n fn (C.hints g) (C.sig g).params (C.sig g).res a
end
end Go.V
namespace Go.V
noncomputable section
open Go
abbrev BS:=Nat->Prop
def Sub(F G:BS):Prop:=∀b,F b->G b
def cB(F G:BS):Prop:=∀b,F b->G b->False
def Nil:BS:=fun _=>False
theorem Sub.refl(F:BS):Sub F F:=fun _ h=>h
theorem Sub.trans{F G H:BS}(h:Sub F G)(h':Sub G H):Sub F H:=fun b x=>h' b (h b x)
theorem Sub.nil(F:BS):Sub Nil F:=fun _ h=>h.elim
theorem cB.symm{F G:BS}(h:cB F G):cB G F:=fun b x y=>h b y x
theorem cB.mono{F G F' G':BS}(h:cB F G)(hf:Sub F' F)(hg:Sub G' G):cB F' G':=fun b x y=>h b (hf b x) (hg b y)
theorem cB.nil(F:BS):cB Nil F:=fun _ h _=>h.elim
def jz(h:Array Obj)(b:Nat)(cs:Array Value):Prop:=
 ∃e lo hi,h[b]? = some (.cells cs e (lo,hi))/\∀i,i<=cs.size->¬ (lo<=i/\i<hi)
def sV(h:Array Obj)(b:Nat)(cs:Array Value):Prop:=∃e fr,h[b]? = some (.cells cs e fr)
theorem jz.CO{h:Array Obj}{b:Nat}{cs:Array Value}(x:jz h b cs):sV h b cs:=let ⟨e,lo,hi,he,_⟩:=x;⟨e,(lo,hi),he⟩
theorem jz.congr{h h':Array Obj}{b:Nat}{cs:Array Value}(x:jz h b cs)(e:h'[b]? = h[b]?):jz h' b cs:=
 let ⟨t,lo,hi,he,hf⟩:=x;⟨t,lo,hi,e.trans he,hf⟩
theorem sV.congr{h h':Array Obj}{b:Nat}{cs:Array Value}(x:sV h b cs)(e:h'[b]? = h[b]?):sV h' b cs:=
 let ⟨t,fr,he⟩:=x;⟨t,fr,e.trans he⟩
def sub(cs:Array Value)(off n:Nat):List Value:=(cs.toList.drop off).take n
def az(h:Array Obj)(Pr:BS):(t:Ty)->Mk->t.den->List Value->BS->Prop
 | .unit,_,_,c,_=>c=[]
 | .int k,_,x,c,_=>c=[.int k x]
 | .bool,_,x,c,_=>c=[.bool x]
 | .str,_,x,c,_=>c=[.string x]
 | .pair a b,m,x,c,F=>∃ca cb Fa Fb,c=ca++cb/\az h Pr a m.fst x.1 ca Fa/\az h Pr b m.snd x.2 cb Fb/\
   Sub Fa F/\Sub Fb F/\cB Fa Fb
 | .sl t,.gone,xs,c,F=>∃a n k,c=[.slice a n k]
 | .sl t,.own _ mi,xs,c,F=>∃a cap,c=[.slice a xs.length cap]/\xs.length<=cap/\
   (cap=0\/∃b cs,a=some ⟨b,0,none⟩/\F b/\jz h b cs/\cap * t.width<=cs.size/\
    ∃Fs:Nat->BS,(∀i,Sub (Fs i) F/\¬ Fs i b)/\(∀i j,i≠j->cB (Fs i) (Fs j))/\
     ∀i,i<xs.length->az h Pr t mi (xs.getD i t.zero) (sub cs (i * t.width) t.width) (Fs i))
 | .sl t,_,xs,c,F=>∃a cap,c=[.slice a xs.length cap]/\xs.length<=cap/\
   (xs≠[]->∃b o cs,a=some ⟨b,o,none⟩/\Pr b/\sV h b cs/\o+xs.length * t.width<=cs.size/\
    ∀i,i<xs.length->az h Pr t .no (xs.getD i t.zero) (sub cs (o+i * t.width) t.width) Nil)
theorem az.width{h:Array Obj}{Pr:BS}:∀(t:Ty){m:Mk}{x:t.den}{c:List Value}{F:BS},az h Pr t m x c F->c.length=t.width
 | .unit,_,_,_,_,r=>by simp only[az]at r;subst r;rfl
 | .int k,_,_,_,_,r=>by simp only[az]at r;subst r;rfl
 | .bool,_,_,_,_,r=>by simp only[az]at r;subst r;rfl
 | .str,_,_,_,_,r=>by simp only[az]at r;subst r;rfl
 | .pair a b,_,_,_,_,r=>by
  simp only[az]at r;obtain⟨ca,cb,Fa,Fb,rfl,ra,rb,_⟩:=r;simp[Ty.width,az.width a ra,az.width b rb]
 | .sl t,m,_,_,_,r=>by
  cases m<;>simp only[az]at r
  .obtain⟨_,_,rfl,_⟩:=r;rfl
  .obtain⟨_,_,_,rfl⟩:=r;rfl
  .obtain⟨_,_,rfl,_⟩:=r;rfl
  .obtain⟨_,_,rfl,_⟩:=r;rfl
theorem az.mono{h h':Array Obj}{Pr fP:BS}(hp:Sub Pr fP)(gY:∀b,Pr b->h'[b]? = h[b]?) :
  ∀(t:Ty){m:Mk}{x:t.den}{c:List Value}{F F':BS},az h Pr t m x c F->Sub F F'->(∀b,F b->h'[b]? = h[b]?)->az h' fP t m x c F'
 | .unit,_,_,_,_,_,r,_,_=>by simpa only [az] using r
 | .int k,_,_,_,_,_,r,_,_=>by simpa only [az] using r
 | .bool,_,_,_,_,_,r,_,_=>by simpa only [az] using r
 | .str,_,_,_,_,_,r,_,_=>by simpa only [az] using r
 | .pair a b,_,_,_,_,_,r,hf,hk=>by
  simp only[az]at r⊢;obtain⟨ca,cb,Fa,Fb,rfl,ra,rb,sa,sb,d⟩:=r;exact⟨ca,cb,Fa,Fb,rfl,az.mono hp gY a ra (Sub.refl _) (fun b hb=>hk b (sa b hb)),az.mono hp gY b rb (Sub.refl _) (fun b hb=>hk b (sb b hb)),
   sa.trans hf,sb.trans hf,d⟩
 | .sl t,m,_,_,_,_,r,hf,hk=>by
  cases m<;>simp only[az]at r⊢
  .obtain⟨a,cap,rfl,hl,r⟩:=r;refine⟨a,cap,rfl,hl,fun hne=>?_⟩;obtain⟨b,o,cs,rfl,pb,hb,hs,re⟩:=r hne;exact⟨b,o,cs,rfl,hp b pb,hb.congr (gY b pb),hs,fun i hi=>az.mono hp gY t (re i hi) (Sub.refl _) (fun _ h=>h.elim)⟩
  .exact r
  .obtain⟨a,cap,rfl,hl,r⟩:=r;refine⟨a,cap,rfl,hl,?_⟩;rcases r with r | ⟨b,cs,rfl,fb,hb,hs,Fs,hF,hd,re⟩
   .exact .inl r
   .exact .inr ⟨b,cs,rfl,hf b fb,hb.congr (hk b fb),hs,Fs,fun i=>⟨(hF i).1.trans hf,(hF i).2⟩,hd,
     fun i hi=>az.mono hp gY t (re i hi) (Sub.refl _) (fun b' h'=>hk b' ((hF i).1 b' h'))⟩
  .obtain⟨a,cap,rfl,hl,r⟩:=r;refine⟨a,cap,rfl,hl,fun hne=>?_⟩;obtain⟨b,o,cs,rfl,pb,hb,hs,re⟩:=r hne;exact⟨b,o,cs,rfl,hp b pb,hb.congr (gY b pb),hs,fun i hi=>az.mono hp gY t (re i hi) (Sub.refl _) (fun _ h=>h.elim)⟩
theorem az.room{h:Array Obj}{Pr:BS}(t:Ty){m:Mk}{x:t.den}{c:List Value}{F F':BS}(r:az h Pr t m x c F)(hf:Sub F F'):az h Pr t m x c F':=
 az.mono (Sub.refl _) (fun _ _=>rfl) t r hf (fun _ _=>rfl)
theorem az.eL{h:Array Obj}{Pr:BS}:∀(t:Ty){m:Mk}{x:t.den}{c:List Value}{F F':BS},m.still=true->az h Pr t m x c F->az h Pr t .no x c F'
 | .unit,_,_,_,_,_,_,r=>by simpa only [az] using r
 | .int k,_,_,_,_,_,_,r=>by simpa only [az] using r
 | .bool,_,_,_,_,_,_,r=>by simpa only [az] using r
 | .str,_,_,_,_,_,_,r=>by simpa only [az] using r
 | .pair a b,m,_,_,_,_,hm,r=>by
  simp only[az]at r⊢;obtain⟨ca,cb,Fa,Fb,rfl,ra,rb,sa,sb,d⟩:=r;have h1:m.fst.still=true:=by cases m<;>simp_all [Mk.still,Mk.fst]
  have h2:m.snd.still=true:=by cases m<;>simp_all [Mk.still,Mk.snd]
  exact⟨ca,cb,Nil,Nil,rfl,az.eL a h1 ra,az.eL b h2 rb,Sub.nil _,Sub.nil _,cB.nil _⟩
 | .sl t,m,_,_,_,_,hm,r=>by
  cases m<;>simp only[az]at r⊢
  .exact r
  .simp[Mk.still]at hm
  .simp[Mk.still]at hm
  .exact r
theorem az.stamp{h:Array Obj}{Pr:BS}(s:Nat):∀(t:Ty){m:Mk}{x:t.den}{c:List Value}{F:BS},az h Pr t m x c F↔az h Pr t (m.stamp s) x c F
 | .unit,_,_,_,_=>by simp only[az]
 | .int k,_,_,_,_=>by simp only[az]
 | .bool,_,_,_,_=>by simp only[az]
 | .str,_,_,_,_=>by simp only[az]
 | .pair a b,m,x,_,_=>by
  simp only[az];have h1:(m.stamp s).fst=m.fst.stamp s:=by cases m<;>rfl
  have h2:(m.stamp s).snd=m.snd.stamp s:=by cases m<;>rfl
  rw[h1,h2];constructor
  .rintro⟨ca,cb,Fa,Fb,rfl,ra,rb,r⟩;exact⟨ca,cb,Fa,Fb,rfl,(az.stamp s a).1 ra,(az.stamp s b).1 rb,r⟩
  .rintro⟨ca,cb,Fa,Fb,rfl,ra,rb,r⟩;exact⟨ca,cb,Fa,Fb,rfl,(az.stamp s a).2 ra,(az.stamp s b).2 rb,r⟩
 | .sl t,m,_,_,_=>by
  cases m<;>simp only[az,Mk.stamp];constructor
  .rintro⟨a,cap,rfl,hl,r⟩;refine⟨a,cap,rfl,hl,r.imp id ?_⟩;rintro⟨b,cs,rfl,fb,hb,hs,Fs,hF,hd,re⟩;exact⟨b,cs,rfl,fb,hb,hs,Fs,hF,hd,fun i hi=>(az.stamp s t).1 (re i hi)⟩
  .rintro⟨a,cap,rfl,hl,r⟩;refine⟨a,cap,rfl,hl,r.imp id ?_⟩;rintro⟨b,cs,rfl,fb,hb,hs,Fs,hF,hd,re⟩;exact⟨b,cs,rfl,fb,hb,hs,Fs,hF,hd,fun i hi=>(az.stamp s t).2 (re i hi)⟩
theorem Mk.AF(a b:Mk):(Mk.Ju a b).fst=a:=by cases a<;>cases b<;>rfl
theorem Mk.AG(a b:Mk):(Mk.Ju a b).snd=b:=by cases a<;>cases b<;>rfl
theorem Mk.qJ(a b:Mk):(Mk.Ju a b).ax=(a.ax&&b.ax):=by cases a<;>cases b<;>rfl
theorem Mk.oG(a b:Mk):Mk.Ju a b=.no\/Mk.Ju a b=.pr a b:=by cases a<;>cases b<;>first | exact .inl rfl | exact .inr rfl
theorem Mk.mB(m:Mk):m.bg.fst=m.fst.bg:=by cases m<;>first | rfl | exact Mk.AF _ _
theorem Mk.mC(m:Mk):m.bg.snd=m.snd.bg:=by cases m<;>first | rfl | exact Mk.AG _ _
theorem az.bg{h:Array Obj}{Pr:BS}:∀(t:Ty){m:Mk}{x:t.den}{c:List Value}{F:BS},az h Pr t m x c F↔az h Pr t m.bg x c F
 | .unit,_,_,_,_=>by simp only[az]
 | .int k,_,_,_,_=>by simp only[az]
 | .bool,_,_,_,_=>by simp only[az]
 | .str,_,_,_,_=>by simp only[az]
 | .pair a b,m,x,_,_=>by
  simp only[az];have h1:=Mk.mB m;have h2:=Mk.mC m;rw[h1,h2];constructor
  .rintro⟨ca,cb,Fa,Fb,rfl,ra,rb,r⟩;exact⟨ca,cb,Fa,Fb,rfl,(az.bg a).1 ra,(az.bg b).1 rb,r⟩
  .rintro⟨ca,cb,Fa,Fb,rfl,ra,rb,r⟩;exact⟨ca,cb,Fa,Fb,rfl,(az.bg a).2 ra,(az.bg b).2 rb,r⟩
 | .sl t,m,_,_,_=>by
  cases m<;>simp only[az,Mk.bg];constructor
  .rintro⟨a,cap,rfl,hl,r⟩;refine⟨a,cap,rfl,hl,r.imp id ?_⟩;rintro⟨b,cs,rfl,fb,hb,hs,Fs,hF,hd,re⟩;exact⟨b,cs,rfl,fb,hb,hs,Fs,hF,hd,fun i hi=>(az.bg t).1 (re i hi)⟩
  .rintro⟨a,cap,rfl,hl,r⟩;refine⟨a,cap,rfl,hl,r.imp id ?_⟩;rintro⟨b,cs,rfl,fb,hb,hs,Fs,hF,hd,re⟩;exact⟨b,cs,rfl,fb,hb,hs,Fs,hF,hd,fun i hi=>(az.bg t).2 (re i hi)⟩
  rename_i a b;rcases Mk.oG a.bg b.bg with e | e<;>rw[e]<;>simp only[az]
theorem az.share{h:Array Obj}{Pr:BS}:∀(t:Ty){m:Mk}{x:t.den}{c:List Value}{F:BS},m.whole=true->az h Pr t m x c F->
  az h (fun b=>Pr b\/F b) t .no x c Nil
 | .unit,_,_,_,_,_,r=>by simpa only [az] using r
 | .int k,_,_,_,_,_,r=>by simpa only [az] using r
 | .bool,_,_,_,_,_,r=>by simpa only [az] using r
 | .str,_,_,_,_,_,r=>by simpa only [az] using r
 | .pair a b,m,_,_,F,hm,r=>by
  simp only[az]at r⊢;obtain⟨ca,cb,Fa,Fb,rfl,ra,rb,sa,sb,d⟩:=r;have h1:m.fst.whole=true:=by cases m<;>simp_all [Mk.whole,Mk.fst]
  have h2:m.snd.whole=true:=by cases m<;>simp_all [Mk.whole,Mk.snd]
  have e1:=az.share a h1 ra;have e2:=az.share b h2 rb;exact⟨ca,cb,Nil,Nil,rfl,
   az.mono (fun b hb=>hb.imp id (sa b)) (fun _ _=>rfl) a e1 (Sub.refl _) (fun _ _=>rfl),
   az.mono (fun b hb=>hb.imp id (sb b)) (fun _ _=>rfl) b e2 (Sub.refl _) (fun _ _=>rfl),Sub.nil _,Sub.nil _,cB.nil _⟩
 | .sl t,m,xs,_,F,hm,r=>by
  cases m with
  | no=>simp only[az]at r⊢;obtain⟨a,cap,rfl,hl,r⟩:=r;refine⟨a,cap,rfl,hl,fun hne=>?_⟩;obtain⟨b,o,cs,rfl,pb,hb,hs,re⟩:=r hne;exact⟨b,o,cs,rfl,.inl pb,hb,hs,fun i hi=>az.mono (fun b hb=>.inl hb) (fun _ _=>rfl) t (re i hi) (Sub.refl _) (fun _ _=>rfl)⟩
  | gone=>simp[Mk.whole]at hm
  | pr _ _=>simp only[az]at r⊢;obtain⟨a,cap,rfl,hl,r⟩:=r;refine⟨a,cap,rfl,hl,fun hne=>?_⟩;obtain⟨b,o,cs,rfl,pb,hb,hs,re⟩:=r hne;exact⟨b,o,cs,rfl,.inl pb,hb,hs,fun i hi=>az.mono (fun b hb=>.inl hb) (fun _ _=>rfl) t (re i hi) (Sub.refl _) (fun _ _=>rfl)⟩
  | own s mi=>
   simp only[az]at r⊢;obtain⟨a,cap,rfl,hl,r⟩:=r;refine⟨a,cap,rfl,hl,fun hne=>?_⟩;have hpos:0<xs.length:=pF.2 hne;rcases r with r | ⟨b,cs,rfl,fb,hb,hs,Fs,hF,hd,re⟩
   .omega
   .refine⟨b,0,cs,rfl,.inr fb,hb.CO,?_,fun i hi=>?_⟩
    .have:=fu t.width hl;omega
    .have e:=az.share t (by simpa [Mk.whole] using hm) (re i hi);rw[kB];exact az.mono (fun b hb=>hb.imp id ((hF i).1 b)) (fun _ _=>rfl) t e (Sub.refl _) (fun _ _=>rfl)
end
end Go.V
namespace Go.V
noncomputable section
open Go
theorem Mk.sM{w h:Mk}(x:w.aP h=true):w.fst.aP h.fst=true:=by cases w<;>cases h<;>simp_all [Mk.aP,Mk.fst,Mk.whole]
theorem Mk.sN{w h:Mk}(x:w.aP h=true):w.snd.aP h.snd=true:=by cases w<;>cases h<;>simp_all [Mk.aP,Mk.snd,Mk.whole]
theorem Mk.lW:∀b:Mk,b.fo.aP .no=true
 | .no=>rfl
 | .gone=>rfl
 | .own _ m=>by unfold Mk.fo;split<;>rfl
 | .pr a b=>by simp[Mk.fo,Mk.aP,Mk.lW a,Mk.lW b]
theorem Mk.jy:∀b:Mk,b.fo.aP b=true
 | .no=>rfl
 | .gone=>rfl
 | .own _ m=>by unfold Mk.fo;split<;>simp_all [Mk.aP,Mk.whole]
 | .pr a b=>by simp[Mk.fo,Mk.aP,Mk.jy a,Mk.jy b]
theorem Mk.fy:∀a b:Mk,(a.meet b).aP a=true/\(a.meet b).aP b=true
 | .no,b=>⟨by simpa [Mk.meet] using Mk.lW b,by simpa [Mk.meet] using Mk.jy b⟩
 | .gone,_=>⟨rfl,rfl⟩
 | .own _ a,b=>by
  cases b with
  | no=>simp only[Mk.meet];split<;>simp_all [Mk.aP,Mk.whole]
  | gone=>exact⟨rfl,rfl⟩
  | own s b=>have:=Mk.fy a b;simpa [Mk.meet,Mk.aP] using this
  | pr _ _=>exact⟨rfl,rfl⟩
 | .pr a b,c=>by
  cases c with
  | no=>have h1:=Mk.fy a .no;have h2:=Mk.fy b .no;simp[Mk.meet,Mk.aP,h1,h2]
  | gone=>exact⟨rfl,rfl⟩
  | own _ _=>exact⟨rfl,rfl⟩
  | pr c d=>have h1:=Mk.fy a c;have h2:=Mk.fy b d;simp[Mk.meet,Mk.aP,h1,h2]
theorem az.aP{h:Array Obj}{Pr:BS}:∀(t:Ty){w m:Mk}{x:t.den}{c:List Value}{F:BS},w.aP m=true->az h Pr t m x c F->
  ∃F1 F2:BS,Sub F1 F/\Sub F2 F/\cB F1 F2/\az h (fun b=>Pr b\/F2 b) t w x c F1
 | .unit,_,_,_,_,_,_,r=>⟨Nil,Nil,Sub.nil _,Sub.nil _,cB.nil _,by simpa only [az] using r⟩
 | .int k,_,_,_,_,_,_,r=>⟨Nil,Nil,Sub.nil _,Sub.nil _,cB.nil _,by simpa only [az] using r⟩
 | .bool,_,_,_,_,_,_,r=>⟨Nil,Nil,Sub.nil _,Sub.nil _,cB.nil _,by simpa only [az] using r⟩
 | .str,_,_,_,_,_,_,r=>⟨Nil,Nil,Sub.nil _,Sub.nil _,cB.nil _,by simpa only [az] using r⟩
 | .pair a b,w,m,x,c,F,hw,r=>by
  simp only[az]at r;obtain⟨ca,cb,Fa,Fb,rfl,ra,rb,sa,sb,d⟩:=r;obtain⟨A1,A2,s1,s2,dA,rA⟩:=az.aP a (Mk.sM hw) ra;obtain⟨B1,B2,s3,s4,dB,rB⟩:=az.aP b (Mk.sN hw) rb;refine⟨fun b=>A1 b\/B1 b,fun b=>A2 b\/B2 b,?_,?_,?_,?_⟩
  .rintro z (hz | hz)
   .exact sa z (s1 z hz)
   .exact sb z (s3 z hz)
  .rintro z (hz | hz)
   .exact sa z (s2 z hz)
   .exact sb z (s4 z hz)
  .rintro z (hz | hz) (hy | hy)
   .exact dA z hz hy
   .exact d z (s1 z hz) (s4 z hy)
   .exact d z (s2 z hy) (s3 z hz)
   .exact dB z hz hy
  .simp only[az];exact⟨ca,cb,A1,B1,rfl,az.mono (fun z hz=>hz.imp id .inl) (fun _ _=>rfl) a rA (Sub.refl _) (fun _ _=>rfl),
    az.mono (fun z hz=>hz.imp id .inr) (fun _ _=>rfl) b rB (Sub.refl _) (fun _ _=>rfl),fun z hz=>.inl hz,fun z hz=>.inr hz,d.mono s1 s3⟩
 | .sl t,w,m,xs,c,F,hw,r=>by
  cases w with
  | gone=>
   refine⟨Nil,Nil,Sub.nil _,Sub.nil _,cB.nil _,?_⟩;simp only[az];cases m<;>simp only[az]at r
   .obtain⟨a,k,e,_⟩:=r;exact⟨a,_,k,e⟩
   .exact r
   .obtain⟨a,k,e,_⟩:=r;exact⟨a,_,k,e⟩
   .obtain⟨a,k,e,_⟩:=r;exact⟨a,_,k,e⟩
  | no=>
   have hm:m.whole=true:=by cases m<;>simp_all [Mk.aP]
   exact⟨Nil,F,Sub.nil _,Sub.refl _,cB.nil _,az.share (.sl t) hm r⟩
  | pr w1 w2=>
   refine⟨Nil,Nil,Sub.nil _,Sub.nil _,cB.nil _,?_⟩;have r':az h Pr (.sl t) .no xs c F:=by cases m<;>simp_all [Mk.aP]<;>simpa only [az] using r
   have r2:=az.mono (fP:=fun b=>Pr b\/Nil b) (fun z hz=>.inl hz) (fun _ _=>rfl) (.sl t) r' (Sub.refl _) (fun _ _=>rfl);simpa only [az] using r2
  | own s wi=>
   cases m with
   | no=>simp[Mk.aP]at hw
   | gone=>simp[Mk.aP]at hw
   | pr _ _=>simp[Mk.aP]at hw
   | own s' mi=>
    simp only[Mk.aP]at hw;simp only[az]at r;obtain⟨a,cap,rfl,hl,r⟩:=r;rcases r with r | ⟨b,cs,rfl,fb,hb,hs,Fs,hF,hd,re⟩
    .exact⟨Nil,Nil,Sub.nil _,Sub.nil _,cB.nil _,by simp only[az];exact⟨a,cap,rfl,hl,.inl r⟩⟩
    .have key:∀i,∃F1 F2:BS,Sub F1 (Fs i)/\Sub F2 (Fs i)/\cB F1 F2/\
       (i<xs.length->az h (fun b=>Pr b\/F2 b) t wi (xs.getD i t.zero) (sub cs (i * t.width) t.width) F1):=by
      intro i;by_cases hi:i<xs.length
      .obtain⟨F1,F2,s1,s2,dd,rr⟩:=az.aP t hw (re i hi);exact⟨F1,F2,s1,s2,dd,fun _=>rr⟩
      .exact⟨Nil,Nil,Sub.nil _,Sub.nil _,cB.nil _,fun h=>absurd h hi⟩
     obtain⟨F1,key⟩:=sU key;obtain⟨F2,key⟩:=sU key;refine⟨fun z=>z=b\/∃i,F1 i z,fun z=>∃i,F2 i z,?_,?_,?_,?_⟩
     .rintro z (rfl | ⟨i,hz⟩)
      .exact fb
      .exact(hF i).1 z ((key i).1 z hz)
     .rintro z ⟨i,hz⟩;exact(hF i).1 z ((key i).2.1 z hz)
     .rintro z (rfl | ⟨i,hz⟩) ⟨j,hy⟩
      .exact(hF j).2 ((key j).2.1 z hy)
      .by_cases e:i=j
       .subst e;exact(key i).2.2.1 z hz hy
       .exact hd i j e z ((key i).1 z hz) ((key j).2.1 z hy)
     .simp only[az];refine⟨_,cap,rfl,hl,.inr ⟨b,cs,rfl,.inl rfl,hb,hs,F1,fun i=>⟨fun z hz=>.inr ⟨i,hz⟩,fun hz=>(hF i).2 ((key i).1 _ hz)⟩,
       fun i j e=>(hd i j e).mono (key i).1 (key j).1,fun i hi=>?_⟩⟩
      exact az.mono (fun z hz=>hz.imp id fun hz=>⟨i,hz⟩) (fun _ _=>rfl) t ((key i).2.2.2 hi) (Sub.refl _) (fun _ _=>rfl)
def bu:(t:Ty)->t.den->Path->Prop
 | _,_,[]=>True
 | .pair a _,x,.fst::p=>bu a x.1 p
 | .pair _ b,x,.snd::p=>bu b x.2 p
 | .sl t,xs,.idx i _::p=>i<xs.length/\bu t (xs.getD i t.zero) p
 | _,_,_::_=>False
abbrev fK:=Option (Nat×Nat)
def cr(h:Array Obj):(t:Ty)->List Value->fK->Path->Option (fK×List Value)
 | _,c,base,[]=>some (base,c)
 | .pair a _,c,base,.fst::p=>cr h a (c.take a.width) base p
 | .pair a b,c,base,.snd::p=>cr h b (c.drop a.width) (base.map fun x=>(x.1,x.2+a.width)) p
 | .sl t,c,_,.idx i _::p=>
  match c with
  | [.slice (some ⟨b,0,none⟩) _ _]=>
   match h[b]? with
   | some (.cells cs _ _)=>cr h t (sub cs (i * t.width) t.width) (some (b,i * t.width)) p
   | _=>none
  | _=>none
 | _,_,_,_::_=>none
def bT(l:List Value)(o:Nat)(c:List Value):List Value:=l.take o++c++l.drop (o+c.length)
theorem Dx{l:List Value}{o:Nat}{c:List Value}(h:o+c.length<=l.length):(bT l o c).length=l.length:=by simp[bT];omega
theorem aco{l:List Value}{o:Nat}{c:List Value}(h:o+c.length<=l.length):((bT l o c).drop o).take c.length=c:=by
 have:(l.take o).length=o:=by simp;omega
 simp only[bT,eI];rw[B5 (by omega),vG (by omega)];simp
theorem GO{l:List Value}{o:Nat}{c:List Value}(h:o+c.length<=l.length){o' n:Nat}(hd:o'+n<=o\/o+c.length<=o') :
  ((bT l o c).drop o').take n=(l.drop o').take n:=by
 apply rI;intro i;simp only[gm,iE];split
 .rename_i hi;simp only[bT];by_cases h1:o'+i<o
  .rw[eI,kz (by simp;omega),gm];simp[h1]
  .have h2:o+c.length<=o'+i:=by omega
   rw[mc (by simp;omega),iE];congr 1;simp;omega
 .rfl
def yS(h:Array Obj)(base:fK)(c:List Value)(F:BS):Prop:=
 ∀b o,base=some (b,o)->¬ F b/\∃cs,jz h b cs/\o+c.length<=cs.size/\sub cs o c.length=c
def zj(h h2:Array Obj)(base:fK)(c2:List Value):Prop:=
 ∀b o,base=some (b,o)->∀cs,jz h b cs->∃gC:Array Value,jz h2 b gC/\gC.toList=bT cs.toList o c2
def eF:Ty->Path->Nat
 | .pair a _,.fst::p=>eF a p
 | .pair a b,.snd::p=>a.width+eF b p
 | _,_=>0
end
end Go.V
namespace Go.V
noncomputable section
open Go
structure aA where
 Pr:BS
 C:Nat->List Value
 B:Nat->Option Nat
 G:Nat->BS
 hd:Nat->Value
 L:BS
 P0:BS
def aA.cR(g' g:aA):Prop:=g'.hd=g.hd/\g'.L=g.L/\g'.P0=g.P0
theorem aA.cR.refl(g:aA):g.cR g:=⟨rfl,rfl,rfl⟩
theorem aA.cR.trans{a b c:aA}(h:b.cR a)(k:c.cR b):c.cR a:=⟨k.1.trans h.1,k.2.1.trans h.2.1,k.2.2.trans h.2.2⟩
def aM(hd:Nat->Value):Ty->Mk->List Value->Prop
 | .pair a b,m,c=>aM hd a m.fst (c.take a.width)/\aM hd b m.snd (c.drop a.width)
 | .sl _,.own s mi,c=>(1048576<=s->c=[hd s])/\mi.ax=true
 | _,_,_=>True
def aA.base(g:aA)(r:Nat):fK:=(g.B r).map fun b=>(b,0)
def dL(t:Ty)(c:List Value):Value:=if t.agg then .agg c.toArray else c.headD undef
theorem az.slice{h:Array Obj}{Pr:BS}{t:Ty}{m:Mk}{x:(Ty.sl t).den}{c:List Value}{F:BS}(r:az h Pr (.sl t) m x c F):∃a n k,c=[.slice a n k]:=by
 cases m<;>simp only[az]at r
 .obtain⟨a,k,e,_⟩:=r;exact⟨a,_,k,e⟩
 .exact r
 .obtain⟨a,k,e,_⟩:=r;exact⟨a,_,k,e⟩
 .obtain⟨a,k,e,_⟩:=r;exact⟨a,_,k,e⟩
theorem Cp{h:Array Obj}{Pr:BS}{t:Ty}{m:Mk}{x:t.den}{c:List Value}{F:BS}(r:az h Pr t m x c F):(dL t c).cells.toList=c:=by
 cases t with
 | unit=>simp only[az]at r;subst r;simp[dL,Ty.agg,Value.cells]
 | int k=>simp only[az]at r;subst r;simp[dL,Ty.agg,Value.cells]
 | bool=>simp only[az]at r;subst r;simp[dL,Ty.agg,Value.cells]
 | str=>simp only[az]at r;subst r;simp[dL,Ty.agg,Value.cells]
 | pair a b=>simp[dL,Ty.agg,Value.cells]
 | sl t=>obtain⟨a,n,k,rfl⟩:=az.slice r;simp[dL,Ty.agg,Value.cells]
theorem akP{h h':Array Obj}{Pr fP:BS}{t:Ty}{m m':Mk}{x x':t.den}{c c':List Value}{F F':BS}
  (r:az h Pr t m x c F) (r':az h' fP t m' x' c' F') (e:dL t c=dL t c'):c=c':=by
 rw[<-Cp r,<-Cp r',e]
section rel
variable (h:Array Obj) (S:St) (g:aA)
def qN(r:Nat)(p:Path)(s:Nat)(v:Value):Prop:=
 ∀R,S.root r=some R->∀t m xs,focus R.ty R.ms R.x p=some ⟨.sl t,.own s m,xs⟩->
  bu R.ty R.x p/\∃base,cr h R.ty (g.C r) (g.base r) p=some (base,[v])
def BA(r:Nat)(p:Path)(s lo hi:Nat)(v:Value):Prop:=
 ∀R,S.root r=some R->∀t m xs,focus R.ty R.ms R.x p=some ⟨.sl t,.own s m,xs⟩->
  bu R.ty R.x p/\∃base a n k,cr h R.ty (g.C r) (g.base r) p=some (base,[.slice a n k])/\lo<=hi/\hi<=n/\
   v=.slice (if k=lo then a else a.map (·.add (lo * t.width))) (hi-lo) (k-lo)
def ux(r:Nat)(p:Path)(v:Value):Prop:=
 ∀R,S.root r=some R->∀d,focus R.ty R.ms R.x p=some d->
  bu R.ty R.x p/\∃b o c,cr h R.ty (g.C r) (g.base r) p=some (some (b,o),c)/\v=.pointer (some ⟨b,o,none⟩)
def yK(t:Ty)(x:t.den)(v:Value):Prop:=
 ∃b o cs,v=.pointer (some ⟨b,o,none⟩)/\g.Pr b/\sV h b cs/\o+t.width<=cs.size/\az h g.Pr t .no x (Go.V.sub cs o t.width) Nil
def sk:bL->Value->Prop
 | .val t x,v=>∃c,az h g.Pr t .no x c Nil/\v=dL t c
 | .cm t x,v=>yK h g t x v
def nT:List bL->List Value->Prop
 | [],vs=>vs=[]
 | c::l,vs=>∃v vs',vs=v::vs'/\sk h g c v/\nT l vs'
def dh:AV->List Value->Prop
 | .undef,_=>True
 | .unit,c=>c=[]
 | .val t x,c=>az h g.Pr t .no x c Nil
 | .b9 r p s,c=>∃v,c=[v]/\qN h S g r p s v
 | .pair a b,c=>∃ca cb,c=ca++cb/\dh a ca/\dh b cb
 | _,_=>False
mutual
def qe:AV->Value->Prop
 | .undef,_=>True
 | .skip,v=>v=Go.undef
 | .cG b,v=>v=.bool b
 | .unit,v=>v=.agg #[]
 | .fm,v=>v=.slice none 0 0
 | .val t x,v=>∃c,az h g.Pr t .no x c Nil/\v=dL t c
 | .b9 r p s,v=>qN h S g r p s v
 | .view r p s lo hi,v=>BA h S g r p s lo hi v
 | .addr r p,v=>ux h S g r p v
 | .cj t x,v=>yK h g t x v
 | .pair a b,v=>∃ca cb,v=.agg (ca++cb).toArray/\dh h S g a ca/\dh h S g b cb
 | .jJ a,v=>∃vs,v=.tuple vs.toArray/\aN a vs
 | .gH f c,v=>∃vs,v=.func (.func f) #[] vs.toArray/\aN c vs
 | .eA c,v=>∃vs,v=.func (.func c.f) #[] vs.toArray/\nT h g c.caps vs
def aN:AV->List Value->Prop
 | .unit,vs=>vs=[]
 | .pair a b,vs=>∃v vs',vs=v::vs'/\qe a v/\aN b vs'
 | _,_=>False
end
structure aE (tmps:Array Value) (H:BS):Prop where
 len:S.sl.length=tmps.size
 gy:S.rt.length=tmps.size
 slots:∀t,qe h S g (S.get t) (tmps.getD t Go.undef)
 roots:∀r R,S.root r=some R->∃F,az h g.Pr R.ty R.ms R.x (g.C r) F/\Sub F (g.G r)/\(∀b,g.B r=some b->¬ F b)/\
  (R.mem=true->∃b,g.B r=some b/\g.G r b/\jz h b (g.C r).toArray)/\(R.mem=false->g.B r=none)
 d5:∀r r',r≠r'->(S.root r).isSome->(S.root r').isSome->cB (g.G r) (g.G r')
 er:∀r,(S.root r).isSome->cB (g.G r) g.Pr
 hand:∀r,(S.root r).isSome->cB (g.G r) H
 bM:cB H g.Pr
 bQ:∀b,g.Pr b->b<h.size
 cg:∀r b,(S.root r).isSome->g.G r b->b<h.size
 ep:∀b,H b->b<h.size
 tag:∀r R,S.root r=some R->aM g.hd R.ty R.ms (g.C r)
 own:∀r b,(S.root r).isSome->g.G r b->g.L b
 fc:∀b,H b->g.L b
 fY:∀b,h.size<=b->g.L b
 p0:Sub g.P0 g.Pr
 kZ:∀b,g.Pr b->g.P0 b\/g.L b
end rel
section keep
variable (h h':Array Obj) (S S':St) (g g':aA)
def tK(r:Nat)(p:Path):Prop:=
 ∀R',S'.root r=some R'->∀d',focus R'.ty R'.ms R'.x p=some d'->
  ∃R d,S.root r=some R/\focus R.ty R.ms R.x p=some d/\(bu R.ty R.x p->bu R'.ty R'.x p/\
   ∀base c,cr h R.ty (g.C r) (g.base r) p=some (base,c)->∃c',cr h' R'.ty (g'.C r) (g'.base r) p=some (base,c'))
def qV(r:Nat)(p:Path)(s:Nat):Prop:=
 ∀R',S'.root r=some R'->∀t m xs,focus R'.ty R'.ms R'.x p=some ⟨.sl t,.own s m,xs⟩->
  ∃R m0 Jb,S.root r=some R/\focus R.ty R.ms R.x p=some ⟨.sl t,.own s m0,Jb⟩/\(bu R.ty R.x p->bu R'.ty R'.x p/\
   ∀base c,cr h R.ty (g.C r) (g.base r) p=some (base,c)->cr h' R'.ty (g'.C r) (g'.base r) p=some (base,c))
def AV.dw:AV->Prop
 | .b9 r p s=>qV h h' S S' g g' r p s
 | .view r p s _ _=>qV h h' S S' g g' r p s
 | .addr r p=>tK h h' S S' g g' r p
 | .pair a b=>a.dw/\b.dw
 | .jJ a=>a.dw
 | .gH _ a=>a.dw
 | _=>True
variable {h h' S S' g g'}
theorem qN.keep{r:Nat}{p:Path}{s:Nat}{v:Value}(x:qN h S g r p s v)(k:qV h h' S S' g g' r p s):qN h' S' g' r p s v:=by intro R' ck t m xs hf;obtain⟨R,m0,Jb,hR,Ai,hr⟩:=k R' ck t m xs hf;obtain⟨h1,base,h2⟩:=x R hR t m0 Jb Ai;exact⟨(hr h1).1,base,(hr h1).2 _ _ h2⟩
theorem BA.keep{r:Nat}{p:Path}{s lo hi:Nat}{v:Value}(x:BA h S g r p s lo hi v)(k:qV h h' S S' g g' r p s):BA h' S' g' r p s lo hi v:=by intro R' ck t m xs hf;obtain⟨R,m0,Jb,hR,Ai,hr⟩:=k R' ck t m xs hf;obtain⟨h1,base,a,n,k,h2,h3⟩:=x R hR t m0 Jb Ai;exact⟨(hr h1).1,base,a,n,k,(hr h1).2 _ _ h2,h3⟩
theorem ux.keep{r:Nat}{p:Path}{v:Value}(x:ux h S g r p v)(k:tK h h' S S' g g' r p):ux h' S' g' r p v:=by intro R' ck d hf;obtain⟨R,d0,hR,Ai,hr⟩:=k R' ck d hf;obtain⟨h1,b,o,c,h2,h3⟩:=x R hR d0 Ai;obtain⟨c',h4⟩:=(hr h1).2 _ _ h2;exact⟨(hr h1).1,b,o,c',h4,h3⟩
theorem yK.keep(hp:Sub g.Pr g'.Pr)(hk:∀b,g.Pr b->h'[b]? = h[b]?){t:Ty}{x:t.den}{v:Value}(y:yK h g t x v):yK h' g' t x v:=by obtain⟨b,o,cs,e,pb,hb,hs,r⟩:=y;exact⟨b,o,cs,e,hp b pb,hb.congr (hk b pb),hs,az.mono hp hk t r (Sub.refl _) (fun _ h=>h.elim)⟩
theorem sk.keep(hp:Sub g.Pr g'.Pr)(hk:∀b,g.Pr b->h'[b]? = h[b]?){c:bL}{v:Value}(y:sk h g c v):sk h' g' c v:=by
 cases c with
 | val t x=>obtain⟨c,r,e⟩:=y;exact⟨c,az.mono hp hk t r (Sub.refl _) (fun _ h=>h.elim),e⟩
 | cm t x=>exact yK.keep hp hk y
theorem nT.keep(hp:Sub g.Pr g'.Pr)(hk:∀b,g.Pr b->h'[b]? = h[b]?):∀{l:List bL}{vs:List Value},nT h g l vs->nT h' g' l vs
 | [],_,y=>y
 | c::l,_,y=>by
  obtain⟨v,vs',e,h1,h2⟩:=y;exact⟨v,vs',e,sk.keep hp hk h1,nT.keep hp hk h2⟩
theorem dh.keep(hp:Sub g.Pr g'.Pr)(hk:∀b,g.Pr b->h'[b]? = h[b]?):∀{a:AV}{c:List Value},dh h S g a c->a.dw h h' S S' g g'->dh h' S' g' a c
 | .undef,_,_,_=>trivial
 | .unit,_,y,_=>y
 | .val t x,_,y,_=>az.mono hp hk t y (Sub.refl _) (fun _ h=>h.elim)
 | .b9 r p s,_,y,k=>by obtain⟨v,e,y⟩:=y;exact⟨v,e,y.keep k⟩
 | .pair a b,_,y,k=>by
  obtain⟨ca,cb,e,y1,y2⟩:=y;exact⟨ca,cb,e,dh.keep hp hk y1 k.1,dh.keep hp hk y2 k.2⟩
 | .skip,_,y,_=>y.elim
 | .cG _,_,y,_=>y.elim
 | .fm,_,y,_=>y.elim
 | .view _ _ _ _ _,_,y,_=>y.elim
 | .addr _ _,_,y,_=>y.elim
 | .cj _ _,_,y,_=>y.elim
 | .jJ _,_,y,_=>y.elim
 | .gH _ _,_,y,_=>y.elim
 | .eA _,_,y,_=>y.elim
theorem qe.keep(hp:Sub g.Pr g'.Pr)(hk:∀b,g.Pr b->h'[b]? = h[b]?):∀(a:AV),(∀v,qe h S g a v->a.dw h h' S S' g g'->qe h' S' g' a v)/\
  (∀vs,aN h S g a vs->a.dw h h' S S' g g'->aN h' S' g' a vs):=by
 intro a
 induction a with
 | undef=>exact⟨fun _ _ _=>by simp only[qe],fun _ y _=>by simp only[aN]at y⟩
 | skip=>exact⟨fun _ y _=>by simpa only [qe] using y,fun _ y _=>by simp only[aN]at y⟩
 | cG b=>exact⟨fun _ y _=>by simpa only [qe] using y,fun _ y _=>by simp only[aN]at y⟩
 | unit=>exact⟨fun _ y _=>by simpa only [qe] using y,fun _ y _=>by simpa only [aN] using y⟩
 | fm=>exact⟨fun _ y _=>by simpa only [qe] using y,fun _ y _=>by simp only[aN]at y⟩
 | val t x=>refine⟨fun v y _=>?_,fun _ y _=>by simp only[aN]at y⟩;simp only[qe]at y⊢;obtain⟨c,r,e⟩:=y;exact⟨c,az.mono hp hk t r (Sub.refl _) (fun _ h=>h.elim),e⟩
 | b9 r p s=>exact⟨fun v y k=>by simp only[qe]at y⊢;exact y.keep k,fun _ y _=>by simp only[aN]at y⟩
 | view r p s lo hi=>exact⟨fun v y k=>by simp only[qe]at y⊢;exact y.keep k,fun _ y _=>by simp only[aN]at y⟩
 | addr r p=>exact⟨fun v y k=>by simp only[qe]at y⊢;exact y.keep k,fun _ y _=>by simp only[aN]at y⟩
 | cj t x=>exact⟨fun v y k=>by simp only[qe]at y⊢;exact yK.keep hp hk y,fun _ y _=>by simp only[aN]at y⟩
 | pair a b fU kS=>
  refine⟨fun v y k=>?_,fun vs y k=>?_⟩
  .simp only[qe]at y⊢;obtain⟨ca,cb,e,y1,y2⟩:=y;exact⟨ca,cb,e,dh.keep hp hk y1 k.1,dh.keep hp hk y2 k.2⟩
  .simp only[aN]at y⊢;obtain⟨v,vs',e,y1,y2⟩:=y;exact⟨v,vs',e,fU.1 v y1 k.1,kS.2 vs' y2 k.2⟩
 | jJ a fU=>refine⟨fun v y k=>?_,fun _ y _=>by simp only[aN]at y⟩;simp only[qe]at y⊢;obtain⟨vs,e,y⟩:=y;exact⟨vs,e,fU.2 vs y k⟩
 | gH f a fU=>refine⟨fun v y k=>?_,fun _ y _=>by simp only[aN]at y⟩;simp only[qe]at y⊢;obtain⟨vs,e,y⟩:=y;exact⟨vs,e,fU.2 vs y k⟩
 | eA c=>refine⟨fun v y k=>?_,fun _ y _=>by simp only[aN]at y⟩;simp only[qe]at y⊢;obtain⟨vs,e,y⟩:=y;exact⟨vs,e,nT.keep hp hk y⟩
end keep
theorem IQ{h h':Array Obj}{Pr:BS}:∀(p:Path){t:Ty}{m:Mk}{x:t.den}{c:List Value}{F:BS}(base:fK){d:Dy},
  az h Pr t m x c F->focus t m x p=some d->bu t x p->(∀b,F b->h'[b]? = h[b]?)->cr h' t c base p=cr h t c base p
 | [],t,m,x,c,F,base,d,_,_,_,_=>by cases t<;>rfl
 | .fst::p,t,m,x,c,F,base,d,r,hf,hr,hk=>by
  cases t with
  | pair a b=>simp only[focus]at hf;simp only[bu]at hr;simp only[az]at r;obtain⟨ca,cb,Fa,Fb,rfl,ra,rb,sa,sb,dd⟩:=r;simp only[cr];rw[<-az.width a ra,jq rfl];exact IQ p base ra hf hr fun b hb=>hk b (sa b hb)
  | _=>simp[focus]at hf
 | .snd::p,t,m,x,c,F,base,d,r,hf,hr,hk=>by
  cases t with
  | pair a b=>simp only[focus]at hf;simp only[bu]at hr;simp only[az]at r;obtain⟨ca,cb,Fa,Fb,rfl,ra,rb,sa,sb,dd⟩:=r;simp only[cr];rw[<-az.width a ra,i5 rfl];exact IQ p _ rb hf hr fun b hb=>hk b (sb b hb)
  | _=>simp[focus]at hf
 | .idx i s'::p,t,m,xs,c,F,base,d,r,hf,hr,hk=>by
  cases t with
  | sl e=>
   cases m with
   | own s mi=>
    simp only[focus]at hf;by_cases hs:s=s'
    .simp only[hs,aX]at hf;simp only[bu]at hr;obtain⟨hi,hr⟩:=hr;simp only[az]at r;obtain⟨a,cap,rfl,hl,r⟩:=r;rcases r with r | ⟨b1,cs,rfl,fb,bP,hsz,Fs,hF,lH,re⟩
     .omega
     simp only[cr];rw[hk b1 fb];obtain⟨ty,lo,hi',he,_⟩:=bP;simp only[he];exact IQ p _ (re i hi) hf hr fun b hb=>hk b ((hF i).1 b hb)
    .simp[hs]at hf
   | _=>simp[focus]at hf
  | _=>simp[focus]at hf
end
end Go.V
namespace Go.V
noncomputable section
open Go
def q8:Ty->Mk->Path->Option (Ty×Mk)
 | t,m,[]=>some (t,m)
 | .pair a _,m,.fst::p=>q8 a m.fst p
 | .pair _ b,m,.snd::p=>q8 b m.snd p
 | .sl t,.own s m,.idx _ s'::p=>if s=s' then q8 t m p else none
 | _,_,_::_=>none
theorem ve:∀(p:Path){t:Ty}{m:Mk}{x:t.den}{d:Dy},focus t m x p=some d->q8 t m p=some (d.ty,d.ms)
 | [],t,m,x,d,h=>by simp only[focus,aK]at h;subst h;cases t<;>rfl
 | .fst::p,t,m,x,d,h=>by
  cases t with
  | pair a b=>simp only[focus]at h;simp only[q8];exact ve p h
  | _=>simp[focus]at h
 | .snd::p,t,m,x,d,h=>by
  cases t with
  | pair a b=>simp only[focus]at h;simp only[q8];exact ve p h
  | _=>simp[focus]at h
 | .idx i s'::p,t,m,x,d,h=>by
  cases t with
  | sl e=>
   cases m with
   | own s mi=>
    simp only[focus]at h;simp only[q8];split at h
    .rename_i hs;simp only[hs,aX];exact ve p h
    .simp at h
   | _=>simp[focus]at h
  | _=>simp[focus]at h
theorem zO:∀(p:Path){t:Ty}{m:Mk}(x:t.den){t':Ty}{m':Mk},q8 t m p=some (t',m')->∃y,focus t m x p=some ⟨t',m',y⟩
 | [],t,m,x,t',m',h=>by
  have:q8 t m []=some (t,m):=by cases t<;>rfl
  rw[this]at h;simp only[aK,aY]at h;obtain⟨rfl,rfl⟩:=h;exact⟨x,by simp[focus]⟩
 | .fst::p,t,m,x,t',m',h=>by
  cases t with
  | pair a b=>simp only[q8]at h;simp only[focus];exact zO p x.1 h
  | _=>simp[q8]at h
 | .snd::p,t,m,x,t',m',h=>by
  cases t with
  | pair a b=>simp only[q8]at h;simp only[focus];exact zO p x.2 h
  | _=>simp[q8]at h
 | .idx i s'::p,t,m,x,t',m',h=>by
  cases t with
  | sl e=>
   cases m with
   | own s mi=>
    simp only[q8]at h;simp only[focus];split at h
    .rename_i hs;simp only[hs,aX];exact zO p _ h
    .simp at h
   | _=>simp[q8]at h
  | _=>simp[q8]at h
def Mk.le:(less more:Mk)->Prop
 | .gone,_=>True
 | .no,m=>m=.no
 | .own s a,m=>∃b,m=.own s b/\a.le b
 | .pr a b,m=>∃c d,m=.pr c d/\a.le c/\b.le d
theorem Mk.le_refl:∀m:Mk,m.le m
 | .no=>rfl
 | .gone=>trivial
 | .own s m=>⟨m,rfl,m.le_refl⟩
 | .pr a b=>⟨a,b,rfl,a.le_refl,b.le_refl⟩
theorem Mk.le_trans:∀{a b c:Mk},a.le b->b.le c->a.le c
 | .gone,_,_,_,_=>trivial
 | .no,b,c,h,h'=>by simp only[Mk.le]at h;subst h;exact h'
 | .own s a,b,c,h,h'=>by
  obtain⟨b',rfl,h⟩:=h;obtain⟨c',rfl,h'⟩:=h';exact⟨c',rfl,Mk.le_trans h h'⟩
 | .pr a1 a2,b,c,h,h'=>by
  obtain⟨b1,b2,rfl,h1,h2⟩:=h;obtain⟨c1,c2,rfl,h3,h4⟩:=h';exact⟨c1,c2,rfl,Mk.le_trans h1 h3,Mk.le_trans h2 h4⟩
def Mk.nE(lo hi:Nat)(m:Mk):Mk->Prop
 | .own s b=>(lo<=s/\s<hi)\/∃a,m=.own s a/\Mk.nE lo hi a b
 | .pr c d=>Mk.nE lo hi m.fst c/\Mk.nE lo hi m.snd d
 | _=>True
theorem Mk.CK{lo hi:Nat}{m n:Mk}(h:m.nE lo hi n):m.fst.nE lo hi n.fst:=by
 cases n with
 | no=>trivial
 | gone=>trivial
 | own s b=>trivial
 | pr c d=>exact h.1
theorem Mk.CL{lo hi:Nat}{m n:Mk}(h:m.nE lo hi n):m.snd.nE lo hi n.snd:=by
 cases n with
 | no=>trivial
 | gone=>trivial
 | own s b=>trivial
 | pr c d=>exact h.2
theorem Mk.fO(lo hi:Nat):∀m:Mk,m.nE lo hi m
 | .no=>trivial
 | .gone=>trivial
 | .own s m=>.inr ⟨m,rfl,m.fO lo hi⟩
 | .pr a b=>⟨a.fO lo hi,b.fO lo hi⟩
theorem Mk.kq{lo hi:Nat}:∀{m b:Mk},m.nE lo hi b->m.nE lo hi b.fo
 | m,.no,_=>trivial
 | m,.gone,_=>trivial
 | m,.own s b,_=>by unfold Mk.fo;split<;>trivial
 | m,.pr c d,h=>⟨Mk.kq h.1,Mk.kq h.2⟩
theorem Mk.iq{lo hi:Nat}:∀(a:Mk)(m:Mk),m.nE lo hi (a.meet .no)
 | .no,m=>trivial
 | .gone,m=>trivial
 | .own s a,m=>by simp only[Mk.meet];split<;>trivial
 | .pr a b,m=>⟨Mk.iq a _,Mk.iq b _⟩
theorem Mk.gR{lo hi:Nat}:∀{a m b:Mk},m.nE lo hi b->m.nE lo hi (a.meet b)
 | .no,m,b,h=>by simpa [Mk.meet] using Mk.kq h
 | .gone,m,b,h=>trivial
 | .own s a,m,b,h=>by
  cases b with
  | no=>simp only[Mk.meet];split<;>trivial
  | gone=>trivial
  | pr _ _=>trivial
  | own s' b=>
   simp only[Mk.meet];rcases h with h | ⟨a',rfl,h⟩
   .exact .inl h
   .exact .inr ⟨a',rfl,Mk.gR h⟩
 | .pr a1 a2,m,b,h=>by
  cases b with
  | no=>exact⟨Mk.iq a1 _,Mk.iq a2 _⟩
  | gone=>trivial
  | own s' b=>trivial
  | pr b1 b2=>exact⟨Mk.gR h.1,Mk.gR h.2⟩
def Mk.fresh(lo hi:Nat):Mk->Prop
 | .own s m=>lo<=s/\s<hi
 | .pr a b=>a.fresh lo hi/\b.fresh lo hi
 | _=>True
theorem Mk.eP{lo hi:Nat}:∀{n:Mk}(m:Mk),n.fresh lo hi->m.nE lo hi n
 | .no,m,_=>trivial
 | .gone,m,_=>trivial
 | .own s b,m,h=>.inl h
 | .pr c d,m,h=>⟨Mk.eP _ h.1,Mk.eP _ h.2⟩
theorem Bs{lo hi:Nat}:∀(q:Path){t:Ty}{m:Mk}{x:t.den}{t2:Ty}{m2:Mk}{y:t2.den}{m':Mk}{x':t.den},
  put t m x q t2 m2 y=some (m',x')->m2.fresh lo hi->m.nE lo hi m'
 | [],t,m,x,t2,m2,y,m',x',h,hm=>by
  simp only[put]at h;cases hc:qbv t2 t y with
  | none=>rw[hc]at h;simp at h
  | some z=>rw[hc]at h;simp only[dG,aK,aY]at h;rw[<-h.1];exact Mk.eP _ hm
 | .fst::q,t,m,x,t2,m2,y,m',x',h,hm=>by
  cases t with
  | pair a b=>
   simp only[put]at h;cases hq:put a m.fst x.1 q t2 m2 y with
   | none=>rw[hq]at h;simp at h
   | some r=>rw[hq]at h;simp only[dG,aK,aY]at h;rw[<-h.1];exact⟨Bs q hq hm,Mk.fO _ _ _⟩
  | _=>simp[put]at h
 | .snd::q,t,m,x,t2,m2,y,m',x',h,hm=>by
  cases t with
  | pair a b=>
   simp only[put]at h;cases hq:put b m.snd x.2 q t2 m2 y with
   | none=>rw[hq]at h;simp at h
   | some r=>rw[hq]at h;simp only[dG,aK,aY]at h;rw[<-h.1];exact⟨Mk.fO _ _ _,Bs q hq hm⟩
  | _=>simp[put]at h
 | .idx i s'::q,t,m,x,t2,m2,y,m',x',h,hm=>by
  cases t with
  | sl e=>
   cases m with
   | own s mi=>
    simp only[put]at h;split at h
    .rename_i hs;cases hq:put e mi (x.getD i e.zero) q t2 m2 y with
     | none=>rw[hq]at h;simp at h
     | some r=>rw[hq]at h;simp only[dG,aK,aY]at h;rw[<-h.1];exact .inr ⟨mi,rfl,Mk.gR (Bs q hq hm)⟩
    .simp at h
   | _=>simp[put]at h
  | _=>simp[put]at h
theorem Cm{lo hi:Nat}:∀(p:Path){t:Ty}{m n:Mk}{t':Ty}{n':Mk},m.nE lo hi n->jH lo hi p=true->q8 t n p=some (t',n')->
  ∃m',q8 t m p=some (t',m')/\m'.nE lo hi n'
 | [],t,m,n,t',n',h,_,hf=>by
  have e:∀m,q8 t m []=some (t,m):=fun m=>by cases t<;>rfl
  rw[e]at hf;simp only[aK,aY]at hf;obtain⟨rfl,rfl⟩:=hf;exact⟨m,e m,h⟩
 | .fst::p,t,m,n,t',n',h,hp,hf=>by
  cases t with
  | pair t1 t2=>simp only[q8]at hf⊢;exact Cm p (Mk.CK h) (by simpa [jH] using hp) hf
  | _=>simp[q8]at hf
 | .snd::p,t,m,n,t',n',h,hp,hf=>by
  cases t with
  | pair t1 t2=>simp only[q8]at hf⊢;exact Cm p (Mk.CL h) (by simpa [jH] using hp) hf
  | _=>simp[q8]at hf
 | .idx i s'::p,t,m,n,t',n',h,hp,hf=>by
  cases t with
  | sl e=>
   cases n with
   | own s b=>
    simp only[q8]at hf;split at hf
    .rename_i hs;subst hs;simp only[jH,bI,kA,oh]at hp;rcases h with h | ⟨a,rfl,h⟩
     .exfalso;rcases hp.1 with h1 | h1
      .have:Nat.ble lo s=true:=rD h.1;rw[this]at h1;simp at h1
      .have:Nat.blt s hi=true:=rD h.2;rw[this]at h1;simp at h1
     .simp only[q8,aX];exact Cm p h hp.2 hf
    .simp at hf
   | _=>simp[q8]at hf
  | _=>simp[q8]at hf
end
end Go.V
namespace Go.V
noncomputable section
open Go
abbrev Un(F G:BS):BS:=fun b=>F b\/G b
theorem q5p{a b c:List Value}{o:Nat}(h:o+c.length<=a.length):bT (a++b) o c=bT a o c++b:=by simp only[bT];rw[pn (by omega),B5 (by omega)];simp
theorem Zt{a b c:List Value}{o:Nat}:bT (a++b) (a.length+o) c=a++bT b o c:=by simp only[bT];rw[List.take_append,jT (by omega),Ga,vG (by omega)];simp[Nat.add_sub_cancel_left,Gj]
theorem AX{a c:List Value}(h:c.length=a.length):bT a 0 c=c:=by simp[bT,h]
theorem Np{cs:Array Value}{o:Nat}{a b:List Value}(h:sub cs o (a++b).length=a++b) :
  sub cs o a.length=a/\sub cs (o+a.length) b.length=b:=by
 simp only[sub,cT]at h⊢;constructor
 .have:=ew (List.take a.length) h;rw[uK]at this;simpa [Gb (Nat.le_add_right _ _)] using this
 .have:=ew (List.drop a.length) h;rw[yo,qR]at this;simpa using this
theorem jz.uniq{h:Array Obj}{b:Nat}{cs cs':Array Value}(x:jz h b cs)(y:jz h b cs'):cs=cs':=by obtain⟨e,lo,hi,he,_⟩:=x;obtain⟨e',lo',hi',he',_⟩:=y;rw[he]at he';simp at he';exact he'.1
theorem Cl:∀p:Path,jH 0 0 p=true
 | []=>rfl
 | .fst::p=>Cl p
 | .snd::p=>Cl p
 | .idx i s::p=>by
  have:Nat.blt s 0=false:=rfl;simp[jH,this,Cl p]
theorem Nu{lo hi s:Nat}(h:lo<=s/\s<hi):(!(Nat.ble lo s&&Nat.blt s hi))=false:=by have e1:Nat.ble lo s=true:=rD h.1;have e2:Nat.blt s hi=true:=rD h.2;simp[e1,e2]
theorem Dr{lo hi:Nat}:∀(p:Path){t:Ty}{m:Mk}{t':Ty}{m':Mk},m.fresh lo hi->jH lo hi p=true->q8 t m p=some (t',m')->
  qx p=false/\m'.fresh lo hi
 | [],t,m,t',m',h,_,hf=>by
  have e:∀m,q8 t m []=some (t,m):=fun m=>by cases t<;>rfl
  rw[e]at hf;simp only[aK,aY]at hf;exact⟨rfl,hf.2 ▸ h⟩
 | .fst::p,t,m,t',m',h,hp,hf=>by
  cases t with
  | pair a b=>
   simp only[q8]at hf;have:m.fst.fresh lo hi:=by cases m<;>first | exact h.1 | trivial
   exact Dr p this (by simpa [jH] using hp) hf
  | _=>simp[q8]at hf
 | .snd::p,t,m,t',m',h,hp,hf=>by
  cases t with
  | pair a b=>
   simp only[q8]at hf;have:m.snd.fresh lo hi:=by cases m<;>first | exact h.2 | trivial
   exact Dr p this (by simpa [jH] using hp) hf
  | _=>simp[q8]at hf
 | .idx i s'::p,t,m,t',m',h,hp,hf=>by
  cases t with
  | sl e=>
   cases m with
   | own s mi=>
    simp only[q8]at hf;split at hf
    .rename_i hs;subst hs;simp only[jH,bI]at hp;rw[Nu h]at hp;simp at hp
    .simp at hf
   | _=>simp[q8]at hf
  | _=>simp[q8]at hf
theorem zQ:∀(p:Path){t:Ty}{m:Mk}{t':Ty}{m':Mk}(x:t.den),qx p=false->q8 t m p=some (t',m')->bu t x p
 | [],t,_,_,_,x,_,_=>by cases t<;>trivial
 | .fst::p,t,m,t',m',x,hp,hf=>by
  cases t with
  | pair a b=>simp only[q8]at hf;simp only[bu];exact zQ p x.1 hp hf
  | _=>simp[q8]at hf
 | .snd::p,t,m,t',m',x,hp,hf=>by
  cases t with
  | pair a b=>simp only[q8]at hf;simp only[bu];exact zQ p x.2 hp hf
  | _=>simp[q8]at hf
 | .idx i s::p,_,_,_,_,_,hp,_=>by simp[qx]at hp
theorem IT{h h':Array Obj}:∀(p:Path){t:Ty}(c c':List Value)(base:fK){bp:fK}{cp:List Value},qx p=false->cr h t c base p=some (bp,cp)->
  ∃iR,cr h' t c' base p=some (bp,iR)
 | [],t,c,c',base,bp,cp,_,ha=>by
  have e:∀h c,cr h t c base []=some (base,c):=fun h c=>by cases t<;>rfl
  rw[e]at ha;simp only[aK,aY]at ha;exact⟨c',by rw[e,ha.1]⟩
 | .fst::p,t,c,c',base,bp,cp,hp,ha=>by
  cases t with
  | pair a b=>simp only[cr]at ha⊢;exact IT p _ _ base hp ha
  | _=>simp[cr]at ha
 | .snd::p,t,c,c',base,bp,cp,hp,ha=>by
  cases t with
  | pair a b=>simp only[cr]at ha⊢;exact IT p _ _ _ hp ha
  | _=>simp[cr]at ha
 | .idx i s::p,_,_,_,_,_,_,hp,_=>by simp[qx]at hp
theorem abl{w i n o:Nat}{l l2 c2:List Value}(ht:l2=bT l (i * w+o) c2)(hfit:i * w+w<=l.length)(ho:o+c2.length<=w) :
  ((l2.drop (i * w)).take w=bT ((l.drop (i * w)).take w) o c2)/\∀j,j≠i->(l2.drop (j * w)).take w=(l.drop (j * w)).take w:=by
 subst ht;have hf:i * w+o+c2.length<=l.length:=by omega
 constructor
 .apply rI;intro k;simp only[bT,gm,iE];by_cases hk':k<w
  .simp only[hk',aX];by_cases UD:k<o
   .rw[eI,kz (by simp;omega),eI,kz (by simp;omega)];simp only[gm,iE];rw[aj (by omega),aj (by omega),aj (by omega)]
   .by_cases hk2:k<o+c2.length
    .rw[eI,mc (by simp;omega),kz (by simp;omega),eI,
      mc (by simp;omega),kz (by simp;omega)]
     congr 1;simp;omega
    .rw[mc (by simp;omega),mc (by simp;omega)];simp only[iE,gm];simp only[cT,eR,yj];rw[aj (by omega)];congr 1;omega
  .simp only[hk',dZ];rw[pz (by simp;omega)]
 .intro j hj;apply GO hf;rcases Nat.lt_or_gt_of_ne hj with h1 | h1
  .left;have:=fu w (show j+1<=i by omega);rw[jD,yw]at this;omega
  .right;have:=fu w (show i+1<=j by omega);rw[jD,yw]at this;omega
structure Zip (h:Array Obj) (Pr:BS) (p:Path) (t:Ty) (m:Mk) (x:t.den) (c:List Value) (F:BS) (base:fK) (d:Dy) (base':fK) (c':List Value) (F' Fr:BS):Prop where
 at_:cr h t c base p=some (base',c')
 rep:az h Pr d.ty d.ms d.x c' F'
 ok:yS h base' c' F'
 sub:Sub F' F
 fr:Sub Fr F
 d5:cB F' Fr
 home:∀b o,base'=some (b,o)->Fr b\/∃o0,base=some (b,o0)
 idx:qx p=true->∃b o,base'=some (b,o)/\Fr b
 plain:qx p=false->base'=base.map (fun z=>(z.1,z.2+eF t p))/\c'=(c.drop (eF t p)).take d.ty.width/\eF t p+d.ty.width<=c.length
 vC:∀(h2:Array Obj)(gh:BS)(m2:Mk)(y:d.ty.den)(c2:List Value)(F2:BS)(m':Mk)(x':t.den),
  Sub Pr gh->(∀b,Pr b->h2[b]? = h[b]?)->(∀b,Fr b->(∀o,base'≠some (b,o))->h2[b]? = h[b]?)->zj h h2 base' c2->
  az h2 gh d.ty m2 y c2 F2->cB F2 Fr->put t m x p d.ty m2 y=some (m',x')->
  ∃F3 D3:BS,Sub F3 (Un Fr F2)/\Sub D3 (Un Fr F2)/\cB F3 D3/\az h2 (Un gh D3) t m' x' (if qx p then c else bT c (eF t p) c2) F3
 paths:∀(lo hi:Nat)(h2:Array Obj)(m2:Mk)(y:d.ty.den)(c2:List Value)(m':Mk)(x':t.den),
  (∀b,Fr b->(∀o,base'≠some (b,o))->h2[b]? = h[b]?)->zj h h2 base' c2->c2.length=d.ty.width->put t m x p d.ty m2 y=some (m',x')->d.ms.nE lo hi m2->
  (∀p' t1 n1,jH lo hi p'=true->q8 d.ty m2 p'=some (t1,n1)->bu d.ty d.x p'->bu d.ty y p'/\∀bp cp,cr h d.ty c' base' p'=some (bp,cp)->
   ∃iR,cr h2 d.ty c2 base' p'=some (bp,iR)/\(∀s a,n1=.own s a->¬ (lo<=s/\s<hi)->iR=cp))->
  m.nE lo hi m'/\∀p' t1 n1,jH lo hi p'=true->q8 t m' p'=some (t1,n1)->bu t x p'->bu t x' p'/\∀bp cp,cr h t c base p'=some (bp,cp)->
   ∃iR,cr h2 t (if qx p then c else bT c (eF t p) c2) base p'=some (bp,iR)/\(∀s a,n1=.own s a->¬ (lo<=s/\s<hi)->iR=cp)
theorem T6(t:Ty)(x:t.den):qbv t t x=some x:=by simp[qbv]
theorem zip{h:Array Obj}{Pr:BS}:∀(p:Path)(t:Ty)(m:Mk)(x:t.den)(c:List Value)(F:BS)(base:fK)(d:Dy),
  az h Pr t m x c F->focus t m x p=some d->bu t x p->yS h base c F->
  ∃base' c' F' Fr,Zip h Pr p t m x c F base d base' c' F' Fr
 | [],t,m,x,c,F,base,d,r,hf,_,hb=>by
  simp only[focus,aK]at hf;subst hf;refine⟨base,c,F,Nil,by cases t<;>rfl,r,hb,Sub.refl _,Sub.nil _,fun _ _ h=>h.elim,fun b o e=>.inr ⟨o,e⟩,by simp[qx],?_,?_,?_⟩
  .intro _;refine⟨by cases base<;>simp[eF],?_,?_⟩
   .simp[eF,<-az.width t r]
   .simp[eF,az.width t r]
  .intro h2 gh m2 y c2 F2 m' x' hp _ _ _ r2 _ hput;have e0:eF t []=0:=by cases t<;>rfl
   simp only[put,T6,dG,aK,aY]at hput;obtain⟨rfl,rfl⟩:=hput;refine⟨F2,Nil,fun b hb=>.inr hb,Sub.nil _,fun _ _ h=>h.elim,?_⟩;simp only[qx,fh,dZ,e0];rw[AX (by rw[az.width t r2,az.width t r])];exact az.mono (fun b hb=>.inl hb) (fun _ _=>rfl) t r2 (Sub.refl _) (fun _ _=>rfl)
  .intro lo hi h2 m2 y c2 m' x' _ _ hc hput tv hbase;have e0:eF t []=0:=by cases t<;>rfl
   simp only[put,T6,dG,aK,aY]at hput;obtain⟨rfl,rfl⟩:=hput;refine⟨tv,?_⟩;simp only[qx,fh,dZ,e0];rw[AX (by rw[hc,az.width t r])];exact hbase
 | .fst::p,t,m,x,c,F,base,d,r,hf,hr,hb=>by
  cases t with
  | pair a b=>
   simp only[focus]at hf;simp only[bu]at hr;simp only[az]at r;obtain⟨ca,cb,Fa,Fb,rfl,ra,rb,sa,sb,dd⟩:=r;have wa:=az.width a ra;have hba:yS h base ca Fa:=by intro b' o e;obtain⟨h1,cs,h2,h3,h4⟩:=hb b' o e;exact⟨fun hz=>h1 (sa _ hz),cs,h2,by simp at h3;omega,(Np h4).1⟩
   obtain⟨base',c',F',Fr,z⟩:=zip p a m.fst x.1 ca Fa base d ra hf hr hba;refine⟨base',c',F',Un Fr Fb,?_,z.rep,z.ok,z.sub.trans sa,?_,?_,?_,?_,?_,?_,?_⟩
   .simp only[cr];rw[<-wa,jq rfl];exact z.at_
   .rintro y (hy | hy)
    .exact sa y (z.fr y hy)
    .exact sb y hy
   .rintro y hy (hz | hz)
    .exact z.d5 y hy hz
    .exact dd y (z.sub y hy) hz
   .intro b' o e;exact(z.home b' o e).imp .inl id
   .intro e;obtain⟨b',o,e1,e2⟩:=z.idx (by simpa [qx] using e);exact⟨b',o,e1,.inl e2⟩
   .intro e;obtain⟨e1,e2,e3⟩:=z.plain (by simpa [qx] using e);refine⟨by simpa [eF] using e1,?_,by simp[eF];omega⟩;rw[e2];simp only[eF];rw[B5 (by omega),pn (by simp;omega)]
   .intro h2 gh m2 y c2 F2 m' x' hp hpk hk hu r2 hd hput;simp only[put]at hput;cases hq:put a m.fst x.1 p d.ty m2 y with
    | none=>simp[hq]at hput
    | some q=>
     simp only[hq,dG,aK,aY]at hput;obtain⟨rfl,rfl⟩:=hput;obtain⟨F3,D3,s3,sd,d3,r3⟩:=z.vC h2 gh m2 y c2 F2 q.1 q.2 hp hpk (fun b' hb' hn=>hk b' (.inl hb') hn) hu r2 (hd.mono (Sub.refl _) fun b hb=>.inl hb) hq;refine⟨Un F3 Fb,D3,?_,?_,?_,?_⟩
     .rintro b' (hz | hz)
      .rcases s3 b' hz with hz | hz
       .exact .inl (.inl hz)
       .exact .inr hz
      .exact .inl (.inr hz)
     .intro b' hz;rcases sd b' hz with hz | hz
      .exact .inl (.inl hz)
      .exact .inr hz
     .rintro b' (hz | hz) hy
      .exact d3 b' hz hy
      .rcases sd b' hy with hy | hy
       .exact dd b' (z.fr b' hy) hz
       .exact hd b' hy (.inr hz)
     .have W3:∀b',Fb b'->h2[b']? = h[b']?:=by
       intro b' hb';refine hk b' (.inr hb') fun o e=>?_;rcases z.home b' o e with h1 | ⟨o0,h1⟩
       .exact dd b' (z.fr b' h1) hb'
       .exact(hb b' o0 h1).1 (sb b' hb')
      have rb':=az.mono (fP:=Un gh D3) (fun b' hz=>.inl (hp b' hz)) hpk b rb (Sub.refl _) W3;have g9:c2.length=d.ty.width:=az.width d.ty r2;simp only[az];refine⟨if qx p then ca else bT ca (eF a p) c2,cb,F3,Fb,?_,r3,rb',fun _ h=>.inl h,fun _ h=>.inr h,?_⟩
      .simp only[qx];by_cases hi:qx p=true
       .simp[hi]
       .have hi':qx p=false:=by simpa using hi
        have:=(z.plain hi').2.2;simp only[hi',fh,dZ,eF];rw[q5p (by omega)]
      .intro b' hz hy;rcases s3 b' hz with hz | hz
       .exact dd b' (z.fr b' hz) hy
       .exact hd b' hz (.inr hy)
   .intro lo hi h2 m2 y c2 m' x' hk hu hc hput tv hbase;simp only[put]at hput;cases hq:put a m.fst x.1 p d.ty m2 y with
    | none=>rw[hq]at hput;simp at hput
    | some rr=>
     rw[hq]at hput;simp only[dG,aK,aY]at hput;obtain⟨rfl,rfl⟩:=hput;obtain⟨um,ia⟩:=z.paths lo hi h2 m2 y c2 rr.1 rr.2 (fun b' hb' hn=>hk b' (.inl hb') hn) hu hc hq tv hbase;have hnew:(if qx (.fst::p) then ca++cb else bT (ca++cb) (eF (.pair a b) (.fst::p)) c2)=(if qx p then ca else bT ca (eF a p) c2)++cb:=by
      simp only[qx,eF];by_cases hi':qx p=true
      .simp[hi']
      .have m8:qx p=false:=by simpa using hi'
       have:=(z.plain m8).2.2;simp only[m8,fh,dZ];rw[q5p (by omega)]
     have hlen:(if qx p then ca else bT ca (eF a p) c2).length=a.width:=by
      by_cases hi':qx p=true
      .simp[hi',wa]
      .have m8:qx p=false:=by simpa using hi'
       have:=(z.plain m8).2.2;simp only[m8,fh,dZ];rw[Dx (by omega),wa]
     refine⟨⟨um,Mk.fO _ _ _⟩,?_⟩;rw[hnew];intro p' t1 n1 hp m7 hin;cases p' with
     | nil=>refine⟨trivial,fun bp cp hap=>?_⟩;simp only[cr,aK,aY]at hap⊢;simp only[q8,aK,aY]at m7;refine⟨_,⟨hap.1,rfl⟩,fun s a' e _=>?_⟩;rw[<-m7.2]at e;simp at e
     | cons p0 p'=>
      cases p0 with
      | fst=>simp only[q8]at m7;simp only[bu]at hin⊢;obtain⟨h1,h3⟩:=ia p' t1 n1 (by simpa [jH] using hp) m7 hin;refine⟨h1,fun bp cp hap=>?_⟩;simp only[cr]at hap⊢;rw[<-wa,jq rfl]at hap;rw[<-hlen,jq rfl];exact h3 bp cp hap
      | snd=>
       simp only[q8]at m7;simp only[bu]at hin⊢;refine⟨hin,fun bp cp hap=>?_⟩;simp only[cr]at hap⊢;rw[<-wa,i5 rfl]at hap;rw[<-hlen,i5 rfl,hlen];obtain⟨y',hy'⟩:=zO p' x.2 m7;have wP:=IQ (h':=h2) p' (base.map fun z=>(z.1,z.2+a.width)) rb hy' hin (fun b' hb'=>by
        refine hk b' (.inr hb') fun o e=>?_;rcases z.home b' o e with h1 | ⟨o0,h1⟩
        .exact dd b' (z.fr b' h1) hb'
        .exact(hb b' o0 h1).1 (sb b' hb'))
       rw[wP];rw[wa]at hap;exact⟨cp,hap,fun _ _ _ _=>rfl⟩
      | idx i s=>simp[q8]at m7
  | _=>simp[focus]at hf
 | .snd::p,t,m,x,c,F,base,d,r,hf,hr,hb=>by
  cases t with
  | pair a b=>
   simp only[focus]at hf;simp only[bu]at hr;simp only[az]at r;obtain⟨ca,cb,Fa,Fb,rfl,ra,rb,sa,sb,dd⟩:=r;have wa:=az.width a ra;have hbb:yS h (base.map fun z=>(z.1,z.2+a.width)) cb Fb:=by intro b' o e;simp only[fq]at e;obtain⟨⟨b0,o0⟩,e,e'⟩:=e;simp only[aY]at e';obtain⟨rfl,rfl⟩:=e';obtain⟨h1,cs,h2,h3,h4⟩:=hb b0 o0 e;exact⟨fun hz=>h1 (sb _ hz),cs,h2,by simp at h3;omega,by rw[<-wa];exact(Np h4).2⟩
   obtain⟨base',c',F',Fr,z⟩:=zip p b m.snd x.2 cb Fb _ d rb hf hr hbb;refine⟨base',c',F',Un Fr Fa,?_,z.rep,z.ok,z.sub.trans sb,?_,?_,?_,?_,?_,?_,?_⟩
   .simp only[cr];rw[<-wa,i5 rfl,wa];exact z.at_
   .rintro y (hy | hy)
    .exact sb y (z.fr y hy)
    .exact sa y hy
   .rintro y hy (hz | hz)
    .exact z.d5 y hy hz
    .exact dd y hz (z.sub y hy)
   .intro b' o e;rcases z.home b' o e with h1 | ⟨o0,h1⟩
    .exact .inl (.inl h1)
    .simp only[fq]at h1;obtain⟨⟨b0,o1⟩,h1,h2⟩:=h1;simp only[aY]at h2;exact .inr ⟨o1,by rw[h1,<-h2.1]⟩
   .intro e;obtain⟨b',o,e1,e2⟩:=z.idx (by simpa [qx] using e);exact⟨b',o,e1,.inl e2⟩
   .intro e;obtain⟨e1,e2,e3⟩:=z.plain (by simpa [qx] using e);refine⟨?_,?_,by simp[eF];omega⟩
    .rw[e1];cases base<;>simp[eF,Gj]
    .rw[e2];simp only[eF];rw[show List.drop (a.width+eF b p) (ca++cb)=List.drop (eF b p) cb from by rw[<-qR,<-wa,i5 rfl]]
   .intro h2 gh m2 y c2 F2 m' x' hp hpk hk hu r2 hd hput;simp only[put]at hput;cases hq:put b m.snd x.2 p d.ty m2 y with
    | none=>simp[hq]at hput
    | some q=>
     simp only[hq,dG,aK,aY]at hput;obtain⟨rfl,rfl⟩:=hput;obtain⟨F3,D3,s3,sd,d3,r3⟩:=z.vC h2 gh m2 y c2 F2 q.1 q.2 hp hpk (fun b' hb' hn=>hk b' (.inl hb') hn) hu r2 (hd.mono (Sub.refl _) fun b hb=>.inl hb) hq;refine⟨Un F3 Fa,D3,?_,?_,?_,?_⟩
     .rintro b' (hz | hz)
      .rcases s3 b' hz with hz | hz
       .exact .inl (.inl hz)
       .exact .inr hz
      .exact .inl (.inr hz)
     .intro b' hz;rcases sd b' hz with hz | hz
      .exact .inl (.inl hz)
      .exact .inr hz
     .rintro b' (hz | hz) hy
      .exact d3 b' hz hy
      .rcases sd b' hy with hy | hy
       .exact dd b' hz (z.fr b' hy)
       .exact hd b' hy (.inr hz)
     .have W1:∀b',Fa b'->h2[b']? = h[b']?:=by
       intro b' hb';refine hk b' (.inr hb') fun o e=>?_;rcases z.home b' o e with h1 | ⟨o0,h1⟩
       .exact dd b' hb' (z.fr b' h1)
       .simp only[fq]at h1;obtain⟨⟨b0,o1⟩,h1,h2⟩:=h1;simp only[aY]at h2;obtain⟨rfl,_⟩:=h2;exact(hb b0 o1 h1).1 (sa b0 hb')
      have ra':=az.mono (fP:=Un gh D3) (fun b' hz=>.inl (hp b' hz)) hpk a ra (Sub.refl _) W1;have g9:c2.length=d.ty.width:=az.width d.ty r2;simp only[az];refine⟨ca,if qx p then cb else bT cb (eF b p) c2,Fa,F3,?_,ra',r3,fun _ h=>.inr h,fun _ h=>.inl h,?_⟩
      .simp only[qx];by_cases hi:qx p=true
       .simp[hi]
       .have hi':qx p=false:=by simpa using hi
        simp only[hi',fh,dZ,eF];rw[<-wa,Zt]
      .intro b' hy hz;rcases s3 b' hz with hz | hz
       .exact dd b' hy (z.fr b' hz)
       .exact hd b' hz (.inr hy)
   .intro lo hi h2 m2 y c2 m' x' hk hu hc hput tv hbase;simp only[put]at hput;cases hq:put b m.snd x.2 p d.ty m2 y with
    | none=>rw[hq]at hput;simp at hput
    | some rr=>
     rw[hq]at hput;simp only[dG,aK,aY]at hput;obtain⟨rfl,rfl⟩:=hput;obtain⟨um,ia⟩:=z.paths lo hi h2 m2 y c2 rr.1 rr.2 (fun b' hb' hn=>hk b' (.inl hb') hn) hu hc hq tv hbase;have hnew:(if qx (.snd::p) then ca++cb else bT (ca++cb) (eF (.pair a b) (.snd::p)) c2)=ca++(if qx p then cb else bT cb (eF b p) c2):=by
      simp only[qx,eF];by_cases hi':qx p=true
      .simp[hi']
      .have m8:qx p=false:=by simpa using hi'
       simp only[m8,fh,dZ];rw[<-wa,Zt]
     refine⟨⟨Mk.fO _ _ _,um⟩,?_⟩;rw[hnew];intro p' t1 n1 hp m7 hin;cases p' with
     | nil=>refine⟨trivial,fun bp cp hap=>?_⟩;simp only[cr,aK,aY]at hap⊢;simp only[q8,aK,aY]at m7;refine⟨_,⟨hap.1,rfl⟩,fun s a' e _=>?_⟩;rw[<-m7.2]at e;simp at e
     | cons p0 p'=>
      cases p0 with
      | snd=>simp only[q8]at m7;simp only[bu]at hin⊢;obtain⟨h1,h3⟩:=ia p' t1 n1 (by simpa [jH] using hp) m7 hin;refine⟨h1,fun bp cp hap=>?_⟩;simp only[cr]at hap⊢;rw[<-wa,i5 rfl,wa]at hap;rw[<-wa,i5 rfl,wa];exact h3 bp cp hap
      | fst=>
       simp only[q8]at m7;simp only[bu]at hin⊢;refine⟨hin,fun bp cp hap=>?_⟩;simp only[cr]at hap⊢;rw[<-wa,jq rfl]at hap;rw[<-wa,jq rfl];obtain⟨y',hy'⟩:=zO p' x.1 m7;have wP:=IQ (h':=h2) p' base ra hy' hin (fun b' hb'=>by
        refine hk b' (.inr hb') fun o e=>?_;rcases z.home b' o e with h1 | ⟨o0,h1⟩
        .exact dd b' hb' (z.fr b' h1)
        .simp only[fq]at h1;obtain⟨⟨b0,o1⟩,h1,h2⟩:=h1;simp only[aY]at h2;obtain⟨rfl,_⟩:=h2;exact(hb b0 o1 h1).1 (sa b0 hb'))
       rw[wP];exact⟨cp,hap,fun _ _ _ _=>rfl⟩
      | idx i s=>simp[q8]at m7
  | _=>simp[focus]at hf
 | .idx i s'::p,t,m,xs,c,F,base,d,r,hf,hr,hb=>by
  cases t with
  | sl e=>
   cases m with
   | own s mi=>
    simp only[focus]at hf;by_cases hs:s=s'
    .simp only[hs,aX]at hf;simp only[bu]at hr;obtain⟨hi,hr⟩:=hr;simp only[az]at r;obtain⟨a,cap,rfl,hl,r⟩:=r;rcases r with r | ⟨b1,cs,rfl,fb,bP,hsz,Fs,hF,lH,re⟩
     .omega
     have ri:=re i hi;have wi:=az.width e ri;have hle:i * e.width+e.width<=cs.size:=by have:=fu e.width (show i+1<=cap by omega);rw[jD,yw]at this;omega
     have Uy:yS h (some (b1,i * e.width)) (sub cs (i * e.width) e.width) (Fs i):=by intro b' o e';simp only[aK,aY]at e';obtain⟨rfl,rfl⟩:=e';refine⟨(hF i).2,cs,bP,by rw[wi];exact hle,?_⟩;rw[wi]
     obtain⟨base',c',F',Fr,z⟩:=zip p e mi (xs.getD i e.zero) _ (Fs i) (some (b1,i * e.width)) d ri hf hr Uy;refine⟨base',c',F',fun b=>b=b1\/Fr b\/∃j,j≠i/\Fs j b,?_,z.rep,z.ok,z.sub.trans (hF i).1,?_,?_,?_,?_,by simp[qx],?_,?_⟩
     .simp only[cr];obtain⟨ty,lo,hi',he,_⟩:=bP;simp only[he];exact z.at_
     .rintro b' (rfl | hz | ⟨j,_,hz⟩)
      .exact fb
      .exact(hF i).1 b' (z.fr b' hz)
      .exact(hF j).1 b' hz
     .rintro b' hy (rfl | hz | ⟨j,hj,hz⟩)
      .exact(hF i).2 (z.sub _ hy)
      .exact z.d5 b' hy hz
      .exact lH j i hj b' hz (z.sub b' hy)
     .intro b' o e';rcases z.home b' o e' with h1 | ⟨o0,h1⟩
      .exact .inl (.inr (.inl h1))
      .simp only[aK,aY]at h1;exact .inl (.inl h1.1.symm)
     .intro _;by_cases hp:qx p=true
      .obtain⟨b',o,e1,e2⟩:=z.idx hp;exact⟨b',o,e1,.inr (.inl e2)⟩
      .have UJ:qx p=false:=by simpa using hp
       have:=(z.plain UJ).1;simp only[d_]at this;exact⟨b1,_,this,.inl rfl⟩
     .intro h2 gh m2 y c2 F2 m' x' hp hpk hk hu r2 hd hput;simp only[put,hs,aX]at hput;cases hq:put e mi (xs.getD i e.zero) p d.ty m2 y with
      | none=>rw[hq]at hput;simp at hput
      | some q=>
       rw[hq]at hput;simp only[dG,aK,aY]at hput;obtain⟨rfl,rfl⟩:=hput;obtain⟨F3,D3,s3,sd,d3,r3⟩:=z.vC h2 gh m2 y c2 F2 q.1 q.2 hp hpk (fun b' hb' hn=>hk b' (.inr (.inl hb')) hn) hu r2
        (hd.mono (Sub.refl _) fun b hb=>.inr (.inl hb)) hq
       have g9:c2.length=d.ty.width:=az.width d.ty r2
       -- zb block behind it
       have r6:∃gC:Array Value,jz h2 b1 gC/\gC.size=cs.size/\
         sub gC (i * e.width) e.width=(if qx p then sub cs (i * e.width) e.width else bT (sub cs (i * e.width) e.width) (eF e p) c2)/\
         ∀j,j≠i->sub gC (j * e.width) e.width=sub cs (j * e.width) e.width:=by
        by_cases hi':qx p=true
        .obtain⟨b',o,e1,e2⟩:=z.idx hi';refine⟨cs,bP.congr (hk b1 (.inl rfl) fun o' e'=>?_),rfl,by simp[hi'],fun _ _=>rfl⟩;rw[e1]at e';simp only[aK,aY]at e';obtain⟨rfl,_⟩:=e';exact(hF i).2 (z.fr _ e2)
        .have m8:qx p=false:=by simpa using hi'
         obtain⟨e1,e2,e3⟩:=z.plain m8;rw[wi]at e3;simp only[d_]at e1;obtain⟨gC,nZ,ht⟩:=hu b1 _ e1 cs bP;have hfit:i * e.width+eF e p+c2.length<=cs.toList.length:=by simp;omega
         refine⟨gC,nZ,?_,?_,fun j hj=>?_⟩
         .have:=ew List.length ht;rw[Dx hfit]at this;simpa using this
         .simp only[m8,fh,dZ];simp only[sub];rw[ht];apply rI;intro k;simp only[bT,gm,iE];by_cases hk':k<e.width
          .simp only[hk',aX];by_cases UD:k<eF e p
           .rw[eI,kz (by simp;omega),eI,kz (by simp;omega)];simp only[gm,iE];rw[aj (by omega),aj (by omega),aj (by omega)]
           .by_cases hk2:k<eF e p+c2.length
            .rw[eI,mc (by simp;omega),kz (by simp;omega),eI,
              mc (by simp;omega),kz (by simp;omega)]
             congr 1;simp;omega
            .rw[mc (by simp;omega),mc (by simp;omega)];simp only[iE,gm];simp only[cT,eR,yj];rw[aj (by omega)];have e5:cs.toList.length=cs.size:=by simp
             congr 1;omega
          .simp only[hk',dZ];rw[pz (by simp;omega)]
         .simp only[sub];rw[ht];apply GO hfit;rcases Nat.lt_or_gt_of_ne hj with h1 | h1
          .left;have:=fu e.width (show j+1<=i by omega);rw[jD,yw]at this;omega
          .right;have:=fu e.width (show i+1<=j by omega);rw[jD,yw]at this;omega
       obtain⟨gC,nZ,se,hsi,hsj⟩:=r6;have hmb:=Mk.fy mi q.1
       -- zb others
       have Xt:∀j,j≠i->∀b',Fs j b'->h2[b']? = h[b']?:=by
        intro j hj b' hb';refine hk b' (.inr (.inr ⟨j,hj,hb'⟩)) fun o e'=>?_;rcases z.home b' o e' with h1 | ⟨o0,h1⟩
        .exact lH j i hj b' hb' (z.fr b' h1)
        .simp only[aK,aY]at h1;obtain⟨rfl,_⟩:=h1;exact(hF j).2 hb'
       have key:∀j,∃G1 G2:BS,Sub G1 (if j=i then F3 else Fs j)/\Sub G2 (if j=i then F3 else Fs j)/\cB G1 G2/\
         (j<xs.length->az h2 (Un (Un gh D3) G2) e (mi.meet q.1) ((xs.set i q.2).getD j e.zero) (sub gC (j * e.width) e.width) G1):=by
        intro j;by_cases hj:j=i
        .subst hj;obtain⟨G1,G2,s1,s2,dd,rr⟩:=az.aP e hmb.2 r3;refine⟨G1,G2,by simpa using s1,by simpa using s2,dd,fun _=>?_⟩;rw[hsi];have:(xs.set j q.2).getD j e.zero=q.2:=by simp[List.getD,jV,hi]
         rw[this];exact rr
        .by_cases hjl:j<xs.length
         .have rj:=az.mono (fP:=Un gh D3) (fun b' hz=>.inl (hp b' hz)) hpk e (re j hjl) (Sub.refl _) (Xt j hj);obtain⟨G1,G2,s1,s2,dd,rr⟩:=az.aP e hmb.1 rj;refine⟨G1,G2,by simpa [hj] using s1,by simpa [hj] using s2,dd,fun _=>?_⟩;rw[hsj j hj];have:(xs.set i q.2).getD j e.zero=xs.getD j e.zero:=by simp[List.getD,jV,Ne.symm hj]
          rw[this];exact rr
         .exact⟨Nil,Nil,Sub.nil _,Sub.nil _,cB.nil _,fun h=>absurd h hjl⟩
       obtain⟨G1,key⟩:=sU key;obtain⟨G2,key⟩:=sU key;have hG:∀j b',(if j=i then F3 else Fs j) b'->(j=i/\(Fr b'\/F2 b'))\/(j≠i/\Fs j b'):=by
        intro j b' hb';by_cases hj:j=i
        .simp only[hj,aX]at hb';exact .inl ⟨hj,s3 b' hb'⟩
        .simp only[hj,dZ]at hb';exact .inr ⟨hj,hb'⟩
       have CS:∀j k b',j≠k->(if j=i then F3 else Fs j) b'->(if k=i then F3 else Fs k) b'->False:=by
        intro j k b' oB h1 s8;rcases hG j b' h1 with⟨e1,h1⟩ | ⟨e1,h1⟩<;>rcases hG k b' s8 with⟨e2,h3⟩ | ⟨e2,h3⟩
        .exact oB (e1.trans e2.symm)
        .rcases h1 with h1 | h1
         .exact lH k i e2 b' h3 (z.fr b' h1)
         .exact hd b' h1 (.inr (.inr ⟨k,e2,h3⟩))
        .rcases h3 with h3 | h3
         .exact lH j i e1 b' h1 (z.fr b' h3)
         .exact hd b' h3 (.inr (.inr ⟨j,e1,h1⟩))
        .exact lH j k oB b' h1 h3
       have KD:∀j,¬ (if j=i then F3 else Fs j) b1:=by
        intro j h1;rcases hG j b1 h1 with⟨e1,h1 | h1⟩ | ⟨e1,h1⟩
        .exact(hF i).2 (z.fr b1 h1)
        .exact hd b1 h1 (.inl rfl)
        .exact(hF j).2 h1
       refine⟨fun b=>b=b1\/∃j,G1 j b,fun b=>D3 b\/∃j,G2 j b,?_,?_,?_,?_⟩
       .rintro b' (rfl | ⟨j,hj⟩)
        .exact .inl (.inl rfl)
        .rcases hG j b' ((key j).1 b' hj) with⟨_,h1 | h1⟩ | ⟨e1,h1⟩
         .exact .inl (.inr (.inl h1))
         .exact .inr h1
         .exact .inl (.inr (.inr ⟨j,e1,h1⟩))
       .rintro b' (hz | ⟨j,hj⟩)
        .rcases sd b' hz with h1 | h1
         .exact .inl (.inr (.inl h1))
         .exact .inr h1
        .rcases hG j b' ((key j).2.1 b' hj) with⟨_,h1 | h1⟩ | ⟨e1,h1⟩
         .exact .inl (.inr (.inl h1))
         .exact .inr h1
         .exact .inl (.inr (.inr ⟨j,e1,h1⟩))
       .rintro b' (rfl | ⟨j,hj⟩) (hz | ⟨k,hk'⟩)
        .rcases sd _ hz with h1 | h1
         .exact(hF i).2 (z.fr _ h1)
         .exact hd _ h1 (.inl rfl)
        .exact KD k ((key k).2.1 _ hk')
        .have h1:=(key j).1 b' hj;by_cases e1:j=i
         .simp only[e1,aX]at h1;exact d3 b' h1 hz
         .simp only[e1,dZ]at h1;rcases sd b' hz with s8 | s8
          .exact lH j i e1 b' h1 (z.fr b' s8)
          .exact hd b' s8 (.inr (.inr ⟨j,e1,h1⟩))
        .by_cases e1:j=k
         .subst e1;exact(key j).2.2.1 b' hj hk'
         .exact CS j k b' e1 ((key j).1 b' hj) ((key k).2.1 b' hk')
       .simp only[qx,aX,az];refine⟨_,cap,by simp,by simpa using hl,.inr ⟨b1,gC,rfl,.inl rfl,nZ,by omega,G1,fun j=>⟨fun b' hb'=>.inr ⟨j,hb'⟩,fun h1=>KD j ((key j).1 b1 h1)⟩,
         fun j k oB b' h1 s8=>CS j k b' oB ((key j).1 b' h1) ((key k).1 b' s8),fun j hj=>?_⟩⟩
        have hj':j<xs.length:=by simpa using hj
        refine az.mono (fun b' hb'=>?_) (fun _ _=>rfl) e ((key j).2.2.2 hj') (Sub.refl _) (fun _ _=>rfl);rcases hb' with(hb' | hb') | hb'
        .exact .inl hb'
        .exact .inr (.inl hb')
        .exact .inr (.inr ⟨j,hb'⟩)
     .intro lo hi h2 m2 y c2 m' x' hk hu hc hput tv hbase;subst hs;simp only[put,aX]at hput;cases hq:put e mi (xs.getD i e.zero) p d.ty m2 y with
      | none=>rw[hq]at hput;simp at hput
      | some rr=>
       rw[hq]at hput;simp only[dG,aK,aY]at hput;obtain⟨rfl,rfl⟩:=hput;obtain⟨um,ia⟩:=z.paths lo hi h2 m2 y c2 rr.1 rr.2 (fun b' hb' hn=>hk b' (.inr (.inl hb')) hn) hu hc hq tv hbase;simp only[qx,aX];have r6:∃gC:Array Value,sV h2 b1 gC/\
         sub gC (i * e.width) e.width=(if qx p then sub cs (i * e.width) e.width else bT (sub cs (i * e.width) e.width) (eF e p) c2)/\
         ∀j,j≠i->sub gC (j * e.width) e.width=sub cs (j * e.width) e.width:=by
        by_cases hi2:qx p=true
        .obtain⟨b',o,e1,e2⟩:=z.idx hi2;refine⟨cs,bP.CO.congr (hk b1 (.inl rfl) fun o' e'=>?_),by simp[hi2],fun _ _=>rfl⟩;rw[e1]at e';simp only[aK,aY]at e';obtain⟨rfl,_⟩:=e';exact(hF i).2 (z.fr _ e2)
        .have hi3:qx p=false:=by simpa using hi2
         obtain⟨e1,e2,e3⟩:=z.plain hi3;rw[wi]at e3;simp only[d_]at e1;obtain⟨gC,nZ,ht⟩:=hu b1 _ e1 cs bP;have Jj:=abl (n:=0) ht (by simpa using hle) (by omega);exact⟨gC,nZ.CO,by simp only[hi3,fh,dZ,sub];exact Jj.1,fun j hj=>by simp only[sub];exact Jj.2 j hj⟩
       obtain⟨gC,⟨ty2,Ut,nZ⟩,hsi,hsj⟩:=r6;refine⟨.inr ⟨mi,rfl,Mk.gR um⟩,?_⟩;intro p' t1 n1 hp m7 hin;cases p' with
       | nil=>refine⟨trivial,fun bp cp hap=>?_⟩;simp only[cr,aK,aY]at hap⊢;exact⟨_,⟨hap.1,rfl⟩,fun _ _ _ _=>hap.2⟩
       | cons p0 p'=>
        cases p0 with
        | fst=>simp[q8]at m7
        | snd=>simp[q8]at m7
        | idx j s1=>
         simp only[q8]at m7;split at m7
         .rename_i tj;subst tj;simp only[jH,bI]at hp;simp only[bu]at hin⊢;obtain⟨hj,hin⟩:=hin;have ej:∀(bp:fK)(cp:List Value),cr h (.sl e) [.slice (some ⟨b1,0,none⟩) xs.length cap] base (.idx j s::p')=some (bp,cp)->
            cr h e (sub cs (j * e.width) e.width) (some (b1,j * e.width)) p'=some (bp,cp):=by
           intro bp cp hap;simp only[cr]at hap;obtain⟨ty,lo',m8,he,_⟩:=bP;simp only[he]at hap;exact hap
          have KC:∀(bp:fK)(cp:List Value),cr h2 e (sub gC (j * e.width) e.width) (some (b1,j * e.width)) p'=some (bp,cp)->
            cr h2 (.sl e) [.slice (some ⟨b1,0,none⟩) xs.length cap] base (.idx j s::p')=some (bp,cp):=by
           intro bp cp hap;simp only[cr,nZ];exact hap
          by_cases hji:j=i
          .subst hji;have hx':(xs.set j rr.2).getD j e.zero=rr.2:=by simp[List.getD,jV,hj]
           have XO:rr.1.nE 0 0 (mi.meet rr.1):=Mk.gR (Mk.fO 0 0 rr.1);obtain⟨n2,uc,hn2⟩:=Cm p' XO (Cl p') m7;obtain⟨h1,h3⟩:=ia p' t1 n2 hp.2 uc hin;refine⟨⟨by simpa using hj,by rw[hx'];exact h1⟩,fun bp cp hap=>?_⟩;obtain⟨iR,h4,h5⟩:=h3 bp cp (ej bp cp hap);rw[<-hsi]at h4;refine⟨iR,KC _ _ h4,fun s2 a2 e2 lS=>?_⟩;subst e2;rcases hn2 with hn2 | ⟨a3,rfl,_⟩
           .omega
           .exact h5 s2 a3 rfl lS
          .have hx':(xs.set i rr.2).getD j e.zero=xs.getD j e.zero:=by simp[List.getD,jV,Ne.symm hji]
           refine⟨⟨by simpa using hj,by rw[hx'];exact hin⟩,fun bp cp hap=>?_⟩;obtain⟨n2,uc,hn2⟩:=Cm p' (Mk.gR (a:=mi) um) hp.2 m7;obtain⟨y',hy'⟩:=zO p' (xs.getD j e.zero) uc;have wP:=IQ (h':=h2) p' (some (b1,j * e.width)) (re j hj) hy' hin (fun b' hb'=>by
            refine hk b' (.inr (.inr ⟨j,hji,hb'⟩)) fun o e'=>?_;rcases z.home b' o e' with h1 | ⟨o0,h1⟩
            .exact lH j i hji b' hb' (z.fr b' h1)
            .simp only[aK,aY]at h1;obtain⟨rfl,_⟩:=h1;exact(hF j).2 hb')
           refine⟨cp,KC _ _ ?_,fun _ _ _ _=>rfl⟩;rw[hsj j hji,wP];exact ej bp cp hap
         .simp at m7
    .simp[hs]at hf
   | _=>simp[focus]at hf
  | _=>simp[focus]at hf
end
theorem AV.ef{h h':Array Obj}{S S':St}{g g':aA}(hA:∀r p,tK h h' S S' g g' r p)(hB:∀r p s,qV h h' S S' g g' r p s) :
  ∀a:AV,a.dw h h' S S' g g':=by
 intro a
 induction a with
 | b9 r p s=>exact hB r p s
 | view r p s lo hi=>exact hB r p s
 | addr r p=>exact hA r p
 | pair a b fU kS=>exact⟨fU,kS⟩
 | jJ a fU=>exact fU
 | gH f a fU=>exact fU
 | _=>trivial
theorem AV.xy{lo hi:Nat}{h h':Array Obj}{S S':St}{g g':aA}(hA:∀r p,jH lo hi p=true->tK h h' S S' g g' r p)
  (hB:∀r p s,jH lo hi p=true->¬ (lo<=s/\s<hi)->qV h h' S S' g g' r p s):∀a:AV,a.aQ lo hi=true->a.dw h h' S S' g g':=by
 have hs:∀s,(!(Nat.ble lo s&&Nat.blt s hi))=true->¬ (lo<=s/\s<hi):=by intro s h1 h2;have e1:Nat.ble lo s=true:=rD h2.1;have e2:Nat.blt s hi=true:=rD h2.2;simp[e1,e2]at h1
 intro a
 induction a with
 | b9 r p s=>intro h1;simp only[AV.aQ,bI]at h1;exact hB r p s h1.2 (hs s h1.1)
 | view r p s lo hi=>intro h1;simp only[AV.aQ,bI]at h1;exact hB r p s h1.2 (hs s h1.1)
 | addr r p=>intro h1;exact hA r p h1
 | pair a b fU kS=>intro h1;simp only[AV.aQ,bI]at h1;exact⟨fU h1.1,kS h1.2⟩
 | jJ a fU=>intro h1;exact fU h1
 | gH f a fU=>intro h1;exact fU h1
 | _=>intro _;trivial
theorem nP{h h':Array Obj}{S S':St}{g g':aA}{tmps:Array Value}{H:BS}(st:aE h S g tmps H){r:Nat}
  (hr:S'.root r=S.root r\/S'.root r=none) (hC:g'.C r=g.C r) (hB:g'.B r=g.B r) (hk:(S.root r).isSome->∀b,g.G r b->h'[b]? = h[b]?) :
  (∀p,tK h h' S S' g g' r p)/\∀p s,qV h h' S S' g g' r p s:=by
 have key:∀p R' d',S'.root r=some R'->focus R'.ty R'.ms R'.x p=some d'->S.root r=some R'/\(bu R'.ty R'.x p->
   ∀base c,cr h R'.ty (g.C r) (g.base r) p=some (base,c)->cr h' R'.ty (g'.C r) (g'.base r) p=some (base,c)):=by
  intro p R' d' ck hf;have hR:S.root r=some R':=by
   rcases hr with e | e
   .rw[<-e];exact ck
   .rw[e]at ck;simp at ck
  refine⟨hR,fun hin base c ha=>?_⟩;obtain⟨F,rep,hF,_⟩:=st.roots r R' hR;have hb:g'.base r=g.base r:=by simp only[aA.base,hB]
  rw[hC,hb,IQ p _ rep hf hin fun b hb=>hk (by rw[hR];rfl) b (hF b hb)];exact ha
 constructor
 .intro p R' ck d' hf;obtain⟨h1,h2⟩:=key p R' d' ck hf;exact⟨R',d',h1,hf,fun hin=>⟨hin,fun base c ha=>⟨c,h2 hin base c ha⟩⟩⟩
 .intro p s R' ck t m xs hf;obtain⟨h1,h2⟩:=key p R' _ ck hf;exact⟨R',m,xs,h1,hf,fun hin=>⟨hin,fun base c ha=>h2 hin base c ha⟩⟩
theorem St.gv(S:St)(t:Nat)(v:AV)(u:Nat):(S.set t v).get u=if u=t/\t<S.sl.length then v else S.get u:=by
 simp only[St.get_eq,St.gl,List.getD,jV];by_cases e:t=u
 .subst e;by_cases hl:t<S.sl.length
  .simp[hl]
  .simp[hl]
 .have:¬ u=t:=fun h=>e h.symm;simp[e,this]
theorem St.nx(S:St)(t:Nat)(v:AV)(r:Nat):(S.set t v).root r=S.root r:=rfl
theorem St.b6(S:St)(d:Nat)(x:Option aC)(r:Nat):(S.aI d x).root r=if r=d/\d<S.rt.length then x else S.root r:=by
 simp only[aO.ig,St.aI,aO.bX,List.getD,jV];by_cases e:d=r
 .subst e;by_cases hl:d<S.rt.length
  .simp[hl]
  .simp[hl]
 .have:¬ r=d:=fun h=>e h.symm;simp[e,this]
theorem St.h_(S:St)(d:Nat)(x:Option aC)(t:Nat):(S.aI d x).get t=S.get t:=rfl
theorem St.o9{S:St}{r:Nat}{R:aC}(h:S.root r=some R):r<S.rt.length:=by
 simp only[aO.ig,List.getD]at h;rcases Cf r S.rt.length with h1 | h1
 .exact h1
 .rw[pz h1]at h;simp at h
theorem qe.gG{h:Array Obj}{S S':St}{g:aA}{tmps:Array Value}{H:BS}(st:aE h S g tmps H)(e:S'.rt=S.rt){a:AV}{v:Value}
  (x:qe h S g a v):qe h S' g a v:=by
 have hr:∀r,S'.root r=S.root r:=fun r=>by simp only[St.root,e]
 refine(qe.keep (Sub.refl _) (fun _ _=>rfl) a).1 v x (AV.ef (fun r p=>?_) (fun r p s=>?_) a)
 .exact(nP st (.inl (hr r)) rfl rfl (fun _ _ _=>rfl)).1 p
 .exact(nP st (.inl (hr r)) rfl rfl (fun _ _ _=>rfl)).2 p s
theorem aE.tP{h:Array Obj}{S:St}{g:aA}{tmps:Array Value}{H:BS}(st:aE h S g tmps H)(t:Nat){a:AV}{v:Value}(x:qe h S g a v) :
  aE h (S.set t a) g (tmps.setIfInBounds t v) H where
 len:=by simp[St.gl,st.len]
 gy:=by simp[St.gl,st.gy]
 slots:=by
  intro u;rw[St.gv];have hs:(S.set t a).rt=S.rt:=rfl;by_cases hu:u=t/\t<S.sl.length
  .obtain⟨rfl,hl⟩:=hu;rw[aj ⟨rfl,hl⟩];have:(tmps.setIfInBounds u v).getD u Go.undef=v:=by have:=st.len;simp[Array.getD,Array.getElem_setIfInBounds];omega
   rw[this];exact qe.gG st hs x
  .rw[af hu];have:(tmps.setIfInBounds t v).getD u Go.undef=tmps.getD u Go.undef:=by
    have hlen:=st.len;simp only[pq,FV];by_cases e:t=u
    .subst e;have hl:¬ t<tmps.size:=fun hl=>hu ⟨rfl,by omega⟩;rw[aj rfl,af hl,F6 (by omega)]
    .rw[af e]
   rw[this];exact qe.gG st hs (st.slots u)
 roots:=fun r R hR=>st.roots r R hR
 d5:=fun r r' hn h1 h2=>st.d5 r r' hn h1 h2
 er:=fun r h1=>st.er r h1
 hand:=fun r h1=>st.hand r h1
 bM:=st.bM
 bQ:=st.bQ
 cg:=fun r b h1 h2=>st.cg r b h1 h2
 ep:=st.ep
 tag:=st.tag
 own:=st.own
 fc:=st.fc
 fY:=st.fY
 p0:=st.p0
 kZ:=st.kZ
theorem aE.forget{h:Array Obj}{S:St}{g:aA}{tmps:Array Value}{H:BS}(st:aE h S g tmps H)(t:Nat):aE h (S.set t .undef) g tmps H where
 len:=by simp[St.gl,st.len]
 gy:=by simp[St.gl,st.gy]
 slots:=by
  intro u;rw[St.gv];by_cases hu:u=t/\t<S.sl.length
  .rw[aj hu];simp only[qe]
  .rw[af hu];exact qe.gG (S':=S.set t .undef) st rfl (st.slots u)
 roots:=fun r R hR=>st.roots r R hR
 d5:=fun r r' hn h1 h2=>st.d5 r r' hn h1 h2
 er:=fun r h1=>st.er r h1
 hand:=fun r h1=>st.hand r h1
 bM:=st.bM
 bQ:=st.bQ
 cg:=fun r b h1 h2=>st.cg r b h1 h2
 ep:=st.ep
 tag:=st.tag
 own:=st.own
 fc:=st.fc
 fY:=st.fY
 p0:=st.p0
 kZ:=st.kZ
theorem Mk.fA{m:Mk}(h:m.ax=true):m.fst.ax=true:=by cases m<;>simp_all [Mk.ax,Mk.fst]
theorem Mk.fB{m:Mk}(h:m.ax=true):m.snd.ax=true:=by cases m<;>simp_all [Mk.ax,Mk.snd]
theorem Mk.gN:∀m:Mk,m.fo.ax=true
 | .no=>rfl
 | .gone=>rfl
 | .own _ m=>by unfold Mk.fo;split<;>rfl
 | .pr a b=>by simp[Mk.fo,Mk.ax,Mk.gN a,Mk.gN b]
theorem Mk.gM:∀m:Mk,(m.meet .no).ax=true
 | .no=>by simp[Mk.meet,Mk.fo,Mk.ax]
 | .gone=>rfl
 | .own _ m=>by simp only[Mk.meet];split<;>rfl
 | .pr a b=>by simp[Mk.meet,Mk.ax,Mk.gM a,Mk.gM b]
theorem Mk.dX:∀{a b:Mk},b.ax=true->(a.meet b).ax=true
 | .no,b,_=>by simpa [Mk.meet] using Mk.gN b
 | .gone,_,_=>rfl
 | .own _ a,b,h=>by
  cases b with
  | no=>simp only[Mk.meet];split<;>rfl
  | gone=>rfl
  | pr _ _=>rfl
  | own s b=>simp only[Mk.meet,Mk.ax,bI]at h⊢;exact⟨h.1,Mk.dX h.2⟩
 | .pr a1 a2,b,h=>by
  cases b with
  | no=>simp[Mk.meet,Mk.ax,Mk.gM]
  | gone=>rfl
  | own _ _=>rfl
  | pr c d=>simp only[Mk.meet,Mk.ax,bI]at h⊢;exact⟨Mk.dX h.1,Mk.dX h.2⟩
theorem n8{a b:Nat}:Nat.blt a b=true↔a<b:=by
 constructor
 .intro h;exact rE h
 .intro h;exact rD h
theorem Mk.cN{s:Nat}(hs:s<1048576):∀{m:Mk},m.ax=true->(m.stamp s).ax=true
 | .no,_=>rfl
 | .gone,_=>rfl
 | .own s0 m,h=>by
  simp only[Mk.ax,Mk.stamp,bI,n8]at h⊢;refine⟨?_,Mk.cN hs h.2⟩;rw[aj h.1];exact hs
 | .pr a b,h=>by
  simp only[Mk.ax,Mk.stamp,bI]at h⊢;exact⟨Mk.cN hs h.1,Mk.cN hs h.2⟩
theorem Mk.c_:∀t:Ty,(Mk.top t).ax=true
 | .unit=>rfl
 | .int _=>rfl
 | .bool=>rfl
 | .str=>rfl
 | .sl t=>by simp[Mk.top,Mk.ax,n8,Mk.c_ t]
 | .pair a b=>by simp[Mk.top,Mk.ax,Mk.c_ a,Mk.c_ b]
theorem Mk.lA:∀t:Ty,(Mk.sO t).ax=true
 | .unit=>rfl
 | .int _=>rfl
 | .bool=>rfl
 | .str=>rfl
 | .sl t=>Mk.c_ _
 | .pair a b=>by
  cases a<;>simp[Mk.sO,Mk.ax,Mk.c_,Mk.lA b]
theorem Mk.rq(hint:Bool)(t:Ty):(Mk.z8 hint t).ax=true:=by
 unfold Mk.z8;split
 .exact Mk.lA t
 .exact Mk.c_ t
theorem aM.ax{hd:Nat->Value}:∀(t:Ty){m:Mk}{c:List Value},m.ax=true->aM hd t m c
 | .unit,_,_,_=>by simp only[aM]
 | .int _,_,_,_=>by simp only[aM]
 | .bool,_,_,_=>by simp only[aM]
 | .str,_,_,_=>by simp only[aM]
 | .pair a b,m,c,h=>by simp only[aM];exact⟨aM.ax a (Mk.fA h),aM.ax b (Mk.fB h)⟩
 | .sl t,m,c,h=>by
  cases m with
  | own s mi=>simp only[Mk.ax,bI,n8]at h;simp only[aM];exact⟨fun h2=>by omega,h.2⟩
  | no=>simp only[aM]
  | gone=>simp only[aM]
  | pr _ _=>simp only[aM]
theorem aM.gone{hd:Nat->Value}(t:Ty)(c:List Value):aM hd t .gone c:=aM.ax t rfl
theorem aM.no{hd:Nat->Value}(t:Ty)(c:List Value):aM hd t .no c:=aM.ax t rfl
theorem aM.stamp{hd:Nat->Value}{s:Nat}(hs:s<1048576):∀(t:Ty){m:Mk}{c:List Value},aM hd t m c->aM hd t (m.stamp s) c
 | .unit,_,_,_=>by simp only[aM]
 | .int _,_,_,_=>by simp only[aM]
 | .bool,_,_,_=>by simp only[aM]
 | .str,_,_,_=>by simp only[aM]
 | .pair a b,m,c,h=>by
  simp only[aM]at h⊢;have h1:(m.stamp s).fst=m.fst.stamp s:=by cases m<;>rfl
  have h2:(m.stamp s).snd=m.snd.stamp s:=by cases m<;>rfl
  rw[h1,h2];exact⟨aM.stamp hs a h.1,aM.stamp hs b h.2⟩
 | .sl t,m,c,h=>by
  cases m with
  | own s0 mi=>
   simp only[Mk.stamp,aM]at h⊢;refine⟨fun h2=>?_,Mk.cN hs h.2⟩;split at h2
   .omega
   .rename_i hn;rw[af hn];exact h.1 h2
  | no=>simp only[Mk.stamp,aM]
  | gone=>simp only[Mk.stamp,aM]
  | pr _ _=>simp only[Mk.stamp,aM]
theorem V2:∀(p:Path){t:Ty}{m m2 m':Mk},lK t m p m2=some m'->m.ax=true->m2.ax=true->m'.ax=true
 | [],t,m,m2,m',h,_,h2=>by
  have:lK t m [] m2=some m2:=by cases t<;>rfl
  rw[this]at h;simp only[aK]at h;rw[<-h];exact h2
 | .fst::p,t,m,m2,m',h,h1,h2=>by
  cases t with
  | pair a b=>simp only[lK,cM,aK]at h;obtain⟨r,hr,rfl⟩:=h;simp only[Mk.ax,bI];exact⟨V2 p hr (Mk.fA h1) h2,Mk.fB h1⟩
  | _=>simp[lK]at h
 | .snd::p,t,m,m2,m',h,h1,h2=>by
  cases t with
  | pair a b=>simp only[lK,cM,aK]at h;obtain⟨r,hr,rfl⟩:=h;simp only[Mk.ax,bI];exact⟨Mk.fA h1,V2 p hr (Mk.fB h1) h2⟩
  | _=>simp[lK]at h
 | .idx i s'::p,t,m,m2,m',h,h1,h2=>by
  cases t with
  | sl e=>
   cases m with
   | own s mi=>
    simp only[lK]at h;split at h
    .simp only[cM,aK]at h;obtain⟨r,hr,rfl⟩:=h;simp only[Mk.ax,bI]at h1⊢;exact⟨h1.1,Mk.dX (V2 p hr h1.2 h2)⟩
    .simp at h
   | _=>simp[lK]at h
  | _=>simp[lK]at h
theorem aM.o4{hd:Nat->Value}:∀(p:Path){t:Ty}{m m':Mk}{c:List Value},lK t m p .gone=some m'->aM hd t m c->aM hd t m' c
 | [],t,m,m',c,h,_=>by
  have:lK t m [] .gone=some .gone:=by cases t<;>rfl
  rw[this]at h;simp only[aK]at h;rw[<-h];exact aM.gone t c
 | .fst::p,t,m,m',c,h,hc=>by
  cases t with
  | pair a b=>simp only[lK,cM,aK]at h;obtain⟨r,hr,rfl⟩:=h;simp only[aM]at hc⊢;exact⟨aM.o4 p hr hc.1,hc.2⟩
  | _=>simp[lK]at h
 | .snd::p,t,m,m',c,h,hc=>by
  cases t with
  | pair a b=>simp only[lK,cM,aK]at h;obtain⟨r,hr,rfl⟩:=h;simp only[aM]at hc⊢;exact⟨hc.1,aM.o4 p hr hc.2⟩
  | _=>simp[lK]at h
 | .idx i s'::p,t,m,m',c,h,hc=>by
  cases t with
  | sl e=>
   cases m with
   | own s mi=>
    simp only[lK]at h;split at h
    .simp only[cM,aK]at h;obtain⟨r,hr,rfl⟩:=h;simp only[aM]at hc⊢;exact⟨hc.1,Mk.dX (V2 p hr hc.2 rfl)⟩
    .simp at h
   | _=>simp[lK]at h
  | _=>simp[lK]at h
theorem V1:∀(p:Path){t:Ty}{m:Mk}{x:t.den}{d:Dy},focus t m x p=some d->m.ax=true->d.ms.ax=true
 | [],t,m,x,d,h,hm=>by simp only[focus,aK]at h;subst h;exact hm
 | .fst::p,t,m,x,d,h,hm=>by
  cases t with
  | pair a b=>simp only[focus]at h;exact V1 p h (Mk.fA hm)
  | _=>simp[focus]at h
 | .snd::p,t,m,x,d,h,hm=>by
  cases t with
  | pair a b=>simp only[focus]at h;exact V1 p h (Mk.fB hm)
  | _=>simp[focus]at h
 | .idx i s'::p,t,m,x,d,h,hm=>by
  cases t with
  | sl e=>
   cases m with
   | own s mi=>
    simp only[focus]at h;simp only[Mk.ax,bI]at hm;split at h
    .exact V1 p h hm.2
    .simp at h
   | _=>simp[focus]at h
  | _=>simp[focus]at h
theorem aM.at{hd:Nat->Value}{hp:Array Obj}:∀(p:Path){t:Ty}{m:Mk}{x:t.den}{c:List Value}{base base':fK}{c':List Value}{d:Dy},
  aM hd t m c->focus t m x p=some d->cr hp t c base p=some (base',c')->aM hd d.ty d.ms c'
 | [],t,m,x,c,base,base',c',d,hc,hf,ha=>by
  simp only[focus,aK]at hf;subst hf;have:cr hp t c base []=some (base,c):=by cases t<;>rfl
  rw[this]at ha;simp only[aK,aY]at ha;rw[<-ha.2];exact hc
 | .fst::p,t,m,x,c,base,base',c',d,hc,hf,ha=>by
  cases t with
  | pair a b=>simp only[focus]at hf;simp only[cr]at ha;simp only[aM]at hc;exact aM.at p hc.1 hf ha
  | _=>simp[focus]at hf
 | .snd::p,t,m,x,c,base,base',c',d,hc,hf,ha=>by
  cases t with
  | pair a b=>simp only[focus]at hf;simp only[cr]at ha;simp only[aM]at hc;exact aM.at p hc.2 hf ha
  | _=>simp[focus]at hf
 | .idx i s'::p,t,m,x,c,base,base',c',d,hc,hf,ha=>by
  cases t with
  | sl e=>
   cases m with
   | own s mi=>
    simp only[focus]at hf;simp only[aM]at hc;split at hf
    .exact aM.ax _ (V1 p hf hc.2)
    .simp at hf
   | _=>simp[focus]at hf
  | _=>simp[focus]at hf
theorem U0:∀(p:Path){t:Ty}{m:Mk}{x:t.den}{t2:Ty}{m2:Mk}{y:t2.den}{m':Mk}{x':t.den},
  put t m x p t2 m2 y=some (m',x')->m.ax=true->m2.ax=true->m'.ax=true
 | [],t,m,x,t2,m2,y,m',x',h,_,h2=>by
  simp only[put,cM,aK,aY]at h;obtain⟨_,_,h,_⟩:=h;rw[<-h];exact h2
 | .fst::p,t,m,x,t2,m2,y,m',x',h,h1,h2=>by
  cases t with
  | pair a b=>simp only[put,cM,aK,aY]at h;obtain⟨r,hr,rfl,_⟩:=h;simp only[Mk.ax,bI];exact⟨U0 p hr (Mk.fA h1) h2,Mk.fB h1⟩
  | _=>simp[put]at h
 | .snd::p,t,m,x,t2,m2,y,m',x',h,h1,h2=>by
  cases t with
  | pair a b=>simp only[put,cM,aK,aY]at h;obtain⟨r,hr,rfl,_⟩:=h;simp only[Mk.ax,bI];exact⟨Mk.fA h1,U0 p hr (Mk.fB h1) h2⟩
  | _=>simp[put]at h
 | .idx i s'::p,t,m,x,t2,m2,y,m',x',h,h1,h2=>by
  cases t with
  | sl e=>
   cases m with
   | own s mi=>
    simp only[put]at h;split at h
    .simp only[cM,aK,aY]at h;obtain⟨r,hr,rfl,_⟩:=h;simp only[Mk.ax,bI]at h1⊢;exact⟨h1.1,Mk.dX (U0 p hr h1.2 h2)⟩
    .simp at h
   | _=>simp[put]at h
  | _=>simp[put]at h
theorem Hw:∀(p:Path){t:Ty}{m:Mk}{x:t.den}{t2:Ty}{m2:Mk}{y:t2.den}{m':Mk}{x':t.den},
  put t m x p t2 m2 y=some (m',x')->qx p=false->eF t p+t2.width<=t.width
 | [],t,m,x,t2,m2,y,m',x',h,_=>by
  simp only[put,cM,qbv]at h;obtain⟨z,hz,_⟩:=h;split at hz
  .rename_i e;subst e;have:eF t2 []=0:=by cases t2<;>rfl
   omega
  .simp at hz
 | .fst::p,t,m,x,t2,m2,y,m',x',h,hi=>by
  cases t with
  | pair a b=>simp only[put,cM,aK,aY]at h;obtain⟨r,hr,_⟩:=h;have:=Hw p hr (by simpa [qx] using hi);simp only[eF,Ty.width];omega
  | _=>simp[put]at h
 | .snd::p,t,m,x,t2,m2,y,m',x',h,hi=>by
  cases t with
  | pair a b=>simp only[put,cM,aK,aY]at h;obtain⟨r,hr,_⟩:=h;have:=Hw p hr (by simpa [qx] using hi);simp only[eF,Ty.width];omega
  | _=>simp[put]at h
 | .idx i s'::p,t,m,x,t2,m2,y,m',x',h,hi=>by simp[qx]at hi
theorem aM.put{hd:Nat->Value}:∀(p:Path){t:Ty}{m:Mk}{x:t.den}{t2:Ty}{m2:Mk}{y:t2.den}{m':Mk}{x':t.den}{c c2:List Value},
  put t m x p t2 m2 y=some (m',x')->aM hd t m c->aM hd t2 m2 c2->(qx p=true->m2.ax=true)->c.length=t.width->c2.length=t2.width->
  aM hd t m' (if qx p then c else bT c (eF t p) c2)
 | [],t,m,x,t2,m2,y,m',x',c,c2,h,hc,h2,_,hl,iJ=>by
  simp only[V.put,cM,qbv,aK,aY]at h;obtain⟨z,hz,rfl,_⟩:=h;split at hz
  .rename_i e;subst e;have:eF t2 []=0:=by cases t2<;>rfl
   rw[this,af (by simp[qx]),AX (by omega)];exact h2
  .simp at hz
 | .fst::p,t,m,x,t2,m2,y,m',x',c,c2,h,hc,h2,hi,hl,iJ=>by
  cases t with
  | pair a b=>
   simp only[V.put,cM,aK,aY]at h;obtain⟨r,hr,rfl,_⟩:=h;simp only[aM]at hc;simp only[Ty.width]at hl;have hca:(c.take a.width).length=a.width:=by simp;omega
   have ih:=aM.put p hr hc.1 h2 (by simpa [qx] using hi) hca iJ;have hx:qx (.fst::p)=qx p:=rfl;have ha:eF (.pair a b) (.fst::p)=eF a p:=rfl;rw[hx,ha];by_cases hp:qx p=true
   .rw[aj hp]at ih⊢;simp only[aM];exact⟨ih,hc.2⟩
   .rw[af hp]at ih⊢;have hf:=Hw p hr (by simpa using hp);have e:bT c (eF a p) c2=bT (c.take a.width) (eF a p) c2++c.drop a.width:=by
     conv=>lhs;rw[<-rG a.width c]
     exact q5p (by omega)
    have hl3:(bT (c.take a.width) (eF a p) c2).length=a.width:=by rw[Dx (by omega)];exact hca
    simp only[aM];rw[e,jq hl3,i5 hl3];exact⟨ih,hc.2⟩
  | _=>simp[V.put]at h
 | .snd::p,t,m,x,t2,m2,y,m',x',c,c2,h,hc,h2,hi,hl,iJ=>by
  cases t with
  | pair a b=>
   simp only[V.put,cM,aK,aY]at h;obtain⟨r,hr,rfl,_⟩:=h;simp only[aM]at hc;simp only[Ty.width]at hl;have hca:(c.take a.width).length=a.width:=by simp;omega
   have hcb:(c.drop a.width).length=b.width:=by simp;omega
   have ih:=aM.put p hr hc.2 h2 (by simpa [qx] using hi) hcb iJ;have hx:qx (.snd::p)=qx p:=rfl;have ha:eF (.pair a b) (.snd::p)=a.width+eF b p:=rfl;rw[hx,ha];by_cases hp:qx p=true
   .rw[aj hp]at ih⊢;simp only[aM];exact⟨hc.1,ih⟩
   .rw[af hp]at ih⊢;have e:bT c (a.width+eF b p) c2=c.take a.width++bT (c.drop a.width) (eF b p) c2:=by
     conv=>lhs;rw[<-rG a.width c]
     have:=@Zt (c.take a.width) (c.drop a.width) c2 (eF b p);rw[hca]at this;exact this
    simp only[aM];rw[e,jq hca,i5 hca];exact⟨hc.1,ih⟩
  | _=>simp[V.put]at h
 | .idx i s'::p,t,m,x,t2,m2,y,m',x',c,c2,h,hc,h2,hi,hl,iJ=>by
  cases t with
  | sl e=>
   cases m with
   | own s mi=>
    simp only[V.put]at h;split at h
    .simp only[cM,aK,aY]at h;obtain⟨r,hr,rfl,_⟩:=h;simp only[qx,aX];simp only[aM]at hc⊢;exact⟨hc.1,Mk.dX (U0 p hr hc.2 (hi rfl))⟩
    .simp at h
   | _=>simp[V.put]at h
  | _=>simp[V.put]at h
theorem az.gone{h:Array Obj}{Pr:BS}:∀(t:Ty){m:Mk}{x:t.den}{c:List Value}{F:BS},az h Pr t m x c F->az h Pr t .gone x c Nil
 | .unit,_,_,_,_,r=>by simpa only [az] using r
 | .int k,_,_,_,_,r=>by simpa only [az] using r
 | .bool,_,_,_,_,r=>by simpa only [az] using r
 | .str,_,_,_,_,r=>by simpa only [az] using r
 | .pair a b,m,x,c,F,r=>by
  simp only[az]at r⊢;obtain⟨ca,cb,Fa,Fb,rfl,ra,rb,sa,sb,d⟩:=r;exact⟨ca,cb,Nil,Nil,rfl,az.gone a ra,az.gone b rb,Sub.nil _,Sub.nil _,cB.nil _⟩
 | .sl t,m,x,c,F,r=>by
  simp only[az];exact az.slice r
theorem A_{n:Mk}:∀(q:Path){t:Ty}{m:Mk}{x:t.den}{d:Dy},focus t m x q=some d->bu t x q->
  ∃mm,put t m x q d.ty n d.x=some (mm,x)/\lK t m q n=some mm
 | [],t,m,x,d,hf,_=>by
  simp only[focus,aK]at hf;subst hf;refine⟨n,by simp[put,T6],by cases t<;>rfl⟩
 | .fst::q,t,m,x,d,hf,hr=>by
  cases t with
  | pair a b=>
   simp only[focus]at hf;simp only[bu]at hr;obtain⟨mm,h1,h2⟩:=A_ (n:=n) q hf hr;refine⟨.pr mm m.snd,?_,?_⟩
   .simp only[put];rw[h1];rfl
   .simp only[lK];rw[h2];rfl
  | _=>simp[focus]at hf
 | .snd::q,t,m,x,d,hf,hr=>by
  cases t with
  | pair a b=>
   simp only[focus]at hf;simp only[bu]at hr;obtain⟨mm,h1,h2⟩:=A_ (n:=n) q hf hr;refine⟨.pr m.fst mm,?_,?_⟩
   .simp only[put];rw[h1];rfl
   .simp only[lK];rw[h2];rfl
  | _=>simp[focus]at hf
 | .idx i s'::q,t,m,x,d,hf,hr=>by
  cases t with
  | sl e=>
   cases m with
   | own s mi=>
    simp only[focus]at hf;simp only[bu]at hr;split at hf
    .rename_i hs;obtain⟨mm,h1,h2⟩:=A_ (n:=n) q hf hr.2;refine⟨.own s (mi.meet mm),?_,?_⟩
     .simp only[put,hs,aX];rw[h1];simp only[dG,aK,aY,true_and];have:=hr.1;rw[List.getD,gz hr.1];simp
     .simp only[lK,hs,aX];rw[h2];rfl
    .simp at hf
   | _=>simp[focus]at hf
  | _=>simp[focus]at hf
theorem zj.self{h:Array Obj}{base:fK}{c:List Value}{F:BS}(hb:yS h base c F):zj h h base c:=by
 intro b o e cs hcs;obtain⟨_,cs',h1,h2,h3⟩:=hb b o e;have:=jz.uniq hcs h1;subst this;refine⟨cs,hcs,?_⟩;simp only[sub]at h3;simp only[bT];have h4:cs.toList.drop (o+c.length)=(cs.toList.drop o).drop c.length:=by rw[qR]
 rw[h4,eI]
 conv=>lhs;rw[<-rG o cs.toList]
 congr 1
 conv=>lhs;rw[<-rG c.length (cs.toList.drop o),h3]
theorem Hq{c:List Value}{n k:Nat}(h:n+k<=c.length):bT c n ((c.drop n).take k)=c:=by
 simp only[bT];have:((c.drop n).take k).length=k:=by simp;omega
 rw[this];have h4:c.drop (n+k)=(c.drop n).drop k:=by rw[qR]
 rw[h4,eI,rG,rG]
theorem aE.rZ{h:Array Obj}{S:St}{g:aA}{tmps:Array Value}{H:BS}(st:aE h S g tmps H){r:Nat}{R:aC}(hR:S.root r=some R)
  {F:BS} (rep:az h g.Pr R.ty R.ms R.x (g.C r) F) (hB:∀b,g.B r=some b->¬ F b)
  (hm:R.mem=true->∃b,g.B r=some b/\g.G r b/\jz h b (g.C r).toArray) (hn:R.mem=false->g.B r=none):yS h (g.base r) (g.C r) F:=by
 intro b o e;simp only[aA.base,fq]at e;obtain⟨b',e,e'⟩:=e;simp only[aY]at e';obtain⟨rfl,rfl⟩:=e';refine⟨hB b' e,?_⟩;cases hmem:R.mem with
 | false=>rw[hn hmem]at e;simp at e
 | true=>obtain⟨b2,h1,_,h2⟩:=hm hmem;rw[e]at h1;simp only[aK]at h1;subst h1;exact⟨_,h2,by simp,by simp[sub]⟩
theorem aE.take{h:Array Obj}{S:St}{g:aA}{tmps:Array Value}{H:BS}(st:aE h S g tmps H){r:Nat}{R:aC}{p:Path}{d:Dy}{m':Mk}
  (hR:S.root r=some R) (hf:focus R.ty R.ms R.x p=some d) (hin:bu R.ty R.x p) (hm:lK R.ty R.ms p .gone=some m') :
  ∃g' F base c,aE h (S.aI r (some { R with ms:=m' })) g' tmps (Un H F)/\Sub g.Pr g'.Pr/\g'.C=g.C/\g'.B=g.B/\(∀r,Sub (g'.G r) (g.G r))/\
   cr h R.ty (g.C r) (g.base r) p=some (base,c)/\az h g'.Pr d.ty d.ms d.x c F/\aM g.hd d.ty d.ms c/\g'.cR g/\cB F H/\Sub F (g.G r)/\cB F g'.Pr/\
   ∀a:AV,a.dw h h S (S.aI r (some { R with ms:=m' })) g g':=by
 obtain⟨F0,rep,hF,hB,hmem,oV⟩:=st.roots r R hR;have hb:=st.rZ hR rep hB hmem oV;obtain⟨base,c,F,Fr,z⟩:=zip p _ _ _ _ F0 _ d rep hf hin hb;obtain⟨mm,UK,Li⟩:=A_ (n:=.gone) p hf hin;rw[hm]at Li;simp only[aK]at Li;subst Li;obtain⟨F3,D3,s3,sd,d3,r3⟩:=z.vC h g.Pr .gone d.x c Nil m' R.x (Sub.refl _) (fun _ _=>rfl) (fun _ _ _=>rfl) (zj.self z.ok) (az.gone d.ty z.rep) (cB.nil _) UK;have s3':Sub F3 Fr:=fun b hb=>(s3 b hb).resolve_right id;have Wj:Sub D3 Fr:=fun b hb=>(sd b hb).resolve_right id;have bO:(S.root r).isSome:=by rw[hR];rfl
 have hc:(if qx p then g.C r else bT (g.C r) (eF R.ty p) c)=g.C r:=by
  by_cases hi:qx p=true
  .simp[hi]
  .have hi':qx p=false:=by simpa using hi
   obtain⟨_,e2,e3⟩:=z.plain hi';simp only[hi',fh,dZ];rw[e2];exact Hq e3
 rw[hc]at r3;have hlt:=St.o9 hR
 let g':aA:={ g with Pr:=Un g.Pr D3,G:=fun r'=>if r'=r then (fun b=>g.B r=some b\/F3 b) else g.G r' }
 have bK:∀r',(S.aI r (some { R with ms:=m' })).root r'=if r'=r then some { R with ms:=m' } else S.root r':=by intro r';rw[St.b6];simp[hlt]
 have hsub:∀r',Sub (g'.G r') (g.G r'):=by
  intro r' b hb';simp only[g']at hb';split at hb'
  .rename_i e;subst e;rcases hb' with hb' | hb'
   .cases mV:R.mem with
    | false=>rw[oV mV]at hb';simp at hb'
    | true=>obtain⟨b2,h1,h2,_⟩:=hmem mV;rw[hb']at h1;simp only[aK]at h1;subst h1;exact h2
   .exact hF b (z.fr b (s3' b hb'))
  .exact hb'
 have hsome:∀r',((S.aI r (some { R with ms:=m' })).root r').isSome->(S.root r').isSome:=by
  intro r' h1;rw[bK]at h1;split at h1
  .rename_i e;subst e;exact bO
  .exact h1
 have Uv:Sub D3 (g.G r):=fun b hb'=>hF b (z.fr b (Wj b hb'));have pW:Sub F (g.G r):=fun b hb'=>hF b (z.sub b hb');have tv:=Bs (lo:=0) (hi:=0) p UK (by trivial);have hkeep:∀a:AV,a.dw h h S (S.aI r (some { R with ms:=m' })) g g':=by
  intro a;refine AV.ef (fun r' p'=>?_) (fun r' p' s'=>?_) a
  .by_cases e:r'=r
   .subst e;intro R' ck d' hf';rw[bK,aj rfl]at ck;simp only[aK]at ck;subst ck;obtain⟨n0,h1,_⟩:=Cm p' tv (Cl p') (ve p' hf');obtain⟨y,h2⟩:=zO p' R.x h1;exact⟨R,_,hR,h2,fun r8=>⟨r8,fun bs cc ha=>⟨cc,ha⟩⟩⟩
   .exact(nP st (.inl (by rw[bK,af e])) rfl rfl (fun _ _ _=>rfl)).1 p'
  .by_cases e:r'=r
   .subst e;intro R' ck t' mq xs hf';rw[bK,aj rfl]at ck;simp only[aK]at ck;subst ck;obtain⟨n0,h1,h3⟩:=Cm p' tv (Cl p') (ve p' hf');rcases h3 with h3 | ⟨a,rfl,_⟩
    .omega
    .obtain⟨y,h2⟩:=zO p' R.x h1;exact⟨R,a,y,hR,h2,fun r8=>⟨r8,fun bs cc ha=>ha⟩⟩
   .exact(nP st (.inl (by rw[bK,af e])) rfl rfl (fun _ _ _=>rfl)).2 p' s'
 refine⟨g',F,base,c,?_,fun b hb'=>.inl hb',rfl,rfl,hsub,z.at_,az.mono (fun b hb'=>.inl hb') (fun _ _=>rfl) d.ty z.rep (Sub.refl _) (fun _ _=>rfl),aM.at p (st.tag r R hR) hf z.at_,⟨rfl,rfl,rfl⟩,?_,pW,?_,hkeep⟩
 .refine { len:=st.len,gy:=by simp[St.aI,aO.bX,st.gy],slots:=?_,roots:=?_,d5:=?_,er:=?_,hand:=?_,bM:=?_,bQ:=?_,cg:=?_,ep:=?_,tag:=?_,own:=?_,fc:=?_,fY:=st.fY,p0:=fun b hb'=>.inl (st.p0 b hb'),kZ:=?_ }
  .intro t;rw[St.h_];exact(qe.keep (g':=g') (fun b hb'=>Or.inl hb') (fun _ _=>rfl) _).1 _ (st.slots t) (hkeep _)
  .intro r' R' ck;rw[bK]at ck;by_cases e:r'=r
   .subst e;rw[aj rfl]at ck;simp only[aK]at ck;subst ck;refine⟨F3,r3,fun b hb'=>?_,fun b e' hb'=>hB b e' (z.fr b (s3' b hb')),fun mV=>?_,oV⟩
    .simp only[g',aX];exact .inr hb'
    .obtain⟨b,h1,h2,h3⟩:=hmem mV;exact⟨b,h1,by simp only[g',aX];exact .inl h1,h3⟩
   .rw[af e]at ck;obtain⟨F1,q1,q2,q3,q4,q5⟩:=st.roots r' R' ck;refine⟨F1,az.mono (fun b hb'=>.inl hb') (fun _ _=>rfl) _ q1 (Sub.refl _) (fun _ _=>rfl),?_,q3,?_,q5⟩
    .simp only[g',af e];exact q2
    .intro mV;obtain⟨b,h1,h2,h3⟩:=q4 mV;exact⟨b,h1,by simp only[g',af e];exact h2,h3⟩
  .intro r1 r2 hne h1 h2;exact(st.d5 r1 r2 hne (hsome _ h1) (hsome _ h2)).mono (hsub _) (hsub _)
  .intro r1 h1;rintro b hb' (hz | hz)
   .exact st.er r1 (hsome _ h1) b (hsub _ b hb') hz
   .by_cases e:r1=r
    .subst e;simp only[g',aX]at hb';rcases hb' with hb' | hb'
     .exact hB b hb' (z.fr b (Wj b hz))
     .exact d3 b hb' hz
    .exact st.d5 r1 r e (hsome _ h1) bO b (hsub _ b hb') (Uv b hz)
  .intro r1 h1;rintro b hb' (hz | hz)
   .exact st.hand r1 (hsome _ h1) b (hsub _ b hb') hz
   .by_cases e:r1=r
    .subst e;simp only[g',aX]at hb';rcases hb' with hb' | hb'
     .exact hB b hb' (z.sub b hz)
     .exact z.d5 b hz (s3' b hb')
    .exact st.d5 r1 r e (hsome _ h1) bO b (hsub _ b hb') (pW b hz)
  .rintro b (hz | hz) (hy | hy)
   .exact st.bM b hz hy
   .exact st.hand r bO b (Uv b hy) hz
   .exact st.er r bO b (pW b hz) hy
   .exact z.d5 b hz (Wj b hy)
  .rintro b (hz | hz)
   .exact st.bQ b hz
   .exact st.cg r b bO (Uv b hz)
  .intro r1 b h1 hb';exact st.cg r1 b (hsome _ h1) (hsub _ b hb')
  .rintro b (hz | hz)
   .exact st.ep b hz
   .exact st.cg r b bO (pW b hz)
  .intro r' R' ck;rw[bK]at ck;by_cases e:r'=r
   .subst e;rw[aj rfl]at ck;simp only[aK]at ck;subst ck;exact aM.o4 p hm (st.tag _ R hR)
   .rw[af e]at ck;exact st.tag r' R' ck
  .intro r1 b h1 hb';exact st.own r1 b (hsome _ h1) (hsub _ b hb')
  .rintro b (hz | hz)
   .exact st.fc b hz
   .exact st.own r b bO (pW b hz)
  .rintro b (hz | hz)
   .exact st.kZ b hz
   .exact .inr (st.own r b bO (Uv b hz))
 .intro b hz hy;exact st.hand r bO b (pW b hz) hy
 .rintro b hz (hy | hy)
  .exact st.er r bO b (pW b hz) hy
  .exact z.d5 b hz (Wj b hy)
theorem aE.m4{h:Array Obj}{S:St}{g:aA}{tmps:Array Value}{H:BS}(st:aE h S g tmps H){r:Nat}{R:aC}{q:Path}{d:Dy}
  (hR:S.root r=some R) (hf:focus R.ty R.ms R.x q=some d) (hin:bu R.ty R.x q) :
  ∃base c F,cr h R.ty (g.C r) (g.base r) q=some (base,c)/\az h g.Pr d.ty d.ms d.x c F/\Sub F (g.G r)/\yS h base c F/\
   (∀b o,base=some (b,o)->g.G r b)/\
   ∀(lo hi:Nat)(h2:Array Obj)(m2:Mk)(y:d.ty.den)(c2:List Value)(F2 Dd:BS)(m':Mk)(x':R.ty.den),
    (∀t,(S.get t).aQ lo hi=true)->
    (∀b,b<h.size->¬ F b->(∀o,base≠some (b,o))->h2[b]? = h[b]?)->h.size<=h2.size->zj h h2 base c2->
    az h2 (Un g.Pr Dd) d.ty m2 y c2 F2->cB Dd F2->(∀b,F2 b\/Dd b->F b\/H b\/h.size<=b)->(∀b,F2 b\/Dd b->b<h2.size)->
    put R.ty R.ms R.x q d.ty m2 y=some (m',x')->d.ms.nE lo hi m2->aM g.hd d.ty m2 c2->(qx q=true->m2.ax=true)->
    (∀p' t1 n1,jH lo hi p'=true->q8 d.ty m2 p'=some (t1,n1)->bu d.ty d.x p'->bu d.ty y p'/\∀bp cp,cr h d.ty c base p'=some (bp,cp)->
     ∃iR,cr h2 d.ty c2 base p'=some (bp,iR)/\(∀s a,n1=.own s a->¬ (lo<=s/\s<hi)->iR=cp))->
    ∃g',aE h2 (S.aI r (some { R with ms:=m',x:=x' })) g' tmps (fun b=>(H b\/F b\/(h.size<=b/\b<h2.size))/\¬ (F2 b\/Dd b))/\Sub g.Pr g'.Pr/\Sub Dd g'.Pr/\g'.cR g/\g'.B=g.B/\(∀b,g.Pr b->h2[b]? = h[b]?)/\
     ∀a:AV,a.aQ lo hi=true->a.dw h h2 S (S.aI r (some { R with ms:=m',x:=x' })) g g':=by
 obtain⟨F0,rep,hF,hB,hmem,oV⟩:=st.roots r R hR;have hb:=st.rZ hR rep hB hmem oV;obtain⟨base,c,F,Fr,z⟩:=zip q _ _ _ _ F0 _ d rep hf hin hb;have bO:(S.root r).isSome:=by rw[hR];rfl
 have pW:Sub F (g.G r):=fun b hb'=>hF b (z.sub b hb');have vH:Sub Fr (g.G r):=fun b hb'=>hF b (z.fr b hb');have wL:∀b o,g.base r=some (b,o)->g.B r=some b/\g.G r b:=by
  intro b o e;simp only[aA.base,fq]at e;obtain⟨b',e,e'⟩:=e;simp only[aY]at e';obtain⟨rfl,rfl⟩:=e';refine⟨e,?_⟩;cases mV:R.mem with
  | false=>rw[oV mV]at e;simp at e
  | true=>obtain⟨b2,h1,h2,_⟩:=hmem mV;rw[e]at h1;simp only[aK]at h1;subst h1;exact h2
 have XJ:∀b o,base=some (b,o)->g.G r b:=by
  intro b o e;rcases z.home b o e with h1 | ⟨o0,h1⟩
  .exact vH b h1
  .exact(wL b o0 h1).2
 refine⟨base,c,F,z.at_,z.rep,pW,z.ok,XJ,?_⟩;intro lo hi h2 m2 y c2 F2 Dd m' x' hs hk hsz hu r2 hdF tW WB hput tv ni oE hbase;have g9:c2.length=d.ty.width:=az.width d.ty r2;have KW:∀b,Fr b->(∀o,base≠some (b,o))->h2[b]? = h[b]?:=fun b hb' hn=>
  hk b (st.cg r b bO (vH b hb')) (fun hz=>z.d5 b hz hb') hn
 have Jh:∀b,g.Pr b->h2[b]? = h[b]?:=fun b hb'=>
  hk b (st.bQ b hb') (fun hz=>st.er r bO b (pW b hz) hb') (fun o e=>st.er r bO b (XJ b o e) hb')
 have UE:∀r',r'≠r->(S.root r').isSome->∀b,g.G r' b->h2[b]? = h[b]?:=fun r' hne h1 b hb'=>
  hk b (st.cg r' b h1 hb') (fun hz=>st.d5 r' r hne h1 bO b hb' (pW b hz)) (fun o e=>st.d5 r' r hne h1 bO b hb' (XJ b o e))
 have hdD:cB Dd Fr:=by
  intro b hz hy;rcases tW b (.inr hz) with h1 | h1 | h1
  .exact z.d5 b h1 hy
  .exact st.hand r bO b (vH b hy) h1
  .have:=st.cg r b bO (vH b hy);omega
 have Af:cB F2 Fr:=by
  intro b hz hy;rcases tW b (.inl hz) with h1 | h1 | h1
  .exact z.d5 b h1 hy
  .exact st.hand r bO b (vH b hy) h1
  .have:=st.cg r b bO (vH b hy);omega
 obtain⟨F3,D3,s3,sd,d3,r3⟩:=z.vC h2 (Un g.Pr Dd) m2 y c2 F2 m' x' (fun b hb'=>.inl hb') Jh KW hu r2 Af hput;obtain⟨Ly,ia⟩:=z.paths lo hi h2 m2 y c2 m' x' KW hu g9 hput tv hbase;have r3:=az.mono (fP:=Un g.Pr (fun b=>Dd b\/D3 b)) (fun b hb'=>hb'.elim (fun h=>h.imp id .inl) (fun h=>.inr (.inr h))) (fun _ _=>rfl) _ r3 (Sub.refl _) (fun _ _=>rfl);have zC:∀b,F3 b->Fr b\/(F2 b\/Dd b):=fun b hb'=>(s3 b hb').imp id .inl;have Lp:∀b,Dd b\/D3 b->Fr b\/(F2 b\/Dd b):=fun b hb'=>hb'.elim (fun h=>.inr (.inr h)) (fun h=>(sd b h).imp id .inl);have WV:∀b,F3 b->Dd b->False:=fun b h1 h2=>(s3 b h1).elim (fun h3=>hdD b h2 h3) (fun h3=>hdF b h2 h3);have hlt:=St.o9 hR
 let cn:List Value:=if qx q then g.C r else bT (g.C r) (eF R.ty q) c2
 let g':aA:=⟨Un g.Pr (fun b=>Dd b\/D3 b),fun r1=>if r1=r then cn else g.C r1,g.B,fun r1=>if r1=r then (fun b=>g.B r=some b\/F3 b) else g.G r1,g.hd,g.L,g.P0⟩
 have bK:∀r',(S.aI r (some { R with ms:=m',x:=x' })).root r'=if r'=r then some { R with ms:=m',x:=x' } else S.root r':=by intro r';rw[St.b6];simp[hlt]
 have hsome:∀r',((S.aI r (some { R with ms:=m',x:=x' })).root r').isSome->(S.root r').isSome:=by
  intro r' h1;rw[bK]at h1;split at h1
  .rename_i e;subst e;exact bO
  .exact h1
 have jx:∀b,g.B r=some b->g.G r b/\¬ F0 b:=by intro b e;refine⟨(wL b 0 (by simp[aA.base,e])).2,hB b e⟩
 -- where new alR may lie
 have hnew:∀b,Fr b\/(F2 b\/Dd b)->(g.G r b/\F0 b)\/H b\/h.size<=b:=by
  rintro b (hz | hz)
  .exact .inl ⟨vH b hz,z.fr b hz⟩
  .rcases tW b hz with h1 | h1 | h1
   .exact .inl ⟨pW b h1,z.sub b h1⟩
   .exact .inr (.inl h1)
   .exact .inr (.inr h1)
 have w7:∀r1,r1≠r->(S.root r1).isSome->∀b,g.G r1 b->Fr b\/(F2 b\/Dd b)->False:=by
  intro r1 hne h1 b hb' hz;rcases hnew b hz with h3 | h3 | h3
  .exact st.d5 r1 r hne h1 bO b hb' h3.1
  .exact st.hand r1 h1 b hb' h3
  .have:=st.cg r1 b h1 hb';omega
 have Lb:∀b,g.Pr b->Fr b\/(F2 b\/Dd b)->False:=by
  intro b hb' hz;rcases hnew b hz with h3 | h3 | h3
  .exact st.er r bO b h3.1 hb'
  .exact st.bM b h3 hb'
  .have:=st.bQ b hb';omega
 have C0:∀b,g.B r=some b->Fr b\/(F2 b\/Dd b)->False:=by
  intro b hb' hz;rcases hnew b hz with h3 | h3 | h3
  .exact(jx b hb').2 h3.2
  .exact st.hand r bO b (jx b hb').1 h3
  .have:=st.cg r b bO (jx b hb').1;omega
 have CZ:∀b,Fr b\/(F2 b\/Dd b)->b<h2.size:=by
  rintro b (hz | hz)
  .have:=st.cg r b bO (vH b hz);omega
  .exact WB b hz
 have C1:∀b,Fr b\/(F2 b\/Dd b)->g.L b:=by
  intro b hz;rcases hnew b hz with h3 | h3 | h3
  .exact st.own r b bO h3.1
  .exact st.fc b h3
  .exact st.fY b h3
 have hkeep:∀a:AV,a.aQ lo hi=true->a.dw h h2 S (S.aI r (some { R with ms:=m',x:=x' })) g g':=by
  intro a ha;refine AV.xy (lo:=lo) (hi:=hi) (fun r' p' hp=>?_) (fun r' p' s' hp hs'=>?_) a ha
  .by_cases e:r'=r
   .subst e;intro R' ck d' hf';rw[bK,aj rfl]at ck;simp only[aK]at ck;subst ck;have gX:=ve p' hf';obtain⟨n0,h1,_⟩:=Cm p' Ly hp gX;obtain⟨y',h3⟩:=zO p' R.x h1;refine⟨R,_,hR,h3,fun r8=>?_⟩;obtain⟨h4,h5⟩:=ia p' _ _ hp gX r8;refine⟨h4,fun bs cc ha=>?_⟩;obtain⟨iR,h6,_⟩:=h5 bs cc ha;exact⟨iR,by simp only[g',aX];exact h6⟩
   .exact(nP (g':=g') st (.inl (by rw[bK,af e])) (by simp only[g',af e]) rfl (fun h1 b hb'=>UE r' e h1 b hb')).1 p'
  .by_cases e:r'=r
   .subst e;intro R' ck t' mq xs hf';rw[bK,aj rfl]at ck;simp only[aK]at ck;subst ck;have gX:=ve p' hf';obtain⟨n0,h1,h3⟩:=Cm p' Ly hp gX;rcases h3 with h3 | ⟨a,rfl,_⟩
    .exact absurd h3 hs'
    .obtain⟨y',h4⟩:=zO p' R.x h1;refine⟨R,a,y',hR,h4,fun r8=>?_⟩;obtain⟨h5,h6⟩:=ia p' _ _ hp gX r8;refine⟨h5,fun bs cc ha=>?_⟩;obtain⟨iR,h7,h8⟩:=h6 bs cc ha;rw[h8 _ _ rfl hs']at h7;simp only[g',aX];exact h7
   .exact(nP (g':=g') st (.inl (by rw[bK,af e])) (by simp only[g',af e]) rfl (fun h1 b hb'=>UE r' e h1 b hb')).2 p' s'
 refine⟨g',?_,fun b hb'=>.inl hb',fun b hb'=>.inr (.inl hb'),⟨rfl,rfl,rfl⟩,rfl,Jh,hkeep⟩;refine { len:=st.len,gy:=by simp[St.aI,aO.bX,st.gy],slots:=?_,roots:=?_,d5:=?_,er:=?_,hand:=?_,bM:=?_,bQ:=?_,cg:=?_,ep:=?_,tag:=?_,own:=?_,fc:=fun b hz=>hz.1.elim (st.fc b) (fun h=>h.elim (fun h=>st.own r b bO (pW b h)) (fun h=>st.fY b h.1)),fY:=fun b hb'=>st.fY b (by omega),p0:=fun b hb'=>.inl (st.p0 b hb'),kZ:=?_ }
 .intro t;rw[St.h_];exact(qe.keep (g':=g') (fun b hb'=>Or.inl hb') Jh _).1 _ (st.slots t) (hkeep _ (hs t))
 .intro r' R' ck;rw[bK]at ck;by_cases e:r'=r
  .subst e;rw[aj rfl]at ck;simp only[aK]at ck;subst ck;refine⟨F3,by simp only[g',aX];exact r3,fun b hb'=>by simp only[g',aX];exact .inr hb',fun b e' hb'=>C0 b e' (zC b hb'),fun mV=>?_,oV⟩;obtain⟨b,h1,h3,h4⟩:=hmem mV;refine⟨b,h1,by simp only[g',aX];exact .inl h1,?_⟩;simp only[g',aX,cn];by_cases hi':qx q=true
   .simp only[hi',aX];obtain⟨b',o,e1,e2⟩:=z.idx hi';refine h4.congr (hk b (st.cg r' b bO h3) (fun hz=>hB b h1 (z.sub b hz)) fun o' e'=>?_);rw[e1]at e';simp only[aK,aY]at e';obtain⟨rfl,_⟩:=e';exact hB _ h1 (z.fr _ e2)
   .have hi2:qx q=false:=by simpa using hi'
    obtain⟨e1,e2,e3⟩:=z.plain hi2;simp only[hi2,fh,dZ];simp only[aA.base,h1,d_,kB]at e1;obtain⟨gC,ho,ht⟩:=hu b _ e1 _ h4;have:gC=(bT (g.C r') (eF R.ty q) c2).toArray:=by apply Array.toList_inj.1;rw[ht]
    rw[<-this];exact ho
  .rw[af e]at ck;have h1:(S.root r').isSome:=by rw[ck];rfl
   obtain⟨F1,q1,q2,q3,q4,q5⟩:=st.roots r' R' ck;refine⟨F1,?_,?_,q3,?_,q5⟩
   .simp only[g',af e];exact az.mono (fun b hb'=>.inl hb') Jh _ q1 (Sub.refl _) (fun b hb'=>UE r' e h1 b (q2 b hb'))
   .simp only[g',af e];exact q2
   .intro mV;obtain⟨b,h3,h4,h5⟩:=q4 mV;refine⟨b,h3,by simp only[g',af e];exact h4,?_⟩;simp only[g',af e];exact h5.congr (UE r' e h1 b h4)
 .intro r1 DJ hne h1 h3;have k1:=hsome _ h1;have k2:=hsome _ h3;intro b bP gw;by_cases e1:r1=r
  .subst e1;have e2:DJ≠r1:=fun e=>hne e.symm;simp only[g',aX]at bP;simp only[g',af e2]at gw;rcases bP with bP | bP
   .exact st.d5 r1 DJ hne k1 k2 b (jx b bP).1 gw
   .exact w7 DJ e2 k2 b gw (zC b bP)
  .simp only[g',af e1]at bP;by_cases e2:DJ=r
   .subst e2;simp only[g',aX]at gw;rcases gw with gw | gw
    .exact st.d5 r1 DJ hne k1 k2 b bP (jx b gw).1
    .exact w7 r1 e1 k1 b bP (zC b gw)
   .simp only[g',af e2]at gw;exact st.d5 r1 DJ hne k1 k2 b bP gw
 .intro r1 h1;have k1:=hsome _ h1;rintro b bP (hz | hz)
  .by_cases e1:r1=r
   .subst e1;simp only[g',aX]at bP;rcases bP with bP | bP
    .exact st.er r1 k1 b (jx b bP).1 hz
    .exact Lb b hz (zC b bP)
   .simp only[g',af e1]at bP;exact st.er r1 k1 b bP hz
  .by_cases e1:r1=r
   .subst e1;simp only[g',aX]at bP;rcases bP with bP | bP
    .exact C0 b bP (Lp b hz)
    .exact hz.elim (WV b bP) (d3 b bP)
   .simp only[g',af e1]at bP;exact w7 r1 e1 k1 b bP (Lp b hz)
 .intro r1 h1;have k1:=hsome _ h1;rintro b bP ⟨hz,XW⟩;by_cases e1:r1=r
  .subst e1;simp only[g',aX]at bP;rcases bP with bP | bP
   .exact hz.elim (st.hand r1 k1 b (jx b bP).1) (fun h=>h.elim (fun h=>(jx b bP).2 (z.sub b h)) (fun h=>absurd (st.cg r1 b k1 (jx b bP).1) (by omega)))
   .rcases s3 b bP with h3 | h3
    .exact hz.elim (st.hand r1 k1 b (vH b h3)) (fun h=>h.elim (fun h=>z.d5 b h h3) (fun h=>absurd (st.cg r1 b k1 (vH b h3)) (by omega)))
    .exact XW (.inl h3)
  .simp only[g',af e1]at bP;exact hz.elim (st.hand r1 k1 b bP) (fun h=>h.elim (fun h=>st.d5 r1 r e1 k1 bO b bP (pW b h)) (fun h=>absurd (st.cg r1 b k1 bP) (by omega)))
 .rintro b ⟨hz,XW⟩ (hy | hy)
  .exact hz.elim (fun h=>st.bM b h hy) (fun h=>h.elim (fun h=>st.er r bO b (pW b h) hy) (fun h=>absurd (st.bQ b hy) (by omega)))
  .rcases Lp b hy with h3 | h3
   .exact hz.elim (st.hand r bO b (vH b h3)) (fun h=>h.elim (fun h=>z.d5 b h h3) (fun h=>absurd (st.cg r b bO (vH b h3)) (by omega)))
   .exact XW h3
 .rintro b (hz | hz)
  .have:=st.bQ b hz;omega
  .exact CZ b (Lp b hz)
 .intro r1 b h1 bP;have k1:=hsome _ h1;by_cases e1:r1=r
  .subst e1;simp only[g',aX]at bP;rcases bP with bP | bP
   .have:=st.cg r1 b k1 (jx b bP).1;omega
   .exact CZ b (zC b bP)
  .simp only[g',af e1]at bP;have:=st.cg r1 b k1 bP;omega
 .rintro b ⟨hz | hz | hz,_⟩
  .have:=st.ep b hz;omega
  .have:=st.cg r b bO (pW b hz);omega
  .exact hz.2
 .intro r' R' ck;rw[bK]at ck;by_cases e:r'=r
  .subst e;rw[aj rfl]at ck;simp only[aK]at ck;subst ck;simp only[g',aX,cn];exact aM.put q hput (st.tag r' R hR) ni oE (az.width R.ty rep) g9
  .rw[af e]at ck;simp only[g',af e];exact st.tag r' R' ck
 .intro r1 b h1 bP;have k1:=hsome _ h1;by_cases e1:r1=r
  .subst e1;simp only[g',aX]at bP;rcases bP with bP | bP
   .exact st.own r1 b k1 (jx b bP).1
   .exact C1 b (zC b bP)
  .simp only[g',af e1]at bP;exact st.own r1 b k1 bP
 .rintro b (hz | hz)
  .exact st.kZ b hz
  .exact .inr (C1 b (Lp b hz))
theorem aE.grow{h h2:Array Obj}{S:St}{g:aA}{tmps:Array Value}{H:BS}(st:aE h S g tmps H)(hk:∀b,b<h.size->h2[b]? = h[b]?)(hsz:h.size<=h2.size)
  (H2:BS) (Ab:∀b,H2 b->H b\/(h.size<=b/\b<h2.size)):aE h2 S g tmps H2 where
 len:=st.len
 gy:=st.gy
 slots:=by
  intro t;refine(qe.keep (Sub.refl _) (fun b hb=>hk b (st.bQ b hb)) _).1 _ (st.slots t) (AV.ef (fun r p=>?_) (fun r p s=>?_) _)
  .exact(nP st (.inl rfl) rfl rfl (fun h1 b hb=>hk b (st.cg r b h1 hb))).1 p
  .exact(nP st (.inl rfl) rfl rfl (fun h1 b hb=>hk b (st.cg r b h1 hb))).2 p s
 roots:=by
  intro r R hR;have h1:(S.root r).isSome:=by rw[hR];rfl
  obtain⟨F,q1,q2,q3,q4,q5⟩:=st.roots r R hR;refine⟨F,az.mono (Sub.refl _) (fun b hb=>hk b (st.bQ b hb)) _ q1 (Sub.refl _) (fun b hb=>hk b (st.cg r b h1 (q2 b hb))),q2,q3,?_,q5⟩;intro hm;obtain⟨b,e1,e2,e3⟩:=q4 hm;exact⟨b,e1,e2,e3.congr (hk b (st.cg r b h1 e2))⟩
 d5:=st.d5
 er:=st.er
 hand:=by
  intro r h1 b hb hz;rcases Ab b hz with h3 | h3
  .exact st.hand r h1 b hb h3
  .have:=st.cg r b h1 hb;omega
 bM:=by
  intro b hz hb;rcases Ab b hz with h3 | h3
  .exact st.bM b h3 hb
  .have:=st.bQ b hb;omega
 bQ:=fun b hb=>by have:=st.bQ b hb;omega
 cg:=fun r b h1 hb=>by have:=st.cg r b h1 hb;omega
 ep:=by
  intro b hz;rcases Ab b hz with h3 | h3
  .have:=st.ep b h3;omega
  .exact h3.2
 tag:=st.tag
 own:=st.own
 fc:=by
  intro b hz;rcases Ab b hz with h3 | h3
  .exact st.fc b h3
  .exact st.fY b h3.1
 fY:=fun b hb=>st.fY b (by omega)
 p0:=st.p0
 kZ:=st.kZ
theorem qe.grow{h h2:Array Obj}{S:St}{g:aA}{tmps:Array Value}{H:BS}(st:aE h S g tmps H)(hk:∀b,b<h.size->h2[b]? = h[b]?){a:AV}{v:Value}
  (x:qe h S g a v):qe h2 S g a v:=by
 refine(qe.keep (Sub.refl _) (fun b hb=>hk b (st.bQ b hb)) _).1 _ x (AV.ef (fun r p=>?_) (fun r p s=>?_) _)
 .exact(nP st (.inl rfl) rfl rfl (fun h1 b hb=>hk b (st.cg r b h1 hb))).1 p
 .exact(nP st (.inl rfl) rfl rfl (fun h1 b hb=>hk b (st.cg r b h1 hb))).2 p s
theorem aE.cP{h:Array Obj}{S:St}{g:aA}{tmps:Array Value}{H:BS}(st:aE h S g tmps H)(D:BS)(hD:Sub D H) :
  aE h S { g with Pr:=Un g.Pr D } tmps (fun b=>H b/\¬ D b) where
 len:=st.len
 gy:=st.gy
 slots:=by
  intro t;refine(qe.keep (g':={ g with Pr:=Un g.Pr D }) (fun b hb=>Or.inl hb) (fun _ _=>rfl) _).1 _ (st.slots t) (AV.ef (fun r p=>?_) (fun r p s=>?_) _)
  .exact(nP (g':={ g with Pr:=Un g.Pr D }) st (.inl rfl) rfl rfl (fun _ _ _=>rfl)).1 p
  .exact(nP (g':={ g with Pr:=Un g.Pr D }) st (.inl rfl) rfl rfl (fun _ _ _=>rfl)).2 p s
 roots:=by intro r R hR;obtain⟨F,q1,q2⟩:=st.roots r R hR;exact⟨F,az.mono (fun b hb=>.inl hb) (fun _ _=>rfl) _ q1 (Sub.refl _) (fun _ _=>rfl),q2⟩
 d5:=st.d5
 er:=by
  rintro r h1 b hb (hz | hz)
  .exact st.er r h1 b hb hz
  .exact st.hand r h1 b hb (hD b hz)
 hand:=fun r h1 b hb hz=>st.hand r h1 b hb hz.1
 bM:=by
  rintro b ⟨hz,hn⟩ (hb | hb)
  .exact st.bM b hz hb
  .exact hn hb
 bQ:=by
  rintro b (hb | hb)
  .exact st.bQ b hb
  .exact st.ep b (hD b hb)
 cg:=st.cg
 ep:=fun b hz=>st.ep b hz.1
 tag:=st.tag
 own:=st.own
 fc:=fun b hz=>st.fc b hz.1
 fY:=st.fY
 p0:=fun b hb=>.inl (st.p0 b hb)
 kZ:=by
  rintro b (hb | hb)
  .exact st.kZ b hb
  .exact .inr (st.fc b (hD b hb))
theorem aE.bB{h:Array Obj}{S:St}{g:aA}{tmps:Array Value}{H H':BS}(st:aE h S g tmps H)(hs:Sub H' H):aE h S g tmps H' where
 len:=st.len
 gy:=st.gy
 slots:=st.slots
 roots:=st.roots
 d5:=st.d5
 er:=st.er
 hand:=fun r h1 b hb hz=>st.hand r h1 b hb (hs b hz)
 bM:=fun b hz hb=>st.bM b (hs b hz) hb
 bQ:=st.bQ
 cg:=st.cg
 ep:=fun b hz=>st.ep b (hs b hz)
 tag:=st.tag
 own:=st.own
 fc:=fun b hz=>st.fc b (hs b hz)
 fY:=st.fY
 p0:=st.p0
 kZ:=st.kZ
theorem MF{a b:Nat}:Nat.beq a b=true↔a=b:=⟨mS,fun e=>e ▸ Nat.beq_refl a⟩
theorem AV.ur{lo hi d:Nat}{h h':Array Obj}{S S':St}{g g':aA}(hA:∀r p,r≠d->tK h h' S S' g g' r p)(hB:∀r p s,r≠d->qV h h' S S' g g' r p s)
  (dA:∀p,jH lo hi p=true->qx p=true->tK h h' S S' g g' d p)
  (dB:∀p s,jH lo hi p=true->¬ (lo<=s/\s<hi)->qV h h' S S' g g' d p s):∀a:AV,a.aQ lo hi=true->a.gJ d=true->a.dw h h' S S' g g':=by
 have hs:∀s,(!(Nat.ble lo s&&Nat.blt s hi))=true->¬ (lo<=s/\s<hi):=by intro s h1 h2;rw[Nu h2]at h1;simp at h1
 intro a
 induction a with
 | b9 r p s=>
  intro h1 _;simp only[AV.aQ,bI]at h1;by_cases e:r=d
  .subst e;exact dB p s h1.2 (hs s h1.1)
  .exact hB r p s e
 | view r p s l1 tV=>
  intro h1 _;simp only[AV.aQ,bI]at h1;by_cases e:r=d
  .subst e;exact dB p s h1.2 (hs s h1.1)
  .exact hB r p s e
 | addr r p=>
  intro h1 h2;by_cases e:r=d
  .subst e;simp only[AV.gJ,Nat.beq_refl,cJ,sD]at h2;exact dA p h1 h2
  .exact hA r p e
 | pair a b fU kS=>intro h1 h2;simp only[AV.aQ,AV.gJ,bI]at h1 h2;exact⟨fU h1.1 h2.1,kS h1.2 h2.2⟩
 | jJ a fU=>intro h1 h2;exact fU h1 h2
 | gH f a fU=>intro h1 h2;exact fU h1 h2
 | _=>intro _ _;trivial
theorem AV.uq{d:Nat}{h h':Array Obj}{S S':St}{g g':aA}(hA:∀r p,r≠d->tK h h' S S' g g' r p)(hB:∀r p s,r≠d->qV h h' S S' g g' r p s) :
  ∀a:AV,a.roots.contains d=false->a.dw h h' S S' g g':=by
 intro a
 induction a with
 | b9 r p s=>intro h1;exact hB r p s (by simp[AV.roots]at h1;exact fun e=>h1 e.symm)
 | view r p s _ _=>intro h1;exact hB r p s (by simp[AV.roots]at h1;exact fun e=>h1 e.symm)
 | addr r p=>intro h1;exact hA r p (by simp[AV.roots]at h1;exact fun e=>h1 e.symm)
 | pair a b fU kS=>intro h1;simp only[AV.roots,FG,nG,bN,zI]at h1;exact⟨fU (by simpa using h1.1),kS (by simpa using h1.2)⟩
 | jJ a fU=>intro h1;exact fU (by simpa [AV.roots] using h1)
 | gH f a fU=>intro h1;exact fU (by simpa [AV.roots] using h1)
 | _=>intro _;trivial
theorem aE.kU{h:Array Obj}{S:St}{g:aA}{tmps:Array Value}{H:BS}(st:aE h S g tmps H){d:Nat}(hd:d<S.rt.length)
  {t:Ty} {m:Mk} {x:t.den} {c:List Value} {F:BS} (rep:az h g.Pr t m x c F) (ni:aM g.hd t m c) (hF:Sub F H) (ob:Option Nat)
  (w8:∀b,ob=some b->H b/\¬ F b/\jz h b c.toArray)
  (hs:∀u,(S.get u).roots.contains d=false\/(∃lo hi,(S.get u).aQ lo hi=true/\(S.get u).gJ d=true/\m.fresh lo hi/\ob=none)) :
  ∃g',aE h (S.aI d (some ⟨t,m,x,ob.isSome⟩)) g' tmps (fun b=>H b/\¬ F b/\ob≠some b)/\g'.Pr=g.Pr/\g'.cR g/\g'.C d=c/\g'.B d=ob/\
   ∀a:AV,(a.roots.contains d=false\/(∃lo hi,a.aQ lo hi=true/\a.gJ d=true/\m.fresh lo hi/\ob=none))->a.dw h h S (S.aI d (some ⟨t,m,x,ob.isSome⟩)) g g':=by
 let g':aA:=⟨g.Pr,fun r1=>if r1=d then c else g.C r1,fun r1=>if r1=d then ob else g.B r1,fun r1=>if r1=d then (fun b=>F b\/ob=some b) else g.G r1,g.hd,g.L,g.P0⟩
 have bK:∀r',(S.aI d (some ⟨t,m,x,ob.isSome⟩)).root r'=if r'=d then some ⟨t,m,x,ob.isSome⟩ else S.root r':=by intro r';rw[St.b6];simp[hd]
 have hsome:∀r',r'≠d->((S.aI d (some ⟨t,m,x,ob.isSome⟩)).root r').isSome->(S.root r').isSome:=by intro r' hne h1;rwa [bK,af hne]at h1
 have CS:∀b,(F b\/ob=some b)->H b:=by
  rintro b (hb | hb)
  .exact hF b hb
  .exact(w8 b hb).1
 have hA:∀r p,r≠d->tK h h S (S.aI d (some ⟨t,m,x,ob.isSome⟩)) g g' r p:=fun r p e=>
  (nP (g':=g') st (.inl (by rw[bK,af e])) (by simp only[g',af e]) (by simp only[g',af e]) (fun _ _ _=>rfl)).1 p
 have hB:∀r p s,r≠d->qV h h S (S.aI d (some ⟨t,m,x,ob.isSome⟩)) g g' r p s:=fun r p s e=>
  (nP (g':=g') st (.inl (by rw[bK,af e])) (by simp only[g',af e]) (by simp only[g',af e]) (fun _ _ _=>rfl)).2 p s
 have hkeep:∀a:AV,(a.roots.contains d=false\/(∃lo hi,a.aQ lo hi=true/\a.gJ d=true/\m.fresh lo hi/\ob=none))->a.dw h h S (S.aI d (some ⟨t,m,x,ob.isSome⟩)) g g':=by
  intro a hsa;rcases hsa with h1 | ⟨lo,hi,h1,h2,h3,h4⟩
  .exact AV.uq hA hB _ h1
  .refine AV.ur (lo:=lo) (hi:=hi) (d:=d) hA hB (fun p hp hi'=>?_) (fun p s hp hs'=>?_) _ h1 h2
   .intro R' ck d' hf';rw[bK,aj rfl]at ck;simp only[aK]at ck;subst ck;have:=(Dr p h3 hp (ve p hf')).1;rw[this]at hi';simp at hi'
   .intro R' ck t' mq xs hf';rw[bK,aj rfl]at ck;simp only[aK]at ck;subst ck;exact absurd (Dr p h3 hp (ve p hf')).2 hs'
 refine⟨g',?_,rfl,⟨rfl,rfl,rfl⟩,by simp[g'],by simp[g'],hkeep⟩;refine { len:=st.len,gy:=by simp[St.aI,aO.bX,st.gy],slots:=?_,roots:=?_,d5:=?_,er:=?_,hand:=?_,bM:=fun b hz hb=>st.bM b hz.1 hb,bQ:=st.bQ,cg:=?_,ep:=fun b hz=>st.ep b hz.1,tag:=?_,own:=?_,fc:=fun b hz=>st.fc b hz.1,fY:=st.fY,p0:=st.p0,kZ:=st.kZ }
 .intro u;rw[St.h_];exact(qe.keep (g:=g) (g':=g') (Sub.refl _) (fun _ _=>rfl) _).1 _ (st.slots u) (hkeep _ (hs u))
 .intro r' R' ck;rw[bK]at ck;by_cases e:r'=d
  .subst e;rw[aj rfl]at ck;simp only[aK]at ck;subst ck;refine⟨F,by simp only[g',aX];exact rep,fun b hb=>by simp only[g',aX];exact .inl hb,fun b e' hb=>?_,fun hm=>?_,fun hm=>?_⟩
   .simp only[g',aX]at e';exact(w8 b e').2.1 hb
   .simp only[yd]at hm;obtain⟨b,hm⟩:=hm;exact⟨b,by simp only[g',aX];exact hm,by simp only[g',aX];exact .inr hm,by simp only[g',aX];exact(w8 b hm).2.2⟩
   .simp only[g',aX];cases ob with
    | none=>rfl
    | some b=>simp at hm
  .rw[af e]at ck;obtain⟨F1,q1,q2,q3,q4,q5⟩:=st.roots r' R' ck;exact⟨F1,by simp only[g',af e];exact q1,by simp only[g',af e];exact q2,by simp only[g',af e];exact q3,by simp only[g',af e];exact q4,by simp only[g',af e];exact q5⟩
 .intro r1 r2 hne h1 h2 b bP gw;by_cases e1:r1=d
  .subst e1;have e2:r2≠r1:=fun e=>hne e.symm;simp only[g',aX]at bP;simp only[g',af e2]at gw;exact st.hand r2 (hsome _ e2 h2) b gw (CS b bP)
  .simp only[g',af e1]at bP;by_cases e2:r2=d
   .subst e2;simp only[g',aX]at gw;exact st.hand r1 (hsome _ e1 h1) b bP (CS b gw)
   .simp only[g',af e2]at gw;exact st.d5 r1 r2 hne (hsome _ e1 h1) (hsome _ e2 h2) b bP gw
 .intro r1 h1 b bP hp;by_cases e1:r1=d
  .subst e1;simp only[g',aX]at bP;exact st.bM b (CS b bP) hp
  .simp only[g',af e1]at bP;exact st.er r1 (hsome _ e1 h1) b bP hp
 .rintro r1 h1 b bP ⟨hz,hn,hn2⟩;by_cases e1:r1=d
  .subst e1;simp only[g',aX]at bP;rcases bP with bP | bP
   .exact hn bP
   .exact hn2 bP
  .simp only[g',af e1]at bP;exact st.hand r1 (hsome _ e1 h1) b bP hz
 .intro r1 b h1 bP;by_cases e1:r1=d
  .subst e1;simp only[g',aX]at bP;exact st.ep b (CS b bP)
  .simp only[g',af e1]at bP;exact st.cg r1 b (hsome _ e1 h1) bP
 .intro r' R' ck;rw[bK]at ck;by_cases e:r'=d
  .subst e;rw[aj rfl]at ck;simp only[aK]at ck;subst ck;simp only[g',aX];exact ni
  .rw[af e]at ck;simp only[g',af e];exact st.tag r' R' ck
 .intro r1 b h1 bP;by_cases e1:r1=d
  .subst e1;simp only[g',aX]at bP;exact st.fc b (CS b bP)
  .simp only[g',af e1]at bP;exact st.own r1 b (hsome _ e1 h1) bP
theorem aE.wG{h:Array Obj}{S:St}{g:aA}{tmps:Array Value}{H:BS}(st:aE h S g tmps H)(d:Nat):aE h (S.aI d none) g tmps H:=by
 have bK:∀r',(S.aI d none).root r'=S.root r'\/(S.aI d none).root r'=none:=by intro r';rw[St.b6];by_cases e:r'=d/\d<S.rt.length<;>simp[e]
 have hsome:∀r',((S.aI d none).root r').isSome->(S.root r').isSome:=by
  intro r' h1;rcases bK r' with e | e
  .rwa [e]at h1
  .rw[e]at h1;simp at h1
 refine { len:=st.len,gy:=by simp[St.aI,aO.bX,st.gy],slots:=?_,roots:=?_,d5:=fun r r' hn h1 h2=>st.d5 r r' hn (hsome _ h1) (hsome _ h2),er:=fun r h1=>st.er r (hsome _ h1),hand:=fun r h1=>st.hand r (hsome _ h1),bM:=st.bM,bQ:=st.bQ,cg:=fun r b h1 hb=>st.cg r b (hsome _ h1) hb,ep:=st.ep,tag:=?_,own:=fun r b h1 hb=>st.own r b (hsome _ h1) hb,fc:=st.fc,fY:=st.fY,p0:=st.p0,kZ:=st.kZ }
 .intro t;rw[St.h_];refine(qe.keep (Sub.refl _) (fun _ _=>rfl) _).1 _ (st.slots t) (AV.ef (fun r p=>?_) (fun r p s=>?_) _)
  .exact(nP st (bK r) rfl rfl (fun _ _ _=>rfl)).1 p
  .exact(nP st (bK r) rfl rfl (fun _ _ _=>rfl)).2 p s
 .intro r R hR;rcases bK r with e | e
  .rw[e]at hR;exact st.roots r R hR
  .rw[e]at hR;simp at hR
 .intro r R hR;rcases bK r with e | e
  .rw[e]at hR;exact st.tag r R hR
  .rw[e]at hR;simp at hR
theorem aE.update{h:Array Obj}{S:St}{g:aA}{tmps:Array Value}{H:BS}(st:aE h S g tmps H){r:Nat}{R:aC}{q:Path}{d:Dy}
  (hR:S.root r=some R) (hf:focus R.ty R.ms R.x q=some d) (hin:bu R.ty R.x q) :
  ∃base c F,cr h R.ty (g.C r) (g.base r) q=some (base,c)/\az h g.Pr d.ty d.ms d.x c F/\Sub F (g.G r)/\yS h base c F/\
   (∀b o,base=some (b,o)->g.G r b)/\
   ∀(lo hi:Nat)(h2:Array Obj)(m2:Mk)(y:d.ty.den)(c2:List Value)(F2:BS)(m':Mk)(x':R.ty.den),
    (∀t,(S.get t).aQ lo hi=true)->
    (∀b,b<h.size->¬ F b->(∀o,base≠some (b,o))->h2[b]? = h[b]?)->h.size<=h2.size->zj h h2 base c2->
    az h2 g.Pr d.ty m2 y c2 F2->(∀b,F2 b->F b\/H b\/h.size<=b)->(∀b,F2 b->b<h2.size)->
    put R.ty R.ms R.x q d.ty m2 y=some (m',x')->d.ms.nE lo hi m2->aM g.hd d.ty m2 c2->(qx q=true->m2.ax=true)->
    (∀p' t1 n1,jH lo hi p'=true->q8 d.ty m2 p'=some (t1,n1)->bu d.ty d.x p'->bu d.ty y p'/\∀bp cp,cr h d.ty c base p'=some (bp,cp)->
     ∃iR,cr h2 d.ty c2 base p'=some (bp,iR)/\(∀s a,n1=.own s a->¬ (lo<=s/\s<hi)->iR=cp))->
    ∃g',aE h2 (S.aI r (some { R with ms:=m',x:=x' })) g' tmps (fun b=>H b/\¬ F2 b)/\Sub g.Pr g'.Pr/\g'.cR g/\g'.B=g.B/\(∀b,g.Pr b->h2[b]? = h[b]?)/\
     ∀a:AV,a.aQ lo hi=true->a.dw h h2 S (S.aI r (some { R with ms:=m',x:=x' })) g g':=by
 obtain⟨base,c,F,q1,q2,q3,q4,q5,q6⟩:=st.m4 hR hf hin;refine⟨base,c,F,q1,q2,q3,q4,q5,?_⟩;intro lo hi h2 m2 y c2 F2 m' x' p1 p2 p3 p4 p5 p6 p7 p8 p9 jQ j_ kY;obtain⟨g',k1,k2,k3,k4,k5,k6,k7⟩:=q6 lo hi h2 m2 y c2 F2 Nil m' x' p1 p2 p3 p4 (az.mono (fun b hb=>.inl hb) (fun _ _=>rfl) _ p5 (Sub.refl _) (fun _ _=>rfl)) (cB.nil _)
  (fun b hb=>p6 b (hb.resolve_right id)) (fun b hb=>p7 b (hb.resolve_right id)) p8 p9 jQ j_ kY
 exact⟨g',k1.bB (fun b hb=>⟨.inl hb.1,fun h=>h.elim hb.2 id⟩),k2,k4,k5,k6,k7⟩
theorem aE.gD{h:Array Obj}{S:St}{g:aA}{tmps:Array Value}{H:BS}(st:aE h S g tmps H){d:Nat}(hd:(S.root d).isSome) :
  aE h (S.aI d none) g tmps (fun b=>H b\/g.G d b):=by
 have s0:=st.wG d;have hlt:d<S.rt.length:=by obtain⟨R,hR⟩:=yd.1 hd;exact St.o9 hR
 have hn:∀r,((S.aI d none).root r).isSome->r≠d/\(S.root r).isSome:=by
  intro r h1;rw[St.b6]at h1;by_cases e:r=d
  .subst e;simp[hlt]at h1
  .rw[af (fun h=>e h.1)]at h1;exact⟨e,h1⟩
 refine { s0 with hand:=?_,bM:=?_,ep:=?_,fc:=?_ }
 .rintro r h1 b hb (hz | hz)
  .exact s0.hand r h1 b hb hz
  .exact st.d5 r d (hn r h1).1 (hn r h1).2 hd b hb hz
 .rintro b (hz | hz) hp
  .exact st.bM b hz hp
  .exact st.er d hd b hz hp
 .rintro b (hz | hz)
  .exact st.ep b hz
  .exact st.cg d b hd hz
 .rintro b (hz | hz)
  .exact st.fc b hz
  .exact st.own d b hd hz
end Go.V
namespace Go.V
noncomputable section
open Go
theorem uU:∀(p q:Path){t:Ty}{m:Mk}{x:t.den}{d:Dy},focus t m x p=some d->focus t m x (p++q)=focus d.ty d.ms d.x q
 | [],q,t,m,x,d,h=>by simp only[focus,aK]at h;subst h;rfl
 | .fst::p,q,t,m,x,d,h=>by
  cases t with
  | pair a b=>simp only[focus,fI]at h⊢;exact uU p q h
  | _=>simp[focus]at h
 | .snd::p,q,t,m,x,d,h=>by
  cases t with
  | pair a b=>simp only[focus,fI]at h⊢;exact uU p q h
  | _=>simp[focus]at h
 | .idx i s'::p,q,t,m,x,d,h=>by
  cases t with
  | sl e=>
   cases m with
   | own s mi=>
    simp only[focus,fI]at h⊢;split at h
    .rename_i hs;simp only[hs,aX];exact uU p q h
    .simp at h
   | _=>simp[focus]at h
  | _=>simp[focus]at h
theorem yN:∀(p q:Path){t:Ty}{m:Mk}{x:t.den}{d:Dy},focus t m x p=some d->(bu t x (p++q)↔bu t x p/\bu d.ty d.x q)
 | [],q,t,m,x,d,h=>by
  simp only[focus,aK]at h;subst h;have:bu t x []=True:=by cases t<;>rfl
  simp[this]
 | .fst::p,q,t,m,x,d,h=>by
  cases t with
  | pair a b=>simp only[focus,fI,bu]at h⊢;exact yN p q h
  | _=>simp[focus]at h
 | .snd::p,q,t,m,x,d,h=>by
  cases t with
  | pair a b=>simp only[focus,fI,bu]at h⊢;exact yN p q h
  | _=>simp[focus]at h
 | .idx i s'::p,q,t,m,x,d,h=>by
  cases t with
  | sl e=>
   cases m with
   | own s mi=>
    simp only[focus,fI,bu]at h⊢;split at h
    .rw[yN p q h,and_assoc]
    .simp at h
   | _=>simp[focus]at h
  | _=>simp[focus]at h
theorem vc{hp:Array Obj}:∀(p q:Path){t:Ty}{m:Mk}{x:t.den}{d:Dy}{c:List Value}{base base':fK}{c':List Value},focus t m x p=some d->
  cr hp t c base p=some (base',c')->cr hp t c base (p++q)=cr hp d.ty c' base' q
 | [],q,t,m,x,d,c,base,base',c',hf,h=>by
  simp only[focus,aK]at hf;subst hf;have e:cr hp t c base []=some (base,c):=by cases t<;>rfl
  rw[e]at h;simp only[aK,aY]at h;obtain⟨rfl,rfl⟩:=h;rfl
 | .fst::p,q,t,m,x,d,c,base,base',c',hf,h=>by
  cases t with
  | pair a b=>simp only[focus,fI,cr]at hf h⊢;exact vc p q hf h
  | _=>simp[focus]at hf
 | .snd::p,q,t,m,x,d,c,base,base',c',hf,h=>by
  cases t with
  | pair a b=>simp only[focus,fI,cr]at hf h⊢;exact vc p q hf h
  | _=>simp[focus]at hf
 | .idx i s'::p,q,t,m,x,d,c,base,base',c',hf,h=>by
  cases t with
  | sl e=>
   cases m with
   | own s mi=>
    simp only[focus]at hf;split at hf
    .simp only[fI,cr]at h⊢;split at h
     .rename_i b n k;split at h
      .rename_i cs e1 e2 hb;exact vc p q hf h
      .simp at h
     .simp at h
    .simp at hf
   | _=>simp[focus]at hf
  | _=>simp[focus]at hf
theorem EY{h:Array Obj}{S:St}{g:aA}{r:Nat}{R:aC}(hR:S.root r=some R) :
  ∀(t:Ty)(m:Mk)(x:t.den)(p:Path)(base:fK)(c:List Value)(F:BS),focus R.ty R.ms R.x p=some ⟨t,m,x⟩->bu R.ty R.x p->
   cr h R.ty (g.C r) (g.base r) p=some (base,c)->az h g.Pr t m x c F->dh h S g (cW r t m x p) c
 | .unit,m,x,p,base,c,F,_,_,_,r=>by simp only[az]at r;simp only[cW,dh];exact r
 | .int k,m,x,p,base,c,F,_,_,_,r=>by simp only[cW,dh];simpa only [az] using r
 | .bool,m,x,p,base,c,F,_,_,_,r=>by simp only[cW,dh];simpa only [az] using r
 | .str,m,x,p,base,c,F,_,_,_,r=>by simp only[cW,dh];simpa only [az] using r
 | .pair a b,m,x,p,base,c,F,hf,hin,ej,r=>by
  unfold cW;by_cases hs:m.still=true
  .simp only[hs,aX,dh];exact az.eL _ hs r
  .simp only[hs,fh,dZ,dh];simp only[az]at r;obtain⟨ca,cb,Fa,Fb,rfl,ra,rb,sa,sb,dd⟩:=r;have wa:=az.width a ra;refine⟨ca,cb,rfl,?_,?_⟩
   .refine EY hR a m.fst x.1 (p++[.fst]) base ca Fa ?_ ?_ ?_ ra
    .rw[uU p _ hf];simp[focus]
    .rw[yN p _ hf];exact⟨hin,by simp only[bu]⟩
    .rw[vc p _ hf ej];simp only[cr];rw[<-wa,jq rfl]
   .refine EY hR b m.snd x.2 (p++[.snd]) (base.map fun z=>(z.1,z.2+a.width)) cb Fb ?_ ?_ ?_ rb
    .rw[uU p _ hf];simp[focus]
    .rw[yN p _ hf];exact⟨hin,by simp only[bu]⟩
    .rw[vc p _ hf ej];simp only[cr];rw[<-wa,i5 rfl]
 | .sl t,m,x,p,base,c,F,hf,hin,ej,r=>by
  cases m with
  | no=>simp only[cW,dh];exact az.eL _ rfl r
  | gone=>simp only[cW,dh]
  | pr _ _=>simp only[cW,dh];simpa only [az] using r
  | own s mi=>simp only[cW,dh];obtain⟨a,n,k,rfl⟩:=az.slice r;refine⟨_,rfl,fun R' ck t' m' xs hf'=>?_⟩;rw[hR]at ck;simp only[aK]at ck;subst ck;exact⟨hin,base,ej⟩
theorem dh.rel{h:Array Obj}{S:St}{g:aA}{r:Nat}{t:Ty}{m:Mk}{x:t.den}{p:Path}{c:List Value}{F:BS}(rep:az h g.Pr t m x c F)
  (y:dh h S g (cW r t m x p) c) (hu:t≠.unit):qe h S g (cW r t m x p) (dL t c):=by
 cases t with
 | unit=>exact absurd rfl hu
 | int k=>simp only[cW,dh]at y;simp only[cW,qe];exact⟨c,y,rfl⟩
 | bool=>simp only[cW,dh]at y;simp only[cW,qe];exact⟨c,y,rfl⟩
 | str=>simp only[cW,dh]at y;simp only[cW,qe];exact⟨c,y,rfl⟩
 | pair a b=>
  unfold cW at y⊢;by_cases hs:m.still=true
  .simp only[hs,aX,dh]at y;simp only[hs,aX,qe];exact⟨c,y,rfl⟩
  .simp only[hs,fh,dZ,dh]at y;simp only[hs,fh,dZ,qe];obtain⟨ca,cb,rfl,y1,y2⟩:=y;exact⟨ca,cb,rfl,y1,y2⟩
 | sl t=>
  cases m with
  | no=>simp only[cW,dh]at y;simp only[cW,qe];exact⟨c,y,rfl⟩
  | gone=>simp only[cW,qe]
  | pr _ _=>simp only[cW,dh]at y;simp only[cW,qe];exact⟨c,y,rfl⟩
  | own s mi=>simp only[cW,dh]at y;obtain⟨v,rfl,y⟩:=y;simp only[cW,qe,dL,Ty.agg,fh,dZ,sC];exact y
theorem Dv{a b:Ty}{x:a.den}{y:b.den}(h:qbv a b x=some y):∃e:a=b,e ▸ x=y:=by
 unfold qbv at h;split at h
 .rename_i e;exact⟨e,by simpa using h⟩
 .simp at h
theorem az.cast{h:Array Obj}{Pr:BS}{a b:Ty}{m:Mk}{x:a.den}{y:b.den}{c:List Value}{F:BS}(e:qbv a b x=some y)(r:az h Pr a m x c F):a=b/\az h Pr b m y c F:=by obtain⟨rfl,rfl⟩:=Dv e;exact⟨rfl,r⟩
def zk(S:St)(g:aA):BS:=fun b=>g.Pr b\/∃r,(S.root r).isSome/\g.G r b
theorem L8{h:Array Obj}{S:St}{g:aA}{tmps:Array Value}{H:BS}(st:aE h S g tmps H){r:Nat}{p:Path}{s s':Nat}{t':Ty}{m:Mk}{xs:(Ty.sl t').den}{v:Value}
  (hf:S.focus r p=some ⟨.sl t',.own s' m,xs⟩) (hs:s=s') (x:qN h S g r p s v) :
  ∃R base F,S.root r=some R/\focus R.ty R.ms R.x p=some ⟨.sl t',.own s' m,xs⟩/\bu R.ty R.x p/\cr h R.ty (g.C r) (g.base r) p=some (base,[v])/\
   az h g.Pr (.sl t') (.own s' m) xs [v] F/\Sub F (g.G r):=by
 simp only[St.focus,aO.focus]at hf;split at hf
 .rename_i R hR;subst hs;obtain⟨hin,base,ej⟩:=x R hR t' m xs hf;obtain⟨F0,rep,hF,hB,hmem,oV⟩:=st.roots r R hR;obtain⟨base',c',F,Fr,z⟩:=zip p _ _ _ _ F0 _ _ rep hf hin (st.rZ hR rep hB hmem oV);have:=z.at_;rw[ej]at this;simp only[aK,aY]at this;obtain⟨rfl,rfl⟩:=this;exact⟨R,base,F,hR,hf,hin,ej,z.rep,fun b hb=>hF b (z.sub b hb)⟩
 .simp at hf
theorem BE{h:Array Obj}{S:St}{g:aA}{tmps:Array Value}{H:BS}(st:aE h S g tmps H):∀(t:Ty){a:AV}{x:t.den}{c:List Value},
  rd S.rt t a=some x->dh h S g a c->az h (zk S g) t .no x c Nil
 | t,a,x,c,hr,y=>by
  have hval:∀(t:Ty)(x:t.den)(t':Ty)(x':t'.den),qbv t' t x'=some x->az h g.Pr t' .no x' c Nil->az h (zk S g) t .no x c Nil:=by intro t x t' x' e r;exact az.mono (fun b hb=>Or.inl hb) (fun _ _=>rfl) t (az.cast e r).2 (Sub.refl _) (fun _ _=>rfl)
  cases a with
  | val t' x'=>cases t<;>(simp only[rd]at hr;simp only[dh]at y;exact hval _ _ _ _ hr y)
  | unit=>
   cases t with
   | unit=>simp only[dh]at y;simp only[az];exact y
   | _=>simp[rd]at hr
  | b9 r p s=>
   cases t with
   | sl e=>
    simp only[rd]at hr;simp only[dh]at y;obtain⟨v,rfl,y⟩:=y;split at hr
    .rename_i t' s' m xs hf;split at hr
     .rename_i hs;obtain⟨R,base,F,Kz,_,_,_,rep,hF⟩:=L8 st hf hs.1 y;have bO:(S.root r).isSome:=by rw[Kz];rfl
      have r2:=az.share _ (by simpa [Mk.whole] using hs.2) rep;have r3:=az.mono (fP:=zk S g) (fun b hb=>hb.elim .inl (fun hb=>.inr ⟨r,bO,hF b hb⟩)) (fun _ _=>rfl) _ r2 (Sub.refl _) (fun _ _=>rfl);exact(az.cast hr r3).2
     .simp at hr
    .simp at hr
   | _=>simp[rd]at hr
  | pair u v=>
   cases t with
   | pair a b=>
    simp only[rd]at hr;simp only[dh]at y;obtain⟨ca,cb,rfl,y1,y2⟩:=y;cases h1:rd S.rt a u with
    | none=>rw[h1]at hr;simp at hr
    | some x1=>
     rw[h1]at hr;simp only[dG]at hr;cases h2:rd S.rt b v with
     | none=>rw[h2]at hr;simp at hr
     | some x2=>rw[h2]at hr;simp only[dG,aK]at hr;subst hr;simp only[az];exact⟨ca,cb,Nil,Nil,rfl,BE st a h1 y1,BE st b h2 y2,Sub.nil _,Sub.nil _,cB.nil _⟩
   | _=>simp[rd]at hr
  | undef=>cases t<;>simp[rd]at hr
  | _=>simp only[dh]at y
theorem qL{h:Array Obj}{S:St}{g:aA}{tmps:Array Value}{H:BS}(st:aE h S g tmps H)(t:Ty){a:AV}{x:t.den}{v:Value}
  (hr:rd S.rt t a=some x) (y:qe h S g a v):∃c,v=dL t c/\az h (zk S g) t .no x c Nil:=by
 cases a with
 | val t' x'=>
  have hc:qbv t' t x'=some x:=by cases t<;>simpa only [rd] using hr
  simp only[qe]at y;obtain⟨c,r,rfl⟩:=y;obtain⟨rfl,r2⟩:=az.cast hc r;exact⟨c,rfl,az.mono (fun b hb=>Or.inl hb) (fun _ _=>rfl) _ r2 (Sub.refl _) (fun _ _=>rfl)⟩
 | cG b=>
  cases t with
  | bool=>simp only[rd,aK]at hr;simp only[qe]at y;subst hr;subst y;exact⟨[.bool b],by simp[dL,Ty.agg],by simp only[az]⟩
  | _=>simp[rd]at hr
 | unit=>
  cases t with
  | unit=>simp only[qe]at y;exact⟨[],by rw[y];rfl,by simp only[az]⟩
  | _=>simp[rd]at hr
 | fm=>
  cases t with
  | sl e=>simp only[rd,aK]at hr;simp only[qe]at y;subst hr;subst y;exact⟨[.slice none 0 0],by simp[dL,Ty.agg],by simp only[az];exact⟨none,0,by simp,by simp,by simp⟩⟩
  | _=>simp[rd]at hr
 | b9 r p s=>
  cases t with
  | sl e=>have:=BE st (.sl e) (c:=[v]) hr (by simp only[qe]at y;simp only[dh];exact⟨v,rfl,y⟩);exact⟨[v],by simp[dL,Ty.agg],this⟩
  | _=>simp[rd]at hr
 | pair u w=>
  cases t with
  | pair a b=>simp only[qe]at y;obtain⟨ca,cb,rfl,y1,y2⟩:=y;exact⟨ca++cb,by simp[dL,Ty.agg],BE st (.pair a b) hr (by simp only[dh];exact⟨ca,cb,rfl,y1,y2⟩)⟩
  | _=>simp[rd]at hr
 | _=>cases t<;>simp[rd]at hr
end
section trans
variable {h h' h'':Array Obj} {S S' wD:St} {g g' tU:aA}
theorem tK.trans{r:Nat}{p:Path}(x:tK h h' S S' g g' r p)(y:tK h' h'' S' wD g' tU r p):tK h h'' S wD g tU r p:=by intro R2 vI d2 uc;obtain⟨R1,d1,WE,W0,k1⟩:=y R2 vI d2 uc;obtain⟨R0,d0,Kz,Ai,k0⟩:=x R1 WE d1 W0;refine⟨R0,d0,Kz,Ai,fun hin=>⟨(k1 (k0 hin).1).1,fun base c ha=>?_⟩⟩;obtain⟨c1,h1⟩:=(k0 hin).2 base c ha;exact(k1 (k0 hin).1).2 base c1 h1
theorem qV.trans{r:Nat}{p:Path}{s:Nat}(x:qV h h' S S' g g' r p s)(y:qV h' h'' S' wD g' tU r p s):qV h h'' S wD g tU r p s:=by intro R2 vI t m xs uc;obtain⟨R1,m1,xs1,WE,W0,k1⟩:=y R2 vI t m xs uc;obtain⟨R0,m0,Jb,Kz,Ai,k0⟩:=x R1 WE t m1 xs1 W0;exact⟨R0,m0,Jb,Kz,Ai,fun hin=>⟨(k1 (k0 hin).1).1,fun base c ha=>(k1 (k0 hin).1).2 base c ((k0 hin).2 base c ha)⟩⟩
theorem AV.dw.trans:∀{a:AV},a.dw h h' S S' g g'->a.dw h' h'' S' wD g' tU->a.dw h h'' S wD g tU:=by
 intro a
 induction a with
 | b9 r p s=>exact qV.trans
 | view r p s lo hi=>exact qV.trans
 | addr r p=>exact tK.trans
 | pair a b fU kS=>exact fun x y=>⟨fU x.1 y.1,kS x.2 y.2⟩
 | jJ a fU=>exact fU
 | gH f a fU=>exact fU
 | _=>exact fun _ _=>trivial
theorem AV.dw.refl:∀(a:AV),a.dw h h S S g g:=
 AV.ef (fun r p R hR d hf=>⟨R,d,hR,hf,fun hin=>⟨hin,fun base c ha=>⟨c,ha⟩⟩⟩)
  (fun r p s R hR t m xs hf=>⟨R,m,xs,hR,hf,fun hin=>⟨hin,fun base c ha=>ha⟩⟩)
end trans
structure kJ (h:Array Obj) (S S':St) (g:aA) (tmps:Array Value) (H:BS) (t:Ty) (m:Mk) (x:t.den) (c:List Value) (g':aA) (F:BS):Prop where
 st:aE h S' g' tmps (Un H F)
 pr:Sub g.Pr g'.Pr
 rep:az h g'.Pr t m x c F
 d5:cB F H
 sZ:cB F g'.Pr
 keeps:∀a:AV,a.dw h h S S' g g'
 sl:S'.sl=S.sl
 rl:S'.rt.length=S.rt.length
 tag:aM g.hd t m c
 same:g'.cR g
theorem kJ.none{h:Array Obj}{S:St}{g:aA}{tmps:Array Value}{H:BS}(st:aE h S g tmps H){t:Ty}{m:Mk}{x:t.den}{c:List Value}
  (r:az h g.Pr t m x c Nil) (ni:aM g.hd t m c):kJ h S S g tmps H t m x c g Nil where
 st:=st.bB (fun b hb=>hb.resolve_right id)
 pr:=Sub.refl _
 rep:=r
 d5:=cB.nil _
 sZ:=cB.nil _
 keeps:=AV.dw.refl
 sl:=rfl
 rl:=rfl
 tag:=ni
 same:=.refl g
theorem BP{h:Array Obj}{tmps:Array Value}:∀(t:Ty){S:St}{rt':aO}{g:aA}{H:BS}{a:AV}{m:Mk}{x:t.den}{c:List Value},aE h S g tmps H->
  tk S.rt t a=some (m,x,rt')->dh h S g a c->∃g' F,kJ h S ⟨S.sl,rt'⟩ g tmps H t m x c g' F
 | t,S,rt',g,H,a,m,x,c,st,ht,y=>by
  have hval:∀(t:Ty)(x:t.den)(t':Ty)(x':t'.den),((qbv t' t x').bind fun x=>some (Mk.no,x,S.rt))=some (m,x,rt')->az h g.Pr t' .no x' c Nil->
    ∃g' F,kJ h S ⟨S.sl,rt'⟩ g tmps H t m x c g' F:=by
   intro t x t' x' e r;cases hc:qbv t' t x' with
   | none=>rw[hc]at e;simp at e
   | some z=>rw[hc]at e;simp only[dG,aK,aY]at e;obtain⟨rfl,rfl,rfl⟩:=e;exact⟨g,Nil,kJ.none st (az.cast hc r).2 (aM.no _ _)⟩
  cases a with
  | val t' x'=>cases t<;>(simp only[tk]at ht;simp only[dh]at y;exact hval _ _ _ _ ht y)
  | unit=>
   cases t with
   | unit=>simp only[dh]at y;simp only[tk,aK,aY]at ht;obtain⟨rfl,_,rfl⟩:=ht;exact⟨g,Nil,kJ.none st (by simp only[az];exact y) (aM.no _ _)⟩
   | _=>simp[tk]at ht
  | b9 r p s=>
   cases t with
   | sl e=>
    simp only[tk]at ht;simp only[dh]at y;obtain⟨v,rfl,y⟩:=y;split at ht
    .rename_i R hR;split at ht
     .rename_i t' s' mi xs hf;split at ht
      .rename_i hs;cases hc:qbv (.sl t') (.sl e) xs with
       | none=>rw[hc]at ht;simp at ht
       | some z=>
        rw[hc]at ht;simp only[dG]at ht;cases hm:lK R.ty R.ms p .gone with
        | none=>rw[hm]at ht;simp at ht
        | some m'=>rw[hm]at ht;simp only[dG,aK,aY]at ht;obtain⟨rfl,rfl,rfl⟩:=ht;have hin:=(y R hR t' mi xs (by rw[hf];simp[hs])).1;obtain⟨sY,WN⟩:=(y R hR t' mi xs (by rw[hf];simp[hs])).2;obtain⟨g',F,base,c',h1,h2,h3,h4,h5,h6,h7,ni,iK,h8,h9,D9,h11⟩:=st.take hR hf hin hm;rw[WN]at h6;simp only[aK,aY]at h6;obtain⟨_,rfl⟩:=h6;obtain⟨_,h12⟩:=az.cast hc h7;exact⟨g',F,{ st:=h1,pr:=h2,rep:=h12,d5:=h8,sZ:=D9,keeps:=h11,sl:=rfl,rl:=by simp[aO.bX],tag:=by obtain⟨e1,e2⟩:=Dv hc;simp only[Ty.sl.injEq]at e1;subst e1;exact ni,same:=iK }⟩
      .simp at ht
     .simp at ht
    .simp at ht
   | _=>simp[tk]at ht
  | pair u v=>
   cases t with
   | pair a b=>
    simp only[tk]at ht;simp only[dh]at y;obtain⟨ca,cb,rfl,y1,y2⟩:=y;cases h1:tk S.rt a u with
    | none=>rw[h1]at ht;simp at ht
    | some z1=>
     obtain⟨m1,x1,S1⟩:=z1;rw[h1]at ht;simp only[dG]at ht;cases h2:tk S1 b v with
     | none=>rw[h2]at ht;simp at ht
     | some z2=>
      obtain⟨m2,x2,S2⟩:=z2;rw[h2]at ht;simp only[dG,aK,aY]at ht;obtain⟨rfl,rfl,rfl⟩:=ht;obtain⟨g1,F1,k1⟩:=BP a st h1 y1;obtain⟨g2,F2,k2⟩:=BP b (S:=⟨S.sl,S1⟩) k1.st h2 (dh.keep k1.pr (fun _ _=>rfl) y2 (k1.keeps v));refine⟨g2,Un F1 F2,{ st:=k2.st.bB ?_,pr:=k1.pr.trans k2.pr,rep:=?_,d5:=?_,sZ:=?_,keeps:=fun a=>(k1.keeps a).trans (k2.keeps a),sl:=k2.sl.trans k1.sl,rl:=k2.rl.trans k1.rl,tag:=?_,same:=k1.same.trans k2.same }⟩
      .rintro b' (hb | hb | hb)
       .exact .inl (.inl hb)
       .exact .inl (.inr hb)
       .exact .inr hb
      .simp only[az,Mk.fst,Mk.snd];refine⟨ca,cb,F1,F2,rfl,az.mono k2.pr (fun _ _=>rfl) a k1.rep (Sub.refl _) (fun _ _=>rfl),k2.rep,fun _ hb=>.inl hb,fun _ hb=>.inr hb,?_⟩;intro b' bP gw;exact k2.d5 b' gw (.inr bP)
      .rintro b' (hb | hb) hH
       .exact k1.d5 b' hb hH
       .exact k2.d5 b' hb (.inl hH)
      .rintro b' (hb | hb) hp
       .exact k2.st.bM b' (.inl (.inr hb)) hp
       .exact k2.sZ b' hb hp
      .simp only[aM,Mk.fst,Mk.snd];have hl:=az.width a k1.rep;rw[jq hl,i5 hl];have:=k2.tag;rw[k1.same.1]at this;exact⟨k1.tag,this⟩
   | _=>simp[tk]at ht
  | undef=>cases t<;>simp[tk]at ht
  | _=>simp only[dh]at y
theorem yW{h:Array Obj}{tmps:Array Value}(t:Ty){S:St}{rt':aO}{g:aA}{H:BS}{a:AV}{m:Mk}{x:t.den}{v:Value}(st:aE h S g tmps H)
  (ht:tk S.rt t a=some (m,x,rt')) (y:qe h S g a v):∃c g' F,v=dL t c/\kJ h S ⟨S.sl,rt'⟩ g tmps H t m x c g' F:=by
 cases a with
 | val t' x'=>
  have hc0:((qbv t' t x').bind fun x=>some (Mk.no,x,S.rt))=some (m,x,rt'):=by cases t<;>simpa only [tk] using ht
  simp only[qe]at y;obtain⟨c,r,rfl⟩:=y;cases hc:qbv t' t x' with
  | none=>rw[hc]at hc0;simp at hc0
  | some z=>rw[hc]at hc0;simp only[dG,aK,aY]at hc0;obtain⟨rfl,rfl,rfl⟩:=hc0;obtain⟨rfl,r2⟩:=az.cast hc r;exact⟨c,g,Nil,rfl,kJ.none st r2 (aM.no _ _)⟩
 | cG b=>
  cases t with
  | bool=>simp only[tk,aK,aY]at ht;simp only[qe]at y;obtain⟨rfl,rfl,rfl⟩:=ht;subst y;exact⟨[.bool b],g,Nil,by simp[dL,Ty.agg],kJ.none st (by simp only[az]) (aM.no _ _)⟩
  | _=>simp[tk]at ht
 | unit=>
  cases t with
  | unit=>simp only[tk,aK,aY]at ht;simp only[qe]at y;obtain⟨rfl,_,rfl⟩:=ht;exact⟨[],g,Nil,by rw[y];rfl,kJ.none st (by simp only[az]) (aM.no _ _)⟩
  | _=>simp[tk]at ht
 | fm=>
  cases t with
  | sl e=>simp only[tk,aK,aY]at ht;simp only[qe]at y;obtain⟨rfl,rfl,rfl⟩:=ht;subst y;exact⟨[.slice none 0 0],g,Nil,by simp[dL,Ty.agg],kJ.none st (by simp only[Mk.top,az];exact⟨none,0,by simp,by simp,.inl rfl⟩) (aM.ax _ (Mk.c_ _))⟩
  | _=>simp[tk]at ht
 | b9 r p s=>
  cases t with
  | sl e=>obtain⟨g',F,k⟩:=BP (.sl e) (c:=[v]) st ht (by simp only[qe]at y;simp only[dh];exact⟨v,rfl,y⟩);exact⟨[v],g',F,by simp[dL,Ty.agg],k⟩
  | _=>simp[tk]at ht
 | pair u w=>
  cases t with
  | pair a b=>simp only[qe]at y;obtain⟨ca,cb,rfl,y1,y2⟩:=y;obtain⟨g',F,k⟩:=BP (.pair a b) (c:=ca++cb) st ht (by simp only[dh];exact⟨ca,cb,rfl,y1,y2⟩);exact⟨ca++cb,g',F,by simp[dL,Ty.agg],k⟩
  | _=>simp[tk]at ht
 | _=>cases t<;>simp[tk]at ht
end Go.V
namespace Go.V
noncomputable section
open Go
def zc:Ty->List Value
 | .unit=>[]
 | .int k=>[.int k 0]
 | .bool=>[.bool false]
 | .str=>[.string ByteArray.empty]
 | .sl _=>[.slice none 0 0]
 | .pair a b=>zc a++zc b
theorem Ki:∀t:Ty,(zc t).length=t.width
 | .unit=>rfl
 | .int _=>rfl
 | .bool=>rfl
 | .str=>rfl
 | .sl _=>rfl
 | .pair a b=>by simp[zc,Ty.width,Ki a,Ki b]
theorem az.zero{h:Array Obj}{Pr:BS}:∀(t:Ty)(m:Mk),az h Pr t m t.zero (zc t) Nil
 | .unit,_=>by simp only[az,zc]
 | .int _,_=>by simp only[az,zc,Ty.zero]
 | .bool,_=>by simp only[az,zc,Ty.zero]
 | .str,_=>by simp only[az,zc,Ty.zero]
 | .sl t,m=>by
  cases m<;>simp only[az,zc,Ty.zero]
  .exact⟨none,0,rfl,cq _,fun h=>absurd rfl h⟩
  .exact⟨none,0,0,rfl⟩
  .exact⟨none,0,rfl,cq _,.inl rfl⟩
  .exact⟨none,0,rfl,cq _,fun h=>absurd rfl h⟩
 | .pair a b,m=>by
  simp only[az,zc,Ty.zero];exact⟨zc a,zc b,Nil,Nil,rfl,az.zero a _,az.zero b _,Sub.nil _,Sub.nil _,cB.nil _⟩
theorem az.one{h:Array Obj}{Pr:BS}:∀(t:Ty){m:Mk}{x:t.den}{c:List Value}{F:BS},az h Pr t m x c F->∀v∈c,v.oneCell'=true
 | .unit,_,_,_,_,r,v,hv=>by simp only[az]at r;subst r;simp at hv
 | .int k,_,_,_,_,r,v,hv=>by simp only[az]at r;subst r;simp only[d9]at hv;subst hv;rfl
 | .bool,_,_,_,_,r,v,hv=>by simp only[az]at r;subst r;simp only[d9]at hv;subst hv;rfl
 | .str,_,_,_,_,r,v,hv=>by simp only[az]at r;subst r;simp only[d9]at hv;subst hv;rfl
 | .sl t,m,_,_,_,r,v,hv=>by
  obtain⟨a,n,k,rfl⟩:=az.slice r;simp only[d9]at hv;subst hv;rfl
 | .pair a b,m,_,_,_,r,v,hv=>by
  simp only[az]at r;obtain⟨ca,cb,Fa,Fb,rfl,ra,rb,_⟩:=r;rcases bN.1 hv with hv | hv
  .exact az.one a ra v hv
  .exact az.one b rb v hv
def Ty.deep:Ty->Nat
 | .pair a b=>a.deep+b.deep+1
 | .sl t=>t.deep+1
 | _=>1
def mX(C:Ctx):List Field->Nat->Ty->Prop
 | [],_,T=>T=.unit
 | f::fs,off,T=>∃b,T=.pair (C.ty f.type) b/\f.offset=off/\f.name≠ "_" /\ (C.ty f.type).nz=true/\mX C fs (off+(C.ty f.type).width) b
def oM(C:Ctx):TypeDesc->Ty->Prop
 | .int k,T=>T=.int k
 | .bool,T=>T=.bool
 | .string,T=>T=.str
 | .slice e,T=>T=.sl (C.ty e)/\(C.ty e).nz=true
 | .struct fs,T=>mX C fs.toList 0 T/\T≠.unit
 | _,_=>False
structure mF (P:Program) (C:Ctx) (t:TypeId):Prop where
 info:∃i,P.info? t=some i/\i.size=(C.ty t).width/\i.zero=some (dL (C.ty t) (zc (C.ty t)))/\i.bytes<=255
 pos:0<(C.ty t).width
 desc:∃d,P.underlying t=some d/\oM C d (C.ty t)
 deep:(C.ty t).deep<10000
 eq:(C.ty t).agg=true->(C.ty t).comp=true->P.stoodInHeld t=false/\P.eqGuardType P.depth t=false
def iC(P:Program)(C:Ctx):Prop:=∀t,(C.ty t).nz=true->mF P C t
section
variable {P:Program} {C:Ctx} {t:TypeId} (k:mF P C t) (w:World)
include k
theorem mF.za:(zeroValue t).run P w=.ok (dL (C.ty t) (zc (C.ty t))) w:=by obtain⟨i,h1,h2,h3,h4⟩:=k.info;simp[zeroValue,typeInfo,h1,h3]
theorem mF.fN:(sizeOf t).run P w=.ok (C.ty t).width w:=by obtain⟨i,h1,h2,h3,h4⟩:=k.info;simp[sizeOf,typeInfo,h1,h2]
theorem mF.o_:(isAgg t).run P w=.ok (C.ty t).agg w:=by
 obtain⟨d,h1,h2⟩:=k.desc;have:(underlying t).run P w=.ok d w:=by simp[underlying,h1]
 cases d<;>simp only[oM]at h2<;>simp[isAgg,this,Sem.run_bind]
 case bool=>rw[h2];rfl
 case int=>rw[h2];rfl
 case string=>rw[h2];rfl
 case slice=>rw[h2.1];rfl
 case struct fs=>
  cases hl:fs.toList with
  | nil=>rw[hl]at h2;simp only[mX]at h2;exact absurd h2.1 h2.2
  | cons f l=>rw[hl]at h2;simp only[mX]at h2;obtain⟨⟨b,e,_⟩,_⟩:=h2;rw[e];rfl
end
theorem Ix(T:Ty):(dL T (zc T)).cells.toList=zc T:=Cp (az.zero (h:=#[]) (Pr:=Nil) T .no)
structure kK (L:BS) (w w':World):Prop where
 os:w'.os=w.os
 tape:w'.tape=w.tape
 output:w'.output=w.output
 size:w.heap.size<=w'.heap.size
 block:∀b,b<w.heap.size->¬ L b->w'.heap[b]? = w.heap[b]?
theorem kK.refl(L:BS)(w:World):kK L w w:=⟨rfl,rfl,rfl,cq _,fun _ _ _=>rfl⟩
theorem kK.trans{L:BS}{a b c:World}(h:kK L a b)(k:kK L b c):kK L a c:=
 ⟨k.os.trans h.os,k.tape.trans h.tape,k.output.trans h.output,nL h.size k.size,
  fun i hi hn=>(k.block i (Nat.lt_of_lt_of_le hi h.size) hn).trans (h.block i hi hn)⟩
theorem kK.mono{L L':BS}{a b:World}(h:kK L a b)(hs:∀i,i<a.heap.size->L i->L' i):kK L' a b:=
 ⟨h.os,h.tape,h.output,h.size,fun i hi hn=>h.block i hi fun hl=>hn (hs i hi hl)⟩
theorem kK.drawn{L:BS}{w:World}(n:Nat):kK L w { w with drawn:=n }:=⟨rfl,rfl,rfl,cq _,fun _ _ _=>rfl⟩
theorem kK.push{L:BS}{w:World}(o:Obj):kK L w { w with heap:=w.heap.push o }:=
 ⟨rfl,rfl,rfl,by simp,fun b hb _=>by show(w.heap.push o)[b]? = _;rw[B8,af (by omega)]⟩
theorem zU{h:Array Obj}{o:Obj}:∀b,b<h.size->(h.push o)[b]? = h[b]?:=fun b hb=>by rw[B8,af (by omega)]
theorem adb{h:Array Obj}{o:Obj}:(h.push o)[h.size]? = some o:=by rw[B8,aj rfl]
theorem jz.new{h:Array Obj}{cs:Array Value}{e:TypeId}:jz (h.push (.cells cs e)) h.size cs:=⟨e,0,0,adb,fun i _=>by omega⟩
theorem R_{w:World}{b:Nat}{cs:Array Value}{e:TypeId}{fr:Nat×Nat}(h:w.heap[b]? = some (.cells cs e fr))(i:Nat):w.cell? ⟨b,i,none⟩=cs[i]?:=by simp[World.cell?,h]
theorem Dw{w:World}{b o n:Nat}{cs:Array Value}(h:sV w.heap b cs)(hn:o+n<=cs.size):w.rangeAt b o (sub cs o n):=by
 obtain⟨e,fr,he⟩:=h;intro j v hv;rw[R_ he];simp only[sub,gm,iE]at hv;split at hv
 .simpa using hv
 .simp at hv
theorem GR{cs:Array Value}{o n:Nat}(h:o+n<=cs.size):(sub cs o n).length=n:=by simp[sub];omega
theorem J1{b:Nat}:∀(vs:List Value)(o:Nat)(w:World)(k:Nat),k≠b->(w.setCells b o vs).heap[k]? = w.heap[k]?
 | [],_,_,_,_=>rfl
 | v::r,o,w,k,hk=>by
  rw[World.setCells,J1 r (o+1) _ k hk];simp only[World.setCell,SN];rw[af (by omega)]
theorem vR{b:Nat}:∀(vs:List Value)(o:Nat)(w:World),(w.setCells b o vs).heap.size=w.heap.size
 | [],_,_=>rfl
 | v::r,o,w=>by rw[World.setCells,vR r];simp[World.setCell]
theorem TP{b:Nat}:∀(vs:List Value)(o:Nat)(w:World),(w.setCells b o vs).os=w.os/\(w.setCells b o vs).tape=w.tape/\(w.setCells b o vs).output=w.output
 | [],_,_=>⟨rfl,rfl,rfl⟩
 | v::r,o,w=>by rw[World.setCells];exact TP r _ _
theorem Rz{l:List Value}{o:Nat}{v:Value}{r:List Value}(h:o+(v::r).length<=l.length):bT (l.set o v) (o+1) r=bT l o (v::r):=by
 simp only[ct]at h;have hA:(l.take o).length=o:=by simp;omega
 have e0:l.set o v=l.take o++v::l.drop (o+1):=by rw[List.set_eq_take_append_cons_drop,aj (by omega)]
 have e1:(l.set o v).take (o+1)=l.take o++[v]:=by
  rw[e0,List.take_append,hA,jT (by omega)];have:o+1-o=1:=by omega
  rw[this];rfl
 have e2:(l.set o v).drop (o+1+r.length)=l.drop (o+(r.length+1)):=by
  rw[e0,Ga,hA,vG (by omega),gA];have:o+1+r.length-o=r.length+1:=by omega
  rw[this,List.drop_succ_cons,qR];congr 1;omega
 simp only[bT,ct];rw[e1,e2];simp
theorem U1{b:Nat}{e:TypeId}{fr:Nat×Nat}:∀(vs:List Value)(o:Nat)(w:World)(cs:Array Value),w.heap[b]? = some (.cells cs e fr)->o+vs.length<=cs.size->
  ∃gC:Array Value,(w.setCells b o vs).heap[b]? = some (.cells gC e fr)/\gC.toList=bT cs.toList o vs
 | [],o,w,cs,h,hl=>⟨cs,h,by simp[bT]⟩
 | v::r,o,w,cs,h,hl=>by
  simp only[ct]at hl;rw[World.setCells];have h1:(w.setCell ⟨b,o,none⟩ v).heap[b]? = some (.cells (cs.setIfInBounds o v) e fr):=by simp[World.setCell,SN,h]
  obtain⟨gC,h2,h3⟩:=U1 r (o+1) _ _ h1 (by simp;omega);refine⟨gC,h2,?_⟩;rw[h3,N3];exact Rz (by simp;omega)
theorem AT{w:World}{b o n:Nat}{cs:Array Value}(h:jz w.heap b cs)(hn:o+n<=cs.size):w.there b o n:=by obtain⟨e,lo,hi,he,hf⟩:=h;intro j hj;rw[R_ he];refine⟨by rw[vE (by omega)];rfl,?_⟩;have:=hf (o+j) (by omega);simp only[World.frozen?,he];simpa using this
theorem PJ{w:World}{b o:Nat}{c2:List Value}{base:fK}(hb:base=some (b,o)){cs:Array Value}(h:jz w.heap b cs)(hn:o+c2.length<=cs.size) :
  zj w.heap (w.setCells b o c2).heap base c2:=by
 intro b' o' e cs' h';rw[hb]at e;simp only[aK,aY]at e;obtain⟨rfl,rfl⟩:=e;obtain rfl:=jz.uniq h h';obtain⟨ty,lo,hi,he,hf⟩:=h;obtain⟨gC,h2,h3⟩:=U1 c2 o w cs he hn;refine⟨gC,⟨ty,lo,hi,h2,fun i hi'=>hf i ?_⟩,h3⟩;have:gC.size=cs.size:=by rw[<-iP,h3,Dx (by simpa using hn),iP]
 omega
end
end Go.V

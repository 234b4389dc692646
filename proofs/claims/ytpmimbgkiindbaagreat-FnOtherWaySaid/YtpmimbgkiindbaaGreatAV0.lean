import Derived.Calls
import Derived.Deep.MidRow
import Derived.Laws.MakeOwn
import Derived.Orders
set_option linter.unusedVariables false
set_option linter.unusedSimpArgs false
set_option linter.unusedSectionVars false
namespace Go
abbrev af:=@if_neg
abbrev aK:=@Option.some.injEq
abbrev aj:=@if_pos
abbrev aZ:=@Prod.mk.injEq
abbrev bH:=@Bool.and_eq_true
abbrev cJ:=@Option.bind_eq_some_iff
abbrev b8:=@decide_eq_false
abbrev cQ:=@Bool.not_true
abbrev eB:=@Int.toNat_natCast
abbrev eW:=@List.mem_cons_self
abbrev bk:=@List.mem_cons
abbrev bC:=@decide_eq_true
abbrev bL:=@List.mem_append
abbrev cB:=@List.mem_cons_of_mem
abbrev bg:=@cond_false
abbrev cI:=@List.length_append
abbrev b6:=@List.length_set
abbrev cq:=@List.length_cons
abbrev aY:=@if_true
abbrev bz:=@cond_true
abbrev c_:=@List.not_mem_nil
abbrev cr:=@List.map_cons
abbrev d6:=@List.mem_singleton
abbrev fk:=@Option.map_eq_some_iff
abbrev dw:=@Option.bind_some
abbrev fl:=@Nat.mul_le_mul_right
abbrev ck:=@Nat.le_refl
abbrev eG:=@List.append_assoc
abbrev er:=@List.getElem_mem
abbrev e8:=@Bool.false_eq_true
abbrev d7:=@Option.map_some
abbrev gP:=@List.getElem?_eq_getElem
abbrev e9:=@List.length_take
abbrev eS:=@List.cons.injEq
abbrev fE:=@List.cons_append
abbrev gj:=@List.getElem?_take
abbrev eH:=@List.mem_map
abbrev gQ:=@decide_eq_true_eq
abbrev iM:=@Array.length_toList
abbrev iE:=@List.getElem?_drop
abbrev ko:=@List.getElem?_append_left
abbrev gx:=@List.nil_append
abbrev gy:=@List.length_nil
abbrev e_:=@Int.le_refl
abbrev nG:=@List.take_succ_eq_append_getElem
abbrev gR:=@List.append_nil
abbrev gS:=@Option.some.inj
abbrev dg:=@or_false
abbrev lZ:=@List.getElem?_append_right
abbrev kq:=@List.take_of_length_le
abbrev fF:=@Nat.zero_le
abbrev dI:=@Eq.trans
abbrev fY:=@List.map_nil
abbrev lB:=@List.length_eq_zero_iff
abbrev dV:=@if_false
abbrev jT:=@List.length_reverse
abbrev gT:=@List.all_cons
abbrev og:=@List.take_append_of_le_length
abbrev ew:=@congrArg
abbrev iZ:=@List.drop_left'
abbrev iN:=@Bool.not_false
abbrev l9:=@List.length_singleton
abbrev jU:=@List.getElem?_set
abbrev jm:=@List.take_left'
abbrev kr:=@Bool.not_eq_true'
abbrev jy:=@Bool.or_eq_true
abbrev jz:=@List.length_map
abbrev nH:=@decide_eq_false_iff_not
abbrev nI:=@List.getLast?_singleton
abbrev mR:=@Nat.eq_of_beq_eq_true
abbrev mS:=@List.mem_iff_getElem?
abbrev pE:=@Array.getD_eq_getD_getElem?
abbrev mT:=@List.mem_iff_getElem
abbrev l_:=@List.pairwise_cons
abbrev jV:=@List.drop_zero
abbrev oh:=@Bool.and_eq_false_iff
abbrev om:=@List.length_replicate
abbrev rG:=@Array.getElem?_eq_some_iff
abbrev pF:=@List.getElem?_eq_none
abbrev jA:=@Nat.add_mul
abbrev kz:=@Nat.zero_add
abbrev pG:=@Array.toArray_toList
abbrev kA:=@Int.le_of_eq
abbrev pH:=@List.length_pos_iff
abbrev oq:=@List.reverse_cons
abbrev rH:=@Nat.ble_eq_true_of_le
abbrev rI:=@Nat.le_of_ble_eq_true
abbrev rJ:=@List.take_append_drop
abbrev nJ:=@List.foldl_cons
abbrev sX:=@Classical.axiomOfChoice
abbrev iO:=@and_true
abbrev mb:=@Nat.succ_mul
abbrev rK:=@List.map_congr_left
abbrev vB:=@Array.getElem?_eq_getElem
abbrev vC:=@List.getElem?_replicate
abbrev rL:=@List.ext_getElem?
abbrev pI:=@List.map_append
abbrev i5:=@Iff.rfl
abbrev vD:=@List.drop_eq_nil_of_le
abbrev nK:=@Nat.le_trans
abbrev CV:=@List.all_eq_true
abbrev xA:=@List.pairwise_iff_getElem
abbrev xX:=@Option.isSome_iff_exists
abbrev Bz:=@List.drop_append_of_le_length
abbrev uP:=@List.getD_cons_zero
abbrev qU:=@List.drop_drop
abbrev sw:=@Array.mem_append
abbrev nt:=@Array.ext'
abbrev Ch:=@List.set_set
abbrev EI:=@List.headD_cons
abbrev xO:=@Array.getElem?_toList
abbrev qV:=@Bool.false_or
abbrev qW:=@Bool.true_and
abbrev L7:=@List.pairwise_append
abbrev qS:=@Nat.add_zero
abbrev uF:=@Option.getD_some
abbrev uG:=@List.mem_reverse
abbrev uH:=@forall_eq_or_imp
abbrev Fm:=@List.takeWhile_append_dropWhile
abbrev qT:=@decide_true
abbrev uI:=@List.take_take
abbrev Fo:=@Array.getElem?_setIfInBounds
abbrev Fp:=@List.mem_zipIdx_iff_getElem?
abbrev x9:=@List.length_drop
abbrev x_:=@List.ext_getElem
abbrev yb:=@List.getElem_map
abbrev ye:=@List.take_length
abbrev yf:=@List.reverse_nil
abbrev Aq:=@List.reverse_reverse
abbrev Ar:=@List.mem_append_left
abbrev H6:=@Int.tmod_eq_emod_of_nonneg
abbrev Fq:=@List.getD_eq_getElem?_getD
abbrev uJ:=@List.any_cons
abbrev Bk:=@Array.getElem?_push
abbrev H7:=@List.mem_or_eq_of_mem_set
abbrev uN:=@Nat.mul_comm
abbrev uO:=@implies_true
abbrev As:=@List.set_cons_zero
abbrev uv:=@Bool.true_or
abbrev yg:=@List.drop_take
abbrev yh:=@List.mem_range
abbrev Ft:=@List.getElem?_cons_zero
abbrev Fu:=@List.append_cancel_left
abbrev At:=@List.flatMap_cons
abbrev BE:=@Int.lt_trichotomy
abbrev H8:=@Array.getElem?_eq_none
abbrev FM:=@List.dropWhile_sublist
abbrev H9:=@List.reverse_singleton
abbrev Rs:=@Array.all_eq_true_iff_forall_mem
abbrev Au:=@List.filter_cons
abbrev EZ:=@Array.mem_of_getElem?
abbrev E0:=@List.set_getElem_self
abbrev Y1:=@List.contains_eq_mem
abbrev n6:=@not_or
abbrev Hx:=@Array.mem_toList_iff
abbrev yc:=@Int.add_zero
abbrev E9:=@List.getD_cons_succ
abbrev yd:=@Nat.one_mul
abbrev E_:=@Array.foldl_toList
abbrev Fc:=@Int.emod_lt_of_pos
abbrev uM:=@forall_eq
abbrev Fe:=@List.set_cons_succ
abbrev NX:=@Array.toList_setIfInBounds
abbrev BP:=@false_implies
abbrev NY:=@List.perm_ext_iff_of_nodup
abbrev Ff:=@Bool.not_eq_false
abbrev Fg:=@List.getElem?_map
abbrev Fh:=@List.length_range
abbrev Fv:=@List.nodup_append
abbrev Sm:=@List.extract_eq_take_drop
abbrev Sn:=@List.drop_eq_getElem_cons
abbrev So:=@List.getElem?_eq_some_iff
abbrev Fw:=@List.drop_append
abbrev BQ:=@Nat.lt_or_ge
abbrev BF:=@List.map_map
abbrev BG:=@forall_const
abbrev BH:=@Nat.sub_zero
abbrev HY:=@List.any_eq_true
abbrev Sp:=@List.filter_cons_of_pos
abbrev Sq:=@List.getLast?_cons_cons
abbrev Fx:=@Nat.min_eq_left
abbrev Fy:=@List.foldr_cons
abbrev Fz:=@Option.map_none
abbrev FA:=@Nat.div_add_mod
abbrev FB:=@Int.emod_nonneg
abbrev FC:=@List.nodup_cons
abbrev Sr:=@List.filter_eq_nil_iff
abbrev Ss:=@List.getElem_cons_succ
abbrev Su:=@List.getElem_cons_zero
abbrev Sv:=@Array.getElem?_modify
abbrev FD:=@List.tail_cons
abbrev Sw:=@List.singleton_append
abbrev FE:=@List.foldl_nil
abbrev FG:=@Nat.add_assoc
abbrev FH:=@Nat.lt_irrefl
abbrev FJ:=@Bool.and_self
abbrev Ip:=@Int.le_trans
end Go
namespace Go.V
open Go
inductive Ty where
 | unit | int (k:IntKind) | bool | str | sl (t:Ty) | pair (a b:Ty)
 deriving DecidableEq
@[reducible] def Ty.den:Ty->Type
 | .unit=>Unit
 | .int _=>Int
 | .bool=>Bool
 | .str=>ByteArray
 | .sl t=>List t.den
 | .pair a b=>a.den×b.den
def Ty.width:Ty->Nat
 | .unit=>0
 | .int _=>1
 | .bool=>1
 | .str=>1
 | .sl _=>1
 | .pair a b=>a.width+b.width
def Ty.zero:(t:Ty)->t.den
 | .unit=>()
 | .int _=>0
 | .bool=>false
 | .str=>ByteArray.empty
 | .sl _=>[]
 | .pair a b=>(a.zero,b.zero)
def Ty.agg:Ty->Bool
 | .unit=>true
 | .pair _ _=>true
 | _=>false
inductive Mk where
 | no | gone | own (s:Nat) (m:Mk) | pr (a b:Mk)
 deriving DecidableEq
def Mk.fst:Mk->Mk
 | .pr a _=>a
 | .gone=>.gone
 | _=>.no
def Mk.snd:Mk->Mk
 | .pr _ b=>b
 | .gone=>.gone
 | _=>.no
def Mk.whole:Mk->Bool
 | .no=>true
 | .gone=>false
 | .own _ m=>m.whole
 | .pr a b=>a.whole&&b.whole
def Mk.still:Mk->Bool
 | .no=>true
 | .gone=>false
 | .own _ _=>false
 | .pr a b=>a.still&&b.still
def Mk.stamp(s:Nat):Mk->Mk
 | .no=>.no
 | .gone=>.gone
 | .own s0 m=>.own (if s0<1048576 then s else s0) (m.stamp s)
 | .pr a b=>.pr (a.stamp s) (b.stamp s)
def Mk.fj:Mk->Mk
 | .pr a b=>.pr a.fj b.fj
 | .gone=>.gone
 | .own _ m=>if m.whole then .no else .gone
 | .no=>.no
def Mk.meet:Mk->Mk->Mk
 | .no,x=>x.fj
 | .gone,_=>.gone
 | .own _ a,x=>
  match x with
  | .own s b=>.own s (a.meet b)
  | .no=>if a.whole then .no else .gone
  | _=>.gone
 | .pr a b,x=>
  match x with
  | .pr c d=>.pr (a.meet c) (b.meet d)
  | .no=>.pr (a.meet .no) (b.meet .no)
  | _=>.gone
def Mk.top:Ty->Mk
 | .sl t=>.own 0 (Mk.top t)
 | .pair a b=>.pr (Mk.top a) (Mk.top b)
 | _=>.no
def Mk.sS:Ty->Mk
 | .pair (.sl _) b=>.pr .no (Mk.sS b)
 | .pair a b=>.pr (Mk.top a) (Mk.sS b)
 | t=>Mk.top t
def Mk.zM(hint:Bool)(t:Ty):Mk:=if hint then Mk.sS t else Mk.top t
def Mk.aQ:(want alm:Mk)->Bool
 | .gone,_=>true
 | .no,h=>h.whole
 | .own _ w,.own _ h=>w.aQ h
 | .pr a b,.pr c d=>a.aQ c&&b.aQ d
 | .pr a b,.no=>a.aQ .no&&b.aQ .no
 | _,_=>false
inductive ov where
 | fst | snd | idx (i:Nat) (s:Nat)
 deriving DecidableEq
abbrev Path:=List ov
def ic:Nat->Path
 | 0=>[.fst]
 | n+1=>.snd::ic n
def ov.plain:ov->Bool
 | .idx _ _=>false
 | _=>true
structure Dy where
 ty:Ty
 ms:Mk
 x:ty.den
structure aB where
 ty:Ty
 ms:Mk
 x:ty.den
 mem:Bool
inductive bD where
 | val (t:Ty) (x:t.den)
 | cj (t:Ty) (x:t.den)
structure bf where
 f:FuncId
 caps:List bD
inductive AV where
 | undef
 | skip
 | cD (b:Bool)
 | unit
 | fh
 | val (t:Ty) (x:t.den)
 | b7 (r:Nat) (p:Path) (s:Nat)
 | view (r:Nat) (p:Path) (s:Nat) (lo hi:Nat)
 | addr (r:Nat) (p:Path)
 | b_ (t:Ty) (x:t.den)
 | pair (a b:AV)
 | jF (a:AV)
 | gE (f:FuncId) (caps:AV)
 | d9 (c:bf)
abbrev aP:=List (Option aB)
structure St where
 sl:List AV
 rt:aP
noncomputable section
def zP{α:Type}(l:List α)(i:Nat)(d:α):α:=
 List.rec (motive:=fun _=>Nat->α) (fun _=>d) (fun a _ ih i=>Nat.rec (motive:=fun _=>α) a (fun j _=>ih j) i) l i
theorem HL{α:Type}(d:α):∀(l:List α)(i:Nat),zP l i d=l.getD i d
 | [],_=>rfl
 | _::_,0=>rfl
 | _::l,i+1=>by show zP l i d=_;rw[HL d l i];rfl
def Ck{α:Type}(l:List α)(i:Nat)(v:α):List α:=
 List.rec (motive:=fun _=>Nat->List α) (fun _=>[]) (fun a l ih i=>Nat.rec (motive:=fun _=>List α) (v::l) (fun j _=>a::ih j) i) l i
theorem HC{α:Type}(v:α):∀(l:List α)(i:Nat),Ck l i v=l.set i v
 | [],_=>rfl
 | _::_,0=>rfl
 | a::l,i+1=>by show a::Ck l i v=_;rw[HC v l i];rfl
def aP.root(S:aP)(r:Nat):Option aB:=zP S r none
def aP.aG(S:aP)(r:Nat)(x:Option aB):aP:=Ck S r x
def St.get(S:St)(t:Nat):AV:=zP S.sl t .undef
abbrev St.root(S:St)(r:Nat):Option aB:=S.rt.root r
def St.set(S:St)(t:Nat)(v:AV):St:={ S with sl:=Ck S.sl t v }
theorem aP.ig(S:aP)(r:Nat):S.root r=S.getD r none:=HL _ _ _
theorem aP.bS(S:aP)(r:Nat)(x:Option aB):S.aG r x=S.set r x:=HC _ _ _
theorem St.get_eq(S:St)(t:Nat):S.get t=S.sl.getD t .undef:=HL _ _ _
theorem St.gi(S:St)(t:Nat)(v:AV):S.set t v={ S with sl:=S.sl.set t v }:=by unfold St.set;rw[HC]
def St.aG(S:St)(r:Nat)(x:Option aB):St:={ S with rt:=S.rt.aG r x }
def qbv(a b:Ty)(x:a.den):Option b.den:=if h:a=b then some (h ▸ x) else none
def focus:(t:Ty)->Mk->t.den->Path->Option Dy
 | t,m,x,[]=>some ⟨t,m,x⟩
 | .pair a _,m,x,.fst::p=>focus a m.fst x.1 p
 | .pair _ b,m,x,.snd::p=>focus b m.snd x.2 p
 | .sl t,.own s m,xs,.idx i s'::p=>if s=s' then focus t m (xs.getD i t.zero) p else none
 | _,_,_,_::_=>none
def put:(t:Ty)->Mk->t.den->Path->(t2:Ty)->Mk->t2.den->Option (Mk×t.den)
 | t,_,_,[],t2,m2,y=>(qbv t2 t y).bind fun y=>some (m2,y)
 | .pair a b,m,x,.fst::p,t2,m2,y=>(put a m.fst x.1 p t2 m2 y).bind fun r=>some (.pr r.1 m.snd,(r.2,x.2))
 | .pair a b,m,x,.snd::p,t2,m2,y=>(put b m.snd x.2 p t2 m2 y).bind fun r=>some (.pr m.fst r.1,(x.1,r.2))
 | .sl t,.own s m,xs,.idx i s'::p,t2,m2,y=>
  if s=s' then (put t m (xs.getD i t.zero) p t2 m2 y).bind fun r=>some (.own s (m.meet r.1),xs.set i r.2) else none
 | _,_,_,_::_,_,_,_=>none
def lH:Ty->Mk->Path->Mk->Option Mk
 | _,_,[],m2=>some m2
 | .pair a _,m,.fst::p,m2=>(lH a m.fst p m2).bind fun r=>some (.pr r m.snd)
 | .pair _ b,m,.snd::p,m2=>(lH b m.snd p m2).bind fun r=>some (.pr m.fst r)
 | .sl t,.own s m,.idx _ s'::p,m2=>if s=s' then (lH t m p m2).bind fun r=>some (.own s (m.meet r)) else none
 | _,_,_::_,_=>none
def cV(r:Nat):(t:Ty)->Mk->t.den->Path->AV
 | .unit,_,_,_=>.unit
 | .pair a b,m,x,p=>if m.still then .val (.pair a b) x else .pair (cV r a m.fst x.1 (p++[.fst])) (cV r b m.snd x.2 (p++[.snd]))
 | .sl t,.own s _,_,p=>.b7 r p s
 | .sl _,.gone,_,_=>.undef
 | t,_,x,_=>.val t x
def aP.focus(S:aP)(r:Nat)(p:Path):Option Dy:=
 match S.root r with
 | some R=>V.focus R.ty R.ms R.x p
 | none=>none
abbrev St.focus(S:St)(r:Nat)(p:Path):Option Dy:=S.rt.focus r p
def rd(S:aP):(t:Ty)->AV->Option t.den
 | t,.val t' x=>qbv t' t x
 | .unit,.unit=>some ()
 | .bool,.cD b=>some b
 | .sl _,.fh=>some []
 | .sl t,.b7 r p s=>
  match S.focus r p with
  | some ⟨.sl t',.own s' m,xs⟩=>if s=s'/\m.whole then qbv (.sl t') (.sl t) xs else none
  | _=>none
 | .pair a b,.pair u v=>(rd S a u).bind fun x=>(rd S b v).bind fun y=>some (x,y)
 | _,_=>none
def tk(S:aP):(t:Ty)->AV->Option (Mk×t.den×aP)
 | t,.val t' x=>(qbv t' t x).bind fun x=>some (.no,x,S)
 | .unit,.unit=>some (.no,(),S)
 | .bool,.cD b=>some (.no,b,S)
 | .sl t,.fh=>some (Mk.top (.sl t),[],S)
 | .sl t,.b7 r p s=>
  match S.root r with
  | some R=>
   match V.focus R.ty R.ms R.x p with
   | some ⟨.sl t',.own s' m,xs⟩=>
    if s=s' then
     (qbv (.sl t') (.sl t) xs).bind fun xs=>
     (lH R.ty R.ms p .gone).bind fun m'=>
     some (.own s' m,xs,S.aG r (some { R with ms:=m' }))
    else none
   | _=>none
  | none=>none
 | .pair a b,.pair u v=>(tk S a u).bind fun x=>(tk x.2.2 b v).bind fun y=>some (.pr x.1 y.1,(x.2.1,y.2.1),y.2.2)
 | _,_=>none
def By(S:aP):AV->Option Ty
 | .val t _=>some t
 | .cD _=>some .bool
 | .unit=>some .unit
 | .b7 r p _=>(S.focus r p).bind fun d=>some d.ty
 | .pair a b=>(By S a).bind fun x=>(By S b).bind fun y=>some (.pair x y)
 | _=>none
def share(S:aP)(t:Ty)(v:AV):Option (t.den×aP):=
 (tk S t v).bind fun x=>some (x.2.1,x.2.2)
def Ty.nz:Ty->Bool
 | .unit=>false
 | _=>true
def qx:Path->Bool
 | []=>false
 | .idx _ _::_=>true
 | _::p=>qx p
def AV.gG(d:Nat):AV->Bool
 | .addr r p=>!(Nat.beq r d)||qx p
 | .pair a b=>a.gG d&&b.gG d
 | .jF a=>a.gG d
 | .gE _ a=>a.gG d
 | _=>true
def Mk.ax:Mk->Bool
 | .own s m=>Nat.blt s 1048576&&m.ax
 | .pr a b=>a.ax&&b.ax
 | _=>true
def AV.roots:AV->List Nat
 | .b7 r _ _=>[r]
 | .view r _ _ _ _=>[r]
 | .addr r _=>[r]
 | .pair a b=>a.roots++b.roots
 | .jF a=>a.roots
 | .gE _ c=>c.roots
 | _=>[]
def sF(d:Nat):Nat->List AV->Bool
 | _,[]=>true
 | i,v::l=>(Nat.beq i d||!(v.roots.contains d))&&sF d (i+1) l
def EC(d:Nat):Nat->List AV->Bool
 | _,[]=>true
 | i,v::l=>(Nat.beq i d||v.gG d)&&EC d (i+1) l
inductive PK where
 | val (t:Ty)
 | own (t:Ty) (m:Mk)
 | cw (t:Ty) (m m':Mk)
 | cN (t:Ty) (m m':Mk)
 | cj (t:Ty)
 | fn
inductive RK where
 | val (t:Ty) (m:Mk)
 | ptr (t:Ty) (m:Mk)
structure wA where
 params:List PK
 res:List RK
@[reducible] def PK.den:PK->Type
 | .val t | .own t _ | .cw t _ _ | .cN t _ _ | .cj t=>t.den
 | .fn=>bf
@[reducible] def RK.den:RK->Type
 | .val t _ | .ptr t _=>t.den
@[reducible] def gb:List PK->Type
 | []=>Unit
 | k::ks=>k.den×gb ks
@[reducible] def f5:List RK->Type
 | []=>Unit
 | k::ks=>k.den×f5 ks
@[reducible] def dy:List PK->Type
 | []=>Unit
 | .cw t _ _::ks | .cN t _ _::ks=>t.den×dy ks
 | _::ks=>dy ks
structure Hints where
 keep:List (Nat×List Nat×List Nat×List Nat):=[]
 share:List (Nat×Nat):=[]
 outs:List (Nat×Nat):=[]
structure Ctx where
 ty:TypeId->Ty
 sig:FuncId->wA
 hints:FuncId->Hints
abbrev Den(C:Ctx):=(g:FuncId)->gb (C.sig g).params->Option (f5 (C.sig g).res×dy (C.sig g).params)
def jD(lo hi:Nat):Path->Bool
 | []=>true
 | .idx _ s::p=>!(Nat.ble lo s&&Nat.blt s hi)&&jD lo hi p
 | _::p=>jD lo hi p
@[reducible] def jq:List PK->Type
 | []=>Unit
 | .own t _::ks=>t.den×jq ks
 | _::ks=>jq ks
inductive Tr (α:Type):Type 1 where
 | ret (a:α)
 | fail
 | br (c:Bool) (x y:Tr α)
 | nil (n:Nat) (neg:Bool) (f:Bool->Tr α)
 | call {β:Type} (x:Option β) (f:β->Tr α)
def br{R:Type}(c:Bool)(a b:Option R):Option R:=
 match c with
 | true=>a
 | false=>b
def qd{α R:Type}(x:Option α)(f:α->Option R):Option R:=x.bind f
noncomputable def both{R:Type}(x y:Option R):Option R:=
 match x,y with
 | some a,some b=>open Classical in if a=b then some a else none
 | _,_=>none
noncomputable def LA{R:Type}(n:Nat)(neg:Bool)(k:Bool->Option R):Option R:=
 V.br (decide (n=0)) (both (k true) (k false)) (k neg)
noncomputable def Tr.run{α R:Type}(k:α->Option R):Tr α->Option R
 | .ret a=>k a
 | .fail=>none
 | .br c x y=>V.br c (x.run k) (y.run k)
 | .nil n neg f=>LA n neg fun b=>(f b).run k
 | .call x f=>qd x fun b=>(f b).run k
def Tr.dec{α:Type}(β:Bool):Tr α->Option α
 | .ret a=>some a
 | .fail=>none
 | .br c x y=>match c with
  | true=>x.dec β
  | false=>y.dec β
 | .nil n neg f=>(f (if n=0 then β else neg)).dec β
 | .call x f=>x.bind fun b=>(f b).dec β
theorem Tr.iV{α R:Type}{k:α->Option R}{r:R}(β:Bool):∀(t:Tr α),t.run k=some r->∃a,t.dec β=some a/\k a=some r
 | .ret a,h=>⟨a,rfl,h⟩
 | .fail,h=>by simp[Tr.run]at h
 | .br c x y,h=>by
  cases c with
  | true=>exact Tr.iV β x h
  | false=>exact Tr.iV β y h
 | .nil n neg f,h=>by
  simp only[Tr.run,LA]at h;simp only[Tr.dec];by_cases e:n=0
  .simp only[e,qT,V.br,aY]at h⊢;unfold both at h;split at h
   .rename_i a b h1 h2;split at h
    .rename_i hab;subst hab;simp only[aK]at h;subst h;cases β with
     | true=>exact Tr.iV true _ h1
     | false=>exact Tr.iV false _ h2
    .simp at h
   .simp at h
  .simp only[e,decide_false,V.br,dV]at h⊢;exact Tr.iV β _ h
 | .call x f,h=>by
  simp only[Tr.run,qd]at h;cases x with
  | none=>simp at h
  | some b=>simp only[dw]at h;obtain⟨a,h1,h2⟩:=Tr.iV β (f b) h;exact⟨a,by simpa [Tr.dec] using h1,h2⟩
def Tr.of{α:Type}:Option α->Tr α
 | some a=>.ret a
 | none=>.fail
def AV.flat:AV->AV
 | .cD b=>.val .bool b
 | v=>v
def A3:Value->AV
 | .bool b=>.val .bool b
 | .int k n=>.val (.int k) n
 | .string s=>.val .str s
 | .slice none 0 0=>.fh
 | _=>.undef
def ev(S:St):Operand->AV
 | .tmp t=>(S.get t).flat
 | .const v=>A3 v
 | .func f=>.gE f .unit
 | .global _=>.undef
def v9:AV->Option (IntKind×Int)
 | .val (.int k) n=>some (k,n)
 | _=>none
def asBool:AV->Option Bool
 | .val .bool b=>some b
 | .cD b=>some b
 | _=>none
def pP:(t:Ty)->t.den->t.den->Bool
 | .unit,_,_=>true
 | .int _,x,y=>x == y
 | .bool,x,y=>x == y
 | .str,x,y=>x.toList == y.toList
 | .sl _,_,_=>false
 | .pair a b,x,y=>pP a x.1 y.1&&pP b x.2 y.2
def Ty.comp:Ty->Bool
 | .sl _=>false
 | .pair a b=>a.comp&&b.comp
 | _=>true
def Fi(T:Ty)(op:BinOp)(u:Ty)(x:u.den)(t:Ty)(y:t.den):Tr AV:=
 if u.comp/\T=u then
  match op,qbv t u y with
  | .eql,some y=>.ret (.val .bool (pP u x y))
  | .neq,some y=>.ret (.val .bool (!(pP u x y)))
  | _,_=>.fail
 else .fail
def kJ(T:Ty)(op:BinOp)(x y:AV):Tr AV:=
 match x,y with
 | .val (.int ka) a,.val (.int kb) b=>
  match op with
  | .shl=>.br (decide (b<0)) .fail (.ret (.val (.int ka) (ka.wrap (a * 2 ^ (min b.toNat ka.bits)))))
  | .shr=>.br (decide (b<0)) .fail (.ret (.val (.int ka) (a.fdiv (2 ^ (min b.toNat ka.bits)))))
  | .add=>if ka=kb then .ret (.val (.int ka) (ka.wrap (a+b))) else .fail
  | .sub=>if ka=kb then .ret (.val (.int ka) (ka.wrap (a-b))) else .fail
  | .mul=>if ka=kb then .ret (.val (.int ka) (ka.wrap (a * b))) else .fail
  | .quo=>if ka=kb then (.br (decide (b=0)) .fail (.ret (.val (.int ka) (ka.wrap (a.tdiv b))))) else .fail
  | .rem=>if ka=kb then (.br (decide (b=0)) .fail (.ret (.val (.int ka) (a.tmod b)))) else .fail
  | .and=>if ka=kb then .ret (.val (.int ka) (ka.wrap (BitVec.ofInt ka.bits a &&&BitVec.ofInt ka.bits b).toNat)) else .fail
  | .or=>if ka=kb then .ret (.val (.int ka) (ka.wrap (BitVec.ofInt ka.bits a |||BitVec.ofInt ka.bits b).toNat)) else .fail
  | .xor=>if ka=kb then .ret (.val (.int ka) (ka.wrap (BitVec.ofInt ka.bits a ^^^ BitVec.ofInt ka.bits b).toNat)) else .fail
  | .andNot=>.fail
  | .eql=>if ka=kb then .ret (.val .bool (a == b)) else .fail
  | .neq=>if ka=kb then .ret (.val .bool (a != b)) else .fail
  | .lss=>if ka=kb then .ret (.val .bool (decide (a<b))) else .fail
  | .leq=>if ka=kb then .ret (.val .bool (decide (a<=b))) else .fail
  | .gtr=>if ka=kb then .ret (.val .bool (decide (a>b))) else .fail
  | .geq=>if ka=kb then .ret (.val .bool (decide (a>=b))) else .fail
 | .val .str a,.val .str b=>
  match op with
  | .add=>.br (decide (a.size+b.size<=2 ^ 47)) (.ret (.val .str (a++b))) .fail
  | .eql=>.ret (.val .bool (a.toList == b.toList))
  | .neq=>.ret (.val .bool (!(a.toList == b.toList)))
  | .lss=>.ret (.val .bool (Op.bytesLess a.toList b.toList))
  | .leq=>.ret (.val .bool (Op.bytesLess a.toList b.toList||a.toList == b.toList))
  | .gtr=>.ret (.val .bool (!(Op.bytesLess a.toList b.toList||a.toList == b.toList)))
  | .geq=>.ret (.val .bool (!(Op.bytesLess a.toList b.toList)))
  | _=>.fail
 | .val .bool a,.val .bool b=>
  if T=.bool then
   match op with
   | .eql=>.ret (.val .bool (a == b))
   | .neq=>.ret (.val .bool (!(a == b)))
   | _=>.fail
  else .fail
 | .val (.pair a b) x,.val t y=>Fi T op (.pair a b) x t y
 | _,_=>.fail
def yJ(S:aP):AV->Option Int
 | .val (.sl _) xs=>some xs.length
 | .fh=>some 0
 | .b7 r p s=>
  match S.focus r p with
  | some ⟨.sl _,.own s' _,xs⟩=>if s=s' then some (xs.length:Int) else none
  | _=>none
 | _=>none
def f_:Nat:=2 ^ 38
def xQ(S:aP)(T:Ty)(x i:AV):Tr AV:=
 match v9 i with
 | none=>.fail
 | some (_,n)=>
  match x with
  | .val (.sl t) xs=>if T=.sl t then .br (decide (0<=n)&&decide (n<(xs.length:Int))) (.ret (.b_ t (xs.getD n.toNat t.zero))) .fail else .fail
  | .b7 r p s=>
   match S.focus r p with
   | some ⟨.sl t,.own s' _,xs⟩=>if s=s'/\T=.sl t then (.br (decide (0<=n)&&decide (n<(xs.length:Int))) (.ret (.addr r (p++[.idx n.toNat s]))) .fail) else .fail
   | _=>.fail
  | _=>.fail
def vf(S:aP)(t:Ty):AV->Option AV
 | .b_ t' x=>(qbv t' t x).bind fun x=>some (.val t x)
 | .addr r p=>
  match S.focus r p with
  | some d=>if d.ty=t then some (cV r d.ty d.ms d.x p) else none
  | none=>none
 | _=>none
def BV(S:aP)(T:Ty)(x:AV)(f:Nat):Option AV:=
 match x with
 | .addr r p=>
  match S.focus r p with
  | some d=>if d.ty=T/\(focus d.ty d.ms d.x (ic f)).isSome then some (.addr r (p++ic f)) else none
  | none=>none
 | .b_ t x=>if t=T then (focus t .no x (ic f)).bind fun d=>some (.b_ d.ty d.x) else none
 | _=>none
def TU(S:aP)(hint:Bool)(t:Ty)(v:AV):Option (Mk×t.den×aP):=
 (tk S t v).bind fun x=>if hint then (if x.1.whole then some (.no,x.2.1,x.2.2) else none) else some x
def Bf(S:aP)(site:Nat)(hint:Bool)(t:Ty)(a v:AV):Option aP:=
 match a with
 | .addr r p=>
  (TU S hint t v).bind fun x=>
  match x.2.2.root r with
  | some R=>
   (V.focus R.ty R.ms R.x p).bind fun d=>
   if d.ty=t/\x.1.ax then
    (put R.ty R.ms R.x p t (x.1.stamp site) x.2.1).bind fun r'=>some (x.2.2.aG r (some { R with ms:=r'.1,x:=r'.2 }))
   else none
  | none=>none
 | _=>none
def oI(S:aP)(t:Ty):Mk×t.den->List (Nat×AV)->Option (Mk×t.den×aP)
 | acc,[]=>some (acc.1,acc.2,S)
 | acc,(i,v)::rest=>
  (focus t acc.1 acc.2 (ic i)).bind fun d=>
  (tk S d.ty v).bind fun x=>
  (put t acc.1 acc.2 (ic i) d.ty x.1 x.2.1).bind fun r=>oI x.2.2 t r rest
def tF(S:aP)(t:Ty):Mk×List t.den->List (Nat×AV)->Option (Mk×List t.den×aP)
 | acc,[]=>some (acc.1,acc.2,S)
 | acc,(i,v)::rest=>
  if i<acc.2.length then
   (tk S t v).bind fun x=>tF x.2.2 t (acc.1.meet x.1,acc.2.set i x.2.1) rest
  else none
def L3:AV->Nat->Option AV
 | .jF (.pair a _),0=>some a
 | .jF (.pair _ b),n+1=>L3 (.jF b) n
 | _,_=>none
def yR:(t:Ty)->t.den->AV
 | .unit,_=>.unit
 | .pair a b,x=>.pair (.val a x.1) (yR b x.2)
 | t,x=>.val t x
def xZ:AV->AV
 | .val t x=>yR t x
 | .pair a b=>.pair a (xZ b)
 | v=>v
def lV(S:aP):AV->Option (List bD)
 | .unit=>some []
 | .pair (.addr r p) rest=>
  match S.focus r p with
  | some d=>if d.ms.whole then (lV S rest).bind fun l=>some (.cj d.ty d.x::l) else none
  | none=>none
 | .pair (.b_ t x) rest=>(lV S rest).bind fun l=>some (.cj t x::l)
 | .pair (.val t x) rest=>(lV S rest).bind fun l=>some (.val t x::l)
 | _=>none
def fX(S:aP):(ks:List PK)->List AV->Option (jq ks×aP)
 | [],[]=>some ((),S)
 | .own t m::ks,a::aI=>
  (tk S t a).bind fun x=>if m.aQ x.1 then (fX x.2.2 ks aI).bind fun r=>some ((x.2.1,r.1),r.2) else none
 | .val _::ks,_::aI=>fX S ks aI
 | .cw _ _ _::ks,_::aI=>fX S ks aI
 | .cN _ _ _::ks,_::aI=>fX S ks aI
 | .cj _::ks,_::aI=>fX S ks aI
 | .fn::ks,_::aI=>fX S ks aI
 | _,_=>none
def kC:AV->Option (Nat×Path)
 | .b7 r p _=>some (r,p)
 | .pair a b=>
  match kC a with
  | some (r,p)=>some (r,p.dropLast)
  | none=>match kC b with
   | some (r,p)=>some (r,p.dropLast)
   | none=>none
 | _=>none
def uZ:AV->Path->Bool
 | .b7 _ p' _,p=>decide (p'=p)
 | .pair a b,p=>uZ a (p++[.fst])&&uZ b (p++[.snd])
 | _,_=>true
def vW:List PK->List AV->Bool
  | .cN _ _ _::ks,a::aI=>
    (match kC a with
     | some (_,p)=>uZ a p
     | none=>true)&&vW ks aI
  | _::ks,_::aI=>vW ks aI
  | _,_=>true
def j9(r:Nat):(t:Ty)->AV->Path->Mk->t.den->Option (Mk×t.den)
 | .pair a b,.pair u v,p,md,xd=>
  (j9 r a u (p++[.fst]) md.fst xd.1).bind fun y=>
  (j9 r b v (p++[.snd]) md.snd xd.2).bind fun z=>some (.pr y.1 z.1,(y.2,z.2))
 | .sl _,.b7 r' p' s,p,md,xd=>
  match md with
  | .own s' m0=>if r=r'/\s=s' then some (.own s' m0,xd) else none
  | _=>none
 | t,.val t' x,_,md,_=>if md.still then (qbv t' t x).bind fun y=>some (.no,y) else none
 | .unit,.unit,_,md,_=>if md.still then some (.no,()) else none
 | _,_,_,_,_=>none
def gB(S:aP):(ks:List PK)->List AV->Option (dy ks×aP)
 | [],[]=>some ((),S)
 | .cN t m _::ks,a::aI=>
  match kC a with
  | some (q,p)=>
   match S.root q with
   | some R=>
    (focus R.ty R.ms R.x p).bind fun d=>
    if h:d.ty=t then
     (j9 q t a p d.ms (h ▸ d.x)).bind fun x=>if m.aQ x.1 then (gB (S.aG q none) ks aI).bind fun r=>some ((x.2,r.1),r.2) else none
    else none
   | none=>none
  | none=>none
 | .cw t m _::ks,a::aI=>
  match a with
  | .addr q []=>
   match S.root q with
   | some R=>if m.aQ R.ms/\R.mem then (qbv R.ty t R.x).bind fun x=>(gB (S.aG q none) ks aI).bind fun r=>some ((x,r.1),r.2) else none
   | none=>none
  | _=>none
 | .val _::ks,_::aI=>gB S ks aI
 | .own _ _::ks,_::aI=>gB S ks aI
 | .cj _::ks,_::aI=>gB S ks aI
 | .fn::ks,_::aI=>gB S ks aI
 | _,_=>none
def jh(S:aP):(ks:List PK)->List AV->jq ks->dy ks->Option (gb ks)
 | [],[],_,_=>some ()
 | .val t::ks,a::aI,g,o=>(rd S t a).bind fun x=>(jh S ks aI g o).bind fun r=>some (x,r)
 | .cj t::ks,a::aI,g,o=>
  match a with
  | .b_ t' x=>(qbv t' t x).bind fun x=>(jh S ks aI g o).bind fun r=>some (x,r)
  | .addr q p=>
   match S.focus q p with
   | some d=>if d.ms.whole then (qbv d.ty t d.x).bind fun x=>(jh S ks aI g o).bind fun r=>some (x,r) else none
   | none=>none
  | _=>none
 | .own _ _::ks,_::aI,g,o=>(jh S ks aI g.2 o).bind fun r=>some (g.1,r)
 | .cw _ _ _::ks,_::aI,g,o=>(jh S ks aI g o.2).bind fun r=>some (o.1,r)
 | .cN _ _ _::ks,_::aI,g,o=>(jh S ks aI g o.2).bind fun r=>some (o.1,r)
 | .fn::ks,a::aI,g,o=>
  match a with
  | .gE f caps=>(lV S caps).bind fun l=>(jh S ks aI g o).bind fun r=>some (⟨f,l⟩,r)
  | .d9 c=>(jh S ks aI g o).bind fun r=>some (c,r)
  | _=>none
 | _,_,_,_=>none
def gC(site r:Nat):(t:Ty)->AV->Path->Mk->t.den->Mk->t.den->Option (Mk×t.den)
 | .pair a b,.pair u v,p,md,xd,m,o=>
  (gC site r a u (p++[.fst]) md.fst xd.1 m.fst o.1).bind fun y=>
  (gC site r b v (p++[.snd]) md.snd xd.2 m.snd o.2).bind fun z=>some (.pr y.1 z.1,(y.2,z.2))
 | .sl _,.b7 r' p' s,p,md,_,m,o=>
  match md with
  | .own s' m0=>if r=r'/\s=s'/\m0.ax/\(Mk.own s' m0).aQ m then some (.own s' (m0.stamp site),o) else none
  | _=>none
 | _,.val _ _,_,md,xd,_,_=>if md.still then some (.no,xd) else none
 | _,.unit,_,md,xd,_,_=>if md.still then some (.no,xd) else none
 | _,_,_,_,_,_,_=>none
def xP(S:aP)(site:Nat)(t:Ty)(a:AV)(m:Mk)(o:t.den):Option aP:=
 match kC a with
 | none=>some S
 | some (r,p)=>
  match S.root r with
  | some R=>
   (focus R.ty R.ms R.x p).bind fun d=>
   if h:d.ty=t then
    (gC site r t a p d.ms (h ▸ d.x) m o).bind fun y=>
    if qx p&&!y.1.ax then none else
    (put R.ty R.ms R.x p t y.1 y.2).bind fun r'=>some (S.aG r (some { R with ms:=r'.1,x:=r'.2 }))
   else none
  | none=>none
def PK.plain:PK->Bool
 | .val _ | .cj _ | .fn=>true
 | _=>false
def PK.mc:PK->Bool
 | .own _ _=>true
 | _=>false
def PK.eD:PK->Bool
 | .cw _ _ _ | .cN _ _ _=>true
 | _=>false
def Mk.full:Ty->Mk->Bool
 | .sl t,.own _ m=>m.full t
 | .sl _,_=>false
 | .pair a b,m=>m.fst.full a&&m.snd.full b
 | _,_=>true
def PK.full:PK->Bool
 | .cw t _ m | .cN t _ m=>m.full t
 | _=>true
def RK.full:RK->Bool
 | .val t m | .ptr t m=>m.full t
def wA.full(s:wA):Bool:=s.params.all PK.full&&s.res.all RK.full
def AV.shared:AV->Bool
 | .val _ _ | .unit | .cD _ | .fh | .b_ _ _ | .d9 _=>true
 | .pair a b=>a.shared&&b.shared
 | .gE _ c=>c.shared
 | _=>false
def mJ:List PK->List AV->Bool
 | k::ks,a::aI=>(!k.plain||a.shared)&&mJ ks aI
 | _,_=>true
def HO(ks:List PK):Bool:=
 match ks.filter PK.eD with
 | []=>true
 | [_]=>ks.all fun k=>!k.mc
 | _=>false
def ga(S:aP)(site:Nat):(ks:List PK)->List AV->dy ks->Option aP
 | [],[],_=>some S
 | .cw t _ m'::ks,a::aI,o=>
  match a with
  | .addr q []=>if m'.ax then ga (S.aG q (some ⟨t,m'.stamp site,o.1,true⟩)) site ks aI o.2 else none
  | _=>none
 | .cN t _ m'::ks,a::aI,o=>(xP S site t a m' o.1).bind fun S=>ga S site ks aI o.2
 | .val _::ks,_::aI,o=>ga S site ks aI o
 | .own _ _::ks,_::aI,o=>ga S site ks aI o
 | .cj _::ks,_::aI,o=>ga S site ks aI o
 | .fn::ks,_::aI,o=>ga S site ks aI o
 | _,_,_=>none
def RK.ty:RK->Ty
 | .val t _ | .ptr t _=>t
def RK.ms:RK->Mk
 | .val _ m | .ptr _ m=>m
def RK.kS:RK->Bool
 | .ptr _ _=>true
 | _=>false
def jo:List RK->Ty
 | []=>.unit
 | k::ks=>.pair k.ty (jo ks)
def pQ:List RK->Mk
 | []=>.no
 | k::ks=>.pr k.ms (pQ ks)
def kg:(ks:List RK)->f5 ks->(jo ks).den
 | [],_=>()
 | .val _ _::ks,r=>(r.1,kg ks r.2)
 | .ptr _ _::ks,r=>(r.1,kg ks r.2)
structure bU where
 xo:Bool
 pl:Bool
 fr:Bool
 sh:Bool
def dQ(A:bU)(S:aP)(d:Option Nat)(site:Nat)(t:Ty)(m:Mk)(x:t.den)(mem:Bool):Tr (AV×aP):=
 match d with
 | none=>.ret (.undef,S)
 | some d=>
  if !Nat.blt d S.length||!Nat.blt site 1048576 then .fail
  else if mem then (if A.xo then .ret (.addr d [],S.aG d (some ⟨t,m.stamp site,x,true⟩)) else .fail)
  else if m.still then .ret (.val t x,S)
  else if A.xo||(A.fr&&m.ax&&A.pl) then .ret (cV d t (m.stamp site) x [],S.aG d (some ⟨t,m.stamp site,x,false⟩)) else .fail
section ops
variable (C:Ctx) (D:Den C)
def Ca(A:bU)(S:aP)(d:Option Nat)(site:Nat)(ks:List RK)(r:f5 ks):Tr (AV×aP):=
 if (pQ ks).ax&&ks.all (fun k=>!k.kS&&k.ty.nz) then
  match d with
  | none=>.ret (.undef,S)
  | some d=>
   match dQ A S (some d) site (jo ks) (pQ ks) (kg ks r) false with
   | .ret (v,S)=>.ret (.jF (xZ v),S)
   | _=>.fail
 else .fail
def mu(A:bU)(S:aP)(d:Option Nat)(site:Nat):(ks:List RK)->f5 ks->Tr (AV×aP)
 | [],_=>.ret (.jF .unit,S)
 | [.val t m],r=>if A.sh then (if m.whole then .ret (.val t r.1,S) else .fail) else if m.ax then dQ A S d site t m r.1 false else .fail
 | [.ptr t m],r=>if m.ax then dQ A S d site t m r.1 true else .fail
 | ks,r=>Ca A S d site ks r
def rY(A:bU)(S:aP)(d:Option Nat)(site:Nat)(g:FuncId)(args:List AV):Tr (AV×aP):=
  match fX S (C.sig g).params args with
  | none=>.fail
  | some (gd,S1)=>
  match gB S1 (C.sig g).params args with
  | none=>.fail
  | some (od,S2)=>
  match jh S2 (C.sig g).params args gd od with
  | none=>.fail
  | some a=>
    if HO (C.sig g).params&&(mJ (C.sig g).params args||(C.sig g).full) then
      .call (D g a) fun r=>
        if (C.sig g).params.all (fun k=>!k.eD) then mu A S1 d site (C.sig g).res r.1
        else if A.fr then
          .br (vW (C.sig g).params args)
            (match ga S1 site (C.sig g).params args r.2 with
             | none=>.fail
             | some S3=>mu A S3 d site (C.sig g).res r.1) .fail
        else .fail
    else .fail
def k_(S:aP):List PK->List AV->Option (List AV×aP)
 | [],[]=>some ([],S)
 | .val t::ks,a::aI=>
  if a.shared then (k_ S ks aI).map fun z=>(a::z.1,z.2)
  else match tk S t a with
   | some (m,y,S1)=>if m.whole then (k_ S1 ks aI).map fun z=>(.val t y::z.1,z.2) else none
   | none=>none
 | _::ks,a::aI=>(k_ S ks aI).map fun z=>(a::z.1,z.2)
 | _,_=>none
def GF(s:wA)(args:List AV):Bool:=!(mJ s.params args||s.full)
def qP(A:bU)(S:aP)(d:Option Nat)(site:Nat)(g:FuncId)(args:List AV):Tr (AV×aP):=
 if GF (C.sig g) args then
  match k_ S (C.sig g).params args with
  | some z=>rY C D A z.2 d site g z.1
  | none=>.fail
 else rY C D A S d site g args
def yD:(ks:List PK)->List bD->Option (gb ks)
 | [],[]=>some ()
 | .val t::ks,.val t' x::l=>(qbv t' t x).bind fun x=>(yD ks l).bind fun r=>some (x,r)
 | .cj t::ks,.cj t' x::l=>(qbv t' t x).bind fun x=>(yD ks l).bind fun r=>some (x,r)
 | _,_=>none
def EK:(ks:List RK)->f5 ks->(t:Ty)->Option t.den
 | [.val t' _],r,t=>qbv t' t r.1
 | _,_,_=>none
def gZ(c:bf)(xs:List bD)(t:Ty):Option t.den:=
 (yD (C.sig c.f).params (xs++c.caps)).bind fun a=>(D c.f a).bind fun r=>EK (C.sig c.f).res r.1 t
def yL(S:aP):List Ty->List AV->Option (List bD)
 | [],[]=>some []
 | t::ts,a::aI=>(rd S t a).bind fun x=>(yL S ts aI).bind fun l=>some (.val t x::l)
 | _,_=>none
def Ty.scalar:Ty->Bool
 | .int _=>true
 | .bool=>true
 | .str=>true
 | _=>false
def mY:AV->List AV
 | .pair a b=>a::mY b
 | _=>[]
def pV:Mk->Option Mk
 | .own _ m=>some m
 | .no=>some .no
 | _=>none
def Dj(A:bU)(S:aP)(d:Option Nat)(site:Nat)(t:Ty)(x y:AV):Tr (AV×aP):=
 match tk S (.sl t) x with
 | some (.own _ m,xs,S1)=>
  match tk S1 (.sl t) y with
  | some (my,ys,S2)=>
   match pV my with
   | some m'=>
    if (m.meet m').ax then
     .br (decide (xs.length+ys.length<=f_)) (dQ A S2 d site (.sl t) (.own 0 (m.meet m')) (xs++ys) false) .fail
    else .fail
   | none=>.fail
  | none=>.fail
 | _=>.fail
def qR(S:aP)(t:Ty):AV->AV->Tr (AV×aP)
 | .b7 r p s,.val (.sl t2) ys=>
  match S.root r with
  | some R=>
   match V.focus R.ty R.ms R.x p with
   | some ⟨.sl t',.own s' m,xs⟩=>
    if s=s'/\t'=t/\t2=t/\m.still=true then
     match qbv (.sl t') (.sl t) xs,qbv (.sl t2) (.sl t) ys,put R.ty R.ms R.x p (.sl t') .no xs with
     | some xs',some ys',some r'=>.br (decide ((xs':List t.den).length+(ys':List t.den).length<=f_)) (.ret (.val (.sl t) ((xs':List t.den)++(ys':List t.den)),S.aG r (some { R with ms:=r'.1,x:=r'.2 }))) .fail
     | _,_,_=>.fail
    else .fail
   | _=>.fail
  | none=>.fail
 | _,_=>.fail
def EL(A:bU)(S:aP)(d:Option Nat)(site:Nat)(hint:Bool)(v:AV):Tr (AV×aP):=
 match By S v with
 | some t=>
  match tk S t v with
  | some (m,y,S1)=>
   if hint then (if m.whole then .ret (.val t y,S1) else .fail)
   else dQ A S1 d site t m y false
  | none=>.fail
 | none=>.fail
def Js:Option AV->Option Int
 | none=>some 0
 | some v=>(v9 v).map (·.2)
def Eo(n:Int):Option AV->Option Int
 | none=>some n
 | some v=>(v9 v).map (·.2)
def uL(S:aP)(e:Ty)(r:Nat)(p:Path)(s:Nat)(lo:AV)(hi:Option AV):Tr (AV×aP):=
 match v9 lo,hi with
 | some kl,none=>
  match S.focus r p with
  | some ⟨.sl e',.own s' _,xs⟩=>if s=s'/\e=e' then .br (decide (0<=kl.2)&&decide (kl.2<=((xs:List e'.den).length:Int))) (.ret (.view r p s kl.2.toNat (xs:List e'.den).length,S)) .fail else .fail
  | _=>.fail
 | _,_=>.fail
def aky(S:aP)(t:Ty):AV->Tr (AV×aP):=fun _=>.fail
def vZ(t:Ty)(xs ys:List t.den):List t.den:=ys.take xs.length++xs.drop ys.length
def xW(S:aP)(t:Ty):AV->AV->Tr (AV×aP)
 | .b7 r p s,.val (.sl t2) ys=>
  match S.root r with
  | some R=>
   match V.focus R.ty R.ms R.x p with
   | some ⟨.sl t',.own s' .no,xs⟩=>
    if s=s'/\t'=t/\t2=t/\s'<1048576 then
     match qbv (.sl t2) (.sl t') ys with
     | some ys'=>
      match put R.ty R.ms R.x p (.sl t') (.own s' .no) (vZ t' xs ys') with
      | some r'=>.br (decide (0<(ys':List t'.den).length)&&decide (0<(xs:List t'.den).length)) (.ret (.val (.int .i64) ((min (ys':List t'.den).length (xs:List t'.den).length:Nat):Int),S.aG r (some { R with ms:=r'.1,x:=r'.2 }))) (.ret (.val (.int .i64) ((0:Nat):Int),S))
      | none=>.fail
     | none=>.fail
    else .fail
   | _=>.fail
  | none=>.fail
 | _,_=>.fail
def uE(A:bU)(S:aP)(T:Ty)(d:Option Nat)(site:Nat)(x:AV)(lo hi:Option AV):Tr (AV×aP):=
 match x,T with
 | .val .str s,.str=>
  match Js lo,Eo s.size hi with
  | some l,some h=>.br (decide (0<=l)&&decide (l<=h)&&decide (h<=(s.size:Int))) (.ret (.val .str (s.extract l.toNat h.toNat),S)) .fail
  | _,_=>.fail
 | .val (.sl e) xs,.sl e'=>
  match Js lo,Eo xs.length hi with
  | some l,some h=>if e=e' then .br (decide (0<=l)&&decide (l<=h)&&decide (h<=(xs.length:Int))) (.ret (.val (.sl e) ((xs.take h.toNat).drop l.toNat),S)) .fail else .fail
  | _,_=>.fail
 | .b7 r p s,.sl e=>
  match lo with
  | none=>
   match tk S (.sl e) (.b7 r p s) with
   | some (.own _ m,xs,S2)=>
    match Eo xs.length hi with
    | some h=>if m.ax then (.br (decide (0<=h)&&decide (h<=(xs.length:Int))) (dQ A S2 d site (.sl e) (.own 0 m) (xs.take h.toNat) false) .fail) else .fail
    | none=>.fail
   | _=>.fail
  | some v=>uL S e r p s v hi
 | _,_=>.fail
def aX(A:bU)(ρ:Operand->AV)(S:aP)(site:Nat)(hint:Bool)(o:Oper):Tr (AV×aP):=
 match o.op with
 | .move x=>.ret (ρ x,S)
 | .assign x=>
  match ρ x with
  | .b7 r p s=>if qx p&&!hint then .ret (.b7 r p s,S) else EL A S o.dst site hint (.b7 r p s)
  | .pair a b=>EL A S o.dst site hint (.pair a b)
  | v=>.ret (v,S)
 | .pick c a b=>
  match asBool (ρ c) with
  | some c=>.br c (.ret (ρ a,S)) (.ret (ρ b,S))
  | none=>.fail
 | .alloc t=>if (C.ty t).nz then dQ A S o.dst site (C.ty t) (Mk.top (C.ty t)) (C.ty t).zero true else .fail
 | .box t x=>
  if (C.ty t).nz then
   match tk S (C.ty t) (ρ x) with
   | some (m,y,S1)=>if hint then (if m.whole then dQ A S1 o.dst site (C.ty t) .no y true else .fail) else dQ A S1 o.dst site (C.ty t) m y true
   | none=>.fail
  else .fail
 | .build t parts=>
  if (C.ty t).nz&&(C.ty t).agg then
   match oI S (C.ty t) (Mk.zM hint (C.ty t),(C.ty t).zero) (parts.toList.map fun p=>(p.1,ρ p.2)) with
   | some (m,y,S1)=>dQ A S1 o.dst site (C.ty t) m y false
   | none=>.fail
  else .fail
 | .buildSlice t n parts=>
  match C.ty t with
  | .sl e=>
   match tF S e (Mk.top e,List.replicate n e.zero) (parts.toList.map fun p=>(p.1,ρ p.2)) with
   | some (m,y,S1)=>
    if m.ax&&Nat.ble (n * e.width) 16777216 then
     (if hint then (if m.whole then .ret (.val (.sl e) y,S1) else .fail) else dQ A S1 o.dst site (.sl e) (.own 0 m) y false)
    else .fail
   | none=>.fail
  | _=>.fail
 | .load t a=>if (C.ty t).nz then .of ((vf S (C.ty t) (ρ a)).map fun v=>(v,S)) else .fail
 | .store t a x=>if (C.ty t).nz&&A.fr then .of ((Bf S site hint (C.ty t) (ρ a) (ρ x)).map fun S=>(.undef,S)) else .fail
 | .nilCheck x=>
  match ρ x with
  | .addr r p=>match S.focus r p with | some _=>.ret (.addr r p,S) | none=>.fail
  | .b_ t x=>.ret (.b_ t x,S)
  | .gE f c=>.ret (.gE f c,S)
  | _=>.fail
 | .binOp op xt x y _=>
  match ρ y with
  | .fh=>
   match C.ty xt,op,yJ S (ρ x) with
   | .sl _,.eql,some n=>.nil n.toNat false fun b=>.ret (.val .bool b,S)
   | .sl _,.neq,some n=>.nil n.toNat true fun b=>.ret (.val .bool b,S)
   | _,_,_=>.fail
  | w=>
   match kJ (C.ty xt) op (ρ x) w with
   | .ret v=>.ret (v,S)
   | .br c (.ret v) .fail=>.br c (.ret (v,S)) .fail
   | .br c .fail (.ret v)=>.br c .fail (.ret (v,S))
   | _=>.fail
 | .unOp op _ x=>
  match op,ρ x with
  | .not,.val .bool b=>.ret (.val .bool (!b),S)
  | .neg,.val (.int kd) n=>.ret (.val (.int kd) (kd.wrap (0-n)),S)
  | _,_=>.fail
 | .convert src dst x=>
  match C.ty src,C.ty dst,ρ x with
  | .int _,.int kd,.val (.int _) n=>.ret (.val (.int kd) (kd.wrap n),S)
  | .str,.str,.val .str s=>.ret (.val .str s,S)
  | .sl (.int .u8),.str,v=>
   match rd S (.sl (.int .u8)) v with
   | some xs=>.ret (.val .str (ByteArray.mk (xs.map fun n=>UInt8.ofNat n.toNat).toArray),S)
   | none=>.fail
  | _,_,_=>.fail
 | .makeFunc (.func f) first caps=>if first.isEmpty then .ret (.gE f (caps.toList.foldr (fun x r=>.pair (ρ x) r) .unit),S) else .fail
 | .makeSlice t len cap=>
  match C.ty t,v9 (ρ len),v9 (ρ cap) with
  | .sl e,some (.i64,l),some (.i64,c)=>
   .br (decide (0<=l)&&decide (l<=c)&&decide (c<=(f_:Int)))
    (dQ A S o.dst site (.sl e) (.own 0 (Mk.top e)) (List.replicate l.toNat e.zero) false) .fail
  | _,_,_=>.fail
 | .slice t x lo hi none=>uE A S (C.ty t) o.dst site (ρ x) (lo.map ρ) (hi.map ρ)
 | .fieldAddr s x f=>.of ((BV S (C.ty s) (ρ x) f).map fun v=>(v,S))
 | .field ts x f=>
  match ρ x with
  | .val t y=>
   if t=C.ty ts then
    match focus t .no y (ic f) with
    | some dd=>.ret (.val dd.ty dd.x,S)
    | none=>.fail
   else .fail
  | _=>.fail
 | .indexAddr t x i=>
  match xQ S (C.ty t) (ρ x) (ρ i) with
  | .br c (.ret v) .fail=>.br c (.ret (v,S)) .fail
  | _=>.fail
 | .index t x i=>
  match C.ty t,ρ x,v9 (ρ i) with
  | .str,.val .str s,some (_,n)=>.br (decide (0<=n)&&decide (n<(s.size:Int))) (.ret (.val (.int .u8) ((s.data.getD n.toNat 0).toNat:Int),S)) .fail
  | _,_,_=>.fail
 | .extract x i=>.of ((L3 (ρ x) i).map fun v=>(v,S))
 | .call c=>
  match c.callee with
  | .builtin b=>
   match b,c.args.toList.map ρ,c.argTypes.toList.map C.ty with
   | .len,[.val .str s],.str::_=>.ret (.val (.int .i64) (s.size:Nat),S)
   | .len,[x],.sl _::_=>.of ((yJ S x).map fun n=>(.val (.int .i64) n,S))
   | .append,[x,y],.sl t::.sl t'::_=>if t=t' then (if hint then qR S t x y else Dj A S o.dst site t x y) else .fail
   | .clear,[x],.sl t::_=>aky S t x
   | .copy,[x,y],.sl t::_=>xW S t x y
   | .min,[x,y],_=>match x,y with | .val (.int ka) a,.val (.int kb) b=>if ka=kb then .ret (.val (.int ka) (if b<a then b else a),S) else .fail | _,_=>.fail
   | .max,[x,y],_=>match x,y with | .val (.int ka) a,.val (.int kb) b=>if ka=kb then .ret (.val (.int ka) (if b>a then b else a),S) else .fail | _,_=>.fail
   | _,_,_=>.fail
  | .value f=>
   match ρ f with
   | .gE g caps=>qP C D { A with sh:=hint } S o.dst site g (c.args.toList.map ρ++mY caps)
   | .d9 f=>
    if (C.ty o.type).scalar then
     match yL S (c.argTypes.toList.map C.ty) (c.args.toList.map ρ) with
     | some xs=>.call (gZ C D f xs (C.ty o.type)) fun x=>.ret (.val (C.ty o.type) x,S)
     | none=>.fail
    else .fail
   | _=>.fail
  | _=>.fail
 | _=>.fail
end ops
def AV.aR(lo hi:Nat):AV->Bool
 | .b7 _ p s=>!(Nat.ble lo s&&Nat.blt s hi)&&jD lo hi p
 | .view _ p s _ _=>!(Nat.ble lo s&&Nat.blt s hi)&&jD lo hi p
 | .addr _ p=>jD lo hi p
 | .pair a b=>a.aR lo hi&&b.aR lo hi
 | .jF a=>a.aR lo hi
 | .gE _ c=>c.aR lo hi
 | _=>true
def IF(s:Nat):List AV->Bool
 | []=>true
 | v::l=>v.aR s (s+1)&&IF s l
def lE(sl:List AV)(d:Option Nat)(s:Nat):bU where
 xo:=match d with | some d=>sF d 0 sl | none=>true
 pl:=match d with | some d=>EC d 0 sl | none=>true
 fr:=Nat.blt s 1048576&&IF s sl
 sh:=false
end
end Go.V
namespace Go.V
noncomputable section
open Go
inductive Ex where
 | normal | exit (id:Nat) | ret
section
variable (C:Ctx) (D:Den C) {R:Type}
def uD(S:St)(o:Oper)(v:AV):St:=
 match o.dst with
 | some d=>S.set d v
 | none=>S
def lz(ops:Array Oper)(j:Nat):Nat:=((ops[j]?).bind (·.dst)).getD 0
def Da:Path->List Nat
 | []=>[]
 | .idx _ s::p=>s::Da p
 | _::p=>Da p
def AV.stamps:AV->List Nat
 | .b7 _ p s=>s::Da p
 | .view _ p s _ _=>s::Da p
 | .addr _ p=>Da p
 | .pair a b=>a.stamps++b.stamps
 | .jF a=>a.stamps
 | .gE _ c=>c.stamps
 | _=>[]
structure jH where
 i:Nat
 rd:List Nat
 st:List Nat
 site:Nat
 wr:Option (List Nat)
 io:Option (aP×aP)
 dst:Option Nat
 ld:Option ((aP->Option AV)×AV)
 bl:Bool
 lc:Bool
abbrev Log:=List jH
def NO(ops:Array Oper)(c:Nat):Nat->Oper->Bool
 | 0,_=>false
 | n+1,o=>
  match o.guard with
  | none=>false
  | some (j,_)=>Nat.beq (lz ops j) c||(match ops[j]? with | some oj=>NO ops c n oj | none=>false)
def sK(ops:Array Oper)(i:Nat)(o:Oper):List Nat:=
 match o.op with
 | .pick (.tmp c) _ _=>(ops.toList.take i).filterMap fun o'=>if NO ops c 8 o' then o'.dst else none
 | _=>[]
def St.forget(S:St):List Nat->St
 | []=>S
 | t::ts=>(S.set t .undef).forget ts
def fin(ops:Array Oper)(S:St)(i:Nat)(o:Oper)(v:AV):St:=uD (S.forget (sK ops i o)) o v
def qk:List AV->List Nat
 | []=>[]
 | v::l=>v.roots++qk l
def uB(S:St)(o:Oper):List AV:=o.op.operands.toList.map (ev S)
def mj:List PK->List AV->List Nat
 | k::ks,a::aI=>if k.plain then mj ks aI else a.roots++mj ks aI
 | _,_=>[]
def G0(s:wA):Bool:=s.params.all PK.plain&&s.res.all (fun k=>!k.kS&&k.ms.still)
def Ty.flat:Ty->Bool
 | .sl _=>false
 | .pair a b=>a.flat&&b.flat
 | _=>true
def AV.isVal:AV->Bool
 | .val _ _=>true
 | .cD _=>true
 | _=>false
def TK(ρ:Operand->AV)(l:List (Nat×Operand)):Bool:=l.all fun p=>(ρ p.2).isVal
def dN(ρ:Operand->AV)(o:Oper):Option (List Nat):=
 let all:=some (o.dst.toList++qk (o.op.operands.toList.map ρ))
 match o.op with
 | .move _ | .pick _ _ _ | .load _ _ | .nilCheck _ | .binOp _ _ _ _ _ | .unOp _ _ _ | .convert _ _ _ | .makeFunc _ _ _ | .fieldAddr _ _ _ | .field _ _ _ | .indexAddr _ _ _ | .index _ _ _ | .extract _ _=>none
 | .assign x=>match ρ x with | .b7 _ _ _=>all | .pair _ _=>all | _=>none
 | .build t parts=>if (C.ty t).flat&&TK ρ parts.toList then none else all
 | .call c=>
  match c.callee with
  | .builtin .len | .builtin .min | .builtin .max=>none
  | .builtin _=>all
  | .value f=>
   match ρ f with
   | .gE g caps=>if GF (C.sig g) (c.args.toList.map ρ++mY caps) then all else if G0 (C.sig g) then none else some (o.dst.toList++mj (C.sig g).params (c.args.toList.map ρ++mY caps))
   | .d9 _=>none
   | _=>all
  | _=>all
 | _=>all
def PK.loc:PK->Bool
 | .own _ _ | .cN _ _ _=>false
 | _=>true
def vk(ρ:Operand->AV)(o:Oper):Bool:=
 match o.op with
 | .alloc _ | .box _ _ | .build _ _ | .buildSlice _ _ _ | .makeSlice _ _ _ | .slice _ _ _ _ none=>true
 | .call c=>
  match c.callee with
  | .builtin .append=>
   match c.args.toList.map ρ with
   | .b7 _ p _::_=>!qx p
   | _=>true
  | .value f=>
   match ρ f with
   | .gE g _=>(C.sig g).params.all PK.loc
   | _=>false
  | _=>false
 | _=>false
def dR(S:St):List Nat->List Nat
 | []=>[]
 | t::ts=>(S.get t).roots++dR S ts
def cS(S:St):List Nat->List Nat
 | []=>[]
 | t::ts=>(S.get t).stamps++cS S ts
def jC(ops:Array Oper)(i:Nat)(o:Oper):List Nat:=o.dst.toList++sK ops i o
def rW(o:Oper):Bool:=
 match o.op with
 | .move _ | .pick _ _ _ | .unOp _ _ _ | .makeFunc _ _ _ | .field _ _ _ | .extract _ _=>true
 | _=>false
def ur(ρ:Operand->AV)(o:Oper)(v:AV):Option ((aP->Option AV)×AV):=
 match o.op with
 | .load t a=>some (fun S=>if (C.ty t).nz then vf S (C.ty t) (ρ a) else none,v)
 | .fieldAddr s x f=>some (fun S=>BV S (C.ty s) (ρ x) f,v)
 | _=>none
def jE(ops:Array Oper)(S:St)(site i:Nat)(o:Oper)(v:AV)(rt':aP):jH:=
 ⟨i,v.roots++((if rW o then [] else qk (uB S o))++dR S (jC ops i o)),v.stamps++cS S (jC ops i o),site,dN C (ev S) o,(match dN C (ev S) o,vk C (ev S) o with | some _,false=>some (S.rt,rt') | _,_=>none),o.dst,ur C (ev S) o v,rW o,vk C (ev S) o⟩
def oM(ops:Array Oper)(S:St)(site i:Nat)(o:Oper):jH:=⟨i,dR S (jC ops i o),cS S (jC ops i o),site,none,none,none,none,true,false⟩
def uY(M:Array Nat)(i j:Nat):Bool:=(M.getD j 0).testBit i||(M.getD i 0).testBit j
def i_:List Nat->List Nat->Bool
 | [],_=>true
 | a::l,l'=>!(l'.contains a)&&i_ l l'
def Bn(w:List Nat)(e f:jH):Bool:=i_ w f.rd&&!f.st.contains e.site
def Di:Path->Path->Bool
 | [],[]=>true
 | .fst::p,.fst::q=>Di p q
 | .snd::p,.snd::q=>Di p q
 | _,_=>false
def A_(S:aP)(l:(aP->Option AV)×AV):Bool:=
 match l.1 S,l.2 with
 | some (.b7 r p s),.b7 r' p' s'=>Nat.beq r r'&&Di p p'&&Nat.beq s s'
 | some (.addr r p),.addr r' p'=>Nat.beq r r'&&Di p p'
 | _,_=>false
def BK(e f:jH):Bool:=
 (f.bl||(match f.ld,e.io with
  | some l,some io=>A_ io.1 l&&A_ io.2 l
  | _,_=>false))&&i_ e.dst.toList f.rd&&!f.st.contains e.site
def jH.free(e f:jH):Bool:=
 match e.wr,f.wr with
 | none,none=>true
 | some w,none=>Bn w e f||BK e f
 | none,some w=>Bn w f e||BK f e
 | some w,some w'=>(e.lc&&f.lc)&&((i_ w f.rd&&i_ w w')&&(i_ w' e.rd&&i_ w' w))&&(!e.st.contains f.site&&!f.st.contains e.site)
def A5(M:Array Nat)(e:jH):Log->Bool
 | []=>true
 | f::l=>(Nat.beq e.i f.i||uY M e.i f.i||e.free f)&&A5 M e l
def Dk(M:Array Nat)(all:Log):Log->Bool
 | []=>true
 | e::l=>(match e.wr with | none=>true | some _=>A5 M e all)&&Dk M all l
def zH(ops:Array Oper)(o:Oper):List Nat:=
 (match o.guard with | some (j,_)=>[lz ops j] | none=>[])++o.op.operands.toList.filterMap fun x=>match x with | .tmp t=>some t | _=>none
def Iz(ops:Array Oper)(i j:Nat)(x y:Oper):Bool:=
 i_ (jC ops i x) (zH ops y)&&i_ (jC ops i x) (jC ops j y)&&i_ (jC ops j y) (zH ops x)
def AI(M:Array Nat)(ops:Array Oper)(i:Nat)(x:Oper):List (Nat×Oper)->Bool
 | []=>true
 | (j,y)::l=>(uY M i j||Iz ops i j x y)&&AI M ops i x l
def IJ(M:Array Nat)(ops:Array Oper):List (Nat×Oper)->Bool
 | []=>true
 | (i,x)::l=>AI M ops i x l&&IJ M ops l
def pN(o:Oper):Bool:=
 match o.op with
 | .move _ | .pick _ _ _ | .unOp _ _ _ | .fieldAddr _ _ _ | .field _ _ _ | .load _ _ | .extract _ _=>true
 | .binOp op _ _ _ _=>match op with | .eql | .neq | .lss | .leq | .gtr | .geq | .sub | .mul=>true | _=>false
 | .call c=>match c.callee with | .builtin .len=>true | _=>false
 | _=>false
def Ie(t:Nat)(o:Oper):Bool:=
 match o.op with
 | .pick (.tmp c) _ _=>Nat.beq c t
 | _=>false
def L5(t:Nat):List (Nat×Oper)->Option (List (Nat×Oper)×(Nat×Oper)×List (Nat×Oper))
 | []=>none
 | x::l=>if Ie t x.2 then some ([],x,l) else match L5 t l with
  | some y=>some (x::y.1,y.2)
  | none=>none
def NT(ops:Array Oper)(S:St)(D:List Nat)(o:Oper):Bool:=
 match o.guard with
 | none=>true
 | some (j,b)=>!D.contains (lz ops j)&&(match S.get (lz ops j) with | .cD c=>c == b | _=>false)
def iK(S:St)(site:Nat)(hint:Bool)(o:Oper):Tr (AV×aP):=aX C D (lE S.sl o.dst site) (ev S) S.rt site hint o
def Bp(ops:Array Oper)(id:Nat)(ru:List (Nat×Oper)->St->Log->Option (St×Log))(t:Nat)(c:Bool)(l:List (Nat×Oper))(S:St)(lg:Log) :
  Option (St×Log×List (Nat×Oper)):=
 match L5 t l with
 | some (seg,(i,o),rest)=>
  let D:=sK ops i o
  if seg.all (fun x=>pN x.2&&(jC ops x.1 x.2).all D.contains)&&NT ops S D o&&!D.contains t then
   match o.op,ru seg (S.set t (.cD true)) [],ru seg (S.set t (.cD false)) [] with
   | .pick _ a b,some (S1,l1),some (S2,l2)=>
    match asBool (ev S1 a),asBool (ev S2 b) with
    | some x,some y=>some (fin ops S i o (.val .bool (cond c x y)),
      jE C ops S1 (id * 256+i+1) i o (.val .bool x) S1.rt::jE C ops S2 (id * 256+i+1) i o (.val .bool y) S2.rt::(l1++(l2++lg)),rest)
    | _,_=>none
   | _,_,_=>none
  else none
 | _=>none
noncomputable def mL(id:Nat)(ops:Array Oper):Nat->List (Nat×Oper)->St->Log->Option (St×Log)
 | 0,_,_,_=>none
 | _+1,[],S,lg=>some (S,lg)
 | n+1,(i,o)::rest,S,lg=>
  let site:=id * 256+i+1
  let go:=match iK C D S site false o with
   | .ret (v,rt')=>mL id ops n rest (fin ops ⟨S.sl,rt'⟩ i o v) (jE C ops S site i o v rt'::lg)
   | _=>none
  match o.guard with
  | none=>go
  | some (j,b)=>
   match S.get (lz ops j) with
   | .skip=>mL id ops n rest (fin ops S i o .skip) (oM ops S site i o::lg)
   | .cD c=>if c=b then go else mL id ops n rest (fin ops S i o .skip) (oM ops S site i o::lg)
   | .val .bool c=>
    match Bp C ops id (mL id ops n) (lz ops j) c ((i,o)::rest) S lg with
    | some (S',lg,rest)=>mL id ops n rest S' lg
    | none=>none
   | _=>none
noncomputable def yE(H:Hints)(id:Nat)(ops:Array Oper):Nat->List (Nat×Oper)->St->Log->(Log->St->Option R)->Option R
 | 0,_,_,_,_=>none
 | _+1,[],S,lg,k=>k lg S
 | n+1,(i,o)::rest,S,lg,k=>
  let site:=id * 256+i+1
  let go:=fun(S:St)=>(iK C D S site (H.share.contains (id,i)) o).run fun x=>yE H id ops n rest (fin ops ⟨S.sl,x.2⟩ i o x.1) (jE C ops S site i o x.1 x.2::lg) k
  let skip:=fun(S:St)=>yE H id ops n rest (fin ops S i o .skip) (oM ops S site i o::lg) k
  match o.guard with
  | none=>go S
  | some (j,b)=>
   match S.get (lz ops j) with
   | .skip=>skip S
   | .cD c=>if c=b then go S else skip S
   | .val .bool c=>
    match Bp C ops id (mL C D id ops n) (lz ops j) c ((i,o)::rest) S lg with
    | some (S',lg,rest)=>yE H id ops n rest S' lg k
    | none=>
     br c
      (if b=true then go (S.set (lz ops j) (.cD true)) else skip (S.set (lz ops j) (.cD true)))
      (if b=false then go (S.set (lz ops j) (.cD false)) else skip (S.set (lz ops j) (.cD false)))
   | _=>none
def sE(body:St->(Ex->St->Option R)->Option R)(canon fJ:St->St):Nat->St->(Ex->St->Option R)->Option R
 | 0,_,_=>none
 | n+1,S,k=>body (canon S) fun e S=>match e with
  | .normal=>sE body canon fJ n S k
  | e=>k e (fJ S)
def Mk.Jf:Mk->Mk->Mk
 | .no,.no=>.no
 | a,b=>.pr a b
def Mk.bh:Mk->Mk
 | .no=>.no
 | .gone=>.gone
 | .own s m=>.own (if s<1048576 then 0 else s) m.bh
 | .pr a b=>Mk.Jf a.bh b.bh
def ov.zero:ov->ov
 | .idx i s=>.idx i (if s<1048576 then 0 else s)
 | p=>p
def AV.canon(S:St):AV->AV
 | .b7 r p s=>
  match S.focus r p with
  | some ⟨.sl _,.own s' _,_⟩=>if s=s' then .b7 r (p.map ov.zero) (if s<1048576 then 0 else s) else .undef
  | _=>.undef
 | .addr r p=>
  match S.focus r p with
  | some _=>.addr r (p.map ov.zero)
  | _=>.undef
 | .pair a b=>.pair (a.canon S) (b.canon S)
 | .gE f c=>.gE f (c.canon S)
 | .jF a=>.undef
 | .view _ _ _ _ _=>.undef
 | v=>v
def L1(x:Option aB):Option aB:=x.bind fun R=>match R.ms with | .gone=>none | _=>some { R with ms:=R.ms.bh }
def Et(oZ:List Nat):Nat->List (Option aB)->List (Option aB)
 | _,[]=>[]
 | i,x::l=>
  (if oZ.contains i then L1 x else none)
   :: Et oZ (i+1) l
def Eu(S:St)(keep:List Nat):Nat->List AV->List AV
 | _,[]=>[]
 | i,x::l=>(if keep.contains i then x.canon S else .undef)::Eu S keep (i+1) l
def St.canon(keep extra:List Nat)(S:St):St:=
 let sl:=Eu S keep 0 S.sl
 ⟨sl,Et (extra++sl.flatMap AV.roots) 0 S.rt⟩
def B7:Code->Nat
 | .region id _ _=>id
 | .seq a _=>B7 a
 | .block _ b=>B7 b
 | .loop b=>B7 b
 | _=>0
def nu(ops:Array Oper):List (Nat×Oper):=ops.toList.zipIdx.map fun x=>(x.2,x.1)
def Mb(ops:Array Oper):Bool:=ops.toList.all fun o=>match o.guard with | none=>true | some (j,_)=>((ops[j]?).bind (·.dst)).isSome
def Ev(ops:Array Oper):Bool:=(nu ops).all fun x=>x.2.after.all fun e=>!Region.binds .any e||Nat.blt e.on x.1
def r_(H:Hints)(b:Code)(S:St):St:=
 match H.keep.lookup (100000+B7 b) with
 | some kp=>St.canon kp.1 kp.2.2 S
 | none=>S
noncomputable def exec(H:Hints)(n:Nat):Code->St->(Ex->St->Option R)->Option R
 | .skip,S,k=>k .normal S
 | .region id ops dr,S,k=>
  if Mb ops then
   yE C D H id ops (ops.size+1) (nu ops) S [] fun lg S=>
    if dr then (if Ev ops&&Dk (Region.before ops) lg lg&&IJ (Region.before ops) ops (nu ops) then k .normal S else none) else k .normal S
  else none
 | .seq a b,S,k=>exec H n a S fun e S=>match e with
  | .normal=>exec H n b (r_ H b S) k
  | e=>k e S
 | .cond c a b,S,k=>
  match asBool (ev S c) with
  | some t=>br t (exec H n a S k) (exec H n b S k)
  | none=>none
 | .block id b,S,k=>exec H n b S fun e S=>match e with
  | .exit j=>if j=id then k .normal S else k (.exit j) S
  | e=>k e S
 | .loop b,S,k=>
  match H.keep.lookup (B7 b) with
  | some kp=>sE (exec H n b) (St.canon kp.1 kp.2.2) (St.canon kp.2.1 kp.2.2) n S k
  | none=>none
 | .exit id,S,k=>k (.exit id) S
 | .ret,S,k=>k .ret S
 | _,_,_=>none
def Mk.tag:Mk->Nat->Mk×Nat
 | .no,n=>(.no,n)
 | .gone,n=>(.gone,n)
 | .own _ m,n=>(.own n m,n+1)
 | .pr a b,n=>let x:=a.tag n;let y:=b.tag x.2;(.pr x.1 y.1,y.2)
def BB(i:Nat)(m:Mk):Mk:=(m.tag (1048576+64 * i)).1
def enter(S:St):Nat->(ks:List PK)->gb ks->St
 | _,[],_=>S
 | i,.val t::ks,a=>enter (S.set i (.val t a.1)) (i+1) ks a.2
 | i,.cj t::ks,a=>enter (S.set i (.b_ t a.1)) (i+1) ks a.2
 | i,.own t m::ks,a=>enter ((S.aG i (some ⟨t,m,a.1,false⟩)).set i (cV i t m a.1 [])) (i+1) ks a.2
 | i,.cw t m _::ks,a=>enter ((S.aG i (some ⟨t,m,a.1,true⟩)).set i (.addr i [])) (i+1) ks a.2
 | i,.cN t m _::ks,a=>enter ((S.aG i (some ⟨t,BB i m,a.1,false⟩)).set i (cV i t (BB i m) a.1 [])) (i+1) ks a.2
 | i,.fn::ks,a=>enter (S.set i (.d9 a.1)) (i+1) ks a.2
def xY(C:Ctx)(S:St):ResultVar->Option AV
 | .tmp t=>some (S.get t)
 | .cell a t=>if (C.ty t).nz then vf S.rt (C.ty t) (S.get a) else none
def v5(C:Ctx):(ks:List RK)->List ResultVar->St->Option (f5 ks×St)
 | [],[],S=>some ((),S)
 | .val t m::ks,v::vs,S=>
  (xY C S v).bind fun a=>
  (tk S.rt t a).bind fun x=>if m.aQ x.1 then (v5 C ks vs ⟨S.sl,x.2.2⟩).bind fun r=>some ((x.2.1,r.1),r.2) else none
 | .ptr t m::ks,v::vs,S=>
  match xY C S v with
  | some (.addr q [])=>
   match S.root q with
   | some R=>if R.mem/\m.aQ R.ms then (qbv R.ty t R.x).bind fun x=>(v5 C ks vs (S.aG q none)).bind fun r=>some ((x,r.1),r.2) else none
   | none=>none
  | _=>none
 | _,_,_=>none
def Mk.same:(was now:Mk)->Bool
 | .no,h=>h.still
 | .own s _,h=>
  match h with
  | .own s' _=>s=s'
  | _=>false
 | .pr a b,h=>
  match h with
  | .pr c d=>a.same c&&b.same d
  | .no=>a.same .no&&b.same .no
  | _=>false
 | .gone,_=>false
def outs(H:Hints):Nat->(ks:List PK)->St->Option (dy ks)
 | _,[],_=>some ()
 | i,.cw t _ m'::ks,S=>
  match S.get i with
  | .addr q []=>
   match S.root q with
   | some R=>if R.mem/\m'.aQ R.ms then (qbv R.ty t R.x).bind fun x=>(outs H (i+1) ks (S.aG q none)).bind fun r=>some (x,r) else none
   | none=>none
  | _=>none
 | i,.cN t m m'::ks,S=>
  let q:=(H.outs.lookup i).getD i
  match S.root q with
  | some R=>if m'.aQ R.ms/\(BB i m).same R.ms then (qbv R.ty t R.x).bind fun x=>(outs H (i+1) ks (S.aG q none)).bind fun r=>some (x,r) else none
  | none=>none
 | i,.val _::ks,S=>outs H (i+1) ks S
 | i,.own _ _::ks,S=>outs H (i+1) ks S
 | i,.cj _::ks,S=>outs H (i+1) ks S
 | i,.fn::ks,S=>outs H (i+1) ks S
def Jt(np:List Nat)(ops:Array Oper):Bool:=ops.toList.all fun o=>match o.dst with | some d=>!np.contains d | none=>true
def vO:Nat->List PK->List Nat
 | _,[]=>[]
 | i,.cw _ _ _::ks=>i::vO (i+1) ks
 | i,_::ks=>vO (i+1) ks
def sJ(np:List Nat):Code->Bool
 | .region _ ops _=>Jt np ops
 | .seq a b=>sJ np a&&sJ np b
 | .cond _ a b=>sJ np a&&sJ np b
 | .block _ b=>sJ np b
 | .loop b=>sJ np b
 | _=>true
def fc:Ty->Mk->Bool
 | .sl _,.own _ _=>true
 | .pair a b,.pr x y=>fc a x&&fc b y
 | .unit,.no=>true
 | _,_=>false
def PK.fZ:PK->Bool
 | .own t m=>t.nz&&m.ax
 | .cw _ m _=>m.ax
 | .cN t m _=>t.nz&&(m.ax&&(fc t m&&Nat.ble t.width 64))
 | _=>true
noncomputable def vq(n:Nat)(fn:Func)(H:Hints)(ks:List PK)(rs:List RK)(a:gb ks):Option (f5 rs×dy ks):=
 match fn.body with
 | none=>none
 | some c=>
  if ks.all PK.fZ&&(Nat.ble ks.length fn.ntmps&&sJ (vO 0 ks) c) then
  exec C D H n c (enter ⟨List.replicate fn.ntmps .undef,List.replicate fn.ntmps none⟩ 0 ks a) fun e S=>
   match e with
   | .exit _=>none
   | _=>(v5 C rs fn.results.toList S).bind fun r=>(outs H 0 ks r.2).bind fun o=>some (r.1,o)
  else none
end
structure alk where
 func:FuncId->Option Func
noncomputable def Dn(C:Ctx)(E:Den C)(mh:FuncId->Bool)(func:FuncId->Option Func):Nat->Den C
 | 0,_=>fun _=>none
 | n+1,g=>fun a=>
  if mh g then E g a else
  match func g with
  | none=>none
  | some fn=>vq C (Dn C E mh func n) n fn (C.hints g) (C.sig g).params (C.sig g).res a
end
end Go.V
namespace Go.V
noncomputable section
open Go
abbrev BS:=Nat->Prop
def Sub(F G:BS):Prop:=∀b,F b->G b
def cv(F G:BS):Prop:=∀b,F b->G b->False
def Nil:BS:=fun _=>False
theorem Sub.refl(F:BS):Sub F F:=fun _ h=>h
theorem Sub.trans{F G H:BS}(h:Sub F G)(h':Sub G H):Sub F H:=fun b x=>h' b (h b x)
theorem Sub.nil(F:BS):Sub Nil F:=fun _ h=>h.elim
theorem cv.symm{F G:BS}(h:cv F G):cv G F:=fun b x y=>h b y x
theorem cv.mono{F G F' G':BS}(h:cv F G)(hf:Sub F' F)(hg:Sub G' G):cv F' G':=fun b x y=>h b (hf b x) (hg b y)
theorem cv.nil(F:BS):cv Nil F:=fun _ h _=>h.elim
def ju(h:Array Obj)(b:Nat)(cs:Array Value):Prop:=
 ∃e lo hi,h[b]? = some (.cells cs e (lo,hi))/\∀i,i<=cs.size->¬ (lo<=i/\i<hi)
def sY(h:Array Obj)(b:Nat)(cs:Array Value):Prop:=∃e fr,h[b]? = some (.cells cs e fr)
theorem ju.Cq{h:Array Obj}{b:Nat}{cs:Array Value}(x:ju h b cs):sY h b cs:=let ⟨e,lo,hi,he,_⟩:=x;⟨e,(lo,hi),he⟩
theorem ju.congr{h h':Array Obj}{b:Nat}{cs:Array Value}(x:ju h b cs)(e:h'[b]? = h[b]?):ju h' b cs:=
 let ⟨t,lo,hi,he,hf⟩:=x;⟨t,lo,hi,e.trans he,hf⟩
theorem sY.congr{h h':Array Obj}{b:Nat}{cs:Array Value}(x:sY h b cs)(e:h'[b]? = h[b]?):sY h' b cs:=
 let ⟨t,fr,he⟩:=x;⟨t,fr,e.trans he⟩
def sub(cs:Array Value)(off n:Nat):List Value:=(cs.toList.drop off).take n
def az(h:Array Obj)(Pr:BS):(t:Ty)->Mk->t.den->List Value->BS->Prop
 | .unit,_,_,c,_=>c=[]
 | .int k,_,x,c,_=>c=[.int k x]
 | .bool,_,x,c,_=>c=[.bool x]
 | .str,_,x,c,_=>c=[.string x]
 | .pair a b,m,x,c,F=>∃ca cb Fa Fb,c=ca++cb/\az h Pr a m.fst x.1 ca Fa/\az h Pr b m.snd x.2 cb Fb/\
   Sub Fa F/\Sub Fb F/\cv Fa Fb
 | .sl t,.gone,xs,c,F=>∃a n k,c=[.slice a n k]
 | .sl t,.own _ mi,xs,c,F=>∃a cap,c=[.slice a xs.length cap]/\xs.length<=cap/\
   (cap=0\/∃b cs,a=some ⟨b,0,none⟩/\F b/\ju h b cs/\cap * t.width<=cs.size/\
    ∃Fs:Nat->BS,(∀i,Sub (Fs i) F/\¬ Fs i b)/\(∀i j,i≠j->cv (Fs i) (Fs j))/\
     ∀i,i<xs.length->az h Pr t mi (xs.getD i t.zero) (sub cs (i * t.width) t.width) (Fs i))
 | .sl t,_,xs,c,F=>∃a cap,c=[.slice a xs.length cap]/\xs.length<=cap/\
   (xs≠[]->∃b o cs,a=some ⟨b,o,none⟩/\Pr b/\sY h b cs/\o+xs.length * t.width<=cs.size/\
    ∀i,i<xs.length->az h Pr t .no (xs.getD i t.zero) (sub cs (o+i * t.width) t.width) Nil)
theorem az.width{h:Array Obj}{Pr:BS}:∀(t:Ty){m:Mk}{x:t.den}{c:List Value}{F:BS},az h Pr t m x c F->c.length=t.width
 | .unit,_,_,_,_,r=>by simp only[az]at r;subst r;rfl
 | .int k,_,_,_,_,r=>by simp only[az]at r;subst r;rfl
 | .bool,_,_,_,_,r=>by simp only[az]at r;subst r;rfl
 | .str,_,_,_,_,r=>by simp only[az]at r;subst r;rfl
 | .pair a b,_,_,_,_,r=>by
  simp only[az]at r;obtain⟨ca,cb,Fa,Fb,rfl,ra,rb,_⟩:=r;simp[Ty.width,az.width a ra,az.width b rb]
 | .sl t,m,_,_,_,r=>by
  cases m<;>simp only[az]at r
  .obtain⟨_,_,rfl,_⟩:=r;rfl
  .obtain⟨_,_,_,rfl⟩:=r;rfl
  .obtain⟨_,_,rfl,_⟩:=r;rfl
  .obtain⟨_,_,rfl,_⟩:=r;rfl
theorem az.mono{h h':Array Obj}{Pr fN:BS}(hp:Sub Pr fN)(gW:∀b,Pr b->h'[b]? = h[b]?) :
  ∀(t:Ty){m:Mk}{x:t.den}{c:List Value}{F F':BS},az h Pr t m x c F->Sub F F'->(∀b,F b->h'[b]? = h[b]?)->az h' fN t m x c F'
 | .unit,_,_,_,_,_,r,_,_=>by simpa only [az] using r
 | .int k,_,_,_,_,_,r,_,_=>by simpa only [az] using r
 | .bool,_,_,_,_,_,r,_,_=>by simpa only [az] using r
 | .str,_,_,_,_,_,r,_,_=>by simpa only [az] using r
 | .pair a b,_,_,_,_,_,r,hf,hk=>by
  simp only[az]at r⊢;obtain⟨ca,cb,Fa,Fb,rfl,ra,rb,sa,sb,d⟩:=r;exact⟨ca,cb,Fa,Fb,rfl,az.mono hp gW a ra (Sub.refl _) (fun b hb=>hk b (sa b hb)),az.mono hp gW b rb (Sub.refl _) (fun b hb=>hk b (sb b hb)),
   sa.trans hf,sb.trans hf,d⟩
 | .sl t,m,_,_,_,_,r,hf,hk=>by
  cases m<;>simp only[az]at r⊢
  .obtain⟨a,cap,rfl,hl,r⟩:=r;refine⟨a,cap,rfl,hl,fun hne=>?_⟩;obtain⟨b,o,cs,rfl,pb,hb,hs,re⟩:=r hne;exact⟨b,o,cs,rfl,hp b pb,hb.congr (gW b pb),hs,fun i hi=>az.mono hp gW t (re i hi) (Sub.refl _) (fun _ h=>h.elim)⟩
  .exact r
  .obtain⟨a,cap,rfl,hl,r⟩:=r;refine⟨a,cap,rfl,hl,?_⟩;rcases r with r | ⟨b,cs,rfl,fb,hb,hs,Fs,hF,hd,re⟩
   .exact .inl r
   .exact .inr ⟨b,cs,rfl,hf b fb,hb.congr (hk b fb),hs,Fs,fun i=>⟨(hF i).1.trans hf,(hF i).2⟩,hd,
     fun i hi=>az.mono hp gW t (re i hi) (Sub.refl _) (fun b' h'=>hk b' ((hF i).1 b' h'))⟩
  .obtain⟨a,cap,rfl,hl,r⟩:=r;refine⟨a,cap,rfl,hl,fun hne=>?_⟩;obtain⟨b,o,cs,rfl,pb,hb,hs,re⟩:=r hne;exact⟨b,o,cs,rfl,hp b pb,hb.congr (gW b pb),hs,fun i hi=>az.mono hp gW t (re i hi) (Sub.refl _) (fun _ h=>h.elim)⟩
theorem az.room{h:Array Obj}{Pr:BS}(t:Ty){m:Mk}{x:t.den}{c:List Value}{F F':BS}(r:az h Pr t m x c F)(hf:Sub F F'):az h Pr t m x c F':=
 az.mono (Sub.refl _) (fun _ _=>rfl) t r hf (fun _ _=>rfl)
theorem az.eK{h:Array Obj}{Pr:BS}:∀(t:Ty){m:Mk}{x:t.den}{c:List Value}{F F':BS},m.still=true->az h Pr t m x c F->az h Pr t .no x c F'
 | .unit,_,_,_,_,_,_,r=>by simpa only [az] using r
 | .int k,_,_,_,_,_,_,r=>by simpa only [az] using r
 | .bool,_,_,_,_,_,_,r=>by simpa only [az] using r
 | .str,_,_,_,_,_,_,r=>by simpa only [az] using r
 | .pair a b,m,_,_,_,_,hm,r=>by
  simp only[az]at r⊢;obtain⟨ca,cb,Fa,Fb,rfl,ra,rb,sa,sb,d⟩:=r;have h1:m.fst.still=true:=by cases m<;>simp_all [Mk.still,Mk.fst]
  have h2:m.snd.still=true:=by cases m<;>simp_all [Mk.still,Mk.snd]
  exact⟨ca,cb,Nil,Nil,rfl,az.eK a h1 ra,az.eK b h2 rb,Sub.nil _,Sub.nil _,cv.nil _⟩
 | .sl t,m,_,_,_,_,hm,r=>by
  cases m<;>simp only[az]at r⊢
  .exact r
  .simp[Mk.still]at hm
  .simp[Mk.still]at hm
  .exact r
theorem az.stamp{h:Array Obj}{Pr:BS}(s:Nat):∀(t:Ty){m:Mk}{x:t.den}{c:List Value}{F:BS},az h Pr t m x c F↔az h Pr t (m.stamp s) x c F
 | .unit,_,_,_,_=>by simp only[az]
 | .int k,_,_,_,_=>by simp only[az]
 | .bool,_,_,_,_=>by simp only[az]
 | .str,_,_,_,_=>by simp only[az]
 | .pair a b,m,x,_,_=>by
  simp only[az];have h1:(m.stamp s).fst=m.fst.stamp s:=by cases m<;>rfl
  have h2:(m.stamp s).snd=m.snd.stamp s:=by cases m<;>rfl
  rw[h1,h2];constructor
  .rintro⟨ca,cb,Fa,Fb,rfl,ra,rb,r⟩;exact⟨ca,cb,Fa,Fb,rfl,(az.stamp s a).1 ra,(az.stamp s b).1 rb,r⟩
  .rintro⟨ca,cb,Fa,Fb,rfl,ra,rb,r⟩;exact⟨ca,cb,Fa,Fb,rfl,(az.stamp s a).2 ra,(az.stamp s b).2 rb,r⟩
 | .sl t,m,_,_,_=>by
  cases m<;>simp only[az,Mk.stamp];constructor
  .rintro⟨a,cap,rfl,hl,r⟩;refine⟨a,cap,rfl,hl,r.imp id ?_⟩;rintro⟨b,cs,rfl,fb,hb,hs,Fs,hF,hd,re⟩;exact⟨b,cs,rfl,fb,hb,hs,Fs,hF,hd,fun i hi=>(az.stamp s t).1 (re i hi)⟩
  .rintro⟨a,cap,rfl,hl,r⟩;refine⟨a,cap,rfl,hl,r.imp id ?_⟩;rintro⟨b,cs,rfl,fb,hb,hs,Fs,hF,hd,re⟩;exact⟨b,cs,rfl,fb,hb,hs,Fs,hF,hd,fun i hi=>(az.stamp s t).2 (re i hi)⟩
theorem Mk.Am(a b:Mk):(Mk.Jf a b).fst=a:=by cases a<;>cases b<;>rfl
theorem Mk.An(a b:Mk):(Mk.Jf a b).snd=b:=by cases a<;>cases b<;>rfl
theorem Mk.qK(a b:Mk):(Mk.Jf a b).ax=(a.ax&&b.ax):=by cases a<;>cases b<;>rfl
theorem Mk.oH(a b:Mk):Mk.Jf a b=.no\/Mk.Jf a b=.pr a b:=by cases a<;>cases b<;>first | exact .inl rfl | exact .inr rfl
theorem Mk.mw(m:Mk):m.bh.fst=m.fst.bh:=by cases m<;>first | rfl | exact Mk.Am _ _
theorem Mk.mz(m:Mk):m.bh.snd=m.snd.bh:=by cases m<;>first | rfl | exact Mk.An _ _
theorem az.bh{h:Array Obj}{Pr:BS}:∀(t:Ty){m:Mk}{x:t.den}{c:List Value}{F:BS},az h Pr t m x c F↔az h Pr t m.bh x c F
 | .unit,_,_,_,_=>by simp only[az]
 | .int k,_,_,_,_=>by simp only[az]
 | .bool,_,_,_,_=>by simp only[az]
 | .str,_,_,_,_=>by simp only[az]
 | .pair a b,m,x,_,_=>by
  simp only[az];have h1:=Mk.mw m;have h2:=Mk.mz m;rw[h1,h2];constructor
  .rintro⟨ca,cb,Fa,Fb,rfl,ra,rb,r⟩;exact⟨ca,cb,Fa,Fb,rfl,(az.bh a).1 ra,(az.bh b).1 rb,r⟩
  .rintro⟨ca,cb,Fa,Fb,rfl,ra,rb,r⟩;exact⟨ca,cb,Fa,Fb,rfl,(az.bh a).2 ra,(az.bh b).2 rb,r⟩
 | .sl t,m,_,_,_=>by
  cases m<;>simp only[az,Mk.bh];constructor
  .rintro⟨a,cap,rfl,hl,r⟩;refine⟨a,cap,rfl,hl,r.imp id ?_⟩;rintro⟨b,cs,rfl,fb,hb,hs,Fs,hF,hd,re⟩;exact⟨b,cs,rfl,fb,hb,hs,Fs,hF,hd,fun i hi=>(az.bh t).1 (re i hi)⟩
  .rintro⟨a,cap,rfl,hl,r⟩;refine⟨a,cap,rfl,hl,r.imp id ?_⟩;rintro⟨b,cs,rfl,fb,hb,hs,Fs,hF,hd,re⟩;exact⟨b,cs,rfl,fb,hb,hs,Fs,hF,hd,fun i hi=>(az.bh t).2 (re i hi)⟩
  rename_i a b;rcases Mk.oH a.bh b.bh with e | e<;>rw[e]<;>simp only[az]
theorem az.share{h:Array Obj}{Pr:BS}:∀(t:Ty){m:Mk}{x:t.den}{c:List Value}{F:BS},m.whole=true->az h Pr t m x c F->
  az h (fun b=>Pr b\/F b) t .no x c Nil
 | .unit,_,_,_,_,_,r=>by simpa only [az] using r
 | .int k,_,_,_,_,_,r=>by simpa only [az] using r
 | .bool,_,_,_,_,_,r=>by simpa only [az] using r
 | .str,_,_,_,_,_,r=>by simpa only [az] using r
 | .pair a b,m,_,_,F,hm,r=>by
  simp only[az]at r⊢;obtain⟨ca,cb,Fa,Fb,rfl,ra,rb,sa,sb,d⟩:=r;have h1:m.fst.whole=true:=by cases m<;>simp_all [Mk.whole,Mk.fst]
  have h2:m.snd.whole=true:=by cases m<;>simp_all [Mk.whole,Mk.snd]
  have e1:=az.share a h1 ra;have e2:=az.share b h2 rb;exact⟨ca,cb,Nil,Nil,rfl,
   az.mono (fun b hb=>hb.imp id (sa b)) (fun _ _=>rfl) a e1 (Sub.refl _) (fun _ _=>rfl),
   az.mono (fun b hb=>hb.imp id (sb b)) (fun _ _=>rfl) b e2 (Sub.refl _) (fun _ _=>rfl),Sub.nil _,Sub.nil _,cv.nil _⟩
 | .sl t,m,xs,_,F,hm,r=>by
  cases m with
  | no=>simp only[az]at r⊢;obtain⟨a,cap,rfl,hl,r⟩:=r;refine⟨a,cap,rfl,hl,fun hne=>?_⟩;obtain⟨b,o,cs,rfl,pb,hb,hs,re⟩:=r hne;exact⟨b,o,cs,rfl,.inl pb,hb,hs,fun i hi=>az.mono (fun b hb=>.inl hb) (fun _ _=>rfl) t (re i hi) (Sub.refl _) (fun _ _=>rfl)⟩
  | gone=>simp[Mk.whole]at hm
  | pr _ _=>simp only[az]at r⊢;obtain⟨a,cap,rfl,hl,r⟩:=r;refine⟨a,cap,rfl,hl,fun hne=>?_⟩;obtain⟨b,o,cs,rfl,pb,hb,hs,re⟩:=r hne;exact⟨b,o,cs,rfl,.inl pb,hb,hs,fun i hi=>az.mono (fun b hb=>.inl hb) (fun _ _=>rfl) t (re i hi) (Sub.refl _) (fun _ _=>rfl)⟩
  | own s mi=>
   simp only[az]at r⊢;obtain⟨a,cap,rfl,hl,r⟩:=r;refine⟨a,cap,rfl,hl,fun hne=>?_⟩;have hpos:0<xs.length:=pH.2 hne;rcases r with r | ⟨b,cs,rfl,fb,hb,hs,Fs,hF,hd,re⟩
   .omega
   .refine⟨b,0,cs,rfl,.inr fb,hb.Cq,?_,fun i hi=>?_⟩
    .have:=fl t.width hl;omega
    .have e:=az.share t (by simpa [Mk.whole] using hm) (re i hi);rw[kz];exact az.mono (fun b hb=>hb.imp id ((hF i).1 b)) (fun _ _=>rfl) t e (Sub.refl _) (fun _ _=>rfl)
end
end Go.V
namespace Go.V
noncomputable section
open Go
theorem Mk.sP{w h:Mk}(x:w.aQ h=true):w.fst.aQ h.fst=true:=by cases w<;>cases h<;>simp_all [Mk.aQ,Mk.fst,Mk.whole]
theorem Mk.sR{w h:Mk}(x:w.aQ h=true):w.snd.aQ h.snd=true:=by cases w<;>cases h<;>simp_all [Mk.aQ,Mk.snd,Mk.whole]
theorem Mk.lQ:∀b:Mk,b.fj.aQ .no=true
 | .no=>rfl
 | .gone=>rfl
 | .own _ m=>by unfold Mk.fj;split<;>rfl
 | .pr a b=>by simp[Mk.fj,Mk.aQ,Mk.lQ a,Mk.lQ b]
theorem Mk.jt:∀b:Mk,b.fj.aQ b=true
 | .no=>rfl
 | .gone=>rfl
 | .own _ m=>by unfold Mk.fj;split<;>simp_all [Mk.aQ,Mk.whole]
 | .pr a b=>by simp[Mk.fj,Mk.aQ,Mk.jt a,Mk.jt b]
theorem Mk.fm:∀a b:Mk,(a.meet b).aQ a=true/\(a.meet b).aQ b=true
 | .no,b=>⟨by simpa [Mk.meet] using Mk.lQ b,by simpa [Mk.meet] using Mk.jt b⟩
 | .gone,_=>⟨rfl,rfl⟩
 | .own _ a,b=>by
  cases b with
  | no=>simp only[Mk.meet];split<;>simp_all [Mk.aQ,Mk.whole]
  | gone=>exact⟨rfl,rfl⟩
  | own s b=>have:=Mk.fm a b;simpa [Mk.meet,Mk.aQ] using this
  | pr _ _=>exact⟨rfl,rfl⟩
 | .pr a b,c=>by
  cases c with
  | no=>have h1:=Mk.fm a .no;have h2:=Mk.fm b .no;simp[Mk.meet,Mk.aQ,h1,h2]
  | gone=>exact⟨rfl,rfl⟩
  | own _ _=>exact⟨rfl,rfl⟩
  | pr c d=>have h1:=Mk.fm a c;have h2:=Mk.fm b d;simp[Mk.meet,Mk.aQ,h1,h2]
theorem az.aQ{h:Array Obj}{Pr:BS}:∀(t:Ty){w m:Mk}{x:t.den}{c:List Value}{F:BS},w.aQ m=true->az h Pr t m x c F->
  ∃F1 F2:BS,Sub F1 F/\Sub F2 F/\cv F1 F2/\az h (fun b=>Pr b\/F2 b) t w x c F1
 | .unit,_,_,_,_,_,_,r=>⟨Nil,Nil,Sub.nil _,Sub.nil _,cv.nil _,by simpa only [az] using r⟩
 | .int k,_,_,_,_,_,_,r=>⟨Nil,Nil,Sub.nil _,Sub.nil _,cv.nil _,by simpa only [az] using r⟩
 | .bool,_,_,_,_,_,_,r=>⟨Nil,Nil,Sub.nil _,Sub.nil _,cv.nil _,by simpa only [az] using r⟩
 | .str,_,_,_,_,_,_,r=>⟨Nil,Nil,Sub.nil _,Sub.nil _,cv.nil _,by simpa only [az] using r⟩
 | .pair a b,w,m,x,c,F,hw,r=>by
  simp only[az]at r;obtain⟨ca,cb,Fa,Fb,rfl,ra,rb,sa,sb,d⟩:=r;obtain⟨A1,A2,s1,s2,dA,rA⟩:=az.aQ a (Mk.sP hw) ra;obtain⟨B1,B2,s3,s4,dB,rB⟩:=az.aQ b (Mk.sR hw) rb;refine⟨fun b=>A1 b\/B1 b,fun b=>A2 b\/B2 b,?_,?_,?_,?_⟩
  .rintro z (hz | hz)
   .exact sa z (s1 z hz)
   .exact sb z (s3 z hz)
  .rintro z (hz | hz)
   .exact sa z (s2 z hz)
   .exact sb z (s4 z hz)
  .rintro z (hz | hz) (hy | hy)
   .exact dA z hz hy
   .exact d z (s1 z hz) (s4 z hy)
   .exact d z (s2 z hy) (s3 z hz)
   .exact dB z hz hy
  .simp only[az];exact⟨ca,cb,A1,B1,rfl,az.mono (fun z hz=>hz.imp id .inl) (fun _ _=>rfl) a rA (Sub.refl _) (fun _ _=>rfl),
    az.mono (fun z hz=>hz.imp id .inr) (fun _ _=>rfl) b rB (Sub.refl _) (fun _ _=>rfl),fun z hz=>.inl hz,fun z hz=>.inr hz,d.mono s1 s3⟩
 | .sl t,w,m,xs,c,F,hw,r=>by
  cases w with
  | gone=>
   refine⟨Nil,Nil,Sub.nil _,Sub.nil _,cv.nil _,?_⟩;simp only[az];cases m<;>simp only[az]at r
   .obtain⟨a,k,e,_⟩:=r;exact⟨a,_,k,e⟩
   .exact r
   .obtain⟨a,k,e,_⟩:=r;exact⟨a,_,k,e⟩
   .obtain⟨a,k,e,_⟩:=r;exact⟨a,_,k,e⟩
  | no=>
   have hm:m.whole=true:=by cases m<;>simp_all [Mk.aQ]
   exact⟨Nil,F,Sub.nil _,Sub.refl _,cv.nil _,az.share (.sl t) hm r⟩
  | pr w1 w2=>
   refine⟨Nil,Nil,Sub.nil _,Sub.nil _,cv.nil _,?_⟩;have r':az h Pr (.sl t) .no xs c F:=by cases m<;>simp_all [Mk.aQ]<;>simpa only [az] using r
   have r2:=az.mono (fN:=fun b=>Pr b\/Nil b) (fun z hz=>.inl hz) (fun _ _=>rfl) (.sl t) r' (Sub.refl _) (fun _ _=>rfl);simpa only [az] using r2
  | own s wi=>
   cases m with
   | no=>simp[Mk.aQ]at hw
   | gone=>simp[Mk.aQ]at hw
   | pr _ _=>simp[Mk.aQ]at hw
   | own s' mi=>
    simp only[Mk.aQ]at hw;simp only[az]at r;obtain⟨a,cap,rfl,hl,r⟩:=r;rcases r with r | ⟨b,cs,rfl,fb,hb,hs,Fs,hF,hd,re⟩
    .exact⟨Nil,Nil,Sub.nil _,Sub.nil _,cv.nil _,by simp only[az];exact⟨a,cap,rfl,hl,.inl r⟩⟩
    .have key:∀i,∃F1 F2:BS,Sub F1 (Fs i)/\Sub F2 (Fs i)/\cv F1 F2/\
       (i<xs.length->az h (fun b=>Pr b\/F2 b) t wi (xs.getD i t.zero) (sub cs (i * t.width) t.width) F1):=by
      intro i;by_cases hi:i<xs.length
      .obtain⟨F1,F2,s1,s2,dd,rr⟩:=az.aQ t hw (re i hi);exact⟨F1,F2,s1,s2,dd,fun _=>rr⟩
      .exact⟨Nil,Nil,Sub.nil _,Sub.nil _,cv.nil _,fun h=>absurd h hi⟩
     obtain⟨F1,key⟩:=sX key;obtain⟨F2,key⟩:=sX key;refine⟨fun z=>z=b\/∃i,F1 i z,fun z=>∃i,F2 i z,?_,?_,?_,?_⟩
     .rintro z (rfl | ⟨i,hz⟩)
      .exact fb
      .exact(hF i).1 z ((key i).1 z hz)
     .rintro z ⟨i,hz⟩;exact(hF i).1 z ((key i).2.1 z hz)
     .rintro z (rfl | ⟨i,hz⟩) ⟨j,hy⟩
      .exact(hF j).2 ((key j).2.1 z hy)
      .by_cases e:i=j
       .subst e;exact(key i).2.2.1 z hz hy
       .exact hd i j e z ((key i).1 z hz) ((key j).2.1 z hy)
     .simp only[az];refine⟨_,cap,rfl,hl,.inr ⟨b,cs,rfl,.inl rfl,hb,hs,F1,fun i=>⟨fun z hz=>.inr ⟨i,hz⟩,fun hz=>(hF i).2 ((key i).1 _ hz)⟩,
       fun i j e=>(hd i j e).mono (key i).1 (key j).1,fun i hi=>?_⟩⟩
      exact az.mono (fun z hz=>hz.imp id fun hz=>⟨i,hz⟩) (fun _ _=>rfl) t ((key i).2.2.2 hi) (Sub.refl _) (fun _ _=>rfl)
def bt:(t:Ty)->t.den->Path->Prop
 | _,_,[]=>True
 | .pair a _,x,.fst::p=>bt a x.1 p
 | .pair _ b,x,.snd::p=>bt b x.2 p
 | .sl t,xs,.idx i _::p=>i<xs.length/\bt t (xs.getD i t.zero) p
 | _,_,_::_=>False
abbrev fH:=Option (Nat×Nat)
def cm(h:Array Obj):(t:Ty)->List Value->fH->Path->Option (fH×List Value)
 | _,c,base,[]=>some (base,c)
 | .pair a _,c,base,.fst::p=>cm h a (c.take a.width) base p
 | .pair a b,c,base,.snd::p=>cm h b (c.drop a.width) (base.map fun x=>(x.1,x.2+a.width)) p
 | .sl t,c,_,.idx i _::p=>
  match c with
  | [.slice (some ⟨b,0,none⟩) _ _]=>
   match h[b]? with
   | some (.cells cs _ _)=>cm h t (sub cs (i * t.width) t.width) (some (b,i * t.width)) p
   | _=>none
  | _=>none
 | _,_,_,_::_=>none
def bP(l:List Value)(o:Nat)(c:List Value):List Value:=l.take o++c++l.drop (o+c.length)
theorem C_{l:List Value}{o:Nat}{c:List Value}(h:o+c.length<=l.length):(bP l o c).length=l.length:=by simp[bP];omega
theorem acn{l:List Value}{o:Nat}{c:List Value}(h:o+c.length<=l.length):((bP l o c).drop o).take c.length=c:=by
 have:(l.take o).length=o:=by simp;omega
 simp only[bP,eG];rw[Bz (by omega),vD (by omega)];simp
theorem Gi{l:List Value}{o:Nat}{c:List Value}(h:o+c.length<=l.length){o' n:Nat}(hd:o'+n<=o\/o+c.length<=o') :
  ((bP l o c).drop o').take n=(l.drop o').take n:=by
 apply rL;intro i;simp only[gj,iE];split
 .rename_i hi;simp only[bP];by_cases h1:o'+i<o
  .rw[eG,ko (by simp;omega),gj];simp[h1]
  .have h2:o+c.length<=o'+i:=by omega
   rw[lZ (by simp;omega),iE];congr 1;simp;omega
 .rfl
def yG(h:Array Obj)(base:fH)(c:List Value)(F:BS):Prop:=
 ∀b o,base=some (b,o)->¬ F b/\∃cs,ju h b cs/\o+c.length<=cs.size/\sub cs o c.length=c
def yW(h h2:Array Obj)(base:fH)(c2:List Value):Prop:=
 ∀b o,base=some (b,o)->∀cs,ju h b cs->∃gz:Array Value,ju h2 b gz/\gz.toList=bP cs.toList o c2
def eA:Ty->Path->Nat
 | .pair a _,.fst::p=>eA a p
 | .pair a b,.snd::p=>a.width+eA b p
 | _,_=>0
end
end Go.V
namespace Go.V
noncomputable section
open Go
structure aA where
 Pr:BS
 C:Nat->List Value
 B:Nat->Option Nat
 G:Nat->BS
 hd:Nat->Value
 L:BS
 P0:BS
def aA.cR(g' g:aA):Prop:=g'.hd=g.hd/\g'.L=g.L/\g'.P0=g.P0
theorem aA.cR.refl(g:aA):g.cR g:=⟨rfl,rfl,rfl⟩
theorem aA.cR.trans{a b c:aA}(h:b.cR a)(k:c.cR b):c.cR a:=⟨k.1.trans h.1,k.2.1.trans h.2.1,k.2.2.trans h.2.2⟩
def aL(hd:Nat->Value):Ty->Mk->List Value->Prop
 | .pair a b,m,c=>aL hd a m.fst (c.take a.width)/\aL hd b m.snd (c.drop a.width)
 | .sl _,.own s mi,c=>(1048576<=s->c=[hd s])/\mi.ax=true
 | _,_,_=>True
def aA.base(g:aA)(r:Nat):fH:=(g.B r).map fun b=>(b,0)
def dJ(t:Ty)(c:List Value):Value:=if t.agg then .agg c.toArray else c.headD undef
theorem az.slice{h:Array Obj}{Pr:BS}{t:Ty}{m:Mk}{x:(Ty.sl t).den}{c:List Value}{F:BS}(r:az h Pr (.sl t) m x c F):∃a n k,c=[.slice a n k]:=by
 cases m<;>simp only[az]at r
 .obtain⟨a,k,e,_⟩:=r;exact⟨a,_,k,e⟩
 .exact r
 .obtain⟨a,k,e,_⟩:=r;exact⟨a,_,k,e⟩
 .obtain⟨a,k,e,_⟩:=r;exact⟨a,_,k,e⟩
theorem B3{h:Array Obj}{Pr:BS}{t:Ty}{m:Mk}{x:t.den}{c:List Value}{F:BS}(r:az h Pr t m x c F):(dJ t c).cells.toList=c:=by
 cases t with
 | unit=>simp only[az]at r;subst r;simp[dJ,Ty.agg,Value.cells]
 | int k=>simp only[az]at r;subst r;simp[dJ,Ty.agg,Value.cells]
 | bool=>simp only[az]at r;subst r;simp[dJ,Ty.agg,Value.cells]
 | str=>simp only[az]at r;subst r;simp[dJ,Ty.agg,Value.cells]
 | pair a b=>simp[dJ,Ty.agg,Value.cells]
 | sl t=>obtain⟨a,n,k,rfl⟩:=az.slice r;simp[dJ,Ty.agg,Value.cells]
theorem ajX{h h':Array Obj}{Pr fN:BS}{t:Ty}{m m':Mk}{x x':t.den}{c c':List Value}{F F':BS}
  (r:az h Pr t m x c F) (r':az h' fN t m' x' c' F') (e:dJ t c=dJ t c'):c=c':=by
 rw[<-B3 r,<-B3 r',e]
section rel
variable (h:Array Obj) (S:St) (g:aA)
def qO(r:Nat)(p:Path)(s:Nat)(v:Value):Prop:=
 ∀R,S.root r=some R->∀t m xs,focus R.ty R.ms R.x p=some ⟨.sl t,.own s m,xs⟩->
  bt R.ty R.x p/\∃base,cm h R.ty (g.C r) (g.base r) p=some (base,[v])
def Bm(r:Nat)(p:Path)(s lo hi:Nat)(v:Value):Prop:=
 ∀R,S.root r=some R->∀t m xs,focus R.ty R.ms R.x p=some ⟨.sl t,.own s m,xs⟩->
  bt R.ty R.x p/\∃base a n k,cm h R.ty (g.C r) (g.base r) p=some (base,[.slice a n k])/\lo<=hi/\hi<=n/\
   v=.slice (if k=lo then a else a.map (·.add (lo * t.width))) (hi-lo) (k-lo)
def uw(r:Nat)(p:Path)(v:Value):Prop:=
 ∀R,S.root r=some R->∀d,focus R.ty R.ms R.x p=some d->
  bt R.ty R.x p/\∃b o c,cm h R.ty (g.C r) (g.base r) p=some (some (b,o),c)/\v=.pointer (some ⟨b,o,none⟩)
def yz(t:Ty)(x:t.den)(v:Value):Prop:=
 ∃b o cs,v=.pointer (some ⟨b,o,none⟩)/\g.Pr b/\sY h b cs/\o+t.width<=cs.size/\az h g.Pr t .no x (Go.V.sub cs o t.width) Nil
def sA:bD->Value->Prop
 | .val t x,v=>∃c,az h g.Pr t .no x c Nil/\v=dJ t c
 | .cj t x,v=>yz h g t x v
def nR:List bD->List Value->Prop
 | [],vs=>vs=[]
 | c::l,vs=>∃v vs',vs=v::vs'/\sA h g c v/\nR l vs'
def dc:AV->List Value->Prop
 | .undef,_=>True
 | .unit,c=>c=[]
 | .val t x,c=>az h g.Pr t .no x c Nil
 | .b7 r p s,c=>∃v,c=[v]/\qO h S g r p s v
 | .pair a b,c=>∃ca cb,c=ca++cb/\dc a ca/\dc b cb
 | _,_=>False
mutual
def qe:AV->Value->Prop
 | .undef,_=>True
 | .skip,v=>v=Go.undef
 | .cD b,v=>v=.bool b
 | .unit,v=>v=.agg #[]
 | .fh,v=>v=.slice none 0 0
 | .val t x,v=>∃c,az h g.Pr t .no x c Nil/\v=dJ t c
 | .b7 r p s,v=>qO h S g r p s v
 | .view r p s lo hi,v=>Bm h S g r p s lo hi v
 | .addr r p,v=>uw h S g r p v
 | .b_ t x,v=>yz h g t x v
 | .pair a b,v=>∃ca cb,v=.agg (ca++cb).toArray/\dc h S g a ca/\dc h S g b cb
 | .jF a,v=>∃vs,v=.tuple vs.toArray/\aO a vs
 | .gE f c,v=>∃vs,v=.func (.func f) #[] vs.toArray/\aO c vs
 | .d9 c,v=>∃vs,v=.func (.func c.f) #[] vs.toArray/\nR h g c.caps vs
def aO:AV->List Value->Prop
 | .unit,vs=>vs=[]
 | .pair a b,vs=>∃v vs',vs=v::vs'/\qe a v/\aO b vs'
 | _,_=>False
end
structure aD (tmps:Array Value) (H:BS):Prop where
 len:S.sl.length=tmps.size
 gw:S.rt.length=tmps.size
 slots:∀t,qe h S g (S.get t) (tmps.getD t Go.undef)
 roots:∀r R,S.root r=some R->∃F,az h g.Pr R.ty R.ms R.x (g.C r) F/\Sub F (g.G r)/\(∀b,g.B r=some b->¬ F b)/\
  (R.mem=true->∃b,g.B r=some b/\g.G r b/\ju h b (g.C r).toArray)/\(R.mem=false->g.B r=none)
 dY:∀r r',r≠r'->(S.root r).isSome->(S.root r').isSome->cv (g.G r) (g.G r')
 ej:∀r,(S.root r).isSome->cv (g.G r) g.Pr
 hand:∀r,(S.root r).isSome->cv (g.G r) H
 bK:cv H g.Pr
 bO:∀b,g.Pr b->b<h.size
 b9:∀r b,(S.root r).isSome->g.G r b->b<h.size
 eg:∀b,H b->b<h.size
 tag:∀r R,S.root r=some R->aL g.hd R.ty R.ms (g.C r)
 own:∀r b,(S.root r).isSome->g.G r b->g.L b
 e7:∀b,H b->g.L b
 fV:∀b,h.size<=b->g.L b
 p0:Sub g.P0 g.Pr
 kY:∀b,g.Pr b->g.P0 b\/g.L b
end rel
section keep
variable (h h':Array Obj) (S S':St) (g g':aA)
def tL(r:Nat)(p:Path):Prop:=
 ∀R',S'.root r=some R'->∀d',focus R'.ty R'.ms R'.x p=some d'->
  ∃R d,S.root r=some R/\focus R.ty R.ms R.x p=some d/\(bt R.ty R.x p->bt R'.ty R'.x p/\
   ∀base c,cm h R.ty (g.C r) (g.base r) p=some (base,c)->∃c',cm h' R'.ty (g'.C r) (g'.base r) p=some (base,c'))
def qZ(r:Nat)(p:Path)(s:Nat):Prop:=
 ∀R',S'.root r=some R'->∀t m xs,focus R'.ty R'.ms R'.x p=some ⟨.sl t,.own s m,xs⟩->
  ∃R m0 IQ,S.root r=some R/\focus R.ty R.ms R.x p=some ⟨.sl t,.own s m0,IQ⟩/\(bt R.ty R.x p->bt R'.ty R'.x p/\
   ∀base c,cm h R.ty (g.C r) (g.base r) p=some (base,c)->cm h' R'.ty (g'.C r) (g'.base r) p=some (base,c))
def AV.dh:AV->Prop
 | .b7 r p s=>qZ h h' S S' g g' r p s
 | .view r p s _ _=>qZ h h' S S' g g' r p s
 | .addr r p=>tL h h' S S' g g' r p
 | .pair a b=>a.dh/\b.dh
 | .jF a=>a.dh
 | .gE _ a=>a.dh
 | _=>True
variable {h h' S S' g g'}
theorem qO.keep{r:Nat}{p:Path}{s:Nat}{v:Value}(x:qO h S g r p s v)(k:qZ h h' S S' g g' r p s):qO h' S' g' r p s v:=by intro R' cg t m xs hf;obtain⟨R,m0,IQ,hR,zY,hr⟩:=k R' cg t m xs hf;obtain⟨h1,base,h2⟩:=x R hR t m0 IQ zY;exact⟨(hr h1).1,base,(hr h1).2 _ _ h2⟩
theorem Bm.keep{r:Nat}{p:Path}{s lo hi:Nat}{v:Value}(x:Bm h S g r p s lo hi v)(k:qZ h h' S S' g g' r p s):Bm h' S' g' r p s lo hi v:=by intro R' cg t m xs hf;obtain⟨R,m0,IQ,hR,zY,hr⟩:=k R' cg t m xs hf;obtain⟨h1,base,a,n,k,h2,h3⟩:=x R hR t m0 IQ zY;exact⟨(hr h1).1,base,a,n,k,(hr h1).2 _ _ h2,h3⟩
theorem uw.keep{r:Nat}{p:Path}{v:Value}(x:uw h S g r p v)(k:tL h h' S S' g g' r p):uw h' S' g' r p v:=by intro R' cg d hf;obtain⟨R,d0,hR,zY,hr⟩:=k R' cg d hf;obtain⟨h1,b,o,c,h2,h3⟩:=x R hR d0 zY;obtain⟨c',h4⟩:=(hr h1).2 _ _ h2;exact⟨(hr h1).1,b,o,c',h4,h3⟩
theorem yz.keep(hp:Sub g.Pr g'.Pr)(hk:∀b,g.Pr b->h'[b]? = h[b]?){t:Ty}{x:t.den}{v:Value}(y:yz h g t x v):yz h' g' t x v:=by obtain⟨b,o,cs,e,pb,hb,hs,r⟩:=y;exact⟨b,o,cs,e,hp b pb,hb.congr (hk b pb),hs,az.mono hp hk t r (Sub.refl _) (fun _ h=>h.elim)⟩
theorem sA.keep(hp:Sub g.Pr g'.Pr)(hk:∀b,g.Pr b->h'[b]? = h[b]?){c:bD}{v:Value}(y:sA h g c v):sA h' g' c v:=by
 cases c with
 | val t x=>obtain⟨c,r,e⟩:=y;exact⟨c,az.mono hp hk t r (Sub.refl _) (fun _ h=>h.elim),e⟩
 | cj t x=>exact yz.keep hp hk y
theorem nR.keep(hp:Sub g.Pr g'.Pr)(hk:∀b,g.Pr b->h'[b]? = h[b]?):∀{l:List bD}{vs:List Value},nR h g l vs->nR h' g' l vs
 | [],_,y=>y
 | c::l,_,y=>by
  obtain⟨v,vs',e,h1,h2⟩:=y;exact⟨v,vs',e,sA.keep hp hk h1,nR.keep hp hk h2⟩
theorem dc.keep(hp:Sub g.Pr g'.Pr)(hk:∀b,g.Pr b->h'[b]? = h[b]?):∀{a:AV}{c:List Value},dc h S g a c->a.dh h h' S S' g g'->dc h' S' g' a c
 | .undef,_,_,_=>trivial
 | .unit,_,y,_=>y
 | .val t x,_,y,_=>az.mono hp hk t y (Sub.refl _) (fun _ h=>h.elim)
 | .b7 r p s,_,y,k=>by obtain⟨v,e,y⟩:=y;exact⟨v,e,y.keep k⟩
 | .pair a b,_,y,k=>by
  obtain⟨ca,cb,e,y1,y2⟩:=y;exact⟨ca,cb,e,dc.keep hp hk y1 k.1,dc.keep hp hk y2 k.2⟩
 | .skip,_,y,_=>y.elim
 | .cD _,_,y,_=>y.elim
 | .fh,_,y,_=>y.elim
 | .view _ _ _ _ _,_,y,_=>y.elim
 | .addr _ _,_,y,_=>y.elim
 | .b_ _ _,_,y,_=>y.elim
 | .jF _,_,y,_=>y.elim
 | .gE _ _,_,y,_=>y.elim
 | .d9 _,_,y,_=>y.elim
theorem qe.keep(hp:Sub g.Pr g'.Pr)(hk:∀b,g.Pr b->h'[b]? = h[b]?):∀(a:AV),(∀v,qe h S g a v->a.dh h h' S S' g g'->qe h' S' g' a v)/\
  (∀vs,aO h S g a vs->a.dh h h' S S' g g'->aO h' S' g' a vs):=by
 intro a
 induction a with
 | undef=>exact⟨fun _ _ _=>by simp only[qe],fun _ y _=>by simp only[aO]at y⟩
 | skip=>exact⟨fun _ y _=>by simpa only [qe] using y,fun _ y _=>by simp only[aO]at y⟩
 | cD b=>exact⟨fun _ y _=>by simpa only [qe] using y,fun _ y _=>by simp only[aO]at y⟩
 | unit=>exact⟨fun _ y _=>by simpa only [qe] using y,fun _ y _=>by simpa only [aO] using y⟩
 | fh=>exact⟨fun _ y _=>by simpa only [qe] using y,fun _ y _=>by simp only[aO]at y⟩
 | val t x=>refine⟨fun v y _=>?_,fun _ y _=>by simp only[aO]at y⟩;simp only[qe]at y⊢;obtain⟨c,r,e⟩:=y;exact⟨c,az.mono hp hk t r (Sub.refl _) (fun _ h=>h.elim),e⟩
 | b7 r p s=>exact⟨fun v y k=>by simp only[qe]at y⊢;exact y.keep k,fun _ y _=>by simp only[aO]at y⟩
 | view r p s lo hi=>exact⟨fun v y k=>by simp only[qe]at y⊢;exact y.keep k,fun _ y _=>by simp only[aO]at y⟩
 | addr r p=>exact⟨fun v y k=>by simp only[qe]at y⊢;exact y.keep k,fun _ y _=>by simp only[aO]at y⟩
 | b_ t x=>exact⟨fun v y k=>by simp only[qe]at y⊢;exact yz.keep hp hk y,fun _ y _=>by simp only[aO]at y⟩
 | pair a b fQ kR=>
  refine⟨fun v y k=>?_,fun vs y k=>?_⟩
  .simp only[qe]at y⊢;obtain⟨ca,cb,e,y1,y2⟩:=y;exact⟨ca,cb,e,dc.keep hp hk y1 k.1,dc.keep hp hk y2 k.2⟩
  .simp only[aO]at y⊢;obtain⟨v,vs',e,y1,y2⟩:=y;exact⟨v,vs',e,fQ.1 v y1 k.1,kR.2 vs' y2 k.2⟩
 | jF a fQ=>refine⟨fun v y k=>?_,fun _ y _=>by simp only[aO]at y⟩;simp only[qe]at y⊢;obtain⟨vs,e,y⟩:=y;exact⟨vs,e,fQ.2 vs y k⟩
 | gE f a fQ=>refine⟨fun v y k=>?_,fun _ y _=>by simp only[aO]at y⟩;simp only[qe]at y⊢;obtain⟨vs,e,y⟩:=y;exact⟨vs,e,fQ.2 vs y k⟩
 | d9 c=>refine⟨fun v y k=>?_,fun _ y _=>by simp only[aO]at y⟩;simp only[qe]at y⊢;obtain⟨vs,e,y⟩:=y;exact⟨vs,e,nR.keep hp hk y⟩
end keep
theorem IB{h h':Array Obj}{Pr:BS}:∀(p:Path){t:Ty}{m:Mk}{x:t.den}{c:List Value}{F:BS}(base:fH){d:Dy},
  az h Pr t m x c F->focus t m x p=some d->bt t x p->(∀b,F b->h'[b]? = h[b]?)->cm h' t c base p=cm h t c base p
 | [],t,m,x,c,F,base,d,_,_,_,_=>by cases t<;>rfl
 | .fst::p,t,m,x,c,F,base,d,r,hf,hr,hk=>by
  cases t with
  | pair a b=>simp only[focus]at hf;simp only[bt]at hr;simp only[az]at r;obtain⟨ca,cb,Fa,Fb,rfl,ra,rb,sa,sb,dd⟩:=r;simp only[cm];rw[<-az.width a ra,jm rfl];exact IB p base ra hf hr fun b hb=>hk b (sa b hb)
  | _=>simp[focus]at hf
 | .snd::p,t,m,x,c,F,base,d,r,hf,hr,hk=>by
  cases t with
  | pair a b=>simp only[focus]at hf;simp only[bt]at hr;simp only[az]at r;obtain⟨ca,cb,Fa,Fb,rfl,ra,rb,sa,sb,dd⟩:=r;simp only[cm];rw[<-az.width a ra,iZ rfl];exact IB p _ rb hf hr fun b hb=>hk b (sb b hb)
  | _=>simp[focus]at hf
 | .idx i s'::p,t,m,xs,c,F,base,d,r,hf,hr,hk=>by
  cases t with
  | sl e=>
   cases m with
   | own s mi=>
    simp only[focus]at hf;by_cases hs:s=s'
    .simp only[hs,aY]at hf;simp only[bt]at hr;obtain⟨hi,hr⟩:=hr;simp only[az]at r;obtain⟨a,cap,rfl,hl,r⟩:=r;rcases r with r | ⟨b1,cs,rfl,fb,bN,hsz,Fs,hF,lC,re⟩
     .omega
     simp only[cm];rw[hk b1 fb];obtain⟨ty,lo,hi',he,_⟩:=bN;simp only[he];exact IB p _ (re i hi) hf hr fun b hb=>hk b ((hF i).1 b hb)
    .simp[hs]at hf
   | _=>simp[focus]at hf
  | _=>simp[focus]at hf
end
end Go.V
namespace Go.V
noncomputable section
open Go
def q8:Ty->Mk->Path->Option (Ty×Mk)
 | t,m,[]=>some (t,m)
 | .pair a _,m,.fst::p=>q8 a m.fst p
 | .pair _ b,m,.snd::p=>q8 b m.snd p
 | .sl t,.own s m,.idx _ s'::p=>if s=s' then q8 t m p else none
 | _,_,_::_=>none
theorem u9:∀(p:Path){t:Ty}{m:Mk}{x:t.den}{d:Dy},focus t m x p=some d->q8 t m p=some (d.ty,d.ms)
 | [],t,m,x,d,h=>by simp only[focus,aK]at h;subst h;cases t<;>rfl
 | .fst::p,t,m,x,d,h=>by
  cases t with
  | pair a b=>simp only[focus]at h;simp only[q8];exact u9 p h
  | _=>simp[focus]at h
 | .snd::p,t,m,x,d,h=>by
  cases t with
  | pair a b=>simp only[focus]at h;simp only[q8];exact u9 p h
  | _=>simp[focus]at h
 | .idx i s'::p,t,m,x,d,h=>by
  cases t with
  | sl e=>
   cases m with
   | own s mi=>
    simp only[focus]at h;simp only[q8];split at h
    .rename_i hs;simp only[hs,aY];exact u9 p h
    .simp at h
   | _=>simp[focus]at h
  | _=>simp[focus]at h
theorem zu:∀(p:Path){t:Ty}{m:Mk}(x:t.den){t':Ty}{m':Mk},q8 t m p=some (t',m')->∃y,focus t m x p=some ⟨t',m',y⟩
 | [],t,m,x,t',m',h=>by
  have:q8 t m []=some (t,m):=by cases t<;>rfl
  rw[this]at h;simp only[aK,aZ]at h;obtain⟨rfl,rfl⟩:=h;exact⟨x,by simp[focus]⟩
 | .fst::p,t,m,x,t',m',h=>by
  cases t with
  | pair a b=>simp only[q8]at h;simp only[focus];exact zu p x.1 h
  | _=>simp[q8]at h
 | .snd::p,t,m,x,t',m',h=>by
  cases t with
  | pair a b=>simp only[q8]at h;simp only[focus];exact zu p x.2 h
  | _=>simp[q8]at h
 | .idx i s'::p,t,m,x,t',m',h=>by
  cases t with
  | sl e=>
   cases m with
   | own s mi=>
    simp only[q8]at h;simp only[focus];split at h
    .rename_i hs;simp only[hs,aY];exact zu p _ h
    .simp at h
   | _=>simp[q8]at h
  | _=>simp[q8]at h
def Mk.le:(less more:Mk)->Prop
 | .gone,_=>True
 | .no,m=>m=.no
 | .own s a,m=>∃b,m=.own s b/\a.le b
 | .pr a b,m=>∃c d,m=.pr c d/\a.le c/\b.le d
theorem Mk.le_refl:∀m:Mk,m.le m
 | .no=>rfl
 | .gone=>trivial
 | .own s m=>⟨m,rfl,m.le_refl⟩
 | .pr a b=>⟨a,b,rfl,a.le_refl,b.le_refl⟩
theorem Mk.le_trans:∀{a b c:Mk},a.le b->b.le c->a.le c
 | .gone,_,_,_,_=>trivial
 | .no,b,c,h,h'=>by simp only[Mk.le]at h;subst h;exact h'
 | .own s a,b,c,h,h'=>by
  obtain⟨b',rfl,h⟩:=h;obtain⟨c',rfl,h'⟩:=h';exact⟨c',rfl,Mk.le_trans h h'⟩
 | .pr a1 a2,b,c,h,h'=>by
  obtain⟨b1,b2,rfl,h1,h2⟩:=h;obtain⟨c1,c2,rfl,h3,h4⟩:=h';exact⟨c1,c2,rfl,Mk.le_trans h1 h3,Mk.le_trans h2 h4⟩
def Mk.nE(lo hi:Nat)(m:Mk):Mk->Prop
 | .own s b=>(lo<=s/\s<hi)\/∃a,m=.own s a/\Mk.nE lo hi a b
 | .pr c d=>Mk.nE lo hi m.fst c/\Mk.nE lo hi m.snd d
 | _=>True
theorem Mk.Cm{lo hi:Nat}{m n:Mk}(h:m.nE lo hi n):m.fst.nE lo hi n.fst:=by
 cases n with
 | no=>trivial
 | gone=>trivial
 | own s b=>trivial
 | pr c d=>exact h.1
theorem Mk.Cn{lo hi:Nat}{m n:Mk}(h:m.nE lo hi n):m.snd.nE lo hi n.snd:=by
 cases n with
 | no=>trivial
 | gone=>trivial
 | own s b=>trivial
 | pr c d=>exact h.2
theorem Mk.fM(lo hi:Nat):∀m:Mk,m.nE lo hi m
 | .no=>trivial
 | .gone=>trivial
 | .own s m=>.inr ⟨m,rfl,m.fM lo hi⟩
 | .pr a b=>⟨a.fM lo hi,b.fM lo hi⟩
theorem Mk.kj{lo hi:Nat}:∀{m b:Mk},m.nE lo hi b->m.nE lo hi b.fj
 | m,.no,_=>trivial
 | m,.gone,_=>trivial
 | m,.own s b,_=>by unfold Mk.fj;split<;>trivial
 | m,.pr c d,h=>⟨Mk.kj h.1,Mk.kj h.2⟩
theorem Mk.iq{lo hi:Nat}:∀(a:Mk)(m:Mk),m.nE lo hi (a.meet .no)
 | .no,m=>trivial
 | .gone,m=>trivial
 | .own s a,m=>by simp only[Mk.meet];split<;>trivial
 | .pr a b,m=>⟨Mk.iq a _,Mk.iq b _⟩
theorem Mk.gO{lo hi:Nat}:∀{a m b:Mk},m.nE lo hi b->m.nE lo hi (a.meet b)
 | .no,m,b,h=>by simpa [Mk.meet] using Mk.kj h
 | .gone,m,b,h=>trivial
 | .own s a,m,b,h=>by
  cases b with
  | no=>simp only[Mk.meet];split<;>trivial
  | gone=>trivial
  | pr _ _=>trivial
  | own s' b=>
   simp only[Mk.meet];rcases h with h | ⟨a',rfl,h⟩
   .exact .inl h
   .exact .inr ⟨a',rfl,Mk.gO h⟩
 | .pr a1 a2,m,b,h=>by
  cases b with
  | no=>exact⟨Mk.iq a1 _,Mk.iq a2 _⟩
  | gone=>trivial
  | own s' b=>trivial
  | pr b1 b2=>exact⟨Mk.gO h.1,Mk.gO h.2⟩
def Mk.fresh(lo hi:Nat):Mk->Prop
 | .own s m=>lo<=s/\s<hi
 | .pr a b=>a.fresh lo hi/\b.fresh lo hi
 | _=>True
theorem Mk.eN{lo hi:Nat}:∀{n:Mk}(m:Mk),n.fresh lo hi->m.nE lo hi n
 | .no,m,_=>trivial
 | .gone,m,_=>trivial
 | .own s b,m,h=>.inl h
 | .pr c d,m,h=>⟨Mk.eN _ h.1,Mk.eN _ h.2⟩
theorem Bd{lo hi:Nat}:∀(q:Path){t:Ty}{m:Mk}{x:t.den}{t2:Ty}{m2:Mk}{y:t2.den}{m':Mk}{x':t.den},
  put t m x q t2 m2 y=some (m',x')->m2.fresh lo hi->m.nE lo hi m'
 | [],t,m,x,t2,m2,y,m',x',h,hm=>by
  simp only[put]at h;cases hc:qbv t2 t y with
  | none=>rw[hc]at h;simp at h
  | some z=>rw[hc]at h;simp only[dw,aK,aZ]at h;rw[<-h.1];exact Mk.eN _ hm
 | .fst::q,t,m,x,t2,m2,y,m',x',h,hm=>by
  cases t with
  | pair a b=>
   simp only[put]at h;cases hq:put a m.fst x.1 q t2 m2 y with
   | none=>rw[hq]at h;simp at h
   | some r=>rw[hq]at h;simp only[dw,aK,aZ]at h;rw[<-h.1];exact⟨Bd q hq hm,Mk.fM _ _ _⟩
  | _=>simp[put]at h
 | .snd::q,t,m,x,t2,m2,y,m',x',h,hm=>by
  cases t with
  | pair a b=>
   simp only[put]at h;cases hq:put b m.snd x.2 q t2 m2 y with
   | none=>rw[hq]at h;simp at h
   | some r=>rw[hq]at h;simp only[dw,aK,aZ]at h;rw[<-h.1];exact⟨Mk.fM _ _ _,Bd q hq hm⟩
  | _=>simp[put]at h
 | .idx i s'::q,t,m,x,t2,m2,y,m',x',h,hm=>by
  cases t with
  | sl e=>
   cases m with
   | own s mi=>
    simp only[put]at h;split at h
    .rename_i hs;cases hq:put e mi (x.getD i e.zero) q t2 m2 y with
     | none=>rw[hq]at h;simp at h
     | some r=>rw[hq]at h;simp only[dw,aK,aZ]at h;rw[<-h.1];exact .inr ⟨mi,rfl,Mk.gO (Bd q hq hm)⟩
    .simp at h
   | _=>simp[put]at h
  | _=>simp[put]at h
theorem BY{lo hi:Nat}:∀(p:Path){t:Ty}{m n:Mk}{t':Ty}{n':Mk},m.nE lo hi n->jD lo hi p=true->q8 t n p=some (t',n')->
  ∃m',q8 t m p=some (t',m')/\m'.nE lo hi n'
 | [],t,m,n,t',n',h,_,hf=>by
  have e:∀m,q8 t m []=some (t,m):=fun m=>by cases t<;>rfl
  rw[e]at hf;simp only[aK,aZ]at hf;obtain⟨rfl,rfl⟩:=hf;exact⟨m,e m,h⟩
 | .fst::p,t,m,n,t',n',h,hp,hf=>by
  cases t with
  | pair t1 t2=>simp only[q8]at hf⊢;exact BY p (Mk.Cm h) (by simpa [jD] using hp) hf
  | _=>simp[q8]at hf
 | .snd::p,t,m,n,t',n',h,hp,hf=>by
  cases t with
  | pair t1 t2=>simp only[q8]at hf⊢;exact BY p (Mk.Cn h) (by simpa [jD] using hp) hf
  | _=>simp[q8]at hf
 | .idx i s'::p,t,m,n,t',n',h,hp,hf=>by
  cases t with
  | sl e=>
   cases n with
   | own s b=>
    simp only[q8]at hf;split at hf
    .rename_i hs;subst hs;simp only[jD,bH,kr,oh]at hp;rcases h with h | ⟨a,rfl,h⟩
     .exfalso;rcases hp.1 with h1 | h1
      .have:Nat.ble lo s=true:=rH h.1;rw[this]at h1;simp at h1
      .have:Nat.blt s hi=true:=rH h.2;rw[this]at h1;simp at h1
     .simp only[q8,aY];exact BY p h hp.2 hf
    .simp at hf
   | _=>simp[q8]at hf
  | _=>simp[q8]at hf
end
end Go.V
namespace Go.V
noncomputable section
open Go
abbrev Un(F G:BS):BS:=fun b=>F b\/G b
theorem ZF{a b c:List Value}{o:Nat}(h:o+c.length<=a.length):bP (a++b) o c=bP a o c++b:=by simp only[bP];rw[og (by omega),Bz (by omega)];simp
theorem YU{a b c:List Value}{o:Nat}:bP (a++b) (a.length+o) c=a++bP b o c:=by simp only[bP];rw[List.take_append,kq (by omega),Fw,vD (by omega)];simp[Nat.add_sub_cancel_left,FG]
theorem AH{a c:List Value}(h:c.length=a.length):bP a 0 c=c:=by simp[bP,h]
theorem Nk{cs:Array Value}{o:Nat}{a b:List Value}(h:sub cs o (a++b).length=a++b) :
  sub cs o a.length=a/\sub cs (o+a.length) b.length=b:=by
 simp only[sub,cI]at h⊢;constructor
 .have:=ew (List.take a.length) h;rw[uI]at this;simpa [Fx (Nat.le_add_right _ _)] using this
 .have:=ew (List.drop a.length) h;rw[yg,qU]at this;simpa using this
theorem ju.uniq{h:Array Obj}{b:Nat}{cs cs':Array Value}(x:ju h b cs)(y:ju h b cs'):cs=cs':=by obtain⟨e,lo,hi,he,_⟩:=x;obtain⟨e',lo',hi',he',_⟩:=y;rw[he]at he';simp at he';exact he'.1
theorem BX:∀p:Path,jD 0 0 p=true
 | []=>rfl
 | .fst::p=>BX p
 | .snd::p=>BX p
 | .idx i s::p=>by
  have:Nat.blt s 0=false:=rfl;simp[jD,this,BX p]
theorem Nq{lo hi s:Nat}(h:lo<=s/\s<hi):(!(Nat.ble lo s&&Nat.blt s hi))=false:=by have e1:Nat.ble lo s=true:=rH h.1;have e2:Nat.blt s hi=true:=rH h.2;simp[e1,e2]
theorem C6{lo hi:Nat}:∀(p:Path){t:Ty}{m:Mk}{t':Ty}{m':Mk},m.fresh lo hi->jD lo hi p=true->q8 t m p=some (t',m')->
  qx p=false/\m'.fresh lo hi
 | [],t,m,t',m',h,_,hf=>by
  have e:∀m,q8 t m []=some (t,m):=fun m=>by cases t<;>rfl
  rw[e]at hf;simp only[aK,aZ]at hf;exact⟨rfl,hf.2 ▸ h⟩
 | .fst::p,t,m,t',m',h,hp,hf=>by
  cases t with
  | pair a b=>
   simp only[q8]at hf;have:m.fst.fresh lo hi:=by cases m<;>first | exact h.1 | trivial
   exact C6 p this (by simpa [jD] using hp) hf
  | _=>simp[q8]at hf
 | .snd::p,t,m,t',m',h,hp,hf=>by
  cases t with
  | pair a b=>
   simp only[q8]at hf;have:m.snd.fresh lo hi:=by cases m<;>first | exact h.2 | trivial
   exact C6 p this (by simpa [jD] using hp) hf
  | _=>simp[q8]at hf
 | .idx i s'::p,t,m,t',m',h,hp,hf=>by
  cases t with
  | sl e=>
   cases m with
   | own s mi=>
    simp only[q8]at hf;split at hf
    .rename_i hs;subst hs;simp only[jD,bH]at hp;rw[Nq h]at hp;simp at hp
    .simp at hf
   | _=>simp[q8]at hf
  | _=>simp[q8]at hf
theorem zx:∀(p:Path){t:Ty}{m:Mk}{t':Ty}{m':Mk}(x:t.den),qx p=false->q8 t m p=some (t',m')->bt t x p
 | [],t,_,_,_,x,_,_=>by cases t<;>trivial
 | .fst::p,t,m,t',m',x,hp,hf=>by
  cases t with
  | pair a b=>simp only[q8]at hf;simp only[bt];exact zx p x.1 hp hf
  | _=>simp[q8]at hf
 | .snd::p,t,m,t',m',x,hp,hf=>by
  cases t with
  | pair a b=>simp only[q8]at hf;simp only[bt];exact zx p x.2 hp hf
  | _=>simp[q8]at hf
 | .idx i s::p,_,_,_,_,_,hp,_=>by simp[qx]at hp
theorem IC{h h':Array Obj}:∀(p:Path){t:Ty}(c c':List Value)(base:fH){bp:fH}{cp:List Value},qx p=false->cm h t c base p=some (bp,cp)->
  ∃iP,cm h' t c' base p=some (bp,iP)
 | [],t,c,c',base,bp,cp,_,ha=>by
  have e:∀h c,cm h t c base []=some (base,c):=fun h c=>by cases t<;>rfl
  rw[e]at ha;simp only[aK,aZ]at ha;exact⟨c',by rw[e,ha.1]⟩
 | .fst::p,t,c,c',base,bp,cp,hp,ha=>by
  cases t with
  | pair a b=>simp only[cm]at ha⊢;exact IC p _ _ base hp ha
  | _=>simp[cm]at ha
 | .snd::p,t,c,c',base,bp,cp,hp,ha=>by
  cases t with
  | pair a b=>simp only[cm]at ha⊢;exact IC p _ _ _ hp ha
  | _=>simp[cm]at ha
 | .idx i s::p,_,_,_,_,_,_,hp,_=>by simp[qx]at hp
theorem abk{w i n o:Nat}{l l2 c2:List Value}(ht:l2=bP l (i * w+o) c2)(hfit:i * w+w<=l.length)(ho:o+c2.length<=w) :
  ((l2.drop (i * w)).take w=bP ((l.drop (i * w)).take w) o c2)/\∀j,j≠i->(l2.drop (j * w)).take w=(l.drop (j * w)).take w:=by
 subst ht;have hf:i * w+o+c2.length<=l.length:=by omega
 constructor
 .apply rL;intro k;simp only[bP,gj,iE];by_cases hk':k<w
  .simp only[hk',aY];by_cases Uk:k<o
   .rw[eG,ko (by simp;omega),eG,ko (by simp;omega)];simp only[gj,iE];rw[aj (by omega),aj (by omega),aj (by omega)]
   .by_cases hk2:k<o+c2.length
    .rw[eG,lZ (by simp;omega),ko (by simp;omega),eG,
      lZ (by simp;omega),ko (by simp;omega)]
     congr 1;simp;omega
    .rw[lZ (by simp;omega),lZ (by simp;omega)];simp only[iE,gj];simp only[cI,e9,x9];rw[aj (by omega)];congr 1;omega
  .simp only[hk',dV];rw[pF (by simp;omega)]
 .intro j hj;apply Gi hf;rcases Nat.lt_or_gt_of_ne hj with h1 | h1
  .left;have:=fl w (show j+1<=i by omega);rw[jA,yd]at this;omega
  .right;have:=fl w (show i+1<=j by omega);rw[jA,yd]at this;omega
structure Zip (h:Array Obj) (Pr:BS) (p:Path) (t:Ty) (m:Mk) (x:t.den) (c:List Value) (F:BS) (base:fH) (d:Dy) (base':fH) (c':List Value) (F' Fr:BS):Prop where
 at_:cm h t c base p=some (base',c')
 rep:az h Pr d.ty d.ms d.x c' F'
 ok:yG h base' c' F'
 sub:Sub F' F
 fr:Sub Fr F
 dY:cv F' Fr
 home:∀b o,base'=some (b,o)->Fr b\/∃o0,base=some (b,o0)
 idx:qx p=true->∃b o,base'=some (b,o)/\Fr b
 plain:qx p=false->base'=base.map (fun z=>(z.1,z.2+eA t p))/\c'=(c.drop (eA t p)).take d.ty.width/\eA t p+d.ty.width<=c.length
 vz:∀(h2:Array Obj)(gf:BS)(m2:Mk)(y:d.ty.den)(c2:List Value)(F2:BS)(m':Mk)(x':t.den),
  Sub Pr gf->(∀b,Pr b->h2[b]? = h[b]?)->(∀b,Fr b->(∀o,base'≠some (b,o))->h2[b]? = h[b]?)->yW h h2 base' c2->
  az h2 gf d.ty m2 y c2 F2->cv F2 Fr->put t m x p d.ty m2 y=some (m',x')->
  ∃F3 D3:BS,Sub F3 (Un Fr F2)/\Sub D3 (Un Fr F2)/\cv F3 D3/\az h2 (Un gf D3) t m' x' (if qx p then c else bP c (eA t p) c2) F3
 paths:∀(lo hi:Nat)(h2:Array Obj)(m2:Mk)(y:d.ty.den)(c2:List Value)(m':Mk)(x':t.den),
  (∀b,Fr b->(∀o,base'≠some (b,o))->h2[b]? = h[b]?)->yW h h2 base' c2->c2.length=d.ty.width->put t m x p d.ty m2 y=some (m',x')->d.ms.nE lo hi m2->
  (∀p' t1 n1,jD lo hi p'=true->q8 d.ty m2 p'=some (t1,n1)->bt d.ty d.x p'->bt d.ty y p'/\∀bp cp,cm h d.ty c' base' p'=some (bp,cp)->
   ∃iP,cm h2 d.ty c2 base' p'=some (bp,iP)/\(∀s a,n1=.own s a->¬ (lo<=s/\s<hi)->iP=cp))->
  m.nE lo hi m'/\∀p' t1 n1,jD lo hi p'=true->q8 t m' p'=some (t1,n1)->bt t x p'->bt t x' p'/\∀bp cp,cm h t c base p'=some (bp,cp)->
   ∃iP,cm h2 t (if qx p then c else bP c (eA t p) c2) base p'=some (bp,iP)/\(∀s a,n1=.own s a->¬ (lo<=s/\s<hi)->iP=cp)
theorem TH(t:Ty)(x:t.den):qbv t t x=some x:=by simp[qbv]
theorem zip{h:Array Obj}{Pr:BS}:∀(p:Path)(t:Ty)(m:Mk)(x:t.den)(c:List Value)(F:BS)(base:fH)(d:Dy),
  az h Pr t m x c F->focus t m x p=some d->bt t x p->yG h base c F->
  ∃base' c' F' Fr,Zip h Pr p t m x c F base d base' c' F' Fr
 | [],t,m,x,c,F,base,d,r,hf,_,hb=>by
  simp only[focus,aK]at hf;subst hf;refine⟨base,c,F,Nil,by cases t<;>rfl,r,hb,Sub.refl _,Sub.nil _,fun _ _ h=>h.elim,fun b o e=>.inr ⟨o,e⟩,by simp[qx],?_,?_,?_⟩
  .intro _;refine⟨by cases base<;>simp[eA],?_,?_⟩
   .simp[eA,<-az.width t r]
   .simp[eA,az.width t r]
  .intro h2 gf m2 y c2 F2 m' x' hp _ _ _ r2 _ hput;have e0:eA t []=0:=by cases t<;>rfl
   simp only[put,TH,dw,aK,aZ]at hput;obtain⟨rfl,rfl⟩:=hput;refine⟨F2,Nil,fun b hb=>.inr hb,Sub.nil _,fun _ _ h=>h.elim,?_⟩;simp only[qx,e8,dV,e0];rw[AH (by rw[az.width t r2,az.width t r])];exact az.mono (fun b hb=>.inl hb) (fun _ _=>rfl) t r2 (Sub.refl _) (fun _ _=>rfl)
  .intro lo hi h2 m2 y c2 m' x' _ _ hc hput tB hbase;have e0:eA t []=0:=by cases t<;>rfl
   simp only[put,TH,dw,aK,aZ]at hput;obtain⟨rfl,rfl⟩:=hput;refine⟨tB,?_⟩;simp only[qx,e8,dV,e0];rw[AH (by rw[hc,az.width t r])];exact hbase
 | .fst::p,t,m,x,c,F,base,d,r,hf,hr,hb=>by
  cases t with
  | pair a b=>
   simp only[focus]at hf;simp only[bt]at hr;simp only[az]at r;obtain⟨ca,cb,Fa,Fb,rfl,ra,rb,sa,sb,dd⟩:=r;have wa:=az.width a ra;have hba:yG h base ca Fa:=by intro b' o e;obtain⟨h1,cs,h2,h3,h4⟩:=hb b' o e;exact⟨fun hz=>h1 (sa _ hz),cs,h2,by simp at h3;omega,(Nk h4).1⟩
   obtain⟨base',c',F',Fr,z⟩:=zip p a m.fst x.1 ca Fa base d ra hf hr hba;refine⟨base',c',F',Un Fr Fb,?_,z.rep,z.ok,z.sub.trans sa,?_,?_,?_,?_,?_,?_,?_⟩
   .simp only[cm];rw[<-wa,jm rfl];exact z.at_
   .rintro y (hy | hy)
    .exact sa y (z.fr y hy)
    .exact sb y hy
   .rintro y hy (hz | hz)
    .exact z.dY y hy hz
    .exact dd y (z.sub y hy) hz
   .intro b' o e;exact(z.home b' o e).imp .inl id
   .intro e;obtain⟨b',o,e1,e2⟩:=z.idx (by simpa [qx] using e);exact⟨b',o,e1,.inl e2⟩
   .intro e;obtain⟨e1,e2,e3⟩:=z.plain (by simpa [qx] using e);refine⟨by simpa [eA] using e1,?_,by simp[eA];omega⟩;rw[e2];simp only[eA];rw[Bz (by omega),og (by simp;omega)]
   .intro h2 gf m2 y c2 F2 m' x' hp hpk hk hu r2 hd hput;simp only[put]at hput;cases hq:put a m.fst x.1 p d.ty m2 y with
    | none=>simp[hq]at hput
    | some q=>
     simp only[hq,dw,aK,aZ]at hput;obtain⟨rfl,rfl⟩:=hput;obtain⟨F3,D3,s3,sd,d3,r3⟩:=z.vz h2 gf m2 y c2 F2 q.1 q.2 hp hpk (fun b' hb' hn=>hk b' (.inl hb') hn) hu r2 (hd.mono (Sub.refl _) fun b hb=>.inl hb) hq;refine⟨Un F3 Fb,D3,?_,?_,?_,?_⟩
     .rintro b' (hz | hz)
      .rcases s3 b' hz with hz | hz
       .exact .inl (.inl hz)
       .exact .inr hz
      .exact .inl (.inr hz)
     .intro b' hz;rcases sd b' hz with hz | hz
      .exact .inl (.inl hz)
      .exact .inr hz
     .rintro b' (hz | hz) hy
      .exact d3 b' hz hy
      .rcases sd b' hy with hy | hy
       .exact dd b' (z.fr b' hy) hz
       .exact hd b' hy (.inr hz)
     .have WG:∀b',Fb b'->h2[b']? = h[b']?:=by
       intro b' hb';refine hk b' (.inr hb') fun o e=>?_;rcases z.home b' o e with h1 | ⟨o0,h1⟩
       .exact dd b' (z.fr b' h1) hb'
       .exact(hb b' o0 h1).1 (sb b' hb')
      have rb':=az.mono (fN:=Un gf D3) (fun b' hz=>.inl (hp b' hz)) hpk b rb (Sub.refl _) WG;have g8:c2.length=d.ty.width:=az.width d.ty r2;simp only[az];refine⟨if qx p then ca else bP ca (eA a p) c2,cb,F3,Fb,?_,r3,rb',fun _ h=>.inl h,fun _ h=>.inr h,?_⟩
      .simp only[qx];by_cases hi:qx p=true
       .simp[hi]
       .have hi':qx p=false:=by simpa using hi
        have:=(z.plain hi').2.2;simp only[hi',e8,dV,eA];rw[ZF (by omega)]
      .intro b' hz hy;rcases s3 b' hz with hz | hz
       .exact dd b' (z.fr b' hz) hy
       .exact hd b' hz (.inr hy)
   .intro lo hi h2 m2 y c2 m' x' hk hu hc hput tB hbase;simp only[put]at hput;cases hq:put a m.fst x.1 p d.ty m2 y with
    | none=>rw[hq]at hput;simp at hput
    | some rr=>
     rw[hq]at hput;simp only[dw,aK,aZ]at hput;obtain⟨rfl,rfl⟩:=hput;obtain⟨uk,ia⟩:=z.paths lo hi h2 m2 y c2 rr.1 rr.2 (fun b' hb' hn=>hk b' (.inl hb') hn) hu hc hq tB hbase;have hnew:(if qx (.fst::p) then ca++cb else bP (ca++cb) (eA (.pair a b) (.fst::p)) c2)=(if qx p then ca else bP ca (eA a p) c2)++cb:=by
      simp only[qx,eA];by_cases hi':qx p=true
      .simp[hi']
      .have m8:qx p=false:=by simpa using hi'
       have:=(z.plain m8).2.2;simp only[m8,e8,dV];rw[ZF (by omega)]
     have hlen:(if qx p then ca else bP ca (eA a p) c2).length=a.width:=by
      by_cases hi':qx p=true
      .simp[hi',wa]
      .have m8:qx p=false:=by simpa using hi'
       have:=(z.plain m8).2.2;simp only[m8,e8,dV];rw[C_ (by omega),wa]
     refine⟨⟨uk,Mk.fM _ _ _⟩,?_⟩;rw[hnew];intro p' t1 n1 hp m7 hin;cases p' with
     | nil=>refine⟨trivial,fun bp cp hap=>?_⟩;simp only[cm,aK,aZ]at hap⊢;simp only[q8,aK,aZ]at m7;refine⟨_,⟨hap.1,rfl⟩,fun s a' e _=>?_⟩;rw[<-m7.2]at e;simp at e
     | cons p0 p'=>
      cases p0 with
      | fst=>simp only[q8]at m7;simp only[bt]at hin⊢;obtain⟨h1,h3⟩:=ia p' t1 n1 (by simpa [jD] using hp) m7 hin;refine⟨h1,fun bp cp hap=>?_⟩;simp only[cm]at hap⊢;rw[<-wa,jm rfl]at hap;rw[<-hlen,jm rfl];exact h3 bp cp hap
      | snd=>
       simp only[q8]at m7;simp only[bt]at hin⊢;refine⟨hin,fun bp cp hap=>?_⟩;simp only[cm]at hap⊢;rw[<-wa,iZ rfl]at hap;rw[<-hlen,iZ rfl,hlen];obtain⟨y',hy'⟩:=zu p' x.2 m7;have wJ:=IB (h':=h2) p' (base.map fun z=>(z.1,z.2+a.width)) rb hy' hin (fun b' hb'=>by
        refine hk b' (.inr hb') fun o e=>?_;rcases z.home b' o e with h1 | ⟨o0,h1⟩
        .exact dd b' (z.fr b' h1) hb'
        .exact(hb b' o0 h1).1 (sb b' hb'))
       rw[wJ];rw[wa]at hap;exact⟨cp,hap,fun _ _ _ _=>rfl⟩
      | idx i s=>simp[q8]at m7
  | _=>simp[focus]at hf
 | .snd::p,t,m,x,c,F,base,d,r,hf,hr,hb=>by
  cases t with
  | pair a b=>
   simp only[focus]at hf;simp only[bt]at hr;simp only[az]at r;obtain⟨ca,cb,Fa,Fb,rfl,ra,rb,sa,sb,dd⟩:=r;have wa:=az.width a ra;have hbb:yG h (base.map fun z=>(z.1,z.2+a.width)) cb Fb:=by intro b' o e;simp only[fk]at e;obtain⟨⟨b0,o0⟩,e,e'⟩:=e;simp only[aZ]at e';obtain⟨rfl,rfl⟩:=e';obtain⟨h1,cs,h2,h3,h4⟩:=hb b0 o0 e;exact⟨fun hz=>h1 (sb _ hz),cs,h2,by simp at h3;omega,by rw[<-wa];exact(Nk h4).2⟩
   obtain⟨base',c',F',Fr,z⟩:=zip p b m.snd x.2 cb Fb _ d rb hf hr hbb;refine⟨base',c',F',Un Fr Fa,?_,z.rep,z.ok,z.sub.trans sb,?_,?_,?_,?_,?_,?_,?_⟩
   .simp only[cm];rw[<-wa,iZ rfl,wa];exact z.at_
   .rintro y (hy | hy)
    .exact sb y (z.fr y hy)
    .exact sa y hy
   .rintro y hy (hz | hz)
    .exact z.dY y hy hz
    .exact dd y hz (z.sub y hy)
   .intro b' o e;rcases z.home b' o e with h1 | ⟨o0,h1⟩
    .exact .inl (.inl h1)
    .simp only[fk]at h1;obtain⟨⟨b0,o1⟩,h1,h2⟩:=h1;simp only[aZ]at h2;exact .inr ⟨o1,by rw[h1,<-h2.1]⟩
   .intro e;obtain⟨b',o,e1,e2⟩:=z.idx (by simpa [qx] using e);exact⟨b',o,e1,.inl e2⟩
   .intro e;obtain⟨e1,e2,e3⟩:=z.plain (by simpa [qx] using e);refine⟨?_,?_,by simp[eA];omega⟩
    .rw[e1];cases base<;>simp[eA,FG]
    .rw[e2];simp only[eA];rw[show List.drop (a.width+eA b p) (ca++cb)=List.drop (eA b p) cb from by rw[<-qU,<-wa,iZ rfl]]
   .intro h2 gf m2 y c2 F2 m' x' hp hpk hk hu r2 hd hput;simp only[put]at hput;cases hq:put b m.snd x.2 p d.ty m2 y with
    | none=>simp[hq]at hput
    | some q=>
     simp only[hq,dw,aK,aZ]at hput;obtain⟨rfl,rfl⟩:=hput;obtain⟨F3,D3,s3,sd,d3,r3⟩:=z.vz h2 gf m2 y c2 F2 q.1 q.2 hp hpk (fun b' hb' hn=>hk b' (.inl hb') hn) hu r2 (hd.mono (Sub.refl _) fun b hb=>.inl hb) hq;refine⟨Un F3 Fa,D3,?_,?_,?_,?_⟩
     .rintro b' (hz | hz)
      .rcases s3 b' hz with hz | hz
       .exact .inl (.inl hz)
       .exact .inr hz
      .exact .inl (.inr hz)
     .intro b' hz;rcases sd b' hz with hz | hz
      .exact .inl (.inl hz)
      .exact .inr hz
     .rintro b' (hz | hz) hy
      .exact d3 b' hz hy
      .rcases sd b' hy with hy | hy
       .exact dd b' hz (z.fr b' hy)
       .exact hd b' hy (.inr hz)
     .have WE:∀b',Fa b'->h2[b']? = h[b']?:=by
       intro b' hb';refine hk b' (.inr hb') fun o e=>?_;rcases z.home b' o e with h1 | ⟨o0,h1⟩
       .exact dd b' hb' (z.fr b' h1)
       .simp only[fk]at h1;obtain⟨⟨b0,o1⟩,h1,h2⟩:=h1;simp only[aZ]at h2;obtain⟨rfl,_⟩:=h2;exact(hb b0 o1 h1).1 (sa b0 hb')
      have ra':=az.mono (fN:=Un gf D3) (fun b' hz=>.inl (hp b' hz)) hpk a ra (Sub.refl _) WE;have g8:c2.length=d.ty.width:=az.width d.ty r2;simp only[az];refine⟨ca,if qx p then cb else bP cb (eA b p) c2,Fa,F3,?_,ra',r3,fun _ h=>.inr h,fun _ h=>.inl h,?_⟩
      .simp only[qx];by_cases hi:qx p=true
       .simp[hi]
       .have hi':qx p=false:=by simpa using hi
        simp only[hi',e8,dV,eA];rw[<-wa,YU]
      .intro b' hy hz;rcases s3 b' hz with hz | hz
       .exact dd b' hy (z.fr b' hz)
       .exact hd b' hz (.inr hy)
   .intro lo hi h2 m2 y c2 m' x' hk hu hc hput tB hbase;simp only[put]at hput;cases hq:put b m.snd x.2 p d.ty m2 y with
    | none=>rw[hq]at hput;simp at hput
    | some rr=>
     rw[hq]at hput;simp only[dw,aK,aZ]at hput;obtain⟨rfl,rfl⟩:=hput;obtain⟨uk,ia⟩:=z.paths lo hi h2 m2 y c2 rr.1 rr.2 (fun b' hb' hn=>hk b' (.inl hb') hn) hu hc hq tB hbase;have hnew:(if qx (.snd::p) then ca++cb else bP (ca++cb) (eA (.pair a b) (.snd::p)) c2)=ca++(if qx p then cb else bP cb (eA b p) c2):=by
      simp only[qx,eA];by_cases hi':qx p=true
      .simp[hi']
      .have m8:qx p=false:=by simpa using hi'
       simp only[m8,e8,dV];rw[<-wa,YU]
     refine⟨⟨Mk.fM _ _ _,uk⟩,?_⟩;rw[hnew];intro p' t1 n1 hp m7 hin;cases p' with
     | nil=>refine⟨trivial,fun bp cp hap=>?_⟩;simp only[cm,aK,aZ]at hap⊢;simp only[q8,aK,aZ]at m7;refine⟨_,⟨hap.1,rfl⟩,fun s a' e _=>?_⟩;rw[<-m7.2]at e;simp at e
     | cons p0 p'=>
      cases p0 with
      | snd=>simp only[q8]at m7;simp only[bt]at hin⊢;obtain⟨h1,h3⟩:=ia p' t1 n1 (by simpa [jD] using hp) m7 hin;refine⟨h1,fun bp cp hap=>?_⟩;simp only[cm]at hap⊢;rw[<-wa,iZ rfl,wa]at hap;rw[<-wa,iZ rfl,wa];exact h3 bp cp hap
      | fst=>
       simp only[q8]at m7;simp only[bt]at hin⊢;refine⟨hin,fun bp cp hap=>?_⟩;simp only[cm]at hap⊢;rw[<-wa,jm rfl]at hap;rw[<-wa,jm rfl];obtain⟨y',hy'⟩:=zu p' x.1 m7;have wJ:=IB (h':=h2) p' base ra hy' hin (fun b' hb'=>by
        refine hk b' (.inr hb') fun o e=>?_;rcases z.home b' o e with h1 | ⟨o0,h1⟩
        .exact dd b' hb' (z.fr b' h1)
        .simp only[fk]at h1;obtain⟨⟨b0,o1⟩,h1,h2⟩:=h1;simp only[aZ]at h2;obtain⟨rfl,_⟩:=h2;exact(hb b0 o1 h1).1 (sa b0 hb'))
       rw[wJ];exact⟨cp,hap,fun _ _ _ _=>rfl⟩
      | idx i s=>simp[q8]at m7
  | _=>simp[focus]at hf
 | .idx i s'::p,t,m,xs,c,F,base,d,r,hf,hr,hb=>by
  cases t with
  | sl e=>
   cases m with
   | own s mi=>
    simp only[focus]at hf;by_cases hs:s=s'
    .simp only[hs,aY]at hf;simp only[bt]at hr;obtain⟨hi,hr⟩:=hr;simp only[az]at r;obtain⟨a,cap,rfl,hl,r⟩:=r;rcases r with r | ⟨b1,cs,rfl,fb,bN,hsz,Fs,hF,lC,re⟩
     .omega
     have ri:=re i hi;have wi:=az.width e ri;have hle:i * e.width+e.width<=cs.size:=by have:=fl e.width (show i+1<=cap by omega);rw[jA,yd]at this;omega
     have Uf:yG h (some (b1,i * e.width)) (sub cs (i * e.width) e.width) (Fs i):=by intro b' o e';simp only[aK,aZ]at e';obtain⟨rfl,rfl⟩:=e';refine⟨(hF i).2,cs,bN,by rw[wi];exact hle,?_⟩;rw[wi]
     obtain⟨base',c',F',Fr,z⟩:=zip p e mi (xs.getD i e.zero) _ (Fs i) (some (b1,i * e.width)) d ri hf hr Uf;refine⟨base',c',F',fun b=>b=b1\/Fr b\/∃j,j≠i/\Fs j b,?_,z.rep,z.ok,z.sub.trans (hF i).1,?_,?_,?_,?_,by simp[qx],?_,?_⟩
     .simp only[cm];obtain⟨ty,lo,hi',he,_⟩:=bN;simp only[he];exact z.at_
     .rintro b' (rfl | hz | ⟨j,_,hz⟩)
      .exact fb
      .exact(hF i).1 b' (z.fr b' hz)
      .exact(hF j).1 b' hz
     .rintro b' hy (rfl | hz | ⟨j,hj,hz⟩)
      .exact(hF i).2 (z.sub _ hy)
      .exact z.dY b' hy hz
      .exact lC j i hj b' hz (z.sub b' hy)
     .intro b' o e';rcases z.home b' o e' with h1 | ⟨o0,h1⟩
      .exact .inl (.inr (.inl h1))
      .simp only[aK,aZ]at h1;exact .inl (.inl h1.1.symm)
     .intro _;by_cases hp:qx p=true
      .obtain⟨b',o,e1,e2⟩:=z.idx hp;exact⟨b',o,e1,.inr (.inl e2)⟩
      .have Ur:qx p=false:=by simpa using hp
       have:=(z.plain Ur).1;simp only[d7]at this;exact⟨b1,_,this,.inl rfl⟩
     .intro h2 gf m2 y c2 F2 m' x' hp hpk hk hu r2 hd hput;simp only[put,hs,aY]at hput;cases hq:put e mi (xs.getD i e.zero) p d.ty m2 y with
      | none=>rw[hq]at hput;simp at hput
      | some q=>
       rw[hq]at hput;simp only[dw,aK,aZ]at hput;obtain⟨rfl,rfl⟩:=hput;obtain⟨F3,D3,s3,sd,d3,r3⟩:=z.vz h2 gf m2 y c2 F2 q.1 q.2 hp hpk (fun b' hb' hn=>hk b' (.inr (.inl hb')) hn) hu r2
        (hd.mono (Sub.refl _) fun b hb=>.inr (.inl hb)) hq
       have g8:c2.length=d.ty.width:=az.width d.ty r2
       -- yP block behind it
       have se:∃gz:Array Value,ju h2 b1 gz/\gz.size=cs.size/\
         sub gz (i * e.width) e.width=(if qx p then sub cs (i * e.width) e.width else bP (sub cs (i * e.width) e.width) (eA e p) c2)/\
         ∀j,j≠i->sub gz (j * e.width) e.width=sub cs (j * e.width) e.width:=by
        by_cases hi':qx p=true
        .obtain⟨b',o,e1,e2⟩:=z.idx hi';refine⟨cs,bN.congr (hk b1 (.inl rfl) fun o' e'=>?_),rfl,by simp[hi'],fun _ _=>rfl⟩;rw[e1]at e';simp only[aK,aZ]at e';obtain⟨rfl,_⟩:=e';exact(hF i).2 (z.fr _ e2)
        .have m8:qx p=false:=by simpa using hi'
         obtain⟨e1,e2,e3⟩:=z.plain m8;rw[wi]at e3;simp only[d7]at e1;obtain⟨gz,nY,ht⟩:=hu b1 _ e1 cs bN;have hfit:i * e.width+eA e p+c2.length<=cs.toList.length:=by simp;omega
         refine⟨gz,nY,?_,?_,fun j hj=>?_⟩
         .have:=ew List.length ht;rw[C_ hfit]at this;simpa using this
         .simp only[m8,e8,dV];simp only[sub];rw[ht];apply rL;intro k;simp only[bP,gj,iE];by_cases hk':k<e.width
          .simp only[hk',aY];by_cases Uk:k<eA e p
           .rw[eG,ko (by simp;omega),eG,ko (by simp;omega)];simp only[gj,iE];rw[aj (by omega),aj (by omega),aj (by omega)]
           .by_cases hk2:k<eA e p+c2.length
            .rw[eG,lZ (by simp;omega),ko (by simp;omega),eG,
              lZ (by simp;omega),ko (by simp;omega)]
             congr 1;simp;omega
            .rw[lZ (by simp;omega),lZ (by simp;omega)];simp only[iE,gj];simp only[cI,e9,x9];rw[aj (by omega)];have e5:cs.toList.length=cs.size:=by simp
             congr 1;omega
          .simp only[hk',dV];rw[pF (by simp;omega)]
         .simp only[sub];rw[ht];apply Gi hfit;rcases Nat.lt_or_gt_of_ne hj with h1 | h1
          .left;have:=fl e.width (show j+1<=i by omega);rw[jA,yd]at this;omega
          .right;have:=fl e.width (show i+1<=j by omega);rw[jA,yd]at this;omega
       obtain⟨gz,nY,sn,hsi,hsj⟩:=se;have hmb:=Mk.fm mi q.1
       -- yP others
       have W6:∀j,j≠i->∀b',Fs j b'->h2[b']? = h[b']?:=by
        intro j hj b' hb';refine hk b' (.inr (.inr ⟨j,hj,hb'⟩)) fun o e'=>?_;rcases z.home b' o e' with h1 | ⟨o0,h1⟩
        .exact lC j i hj b' hb' (z.fr b' h1)
        .simp only[aK,aZ]at h1;obtain⟨rfl,_⟩:=h1;exact(hF j).2 hb'
       have key:∀j,∃G1 G2:BS,Sub G1 (if j=i then F3 else Fs j)/\Sub G2 (if j=i then F3 else Fs j)/\cv G1 G2/\
         (j<xs.length->az h2 (Un (Un gf D3) G2) e (mi.meet q.1) ((xs.set i q.2).getD j e.zero) (sub gz (j * e.width) e.width) G1):=by
        intro j;by_cases hj:j=i
        .subst hj;obtain⟨G1,G2,s1,s2,dd,rr⟩:=az.aQ e hmb.2 r3;refine⟨G1,G2,by simpa using s1,by simpa using s2,dd,fun _=>?_⟩;rw[hsi];have:(xs.set j q.2).getD j e.zero=q.2:=by simp[List.getD,jU,hi]
         rw[this];exact rr
        .by_cases hjl:j<xs.length
         .have rj:=az.mono (fN:=Un gf D3) (fun b' hz=>.inl (hp b' hz)) hpk e (re j hjl) (Sub.refl _) (W6 j hj);obtain⟨G1,G2,s1,s2,dd,rr⟩:=az.aQ e hmb.1 rj;refine⟨G1,G2,by simpa [hj] using s1,by simpa [hj] using s2,dd,fun _=>?_⟩;rw[hsj j hj];have:(xs.set i q.2).getD j e.zero=xs.getD j e.zero:=by simp[List.getD,jU,Ne.symm hj]
          rw[this];exact rr
         .exact⟨Nil,Nil,Sub.nil _,Sub.nil _,cv.nil _,fun h=>absurd h hjl⟩
       obtain⟨G1,key⟩:=sX key;obtain⟨G2,key⟩:=sX key;have hG:∀j b',(if j=i then F3 else Fs j) b'->(j=i/\(Fr b'\/F2 b'))\/(j≠i/\Fs j b'):=by
        intro j b' hb';by_cases hj:j=i
        .simp only[hj,aY]at hb';exact .inl ⟨hj,s3 b' hb'⟩
        .simp only[hj,dV]at hb';exact .inr ⟨hj,hb'⟩
       have Cv:∀j k b',j≠k->(if j=i then F3 else Fs j) b'->(if k=i then F3 else Fs k) b'->False:=by
        intro j k b' oC h1 tc;rcases hG j b' h1 with⟨e1,h1⟩ | ⟨e1,h1⟩<;>rcases hG k b' tc with⟨e2,h3⟩ | ⟨e2,h3⟩
        .exact oC (e1.trans e2.symm)
        .rcases h1 with h1 | h1
         .exact lC k i e2 b' h3 (z.fr b' h1)
         .exact hd b' h1 (.inr (.inr ⟨k,e2,h3⟩))
        .rcases h3 with h3 | h3
         .exact lC j i e1 b' h1 (z.fr b' h3)
         .exact hd b' h3 (.inr (.inr ⟨j,e1,h1⟩))
        .exact lC j k oC b' h1 h3
       have KA:∀j,¬ (if j=i then F3 else Fs j) b1:=by
        intro j h1;rcases hG j b1 h1 with⟨e1,h1 | h1⟩ | ⟨e1,h1⟩
        .exact(hF i).2 (z.fr b1 h1)
        .exact hd b1 h1 (.inl rfl)
        .exact(hF j).2 h1
       refine⟨fun b=>b=b1\/∃j,G1 j b,fun b=>D3 b\/∃j,G2 j b,?_,?_,?_,?_⟩
       .rintro b' (rfl | ⟨j,hj⟩)
        .exact .inl (.inl rfl)
        .rcases hG j b' ((key j).1 b' hj) with⟨_,h1 | h1⟩ | ⟨e1,h1⟩
         .exact .inl (.inr (.inl h1))
         .exact .inr h1
         .exact .inl (.inr (.inr ⟨j,e1,h1⟩))
       .rintro b' (hz | ⟨j,hj⟩)
        .rcases sd b' hz with h1 | h1
         .exact .inl (.inr (.inl h1))
         .exact .inr h1
        .rcases hG j b' ((key j).2.1 b' hj) with⟨_,h1 | h1⟩ | ⟨e1,h1⟩
         .exact .inl (.inr (.inl h1))
         .exact .inr h1
         .exact .inl (.inr (.inr ⟨j,e1,h1⟩))
       .rintro b' (rfl | ⟨j,hj⟩) (hz | ⟨k,hk'⟩)
        .rcases sd _ hz with h1 | h1
         .exact(hF i).2 (z.fr _ h1)
         .exact hd _ h1 (.inl rfl)
        .exact KA k ((key k).2.1 _ hk')
        .have h1:=(key j).1 b' hj;by_cases e1:j=i
         .simp only[e1,aY]at h1;exact d3 b' h1 hz
         .simp only[e1,dV]at h1;rcases sd b' hz with tc | tc
          .exact lC j i e1 b' h1 (z.fr b' tc)
          .exact hd b' tc (.inr (.inr ⟨j,e1,h1⟩))
        .by_cases e1:j=k
         .subst e1;exact(key j).2.2.1 b' hj hk'
         .exact Cv j k b' e1 ((key j).1 b' hj) ((key k).2.1 b' hk')
       .simp only[qx,aY,az];refine⟨_,cap,by simp,by simpa using hl,.inr ⟨b1,gz,rfl,.inl rfl,nY,by omega,G1,fun j=>⟨fun b' hb'=>.inr ⟨j,hb'⟩,fun h1=>KA j ((key j).1 b1 h1)⟩,
         fun j k oC b' h1 tc=>Cv j k b' oC ((key j).1 b' h1) ((key k).1 b' tc),fun j hj=>?_⟩⟩
        have hj':j<xs.length:=by simpa using hj
        refine az.mono (fun b' hb'=>?_) (fun _ _=>rfl) e ((key j).2.2.2 hj') (Sub.refl _) (fun _ _=>rfl);rcases hb' with(hb' | hb') | hb'
        .exact .inl hb'
        .exact .inr (.inl hb')
        .exact .inr (.inr ⟨j,hb'⟩)
     .intro lo hi h2 m2 y c2 m' x' hk hu hc hput tB hbase;subst hs;simp only[put,aY]at hput;cases hq:put e mi (xs.getD i e.zero) p d.ty m2 y with
      | none=>rw[hq]at hput;simp at hput
      | some rr=>
       rw[hq]at hput;simp only[dw,aK,aZ]at hput;obtain⟨rfl,rfl⟩:=hput;obtain⟨uk,ia⟩:=z.paths lo hi h2 m2 y c2 rr.1 rr.2 (fun b' hb' hn=>hk b' (.inr (.inl hb')) hn) hu hc hq tB hbase;simp only[qx,aY];have se:∃gz:Array Value,sY h2 b1 gz/\
         sub gz (i * e.width) e.width=(if qx p then sub cs (i * e.width) e.width else bP (sub cs (i * e.width) e.width) (eA e p) c2)/\
         ∀j,j≠i->sub gz (j * e.width) e.width=sub cs (j * e.width) e.width:=by
        by_cases hi2:qx p=true
        .obtain⟨b',o,e1,e2⟩:=z.idx hi2;refine⟨cs,bN.Cq.congr (hk b1 (.inl rfl) fun o' e'=>?_),by simp[hi2],fun _ _=>rfl⟩;rw[e1]at e';simp only[aK,aZ]at e';obtain⟨rfl,_⟩:=e';exact(hF i).2 (z.fr _ e2)
        .have hi3:qx p=false:=by simpa using hi2
         obtain⟨e1,e2,e3⟩:=z.plain hi3;rw[wi]at e3;simp only[d7]at e1;obtain⟨gz,nY,ht⟩:=hu b1 _ e1 cs bN;have I5:=abk (n:=0) ht (by simpa using hle) (by omega);exact⟨gz,nY.Cq,by simp only[hi3,e8,dV,sub];exact I5.1,fun j hj=>by simp only[sub];exact I5.2 j hj⟩
       obtain⟨gz,⟨ty2,Ua,nY⟩,hsi,hsj⟩:=se;refine⟨.inr ⟨mi,rfl,Mk.gO uk⟩,?_⟩;intro p' t1 n1 hp m7 hin;cases p' with
       | nil=>refine⟨trivial,fun bp cp hap=>?_⟩;simp only[cm,aK,aZ]at hap⊢;exact⟨_,⟨hap.1,rfl⟩,fun _ _ _ _=>hap.2⟩
       | cons p0 p'=>
        cases p0 with
        | fst=>simp[q8]at m7
        | snd=>simp[q8]at m7
        | idx j s1=>
         simp only[q8]at m7;split at m7
         .rename_i tr;subst tr;simp only[jD,bH]at hp;simp only[bt]at hin⊢;obtain⟨hj,hin⟩:=hin;have ef:∀(bp:fH)(cp:List Value),cm h (.sl e) [.slice (some ⟨b1,0,none⟩) xs.length cap] base (.idx j s::p')=some (bp,cp)->
            cm h e (sub cs (j * e.width) e.width) (some (b1,j * e.width)) p'=some (bp,cp):=by
           intro bp cp hap;simp only[cm]at hap;obtain⟨ty,lo',m8,he,_⟩:=bN;simp only[he]at hap;exact hap
          have Kz:∀(bp:fH)(cp:List Value),cm h2 e (sub gz (j * e.width) e.width) (some (b1,j * e.width)) p'=some (bp,cp)->
            cm h2 (.sl e) [.slice (some ⟨b1,0,none⟩) xs.length cap] base (.idx j s::p')=some (bp,cp):=by
           intro bp cp hap;simp only[cm,nY];exact hap
          by_cases hji:j=i
          .subst hji;have hx':(xs.set j rr.2).getD j e.zero=rr.2:=by simp[List.getD,jU,hj]
           have Xq:rr.1.nE 0 0 (mi.meet rr.1):=Mk.gO (Mk.fM 0 0 rr.1);obtain⟨n2,ud,hn2⟩:=BY p' Xq (BX p') m7;obtain⟨h1,h3⟩:=ia p' t1 n2 hp.2 ud hin;refine⟨⟨by simpa using hj,by rw[hx'];exact h1⟩,fun bp cp hap=>?_⟩;obtain⟨iP,h4,h5⟩:=h3 bp cp (ef bp cp hap);rw[<-hsi]at h4;refine⟨iP,Kz _ _ h4,fun s2 a2 e2 lN=>?_⟩;subst e2;rcases hn2 with hn2 | ⟨a3,rfl,_⟩
           .omega
           .exact h5 s2 a3 rfl lN
          .have hx':(xs.set i rr.2).getD j e.zero=xs.getD j e.zero:=by simp[List.getD,jU,Ne.symm hji]
           refine⟨⟨by simpa using hj,by rw[hx'];exact hin⟩,fun bp cp hap=>?_⟩;obtain⟨n2,ud,hn2⟩:=BY p' (Mk.gO (a:=mi) uk) hp.2 m7;obtain⟨y',hy'⟩:=zu p' (xs.getD j e.zero) ud;have wJ:=IB (h':=h2) p' (some (b1,j * e.width)) (re j hj) hy' hin (fun b' hb'=>by
            refine hk b' (.inr (.inr ⟨j,hji,hb'⟩)) fun o e'=>?_;rcases z.home b' o e' with h1 | ⟨o0,h1⟩
            .exact lC j i hji b' hb' (z.fr b' h1)
            .simp only[aK,aZ]at h1;obtain⟨rfl,_⟩:=h1;exact(hF j).2 hb')
           refine⟨cp,Kz _ _ ?_,fun _ _ _ _=>rfl⟩;rw[hsj j hji,wJ];exact ef bp cp hap
         .simp at m7
    .simp[hs]at hf
   | _=>simp[focus]at hf
  | _=>simp[focus]at hf
end
theorem AV.d8{h h':Array Obj}{S S':St}{g g':aA}(hA:∀r p,tL h h' S S' g g' r p)(hB:∀r p s,qZ h h' S S' g g' r p s) :
  ∀a:AV,a.dh h h' S S' g g':=by
 intro a
 induction a with
 | b7 r p s=>exact hB r p s
 | view r p s lo hi=>exact hB r p s
 | addr r p=>exact hA r p
 | pair a b fQ kR=>exact⟨fQ,kR⟩
 | jF a fQ=>exact fQ
 | gE f a fQ=>exact fQ
 | _=>trivial
theorem AV.xl{lo hi:Nat}{h h':Array Obj}{S S':St}{g g':aA}(hA:∀r p,jD lo hi p=true->tL h h' S S' g g' r p)
  (hB:∀r p s,jD lo hi p=true->¬ (lo<=s/\s<hi)->qZ h h' S S' g g' r p s):∀a:AV,a.aR lo hi=true->a.dh h h' S S' g g':=by
 have hs:∀s,(!(Nat.ble lo s&&Nat.blt s hi))=true->¬ (lo<=s/\s<hi):=by intro s h1 h2;have e1:Nat.ble lo s=true:=rH h2.1;have e2:Nat.blt s hi=true:=rH h2.2;simp[e1,e2]at h1
 intro a
 induction a with
 | b7 r p s=>intro h1;simp only[AV.aR,bH]at h1;exact hB r p s h1.2 (hs s h1.1)
 | view r p s lo hi=>intro h1;simp only[AV.aR,bH]at h1;exact hB r p s h1.2 (hs s h1.1)
 | addr r p=>intro h1;exact hA r p h1
 | pair a b fQ kR=>intro h1;simp only[AV.aR,bH]at h1;exact⟨fQ h1.1,kR h1.2⟩
 | jF a fQ=>intro h1;exact fQ h1
 | gE f a fQ=>intro h1;exact fQ h1
 | _=>intro _;trivial
theorem nN{h h':Array Obj}{S S':St}{g g':aA}{tmps:Array Value}{H:BS}(st:aD h S g tmps H){r:Nat}
  (hr:S'.root r=S.root r\/S'.root r=none) (hC:g'.C r=g.C r) (hB:g'.B r=g.B r) (hk:(S.root r).isSome->∀b,g.G r b->h'[b]? = h[b]?) :
  (∀p,tL h h' S S' g g' r p)/\∀p s,qZ h h' S S' g g' r p s:=by
 have key:∀p R' d',S'.root r=some R'->focus R'.ty R'.ms R'.x p=some d'->S.root r=some R'/\(bt R'.ty R'.x p->
   ∀base c,cm h R'.ty (g.C r) (g.base r) p=some (base,c)->cm h' R'.ty (g'.C r) (g'.base r) p=some (base,c)):=by
  intro p R' d' cg hf;have hR:S.root r=some R':=by
   rcases hr with e | e
   .rw[<-e];exact cg
   .rw[e]at cg;simp at cg
  refine⟨hR,fun hin base c ha=>?_⟩;obtain⟨F,rep,hF,_⟩:=st.roots r R' hR;have hb:g'.base r=g.base r:=by simp only[aA.base,hB]
  rw[hC,hb,IB p _ rep hf hin fun b hb=>hk (by rw[hR];rfl) b (hF b hb)];exact ha
 constructor
 .intro p R' cg d' hf;obtain⟨h1,h2⟩:=key p R' d' cg hf;exact⟨R',d',h1,hf,fun hin=>⟨hin,fun base c ha=>⟨c,h2 hin base c ha⟩⟩⟩
 .intro p s R' cg t m xs hf;obtain⟨h1,h2⟩:=key p R' _ cg hf;exact⟨R',m,xs,h1,hf,fun hin=>⟨hin,fun base c ha=>h2 hin base c ha⟩⟩
theorem St.gr(S:St)(t:Nat)(v:AV)(u:Nat):(S.set t v).get u=if u=t/\t<S.sl.length then v else S.get u:=by
 simp only[St.get_eq,St.gi,List.getD,jU];by_cases e:t=u
 .subst e;by_cases hl:t<S.sl.length
  .simp[hl]
  .simp[hl]
 .have:¬ u=t:=fun h=>e h.symm;simp[e,this]
theorem St.ny(S:St)(t:Nat)(v:AV)(r:Nat):(S.set t v).root r=S.root r:=rfl
theorem St.bY(S:St)(d:Nat)(x:Option aB)(r:Nat):(S.aG d x).root r=if r=d/\d<S.rt.length then x else S.root r:=by
 simp only[aP.ig,St.aG,aP.bS,List.getD,jU];by_cases e:d=r
 .subst e;by_cases hl:d<S.rt.length
  .simp[hl]
  .simp[hl]
 .have:¬ r=d:=fun h=>e h.symm;simp[e,this]
theorem St.h_(S:St)(d:Nat)(x:Option aB)(t:Nat):(S.aG d x).get t=S.get t:=rfl
theorem St.pe{S:St}{r:Nat}{R:aB}(h:S.root r=some R):r<S.rt.length:=by
 simp only[aP.ig,List.getD]at h;rcases BQ r S.rt.length with h1 | h1
 .exact h1
 .rw[pF h1]at h;simp at h
theorem qe.gD{h:Array Obj}{S S':St}{g:aA}{tmps:Array Value}{H:BS}(st:aD h S g tmps H)(e:S'.rt=S.rt){a:AV}{v:Value}
  (x:qe h S g a v):qe h S' g a v:=by
 have hr:∀r,S'.root r=S.root r:=fun r=>by simp only[St.root,e]
 refine(qe.keep (Sub.refl _) (fun _ _=>rfl) a).1 v x (AV.d8 (fun r p=>?_) (fun r p s=>?_) a)
 .exact(nN st (.inl (hr r)) rfl rfl (fun _ _ _=>rfl)).1 p
 .exact(nN st (.inl (hr r)) rfl rfl (fun _ _ _=>rfl)).2 p s
theorem aD.tQ{h:Array Obj}{S:St}{g:aA}{tmps:Array Value}{H:BS}(st:aD h S g tmps H)(t:Nat){a:AV}{v:Value}(x:qe h S g a v) :
  aD h (S.set t a) g (tmps.setIfInBounds t v) H where
 len:=by simp[St.gi,st.len]
 gw:=by simp[St.gi,st.gw]
 slots:=by
  intro u;rw[St.gr];have hs:(S.set t a).rt=S.rt:=rfl;by_cases hu:u=t/\t<S.sl.length
  .obtain⟨rfl,hl⟩:=hu;rw[aj ⟨rfl,hl⟩];have:(tmps.setIfInBounds u v).getD u Go.undef=v:=by have:=st.len;simp[Array.getD,Array.getElem_setIfInBounds];omega
   rw[this];exact qe.gD st hs x
  .rw[af hu];have:(tmps.setIfInBounds t v).getD u Go.undef=tmps.getD u Go.undef:=by
    have hlen:=st.len;simp only[pE,Fo];by_cases e:t=u
    .subst e;have hl:¬ t<tmps.size:=fun hl=>hu ⟨rfl,by omega⟩;rw[aj rfl,af hl,H8 (by omega)]
    .rw[af e]
   rw[this];exact qe.gD st hs (st.slots u)
 roots:=fun r R hR=>st.roots r R hR
 dY:=fun r r' hn h1 h2=>st.dY r r' hn h1 h2
 ej:=fun r h1=>st.ej r h1
 hand:=fun r h1=>st.hand r h1
 bK:=st.bK
 bO:=st.bO
 b9:=fun r b h1 h2=>st.b9 r b h1 h2
 eg:=st.eg
 tag:=st.tag
 own:=st.own
 e7:=st.e7
 fV:=st.fV
 p0:=st.p0
 kY:=st.kY
theorem aD.forget{h:Array Obj}{S:St}{g:aA}{tmps:Array Value}{H:BS}(st:aD h S g tmps H)(t:Nat):aD h (S.set t .undef) g tmps H where
 len:=by simp[St.gi,st.len]
 gw:=by simp[St.gi,st.gw]
 slots:=by
  intro u;rw[St.gr];by_cases hu:u=t/\t<S.sl.length
  .rw[aj hu];simp only[qe]
  .rw[af hu];exact qe.gD (S':=S.set t .undef) st rfl (st.slots u)
 roots:=fun r R hR=>st.roots r R hR
 dY:=fun r r' hn h1 h2=>st.dY r r' hn h1 h2
 ej:=fun r h1=>st.ej r h1
 hand:=fun r h1=>st.hand r h1
 bK:=st.bK
 bO:=st.bO
 b9:=fun r b h1 h2=>st.b9 r b h1 h2
 eg:=st.eg
 tag:=st.tag
 own:=st.own
 e7:=st.e7
 fV:=st.fV
 p0:=st.p0
 kY:=st.kY
theorem Mk.fq{m:Mk}(h:m.ax=true):m.fst.ax=true:=by cases m<;>simp_all [Mk.ax,Mk.fst]
theorem Mk.fu{m:Mk}(h:m.ax=true):m.snd.ax=true:=by cases m<;>simp_all [Mk.ax,Mk.snd]
theorem Mk.gJ:∀m:Mk,m.fj.ax=true
 | .no=>rfl
 | .gone=>rfl
 | .own _ m=>by unfold Mk.fj;split<;>rfl
 | .pr a b=>by simp[Mk.fj,Mk.ax,Mk.gJ a,Mk.gJ b]
theorem Mk.gI:∀m:Mk,(m.meet .no).ax=true
 | .no=>by simp[Mk.meet,Mk.fj,Mk.ax]
 | .gone=>rfl
 | .own _ m=>by simp only[Mk.meet];split<;>rfl
 | .pr a b=>by simp[Mk.meet,Mk.ax,Mk.gI a,Mk.gI b]
theorem Mk.dS:∀{a b:Mk},b.ax=true->(a.meet b).ax=true
 | .no,b,_=>by simpa [Mk.meet] using Mk.gJ b
 | .gone,_,_=>rfl
 | .own _ a,b,h=>by
  cases b with
  | no=>simp only[Mk.meet];split<;>rfl
  | gone=>rfl
  | pr _ _=>rfl
  | own s b=>simp only[Mk.meet,Mk.ax,bH]at h⊢;exact⟨h.1,Mk.dS h.2⟩
 | .pr a1 a2,b,h=>by
  cases b with
  | no=>simp[Mk.meet,Mk.ax,Mk.gI]
  | gone=>rfl
  | own _ _=>rfl
  | pr c d=>simp only[Mk.meet,Mk.ax,bH]at h⊢;exact⟨Mk.dS h.1,Mk.dS h.2⟩
theorem n8{a b:Nat}:Nat.blt a b=true↔a<b:=by
 constructor
 .intro h;exact rI h
 .intro h;exact rH h
theorem Mk.cL{s:Nat}(hs:s<1048576):∀{m:Mk},m.ax=true->(m.stamp s).ax=true
 | .no,_=>rfl
 | .gone,_=>rfl
 | .own s0 m,h=>by
  simp only[Mk.ax,Mk.stamp,bH,n8]at h⊢;refine⟨?_,Mk.cL hs h.2⟩;rw[aj h.1];exact hs
 | .pr a b,h=>by
  simp only[Mk.ax,Mk.stamp,bH]at h⊢;exact⟨Mk.cL hs h.1,Mk.cL hs h.2⟩
theorem Mk.cY:∀t:Ty,(Mk.top t).ax=true
 | .unit=>rfl
 | .int _=>rfl
 | .bool=>rfl
 | .str=>rfl
 | .sl t=>by simp[Mk.top,Mk.ax,n8,Mk.cY t]
 | .pair a b=>by simp[Mk.top,Mk.ax,Mk.cY a,Mk.cY b]
theorem Mk.lA:∀t:Ty,(Mk.sS t).ax=true
 | .unit=>rfl
 | .int _=>rfl
 | .bool=>rfl
 | .str=>rfl
 | .sl t=>Mk.cY _
 | .pair a b=>by
  cases a<;>simp[Mk.sS,Mk.ax,Mk.cY,Mk.lA b]
theorem Mk.rC(hint:Bool)(t:Ty):(Mk.zM hint t).ax=true:=by
 unfold Mk.zM;split
 .exact Mk.lA t
 .exact Mk.cY t
theorem aL.ax{hd:Nat->Value}:∀(t:Ty){m:Mk}{c:List Value},m.ax=true->aL hd t m c
 | .unit,_,_,_=>by simp only[aL]
 | .int _,_,_,_=>by simp only[aL]
 | .bool,_,_,_=>by simp only[aL]
 | .str,_,_,_=>by simp only[aL]
 | .pair a b,m,c,h=>by simp only[aL];exact⟨aL.ax a (Mk.fq h),aL.ax b (Mk.fu h)⟩
 | .sl t,m,c,h=>by
  cases m with
  | own s mi=>simp only[Mk.ax,bH,n8]at h;simp only[aL];exact⟨fun h2=>by omega,h.2⟩
  | no=>simp only[aL]
  | gone=>simp only[aL]
  | pr _ _=>simp only[aL]
theorem aL.gone{hd:Nat->Value}(t:Ty)(c:List Value):aL hd t .gone c:=aL.ax t rfl
theorem aL.no{hd:Nat->Value}(t:Ty)(c:List Value):aL hd t .no c:=aL.ax t rfl
theorem aL.stamp{hd:Nat->Value}{s:Nat}(hs:s<1048576):∀(t:Ty){m:Mk}{c:List Value},aL hd t m c->aL hd t (m.stamp s) c
 | .unit,_,_,_=>by simp only[aL]
 | .int _,_,_,_=>by simp only[aL]
 | .bool,_,_,_=>by simp only[aL]
 | .str,_,_,_=>by simp only[aL]
 | .pair a b,m,c,h=>by
  simp only[aL]at h⊢;have h1:(m.stamp s).fst=m.fst.stamp s:=by cases m<;>rfl
  have h2:(m.stamp s).snd=m.snd.stamp s:=by cases m<;>rfl
  rw[h1,h2];exact⟨aL.stamp hs a h.1,aL.stamp hs b h.2⟩
 | .sl t,m,c,h=>by
  cases m with
  | own s0 mi=>
   simp only[Mk.stamp,aL]at h⊢;refine⟨fun h2=>?_,Mk.cL hs h.2⟩;split at h2
   .omega
   .rename_i hn;rw[af hn];exact h.1 h2
  | no=>simp only[Mk.stamp,aL]
  | gone=>simp only[Mk.stamp,aL]
  | pr _ _=>simp only[Mk.stamp,aL]
theorem VK:∀(p:Path){t:Ty}{m m2 m':Mk},lH t m p m2=some m'->m.ax=true->m2.ax=true->m'.ax=true
 | [],t,m,m2,m',h,_,h2=>by
  have:lH t m [] m2=some m2:=by cases t<;>rfl
  rw[this]at h;simp only[aK]at h;rw[<-h];exact h2
 | .fst::p,t,m,m2,m',h,h1,h2=>by
  cases t with
  | pair a b=>simp only[lH,cJ,aK]at h;obtain⟨r,hr,rfl⟩:=h;simp only[Mk.ax,bH];exact⟨VK p hr (Mk.fq h1) h2,Mk.fu h1⟩
  | _=>simp[lH]at h
 | .snd::p,t,m,m2,m',h,h1,h2=>by
  cases t with
  | pair a b=>simp only[lH,cJ,aK]at h;obtain⟨r,hr,rfl⟩:=h;simp only[Mk.ax,bH];exact⟨Mk.fq h1,VK p hr (Mk.fu h1) h2⟩
  | _=>simp[lH]at h
 | .idx i s'::p,t,m,m2,m',h,h1,h2=>by
  cases t with
  | sl e=>
   cases m with
   | own s mi=>
    simp only[lH]at h;split at h
    .simp only[cJ,aK]at h;obtain⟨r,hr,rfl⟩:=h;simp only[Mk.ax,bH]at h1⊢;exact⟨h1.1,Mk.dS (VK p hr h1.2 h2)⟩
    .simp at h
   | _=>simp[lH]at h
  | _=>simp[lH]at h
theorem aL.o6{hd:Nat->Value}:∀(p:Path){t:Ty}{m m':Mk}{c:List Value},lH t m p .gone=some m'->aL hd t m c->aL hd t m' c
 | [],t,m,m',c,h,_=>by
  have:lH t m [] .gone=some .gone:=by cases t<;>rfl
  rw[this]at h;simp only[aK]at h;rw[<-h];exact aL.gone t c
 | .fst::p,t,m,m',c,h,hc=>by
  cases t with
  | pair a b=>simp only[lH,cJ,aK]at h;obtain⟨r,hr,rfl⟩:=h;simp only[aL]at hc⊢;exact⟨aL.o6 p hr hc.1,hc.2⟩
  | _=>simp[lH]at h
 | .snd::p,t,m,m',c,h,hc=>by
  cases t with
  | pair a b=>simp only[lH,cJ,aK]at h;obtain⟨r,hr,rfl⟩:=h;simp only[aL]at hc⊢;exact⟨hc.1,aL.o6 p hr hc.2⟩
  | _=>simp[lH]at h
 | .idx i s'::p,t,m,m',c,h,hc=>by
  cases t with
  | sl e=>
   cases m with
   | own s mi=>
    simp only[lH]at h;split at h
    .simp only[cJ,aK]at h;obtain⟨r,hr,rfl⟩:=h;simp only[aL]at hc⊢;exact⟨hc.1,Mk.dS (VK p hr hc.2 rfl)⟩
    .simp at h
   | _=>simp[lH]at h
  | _=>simp[lH]at h
theorem VJ:∀(p:Path){t:Ty}{m:Mk}{x:t.den}{d:Dy},focus t m x p=some d->m.ax=true->d.ms.ax=true
 | [],t,m,x,d,h,hm=>by simp only[focus,aK]at h;subst h;exact hm
 | .fst::p,t,m,x,d,h,hm=>by
  cases t with
  | pair a b=>simp only[focus]at h;exact VJ p h (Mk.fq hm)
  | _=>simp[focus]at h
 | .snd::p,t,m,x,d,h,hm=>by
  cases t with
  | pair a b=>simp only[focus]at h;exact VJ p h (Mk.fu hm)
  | _=>simp[focus]at h
 | .idx i s'::p,t,m,x,d,h,hm=>by
  cases t with
  | sl e=>
   cases m with
   | own s mi=>
    simp only[focus]at h;simp only[Mk.ax,bH]at hm;split at h
    .exact VJ p h hm.2
    .simp at h
   | _=>simp[focus]at h
  | _=>simp[focus]at h
theorem aL.at{hd:Nat->Value}{hp:Array Obj}:∀(p:Path){t:Ty}{m:Mk}{x:t.den}{c:List Value}{base base':fH}{c':List Value}{d:Dy},
  aL hd t m c->focus t m x p=some d->cm hp t c base p=some (base',c')->aL hd d.ty d.ms c'
 | [],t,m,x,c,base,base',c',d,hc,hf,ha=>by
  simp only[focus,aK]at hf;subst hf;have:cm hp t c base []=some (base,c):=by cases t<;>rfl
  rw[this]at ha;simp only[aK,aZ]at ha;rw[<-ha.2];exact hc
 | .fst::p,t,m,x,c,base,base',c',d,hc,hf,ha=>by
  cases t with
  | pair a b=>simp only[focus]at hf;simp only[cm]at ha;simp only[aL]at hc;exact aL.at p hc.1 hf ha
  | _=>simp[focus]at hf
 | .snd::p,t,m,x,c,base,base',c',d,hc,hf,ha=>by
  cases t with
  | pair a b=>simp only[focus]at hf;simp only[cm]at ha;simp only[aL]at hc;exact aL.at p hc.2 hf ha
  | _=>simp[focus]at hf
 | .idx i s'::p,t,m,x,c,base,base',c',d,hc,hf,ha=>by
  cases t with
  | sl e=>
   cases m with
   | own s mi=>
    simp only[focus]at hf;simp only[aL]at hc;split at hf
    .exact aL.ax _ (VJ p hf hc.2)
    .simp at hf
   | _=>simp[focus]at hf
  | _=>simp[focus]at hf
theorem UI:∀(p:Path){t:Ty}{m:Mk}{x:t.den}{t2:Ty}{m2:Mk}{y:t2.den}{m':Mk}{x':t.den},
  put t m x p t2 m2 y=some (m',x')->m.ax=true->m2.ax=true->m'.ax=true
 | [],t,m,x,t2,m2,y,m',x',h,_,h2=>by
  simp only[put,cJ,aK,aZ]at h;obtain⟨_,_,h,_⟩:=h;rw[<-h];exact h2
 | .fst::p,t,m,x,t2,m2,y,m',x',h,h1,h2=>by
  cases t with
  | pair a b=>simp only[put,cJ,aK,aZ]at h;obtain⟨r,hr,rfl,_⟩:=h;simp only[Mk.ax,bH];exact⟨UI p hr (Mk.fq h1) h2,Mk.fu h1⟩
  | _=>simp[put]at h
 | .snd::p,t,m,x,t2,m2,y,m',x',h,h1,h2=>by
  cases t with
  | pair a b=>simp only[put,cJ,aK,aZ]at h;obtain⟨r,hr,rfl,_⟩:=h;simp only[Mk.ax,bH];exact⟨Mk.fq h1,UI p hr (Mk.fu h1) h2⟩
  | _=>simp[put]at h
 | .idx i s'::p,t,m,x,t2,m2,y,m',x',h,h1,h2=>by
  cases t with
  | sl e=>
   cases m with
   | own s mi=>
    simp only[put]at h;split at h
    .simp only[cJ,aK,aZ]at h;obtain⟨r,hr,rfl,_⟩:=h;simp only[Mk.ax,bH]at h1⊢;exact⟨h1.1,Mk.dS (UI p hr h1.2 h2)⟩
    .simp at h
   | _=>simp[put]at h
  | _=>simp[put]at h
theorem GZ:∀(p:Path){t:Ty}{m:Mk}{x:t.den}{t2:Ty}{m2:Mk}{y:t2.den}{m':Mk}{x':t.den},
  put t m x p t2 m2 y=some (m',x')->qx p=false->eA t p+t2.width<=t.width
 | [],t,m,x,t2,m2,y,m',x',h,_=>by
  simp only[put,cJ,qbv]at h;obtain⟨z,hz,_⟩:=h;split at hz
  .rename_i e;subst e;have:eA t2 []=0:=by cases t2<;>rfl
   omega
  .simp at hz
 | .fst::p,t,m,x,t2,m2,y,m',x',h,hi=>by
  cases t with
  | pair a b=>simp only[put,cJ,aK,aZ]at h;obtain⟨r,hr,_⟩:=h;have:=GZ p hr (by simpa [qx] using hi);simp only[eA,Ty.width];omega
  | _=>simp[put]at h
 | .snd::p,t,m,x,t2,m2,y,m',x',h,hi=>by
  cases t with
  | pair a b=>simp only[put,cJ,aK,aZ]at h;obtain⟨r,hr,_⟩:=h;have:=GZ p hr (by simpa [qx] using hi);simp only[eA,Ty.width];omega
  | _=>simp[put]at h
 | .idx i s'::p,t,m,x,t2,m2,y,m',x',h,hi=>by simp[qx]at hi
theorem aL.put{hd:Nat->Value}:∀(p:Path){t:Ty}{m:Mk}{x:t.den}{t2:Ty}{m2:Mk}{y:t2.den}{m':Mk}{x':t.den}{c c2:List Value},
  put t m x p t2 m2 y=some (m',x')->aL hd t m c->aL hd t2 m2 c2->(qx p=true->m2.ax=true)->c.length=t.width->c2.length=t2.width->
  aL hd t m' (if qx p then c else bP c (eA t p) c2)
 | [],t,m,x,t2,m2,y,m',x',c,c2,h,hc,h2,_,hl,iI=>by
  simp only[V.put,cJ,qbv,aK,aZ]at h;obtain⟨z,hz,rfl,_⟩:=h;split at hz
  .rename_i e;subst e;have:eA t2 []=0:=by cases t2<;>rfl
   rw[this,af (by simp[qx]),AH (by omega)];exact h2
  .simp at hz
 | .fst::p,t,m,x,t2,m2,y,m',x',c,c2,h,hc,h2,hi,hl,iI=>by
  cases t with
  | pair a b=>
   simp only[V.put,cJ,aK,aZ]at h;obtain⟨r,hr,rfl,_⟩:=h;simp only[aL]at hc;simp only[Ty.width]at hl;have hca:(c.take a.width).length=a.width:=by simp;omega
   have ih:=aL.put p hr hc.1 h2 (by simpa [qx] using hi) hca iI;have hx:qx (.fst::p)=qx p:=rfl;have ha:eA (.pair a b) (.fst::p)=eA a p:=rfl;rw[hx,ha];by_cases hp:qx p=true
   .rw[aj hp]at ih⊢;simp only[aL];exact⟨ih,hc.2⟩
   .rw[af hp]at ih⊢;have hf:=GZ p hr (by simpa using hp);have e:bP c (eA a p) c2=bP (c.take a.width) (eA a p) c2++c.drop a.width:=by
     conv=>lhs;rw[<-rJ a.width c]
     exact ZF (by omega)
    have hl3:(bP (c.take a.width) (eA a p) c2).length=a.width:=by rw[C_ (by omega)];exact hca
    simp only[aL];rw[e,jm hl3,iZ hl3];exact⟨ih,hc.2⟩
  | _=>simp[V.put]at h
 | .snd::p,t,m,x,t2,m2,y,m',x',c,c2,h,hc,h2,hi,hl,iI=>by
  cases t with
  | pair a b=>
   simp only[V.put,cJ,aK,aZ]at h;obtain⟨r,hr,rfl,_⟩:=h;simp only[aL]at hc;simp only[Ty.width]at hl;have hca:(c.take a.width).length=a.width:=by simp;omega
   have hcb:(c.drop a.width).length=b.width:=by simp;omega
   have ih:=aL.put p hr hc.2 h2 (by simpa [qx] using hi) hcb iI;have hx:qx (.snd::p)=qx p:=rfl;have ha:eA (.pair a b) (.snd::p)=a.width+eA b p:=rfl;rw[hx,ha];by_cases hp:qx p=true
   .rw[aj hp]at ih⊢;simp only[aL];exact⟨hc.1,ih⟩
   .rw[af hp]at ih⊢;have e:bP c (a.width+eA b p) c2=c.take a.width++bP (c.drop a.width) (eA b p) c2:=by
     conv=>lhs;rw[<-rJ a.width c]
     have:=@YU (c.take a.width) (c.drop a.width) c2 (eA b p);rw[hca]at this;exact this
    simp only[aL];rw[e,jm hca,iZ hca];exact⟨hc.1,ih⟩
  | _=>simp[V.put]at h
 | .idx i s'::p,t,m,x,t2,m2,y,m',x',c,c2,h,hc,h2,hi,hl,iI=>by
  cases t with
  | sl e=>
   cases m with
   | own s mi=>
    simp only[V.put]at h;split at h
    .simp only[cJ,aK,aZ]at h;obtain⟨r,hr,rfl,_⟩:=h;simp only[qx,aY];simp only[aL]at hc⊢;exact⟨hc.1,Mk.dS (UI p hr hc.2 (hi rfl))⟩
    .simp at h
   | _=>simp[V.put]at h
  | _=>simp[V.put]at h
theorem az.gone{h:Array Obj}{Pr:BS}:∀(t:Ty){m:Mk}{x:t.den}{c:List Value}{F:BS},az h Pr t m x c F->az h Pr t .gone x c Nil
 | .unit,_,_,_,_,r=>by simpa only [az] using r
 | .int k,_,_,_,_,r=>by simpa only [az] using r
 | .bool,_,_,_,_,r=>by simpa only [az] using r
 | .str,_,_,_,_,r=>by simpa only [az] using r
 | .pair a b,m,x,c,F,r=>by
  simp only[az]at r⊢;obtain⟨ca,cb,Fa,Fb,rfl,ra,rb,sa,sb,d⟩:=r;exact⟨ca,cb,Nil,Nil,rfl,az.gone a ra,az.gone b rb,Sub.nil _,Sub.nil _,cv.nil _⟩
 | .sl t,m,x,c,F,r=>by
  simp only[az];exact az.slice r
theorem AS{n:Mk}:∀(q:Path){t:Ty}{m:Mk}{x:t.den}{d:Dy},focus t m x q=some d->bt t x q->
  ∃mm,put t m x q d.ty n d.x=some (mm,x)/\lH t m q n=some mm
 | [],t,m,x,d,hf,_=>by
  simp only[focus,aK]at hf;subst hf;refine⟨n,by simp[put,TH],by cases t<;>rfl⟩
 | .fst::q,t,m,x,d,hf,hr=>by
  cases t with
  | pair a b=>
   simp only[focus]at hf;simp only[bt]at hr;obtain⟨mm,h1,h2⟩:=AS (n:=n) q hf hr;refine⟨.pr mm m.snd,?_,?_⟩
   .simp only[put];rw[h1];rfl
   .simp only[lH];rw[h2];rfl
  | _=>simp[focus]at hf
 | .snd::q,t,m,x,d,hf,hr=>by
  cases t with
  | pair a b=>
   simp only[focus]at hf;simp only[bt]at hr;obtain⟨mm,h1,h2⟩:=AS (n:=n) q hf hr;refine⟨.pr m.fst mm,?_,?_⟩
   .simp only[put];rw[h1];rfl
   .simp only[lH];rw[h2];rfl
  | _=>simp[focus]at hf
 | .idx i s'::q,t,m,x,d,hf,hr=>by
  cases t with
  | sl e=>
   cases m with
   | own s mi=>
    simp only[focus]at hf;simp only[bt]at hr;split at hf
    .rename_i hs;obtain⟨mm,h1,h2⟩:=AS (n:=n) q hf hr.2;refine⟨.own s (mi.meet mm),?_,?_⟩
     .simp only[put,hs,aY];rw[h1];simp only[dw,aK,aZ,true_and];have:=hr.1;rw[List.getD,gP hr.1];simp
     .simp only[lH,hs,aY];rw[h2];rfl
    .simp at hf
   | _=>simp[focus]at hf
  | _=>simp[focus]at hf
theorem yW.self{h:Array Obj}{base:fH}{c:List Value}{F:BS}(hb:yG h base c F):yW h h base c:=by
 intro b o e cs hcs;obtain⟨_,cs',h1,h2,h3⟩:=hb b o e;have:=ju.uniq hcs h1;subst this;refine⟨cs,hcs,?_⟩;simp only[sub]at h3;simp only[bP];have h4:cs.toList.drop (o+c.length)=(cs.toList.drop o).drop c.length:=by rw[qU]
 rw[h4,eG]
 conv=>lhs;rw[<-rJ o cs.toList]
 congr 1
 conv=>lhs;rw[<-rJ c.length (cs.toList.drop o),h3]
theorem GN{c:List Value}{n k:Nat}(h:n+k<=c.length):bP c n ((c.drop n).take k)=c:=by
 simp only[bP];have:((c.drop n).take k).length=k:=by simp;omega
 rw[this];have h4:c.drop (n+k)=(c.drop n).drop k:=by rw[qU]
 rw[h4,eG,rJ,rJ]
theorem aD.r9{h:Array Obj}{S:St}{g:aA}{tmps:Array Value}{H:BS}(st:aD h S g tmps H){r:Nat}{R:aB}(hR:S.root r=some R)
  {F:BS} (rep:az h g.Pr R.ty R.ms R.x (g.C r) F) (hB:∀b,g.B r=some b->¬ F b)
  (hm:R.mem=true->∃b,g.B r=some b/\g.G r b/\ju h b (g.C r).toArray) (hn:R.mem=false->g.B r=none):yG h (g.base r) (g.C r) F:=by
 intro b o e;simp only[aA.base,fk]at e;obtain⟨b',e,e'⟩:=e;simp only[aZ]at e';obtain⟨rfl,rfl⟩:=e';refine⟨hB b' e,?_⟩;cases hmem:R.mem with
 | false=>rw[hn hmem]at e;simp at e
 | true=>obtain⟨b2,h1,_,h2⟩:=hm hmem;rw[e]at h1;simp only[aK]at h1;subst h1;exact⟨_,h2,by simp,by simp[sub]⟩
theorem aD.take{h:Array Obj}{S:St}{g:aA}{tmps:Array Value}{H:BS}(st:aD h S g tmps H){r:Nat}{R:aB}{p:Path}{d:Dy}{m':Mk}
  (hR:S.root r=some R) (hf:focus R.ty R.ms R.x p=some d) (hin:bt R.ty R.x p) (hm:lH R.ty R.ms p .gone=some m') :
  ∃g' F base c,aD h (S.aG r (some { R with ms:=m' })) g' tmps (Un H F)/\Sub g.Pr g'.Pr/\g'.C=g.C/\g'.B=g.B/\(∀r,Sub (g'.G r) (g.G r))/\
   cm h R.ty (g.C r) (g.base r) p=some (base,c)/\az h g'.Pr d.ty d.ms d.x c F/\aL g.hd d.ty d.ms c/\g'.cR g/\cv F H/\Sub F (g.G r)/\cv F g'.Pr/\
   ∀a:AV,a.dh h h S (S.aG r (some { R with ms:=m' })) g g':=by
 obtain⟨F0,rep,hF,hB,hmem,oV⟩:=st.roots r R hR;have hb:=st.r9 hR rep hB hmem oV;obtain⟨base,c,F,Fr,z⟩:=zip p _ _ _ _ F0 _ d rep hf hin hb;obtain⟨mm,Us,Le⟩:=AS (n:=.gone) p hf hin;rw[hm]at Le;simp only[aK]at Le;subst Le;obtain⟨F3,D3,s3,sd,d3,r3⟩:=z.vz h g.Pr .gone d.x c Nil m' R.x (Sub.refl _) (fun _ _=>rfl) (fun _ _ _=>rfl) (yW.self z.ok) (az.gone d.ty z.rep) (cv.nil _) Us;have s3':Sub F3 Fr:=fun b hb=>(s3 b hb).resolve_right id;have VY:Sub D3 Fr:=fun b hb=>(sd b hb).resolve_right id;have bM:(S.root r).isSome:=by rw[hR];rfl
 have hc:(if qx p then g.C r else bP (g.C r) (eA R.ty p) c)=g.C r:=by
  by_cases hi:qx p=true
  .simp[hi]
  .have hi':qx p=false:=by simpa using hi
   obtain⟨_,e2,e3⟩:=z.plain hi';simp only[hi',e8,dV];rw[e2];exact GN e3
 rw[hc]at r3;have hlt:=St.pe hR
 let g':aA:={ g with Pr:=Un g.Pr D3,G:=fun r'=>if r'=r then (fun b=>g.B r=some b\/F3 b) else g.G r' }
 have bJ:∀r',(S.aG r (some { R with ms:=m' })).root r'=if r'=r then some { R with ms:=m' } else S.root r':=by intro r';rw[St.bY];simp[hlt]
 have hsub:∀r',Sub (g'.G r') (g.G r'):=by
  intro r' b hb';simp only[g']at hb';split at hb'
  .rename_i e;subst e;rcases hb' with hb' | hb'
   .cases mV:R.mem with
    | false=>rw[oV mV]at hb';simp at hb'
    | true=>obtain⟨b2,h1,h2,_⟩:=hmem mV;rw[hb']at h1;simp only[aK]at h1;subst h1;exact h2
   .exact hF b (z.fr b (s3' b hb'))
  .exact hb'
 have hsome:∀r',((S.aG r (some { R with ms:=m' })).root r').isSome->(S.root r').isSome:=by
  intro r' h1;rw[bJ]at h1;split at h1
  .rename_i e;subst e;exact bM
  .exact h1
 have Uc:Sub D3 (g.G r):=fun b hb'=>hF b (z.fr b (VY b hb'));have pY:Sub F (g.G r):=fun b hb'=>hF b (z.sub b hb');have tB:=Bd (lo:=0) (hi:=0) p Us (by trivial);have hkeep:∀a:AV,a.dh h h S (S.aG r (some { R with ms:=m' })) g g':=by
  intro a;refine AV.d8 (fun r' p'=>?_) (fun r' p' s'=>?_) a
  .by_cases e:r'=r
   .subst e;intro R' cg d' hf';rw[bJ,aj rfl]at cg;simp only[aK]at cg;subst cg;obtain⟨n0,h1,_⟩:=BY p' tB (BX p') (u9 p' hf');obtain⟨y,h2⟩:=zu p' R.x h1;exact⟨R,_,hR,h2,fun si=>⟨si,fun bs cc ha=>⟨cc,ha⟩⟩⟩
   .exact(nN st (.inl (by rw[bJ,af e])) rfl rfl (fun _ _ _=>rfl)).1 p'
  .by_cases e:r'=r
   .subst e;intro R' cg t' mq xs hf';rw[bJ,aj rfl]at cg;simp only[aK]at cg;subst cg;obtain⟨n0,h1,h3⟩:=BY p' tB (BX p') (u9 p' hf');rcases h3 with h3 | ⟨a,rfl,_⟩
    .omega
    .obtain⟨y,h2⟩:=zu p' R.x h1;exact⟨R,a,y,hR,h2,fun si=>⟨si,fun bs cc ha=>ha⟩⟩
   .exact(nN st (.inl (by rw[bJ,af e])) rfl rfl (fun _ _ _=>rfl)).2 p' s'
 refine⟨g',F,base,c,?_,fun b hb'=>.inl hb',rfl,rfl,hsub,z.at_,az.mono (fun b hb'=>.inl hb') (fun _ _=>rfl) d.ty z.rep (Sub.refl _) (fun _ _=>rfl),aL.at p (st.tag r R hR) hf z.at_,⟨rfl,rfl,rfl⟩,?_,pY,?_,hkeep⟩
 .refine { len:=st.len,gw:=by simp[St.aG,aP.bS,st.gw],slots:=?_,roots:=?_,dY:=?_,ej:=?_,hand:=?_,bK:=?_,bO:=?_,b9:=?_,eg:=?_,tag:=?_,own:=?_,e7:=?_,fV:=st.fV,p0:=fun b hb'=>.inl (st.p0 b hb'),kY:=?_ }
  .intro t;rw[St.h_];exact(qe.keep (g':=g') (fun b hb'=>Or.inl hb') (fun _ _=>rfl) _).1 _ (st.slots t) (hkeep _)
  .intro r' R' cg;rw[bJ]at cg;by_cases e:r'=r
   .subst e;rw[aj rfl]at cg;simp only[aK]at cg;subst cg;refine⟨F3,r3,fun b hb'=>?_,fun b e' hb'=>hB b e' (z.fr b (s3' b hb')),fun mV=>?_,oV⟩
    .simp only[g',aY];exact .inr hb'
    .obtain⟨b,h1,h2,h3⟩:=hmem mV;exact⟨b,h1,by simp only[g',aY];exact .inl h1,h3⟩
   .rw[af e]at cg;obtain⟨F1,q1,q2,q3,q4,q5⟩:=st.roots r' R' cg;refine⟨F1,az.mono (fun b hb'=>.inl hb') (fun _ _=>rfl) _ q1 (Sub.refl _) (fun _ _=>rfl),?_,q3,?_,q5⟩
    .simp only[g',af e];exact q2
    .intro mV;obtain⟨b,h1,h2,h3⟩:=q4 mV;exact⟨b,h1,by simp only[g',af e];exact h2,h3⟩
  .intro r1 r2 hne h1 h2;exact(st.dY r1 r2 hne (hsome _ h1) (hsome _ h2)).mono (hsub _) (hsub _)
  .intro r1 h1;rintro b hb' (hz | hz)
   .exact st.ej r1 (hsome _ h1) b (hsub _ b hb') hz
   .by_cases e:r1=r
    .subst e;simp only[g',aY]at hb';rcases hb' with hb' | hb'
     .exact hB b hb' (z.fr b (VY b hz))
     .exact d3 b hb' hz
    .exact st.dY r1 r e (hsome _ h1) bM b (hsub _ b hb') (Uc b hz)
  .intro r1 h1;rintro b hb' (hz | hz)
   .exact st.hand r1 (hsome _ h1) b (hsub _ b hb') hz
   .by_cases e:r1=r
    .subst e;simp only[g',aY]at hb';rcases hb' with hb' | hb'
     .exact hB b hb' (z.sub b hz)
     .exact z.dY b hz (s3' b hb')
    .exact st.dY r1 r e (hsome _ h1) bM b (hsub _ b hb') (pY b hz)
  .rintro b (hz | hz) (hy | hy)
   .exact st.bK b hz hy
   .exact st.hand r bM b (Uc b hy) hz
   .exact st.ej r bM b (pY b hz) hy
   .exact z.dY b hz (VY b hy)
  .rintro b (hz | hz)
   .exact st.bO b hz
   .exact st.b9 r b bM (Uc b hz)
  .intro r1 b h1 hb';exact st.b9 r1 b (hsome _ h1) (hsub _ b hb')
  .rintro b (hz | hz)
   .exact st.eg b hz
   .exact st.b9 r b bM (pY b hz)
  .intro r' R' cg;rw[bJ]at cg;by_cases e:r'=r
   .subst e;rw[aj rfl]at cg;simp only[aK]at cg;subst cg;exact aL.o6 p hm (st.tag _ R hR)
   .rw[af e]at cg;exact st.tag r' R' cg
  .intro r1 b h1 hb';exact st.own r1 b (hsome _ h1) (hsub _ b hb')
  .rintro b (hz | hz)
   .exact st.e7 b hz
   .exact st.own r b bM (pY b hz)
  .rintro b (hz | hz)
   .exact st.kY b hz
   .exact .inr (st.own r b bM (Uc b hz))
 .intro b hz hy;exact st.hand r bM b (pY b hz) hy
 .rintro b hz (hy | hy)
  .exact st.ej r bM b (pY b hz) hy
  .exact z.dY b hz (VY b hy)
theorem aD.m4{h:Array Obj}{S:St}{g:aA}{tmps:Array Value}{H:BS}(st:aD h S g tmps H){r:Nat}{R:aB}{q:Path}{d:Dy}
  (hR:S.root r=some R) (hf:focus R.ty R.ms R.x q=some d) (hin:bt R.ty R.x q) :
  ∃base c F,cm h R.ty (g.C r) (g.base r) q=some (base,c)/\az h g.Pr d.ty d.ms d.x c F/\Sub F (g.G r)/\yG h base c F/\
   (∀b o,base=some (b,o)->g.G r b)/\
   ∀(lo hi:Nat)(h2:Array Obj)(m2:Mk)(y:d.ty.den)(c2:List Value)(F2 Dd:BS)(m':Mk)(x':R.ty.den),
    (∀t,(S.get t).aR lo hi=true)->
    (∀b,b<h.size->¬ F b->(∀o,base≠some (b,o))->h2[b]? = h[b]?)->h.size<=h2.size->yW h h2 base c2->
    az h2 (Un g.Pr Dd) d.ty m2 y c2 F2->cv Dd F2->(∀b,F2 b\/Dd b->F b\/H b\/h.size<=b)->(∀b,F2 b\/Dd b->b<h2.size)->
    put R.ty R.ms R.x q d.ty m2 y=some (m',x')->d.ms.nE lo hi m2->aL g.hd d.ty m2 c2->(qx q=true->m2.ax=true)->
    (∀p' t1 n1,jD lo hi p'=true->q8 d.ty m2 p'=some (t1,n1)->bt d.ty d.x p'->bt d.ty y p'/\∀bp cp,cm h d.ty c base p'=some (bp,cp)->
     ∃iP,cm h2 d.ty c2 base p'=some (bp,iP)/\(∀s a,n1=.own s a->¬ (lo<=s/\s<hi)->iP=cp))->
    ∃g',aD h2 (S.aG r (some { R with ms:=m',x:=x' })) g' tmps (fun b=>(H b\/F b\/(h.size<=b/\b<h2.size))/\¬ (F2 b\/Dd b))/\Sub g.Pr g'.Pr/\Sub Dd g'.Pr/\g'.cR g/\g'.B=g.B/\(∀b,g.Pr b->h2[b]? = h[b]?)/\
     ∀a:AV,a.aR lo hi=true->a.dh h h2 S (S.aG r (some { R with ms:=m',x:=x' })) g g':=by
 obtain⟨F0,rep,hF,hB,hmem,oV⟩:=st.roots r R hR;have hb:=st.r9 hR rep hB hmem oV;obtain⟨base,c,F,Fr,z⟩:=zip q _ _ _ _ F0 _ d rep hf hin hb;have bM:(S.root r).isSome:=by rw[hR];rfl
 have pY:Sub F (g.G r):=fun b hb'=>hF b (z.sub b hb');have vE:Sub Fr (g.G r):=fun b hb'=>hF b (z.fr b hb');have wF:∀b o,g.base r=some (b,o)->g.B r=some b/\g.G r b:=by
  intro b o e;simp only[aA.base,fk]at e;obtain⟨b',e,e'⟩:=e;simp only[aZ]at e';obtain⟨rfl,rfl⟩:=e';refine⟨e,?_⟩;cases mV:R.mem with
  | false=>rw[oV mV]at e;simp at e
  | true=>obtain⟨b2,h1,h2,_⟩:=hmem mV;rw[e]at h1;simp only[aK]at h1;subst h1;exact h2
 have Xl:∀b o,base=some (b,o)->g.G r b:=by
  intro b o e;rcases z.home b o e with h1 | ⟨o0,h1⟩
  .exact vE b h1
  .exact(wF b o0 h1).2
 refine⟨base,c,F,z.at_,z.rep,pY,z.ok,Xl,?_⟩;intro lo hi h2 m2 y c2 F2 Dd m' x' hs hk hsz hu r2 hdF tX Wg hput tB ni oF hbase;have g8:c2.length=d.ty.width:=az.width d.ty r2;have KR:∀b,Fr b->(∀o,base≠some (b,o))->h2[b]? = h[b]?:=fun b hb' hn=>
  hk b (st.b9 r b bM (vE b hb')) (fun hz=>z.dY b hz hb') hn
 have I2:∀b,g.Pr b->h2[b]? = h[b]?:=fun b hb'=>
  hk b (st.bO b hb') (fun hz=>st.ej r bM b (pY b hz) hb') (fun o e=>st.ej r bM b (Xl b o e) hb')
 have Um:∀r',r'≠r->(S.root r').isSome->∀b,g.G r' b->h2[b]? = h[b]?:=fun r' hne h1 b hb'=>
  hk b (st.b9 r' b h1 hb') (fun hz=>st.dY r' r hne h1 bM b hb' (pY b hz)) (fun o e=>st.dY r' r hne h1 bM b hb' (Xl b o e))
 have hdD:cv Dd Fr:=by
  intro b hz hy;rcases tX b (.inr hz) with h1 | h1 | h1
  .exact z.dY b h1 hy
  .exact st.hand r bM b (vE b hy) h1
  .have:=st.b9 r b bM (vE b hy);omega
 have zV:cv F2 Fr:=by
  intro b hz hy;rcases tX b (.inl hz) with h1 | h1 | h1
  .exact z.dY b h1 hy
  .exact st.hand r bM b (vE b hy) h1
  .have:=st.b9 r b bM (vE b hy);omega
 obtain⟨F3,D3,s3,sd,d3,r3⟩:=z.vz h2 (Un g.Pr Dd) m2 y c2 F2 m' x' (fun b hb'=>.inl hb') I2 KR hu r2 zV hput;obtain⟨Lu,ia⟩:=z.paths lo hi h2 m2 y c2 m' x' KR hu g8 hput tB hbase;have r3:=az.mono (fN:=Un g.Pr (fun b=>Dd b\/D3 b)) (fun b hb'=>hb'.elim (fun h=>h.imp id .inl) (fun h=>.inr (.inr h))) (fun _ _=>rfl) _ r3 (Sub.refl _) (fun _ _=>rfl);have zj:∀b,F3 b->Fr b\/(F2 b\/Dd b):=fun b hb'=>(s3 b hb').imp id .inl;have Ll:∀b,Dd b\/D3 b->Fr b\/(F2 b\/Dd b):=fun b hb'=>hb'.elim (fun h=>.inr (.inr h)) (fun h=>(sd b h).imp id .inl);have Wy:∀b,F3 b->Dd b->False:=fun b h1 h2=>(s3 b h1).elim (fun h3=>hdD b h2 h3) (fun h3=>hdF b h2 h3);have hlt:=St.pe hR
 let cn:List Value:=if qx q then g.C r else bP (g.C r) (eA R.ty q) c2
 let g':aA:=⟨Un g.Pr (fun b=>Dd b\/D3 b),fun r1=>if r1=r then cn else g.C r1,g.B,fun r1=>if r1=r then (fun b=>g.B r=some b\/F3 b) else g.G r1,g.hd,g.L,g.P0⟩
 have bJ:∀r',(S.aG r (some { R with ms:=m',x:=x' })).root r'=if r'=r then some { R with ms:=m',x:=x' } else S.root r':=by intro r';rw[St.bY];simp[hlt]
 have hsome:∀r',((S.aG r (some { R with ms:=m',x:=x' })).root r').isSome->(S.root r').isSome:=by
  intro r' h1;rw[bJ]at h1;split at h1
  .rename_i e;subst e;exact bM
  .exact h1
 have js:∀b,g.B r=some b->g.G r b/\¬ F0 b:=by intro b e;refine⟨(wF b 0 (by simp[aA.base,e])).2,hB b e⟩
 -- where new ald may lie
 have hnew:∀b,Fr b\/(F2 b\/Dd b)->(g.G r b/\F0 b)\/H b\/h.size<=b:=by
  rintro b (hz | hz)
  .exact .inl ⟨vE b hz,z.fr b hz⟩
  .rcases tX b hz with h1 | h1 | h1
   .exact .inl ⟨pY b h1,z.sub b h1⟩
   .exact .inr (.inl h1)
   .exact .inr (.inr h1)
 have wV:∀r1,r1≠r->(S.root r1).isSome->∀b,g.G r1 b->Fr b\/(F2 b\/Dd b)->False:=by
  intro r1 hne h1 b hb' hz;rcases hnew b hz with h3 | h3 | h3
  .exact st.dY r1 r hne h1 bM b hb' h3.1
  .exact st.hand r1 h1 b hb' h3
  .have:=st.b9 r1 b h1 hb';omega
 have KY:∀b,g.Pr b->Fr b\/(F2 b\/Dd b)->False:=by
  intro b hb' hz;rcases hnew b hz with h3 | h3 | h3
  .exact st.ej r bM b h3.1 hb'
  .exact st.bK b h3 hb'
  .have:=st.bO b hb';omega
 have CD:∀b,g.B r=some b->Fr b\/(F2 b\/Dd b)->False:=by
  intro b hb' hz;rcases hnew b hz with h3 | h3 | h3
  .exact(js b hb').2 h3.2
  .exact st.hand r bM b (js b hb').1 h3
  .have:=st.b9 r b bM (js b hb').1;omega
 have CC:∀b,Fr b\/(F2 b\/Dd b)->b<h2.size:=by
  rintro b (hz | hz)
  .have:=st.b9 r b bM (vE b hz);omega
  .exact Wg b hz
 have CE:∀b,Fr b\/(F2 b\/Dd b)->g.L b:=by
  intro b hz;rcases hnew b hz with h3 | h3 | h3
  .exact st.own r b bM h3.1
  .exact st.e7 b h3
  .exact st.fV b h3
 have hkeep:∀a:AV,a.aR lo hi=true->a.dh h h2 S (S.aG r (some { R with ms:=m',x:=x' })) g g':=by
  intro a ha;refine AV.xl (lo:=lo) (hi:=hi) (fun r' p' hp=>?_) (fun r' p' s' hp hs'=>?_) a ha
  .by_cases e:r'=r
   .subst e;intro R' cg d' hf';rw[bJ,aj rfl]at cg;simp only[aK]at cg;subst cg;have gV:=u9 p' hf';obtain⟨n0,h1,_⟩:=BY p' Lu hp gV;obtain⟨y',h3⟩:=zu p' R.x h1;refine⟨R,_,hR,h3,fun si=>?_⟩;obtain⟨h4,h5⟩:=ia p' _ _ hp gV si;refine⟨h4,fun bs cc ha=>?_⟩;obtain⟨iP,h6,_⟩:=h5 bs cc ha;exact⟨iP,by simp only[g',aY];exact h6⟩
   .exact(nN (g':=g') st (.inl (by rw[bJ,af e])) (by simp only[g',af e]) rfl (fun h1 b hb'=>Um r' e h1 b hb')).1 p'
  .by_cases e:r'=r
   .subst e;intro R' cg t' mq xs hf';rw[bJ,aj rfl]at cg;simp only[aK]at cg;subst cg;have gV:=u9 p' hf';obtain⟨n0,h1,h3⟩:=BY p' Lu hp gV;rcases h3 with h3 | ⟨a,rfl,_⟩
    .exact absurd h3 hs'
    .obtain⟨y',h4⟩:=zu p' R.x h1;refine⟨R,a,y',hR,h4,fun si=>?_⟩;obtain⟨h5,h6⟩:=ia p' _ _ hp gV si;refine⟨h5,fun bs cc ha=>?_⟩;obtain⟨iP,h7,h8⟩:=h6 bs cc ha;rw[h8 _ _ rfl hs']at h7;simp only[g',aY];exact h7
   .exact(nN (g':=g') st (.inl (by rw[bJ,af e])) (by simp only[g',af e]) rfl (fun h1 b hb'=>Um r' e h1 b hb')).2 p' s'
 refine⟨g',?_,fun b hb'=>.inl hb',fun b hb'=>.inr (.inl hb'),⟨rfl,rfl,rfl⟩,rfl,I2,hkeep⟩;refine { len:=st.len,gw:=by simp[St.aG,aP.bS,st.gw],slots:=?_,roots:=?_,dY:=?_,ej:=?_,hand:=?_,bK:=?_,bO:=?_,b9:=?_,eg:=?_,tag:=?_,own:=?_,e7:=fun b hz=>hz.1.elim (st.e7 b) (fun h=>h.elim (fun h=>st.own r b bM (pY b h)) (fun h=>st.fV b h.1)),fV:=fun b hb'=>st.fV b (by omega),p0:=fun b hb'=>.inl (st.p0 b hb'),kY:=?_ }
 .intro t;rw[St.h_];exact(qe.keep (g':=g') (fun b hb'=>Or.inl hb') I2 _).1 _ (st.slots t) (hkeep _ (hs t))
 .intro r' R' cg;rw[bJ]at cg;by_cases e:r'=r
  .subst e;rw[aj rfl]at cg;simp only[aK]at cg;subst cg;refine⟨F3,by simp only[g',aY];exact r3,fun b hb'=>by simp only[g',aY];exact .inr hb',fun b e' hb'=>CD b e' (zj b hb'),fun mV=>?_,oV⟩;obtain⟨b,h1,h3,h4⟩:=hmem mV;refine⟨b,h1,by simp only[g',aY];exact .inl h1,?_⟩;simp only[g',aY,cn];by_cases hi':qx q=true
   .simp only[hi',aY];obtain⟨b',o,e1,e2⟩:=z.idx hi';refine h4.congr (hk b (st.b9 r' b bM h3) (fun hz=>hB b h1 (z.sub b hz)) fun o' e'=>?_);rw[e1]at e';simp only[aK,aZ]at e';obtain⟨rfl,_⟩:=e';exact hB _ h1 (z.fr _ e2)
   .have hi2:qx q=false:=by simpa using hi'
    obtain⟨e1,e2,e3⟩:=z.plain hi2;simp only[hi2,e8,dV];simp only[aA.base,h1,d7,kz]at e1;obtain⟨gz,ho,ht⟩:=hu b _ e1 _ h4;have:gz=(bP (g.C r') (eA R.ty q) c2).toArray:=by apply Array.toList_inj.1;rw[ht]
    rw[<-this];exact ho
  .rw[af e]at cg;have h1:(S.root r').isSome:=by rw[cg];rfl
   obtain⟨F1,q1,q2,q3,q4,q5⟩:=st.roots r' R' cg;refine⟨F1,?_,?_,q3,?_,q5⟩
   .simp only[g',af e];exact az.mono (fun b hb'=>.inl hb') I2 _ q1 (Sub.refl _) (fun b hb'=>Um r' e h1 b (q2 b hb'))
   .simp only[g',af e];exact q2
   .intro mV;obtain⟨b,h3,h4,h5⟩:=q4 mV;refine⟨b,h3,by simp only[g',af e];exact h4,?_⟩;simp only[g',af e];exact h5.congr (Um r' e h1 b h4)
 .intro r1 Dl hne h1 h3;have k1:=hsome _ h1;have k2:=hsome _ h3;intro b bN gu;by_cases e1:r1=r
  .subst e1;have e2:Dl≠r1:=fun e=>hne e.symm;simp only[g',aY]at bN;simp only[g',af e2]at gu;rcases bN with bN | bN
   .exact st.dY r1 Dl hne k1 k2 b (js b bN).1 gu
   .exact wV Dl e2 k2 b gu (zj b bN)
  .simp only[g',af e1]at bN;by_cases e2:Dl=r
   .subst e2;simp only[g',aY]at gu;rcases gu with gu | gu
    .exact st.dY r1 Dl hne k1 k2 b bN (js b gu).1
    .exact wV r1 e1 k1 b bN (zj b gu)
   .simp only[g',af e2]at gu;exact st.dY r1 Dl hne k1 k2 b bN gu
 .intro r1 h1;have k1:=hsome _ h1;rintro b bN (hz | hz)
  .by_cases e1:r1=r
   .subst e1;simp only[g',aY]at bN;rcases bN with bN | bN
    .exact st.ej r1 k1 b (js b bN).1 hz
    .exact KY b hz (zj b bN)
   .simp only[g',af e1]at bN;exact st.ej r1 k1 b bN hz
  .by_cases e1:r1=r
   .subst e1;simp only[g',aY]at bN;rcases bN with bN | bN
    .exact CD b bN (Ll b hz)
    .exact hz.elim (Wy b bN) (d3 b bN)
   .simp only[g',af e1]at bN;exact wV r1 e1 k1 b bN (Ll b hz)
 .intro r1 h1;have k1:=hsome _ h1;rintro b bN ⟨hz,Xx⟩;by_cases e1:r1=r
  .subst e1;simp only[g',aY]at bN;rcases bN with bN | bN
   .exact hz.elim (st.hand r1 k1 b (js b bN).1) (fun h=>h.elim (fun h=>(js b bN).2 (z.sub b h)) (fun h=>absurd (st.b9 r1 b k1 (js b bN).1) (by omega)))
   .rcases s3 b bN with h3 | h3
    .exact hz.elim (st.hand r1 k1 b (vE b h3)) (fun h=>h.elim (fun h=>z.dY b h h3) (fun h=>absurd (st.b9 r1 b k1 (vE b h3)) (by omega)))
    .exact Xx (.inl h3)
  .simp only[g',af e1]at bN;exact hz.elim (st.hand r1 k1 b bN) (fun h=>h.elim (fun h=>st.dY r1 r e1 k1 bM b bN (pY b h)) (fun h=>absurd (st.b9 r1 b k1 bN) (by omega)))
 .rintro b ⟨hz,Xx⟩ (hy | hy)
  .exact hz.elim (fun h=>st.bK b h hy) (fun h=>h.elim (fun h=>st.ej r bM b (pY b h) hy) (fun h=>absurd (st.bO b hy) (by omega)))
  .rcases Ll b hy with h3 | h3
   .exact hz.elim (st.hand r bM b (vE b h3)) (fun h=>h.elim (fun h=>z.dY b h h3) (fun h=>absurd (st.b9 r b bM (vE b h3)) (by omega)))
   .exact Xx h3
 .rintro b (hz | hz)
  .have:=st.bO b hz;omega
  .exact CC b (Ll b hz)
 .intro r1 b h1 bN;have k1:=hsome _ h1;by_cases e1:r1=r
  .subst e1;simp only[g',aY]at bN;rcases bN with bN | bN
   .have:=st.b9 r1 b k1 (js b bN).1;omega
   .exact CC b (zj b bN)
  .simp only[g',af e1]at bN;have:=st.b9 r1 b k1 bN;omega
 .rintro b ⟨hz | hz | hz,_⟩
  .have:=st.eg b hz;omega
  .have:=st.b9 r b bM (pY b hz);omega
  .exact hz.2
 .intro r' R' cg;rw[bJ]at cg;by_cases e:r'=r
  .subst e;rw[aj rfl]at cg;simp only[aK]at cg;subst cg;simp only[g',aY,cn];exact aL.put q hput (st.tag r' R hR) ni oF (az.width R.ty rep) g8
  .rw[af e]at cg;simp only[g',af e];exact st.tag r' R' cg
 .intro r1 b h1 bN;have k1:=hsome _ h1;by_cases e1:r1=r
  .subst e1;simp only[g',aY]at bN;rcases bN with bN | bN
   .exact st.own r1 b k1 (js b bN).1
   .exact CE b (zj b bN)
  .simp only[g',af e1]at bN;exact st.own r1 b k1 bN
 .rintro b (hz | hz)
  .exact st.kY b hz
  .exact .inr (CE b (Ll b hz))
theorem aD.grow{h h2:Array Obj}{S:St}{g:aA}{tmps:Array Value}{H:BS}(st:aD h S g tmps H)(hk:∀b,b<h.size->h2[b]? = h[b]?)(hsz:h.size<=h2.size)
  (H2:BS) (zQ:∀b,H2 b->H b\/(h.size<=b/\b<h2.size)):aD h2 S g tmps H2 where
 len:=st.len
 gw:=st.gw
 slots:=by
  intro t;refine(qe.keep (Sub.refl _) (fun b hb=>hk b (st.bO b hb)) _).1 _ (st.slots t) (AV.d8 (fun r p=>?_) (fun r p s=>?_) _)
  .exact(nN st (.inl rfl) rfl rfl (fun h1 b hb=>hk b (st.b9 r b h1 hb))).1 p
  .exact(nN st (.inl rfl) rfl rfl (fun h1 b hb=>hk b (st.b9 r b h1 hb))).2 p s
 roots:=by
  intro r R hR;have h1:(S.root r).isSome:=by rw[hR];rfl
  obtain⟨F,q1,q2,q3,q4,q5⟩:=st.roots r R hR;refine⟨F,az.mono (Sub.refl _) (fun b hb=>hk b (st.bO b hb)) _ q1 (Sub.refl _) (fun b hb=>hk b (st.b9 r b h1 (q2 b hb))),q2,q3,?_,q5⟩;intro hm;obtain⟨b,e1,e2,e3⟩:=q4 hm;exact⟨b,e1,e2,e3.congr (hk b (st.b9 r b h1 e2))⟩
 dY:=st.dY
 ej:=st.ej
 hand:=by
  intro r h1 b hb hz;rcases zQ b hz with h3 | h3
  .exact st.hand r h1 b hb h3
  .have:=st.b9 r b h1 hb;omega
 bK:=by
  intro b hz hb;rcases zQ b hz with h3 | h3
  .exact st.bK b h3 hb
  .have:=st.bO b hb;omega
 bO:=fun b hb=>by have:=st.bO b hb;omega
 b9:=fun r b h1 hb=>by have:=st.b9 r b h1 hb;omega
 eg:=by
  intro b hz;rcases zQ b hz with h3 | h3
  .have:=st.eg b h3;omega
  .exact h3.2
 tag:=st.tag
 own:=st.own
 e7:=by
  intro b hz;rcases zQ b hz with h3 | h3
  .exact st.e7 b h3
  .exact st.fV b h3.1
 fV:=fun b hb=>st.fV b (by omega)
 p0:=st.p0
 kY:=st.kY
theorem qe.grow{h h2:Array Obj}{S:St}{g:aA}{tmps:Array Value}{H:BS}(st:aD h S g tmps H)(hk:∀b,b<h.size->h2[b]? = h[b]?){a:AV}{v:Value}
  (x:qe h S g a v):qe h2 S g a v:=by
 refine(qe.keep (Sub.refl _) (fun b hb=>hk b (st.bO b hb)) _).1 _ x (AV.d8 (fun r p=>?_) (fun r p s=>?_) _)
 .exact(nN st (.inl rfl) rfl rfl (fun h1 b hb=>hk b (st.b9 r b h1 hb))).1 p
 .exact(nN st (.inl rfl) rfl rfl (fun h1 b hb=>hk b (st.b9 r b h1 hb))).2 p s
theorem aD.cO{h:Array Obj}{S:St}{g:aA}{tmps:Array Value}{H:BS}(st:aD h S g tmps H)(D:BS)(hD:Sub D H) :
  aD h S { g with Pr:=Un g.Pr D } tmps (fun b=>H b/\¬ D b) where
 len:=st.len
 gw:=st.gw
 slots:=by
  intro t;refine(qe.keep (g':={ g with Pr:=Un g.Pr D }) (fun b hb=>Or.inl hb) (fun _ _=>rfl) _).1 _ (st.slots t) (AV.d8 (fun r p=>?_) (fun r p s=>?_) _)
  .exact(nN (g':={ g with Pr:=Un g.Pr D }) st (.inl rfl) rfl rfl (fun _ _ _=>rfl)).1 p
  .exact(nN (g':={ g with Pr:=Un g.Pr D }) st (.inl rfl) rfl rfl (fun _ _ _=>rfl)).2 p s
 roots:=by intro r R hR;obtain⟨F,q1,q2⟩:=st.roots r R hR;exact⟨F,az.mono (fun b hb=>.inl hb) (fun _ _=>rfl) _ q1 (Sub.refl _) (fun _ _=>rfl),q2⟩
 dY:=st.dY
 ej:=by
  rintro r h1 b hb (hz | hz)
  .exact st.ej r h1 b hb hz
  .exact st.hand r h1 b hb (hD b hz)
 hand:=fun r h1 b hb hz=>st.hand r h1 b hb hz.1
 bK:=by
  rintro b ⟨hz,hn⟩ (hb | hb)
  .exact st.bK b hz hb
  .exact hn hb
 bO:=by
  rintro b (hb | hb)
  .exact st.bO b hb
  .exact st.eg b (hD b hb)
 b9:=st.b9
 eg:=fun b hz=>st.eg b hz.1
 tag:=st.tag
 own:=st.own
 e7:=fun b hz=>st.e7 b hz.1
 fV:=st.fV
 p0:=fun b hb=>.inl (st.p0 b hb)
 kY:=by
  rintro b (hb | hb)
  .exact st.kY b hb
  .exact .inr (st.e7 b (hD b hb))
theorem aD.bx{h:Array Obj}{S:St}{g:aA}{tmps:Array Value}{H H':BS}(st:aD h S g tmps H)(hs:Sub H' H):aD h S g tmps H' where
 len:=st.len
 gw:=st.gw
 slots:=st.slots
 roots:=st.roots
 dY:=st.dY
 ej:=st.ej
 hand:=fun r h1 b hb hz=>st.hand r h1 b hb (hs b hz)
 bK:=fun b hz hb=>st.bK b (hs b hz) hb
 bO:=st.bO
 b9:=st.b9
 eg:=fun b hz=>st.eg b (hs b hz)
 tag:=st.tag
 own:=st.own
 e7:=fun b hz=>st.e7 b (hs b hz)
 fV:=st.fV
 p0:=st.p0
 kY:=st.kY
theorem MC{a b:Nat}:Nat.beq a b=true↔a=b:=⟨mR,fun e=>e ▸ Nat.beq_refl a⟩
theorem AV.uq{lo hi d:Nat}{h h':Array Obj}{S S':St}{g g':aA}(hA:∀r p,r≠d->tL h h' S S' g g' r p)(hB:∀r p s,r≠d->qZ h h' S S' g g' r p s)
  (dA:∀p,jD lo hi p=true->qx p=true->tL h h' S S' g g' d p)
  (dB:∀p s,jD lo hi p=true->¬ (lo<=s/\s<hi)->qZ h h' S S' g g' d p s):∀a:AV,a.aR lo hi=true->a.gG d=true->a.dh h h' S S' g g':=by
 have hs:∀s,(!(Nat.ble lo s&&Nat.blt s hi))=true->¬ (lo<=s/\s<hi):=by intro s h1 h2;rw[Nq h2]at h1;simp at h1
 intro a
 induction a with
 | b7 r p s=>
  intro h1 _;simp only[AV.aR,bH]at h1;by_cases e:r=d
  .subst e;exact dB p s h1.2 (hs s h1.1)
  .exact hB r p s e
 | view r p s l1 tW=>
  intro h1 _;simp only[AV.aR,bH]at h1;by_cases e:r=d
  .subst e;exact dB p s h1.2 (hs s h1.1)
  .exact hB r p s e
 | addr r p=>
  intro h1 h2;by_cases e:r=d
  .subst e;simp only[AV.gG,Nat.beq_refl,cQ,qV]at h2;exact dA p h1 h2
  .exact hA r p e
 | pair a b fQ kR=>intro h1 h2;simp only[AV.aR,AV.gG,bH]at h1 h2;exact⟨fQ h1.1 h2.1,kR h1.2 h2.2⟩
 | jF a fQ=>intro h1 h2;exact fQ h1 h2
 | gE f a fQ=>intro h1 h2;exact fQ h1 h2
 | _=>intro _ _;trivial
theorem AV.um{d:Nat}{h h':Array Obj}{S S':St}{g g':aA}(hA:∀r p,r≠d->tL h h' S S' g g' r p)(hB:∀r p s,r≠d->qZ h h' S S' g g' r p s) :
  ∀a:AV,a.roots.contains d=false->a.dh h h' S S' g g':=by
 intro a
 induction a with
 | b7 r p s=>intro h1;exact hB r p s (by simp[AV.roots]at h1;exact fun e=>h1 e.symm)
 | view r p s _ _=>intro h1;exact hB r p s (by simp[AV.roots]at h1;exact fun e=>h1 e.symm)
 | addr r p=>intro h1;exact hA r p (by simp[AV.roots]at h1;exact fun e=>h1 e.symm)
 | pair a b fQ kR=>intro h1;simp only[AV.roots,Y1,nH,bL,n6]at h1;exact⟨fQ (by simpa using h1.1),kR (by simpa using h1.2)⟩
 | jF a fQ=>intro h1;exact fQ (by simpa [AV.roots] using h1)
 | gE f a fQ=>intro h1;exact fQ (by simpa [AV.roots] using h1)
 | _=>intro _;trivial
theorem aD.kT{h:Array Obj}{S:St}{g:aA}{tmps:Array Value}{H:BS}(st:aD h S g tmps H){d:Nat}(hd:d<S.rt.length)
  {t:Ty} {m:Mk} {x:t.den} {c:List Value} {F:BS} (rep:az h g.Pr t m x c F) (ni:aL g.hd t m c) (hF:Sub F H) (ob:Option Nat)
  (wW:∀b,ob=some b->H b/\¬ F b/\ju h b c.toArray)
  (hs:∀u,(S.get u).roots.contains d=false\/(∃lo hi,(S.get u).aR lo hi=true/\(S.get u).gG d=true/\m.fresh lo hi/\ob=none)) :
  ∃g',aD h (S.aG d (some ⟨t,m,x,ob.isSome⟩)) g' tmps (fun b=>H b/\¬ F b/\ob≠some b)/\g'.Pr=g.Pr/\g'.cR g/\g'.C d=c/\g'.B d=ob/\
   ∀a:AV,(a.roots.contains d=false\/(∃lo hi,a.aR lo hi=true/\a.gG d=true/\m.fresh lo hi/\ob=none))->a.dh h h S (S.aG d (some ⟨t,m,x,ob.isSome⟩)) g g':=by
 let g':aA:=⟨g.Pr,fun r1=>if r1=d then c else g.C r1,fun r1=>if r1=d then ob else g.B r1,fun r1=>if r1=d then (fun b=>F b\/ob=some b) else g.G r1,g.hd,g.L,g.P0⟩
 have bJ:∀r',(S.aG d (some ⟨t,m,x,ob.isSome⟩)).root r'=if r'=d then some ⟨t,m,x,ob.isSome⟩ else S.root r':=by intro r';rw[St.bY];simp[hd]
 have hsome:∀r',r'≠d->((S.aG d (some ⟨t,m,x,ob.isSome⟩)).root r').isSome->(S.root r').isSome:=by intro r' hne h1;rwa [bJ,af hne]at h1
 have Cv:∀b,(F b\/ob=some b)->H b:=by
  rintro b (hb | hb)
  .exact hF b hb
  .exact(wW b hb).1
 have hA:∀r p,r≠d->tL h h S (S.aG d (some ⟨t,m,x,ob.isSome⟩)) g g' r p:=fun r p e=>
  (nN (g':=g') st (.inl (by rw[bJ,af e])) (by simp only[g',af e]) (by simp only[g',af e]) (fun _ _ _=>rfl)).1 p
 have hB:∀r p s,r≠d->qZ h h S (S.aG d (some ⟨t,m,x,ob.isSome⟩)) g g' r p s:=fun r p s e=>
  (nN (g':=g') st (.inl (by rw[bJ,af e])) (by simp only[g',af e]) (by simp only[g',af e]) (fun _ _ _=>rfl)).2 p s
 have hkeep:∀a:AV,(a.roots.contains d=false\/(∃lo hi,a.aR lo hi=true/\a.gG d=true/\m.fresh lo hi/\ob=none))->a.dh h h S (S.aG d (some ⟨t,m,x,ob.isSome⟩)) g g':=by
  intro a hsa;rcases hsa with h1 | ⟨lo,hi,h1,h2,h3,h4⟩
  .exact AV.um hA hB _ h1
  .refine AV.uq (lo:=lo) (hi:=hi) (d:=d) hA hB (fun p hp hi'=>?_) (fun p s hp hs'=>?_) _ h1 h2
   .intro R' cg d' hf';rw[bJ,aj rfl]at cg;simp only[aK]at cg;subst cg;have:=(C6 p h3 hp (u9 p hf')).1;rw[this]at hi';simp at hi'
   .intro R' cg t' mq xs hf';rw[bJ,aj rfl]at cg;simp only[aK]at cg;subst cg;exact absurd (C6 p h3 hp (u9 p hf')).2 hs'
 refine⟨g',?_,rfl,⟨rfl,rfl,rfl⟩,by simp[g'],by simp[g'],hkeep⟩;refine { len:=st.len,gw:=by simp[St.aG,aP.bS,st.gw],slots:=?_,roots:=?_,dY:=?_,ej:=?_,hand:=?_,bK:=fun b hz hb=>st.bK b hz.1 hb,bO:=st.bO,b9:=?_,eg:=fun b hz=>st.eg b hz.1,tag:=?_,own:=?_,e7:=fun b hz=>st.e7 b hz.1,fV:=st.fV,p0:=st.p0,kY:=st.kY }
 .intro u;rw[St.h_];exact(qe.keep (g:=g) (g':=g') (Sub.refl _) (fun _ _=>rfl) _).1 _ (st.slots u) (hkeep _ (hs u))
 .intro r' R' cg;rw[bJ]at cg;by_cases e:r'=d
  .subst e;rw[aj rfl]at cg;simp only[aK]at cg;subst cg;refine⟨F,by simp only[g',aY];exact rep,fun b hb=>by simp only[g',aY];exact .inl hb,fun b e' hb=>?_,fun hm=>?_,fun hm=>?_⟩
   .simp only[g',aY]at e';exact(wW b e').2.1 hb
   .simp only[xX]at hm;obtain⟨b,hm⟩:=hm;exact⟨b,by simp only[g',aY];exact hm,by simp only[g',aY];exact .inr hm,by simp only[g',aY];exact(wW b hm).2.2⟩
   .simp only[g',aY];cases ob with
    | none=>rfl
    | some b=>simp at hm
  .rw[af e]at cg;obtain⟨F1,q1,q2,q3,q4,q5⟩:=st.roots r' R' cg;exact⟨F1,by simp only[g',af e];exact q1,by simp only[g',af e];exact q2,by simp only[g',af e];exact q3,by simp only[g',af e];exact q4,by simp only[g',af e];exact q5⟩
 .intro r1 r2 hne h1 h2 b bN gu;by_cases e1:r1=d
  .subst e1;have e2:r2≠r1:=fun e=>hne e.symm;simp only[g',aY]at bN;simp only[g',af e2]at gu;exact st.hand r2 (hsome _ e2 h2) b gu (Cv b bN)
  .simp only[g',af e1]at bN;by_cases e2:r2=d
   .subst e2;simp only[g',aY]at gu;exact st.hand r1 (hsome _ e1 h1) b bN (Cv b gu)
   .simp only[g',af e2]at gu;exact st.dY r1 r2 hne (hsome _ e1 h1) (hsome _ e2 h2) b bN gu
 .intro r1 h1 b bN hp;by_cases e1:r1=d
  .subst e1;simp only[g',aY]at bN;exact st.bK b (Cv b bN) hp
  .simp only[g',af e1]at bN;exact st.ej r1 (hsome _ e1 h1) b bN hp
 .rintro r1 h1 b bN ⟨hz,hn,hn2⟩;by_cases e1:r1=d
  .subst e1;simp only[g',aY]at bN;rcases bN with bN | bN
   .exact hn bN
   .exact hn2 bN
  .simp only[g',af e1]at bN;exact st.hand r1 (hsome _ e1 h1) b bN hz
 .intro r1 b h1 bN;by_cases e1:r1=d
  .subst e1;simp only[g',aY]at bN;exact st.eg b (Cv b bN)
  .simp only[g',af e1]at bN;exact st.b9 r1 b (hsome _ e1 h1) bN
 .intro r' R' cg;rw[bJ]at cg;by_cases e:r'=d
  .subst e;rw[aj rfl]at cg;simp only[aK]at cg;subst cg;simp only[g',aY];exact ni
  .rw[af e]at cg;simp only[g',af e];exact st.tag r' R' cg
 .intro r1 b h1 bN;by_cases e1:r1=d
  .subst e1;simp only[g',aY]at bN;exact st.e7 b (Cv b bN)
  .simp only[g',af e1]at bN;exact st.own r1 b (hsome _ e1 h1) bN
theorem aD.wC{h:Array Obj}{S:St}{g:aA}{tmps:Array Value}{H:BS}(st:aD h S g tmps H)(d:Nat):aD h (S.aG d none) g tmps H:=by
 have bJ:∀r',(S.aG d none).root r'=S.root r'\/(S.aG d none).root r'=none:=by intro r';rw[St.bY];by_cases e:r'=d/\d<S.rt.length<;>simp[e]
 have hsome:∀r',((S.aG d none).root r').isSome->(S.root r').isSome:=by
  intro r' h1;rcases bJ r' with e | e
  .rwa [e]at h1
  .rw[e]at h1;simp at h1
 refine { len:=st.len,gw:=by simp[St.aG,aP.bS,st.gw],slots:=?_,roots:=?_,dY:=fun r r' hn h1 h2=>st.dY r r' hn (hsome _ h1) (hsome _ h2),ej:=fun r h1=>st.ej r (hsome _ h1),hand:=fun r h1=>st.hand r (hsome _ h1),bK:=st.bK,bO:=st.bO,b9:=fun r b h1 hb=>st.b9 r b (hsome _ h1) hb,eg:=st.eg,tag:=?_,own:=fun r b h1 hb=>st.own r b (hsome _ h1) hb,e7:=st.e7,fV:=st.fV,p0:=st.p0,kY:=st.kY }
 .intro t;rw[St.h_];refine(qe.keep (Sub.refl _) (fun _ _=>rfl) _).1 _ (st.slots t) (AV.d8 (fun r p=>?_) (fun r p s=>?_) _)
  .exact(nN st (bJ r) rfl rfl (fun _ _ _=>rfl)).1 p
  .exact(nN st (bJ r) rfl rfl (fun _ _ _=>rfl)).2 p s
 .intro r R hR;rcases bJ r with e | e
  .rw[e]at hR;exact st.roots r R hR
  .rw[e]at hR;simp at hR
 .intro r R hR;rcases bJ r with e | e
  .rw[e]at hR;exact st.tag r R hR
  .rw[e]at hR;simp at hR
theorem aD.update{h:Array Obj}{S:St}{g:aA}{tmps:Array Value}{H:BS}(st:aD h S g tmps H){r:Nat}{R:aB}{q:Path}{d:Dy}
  (hR:S.root r=some R) (hf:focus R.ty R.ms R.x q=some d) (hin:bt R.ty R.x q) :
  ∃base c F,cm h R.ty (g.C r) (g.base r) q=some (base,c)/\az h g.Pr d.ty d.ms d.x c F/\Sub F (g.G r)/\yG h base c F/\
   (∀b o,base=some (b,o)->g.G r b)/\
   ∀(lo hi:Nat)(h2:Array Obj)(m2:Mk)(y:d.ty.den)(c2:List Value)(F2:BS)(m':Mk)(x':R.ty.den),
    (∀t,(S.get t).aR lo hi=true)->
    (∀b,b<h.size->¬ F b->(∀o,base≠some (b,o))->h2[b]? = h[b]?)->h.size<=h2.size->yW h h2 base c2->
    az h2 g.Pr d.ty m2 y c2 F2->(∀b,F2 b->F b\/H b\/h.size<=b)->(∀b,F2 b->b<h2.size)->
    put R.ty R.ms R.x q d.ty m2 y=some (m',x')->d.ms.nE lo hi m2->aL g.hd d.ty m2 c2->(qx q=true->m2.ax=true)->
    (∀p' t1 n1,jD lo hi p'=true->q8 d.ty m2 p'=some (t1,n1)->bt d.ty d.x p'->bt d.ty y p'/\∀bp cp,cm h d.ty c base p'=some (bp,cp)->
     ∃iP,cm h2 d.ty c2 base p'=some (bp,iP)/\(∀s a,n1=.own s a->¬ (lo<=s/\s<hi)->iP=cp))->
    ∃g',aD h2 (S.aG r (some { R with ms:=m',x:=x' })) g' tmps (fun b=>H b/\¬ F2 b)/\Sub g.Pr g'.Pr/\g'.cR g/\g'.B=g.B/\(∀b,g.Pr b->h2[b]? = h[b]?)/\
     ∀a:AV,a.aR lo hi=true->a.dh h h2 S (S.aG r (some { R with ms:=m',x:=x' })) g g':=by
 obtain⟨base,c,F,q1,q2,q3,q4,q5,q6⟩:=st.m4 hR hf hin;refine⟨base,c,F,q1,q2,q3,q4,q5,?_⟩;intro lo hi h2 m2 y c2 F2 m' x' p1 p2 p3 p4 p5 p6 p7 p8 p9 jO j8 kX;obtain⟨g',k1,k2,k3,k4,k5,k6,k7⟩:=q6 lo hi h2 m2 y c2 F2 Nil m' x' p1 p2 p3 p4 (az.mono (fun b hb=>.inl hb) (fun _ _=>rfl) _ p5 (Sub.refl _) (fun _ _=>rfl)) (cv.nil _)
  (fun b hb=>p6 b (hb.resolve_right id)) (fun b hb=>p7 b (hb.resolve_right id)) p8 p9 jO j8 kX
 exact⟨g',k1.bx (fun b hb=>⟨.inl hb.1,fun h=>h.elim hb.2 id⟩),k2,k4,k5,k6,k7⟩
theorem aD.gA{h:Array Obj}{S:St}{g:aA}{tmps:Array Value}{H:BS}(st:aD h S g tmps H){d:Nat}(hd:(S.root d).isSome) :
  aD h (S.aG d none) g tmps (fun b=>H b\/g.G d b):=by
 have s0:=st.wC d;have hlt:d<S.rt.length:=by obtain⟨R,hR⟩:=xX.1 hd;exact St.pe hR
 have hn:∀r,((S.aG d none).root r).isSome->r≠d/\(S.root r).isSome:=by
  intro r h1;rw[St.bY]at h1;by_cases e:r=d
  .subst e;simp[hlt]at h1
  .rw[af (fun h=>e h.1)]at h1;exact⟨e,h1⟩
 refine { s0 with hand:=?_,bK:=?_,eg:=?_,e7:=?_ }
 .rintro r h1 b hb (hz | hz)
  .exact s0.hand r h1 b hb hz
  .exact st.dY r d (hn r h1).1 (hn r h1).2 hd b hb hz
 .rintro b (hz | hz) hp
  .exact st.bK b hz hp
  .exact st.ej d hd b hz hp
 .rintro b (hz | hz)
  .exact st.eg b hz
  .exact st.b9 d b hd hz
 .rintro b (hz | hz)
  .exact st.e7 b hz
  .exact st.own d b hd hz
end Go.V
namespace Go.V
noncomputable section
open Go
theorem uT:∀(p q:Path){t:Ty}{m:Mk}{x:t.den}{d:Dy},focus t m x p=some d->focus t m x (p++q)=focus d.ty d.ms d.x q
 | [],q,t,m,x,d,h=>by simp only[focus,aK]at h;subst h;rfl
 | .fst::p,q,t,m,x,d,h=>by
  cases t with
  | pair a b=>simp only[focus,fE]at h⊢;exact uT p q h
  | _=>simp[focus]at h
 | .snd::p,q,t,m,x,d,h=>by
  cases t with
  | pair a b=>simp only[focus,fE]at h⊢;exact uT p q h
  | _=>simp[focus]at h
 | .idx i s'::p,q,t,m,x,d,h=>by
  cases t with
  | sl e=>
   cases m with
   | own s mi=>
    simp only[focus,fE]at h⊢;split at h
    .rename_i hs;simp only[hs,aY];exact uT p q h
    .simp at h
   | _=>simp[focus]at h
  | _=>simp[focus]at h
theorem yC:∀(p q:Path){t:Ty}{m:Mk}{x:t.den}{d:Dy},focus t m x p=some d->(bt t x (p++q)↔bt t x p/\bt d.ty d.x q)
 | [],q,t,m,x,d,h=>by
  simp only[focus,aK]at h;subst h;have:bt t x []=True:=by cases t<;>rfl
  simp[this]
 | .fst::p,q,t,m,x,d,h=>by
  cases t with
  | pair a b=>simp only[focus,fE,bt]at h⊢;exact yC p q h
  | _=>simp[focus]at h
 | .snd::p,q,t,m,x,d,h=>by
  cases t with
  | pair a b=>simp only[focus,fE,bt]at h⊢;exact yC p q h
  | _=>simp[focus]at h
 | .idx i s'::p,q,t,m,x,d,h=>by
  cases t with
  | sl e=>
   cases m with
   | own s mi=>
    simp only[focus,fE,bt]at h⊢;split at h
    .rw[yC p q h,and_assoc]
    .simp at h
   | _=>simp[focus]at h
  | _=>simp[focus]at h
theorem u7{hp:Array Obj}:∀(p q:Path){t:Ty}{m:Mk}{x:t.den}{d:Dy}{c:List Value}{base base':fH}{c':List Value},focus t m x p=some d->
  cm hp t c base p=some (base',c')->cm hp t c base (p++q)=cm hp d.ty c' base' q
 | [],q,t,m,x,d,c,base,base',c',hf,h=>by
  simp only[focus,aK]at hf;subst hf;have e:cm hp t c base []=some (base,c):=by cases t<;>rfl
  rw[e]at h;simp only[aK,aZ]at h;obtain⟨rfl,rfl⟩:=h;rfl
 | .fst::p,q,t,m,x,d,c,base,base',c',hf,h=>by
  cases t with
  | pair a b=>simp only[focus,fE,cm]at hf h⊢;exact u7 p q hf h
  | _=>simp[focus]at hf
 | .snd::p,q,t,m,x,d,c,base,base',c',hf,h=>by
  cases t with
  | pair a b=>simp only[focus,fE,cm]at hf h⊢;exact u7 p q hf h
  | _=>simp[focus]at hf
 | .idx i s'::p,q,t,m,x,d,c,base,base',c',hf,h=>by
  cases t with
  | sl e=>
   cases m with
   | own s mi=>
    simp only[focus]at hf;split at hf
    .simp only[fE,cm]at h⊢;split at h
     .rename_i b n k;split at h
      .rename_i cs e1 e2 hb;exact u7 p q hf h
      .simp at h
     .simp at h
    .simp at hf
   | _=>simp[focus]at hf
  | _=>simp[focus]at hf
theorem Es{h:Array Obj}{S:St}{g:aA}{r:Nat}{R:aB}(hR:S.root r=some R) :
  ∀(t:Ty)(m:Mk)(x:t.den)(p:Path)(base:fH)(c:List Value)(F:BS),focus R.ty R.ms R.x p=some ⟨t,m,x⟩->bt R.ty R.x p->
   cm h R.ty (g.C r) (g.base r) p=some (base,c)->az h g.Pr t m x c F->dc h S g (cV r t m x p) c
 | .unit,m,x,p,base,c,F,_,_,_,r=>by simp only[az]at r;simp only[cV,dc];exact r
 | .int k,m,x,p,base,c,F,_,_,_,r=>by simp only[cV,dc];simpa only [az] using r
 | .bool,m,x,p,base,c,F,_,_,_,r=>by simp only[cV,dc];simpa only [az] using r
 | .str,m,x,p,base,c,F,_,_,_,r=>by simp only[cV,dc];simpa only [az] using r
 | .pair a b,m,x,p,base,c,F,hf,hin,ef,r=>by
  unfold cV;by_cases hs:m.still=true
  .simp only[hs,aY,dc];exact az.eK _ hs r
  .simp only[hs,e8,dV,dc];simp only[az]at r;obtain⟨ca,cb,Fa,Fb,rfl,ra,rb,sa,sb,dd⟩:=r;have wa:=az.width a ra;refine⟨ca,cb,rfl,?_,?_⟩
   .refine Es hR a m.fst x.1 (p++[.fst]) base ca Fa ?_ ?_ ?_ ra
    .rw[uT p _ hf];simp[focus]
    .rw[yC p _ hf];exact⟨hin,by simp only[bt]⟩
    .rw[u7 p _ hf ef];simp only[cm];rw[<-wa,jm rfl]
   .refine Es hR b m.snd x.2 (p++[.snd]) (base.map fun z=>(z.1,z.2+a.width)) cb Fb ?_ ?_ ?_ rb
    .rw[uT p _ hf];simp[focus]
    .rw[yC p _ hf];exact⟨hin,by simp only[bt]⟩
    .rw[u7 p _ hf ef];simp only[cm];rw[<-wa,iZ rfl]
 | .sl t,m,x,p,base,c,F,hf,hin,ef,r=>by
  cases m with
  | no=>simp only[cV,dc];exact az.eK _ rfl r
  | gone=>simp only[cV,dc]
  | pr _ _=>simp only[cV,dc];simpa only [az] using r
  | own s mi=>simp only[cV,dc];obtain⟨a,n,k,rfl⟩:=az.slice r;refine⟨_,rfl,fun R' cg t' m' xs hf'=>?_⟩;rw[hR]at cg;simp only[aK]at cg;subst cg;exact⟨hin,base,ef⟩
theorem dc.rel{h:Array Obj}{S:St}{g:aA}{r:Nat}{t:Ty}{m:Mk}{x:t.den}{p:Path}{c:List Value}{F:BS}(rep:az h g.Pr t m x c F)
  (y:dc h S g (cV r t m x p) c) (hu:t≠.unit):qe h S g (cV r t m x p) (dJ t c):=by
 cases t with
 | unit=>exact absurd rfl hu
 | int k=>simp only[cV,dc]at y;simp only[cV,qe];exact⟨c,y,rfl⟩
 | bool=>simp only[cV,dc]at y;simp only[cV,qe];exact⟨c,y,rfl⟩
 | str=>simp only[cV,dc]at y;simp only[cV,qe];exact⟨c,y,rfl⟩
 | pair a b=>
  unfold cV at y⊢;by_cases hs:m.still=true
  .simp only[hs,aY,dc]at y;simp only[hs,aY,qe];exact⟨c,y,rfl⟩
  .simp only[hs,e8,dV,dc]at y;simp only[hs,e8,dV,qe];obtain⟨ca,cb,rfl,y1,y2⟩:=y;exact⟨ca,cb,rfl,y1,y2⟩
 | sl t=>
  cases m with
  | no=>simp only[cV,dc]at y;simp only[cV,qe];exact⟨c,y,rfl⟩
  | gone=>simp only[cV,qe]
  | pr _ _=>simp only[cV,dc]at y;simp only[cV,qe];exact⟨c,y,rfl⟩
  | own s mi=>simp only[cV,dc]at y;obtain⟨v,rfl,y⟩:=y;simp only[cV,qe,dJ,Ty.agg,e8,dV,EI];exact y
theorem C8{a b:Ty}{x:a.den}{y:b.den}(h:qbv a b x=some y):∃e:a=b,e ▸ x=y:=by
 unfold qbv at h;split at h
 .rename_i e;exact⟨e,by simpa using h⟩
 .simp at h
theorem az.cast{h:Array Obj}{Pr:BS}{a b:Ty}{m:Mk}{x:a.den}{y:b.den}{c:List Value}{F:BS}(e:qbv a b x=some y)(r:az h Pr a m x c F):a=b/\az h Pr b m y c F:=by obtain⟨rfl,rfl⟩:=C8 e;exact⟨rfl,r⟩
def yX(S:St)(g:aA):BS:=fun b=>g.Pr b\/∃r,(S.root r).isSome/\g.G r b
theorem L9{h:Array Obj}{S:St}{g:aA}{tmps:Array Value}{H:BS}(st:aD h S g tmps H){r:Nat}{p:Path}{s s':Nat}{t':Ty}{m:Mk}{xs:(Ty.sl t').den}{v:Value}
  (hf:S.focus r p=some ⟨.sl t',.own s' m,xs⟩) (hs:s=s') (x:qO h S g r p s v) :
  ∃R base F,S.root r=some R/\focus R.ty R.ms R.x p=some ⟨.sl t',.own s' m,xs⟩/\bt R.ty R.x p/\cm h R.ty (g.C r) (g.base r) p=some (base,[v])/\
   az h g.Pr (.sl t') (.own s' m) xs [v] F/\Sub F (g.G r):=by
 simp only[St.focus,aP.focus]at hf;split at hf
 .rename_i R hR;subst hs;obtain⟨hin,base,ef⟩:=x R hR t' m xs hf;obtain⟨F0,rep,hF,hB,hmem,oV⟩:=st.roots r R hR;obtain⟨base',c',F,Fr,z⟩:=zip p _ _ _ _ F0 _ _ rep hf hin (st.r9 hR rep hB hmem oV);have:=z.at_;rw[ef]at this;simp only[aK,aZ]at this;obtain⟨rfl,rfl⟩:=this;exact⟨R,base,F,hR,hf,hin,ef,z.rep,fun b hb=>hF b (z.sub b hb)⟩
 .simp at hf
theorem Bq{h:Array Obj}{S:St}{g:aA}{tmps:Array Value}{H:BS}(st:aD h S g tmps H):∀(t:Ty){a:AV}{x:t.den}{c:List Value},
  rd S.rt t a=some x->dc h S g a c->az h (yX S g) t .no x c Nil
 | t,a,x,c,hr,y=>by
  have hval:∀(t:Ty)(x:t.den)(t':Ty)(x':t'.den),qbv t' t x'=some x->az h g.Pr t' .no x' c Nil->az h (yX S g) t .no x c Nil:=by intro t x t' x' e r;exact az.mono (fun b hb=>Or.inl hb) (fun _ _=>rfl) t (az.cast e r).2 (Sub.refl _) (fun _ _=>rfl)
  cases a with
  | val t' x'=>cases t<;>(simp only[rd]at hr;simp only[dc]at y;exact hval _ _ _ _ hr y)
  | unit=>
   cases t with
   | unit=>simp only[dc]at y;simp only[az];exact y
   | _=>simp[rd]at hr
  | b7 r p s=>
   cases t with
   | sl e=>
    simp only[rd]at hr;simp only[dc]at y;obtain⟨v,rfl,y⟩:=y;split at hr
    .rename_i t' s' m xs hf;split at hr
     .rename_i hs;obtain⟨R,base,F,Kw,_,_,_,rep,hF⟩:=L9 st hf hs.1 y;have bM:(S.root r).isSome:=by rw[Kw];rfl
      have r2:=az.share _ (by simpa [Mk.whole] using hs.2) rep;have r3:=az.mono (fN:=yX S g) (fun b hb=>hb.elim .inl (fun hb=>.inr ⟨r,bM,hF b hb⟩)) (fun _ _=>rfl) _ r2 (Sub.refl _) (fun _ _=>rfl);exact(az.cast hr r3).2
     .simp at hr
    .simp at hr
   | _=>simp[rd]at hr
  | pair u v=>
   cases t with
   | pair a b=>
    simp only[rd]at hr;simp only[dc]at y;obtain⟨ca,cb,rfl,y1,y2⟩:=y;cases h1:rd S.rt a u with
    | none=>rw[h1]at hr;simp at hr
    | some x1=>
     rw[h1]at hr;simp only[dw]at hr;cases h2:rd S.rt b v with
     | none=>rw[h2]at hr;simp at hr
     | some x2=>rw[h2]at hr;simp only[dw,aK]at hr;subst hr;simp only[az];exact⟨ca,cb,Nil,Nil,rfl,Bq st a h1 y1,Bq st b h2 y2,Sub.nil _,Sub.nil _,cv.nil _⟩
   | _=>simp[rd]at hr
  | undef=>cases t<;>simp[rd]at hr
  | _=>simp only[dc]at y
theorem qM{h:Array Obj}{S:St}{g:aA}{tmps:Array Value}{H:BS}(st:aD h S g tmps H)(t:Ty){a:AV}{x:t.den}{v:Value}
  (hr:rd S.rt t a=some x) (y:qe h S g a v):∃c,v=dJ t c/\az h (yX S g) t .no x c Nil:=by
 cases a with
 | val t' x'=>
  have hc:qbv t' t x'=some x:=by cases t<;>simpa only [rd] using hr
  simp only[qe]at y;obtain⟨c,r,rfl⟩:=y;obtain⟨rfl,r2⟩:=az.cast hc r;exact⟨c,rfl,az.mono (fun b hb=>Or.inl hb) (fun _ _=>rfl) _ r2 (Sub.refl _) (fun _ _=>rfl)⟩
 | cD b=>
  cases t with
  | bool=>simp only[rd,aK]at hr;simp only[qe]at y;subst hr;subst y;exact⟨[.bool b],by simp[dJ,Ty.agg],by simp only[az]⟩
  | _=>simp[rd]at hr
 | unit=>
  cases t with
  | unit=>simp only[qe]at y;exact⟨[],by rw[y];rfl,by simp only[az]⟩
  | _=>simp[rd]at hr
 | fh=>
  cases t with
  | sl e=>simp only[rd,aK]at hr;simp only[qe]at y;subst hr;subst y;exact⟨[.slice none 0 0],by simp[dJ,Ty.agg],by simp only[az];exact⟨none,0,by simp,by simp,by simp⟩⟩
  | _=>simp[rd]at hr
 | b7 r p s=>
  cases t with
  | sl e=>have:=Bq st (.sl e) (c:=[v]) hr (by simp only[qe]at y;simp only[dc];exact⟨v,rfl,y⟩);exact⟨[v],by simp[dJ,Ty.agg],this⟩
  | _=>simp[rd]at hr
 | pair u w=>
  cases t with
  | pair a b=>simp only[qe]at y;obtain⟨ca,cb,rfl,y1,y2⟩:=y;exact⟨ca++cb,by simp[dJ,Ty.agg],Bq st (.pair a b) hr (by simp only[dc];exact⟨ca,cb,rfl,y1,y2⟩)⟩
  | _=>simp[rd]at hr
 | _=>cases t<;>simp[rd]at hr
end
section trans
variable {h h' h'':Array Obj} {S S' wz:St} {g g' tV:aA}
theorem tL.trans{r:Nat}{p:Path}(x:tL h h' S S' g g' r p)(y:tL h' h'' S' wz g' tV r p):tL h h'' S wz g tV r p:=by intro R2 vF d2 ud;obtain⟨R1,d1,Wj,WD,k1⟩:=y R2 vF d2 ud;obtain⟨R0,d0,Kw,zY,k0⟩:=x R1 Wj d1 WD;refine⟨R0,d0,Kw,zY,fun hin=>⟨(k1 (k0 hin).1).1,fun base c ha=>?_⟩⟩;obtain⟨c1,h1⟩:=(k0 hin).2 base c ha;exact(k1 (k0 hin).1).2 base c1 h1
theorem qZ.trans{r:Nat}{p:Path}{s:Nat}(x:qZ h h' S S' g g' r p s)(y:qZ h' h'' S' wz g' tV r p s):qZ h h'' S wz g tV r p s:=by intro R2 vF t m xs ud;obtain⟨R1,m1,xs1,Wj,WD,k1⟩:=y R2 vF t m xs ud;obtain⟨R0,m0,IQ,Kw,zY,k0⟩:=x R1 Wj t m1 xs1 WD;exact⟨R0,m0,IQ,Kw,zY,fun hin=>⟨(k1 (k0 hin).1).1,fun base c ha=>(k1 (k0 hin).1).2 base c ((k0 hin).2 base c ha)⟩⟩
theorem AV.dh.trans:∀{a:AV},a.dh h h' S S' g g'->a.dh h' h'' S' wz g' tV->a.dh h h'' S wz g tV:=by
 intro a
 induction a with
 | b7 r p s=>exact qZ.trans
 | view r p s lo hi=>exact qZ.trans
 | addr r p=>exact tL.trans
 | pair a b fQ kR=>exact fun x y=>⟨fQ x.1 y.1,kR x.2 y.2⟩
 | jF a fQ=>exact fQ
 | gE f a fQ=>exact fQ
 | _=>exact fun _ _=>trivial
theorem AV.dh.refl:∀(a:AV),a.dh h h S S g g:=
 AV.d8 (fun r p R hR d hf=>⟨R,d,hR,hf,fun hin=>⟨hin,fun base c ha=>⟨c,ha⟩⟩⟩)
  (fun r p s R hR t m xs hf=>⟨R,m,xs,hR,hf,fun hin=>⟨hin,fun base c ha=>ha⟩⟩)
end trans
structure kH (h:Array Obj) (S S':St) (g:aA) (tmps:Array Value) (H:BS) (t:Ty) (m:Mk) (x:t.den) (c:List Value) (g':aA) (F:BS):Prop where
 st:aD h S' g' tmps (Un H F)
 pr:Sub g.Pr g'.Pr
 rep:az h g'.Pr t m x c F
 dY:cv F H
 s_:cv F g'.Pr
 keeps:∀a:AV,a.dh h h S S' g g'
 sl:S'.sl=S.sl
 rl:S'.rt.length=S.rt.length
 tag:aL g.hd t m c
 same:g'.cR g
theorem kH.none{h:Array Obj}{S:St}{g:aA}{tmps:Array Value}{H:BS}(st:aD h S g tmps H){t:Ty}{m:Mk}{x:t.den}{c:List Value}
  (r:az h g.Pr t m x c Nil) (ni:aL g.hd t m c):kH h S S g tmps H t m x c g Nil where
 st:=st.bx (fun b hb=>hb.resolve_right id)
 pr:=Sub.refl _
 rep:=r
 dY:=cv.nil _
 s_:=cv.nil _
 keeps:=AV.dh.refl
 sl:=rfl
 rl:=rfl
 tag:=ni
 same:=.refl g
theorem BC{h:Array Obj}{tmps:Array Value}:∀(t:Ty){S:St}{rt':aP}{g:aA}{H:BS}{a:AV}{m:Mk}{x:t.den}{c:List Value},aD h S g tmps H->
  tk S.rt t a=some (m,x,rt')->dc h S g a c->∃g' F,kH h S ⟨S.sl,rt'⟩ g tmps H t m x c g' F
 | t,S,rt',g,H,a,m,x,c,st,ht,y=>by
  have hval:∀(t:Ty)(x:t.den)(t':Ty)(x':t'.den),((qbv t' t x').bind fun x=>some (Mk.no,x,S.rt))=some (m,x,rt')->az h g.Pr t' .no x' c Nil->
    ∃g' F,kH h S ⟨S.sl,rt'⟩ g tmps H t m x c g' F:=by
   intro t x t' x' e r;cases hc:qbv t' t x' with
   | none=>rw[hc]at e;simp at e
   | some z=>rw[hc]at e;simp only[dw,aK,aZ]at e;obtain⟨rfl,rfl,rfl⟩:=e;exact⟨g,Nil,kH.none st (az.cast hc r).2 (aL.no _ _)⟩
  cases a with
  | val t' x'=>cases t<;>(simp only[tk]at ht;simp only[dc]at y;exact hval _ _ _ _ ht y)
  | unit=>
   cases t with
   | unit=>simp only[dc]at y;simp only[tk,aK,aZ]at ht;obtain⟨rfl,_,rfl⟩:=ht;exact⟨g,Nil,kH.none st (by simp only[az];exact y) (aL.no _ _)⟩
   | _=>simp[tk]at ht
  | b7 r p s=>
   cases t with
   | sl e=>
    simp only[tk]at ht;simp only[dc]at y;obtain⟨v,rfl,y⟩:=y;split at ht
    .rename_i R hR;split at ht
     .rename_i t' s' mi xs hf;split at ht
      .rename_i hs;cases hc:qbv (.sl t') (.sl e) xs with
       | none=>rw[hc]at ht;simp at ht
       | some z=>
        rw[hc]at ht;simp only[dw]at ht;cases hm:lH R.ty R.ms p .gone with
        | none=>rw[hm]at ht;simp at ht
        | some m'=>rw[hm]at ht;simp only[dw,aK,aZ]at ht;obtain⟨rfl,rfl,rfl⟩:=ht;have hin:=(y R hR t' mi xs (by rw[hf];simp[hs])).1;obtain⟨s9,Wq⟩:=(y R hR t' mi xs (by rw[hf];simp[hs])).2;obtain⟨g',F,base,c',h1,h2,h3,h4,h5,h6,h7,ni,iJ,h8,h9,DC,h11⟩:=st.take hR hf hin hm;rw[Wq]at h6;simp only[aK,aZ]at h6;obtain⟨_,rfl⟩:=h6;obtain⟨_,h12⟩:=az.cast hc h7;exact⟨g',F,{ st:=h1,pr:=h2,rep:=h12,dY:=h8,s_:=DC,keeps:=h11,sl:=rfl,rl:=by simp[aP.bS],tag:=by obtain⟨e1,e2⟩:=C8 hc;simp only[Ty.sl.injEq]at e1;subst e1;exact ni,same:=iJ }⟩
      .simp at ht
     .simp at ht
    .simp at ht
   | _=>simp[tk]at ht
  | pair u v=>
   cases t with
   | pair a b=>
    simp only[tk]at ht;simp only[dc]at y;obtain⟨ca,cb,rfl,y1,y2⟩:=y;cases h1:tk S.rt a u with
    | none=>rw[h1]at ht;simp at ht
    | some z1=>
     obtain⟨m1,x1,S1⟩:=z1;rw[h1]at ht;simp only[dw]at ht;cases h2:tk S1 b v with
     | none=>rw[h2]at ht;simp at ht
     | some z2=>
      obtain⟨m2,x2,S2⟩:=z2;rw[h2]at ht;simp only[dw,aK,aZ]at ht;obtain⟨rfl,rfl,rfl⟩:=ht;obtain⟨g1,F1,k1⟩:=BC a st h1 y1;obtain⟨g2,F2,k2⟩:=BC b (S:=⟨S.sl,S1⟩) k1.st h2 (dc.keep k1.pr (fun _ _=>rfl) y2 (k1.keeps v));refine⟨g2,Un F1 F2,{ st:=k2.st.bx ?_,pr:=k1.pr.trans k2.pr,rep:=?_,dY:=?_,s_:=?_,keeps:=fun a=>(k1.keeps a).trans (k2.keeps a),sl:=k2.sl.trans k1.sl,rl:=k2.rl.trans k1.rl,tag:=?_,same:=k1.same.trans k2.same }⟩
      .rintro b' (hb | hb | hb)
       .exact .inl (.inl hb)
       .exact .inl (.inr hb)
       .exact .inr hb
      .simp only[az,Mk.fst,Mk.snd];refine⟨ca,cb,F1,F2,rfl,az.mono k2.pr (fun _ _=>rfl) a k1.rep (Sub.refl _) (fun _ _=>rfl),k2.rep,fun _ hb=>.inl hb,fun _ hb=>.inr hb,?_⟩;intro b' bN gu;exact k2.dY b' gu (.inr bN)
      .rintro b' (hb | hb) hH
       .exact k1.dY b' hb hH
       .exact k2.dY b' hb (.inl hH)
      .rintro b' (hb | hb) hp
       .exact k2.st.bK b' (.inl (.inr hb)) hp
       .exact k2.s_ b' hb hp
      .simp only[aL,Mk.fst,Mk.snd];have hl:=az.width a k1.rep;rw[jm hl,iZ hl];have:=k2.tag;rw[k1.same.1]at this;exact⟨k1.tag,this⟩
   | _=>simp[tk]at ht
  | undef=>cases t<;>simp[tk]at ht
  | _=>simp only[dc]at y
theorem yK{h:Array Obj}{tmps:Array Value}(t:Ty){S:St}{rt':aP}{g:aA}{H:BS}{a:AV}{m:Mk}{x:t.den}{v:Value}(st:aD h S g tmps H)
  (ht:tk S.rt t a=some (m,x,rt')) (y:qe h S g a v):∃c g' F,v=dJ t c/\kH h S ⟨S.sl,rt'⟩ g tmps H t m x c g' F:=by
 cases a with
 | val t' x'=>
  have hc0:((qbv t' t x').bind fun x=>some (Mk.no,x,S.rt))=some (m,x,rt'):=by cases t<;>simpa only [tk] using ht
  simp only[qe]at y;obtain⟨c,r,rfl⟩:=y;cases hc:qbv t' t x' with
  | none=>rw[hc]at hc0;simp at hc0
  | some z=>rw[hc]at hc0;simp only[dw,aK,aZ]at hc0;obtain⟨rfl,rfl,rfl⟩:=hc0;obtain⟨rfl,r2⟩:=az.cast hc r;exact⟨c,g,Nil,rfl,kH.none st r2 (aL.no _ _)⟩
 | cD b=>
  cases t with
  | bool=>simp only[tk,aK,aZ]at ht;simp only[qe]at y;obtain⟨rfl,rfl,rfl⟩:=ht;subst y;exact⟨[.bool b],g,Nil,by simp[dJ,Ty.agg],kH.none st (by simp only[az]) (aL.no _ _)⟩
  | _=>simp[tk]at ht
 | unit=>
  cases t with
  | unit=>simp only[tk,aK,aZ]at ht;simp only[qe]at y;obtain⟨rfl,_,rfl⟩:=ht;exact⟨[],g,Nil,by rw[y];rfl,kH.none st (by simp only[az]) (aL.no _ _)⟩
  | _=>simp[tk]at ht
 | fh=>
  cases t with
  | sl e=>simp only[tk,aK,aZ]at ht;simp only[qe]at y;obtain⟨rfl,rfl,rfl⟩:=ht;subst y;exact⟨[.slice none 0 0],g,Nil,by simp[dJ,Ty.agg],kH.none st (by simp only[Mk.top,az];exact⟨none,0,by simp,by simp,.inl rfl⟩) (aL.ax _ (Mk.cY _))⟩
  | _=>simp[tk]at ht
 | b7 r p s=>
  cases t with
  | sl e=>obtain⟨g',F,k⟩:=BC (.sl e) (c:=[v]) st ht (by simp only[qe]at y;simp only[dc];exact⟨v,rfl,y⟩);exact⟨[v],g',F,by simp[dJ,Ty.agg],k⟩
  | _=>simp[tk]at ht
 | pair u w=>
  cases t with
  | pair a b=>simp only[qe]at y;obtain⟨ca,cb,rfl,y1,y2⟩:=y;obtain⟨g',F,k⟩:=BC (.pair a b) (c:=ca++cb) st ht (by simp only[dc];exact⟨ca,cb,rfl,y1,y2⟩);exact⟨ca++cb,g',F,by simp[dJ,Ty.agg],k⟩
  | _=>simp[tk]at ht
 | _=>cases t<;>simp[tk]at ht
end Go.V
namespace Go.V
noncomputable section
open Go
def zc:Ty->List Value
 | .unit=>[]
 | .int k=>[.int k 0]
 | .bool=>[.bool false]
 | .str=>[.string ByteArray.empty]
 | .sl _=>[.slice none 0 0]
 | .pair a b=>zc a++zc b
theorem J_:∀t:Ty,(zc t).length=t.width
 | .unit=>rfl
 | .int _=>rfl
 | .bool=>rfl
 | .str=>rfl
 | .sl _=>rfl
 | .pair a b=>by simp[zc,Ty.width,J_ a,J_ b]
theorem az.zero{h:Array Obj}{Pr:BS}:∀(t:Ty)(m:Mk),az h Pr t m t.zero (zc t) Nil
 | .unit,_=>by simp only[az,zc]
 | .int _,_=>by simp only[az,zc,Ty.zero]
 | .bool,_=>by simp only[az,zc,Ty.zero]
 | .str,_=>by simp only[az,zc,Ty.zero]
 | .sl t,m=>by
  cases m<;>simp only[az,zc,Ty.zero]
  .exact⟨none,0,rfl,ck _,fun h=>absurd rfl h⟩
  .exact⟨none,0,0,rfl⟩
  .exact⟨none,0,rfl,ck _,.inl rfl⟩
  .exact⟨none,0,rfl,ck _,fun h=>absurd rfl h⟩
 | .pair a b,m=>by
  simp only[az,zc,Ty.zero];exact⟨zc a,zc b,Nil,Nil,rfl,az.zero a _,az.zero b _,Sub.nil _,Sub.nil _,cv.nil _⟩
theorem az.one{h:Array Obj}{Pr:BS}:∀(t:Ty){m:Mk}{x:t.den}{c:List Value}{F:BS},az h Pr t m x c F->∀v∈c,v.oneCell'=true
 | .unit,_,_,_,_,r,v,hv=>by simp only[az]at r;subst r;simp at hv
 | .int k,_,_,_,_,r,v,hv=>by simp only[az]at r;subst r;simp only[d6]at hv;subst hv;rfl
 | .bool,_,_,_,_,r,v,hv=>by simp only[az]at r;subst r;simp only[d6]at hv;subst hv;rfl
 | .str,_,_,_,_,r,v,hv=>by simp only[az]at r;subst r;simp only[d6]at hv;subst hv;rfl
 | .sl t,m,_,_,_,r,v,hv=>by
  obtain⟨a,n,k,rfl⟩:=az.slice r;simp only[d6]at hv;subst hv;rfl
 | .pair a b,m,_,_,_,r,v,hv=>by
  simp only[az]at r;obtain⟨ca,cb,Fa,Fb,rfl,ra,rb,_⟩:=r;rcases bL.1 hv with hv | hv
  .exact az.one a ra v hv
  .exact az.one b rb v hv
def Ty.deep:Ty->Nat
 | .pair a b=>a.deep+b.deep+1
 | .sl t=>t.deep+1
 | _=>1
def mX(C:Ctx):List Field->Nat->Ty->Prop
 | [],_,T=>T=.unit
 | f::fs,off,T=>∃b,T=.pair (C.ty f.type) b/\f.offset=off/\f.name≠ "_" /\ (C.ty f.type).nz=true/\mX C fs (off+(C.ty f.type).width) b
def oN(C:Ctx):TypeDesc->Ty->Prop
 | .int k,T=>T=.int k
 | .bool,T=>T=.bool
 | .string,T=>T=.str
 | .slice e,T=>T=.sl (C.ty e)/\(C.ty e).nz=true
 | .struct fs,T=>mX C fs.toList 0 T/\T≠.unit
 | _,_=>False
structure mD (P:Program) (C:Ctx) (t:TypeId):Prop where
 info:∃i,P.info? t=some i/\i.size=(C.ty t).width/\i.zero=some (dJ (C.ty t) (zc (C.ty t)))/\i.bytes<=255
 pos:0<(C.ty t).width
 desc:∃d,P.underlying t=some d/\oN C d (C.ty t)
 deep:(C.ty t).deep<10000
 eq:(C.ty t).agg=true->(C.ty t).comp=true->P.stoodInHeld t=false/\P.eqGuardType P.depth t=false
def iC(P:Program)(C:Ctx):Prop:=∀t,(C.ty t).nz=true->mD P C t
section
variable {P:Program} {C:Ctx} {t:TypeId} (k:mD P C t) (w:World)
include k
theorem mD.yO:(zeroValue t).run P w=.ok (dJ (C.ty t) (zc (C.ty t))) w:=by obtain⟨i,h1,h2,h3,h4⟩:=k.info;simp[zeroValue,typeInfo,h1,h3]
theorem mD.fL:(sizeOf t).run P w=.ok (C.ty t).width w:=by obtain⟨i,h1,h2,h3,h4⟩:=k.info;simp[sizeOf,typeInfo,h1,h2]
theorem mD.pg:(isAgg t).run P w=.ok (C.ty t).agg w:=by
 obtain⟨d,h1,h2⟩:=k.desc;have:(underlying t).run P w=.ok d w:=by simp[underlying,h1]
 cases d<;>simp only[oN]at h2<;>simp[isAgg,this,Sem.run_bind]
 case bool=>rw[h2];rfl
 case int=>rw[h2];rfl
 case string=>rw[h2];rfl
 case slice=>rw[h2.1];rfl
 case struct fs=>
  cases hl:fs.toList with
  | nil=>rw[hl]at h2;simp only[mX]at h2;exact absurd h2.1 h2.2
  | cons f l=>rw[hl]at h2;simp only[mX]at h2;obtain⟨⟨b,e,_⟩,_⟩:=h2;rw[e];rfl
end
theorem Ii(T:Ty):(dJ T (zc T)).cells.toList=zc T:=B3 (az.zero (h:=#[]) (Pr:=Nil) T .no)
structure kI (L:BS) (w w':World):Prop where
 os:w'.os=w.os
 tape:w'.tape=w.tape
 output:w'.output=w.output
 size:w.heap.size<=w'.heap.size
 block:∀b,b<w.heap.size->¬ L b->w'.heap[b]? = w.heap[b]?
theorem kI.refl(L:BS)(w:World):kI L w w:=⟨rfl,rfl,rfl,ck _,fun _ _ _=>rfl⟩
theorem kI.trans{L:BS}{a b c:World}(h:kI L a b)(k:kI L b c):kI L a c:=
 ⟨k.os.trans h.os,k.tape.trans h.tape,k.output.trans h.output,nK h.size k.size,
  fun i hi hn=>(k.block i (Nat.lt_of_lt_of_le hi h.size) hn).trans (h.block i hi hn)⟩
theorem kI.mono{L L':BS}{a b:World}(h:kI L a b)(hs:∀i,i<a.heap.size->L i->L' i):kI L' a b:=
 ⟨h.os,h.tape,h.output,h.size,fun i hi hn=>h.block i hi fun hl=>hn (hs i hi hl)⟩
theorem kI.drawn{L:BS}{w:World}(n:Nat):kI L w { w with drawn:=n }:=⟨rfl,rfl,rfl,ck _,fun _ _ _=>rfl⟩
theorem kI.push{L:BS}{w:World}(o:Obj):kI L w { w with heap:=w.heap.push o }:=
 ⟨rfl,rfl,rfl,by simp,fun b hb _=>by show(w.heap.push o)[b]? = _;rw[Bk,af (by omega)]⟩
theorem zD{h:Array Obj}{o:Obj}:∀b,b<h.size->(h.push o)[b]? = h[b]?:=fun b hb=>by rw[Bk,af (by omega)]
theorem ac9{h:Array Obj}{o:Obj}:(h.push o)[h.size]? = some o:=by rw[Bk,aj rfl]
theorem ju.new{h:Array Obj}{cs:Array Value}{e:TypeId}:ju (h.push (.cells cs e)) h.size cs:=⟨e,0,0,ac9,fun i _=>by omega⟩
theorem RO{w:World}{b:Nat}{cs:Array Value}{e:TypeId}{fr:Nat×Nat}(h:w.heap[b]? = some (.cells cs e fr))(i:Nat):w.cell? ⟨b,i,none⟩=cs[i]?:=by simp[World.cell?,h]
theorem C9{w:World}{b o n:Nat}{cs:Array Value}(h:sY w.heap b cs)(hn:o+n<=cs.size):w.rangeAt b o (sub cs o n):=by
 obtain⟨e,fr,he⟩:=h;intro j v hv;rw[RO he];simp only[sub,gj,iE]at hv;split at hv
 .simpa using hv
 .simp at hv
theorem Gl{cs:Array Value}{o n:Nat}(h:o+n<=cs.size):(sub cs o n).length=n:=by simp[sub];omega
theorem JQ{b:Nat}:∀(vs:List Value)(o:Nat)(w:World)(k:Nat),k≠b->(w.setCells b o vs).heap[k]? = w.heap[k]?
 | [],_,_,_,_=>rfl
 | v::r,o,w,k,hk=>by
  rw[World.setCells,JQ r (o+1) _ k hk];simp only[World.setCell,Sv];rw[af (by omega)]
theorem vM{b:Nat}:∀(vs:List Value)(o:Nat)(w:World),(w.setCells b o vs).heap.size=w.heap.size
 | [],_,_=>rfl
 | v::r,o,w=>by rw[World.setCells,vM r];simp[World.setCell]
theorem Tt{b:Nat}:∀(vs:List Value)(o:Nat)(w:World),(w.setCells b o vs).os=w.os/\(w.setCells b o vs).tape=w.tape/\(w.setCells b o vs).output=w.output
 | [],_,_=>⟨rfl,rfl,rfl⟩
 | v::r,o,w=>by rw[World.setCells];exact Tt r _ _
theorem Re{l:List Value}{o:Nat}{v:Value}{r:List Value}(h:o+(v::r).length<=l.length):bP (l.set o v) (o+1) r=bP l o (v::r):=by
 simp only[cq]at h;have hA:(l.take o).length=o:=by simp;omega
 have e0:l.set o v=l.take o++v::l.drop (o+1):=by rw[List.set_eq_take_append_cons_drop,aj (by omega)]
 have e1:(l.set o v).take (o+1)=l.take o++[v]:=by
  rw[e0,List.take_append,hA,kq (by omega)];have:o+1-o=1:=by omega
  rw[this];rfl
 have e2:(l.set o v).drop (o+1+r.length)=l.drop (o+(r.length+1)):=by
  rw[e0,Fw,hA,vD (by omega),gx];have:o+1+r.length-o=r.length+1:=by omega
  rw[this,List.drop_succ_cons,qU];congr 1;omega
 simp only[bP,cq];rw[e1,e2];simp
theorem UJ{b:Nat}{e:TypeId}{fr:Nat×Nat}:∀(vs:List Value)(o:Nat)(w:World)(cs:Array Value),w.heap[b]? = some (.cells cs e fr)->o+vs.length<=cs.size->
  ∃gz:Array Value,(w.setCells b o vs).heap[b]? = some (.cells gz e fr)/\gz.toList=bP cs.toList o vs
 | [],o,w,cs,h,hl=>⟨cs,h,by simp[bP]⟩
 | v::r,o,w,cs,h,hl=>by
  simp only[cq]at hl;rw[World.setCells];have h1:(w.setCell ⟨b,o,none⟩ v).heap[b]? = some (.cells (cs.setIfInBounds o v) e fr):=by simp[World.setCell,Sv,h]
  obtain⟨gz,h2,h3⟩:=UJ r (o+1) _ _ h1 (by simp;omega);refine⟨gz,h2,?_⟩;rw[h3,NX];exact Re (by simp;omega)
theorem AE{w:World}{b o n:Nat}{cs:Array Value}(h:ju w.heap b cs)(hn:o+n<=cs.size):w.there b o n:=by obtain⟨e,lo,hi,he,hf⟩:=h;intro j hj;rw[RO he];refine⟨by rw[vB (by omega)];rfl,?_⟩;have:=hf (o+j) (by omega);simp only[World.frozen?,he];simpa using this
theorem Pm{w:World}{b o:Nat}{c2:List Value}{base:fH}(hb:base=some (b,o)){cs:Array Value}(h:ju w.heap b cs)(hn:o+c2.length<=cs.size) :
  yW w.heap (w.setCells b o c2).heap base c2:=by
 intro b' o' e cs' h';rw[hb]at e;simp only[aK,aZ]at e;obtain⟨rfl,rfl⟩:=e;obtain rfl:=ju.uniq h h';obtain⟨ty,lo,hi,he,hf⟩:=h;obtain⟨gz,h2,h3⟩:=UJ c2 o w cs he hn;refine⟨gz,⟨ty,lo,hi,h2,fun i hi'=>hf i ?_⟩,h3⟩;have:gz.size=cs.size:=by rw[<-iM,h3,C_ (by simpa using hn),iM]
 omega
end
end Go.V

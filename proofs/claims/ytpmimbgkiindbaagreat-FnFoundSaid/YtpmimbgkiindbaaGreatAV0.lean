import Derived.Calls
import Derived.Deep.MidRow
import Derived.Laws.MakeOwn
import Derived.Orders
set_option linter.unusedVariables false
set_option linter.unusedSimpArgs false
set_option linter.unusedSectionVars false
namespace Go
abbrev af:=@if_neg
abbrev aI:=@Option.some.injEq
abbrev aj:=@if_pos
abbrev a_:=@Prod.mk.injEq
abbrev bC:=@Bool.and_eq_true
abbrev cJ:=@Option.bind_eq_some_iff
abbrev bJ:=@decide_eq_false
abbrev dQ:=@Int.toNat_natCast
abbrev cE:=@Bool.not_true
abbrev cT:=@decide_eq_true
abbrev bO:=@List.mem_cons_self
abbrev bk:=@List.mem_cons
abbrev aW:=@cond_false
abbrev bL:=@List.mem_append
abbrev cD:=@List.mem_cons_of_mem
abbrev cw:=@List.length_append
abbrev ct:=@List.length_cons
abbrev bg:=@cond_true
abbrev ck:=@List.length_set
abbrev dz:=@Nat.mul_le_mul_right
abbrev aX:=@if_true
abbrev cY:=@List.length_take
abbrev cm:=@List.map_cons
abbrev c_:=@List.not_mem_nil
abbrev fj:=@Option.map_eq_some_iff
abbrev dn:=@Option.bind_some
abbrev fN:=@List.getElem?_eq_getElem
abbrev er:=@List.mem_singleton
abbrev b7:=@Nat.le_refl
abbrev eS:=@Array.length_toList
abbrev eu:=@List.append_assoc
abbrev ef:=@List.getElem_mem
abbrev dV:=@Option.map_some
abbrev e7:=@Bool.false_eq_true
abbrev fk:=@List.getElem?_take
abbrev eL:=@List.cons.injEq
abbrev f8:=@List.getElem?_drop
abbrev fJ:=@List.cons_append
abbrev jd:=@List.getElem?_append_left
abbrev eE:=@List.mem_map
abbrev gI:=@decide_eq_true_eq
abbrev jT:=@List.getElem?_append_right
abbrev mw:=@List.take_succ_eq_append_getElem
abbrev jf:=@List.take_of_length_le
abbrev eU:=@Nat.zero_le
abbrev gr:=@List.append_nil
abbrev gu:=@Option.some.inj
abbrev gf:=@Bool.not_false
abbrev gJ:=@List.nil_append
abbrev jU:=@List.length_eq_zero_iff
abbrev dg:=@or_false
abbrev fO:=@List.map_nil
abbrev dF:=@Eq.trans
abbrev nv:=@List.take_append_of_le_length
abbrev ic:=@List.length_nil
abbrev dX:=@if_false
abbrev ju:=@List.length_reverse
abbrev gK:=@List.all_cons
abbrev kO:=@Nat.eq_of_beq_eq_true
abbrev kQ:=@List.length_replicate
abbrev iL:=@List.drop_left'
abbrev kR:=@List.mem_iff_getElem
abbrev iD:=@List.drop_zero
abbrev lE:=@List.mem_iff_getElem?
abbrev eM:=@congrArg
abbrev jv:=@List.getElem?_set
abbrev iX:=@List.take_left'
abbrev jV:=@Bool.not_eq_true'
abbrev jg:=@Bool.or_eq_true
abbrev nw:=@decide_eq_false_iff_not
abbrev nx:=@List.getLast?_singleton
abbrev kS:=@List.pairwise_cons
abbrev oX:=@Array.getD_eq_getD_getElem?
abbrev jw:=@List.length_map
abbrev lG:=@of_decide_eq_true
abbrev iE:=@Nat.add_mul
abbrev n4:=@Bool.and_eq_false_iff
abbrev n5:=@List.getElem?_eq_none
abbrev qO:=@Array.getElem?_eq_some_iff
abbrev jh:=@Nat.succ_mul
abbrev qP:=@Array.getElem?_eq_getElem
abbrev n6:=@Array.toArray_toList
abbrev jx:=@Nat.zero_add
abbrev mz:=@List.length_drop
abbrev oY:=@Nat.ble_eq_true_of_le
abbrev oZ:=@List.take_append_drop
abbrev o3:=@List.length_singleton
abbrev gM:=@and_true
abbrev mA:=@List.foldl_cons
abbrev n7:=@List.reverse_cons
abbrev qQ:=@Nat.le_of_ble_eq_true
abbrev qR:=@Array.getElem?_toList
abbrev sH:=@Classical.axiomOfChoice
abbrev sI:=@List.getElem?_replicate
abbrev o4:=@List.ext_getElem?
abbrev qS:=@List.length_pos_iff
abbrev qT:=@List.map_congr_left
abbrev mB:=@Nat.le_trans
abbrev o5:=@List.map_append
abbrev vi:=@List.drop_eq_nil_of_le
abbrev vA:=@Int.le_refl
abbrev nR:=@Bool.true_and
abbrev qC:=@List.all_eq_true
abbrev oQ:=@List.take_take
abbrev oS:=@List.drop_drop
abbrev xQ:=@Option.isSome_iff_exists
abbrev nS:=@Nat.add_zero
abbrev AH:=@List.drop_append_of_le_length
abbrev I4:=@List.getD_cons_zero
abbrev D8:=@Array.mem_append
abbrev m8:=@Array.ext'
abbrev oR:=@List.set_set
abbrev sj:=@List.headD_cons
abbrev Cw:=@Bool.false_or
abbrev xB:=@List.pairwise_append
abbrev AN:=@List.pairwise_iff_getElem
abbrev oP:=@decide_true
abbrev si:=@List.drop_take
abbrev kD:=@Iff.rfl
abbrev se:=@List.mem_range
abbrev qB:=@Nat.mul_comm
abbrev uk:=@Option.getD_some
abbrev um:=@List.getElem_map
abbrev uE:=@List.mem_reverse
abbrev uF:=@forall_eq_or_imp
abbrev Gl:=@List.takeWhile_append_dropWhile
abbrev GX:=@Array.getElem?_setIfInBounds
abbrev GY:=@List.mem_zipIdx_iff_getElem?
abbrev Ac:=@List.set_getElem_self
abbrev xA:=@List.ext_getElem
abbrev xW:=@List.reverse_nil
abbrev Ad:=@List.reverse_reverse
abbrev FP:=@Int.tmod_eq_emod_of_nonneg
abbrev FT:=@List.getD_eq_getElem?_getD
abbrev uG:=@List.any_cons
abbrev Bn:=@Array.getElem?_push
abbrev Gm:=@List.drop_eq_getElem_cons
abbrev Ev:=@List.mem_or_eq_of_mem_set
abbrev uq:=@implies_true
abbrev uH:=@Bool.true_or
abbrev GZ:=@List.getElem?_cons_zero
abbrev Ae:=@List.flatMap_cons
abbrev Af:=@List.pairwise_map
abbrev Ew:=@Array.getElem?_eq_none
abbrev Gn:=@List.dropWhile_sublist
abbrev G0:=@List.reverse_singleton
abbrev EE:=@List.getElem_cons_succ
abbrev G3:=@List.getElem_cons_zero
abbrev P1:=@Array.all_eq_true_iff_forall_mem
abbrev Ag:=@List.take_length
abbrev Aa:=@List.filter_cons
abbrev Ek:=@Array.mem_of_getElem?
abbrev SY:=@Nat.min_eq_left
abbrev Em:=@List.contains_eq_mem
abbrev nT:=@not_or
abbrev Bo:=@Nat.div_add_mod
abbrev xx:=@List.map_map
abbrev Gp:=@Array.mem_toList_iff
abbrev Ab:=@List.nodup_cons
abbrev En:=@List.mem_append_left
abbrev A5:=@List.mem_filter
abbrev xy:=@Int.add_zero
abbrev EF:=@List.getElem_of_mem
abbrev G4:=@List.getD_cons_succ
abbrev Ak:=@List.foldl_nil
abbrev xz:=@Nat.one_mul
abbrev Eo:=@Array.foldl_toList
abbrev Ep:=@Int.emod_lt_of_pos
abbrev ur:=@forall_eq
abbrev G_:=@List.filter_append
abbrev QK:=@Array.toList_setIfInBounds
abbrev Bx:=@false_implies
abbrev LN:=@List.perm_ext_iff_of_nodup
abbrev P2:=@List.nodup_iff_pairwise_ne
abbrev GS:=@Bool.not_eq_false
abbrev GU:=@List.getElem?_map
abbrev GV:=@List.length_range
abbrev GW:=@List.nodup_append
abbrev QL:=@List.extract_eq_take_drop
abbrev xX:=@Nat.mod_lt
abbrev LO:=@List.getElem?_eq_some_iff
abbrev Ey:=@List.drop_append
abbrev Ah:=@Nat.lt_or_ge
abbrev Ai:=@forall_const
abbrev Aj:=@Nat.sub_zero
abbrev Ez:=@List.any_eq_true
abbrev QM:=@List.filter_cons_of_pos
abbrev QN:=@List.getElem?_cons_succ
abbrev QO:=@List.getLast?_cons_cons
abbrev QS:=@List.append_cancel_left
abbrev LP:=@Int.eq_ofNat_of_zero_le
abbrev He:=@List.foldr_cons
abbrev EA:=@Option.map_none
abbrev EB:=@Int.emod_nonneg
abbrev LR:=@List.filter_eq_nil_iff
abbrev LS:=@Array.getElem?_modify
abbrev QW:=@Nat.div_lt_iff_lt_mul
abbrev Gj:=@List.tail_cons
abbrev Gq:=@List.take_zero
abbrev PX:=@List.singleton_append
abbrev Gr:=@Nat.add_assoc
abbrev Gt:=@Nat.lt_irrefl
abbrev Gu:=@Bool.and_self
abbrev Gv:=@Nat.le_of_lt
end Go
namespace Go.V
open Go
inductive Ty where
 | unit | int (k:IntKind) | bool | str | sl (t:Ty) | pair (a b:Ty)
 deriving DecidableEq
@[reducible] def Ty.den:Ty->Type
 | .unit=>Unit
 | .int _=>Int
 | .bool=>Bool
 | .str=>ByteArray
 | .sl t=>List t.den
 | .pair a b=>a.den×b.den
def Ty.width:Ty->Nat
 | .unit=>0
 | .int _=>1
 | .bool=>1
 | .str=>1
 | .sl _=>1
 | .pair a b=>a.width+b.width
def Ty.zero:(t:Ty)->t.den
 | .unit=>()
 | .int _=>0
 | .bool=>false
 | .str=>ByteArray.empty
 | .sl _=>[]
 | .pair a b=>(a.zero,b.zero)
def Ty.agg:Ty->Bool
 | .unit=>true
 | .pair _ _=>true
 | _=>false
inductive Mk where
 | no | gone | own (s:Nat) (m:Mk) | pr (a b:Mk)
 deriving DecidableEq
def Mk.fst:Mk->Mk
 | .pr a _=>a
 | .gone=>.gone
 | _=>.no
def Mk.snd:Mk->Mk
 | .pr _ b=>b
 | .gone=>.gone
 | _=>.no
def Mk.whole:Mk->Bool
 | .no=>true
 | .gone=>false
 | .own _ m=>m.whole
 | .pr a b=>a.whole&&b.whole
def Mk.still:Mk->Bool
 | .no=>true
 | .gone=>false
 | .own _ _=>false
 | .pr a b=>a.still&&b.still
def Mk.stamp(s:Nat):Mk->Mk
 | .no=>.no
 | .gone=>.gone
 | .own s0 m=>.own (if s0<1048576 then s else s0) (m.stamp s)
 | .pr a b=>.pr (a.stamp s) (b.stamp s)
def Mk.fh:Mk->Mk
 | .pr a b=>.pr a.fh b.fh
 | .gone=>.gone
 | .own _ m=>if m.whole then .no else .gone
 | .no=>.no
def Mk.meet:Mk->Mk->Mk
 | .no,x=>x.fh
 | .gone,_=>.gone
 | .own _ a,x=>
  match x with
  | .own s b=>.own s (a.meet b)
  | .no=>if a.whole then .no else .gone
  | _=>.gone
 | .pr a b,x=>
  match x with
  | .pr c d=>.pr (a.meet c) (b.meet d)
  | .no=>.pr (a.meet .no) (b.meet .no)
  | _=>.gone
def Mk.top:Ty->Mk
 | .sl t=>.own 0 (Mk.top t)
 | .pair a b=>.pr (Mk.top a) (Mk.top b)
 | _=>.no
def Mk.sD:Ty->Mk
 | .pair (.sl _) b=>.pr .no (Mk.sD b)
 | .pair a b=>.pr (Mk.top a) (Mk.sD b)
 | t=>Mk.top t
def Mk.zx(hint:Bool)(t:Ty):Mk:=if hint then Mk.sD t else Mk.top t
def Mk.aQ:(want akm:Mk)->Bool
 | .gone,_=>true
 | .no,h=>h.whole
 | .own _ w,.own _ h=>w.aQ h
 | .pr a b,.pr c d=>a.aQ c&&b.aQ d
 | .pr a b,.no=>a.aQ .no&&b.aQ .no
 | _,_=>false
inductive n9 where
 | fst | snd | idx (i:Nat) (s:Nat)
 deriving DecidableEq
abbrev Path:=List n9
def g6:Nat->Path
 | 0=>[.fst]
 | n+1=>.snd::g6 n
def n9.plain:n9->Bool
 | .idx _ _=>false
 | _=>true
structure Dy where
 ty:Ty
 ms:Mk
 x:ty.den
structure aB where
 ty:Ty
 ms:Mk
 x:ty.den
 mem:Bool
inductive bt where
 | val (t:Ty) (x:t.den)
 | bZ (t:Ty) (x:t.den)
structure aZ where
 f:FuncId
 caps:List bt
inductive AV where
 | undef
 | skip
 | cF (b:Bool)
 | unit
 | fe
 | val (t:Ty) (x:t.den)
 | b5 (r:Nat) (p:Path) (s:Nat)
 | view (r:Nat) (p:Path) (s:Nat) (lo hi:Nat)
 | addr (r:Nat) (p:Path)
 | b_ (t:Ty) (x:t.den)
 | pair (a b:AV)
 | jn (a:AV)
 | gz (f:FuncId) (caps:AV)
 | dZ (c:aZ)
abbrev aO:=List (Option aB)
structure St where
 sl:List AV
 rt:aO
noncomputable section
def zH{α:Type}(l:List α)(i:Nat)(d:α):α:=
 List.rec (motive:=fun _=>Nat->α) (fun _=>d) (fun a _ ih i=>Nat.rec (motive:=fun _=>α) a (fun j _=>ih j) i) l i
theorem GH{α:Type}(d:α):∀(l:List α)(i:Nat),zH l i d=l.getD i d
 | [],_=>rfl
 | _::_,0=>rfl
 | _::l,i+1=>by show zH l i d=_;rw[GH d l i];rfl
def BZ{α:Type}(l:List α)(i:Nat)(v:α):List α:=
 List.rec (motive:=fun _=>Nat->List α) (fun _=>[]) (fun a l ih i=>Nat.rec (motive:=fun _=>List α) (v::l) (fun j _=>a::ih j) i) l i
theorem Gy{α:Type}(v:α):∀(l:List α)(i:Nat),BZ l i v=l.set i v
 | [],_=>rfl
 | _::_,0=>rfl
 | a::l,i+1=>by show a::BZ l i v=_;rw[Gy v l i];rfl
def aO.root(S:aO)(r:Nat):Option aB:=zH S r none
def aO.aD(S:aO)(r:Nat)(x:Option aB):aO:=BZ S r x
def St.get(S:St)(t:Nat):AV:=zH S.sl t .undef
abbrev St.root(S:St)(r:Nat):Option aB:=S.rt.root r
def St.set(S:St)(t:Nat)(v:AV):St:={ S with sl:=BZ S.sl t v }
theorem aO.g8(S:aO)(r:Nat):S.root r=S.getD r none:=GH _ _ _
theorem aO.bU(S:aO)(r:Nat)(x:Option aB):S.aD r x=S.set r x:=Gy _ _ _
theorem St.get_eq(S:St)(t:Nat):S.get t=S.sl.getD t .undef:=GH _ _ _
theorem St.gb(S:St)(t:Nat)(v:AV):S.set t v={ S with sl:=S.sl.set t v }:=by unfold St.set;rw[Gy]
def St.aD(S:St)(r:Nat)(x:Option aB):St:={ S with rt:=S.rt.aD r x }
def qbv(a b:Ty)(x:a.den):Option b.den:=if h:a=b then some (h ▸ x) else none
def focus:(t:Ty)->Mk->t.den->Path->Option Dy
 | t,m,x,[]=>some ⟨t,m,x⟩
 | .pair a _,m,x,.fst::p=>focus a m.fst x.1 p
 | .pair _ b,m,x,.snd::p=>focus b m.snd x.2 p
 | .sl t,.own s m,xs,.idx i s'::p=>if s=s' then focus t m (xs.getD i t.zero) p else none
 | _,_,_,_::_=>none
def put:(t:Ty)->Mk->t.den->Path->(t2:Ty)->Mk->t2.den->Option (Mk×t.den)
 | t,_,_,[],t2,m2,y=>(qbv t2 t y).bind fun y=>some (m2,y)
 | .pair a b,m,x,.fst::p,t2,m2,y=>(put a m.fst x.1 p t2 m2 y).bind fun r=>some (.pr r.1 m.snd,(r.2,x.2))
 | .pair a b,m,x,.snd::p,t2,m2,y=>(put b m.snd x.2 p t2 m2 y).bind fun r=>some (.pr m.fst r.1,(x.1,r.2))
 | .sl t,.own s m,xs,.idx i s'::p,t2,m2,y=>
  if s=s' then (put t m (xs.getD i t.zero) p t2 m2 y).bind fun r=>some (.own s (m.meet r.1),xs.set i r.2) else none
 | _,_,_,_::_,_,_,_=>none
def kW:Ty->Mk->Path->Mk->Option Mk
 | _,_,[],m2=>some m2
 | .pair a _,m,.fst::p,m2=>(kW a m.fst p m2).bind fun r=>some (.pr r m.snd)
 | .pair _ b,m,.snd::p,m2=>(kW b m.snd p m2).bind fun r=>some (.pr m.fst r)
 | .sl t,.own s m,.idx _ s'::p,m2=>if s=s' then (kW t m p m2).bind fun r=>some (.own s (m.meet r)) else none
 | _,_,_::_,_=>none
def cW(r:Nat):(t:Ty)->Mk->t.den->Path->AV
 | .unit,_,_,_=>.unit
 | .pair a b,m,x,p=>if m.still then .val (.pair a b) x else .pair (cW r a m.fst x.1 (p++[.fst])) (cW r b m.snd x.2 (p++[.snd]))
 | .sl t,.own s _,_,p=>.b5 r p s
 | .sl _,.gone,_,_=>.undef
 | t,_,x,_=>.val t x
def aO.focus(S:aO)(r:Nat)(p:Path):Option Dy:=
 match S.root r with
 | some R=>V.focus R.ty R.ms R.x p
 | none=>none
abbrev St.focus(S:St)(r:Nat)(p:Path):Option Dy:=S.rt.focus r p
def rd(S:aO):(t:Ty)->AV->Option t.den
 | t,.val t' x=>qbv t' t x
 | .unit,.unit=>some ()
 | .bool,.cF b=>some b
 | .sl _,.fe=>some []
 | .sl t,.b5 r p s=>
  match S.focus r p with
  | some ⟨.sl t',.own s' m,xs⟩=>if s=s'/\m.whole then qbv (.sl t') (.sl t) xs else none
  | _=>none
 | .pair a b,.pair u v=>(rd S a u).bind fun x=>(rd S b v).bind fun y=>some (x,y)
 | _,_=>none
def tk(S:aO):(t:Ty)->AV->Option (Mk×t.den×aO)
 | t,.val t' x=>(qbv t' t x).bind fun x=>some (.no,x,S)
 | .unit,.unit=>some (.no,(),S)
 | .bool,.cF b=>some (.no,b,S)
 | .sl t,.fe=>some (Mk.top (.sl t),[],S)
 | .sl t,.b5 r p s=>
  match S.root r with
  | some R=>
   match V.focus R.ty R.ms R.x p with
   | some ⟨.sl t',.own s' m,xs⟩=>
    if s=s' then
     (qbv (.sl t') (.sl t) xs).bind fun xs=>
     (kW R.ty R.ms p .gone).bind fun m'=>
     some (.own s' m,xs,S.aD r (some { R with ms:=m' }))
    else none
   | _=>none
  | none=>none
 | .pair a b,.pair u v=>(tk S a u).bind fun x=>(tk x.2.2 b v).bind fun y=>some (.pr x.1 y.1,(x.2.1,y.2.1),y.2.2)
 | _,_=>none
def Bi(S:aO):AV->Option Ty
 | .val t _=>some t
 | .cF _=>some .bool
 | .unit=>some .unit
 | .b5 r p _=>(S.focus r p).bind fun d=>some d.ty
 | .pair a b=>(Bi S a).bind fun x=>(Bi S b).bind fun y=>some (.pair x y)
 | _=>none
def share(S:aO)(t:Ty)(v:AV):Option (t.den×aO):=
 (tk S t v).bind fun x=>some (x.2.1,x.2.2)
def Ty.nz:Ty->Bool
 | .unit=>false
 | _=>true
def qx:Path->Bool
 | []=>false
 | .idx _ _::_=>true
 | _::p=>qx p
def AV.gB(d:Nat):AV->Bool
 | .addr r p=>!(Nat.beq r d)||qx p
 | .pair a b=>a.gB d&&b.gB d
 | .jn a=>a.gB d
 | .gz _ a=>a.gB d
 | _=>true
def Mk.ak:Mk->Bool
 | .own s m=>Nat.blt s 1048576&&m.ak
 | .pr a b=>a.ak&&b.ak
 | _=>true
def AV.roots:AV->List Nat
 | .b5 r _ _=>[r]
 | .view r _ _ _ _=>[r]
 | .addr r _=>[r]
 | .pair a b=>a.roots++b.roots
 | .jn a=>a.roots
 | .gz _ c=>c.roots
 | _=>[]
def r9(d:Nat):Nat->List AV->Bool
 | _,[]=>true
 | i,v::l=>(Nat.beq i d||!(v.roots.contains d))&&r9 d (i+1) l
def DZ(d:Nat):Nat->List AV->Bool
 | _,[]=>true
 | i,v::l=>(Nat.beq i d||v.gB d)&&DZ d (i+1) l
inductive PK where
 | val (t:Ty)
 | own (t:Ty) (m:Mk)
 | cA (t:Ty) (m m':Mk)
 | cN (t:Ty) (m m':Mk)
 | bZ (t:Ty)
 | fn
inductive RK where
 | val (t:Ty) (m:Mk)
 | ptr (t:Ty) (m:Mk)
structure rI where
 params:List PK
 res:List RK
@[reducible] def PK.den:PK->Type
 | .val t | .own t _ | .cA t _ _ | .cN t _ _ | .bZ t=>t.den
 | .fn=>aZ
@[reducible] def RK.den:RK->Type
 | .val t _ | .ptr t _=>t.den
@[reducible] def eV:List PK->Type
 | []=>Unit
 | k::ks=>k.den×eV ks
@[reducible] def fc:List RK->Type
 | []=>Unit
 | k::ks=>k.den×fc ks
@[reducible] def cR:List PK->Type
 | []=>Unit
 | .cA t _ _::ks | .cN t _ _::ks=>t.den×cR ks
 | _::ks=>cR ks
structure Hints where
 keep:List (Nat×List Nat×List Nat×List Nat):=[]
 share:List (Nat×Nat):=[]
 outs:List (Nat×Nat):=[]
structure Ctx where
 ty:TypeId->Ty
 sig:FuncId->rI
 hints:FuncId->Hints
abbrev Den(C:Ctx):=(g:FuncId)->eV (C.sig g).params->Option (fc (C.sig g).res×cR (C.sig g).params)
def jl(lo hi:Nat):Path->Bool
 | []=>true
 | .idx _ s::p=>!(Nat.ble lo s&&Nat.blt s hi)&&jl lo hi p
 | _::p=>jl lo hi p
@[reducible] def i5:List PK->Type
 | []=>Unit
 | .own t _::ks=>t.den×i5 ks
 | _::ks=>i5 ks
inductive Tr (α:Type):Type 1 where
 | ret (a:α)
 | fail
 | br (c:Bool) (x y:Tr α)
 | nil (n:Nat) (neg:Bool) (f:Bool->Tr α)
 | call {β:Type} (x:Option β) (f:β->Tr α)
def br{R:Type}(c:Bool)(a b:Option R):Option R:=
 match c with
 | true=>a
 | false=>b
def qd{α R:Type}(x:Option α)(f:α->Option R):Option R:=x.bind f
noncomputable def both{R:Type}(x y:Option R):Option R:=
 match x,y with
 | some a,some b=>open Classical in if a=b then some a else none
 | _,_=>none
noncomputable def Ka{R:Type}(n:Nat)(neg:Bool)(k:Bool->Option R):Option R:=
 V.br (decide (n=0)) (both (k true) (k false)) (k neg)
noncomputable def Tr.run{α R:Type}(k:α->Option R):Tr α->Option R
 | .ret a=>k a
 | .fail=>none
 | .br c x y=>V.br c (x.run k) (y.run k)
 | .nil n neg f=>Ka n neg fun b=>(f b).run k
 | .call x f=>qd x fun b=>(f b).run k
def Tr.dec{α:Type}(β:Bool):Tr α->Option α
 | .ret a=>some a
 | .fail=>none
 | .br c x y=>match c with
  | true=>x.dec β
  | false=>y.dec β
 | .nil n neg f=>(f (if n=0 then β else neg)).dec β
 | .call x f=>x.bind fun b=>(f b).dec β
theorem Tr.iI{α R:Type}{k:α->Option R}{r:R}(β:Bool):∀(t:Tr α),t.run k=some r->∃a,t.dec β=some a/\k a=some r
 | .ret a,h=>⟨a,rfl,h⟩
 | .fail,h=>by simp[Tr.run]at h
 | .br c x y,h=>by
  cases c with
  | true=>exact Tr.iI β x h
  | false=>exact Tr.iI β y h
 | .nil n neg f,h=>by
  simp only[Tr.run,Ka]at h;simp only[Tr.dec];by_cases e:n=0
  .simp only[e,oP,V.br,aX]at h⊢;unfold both at h;split at h
   .rename_i a b h1 h2;split at h
    .rename_i hab;subst hab;simp only[aI]at h;subst h;cases β with
     | true=>exact Tr.iI true _ h1
     | false=>exact Tr.iI false _ h2
    .simp at h
   .simp at h
  .simp only[e,decide_false,V.br,dX]at h⊢;exact Tr.iI β _ h
 | .call x f,h=>by
  simp only[Tr.run,qd]at h;cases x with
  | none=>simp at h
  | some b=>simp only[dn]at h;obtain⟨a,h1,h2⟩:=Tr.iI β (f b) h;exact⟨a,by simpa [Tr.dec] using h1,h2⟩
def Tr.of{α:Type}:Option α->Tr α
 | some a=>.ret a
 | none=>.fail
def AV.flat:AV->AV
 | .cF b=>.val .bool b
 | v=>v
def AP:Value->AV
 | .bool b=>.val .bool b
 | .int k n=>.val (.int k) n
 | .string s=>.val .str s
 | .slice none 0 0=>.fe
 | _=>.undef
def ev(S:St):Operand->AV
 | .tmp t=>(S.get t).flat
 | .const v=>AP v
 | .func f=>.gz f .unit
 | .global _=>.undef
def vT:AV->Option (IntKind×Int)
 | .val (.int k) n=>some (k,n)
 | _=>none
def asBool:AV->Option Bool
 | .val .bool b=>some b
 | .cF b=>some b
 | _=>none
def pe:(t:Ty)->t.den->t.den->Bool
 | .unit,_,_=>true
 | .int _,x,y=>x == y
 | .bool,x,y=>x == y
 | .str,x,y=>x.toList == y.toList
 | .sl _,_,_=>false
 | .pair a b,x,y=>pe a x.1 y.1&&pe b x.2 y.2
def Ty.comp:Ty->Bool
 | .sl _=>false
 | .pair a b=>a.comp&&b.comp
 | _=>true
def Er(T:Ty)(op:BinOp)(u:Ty)(x:u.den)(t:Ty)(y:t.den):Tr AV:=
 if u.comp/\T=u then
  match op,qbv t u y with
  | .eql,some y=>.ret (.val .bool (pe u x y))
  | .neq,some y=>.ret (.val .bool (!(pe u x y)))
  | _,_=>.fail
 else .fail
def j7(T:Ty)(op:BinOp)(x y:AV):Tr AV:=
 match x,y with
 | .val (.int ka) a,.val (.int kb) b=>
  match op with
  | .shl=>.br (decide (b<0)) .fail (.ret (.val (.int ka) (ka.wrap (a * 2 ^ (min b.toNat ka.bits)))))
  | .shr=>.br (decide (b<0)) .fail (.ret (.val (.int ka) (a.fdiv (2 ^ (min b.toNat ka.bits)))))
  | .add=>if ka=kb then .ret (.val (.int ka) (ka.wrap (a+b))) else .fail
  | .sub=>if ka=kb then .ret (.val (.int ka) (ka.wrap (a-b))) else .fail
  | .mul=>if ka=kb then .ret (.val (.int ka) (ka.wrap (a * b))) else .fail
  | .quo=>if ka=kb then (.br (decide (b=0)) .fail (.ret (.val (.int ka) (ka.wrap (a.tdiv b))))) else .fail
  | .rem=>if ka=kb then (.br (decide (b=0)) .fail (.ret (.val (.int ka) (a.tmod b)))) else .fail
  | .and=>if ka=kb then .ret (.val (.int ka) (ka.wrap (BitVec.ofInt ka.bits a &&&BitVec.ofInt ka.bits b).toNat)) else .fail
  | .or=>if ka=kb then .ret (.val (.int ka) (ka.wrap (BitVec.ofInt ka.bits a |||BitVec.ofInt ka.bits b).toNat)) else .fail
  | .xor=>if ka=kb then .ret (.val (.int ka) (ka.wrap (BitVec.ofInt ka.bits a ^^^ BitVec.ofInt ka.bits b).toNat)) else .fail
  | .andNot=>.fail
  | .eql=>if ka=kb then .ret (.val .bool (a == b)) else .fail
  | .neq=>if ka=kb then .ret (.val .bool (a != b)) else .fail
  | .lss=>if ka=kb then .ret (.val .bool (decide (a<b))) else .fail
  | .leq=>if ka=kb then .ret (.val .bool (decide (a<=b))) else .fail
  | .gtr=>if ka=kb then .ret (.val .bool (decide (a>b))) else .fail
  | .geq=>if ka=kb then .ret (.val .bool (decide (a>=b))) else .fail
 | .val .str a,.val .str b=>
  match op with
  | .add=>.br (decide (a.size+b.size<=2 ^ 47)) (.ret (.val .str (a++b))) .fail
  | .eql=>.ret (.val .bool (a.toList == b.toList))
  | .neq=>.ret (.val .bool (!(a.toList == b.toList)))
  | .lss=>.ret (.val .bool (Op.bytesLess a.toList b.toList))
  | .leq=>.ret (.val .bool (Op.bytesLess a.toList b.toList||a.toList == b.toList))
  | .gtr=>.ret (.val .bool (!(Op.bytesLess a.toList b.toList||a.toList == b.toList)))
  | .geq=>.ret (.val .bool (!(Op.bytesLess a.toList b.toList)))
  | _=>.fail
 | .val .bool a,.val .bool b=>
  if T=.bool then
   match op with
   | .eql=>.ret (.val .bool (a == b))
   | .neq=>.ret (.val .bool (!(a == b)))
   | _=>.fail
  else .fail
 | .val (.pair a b) x,.val t y=>Er T op (.pair a b) x t y
 | _,_=>.fail
def yB(S:aO):AV->Option Int
 | .val (.sl _) xs=>some xs.length
 | .fe=>some 0
 | .b5 r p s=>
  match S.focus r p with
  | some ⟨.sl _,.own s' _,xs⟩=>if s=s' then some (xs.length:Int) else none
  | _=>none
 | _=>none
def fY:Nat:=2 ^ 38
def xO(S:aO)(T:Ty)(x i:AV):Tr AV:=
 match vT i with
 | none=>.fail
 | some (_,n)=>
  match x with
  | .val (.sl t) xs=>if T=.sl t then .br (decide (0<=n)&&decide (n<(xs.length:Int))) (.ret (.b_ t (xs.getD n.toNat t.zero))) .fail else .fail
  | .b5 r p s=>
   match S.focus r p with
   | some ⟨.sl t,.own s' _,xs⟩=>if s=s'/\T=.sl t then (.br (decide (0<=n)&&decide (n<(xs.length:Int))) (.ret (.addr r (p++[.idx n.toNat s]))) .fail) else .fail
   | _=>.fail
  | _=>.fail
def uY(S:aO)(t:Ty):AV->Option AV
 | .b_ t' x=>(qbv t' t x).bind fun x=>some (.val t x)
 | .addr r p=>
  match S.focus r p with
  | some d=>if d.ty=t then some (cW r d.ty d.ms d.x p) else none
  | none=>none
 | _=>none
def Bz(S:aO)(T:Ty)(x:AV)(f:Nat):Option AV:=
 match x with
 | .addr r p=>
  match S.focus r p with
  | some d=>if d.ty=T/\(focus d.ty d.ms d.x (g6 f)).isSome then some (.addr r (p++g6 f)) else none
  | none=>none
 | .b_ t x=>if t=T then (focus t .no x (g6 f)).bind fun d=>some (.b_ d.ty d.x) else none
 | _=>none
def Si(S:aO)(hint:Bool)(t:Ty)(v:AV):Option (Mk×t.den×aO):=
 (tk S t v).bind fun x=>if hint then (if x.1.whole then some (.no,x.2.1,x.2.2) else none) else some x
def A0(S:aO)(site:Nat)(hint:Bool)(t:Ty)(a v:AV):Option aO:=
 match a with
 | .addr r p=>
  (Si S hint t v).bind fun x=>
  match x.2.2.root r with
  | some R=>
   (V.focus R.ty R.ms R.x p).bind fun d=>
   if d.ty=t/\x.1.ak then
    (put R.ty R.ms R.x p t (x.1.stamp site) x.2.1).bind fun r'=>some (x.2.2.aD r (some { R with ms:=r'.1,x:=r'.2 }))
   else none
  | none=>none
 | _=>none
def ow(S:aO)(t:Ty):Mk×t.den->List (Nat×AV)->Option (Mk×t.den×aO)
 | acc,[]=>some (acc.1,acc.2,S)
 | acc,(i,v)::rest=>
  (focus t acc.1 acc.2 (g6 i)).bind fun d=>
  (tk S d.ty v).bind fun x=>
  (put t acc.1 acc.2 (g6 i) d.ty x.1 x.2.1).bind fun r=>ow x.2.2 t r rest
def tC(S:aO)(t:Ty):Mk×List t.den->List (Nat×AV)->Option (Mk×List t.den×aO)
 | acc,[]=>some (acc.1,acc.2,S)
 | acc,(i,v)::rest=>
  if i<acc.2.length then
   (tk S t v).bind fun x=>tC x.2.2 t (acc.1.meet x.1,acc.2.set i x.2.1) rest
  else none
def Ku:AV->Nat->Option AV
 | .jn (.pair a _),0=>some a
 | .jn (.pair _ b),n+1=>Ku (.jn b) n
 | _,_=>none
def yL:(t:Ty)->t.den->AV
 | .unit,_=>.unit
 | .pair a b,x=>.pair (.val a x.1) (yL b x.2)
 | t,x=>.val t x
def xV:AV->AV
 | .val t x=>yL t x
 | .pair a b=>.pair a (xV b)
 | v=>v
def lB(S:aO):AV->Option (List bt)
 | .unit=>some []
 | .pair (.addr r p) rest=>
  match S.focus r p with
  | some d=>if d.ms.whole then (lB S rest).bind fun l=>some (.bZ d.ty d.x::l) else none
  | none=>none
 | .pair (.b_ t x) rest=>(lB S rest).bind fun l=>some (.bZ t x::l)
 | .pair (.val t x) rest=>(lB S rest).bind fun l=>some (.val t x::l)
 | _=>none
def fV(S:aO):(ks:List PK)->List AV->Option (i5 ks×aO)
 | [],[]=>some ((),S)
 | .own t m::ks,a::aF=>
  (tk S t a).bind fun x=>if m.aQ x.1 then (fV x.2.2 ks aF).bind fun r=>some ((x.2.1,r.1),r.2) else none
 | .val _::ks,_::aF=>fV S ks aF
 | .cA _ _ _::ks,_::aF=>fV S ks aF
 | .cN _ _ _::ks,_::aF=>fV S ks aF
 | .bZ _::ks,_::aF=>fV S ks aF
 | .fn::ks,_::aF=>fV S ks aF
 | _,_=>none
def jZ:AV->Option (Nat×Path)
 | .b5 r p _=>some (r,p)
 | .pair a b=>
  match jZ a with
  | some (r,p)=>some (r,p.dropLast)
  | none=>match jZ b with
   | some (r,p)=>some (r,p.dropLast)
   | none=>none
 | _=>none
def uP:AV->Path->Bool
 | .b5 _ p' _,p=>decide (p'=p)
 | .pair a b,p=>uP a (p++[.fst])&&uP b (p++[.snd])
 | _,_=>true
def vM:List PK->List AV->Bool
  | .cN _ _ _::ks,a::aF=>
    (match jZ a with
     | some (_,p)=>uP a p
     | none=>true)&&vM ks aF
  | _::ks,_::aF=>vM ks aF
  | _,_=>true
def jN(r:Nat):(t:Ty)->AV->Path->Mk->t.den->Option (Mk×t.den)
 | .pair a b,.pair u v,p,md,xd=>
  (jN r a u (p++[.fst]) md.fst xd.1).bind fun y=>
  (jN r b v (p++[.snd]) md.snd xd.2).bind fun z=>some (.pr y.1 z.1,(y.2,z.2))
 | .sl _,.b5 r' p' s,p,md,xd=>
  match md with
  | .own s' m0=>if r=r'/\s=s' then some (.own s' m0,xd) else none
  | _=>none
 | t,.val t' x,_,md,_=>if md.still then (qbv t' t x).bind fun y=>some (.no,y) else none
 | .unit,.unit,_,md,_=>if md.still then some (.no,()) else none
 | _,_,_,_,_=>none
def gw(S:aO):(ks:List PK)->List AV->Option (cR ks×aO)
 | [],[]=>some ((),S)
 | .cN t m _::ks,a::aF=>
  match jZ a with
  | some (q,p)=>
   match S.root q with
   | some R=>
    (focus R.ty R.ms R.x p).bind fun d=>
    if h:d.ty=t then
     (jN q t a p d.ms (h ▸ d.x)).bind fun x=>if m.aQ x.1 then (gw (S.aD q none) ks aF).bind fun r=>some ((x.2,r.1),r.2) else none
    else none
   | none=>none
  | none=>none
 | .cA t m _::ks,a::aF=>
  match a with
  | .addr q []=>
   match S.root q with
   | some R=>if m.aQ R.ms/\R.mem then (qbv R.ty t R.x).bind fun x=>(gw (S.aD q none) ks aF).bind fun r=>some ((x,r.1),r.2) else none
   | none=>none
  | _=>none
 | .val _::ks,_::aF=>gw S ks aF
 | .own _ _::ks,_::aF=>gw S ks aF
 | .bZ _::ks,_::aF=>gw S ks aF
 | .fn::ks,_::aF=>gw S ks aF
 | _,_=>none
def iR(S:aO):(ks:List PK)->List AV->i5 ks->cR ks->Option (eV ks)
 | [],[],_,_=>some ()
 | .val t::ks,a::aF,g,o=>(rd S t a).bind fun x=>(iR S ks aF g o).bind fun r=>some (x,r)
 | .bZ t::ks,a::aF,g,o=>
  match a with
  | .b_ t' x=>(qbv t' t x).bind fun x=>(iR S ks aF g o).bind fun r=>some (x,r)
  | .addr q p=>
   match S.focus q p with
   | some d=>if d.ms.whole then (qbv d.ty t d.x).bind fun x=>(iR S ks aF g o).bind fun r=>some (x,r) else none
   | none=>none
  | _=>none
 | .own _ _::ks,_::aF,g,o=>(iR S ks aF g.2 o).bind fun r=>some (g.1,r)
 | .cA _ _ _::ks,_::aF,g,o=>(iR S ks aF g o.2).bind fun r=>some (o.1,r)
 | .cN _ _ _::ks,_::aF,g,o=>(iR S ks aF g o.2).bind fun r=>some (o.1,r)
 | .fn::ks,a::aF,g,o=>
  match a with
  | .gz f caps=>(lB S caps).bind fun l=>(iR S ks aF g o).bind fun r=>some (⟨f,l⟩,r)
  | .dZ c=>(iR S ks aF g o).bind fun r=>some (c,r)
  | _=>none
 | _,_,_,_=>none
def gx(site r:Nat):(t:Ty)->AV->Path->Mk->t.den->Mk->t.den->Option (Mk×t.den)
 | .pair a b,.pair u v,p,md,xd,m,o=>
  (gx site r a u (p++[.fst]) md.fst xd.1 m.fst o.1).bind fun y=>
  (gx site r b v (p++[.snd]) md.snd xd.2 m.snd o.2).bind fun z=>some (.pr y.1 z.1,(y.2,z.2))
 | .sl _,.b5 r' p' s,p,md,_,m,o=>
  match md with
  | .own s' m0=>if r=r'/\s=s'/\m0.ak/\(Mk.own s' m0).aQ m then some (.own s' (m0.stamp site),o) else none
  | _=>none
 | _,.val _ _,_,md,xd,_,_=>if md.still then some (.no,xd) else none
 | _,.unit,_,md,xd,_,_=>if md.still then some (.no,xd) else none
 | _,_,_,_,_,_,_=>none
def xN(S:aO)(site:Nat)(t:Ty)(a:AV)(m:Mk)(o:t.den):Option aO:=
 match jZ a with
 | none=>some S
 | some (r,p)=>
  match S.root r with
  | some R=>
   (focus R.ty R.ms R.x p).bind fun d=>
   if h:d.ty=t then
    (gx site r t a p d.ms (h ▸ d.x) m o).bind fun y=>
    if qx p&&!y.1.ak then none else
    (put R.ty R.ms R.x p t y.1 y.2).bind fun r'=>some (S.aD r (some { R with ms:=r'.1,x:=r'.2 }))
   else none
  | none=>none
def PK.plain:PK->Bool
 | .val _ | .bZ _ | .fn=>true
 | _=>false
def PK.lI:PK->Bool
 | .own _ _=>true
 | _=>false
def PK.eA:PK->Bool
 | .cA _ _ _ | .cN _ _ _=>true
 | _=>false
def Mk.full:Ty->Mk->Bool
 | .sl t,.own _ m=>m.full t
 | .sl _,_=>false
 | .pair a b,m=>m.fst.full a&&m.snd.full b
 | _,_=>true
def PK.full:PK->Bool
 | .cA t _ m | .cN t _ m=>m.full t
 | _=>true
def RK.full:RK->Bool
 | .val t m | .ptr t m=>m.full t
def rI.full(s:rI):Bool:=s.params.all PK.full&&s.res.all RK.full
def AV.shared:AV->Bool
 | .val _ _ | .unit | .cF _ | .fe | .b_ _ _ | .dZ _=>true
 | .pair a b=>a.shared&&b.shared
 | .gz _ c=>c.shared
 | _=>false
def mb:List PK->List AV->Bool
 | k::ks,a::aF=>(!k.plain||a.shared)&&mb ks aF
 | _,_=>true
def GK(ks:List PK):Bool:=
 match ks.filter PK.eA with
 | []=>true
 | [_]=>ks.all fun k=>!k.lI
 | _=>false
def f9(S:aO)(site:Nat):(ks:List PK)->List AV->cR ks->Option aO
 | [],[],_=>some S
 | .cA t _ m'::ks,a::aF,o=>
  match a with
  | .addr q []=>if m'.ak then f9 (S.aD q (some ⟨t,m'.stamp site,o.1,true⟩)) site ks aF o.2 else none
  | _=>none
 | .cN t _ m'::ks,a::aF,o=>(xN S site t a m' o.1).bind fun S=>f9 S site ks aF o.2
 | .val _::ks,_::aF,o=>f9 S site ks aF o
 | .own _ _::ks,_::aF,o=>f9 S site ks aF o
 | .bZ _::ks,_::aF,o=>f9 S site ks aF o
 | .fn::ks,_::aF,o=>f9 S site ks aF o
 | _,_,_=>none
def RK.ty:RK->Ty
 | .val t _ | .ptr t _=>t
def RK.ms:RK->Mk
 | .val _ m | .ptr _ m=>m
def RK.kj:RK->Bool
 | .ptr _ _=>true
 | _=>false
def iZ:List RK->Ty
 | []=>.unit
 | k::ks=>.pair k.ty (iZ ks)
def pg:List RK->Mk
 | []=>.no
 | k::ks=>.pr k.ms (pg ks)
def jO:(ks:List RK)->fc ks->(iZ ks).den
 | [],_=>()
 | .val _ _::ks,r=>(r.1,jO ks r.2)
 | .ptr _ _::ks,r=>(r.1,jO ks r.2)
structure bV where
 w_:Bool
 pl:Bool
 fr:Bool
 sh:Bool
def dR(A:bV)(S:aO)(d:Option Nat)(site:Nat)(t:Ty)(m:Mk)(x:t.den)(mem:Bool):Tr (AV×aO):=
 match d with
 | none=>.ret (.undef,S)
 | some d=>
  if !Nat.blt d S.length||!Nat.blt site 1048576 then .fail
  else if mem then (if A.w_ then .ret (.addr d [],S.aD d (some ⟨t,m.stamp site,x,true⟩)) else .fail)
  else if m.still then .ret (.val t x,S)
  else if A.w_||(A.fr&&m.ak&&A.pl) then .ret (cW d t (m.stamp site) x [],S.aD d (some ⟨t,m.stamp site,x,false⟩)) else .fail
section ops
variable (C:Ctx) (D:Den C)
def BN(A:bV)(S:aO)(d:Option Nat)(site:Nat)(ks:List RK)(r:fc ks):Tr (AV×aO):=
 if (pg ks).ak&&ks.all (fun k=>!k.kj&&k.ty.nz) then
  match d with
  | none=>.ret (.undef,S)
  | some d=>
   match dR A S (some d) site (iZ ks) (pg ks) (jO ks r) false with
   | .ret (v,S)=>.ret (.jn (xV v),S)
   | _=>.fail
 else .fail
def lP(A:bV)(S:aO)(d:Option Nat)(site:Nat):(ks:List RK)->fc ks->Tr (AV×aO)
 | [],_=>.ret (.jn .unit,S)
 | [.val t m],r=>if A.sh then (if m.whole then .ret (.val t r.1,S) else .fail) else if m.ak then dR A S d site t m r.1 false else .fail
 | [.ptr t m],r=>if m.ak then dR A S d site t m r.1 true else .fail
 | ks,r=>BN A S d site ks r
def ru(A:bV)(S:aO)(d:Option Nat)(site:Nat)(g:FuncId)(args:List AV):Tr (AV×aO):=
  match fV S (C.sig g).params args with
  | none=>.fail
  | some (gd,S1)=>
  match gw S1 (C.sig g).params args with
  | none=>.fail
  | some (od,S2)=>
  match iR S2 (C.sig g).params args gd od with
  | none=>.fail
  | some a=>
    if GK (C.sig g).params&&(mb (C.sig g).params args||(C.sig g).full) then
      .call (D g a) fun r=>
        if (C.sig g).params.all (fun k=>!k.eA) then lP A S1 d site (C.sig g).res r.1
        else if A.fr then
          .br (vM (C.sig g).params args)
            (match f9 S1 site (C.sig g).params args r.2 with
             | none=>.fail
             | some S3=>lP A S3 d site (C.sig g).res r.1) .fail
        else .fail
    else .fail
def kE(S:aO):List PK->List AV->Option (List AV×aO)
 | [],[]=>some ([],S)
 | .val t::ks,a::aF=>
  if a.shared then (kE S ks aF).map fun z=>(a::z.1,z.2)
  else match tk S t a with
   | some (m,y,S1)=>if m.whole then (kE S1 ks aF).map fun z=>(.val t y::z.1,z.2) else none
   | none=>none
 | _::ks,a::aF=>(kE S ks aF).map fun z=>(a::z.1,z.2)
 | _,_=>none
def FG(s:rI)(args:List AV):Bool:=!(mb s.params args||s.full)
def p_(A:bV)(S:aO)(d:Option Nat)(site:Nat)(g:FuncId)(args:List AV):Tr (AV×aO):=
 if FG (C.sig g) args then
  match kE S (C.sig g).params args with
  | some z=>ru C D A z.2 d site g z.1
  | none=>.fail
 else ru C D A S d site g args
def yt:(ks:List PK)->List bt->Option (eV ks)
 | [],[]=>some ()
 | .val t::ks,.val t' x::l=>(qbv t' t x).bind fun x=>(yt ks l).bind fun r=>some (x,r)
 | .bZ t::ks,.bZ t' x::l=>(qbv t' t x).bind fun x=>(yt ks l).bind fun r=>some (x,r)
 | _,_=>none
def D_:(ks:List RK)->fc ks->(t:Ty)->Option t.den
 | [.val t' _],r,t=>qbv t' t r.1
 | _,_,_=>none
def gl(c:aZ)(xs:List bt)(t:Ty):Option t.den:=
 (yt (C.sig c.f).params (xs++c.caps)).bind fun a=>(D c.f a).bind fun r=>D_ (C.sig c.f).res r.1 t
def yD(S:aO):List Ty->List AV->Option (List bt)
 | [],[]=>some []
 | t::ts,a::aF=>(rd S t a).bind fun x=>(yD S ts aF).bind fun l=>some (.val t x::l)
 | _,_=>none
def Ty.scalar:Ty->Bool
 | .int _=>true
 | .bool=>true
 | .str=>true
 | _=>false
def mG:AV->List AV
 | .pair a b=>a::mG b
 | _=>[]
def pE:Mk->Option Mk
 | .own _ m=>some m
 | .no=>some .no
 | _=>none
def CW(A:bV)(S:aO)(d:Option Nat)(site:Nat)(t:Ty)(x y:AV):Tr (AV×aO):=
 match tk S (.sl t) x with
 | some (.own _ m,xs,S1)=>
  match tk S1 (.sl t) y with
  | some (my,ys,S2)=>
   match pE my with
   | some m'=>
    if (m.meet m').ak then
     .br (decide (xs.length+ys.length<=fY)) (dR A S2 d site (.sl t) (.own 0 (m.meet m')) (xs++ys) false) .fail
    else .fail
   | none=>.fail
  | none=>.fail
 | _=>.fail
def qA(S:aO)(t:Ty):AV->AV->Tr (AV×aO)
 | .b5 r p s,.val (.sl t2) ys=>
  match S.root r with
  | some R=>
   match V.focus R.ty R.ms R.x p with
   | some ⟨.sl t',.own s' m,xs⟩=>
    if s=s'/\t'=t/\t2=t/\m.still=true then
     match qbv (.sl t') (.sl t) xs,qbv (.sl t2) (.sl t) ys,put R.ty R.ms R.x p (.sl t') .no xs with
     | some xs',some ys',some r'=>.br (decide ((xs':List t.den).length+(ys':List t.den).length<=fY)) (.ret (.val (.sl t) ((xs':List t.den)++(ys':List t.den)),S.aD r (some { R with ms:=r'.1,x:=r'.2 }))) .fail
     | _,_,_=>.fail
    else .fail
   | _=>.fail
  | none=>.fail
 | _,_=>.fail
def Ec(A:bV)(S:aO)(d:Option Nat)(site:Nat)(hint:Bool)(v:AV):Tr (AV×aO):=
 match Bi S v with
 | some t=>
  match tk S t v with
  | some (m,y,S1)=>
   if hint then (if m.whole then .ret (.val t y,S1) else .fail)
   else dR A S1 d site t m y false
  | none=>.fail
 | none=>.fail
def Ip:Option AV->Option Int
 | none=>some 0
 | some v=>(vT v).map (·.2)
def DO(n:Int):Option AV->Option Int
 | none=>some n
 | some v=>(vT v).map (·.2)
def uD(S:aO)(e:Ty)(r:Nat)(p:Path)(s:Nat)(lo:AV)(hi:Option AV):Tr (AV×aO):=
 match vT lo,hi with
 | some kl,none=>
  match S.focus r p with
  | some ⟨.sl e',.own s' _,xs⟩=>if s=s'/\e=e' then .br (decide (0<=kl.2)&&decide (kl.2<=((xs:List e'.den).length:Int))) (.ret (.view r p s kl.2.toNat (xs:List e'.den).length,S)) .fail else .fail
  | _=>.fail
 | _,_=>.fail
def vS(t:Ty)(xs:List t.den)(lo hi:Nat):List t.den:=xs.take lo++List.replicate (hi-lo) t.zero++xs.drop hi
def xY(S:aO)(t:Ty):AV->Tr (AV×aO)
 | .view r p s lo hi=>
  match S.root r with
  | some R=>
   match V.focus R.ty R.ms R.x p with
   | some ⟨.sl t',.own s' m,xs⟩=>
    if s=s'/\t=t'/\m.still=true/\s'<1048576 then
     match put R.ty R.ms R.x p (.sl t') (.own s' m) (vS t' xs lo hi) with
     | some r'=>.br (decide (lo<hi)) (.ret (.undef,S.aD r (some { R with ms:=r'.1,x:=r'.2 }))) (.ret (.undef,S))
     | none=>.fail
    else .fail
   | _=>.fail
  | none=>.fail
 | _=>.fail
def vQ(t:Ty)(xs ys:List t.den):List t.den:=ys.take xs.length++xs.drop ys.length
def xT(S:aO)(t:Ty):AV->AV->Tr (AV×aO)
 | .b5 r p s,.val (.sl t2) ys=>
  match S.root r with
  | some R=>
   match V.focus R.ty R.ms R.x p with
   | some ⟨.sl t',.own s' .no,xs⟩=>
    if s=s'/\t'=t/\t2=t/\s'<1048576 then
     match qbv (.sl t2) (.sl t') ys with
     | some ys'=>
      match put R.ty R.ms R.x p (.sl t') (.own s' .no) (vQ t' xs ys') with
      | some r'=>.br (decide (0<(ys':List t'.den).length)&&decide (0<(xs:List t'.den).length)) (.ret (.val (.int .i64) ((min (ys':List t'.den).length (xs:List t'.den).length:Nat):Int),S.aD r (some { R with ms:=r'.1,x:=r'.2 }))) (.ret (.val (.int .i64) ((0:Nat):Int),S))
      | none=>.fail
     | none=>.fail
    else .fail
   | _=>.fail
  | none=>.fail
 | _,_=>.fail
def uB(A:bV)(S:aO)(T:Ty)(d:Option Nat)(site:Nat)(x:AV)(lo hi:Option AV):Tr (AV×aO):=
 match x,T with
 | .val .str s,.str=>
  match Ip lo,DO s.size hi with
  | some l,some h=>.br (decide (0<=l)&&decide (l<=h)&&decide (h<=(s.size:Int))) (.ret (.val .str (s.extract l.toNat h.toNat),S)) .fail
  | _,_=>.fail
 | .val (.sl e) xs,.sl e'=>
  match Ip lo,DO xs.length hi with
  | some l,some h=>if e=e' then .br (decide (0<=l)&&decide (l<=h)&&decide (h<=(xs.length:Int))) (.ret (.val (.sl e) ((xs.take h.toNat).drop l.toNat),S)) .fail else .fail
  | _,_=>.fail
 | .b5 r p s,.sl e=>
  match lo with
  | none=>
   match tk S (.sl e) (.b5 r p s) with
   | some (.own _ m,xs,S2)=>
    match DO xs.length hi with
    | some h=>if m.ak then (.br (decide (0<=h)&&decide (h<=(xs.length:Int))) (dR A S2 d site (.sl e) (.own 0 m) (xs.take h.toNat) false) .fail) else .fail
    | none=>.fail
   | _=>.fail
  | some v=>uD S e r p s v hi
 | _,_=>.fail
def aY(A:bV)(ρ:Operand->AV)(S:aO)(site:Nat)(hint:Bool)(o:Oper):Tr (AV×aO):=
 match o.op with
 | .move x=>.ret (ρ x,S)
 | .assign x=>
  match ρ x with
  | .b5 r p s=>if qx p&&!hint then .ret (.b5 r p s,S) else Ec A S o.dst site hint (.b5 r p s)
  | .pair a b=>Ec A S o.dst site hint (.pair a b)
  | v=>.ret (v,S)
 | .pick c a b=>
  match asBool (ρ c) with
  | some c=>.br c (.ret (ρ a,S)) (.ret (ρ b,S))
  | none=>.fail
 | .alloc t=>if (C.ty t).nz then dR A S o.dst site (C.ty t) (Mk.top (C.ty t)) (C.ty t).zero true else .fail
 | .box t x=>
  if (C.ty t).nz then
   match tk S (C.ty t) (ρ x) with
   | some (m,y,S1)=>if hint then (if m.whole then dR A S1 o.dst site (C.ty t) .no y true else .fail) else dR A S1 o.dst site (C.ty t) m y true
   | none=>.fail
  else .fail
 | .build t parts=>
  if (C.ty t).nz&&(C.ty t).agg then
   match ow S (C.ty t) (Mk.zx hint (C.ty t),(C.ty t).zero) (parts.toList.map fun p=>(p.1,ρ p.2)) with
   | some (m,y,S1)=>dR A S1 o.dst site (C.ty t) m y false
   | none=>.fail
  else .fail
 | .buildSlice t n parts=>
  match C.ty t with
  | .sl e=>
   match tC S e (Mk.top e,List.replicate n e.zero) (parts.toList.map fun p=>(p.1,ρ p.2)) with
   | some (m,y,S1)=>
    if m.ak&&Nat.ble (n * e.width) 16777216 then
     (if hint then (if m.whole then .ret (.val (.sl e) y,S1) else .fail) else dR A S1 o.dst site (.sl e) (.own 0 m) y false)
    else .fail
   | none=>.fail
  | _=>.fail
 | .load t a=>if (C.ty t).nz then .of ((uY S (C.ty t) (ρ a)).map fun v=>(v,S)) else .fail
 | .store t a x=>if (C.ty t).nz&&A.fr then .of ((A0 S site hint (C.ty t) (ρ a) (ρ x)).map fun S=>(.undef,S)) else .fail
 | .nilCheck x=>
  match ρ x with
  | .addr r p=>match S.focus r p with | some _=>.ret (.addr r p,S) | none=>.fail
  | .b_ t x=>.ret (.b_ t x,S)
  | .gz f c=>.ret (.gz f c,S)
  | _=>.fail
 | .binOp op xt x y _=>
  match ρ y with
  | .fe=>
   match C.ty xt,op,yB S (ρ x) with
   | .sl _,.eql,some n=>.nil n.toNat false fun b=>.ret (.val .bool b,S)
   | .sl _,.neq,some n=>.nil n.toNat true fun b=>.ret (.val .bool b,S)
   | _,_,_=>.fail
  | w=>
   match j7 (C.ty xt) op (ρ x) w with
   | .ret v=>.ret (v,S)
   | .br c (.ret v) .fail=>.br c (.ret (v,S)) .fail
   | .br c .fail (.ret v)=>.br c .fail (.ret (v,S))
   | _=>.fail
 | .unOp op _ x=>
  match op,ρ x with
  | .not,.val .bool b=>.ret (.val .bool (!b),S)
  | .neg,.val (.int kd) n=>.ret (.val (.int kd) (kd.wrap (0-n)),S)
  | _,_=>.fail
 | .convert src dst x=>
  match C.ty src,C.ty dst,ρ x with
  | .int _,.int kd,.val (.int _) n=>.ret (.val (.int kd) (kd.wrap n),S)
  | .str,.str,.val .str s=>.ret (.val .str s,S)
  | .sl (.int .u8),.str,v=>
   match rd S (.sl (.int .u8)) v with
   | some xs=>.ret (.val .str (ByteArray.mk (xs.map fun n=>UInt8.ofNat n.toNat).toArray),S)
   | none=>.fail
  | _,_,_=>.fail
 | .makeFunc (.func f) first caps=>if first.isEmpty then .ret (.gz f (caps.toList.foldr (fun x r=>.pair (ρ x) r) .unit),S) else .fail
 | .makeSlice t len cap=>
  match C.ty t,vT (ρ len),vT (ρ cap) with
  | .sl e,some (.i64,l),some (.i64,c)=>
   .br (decide (0<=l)&&decide (l<=c)&&decide (c<=(fY:Int)))
    (dR A S o.dst site (.sl e) (.own 0 (Mk.top e)) (List.replicate l.toNat e.zero) false) .fail
  | _,_,_=>.fail
 | .slice t x lo hi none=>uB A S (C.ty t) o.dst site (ρ x) (lo.map ρ) (hi.map ρ)
 | .fieldAddr s x f=>.of ((Bz S (C.ty s) (ρ x) f).map fun v=>(v,S))
 | .field ts x f=>
  match ρ x with
  | .val t y=>
   if t=C.ty ts then
    match focus t .no y (g6 f) with
    | some dd=>.ret (.val dd.ty dd.x,S)
    | none=>.fail
   else .fail
  | _=>.fail
 | .indexAddr t x i=>
  match xO S (C.ty t) (ρ x) (ρ i) with
  | .br c (.ret v) .fail=>.br c (.ret (v,S)) .fail
  | _=>.fail
 | .index t x i=>
  match C.ty t,ρ x,vT (ρ i) with
  | .str,.val .str s,some (_,n)=>.br (decide (0<=n)&&decide (n<(s.size:Int))) (.ret (.val (.int .u8) ((s.data.getD n.toNat 0).toNat:Int),S)) .fail
  | _,_,_=>.fail
 | .extract x i=>.of ((Ku (ρ x) i).map fun v=>(v,S))
 | .call c=>
  match c.callee with
  | .builtin b=>
   match b,c.args.toList.map ρ,c.argTypes.toList.map C.ty with
   | .len,[.val .str s],.str::_=>.ret (.val (.int .i64) (s.size:Nat),S)
   | .len,[x],.sl _::_=>.of ((yB S x).map fun n=>(.val (.int .i64) n,S))
   | .append,[x,y],.sl t::.sl t'::_=>if t=t' then (if hint then qA S t x y else CW A S o.dst site t x y) else .fail
   | .clear,[x],.sl t::_=>xY S t x
   | .copy,[x,y],.sl t::_=>xT S t x y
   | .min,[x,y],_=>match x,y with | .val (.int ka) a,.val (.int kb) b=>if ka=kb then .ret (.val (.int ka) (if b<a then b else a),S) else .fail | _,_=>.fail
   | .max,[x,y],_=>match x,y with | .val (.int ka) a,.val (.int kb) b=>if ka=kb then .ret (.val (.int ka) (if b>a then b else a),S) else .fail | _,_=>.fail
   | _,_,_=>.fail
  | .value f=>
   match ρ f with
   | .gz g caps=>p_ C D { A with sh:=hint } S o.dst site g (c.args.toList.map ρ++mG caps)
   | .dZ f=>
    if (C.ty o.type).scalar then
     match yD S (c.argTypes.toList.map C.ty) (c.args.toList.map ρ) with
     | some xs=>.call (gl C D f xs (C.ty o.type)) fun x=>.ret (.val (C.ty o.type) x,S)
     | none=>.fail
    else .fail
   | _=>.fail
  | _=>.fail
 | _=>.fail
end ops
def AV.aR(lo hi:Nat):AV->Bool
 | .b5 _ p s=>!(Nat.ble lo s&&Nat.blt s hi)&&jl lo hi p
 | .view _ p s _ _=>!(Nat.ble lo s&&Nat.blt s hi)&&jl lo hi p
 | .addr _ p=>jl lo hi p
 | .pair a b=>a.aR lo hi&&b.aR lo hi
 | .jn a=>a.aR lo hi
 | .gz _ c=>c.aR lo hi
 | _=>true
def HD(s:Nat):List AV->Bool
 | []=>true
 | v::l=>v.aR s (s+1)&&HD s l
def kV(sl:List AV)(d:Option Nat)(s:Nat):bV where
 w_:=match d with | some d=>r9 d 0 sl | none=>true
 pl:=match d with | some d=>DZ d 0 sl | none=>true
 fr:=Nat.blt s 1048576&&HD s sl
 sh:=false
end
end Go.V
namespace Go.V
noncomputable section
open Go
inductive Ex where
 | normal | exit (id:Nat) | ret
section
variable (C:Ctx) (D:Den C) {R:Type}
def uA(S:St)(o:Oper)(v:AV):St:=
 match o.dst with
 | some d=>S.set d v
 | none=>S
def kI(ops:Array Oper)(j:Nat):Nat:=((ops[j]?).bind (·.dst)).getD 0
def CO:Path->List Nat
 | []=>[]
 | .idx _ s::p=>s::CO p
 | _::p=>CO p
def AV.stamps:AV->List Nat
 | .b5 _ p s=>s::CO p
 | .view _ p s _ _=>s::CO p
 | .addr _ p=>CO p
 | .pair a b=>a.stamps++b.stamps
 | .jn a=>a.stamps
 | .gz _ c=>c.stamps
 | _=>[]
structure jo where
 i:Nat
 rd:List Nat
 st:List Nat
 site:Nat
 wr:Option (List Nat)
 io:Option (aO×aO)
 dst:Option Nat
 ld:Option ((aO->Option AV)×AV)
 bl:Bool
 lc:Bool
abbrev Log:=List jo
def Mf(ops:Array Oper)(c:Nat):Nat->Oper->Bool
 | 0,_=>false
 | n+1,o=>
  match o.guard with
  | none=>false
  | some (j,_)=>Nat.beq (kI ops j) c||(match ops[j]? with | some oj=>Mf ops c n oj | none=>false)
def sr(ops:Array Oper)(i:Nat)(o:Oper):List Nat:=
 match o.op with
 | .pick (.tmp c) _ _=>(ops.toList.take i).filterMap fun o'=>if Mf ops c 8 o' then o'.dst else none
 | _=>[]
def St.forget(S:St):List Nat->St
 | []=>S
 | t::ts=>(S.set t .undef).forget ts
def fin(ops:Array Oper)(S:St)(i:Nat)(o:Oper)(v:AV):St:=uA (S.forget (sr ops i o)) o v
def qk:List AV->List Nat
 | []=>[]
 | v::l=>v.roots++qk l
def uy(S:St)(o:Oper):List AV:=o.op.operands.toList.map (ev S)
def lO:List PK->List AV->List Nat
 | k::ks,a::aF=>if k.plain then lO ks aF else a.roots++lO ks aF
 | _,_=>[]
def FY(s:rI):Bool:=s.params.all PK.plain&&s.res.all (fun k=>!k.kj&&k.ms.still)
def Ty.flat:Ty->Bool
 | .sl _=>false
 | .pair a b=>a.flat&&b.flat
 | _=>true
def AV.isVal:AV->Bool
 | .val _ _=>true
 | .cF _=>true
 | _=>false
def Sa(ρ:Operand->AV)(l:List (Nat×Operand)):Bool:=l.all fun p=>(ρ p.2).isVal
def dM(ρ:Operand->AV)(o:Oper):Option (List Nat):=
 let all:=some (o.dst.toList++qk (o.op.operands.toList.map ρ))
 match o.op with
 | .move _ | .pick _ _ _ | .load _ _ | .nilCheck _ | .binOp _ _ _ _ _ | .unOp _ _ _ | .convert _ _ _ | .makeFunc _ _ _ | .fieldAddr _ _ _ | .field _ _ _ | .indexAddr _ _ _ | .index _ _ _ | .extract _ _=>none
 | .assign x=>match ρ x with | .b5 _ _ _=>all | .pair _ _=>all | _=>none
 | .build t parts=>if (C.ty t).flat&&Sa ρ parts.toList then none else all
 | .call c=>
  match c.callee with
  | .builtin .len | .builtin .min | .builtin .max=>none
  | .builtin _=>all
  | .value f=>
   match ρ f with
   | .gz g caps=>if FG (C.sig g) (c.args.toList.map ρ++mG caps) then all else if FY (C.sig g) then none else some (o.dst.toList++lO (C.sig g).params (c.args.toList.map ρ++mG caps))
   | .dZ _=>none
   | _=>all
  | _=>all
 | _=>all
def PK.loc:PK->Bool
 | .own _ _ | .cN _ _ _=>false
 | _=>true
def u7(ρ:Operand->AV)(o:Oper):Bool:=
 match o.op with
 | .alloc _ | .box _ _ | .build _ _ | .buildSlice _ _ _ | .makeSlice _ _ _ | .slice _ _ _ _ none=>true
 | .call c=>
  match c.callee with
  | .builtin .append=>
   match c.args.toList.map ρ with
   | .b5 _ p _::_=>!qx p
   | _=>true
  | .value f=>
   match ρ f with
   | .gz g _=>(C.sig g).params.all PK.loc
   | _=>false
  | _=>false
 | _=>false
def dS(S:St):List Nat->List Nat
 | []=>[]
 | t::ts=>(S.get t).roots++dS S ts
def cS(S:St):List Nat->List Nat
 | []=>[]
 | t::ts=>(S.get t).stamps++cS S ts
def jk(ops:Array Oper)(i:Nat)(o:Oper):List Nat:=o.dst.toList++sr ops i o
def rq(o:Oper):Bool:=
 match o.op with
 | .move _ | .pick _ _ _ | .unOp _ _ _ | .makeFunc _ _ _ | .field _ _ _ | .extract _ _=>true
 | _=>false
def uj(ρ:Operand->AV)(o:Oper)(v:AV):Option ((aO->Option AV)×AV):=
 match o.op with
 | .load t a=>some (fun S=>if (C.ty t).nz then uY S (C.ty t) (ρ a) else none,v)
 | .fieldAddr s x f=>some (fun S=>Bz S (C.ty s) (ρ x) f,v)
 | _=>none
def jm(ops:Array Oper)(S:St)(site i:Nat)(o:Oper)(v:AV)(rt':aO):jo:=
 ⟨i,v.roots++((if rq o then [] else qk (uy S o))++dS S (jk ops i o)),v.stamps++cS S (jk ops i o),site,dM C (ev S) o,(match dM C (ev S) o,u7 C (ev S) o with | some _,false=>some (S.rt,rt') | _,_=>none),o.dst,uj C (ev S) o v,rq o,u7 C (ev S) o⟩
def oz(ops:Array Oper)(S:St)(site i:Nat)(o:Oper):jo:=⟨i,dS S (jk ops i o),cS S (jk ops i o),site,none,none,none,none,true,false⟩
def uO(M:Array Nat)(i j:Nat):Bool:=(M.getD j 0).testBit i||(M.getD i 0).testBit j
def iO:List Nat->List Nat->Bool
 | [],_=>true
 | a::l,l'=>!(l'.contains a)&&iO l l'
def A9(w:List Nat)(e f:jo):Bool:=iO w f.rd&&!f.st.contains e.site
def CV:Path->Path->Bool
 | [],[]=>true
 | .fst::p,.fst::q=>CV p q
 | .snd::p,.snd::q=>CV p q
 | _,_=>false
def AU(S:aO)(l:(aO->Option AV)×AV):Bool:=
 match l.1 S,l.2 with
 | some (.b5 r p s),.b5 r' p' s'=>Nat.beq r r'&&CV p p'&&Nat.beq s s'
 | some (.addr r p),.addr r' p'=>Nat.beq r r'&&CV p p'
 | _,_=>false
def Br(e f:jo):Bool:=
 (f.bl||(match f.ld,e.io with
  | some l,some io=>AU io.1 l&&AU io.2 l
  | _,_=>false))&&iO e.dst.toList f.rd&&!f.st.contains e.site
def jo.free(e f:jo):Bool:=
 match e.wr,f.wr with
 | none,none=>true
 | some w,none=>A9 w e f||Br e f
 | none,some w=>A9 w f e||Br f e
 | some w,some w'=>(e.lc&&f.lc)&&((iO w f.rd&&iO w w')&&(iO w' e.rd&&iO w' w))&&(!e.st.contains f.site&&!f.st.contains e.site)
def AQ(M:Array Nat)(e:jo):Log->Bool
 | []=>true
 | f::l=>(Nat.beq e.i f.i||uO M e.i f.i||e.free f)&&AQ M e l
def CX(M:Array Nat)(all:Log):Log->Bool
 | []=>true
 | e::l=>(match e.wr with | none=>true | some _=>AQ M e all)&&CX M all l
def zo(ops:Array Oper)(o:Oper):List Nat:=
 (match o.guard with | some (j,_)=>[kI ops j] | none=>[])++o.op.operands.toList.filterMap fun x=>match x with | .tmp t=>some t | _=>none
def Hu(ops:Array Oper)(i j:Nat)(x y:Oper):Bool:=
 iO (jk ops i x) (zo ops y)&&iO (jk ops i x) (jk ops j y)&&iO (jk ops j y) (zo ops x)
def Av(M:Array Nat)(ops:Array Oper)(i:Nat)(x:Oper):List (Nat×Oper)->Bool
 | []=>true
 | (j,y)::l=>(uO M i j||Hu ops i j x y)&&Av M ops i x l
def HE(M:Array Nat)(ops:Array Oper):List (Nat×Oper)->Bool
 | []=>true
 | (i,x)::l=>Av M ops i x l&&HE M ops l
def o9(o:Oper):Bool:=
 match o.op with
 | .move _ | .pick _ _ _ | .unOp _ _ _ | .fieldAddr _ _ _ | .field _ _ _ | .load _ _ | .extract _ _=>true
 | .binOp op _ _ _ _=>match op with | .eql | .neq | .lss | .leq | .gtr | .geq | .sub | .mul=>true | _=>false
 | .call c=>match c.callee with | .builtin .len=>true | _=>false
 | _=>false
def G8(t:Nat)(o:Oper):Bool:=
 match o.op with
 | .pick (.tmp c) _ _=>Nat.beq c t
 | _=>false
def Kw(t:Nat):List (Nat×Oper)->Option (List (Nat×Oper)×(Nat×Oper)×List (Nat×Oper))
 | []=>none
 | x::l=>if G8 t x.2 then some ([],x,l) else match Kw t l with
  | some y=>some (x::y.1,y.2)
  | none=>none
def Ml(ops:Array Oper)(S:St)(D:List Nat)(o:Oper):Bool:=
 match o.guard with
 | none=>true
 | some (j,b)=>!D.contains (kI ops j)&&(match S.get (kI ops j) with | .cF c=>c == b | _=>false)
def iB(S:St)(site:Nat)(hint:Bool)(o:Oper):Tr (AV×aO):=aY C D (kV S.sl o.dst site) (ev S) S.rt site hint o
def Ba(ops:Array Oper)(id:Nat)(qH:List (Nat×Oper)->St->Log->Option (St×Log))(t:Nat)(c:Bool)(l:List (Nat×Oper))(S:St)(lg:Log) :
  Option (St×Log×List (Nat×Oper)):=
 match Kw t l with
 | some (seg,(i,o),rest)=>
  let D:=sr ops i o
  if seg.all (fun x=>o9 x.2&&(jk ops x.1 x.2).all D.contains)&&Ml ops S D o&&!D.contains t then
   match o.op,qH seg (S.set t (.cF true)) [],qH seg (S.set t (.cF false)) [] with
   | .pick _ a b,some (S1,l1),some (S2,l2)=>
    match asBool (ev S1 a),asBool (ev S2 b) with
    | some x,some y=>some (fin ops S i o (.val .bool (cond c x y)),
      jm C ops S1 (id * 256+i+1) i o (.val .bool x) S1.rt::jm C ops S2 (id * 256+i+1) i o (.val .bool y) S2.rt::(l1++(l2++lg)),rest)
    | _,_=>none
   | _,_,_=>none
  else none
 | _=>none
noncomputable def mg(id:Nat)(ops:Array Oper):Nat->List (Nat×Oper)->St->Log->Option (St×Log)
 | 0,_,_,_=>none
 | _+1,[],S,lg=>some (S,lg)
 | n+1,(i,o)::rest,S,lg=>
  let site:=id * 256+i+1
  let go:=match iB C D S site false o with
   | .ret (v,rt')=>mg id ops n rest (fin ops ⟨S.sl,rt'⟩ i o v) (jm C ops S site i o v rt'::lg)
   | _=>none
  match o.guard with
  | none=>go
  | some (j,b)=>
   match S.get (kI ops j) with
   | .skip=>mg id ops n rest (fin ops S i o .skip) (oz ops S site i o::lg)
   | .cF c=>if c=b then go else mg id ops n rest (fin ops S i o .skip) (oz ops S site i o::lg)
   | .val .bool c=>
    match Ba C ops id (mg id ops n) (kI ops j) c ((i,o)::rest) S lg with
    | some (S',lg,rest)=>mg id ops n rest S' lg
    | none=>none
   | _=>none
noncomputable def yu(H:Hints)(id:Nat)(ops:Array Oper):Nat->List (Nat×Oper)->St->Log->(Log->St->Option R)->Option R
 | 0,_,_,_,_=>none
 | _+1,[],S,lg,k=>k lg S
 | n+1,(i,o)::rest,S,lg,k=>
  let site:=id * 256+i+1
  let go:=fun(S:St)=>(iB C D S site (H.share.contains (id,i)) o).run fun x=>yu H id ops n rest (fin ops ⟨S.sl,x.2⟩ i o x.1) (jm C ops S site i o x.1 x.2::lg) k
  let skip:=fun(S:St)=>yu H id ops n rest (fin ops S i o .skip) (oz ops S site i o::lg) k
  match o.guard with
  | none=>go S
  | some (j,b)=>
   match S.get (kI ops j) with
   | .skip=>skip S
   | .cF c=>if c=b then go S else skip S
   | .val .bool c=>
    match Ba C ops id (mg C D id ops n) (kI ops j) c ((i,o)::rest) S lg with
    | some (S',lg,rest)=>yu H id ops n rest S' lg k
    | none=>
     br c
      (if b=true then go (S.set (kI ops j) (.cF true)) else skip (S.set (kI ops j) (.cF true)))
      (if b=false then go (S.set (kI ops j) (.cF false)) else skip (S.set (kI ops j) (.cF false)))
   | _=>none
def r8(body:St->(Ex->St->Option R)->Option R)(canon fG:St->St):Nat->St->(Ex->St->Option R)->Option R
 | 0,_,_=>none
 | n+1,S,k=>body (canon S) fun e S=>match e with
  | .normal=>r8 body canon fG n S k
  | e=>k e (fG S)
def Mk.Ic:Mk->Mk->Mk
 | .no,.no=>.no
 | a,b=>.pr a b
def Mk.bh:Mk->Mk
 | .no=>.no
 | .gone=>.gone
 | .own s m=>.own (if s<1048576 then 0 else s) m.bh
 | .pr a b=>Mk.Ic a.bh b.bh
def n9.zero:n9->n9
 | .idx i s=>.idx i (if s<1048576 then 0 else s)
 | p=>p
def AV.canon(S:St):AV->AV
 | .b5 r p s=>
  match S.focus r p with
  | some ⟨.sl _,.own s' _,_⟩=>if s=s' then .b5 r (p.map n9.zero) (if s<1048576 then 0 else s) else .undef
  | _=>.undef
 | .addr r p=>
  match S.focus r p with
  | some _=>.addr r (p.map n9.zero)
  | _=>.undef
 | .pair a b=>.pair (a.canon S) (b.canon S)
 | .gz f c=>.gz f (c.canon S)
 | .jn a=>.undef
 | .view _ _ _ _ _=>.undef
 | v=>v
def Kt(x:Option aB):Option aB:=x.bind fun R=>match R.ms with | .gone=>none | _=>some { R with ms:=R.ms.bh }
def DS(oN:List Nat):Nat->List (Option aB)->List (Option aB)
 | _,[]=>[]
 | i,x::l=>
  (if oN.contains i then Kt x else none)
   :: DS oN (i+1) l
def DT(S:St)(keep:List Nat):Nat->List AV->List AV
 | _,[]=>[]
 | i,x::l=>(if keep.contains i then x.canon S else .undef)::DT S keep (i+1) l
def St.canon(keep extra:List Nat)(S:St):St:=
 let sl:=DT S keep 0 S.sl
 ⟨sl,DS (extra++sl.flatMap AV.roots) 0 S.rt⟩
def BI:Code->Nat
 | .region id _ _=>id
 | .seq a _=>BI a
 | .block _ b=>BI b
 | .loop b=>BI b
 | _=>0
def m9(ops:Array Oper):List (Nat×Oper):=ops.toList.zipIdx.map fun x=>(x.2,x.1)
def KC(ops:Array Oper):Bool:=ops.toList.all fun o=>match o.guard with | none=>true | some (j,_)=>((ops[j]?).bind (·.dst)).isSome
def DU(ops:Array Oper):Bool:=(m9 ops).all fun x=>x.2.after.all fun e=>!Region.binds .any e||Nat.blt e.on x.1
def rL(H:Hints)(b:Code)(S:St):St:=
 match H.keep.lookup (100000+BI b) with
 | some kp=>St.canon kp.1 kp.2.2 S
 | none=>S
noncomputable def exec(H:Hints)(n:Nat):Code->St->(Ex->St->Option R)->Option R
 | .skip,S,k=>k .normal S
 | .region id ops dr,S,k=>
  if KC ops then
   yu C D H id ops (ops.size+1) (m9 ops) S [] fun lg S=>
    if dr then (if DU ops&&CX (Region.before ops) lg lg&&HE (Region.before ops) ops (m9 ops) then k .normal S else none) else k .normal S
  else none
 | .seq a b,S,k=>exec H n a S fun e S=>match e with
  | .normal=>exec H n b (rL H b S) k
  | e=>k e S
 | .cond c a b,S,k=>
  match asBool (ev S c) with
  | some t=>br t (exec H n a S k) (exec H n b S k)
  | none=>none
 | .block id b,S,k=>exec H n b S fun e S=>match e with
  | .exit j=>if j=id then k .normal S else k (.exit j) S
  | e=>k e S
 | .loop b,S,k=>
  match H.keep.lookup (BI b) with
  | some kp=>r8 (exec H n b) (St.canon kp.1 kp.2.2) (St.canon kp.2.1 kp.2.2) n S k
  | none=>none
 | .exit id,S,k=>k (.exit id) S
 | .ret,S,k=>k .ret S
 | _,_,_=>none
def Mk.tag:Mk->Nat->Mk×Nat
 | .no,n=>(.no,n)
 | .gone,n=>(.gone,n)
 | .own _ m,n=>(.own n m,n+1)
 | .pr a b,n=>let x:=a.tag n;let y:=b.tag x.2;(.pr x.1 y.1,y.2)
def Bk(i:Nat)(m:Mk):Mk:=(m.tag (1048576+64 * i)).1
def enter(S:St):Nat->(ks:List PK)->eV ks->St
 | _,[],_=>S
 | i,.val t::ks,a=>enter (S.set i (.val t a.1)) (i+1) ks a.2
 | i,.bZ t::ks,a=>enter (S.set i (.b_ t a.1)) (i+1) ks a.2
 | i,.own t m::ks,a=>enter ((S.aD i (some ⟨t,m,a.1,false⟩)).set i (cW i t m a.1 [])) (i+1) ks a.2
 | i,.cA t m _::ks,a=>enter ((S.aD i (some ⟨t,m,a.1,true⟩)).set i (.addr i [])) (i+1) ks a.2
 | i,.cN t m _::ks,a=>enter ((S.aD i (some ⟨t,Bk i m,a.1,false⟩)).set i (cW i t (Bk i m) a.1 [])) (i+1) ks a.2
 | i,.fn::ks,a=>enter (S.set i (.dZ a.1)) (i+1) ks a.2
def xU(C:Ctx)(S:St):ResultVar->Option AV
 | .tmp t=>some (S.get t)
 | .cell a t=>if (C.ty t).nz then uY S.rt (C.ty t) (S.get a) else none
def vR(C:Ctx):(ks:List RK)->List ResultVar->St->Option (fc ks×St)
 | [],[],S=>some ((),S)
 | .val t m::ks,v::vs,S=>
  (xU C S v).bind fun a=>
  (tk S.rt t a).bind fun x=>if m.aQ x.1 then (vR C ks vs ⟨S.sl,x.2.2⟩).bind fun r=>some ((x.2.1,r.1),r.2) else none
 | .ptr t m::ks,v::vs,S=>
  match xU C S v with
  | some (.addr q [])=>
   match S.root q with
   | some R=>if R.mem/\m.aQ R.ms then (qbv R.ty t R.x).bind fun x=>(vR C ks vs (S.aD q none)).bind fun r=>some ((x,r.1),r.2) else none
   | none=>none
  | _=>none
 | _,_,_=>none
def Mk.same:(was now:Mk)->Bool
 | .no,h=>h.still
 | .own s _,h=>
  match h with
  | .own s' _=>s=s'
  | _=>false
 | .pr a b,h=>
  match h with
  | .pr c d=>a.same c&&b.same d
  | .no=>a.same .no&&b.same .no
  | _=>false
 | .gone,_=>false
def outs(H:Hints):Nat->(ks:List PK)->St->Option (cR ks)
 | _,[],_=>some ()
 | i,.cA t _ m'::ks,S=>
  match S.get i with
  | .addr q []=>
   match S.root q with
   | some R=>if R.mem/\m'.aQ R.ms then (qbv R.ty t R.x).bind fun x=>(outs H (i+1) ks (S.aD q none)).bind fun r=>some (x,r) else none
   | none=>none
  | _=>none
 | i,.cN t m m'::ks,S=>
  let q:=(H.outs.lookup i).getD i
  match S.root q with
  | some R=>if m'.aQ R.ms/\(Bk i m).same R.ms then (qbv R.ty t R.x).bind fun x=>(outs H (i+1) ks (S.aD q none)).bind fun r=>some (x,r) else none
  | none=>none
 | i,.val _::ks,S=>outs H (i+1) ks S
 | i,.own _ _::ks,S=>outs H (i+1) ks S
 | i,.bZ _::ks,S=>outs H (i+1) ks S
 | i,.fn::ks,S=>outs H (i+1) ks S
def Iq(np:List Nat)(ops:Array Oper):Bool:=ops.toList.all fun o=>match o.dst with | some d=>!np.contains d | none=>true
def vF:Nat->List PK->List Nat
 | _,[]=>[]
 | i,.cA _ _ _::ks=>i::vF (i+1) ks
 | i,_::ks=>vF (i+1) ks
def sq(np:List Nat):Code->Bool
 | .region _ ops _=>Iq np ops
 | .seq a b=>sq np a&&sq np b
 | .cond _ a b=>sq np a&&sq np b
 | .block _ b=>sq np b
 | .loop b=>sq np b
 | _=>true
def e9:Ty->Mk->Bool
 | .sl _,.own _ _=>true
 | .pair a b,.pr x y=>e9 a x&&e9 b y
 | .unit,.no=>true
 | _,_=>false
def PK.fW:PK->Bool
 | .own t m=>t.nz&&m.ak
 | .cA _ m _=>m.ak
 | .cN t m _=>t.nz&&(m.ak&&(e9 t m&&Nat.ble t.width 64))
 | _=>true
noncomputable def u9(n:Nat)(fn:Func)(H:Hints)(ks:List PK)(rs:List RK)(a:eV ks):Option (fc rs×cR ks):=
 match fn.body with
 | none=>none
 | some c=>
  if ks.all PK.fW&&(Nat.ble ks.length fn.ntmps&&sq (vF 0 ks) c) then
  exec C D H n c (enter ⟨List.replicate fn.ntmps .undef,List.replicate fn.ntmps none⟩ 0 ks a) fun e S=>
   match e with
   | .exit _=>none
   | _=>(vR C rs fn.results.toList S).bind fun r=>(outs H 0 ks r.2).bind fun o=>some (r.1,o)
  else none
end
structure akl where
 func:FuncId->Option Func
noncomputable def Dn(C:Ctx)(E:Den C)(lM:FuncId->Bool)(func:FuncId->Option Func):Nat->Den C
 | 0,_=>fun _=>none
 | n+1,g=>fun a=>
  if lM g then E g a else
  match func g with
  | none=>none
  | some fn=>u9 C (Dn C E lM func n) n fn (C.hints g) (C.sig g).params (C.sig g).res a
end
end Go.V
namespace Go.V
noncomputable section
open Go
abbrev BS:=Nat->Prop
def Sub(F G:BS):Prop:=∀b,F b->G b
def cq(F G:BS):Prop:=∀b,F b->G b->False
def Nil:BS:=fun _=>False
theorem Sub.refl(F:BS):Sub F F:=fun _ h=>h
theorem Sub.trans{F G H:BS}(h:Sub F G)(h':Sub G H):Sub F H:=fun b x=>h' b (h b x)
theorem Sub.nil(F:BS):Sub Nil F:=fun _ h=>h.elim
theorem cq.symm{F G:BS}(h:cq F G):cq G F:=fun b x y=>h b y x
theorem cq.mono{F G F' G':BS}(h:cq F G)(hf:Sub F' F)(hg:Sub G' G):cq F' G':=fun b x y=>h b (hf b x) (hg b y)
theorem cq.nil(F:BS):cq Nil F:=fun _ h _=>h.elim
def iS(h:Array Obj)(b:Nat)(cs:Array Value):Prop:=
 ∃e lo hi,h[b]? = some (.cells cs e (lo,hi))/\∀i,i<=cs.size->¬ (lo<=i/\i<hi)
def sJ(h:Array Obj)(b:Nat)(cs:Array Value):Prop:=∃e fr,h[b]? = some (.cells cs e fr)
theorem iS.zA{h:Array Obj}{b:Nat}{cs:Array Value}(x:iS h b cs):sJ h b cs:=let ⟨e,lo,hi,he,_⟩:=x;⟨e,(lo,hi),he⟩
theorem iS.congr{h h':Array Obj}{b:Nat}{cs:Array Value}(x:iS h b cs)(e:h'[b]? = h[b]?):iS h' b cs:=
 let ⟨t,lo,hi,he,hf⟩:=x;⟨t,lo,hi,e.trans he,hf⟩
theorem sJ.congr{h h':Array Obj}{b:Nat}{cs:Array Value}(x:sJ h b cs)(e:h'[b]? = h[b]?):sJ h' b cs:=
 let ⟨t,fr,he⟩:=x;⟨t,fr,e.trans he⟩
def sub(cs:Array Value)(off n:Nat):List Value:=(cs.toList.drop off).take n
def aq(h:Array Obj)(Pr:BS):(t:Ty)->Mk->t.den->List Value->BS->Prop
 | .unit,_,_,c,_=>c=[]
 | .int k,_,x,c,_=>c=[.int k x]
 | .bool,_,x,c,_=>c=[.bool x]
 | .str,_,x,c,_=>c=[.string x]
 | .pair a b,m,x,c,F=>∃ca cb Fa Fb,c=ca++cb/\aq h Pr a m.fst x.1 ca Fa/\aq h Pr b m.snd x.2 cb Fb/\
   Sub Fa F/\Sub Fb F/\cq Fa Fb
 | .sl t,.gone,xs,c,F=>∃a n k,c=[.slice a n k]
 | .sl t,.own _ mi,xs,c,F=>∃a cap,c=[.slice a xs.length cap]/\xs.length<=cap/\
   (cap=0\/∃b cs,a=some ⟨b,0,none⟩/\F b/\iS h b cs/\cap * t.width<=cs.size/\
    ∃Fs:Nat->BS,(∀i,Sub (Fs i) F/\¬ Fs i b)/\(∀i j,i≠j->cq (Fs i) (Fs j))/\
     ∀i,i<xs.length->aq h Pr t mi (xs.getD i t.zero) (sub cs (i * t.width) t.width) (Fs i))
 | .sl t,_,xs,c,F=>∃a cap,c=[.slice a xs.length cap]/\xs.length<=cap/\
   (xs≠[]->∃b o cs,a=some ⟨b,o,none⟩/\Pr b/\sJ h b cs/\o+xs.length * t.width<=cs.size/\
    ∀i,i<xs.length->aq h Pr t .no (xs.getD i t.zero) (sub cs (o+i * t.width) t.width) Nil)
theorem aq.width{h:Array Obj}{Pr:BS}:∀(t:Ty){m:Mk}{x:t.den}{c:List Value}{F:BS},aq h Pr t m x c F->c.length=t.width
 | .unit,_,_,_,_,r=>by simp only[aq]at r;subst r;rfl
 | .int k,_,_,_,_,r=>by simp only[aq]at r;subst r;rfl
 | .bool,_,_,_,_,r=>by simp only[aq]at r;subst r;rfl
 | .str,_,_,_,_,r=>by simp only[aq]at r;subst r;rfl
 | .pair a b,_,_,_,_,r=>by
  simp only[aq]at r;obtain⟨ca,cb,Fa,Fb,rfl,ra,rb,_⟩:=r;simp[Ty.width,aq.width a ra,aq.width b rb]
 | .sl t,m,_,_,_,r=>by
  cases m<;>simp only[aq]at r
  .obtain⟨_,_,rfl,_⟩:=r;rfl
  .obtain⟨_,_,_,rfl⟩:=r;rfl
  .obtain⟨_,_,rfl,_⟩:=r;rfl
  .obtain⟨_,_,rfl,_⟩:=r;rfl
theorem aq.mono{h h':Array Obj}{Pr fD:BS}(hp:Sub Pr fD)(gN:∀b,Pr b->h'[b]? = h[b]?) :
  ∀(t:Ty){m:Mk}{x:t.den}{c:List Value}{F F':BS},aq h Pr t m x c F->Sub F F'->(∀b,F b->h'[b]? = h[b]?)->aq h' fD t m x c F'
 | .unit,_,_,_,_,_,r,_,_=>by simpa only [aq] using r
 | .int k,_,_,_,_,_,r,_,_=>by simpa only [aq] using r
 | .bool,_,_,_,_,_,r,_,_=>by simpa only [aq] using r
 | .str,_,_,_,_,_,r,_,_=>by simpa only [aq] using r
 | .pair a b,_,_,_,_,_,r,hf,hk=>by
  simp only[aq]at r⊢;obtain⟨ca,cb,Fa,Fb,rfl,ra,rb,sa,sb,d⟩:=r;exact⟨ca,cb,Fa,Fb,rfl,aq.mono hp gN a ra (Sub.refl _) (fun b hb=>hk b (sa b hb)),aq.mono hp gN b rb (Sub.refl _) (fun b hb=>hk b (sb b hb)),
   sa.trans hf,sb.trans hf,d⟩
 | .sl t,m,_,_,_,_,r,hf,hk=>by
  cases m<;>simp only[aq]at r⊢
  .obtain⟨a,cap,rfl,hl,r⟩:=r;refine⟨a,cap,rfl,hl,fun hne=>?_⟩;obtain⟨b,o,cs,rfl,pb,hb,hs,re⟩:=r hne;exact⟨b,o,cs,rfl,hp b pb,hb.congr (gN b pb),hs,fun i hi=>aq.mono hp gN t (re i hi) (Sub.refl _) (fun _ h=>h.elim)⟩
  .exact r
  .obtain⟨a,cap,rfl,hl,r⟩:=r;refine⟨a,cap,rfl,hl,?_⟩;rcases r with r | ⟨b,cs,rfl,fb,hb,hs,Fs,hF,hd,re⟩
   .exact .inl r
   .exact .inr ⟨b,cs,rfl,hf b fb,hb.congr (hk b fb),hs,Fs,fun i=>⟨(hF i).1.trans hf,(hF i).2⟩,hd,
     fun i hi=>aq.mono hp gN t (re i hi) (Sub.refl _) (fun b' h'=>hk b' ((hF i).1 b' h'))⟩
  .obtain⟨a,cap,rfl,hl,r⟩:=r;refine⟨a,cap,rfl,hl,fun hne=>?_⟩;obtain⟨b,o,cs,rfl,pb,hb,hs,re⟩:=r hne;exact⟨b,o,cs,rfl,hp b pb,hb.congr (gN b pb),hs,fun i hi=>aq.mono hp gN t (re i hi) (Sub.refl _) (fun _ h=>h.elim)⟩
theorem aq.room{h:Array Obj}{Pr:BS}(t:Ty){m:Mk}{x:t.den}{c:List Value}{F F':BS}(r:aq h Pr t m x c F)(hf:Sub F F'):aq h Pr t m x c F':=
 aq.mono (Sub.refl _) (fun _ _=>rfl) t r hf (fun _ _=>rfl)
theorem aq.eH{h:Array Obj}{Pr:BS}:∀(t:Ty){m:Mk}{x:t.den}{c:List Value}{F F':BS},m.still=true->aq h Pr t m x c F->aq h Pr t .no x c F'
 | .unit,_,_,_,_,_,_,r=>by simpa only [aq] using r
 | .int k,_,_,_,_,_,_,r=>by simpa only [aq] using r
 | .bool,_,_,_,_,_,_,r=>by simpa only [aq] using r
 | .str,_,_,_,_,_,_,r=>by simpa only [aq] using r
 | .pair a b,m,_,_,_,_,hm,r=>by
  simp only[aq]at r⊢;obtain⟨ca,cb,Fa,Fb,rfl,ra,rb,sa,sb,d⟩:=r;have h1:m.fst.still=true:=by cases m<;>simp_all [Mk.still,Mk.fst]
  have h2:m.snd.still=true:=by cases m<;>simp_all [Mk.still,Mk.snd]
  exact⟨ca,cb,Nil,Nil,rfl,aq.eH a h1 ra,aq.eH b h2 rb,Sub.nil _,Sub.nil _,cq.nil _⟩
 | .sl t,m,_,_,_,_,hm,r=>by
  cases m<;>simp only[aq]at r⊢
  .exact r
  .simp[Mk.still]at hm
  .simp[Mk.still]at hm
  .exact r
theorem aq.stamp{h:Array Obj}{Pr:BS}(s:Nat):∀(t:Ty){m:Mk}{x:t.den}{c:List Value}{F:BS},aq h Pr t m x c F↔aq h Pr t (m.stamp s) x c F
 | .unit,_,_,_,_=>by simp only[aq]
 | .int k,_,_,_,_=>by simp only[aq]
 | .bool,_,_,_,_=>by simp only[aq]
 | .str,_,_,_,_=>by simp only[aq]
 | .pair a b,m,x,_,_=>by
  simp only[aq];have h1:(m.stamp s).fst=m.fst.stamp s:=by cases m<;>rfl
  have h2:(m.stamp s).snd=m.snd.stamp s:=by cases m<;>rfl
  rw[h1,h2];constructor
  .rintro⟨ca,cb,Fa,Fb,rfl,ra,rb,r⟩;exact⟨ca,cb,Fa,Fb,rfl,(aq.stamp s a).1 ra,(aq.stamp s b).1 rb,r⟩
  .rintro⟨ca,cb,Fa,Fb,rfl,ra,rb,r⟩;exact⟨ca,cb,Fa,Fb,rfl,(aq.stamp s a).2 ra,(aq.stamp s b).2 rb,r⟩
 | .sl t,m,_,_,_=>by
  cases m<;>simp only[aq,Mk.stamp];constructor
  .rintro⟨a,cap,rfl,hl,r⟩;refine⟨a,cap,rfl,hl,r.imp id ?_⟩;rintro⟨b,cs,rfl,fb,hb,hs,Fs,hF,hd,re⟩;exact⟨b,cs,rfl,fb,hb,hs,Fs,hF,hd,fun i hi=>(aq.stamp s t).1 (re i hi)⟩
  .rintro⟨a,cap,rfl,hl,r⟩;refine⟨a,cap,rfl,hl,r.imp id ?_⟩;rintro⟨b,cs,rfl,fb,hb,hs,Fs,hF,hd,re⟩;exact⟨b,cs,rfl,fb,hb,hs,Fs,hF,hd,fun i hi=>(aq.stamp s t).2 (re i hi)⟩
theorem Mk.z7(a b:Mk):(Mk.Ic a b).fst=a:=by cases a<;>cases b<;>rfl
theorem Mk.z8(a b:Mk):(Mk.Ic a b).snd=b:=by cases a<;>cases b<;>rfl
theorem Mk.pV(a b:Mk):(Mk.Ic a b).ak=(a.ak&&b.ak):=by cases a<;>cases b<;>rfl
theorem Mk.ov(a b:Mk):Mk.Ic a b=.no\/Mk.Ic a b=.pr a b:=by cases a<;>cases b<;>first | exact .inl rfl | exact .inr rfl
theorem Mk.lR(m:Mk):m.bh.fst=m.fst.bh:=by cases m<;>first | rfl | exact Mk.z7 _ _
theorem Mk.lS(m:Mk):m.bh.snd=m.snd.bh:=by cases m<;>first | rfl | exact Mk.z8 _ _
theorem aq.bh{h:Array Obj}{Pr:BS}:∀(t:Ty){m:Mk}{x:t.den}{c:List Value}{F:BS},aq h Pr t m x c F↔aq h Pr t m.bh x c F
 | .unit,_,_,_,_=>by simp only[aq]
 | .int k,_,_,_,_=>by simp only[aq]
 | .bool,_,_,_,_=>by simp only[aq]
 | .str,_,_,_,_=>by simp only[aq]
 | .pair a b,m,x,_,_=>by
  simp only[aq];have h1:=Mk.lR m;have h2:=Mk.lS m;rw[h1,h2];constructor
  .rintro⟨ca,cb,Fa,Fb,rfl,ra,rb,r⟩;exact⟨ca,cb,Fa,Fb,rfl,(aq.bh a).1 ra,(aq.bh b).1 rb,r⟩
  .rintro⟨ca,cb,Fa,Fb,rfl,ra,rb,r⟩;exact⟨ca,cb,Fa,Fb,rfl,(aq.bh a).2 ra,(aq.bh b).2 rb,r⟩
 | .sl t,m,_,_,_=>by
  cases m<;>simp only[aq,Mk.bh];constructor
  .rintro⟨a,cap,rfl,hl,r⟩;refine⟨a,cap,rfl,hl,r.imp id ?_⟩;rintro⟨b,cs,rfl,fb,hb,hs,Fs,hF,hd,re⟩;exact⟨b,cs,rfl,fb,hb,hs,Fs,hF,hd,fun i hi=>(aq.bh t).1 (re i hi)⟩
  .rintro⟨a,cap,rfl,hl,r⟩;refine⟨a,cap,rfl,hl,r.imp id ?_⟩;rintro⟨b,cs,rfl,fb,hb,hs,Fs,hF,hd,re⟩;exact⟨b,cs,rfl,fb,hb,hs,Fs,hF,hd,fun i hi=>(aq.bh t).2 (re i hi)⟩
  rename_i a b;rcases Mk.ov a.bh b.bh with e | e<;>rw[e]<;>simp only[aq]
theorem aq.share{h:Array Obj}{Pr:BS}:∀(t:Ty){m:Mk}{x:t.den}{c:List Value}{F:BS},m.whole=true->aq h Pr t m x c F->
  aq h (fun b=>Pr b\/F b) t .no x c Nil
 | .unit,_,_,_,_,_,r=>by simpa only [aq] using r
 | .int k,_,_,_,_,_,r=>by simpa only [aq] using r
 | .bool,_,_,_,_,_,r=>by simpa only [aq] using r
 | .str,_,_,_,_,_,r=>by simpa only [aq] using r
 | .pair a b,m,_,_,F,hm,r=>by
  simp only[aq]at r⊢;obtain⟨ca,cb,Fa,Fb,rfl,ra,rb,sa,sb,d⟩:=r;have h1:m.fst.whole=true:=by cases m<;>simp_all [Mk.whole,Mk.fst]
  have h2:m.snd.whole=true:=by cases m<;>simp_all [Mk.whole,Mk.snd]
  have e1:=aq.share a h1 ra;have e2:=aq.share b h2 rb;exact⟨ca,cb,Nil,Nil,rfl,
   aq.mono (fun b hb=>hb.imp id (sa b)) (fun _ _=>rfl) a e1 (Sub.refl _) (fun _ _=>rfl),
   aq.mono (fun b hb=>hb.imp id (sb b)) (fun _ _=>rfl) b e2 (Sub.refl _) (fun _ _=>rfl),Sub.nil _,Sub.nil _,cq.nil _⟩
 | .sl t,m,xs,_,F,hm,r=>by
  cases m with
  | no=>simp only[aq]at r⊢;obtain⟨a,cap,rfl,hl,r⟩:=r;refine⟨a,cap,rfl,hl,fun hne=>?_⟩;obtain⟨b,o,cs,rfl,pb,hb,hs,re⟩:=r hne;exact⟨b,o,cs,rfl,.inl pb,hb,hs,fun i hi=>aq.mono (fun b hb=>.inl hb) (fun _ _=>rfl) t (re i hi) (Sub.refl _) (fun _ _=>rfl)⟩
  | gone=>simp[Mk.whole]at hm
  | pr _ _=>simp only[aq]at r⊢;obtain⟨a,cap,rfl,hl,r⟩:=r;refine⟨a,cap,rfl,hl,fun hne=>?_⟩;obtain⟨b,o,cs,rfl,pb,hb,hs,re⟩:=r hne;exact⟨b,o,cs,rfl,.inl pb,hb,hs,fun i hi=>aq.mono (fun b hb=>.inl hb) (fun _ _=>rfl) t (re i hi) (Sub.refl _) (fun _ _=>rfl)⟩
  | own s mi=>
   simp only[aq]at r⊢;obtain⟨a,cap,rfl,hl,r⟩:=r;refine⟨a,cap,rfl,hl,fun hne=>?_⟩;have hpos:0<xs.length:=qS.2 hne;rcases r with r | ⟨b,cs,rfl,fb,hb,hs,Fs,hF,hd,re⟩
   .omega
   .refine⟨b,0,cs,rfl,.inr fb,hb.zA,?_,fun i hi=>?_⟩
    .have:=dz t.width hl;omega
    .have e:=aq.share t (by simpa [Mk.whole] using hm) (re i hi);rw[jx];exact aq.mono (fun b hb=>hb.imp id ((hF i).1 b)) (fun _ _=>rfl) t e (Sub.refl _) (fun _ _=>rfl)
end
end Go.V
namespace Go.V
noncomputable section
open Go
theorem Mk.sB{w h:Mk}(x:w.aQ h=true):w.fst.aQ h.fst=true:=by cases w<;>cases h<;>simp_all [Mk.aQ,Mk.fst,Mk.whole]
theorem Mk.sC{w h:Mk}(x:w.aQ h=true):w.snd.aQ h.snd=true:=by cases w<;>cases h<;>simp_all [Mk.aQ,Mk.snd,Mk.whole]
theorem Mk.lp:∀b:Mk,b.fh.aQ .no=true
 | .no=>rfl
 | .gone=>rfl
 | .own _ m=>by unfold Mk.fh;split<;>rfl
 | .pr a b=>by simp[Mk.fh,Mk.aQ,Mk.lp a,Mk.lp b]
theorem Mk.i9:∀b:Mk,b.fh.aQ b=true
 | .no=>rfl
 | .gone=>rfl
 | .own _ m=>by unfold Mk.fh;split<;>simp_all [Mk.aQ,Mk.whole]
 | .pr a b=>by simp[Mk.fh,Mk.aQ,Mk.i9 a,Mk.i9 b]
theorem Mk.fm:∀a b:Mk,(a.meet b).aQ a=true/\(a.meet b).aQ b=true
 | .no,b=>⟨by simpa [Mk.meet] using Mk.lp b,by simpa [Mk.meet] using Mk.i9 b⟩
 | .gone,_=>⟨rfl,rfl⟩
 | .own _ a,b=>by
  cases b with
  | no=>simp only[Mk.meet];split<;>simp_all [Mk.aQ,Mk.whole]
  | gone=>exact⟨rfl,rfl⟩
  | own s b=>have:=Mk.fm a b;simpa [Mk.meet,Mk.aQ] using this
  | pr _ _=>exact⟨rfl,rfl⟩
 | .pr a b,c=>by
  cases c with
  | no=>have h1:=Mk.fm a .no;have h2:=Mk.fm b .no;simp[Mk.meet,Mk.aQ,h1,h2]
  | gone=>exact⟨rfl,rfl⟩
  | own _ _=>exact⟨rfl,rfl⟩
  | pr c d=>have h1:=Mk.fm a c;have h2:=Mk.fm b d;simp[Mk.meet,Mk.aQ,h1,h2]
theorem aq.aQ{h:Array Obj}{Pr:BS}:∀(t:Ty){w m:Mk}{x:t.den}{c:List Value}{F:BS},w.aQ m=true->aq h Pr t m x c F->
  ∃F1 F2:BS,Sub F1 F/\Sub F2 F/\cq F1 F2/\aq h (fun b=>Pr b\/F2 b) t w x c F1
 | .unit,_,_,_,_,_,_,r=>⟨Nil,Nil,Sub.nil _,Sub.nil _,cq.nil _,by simpa only [aq] using r⟩
 | .int k,_,_,_,_,_,_,r=>⟨Nil,Nil,Sub.nil _,Sub.nil _,cq.nil _,by simpa only [aq] using r⟩
 | .bool,_,_,_,_,_,_,r=>⟨Nil,Nil,Sub.nil _,Sub.nil _,cq.nil _,by simpa only [aq] using r⟩
 | .str,_,_,_,_,_,_,r=>⟨Nil,Nil,Sub.nil _,Sub.nil _,cq.nil _,by simpa only [aq] using r⟩
 | .pair a b,w,m,x,c,F,hw,r=>by
  simp only[aq]at r;obtain⟨ca,cb,Fa,Fb,rfl,ra,rb,sa,sb,d⟩:=r;obtain⟨A1,A2,s1,s2,dA,rA⟩:=aq.aQ a (Mk.sB hw) ra;obtain⟨B1,B2,s3,s4,dB,rB⟩:=aq.aQ b (Mk.sC hw) rb;refine⟨fun b=>A1 b\/B1 b,fun b=>A2 b\/B2 b,?_,?_,?_,?_⟩
  .rintro z (hz | hz)
   .exact sa z (s1 z hz)
   .exact sb z (s3 z hz)
  .rintro z (hz | hz)
   .exact sa z (s2 z hz)
   .exact sb z (s4 z hz)
  .rintro z (hz | hz) (hy | hy)
   .exact dA z hz hy
   .exact d z (s1 z hz) (s4 z hy)
   .exact d z (s2 z hy) (s3 z hz)
   .exact dB z hz hy
  .simp only[aq];exact⟨ca,cb,A1,B1,rfl,aq.mono (fun z hz=>hz.imp id .inl) (fun _ _=>rfl) a rA (Sub.refl _) (fun _ _=>rfl),
    aq.mono (fun z hz=>hz.imp id .inr) (fun _ _=>rfl) b rB (Sub.refl _) (fun _ _=>rfl),fun z hz=>.inl hz,fun z hz=>.inr hz,d.mono s1 s3⟩
 | .sl t,w,m,xs,c,F,hw,r=>by
  cases w with
  | gone=>
   refine⟨Nil,Nil,Sub.nil _,Sub.nil _,cq.nil _,?_⟩;simp only[aq];cases m<;>simp only[aq]at r
   .obtain⟨a,k,e,_⟩:=r;exact⟨a,_,k,e⟩
   .exact r
   .obtain⟨a,k,e,_⟩:=r;exact⟨a,_,k,e⟩
   .obtain⟨a,k,e,_⟩:=r;exact⟨a,_,k,e⟩
  | no=>
   have hm:m.whole=true:=by cases m<;>simp_all [Mk.aQ]
   exact⟨Nil,F,Sub.nil _,Sub.refl _,cq.nil _,aq.share (.sl t) hm r⟩
  | pr w1 w2=>
   refine⟨Nil,Nil,Sub.nil _,Sub.nil _,cq.nil _,?_⟩;have r':aq h Pr (.sl t) .no xs c F:=by cases m<;>simp_all [Mk.aQ]<;>simpa only [aq] using r
   have r2:=aq.mono (fD:=fun b=>Pr b\/Nil b) (fun z hz=>.inl hz) (fun _ _=>rfl) (.sl t) r' (Sub.refl _) (fun _ _=>rfl);simpa only [aq] using r2
  | own s wi=>
   cases m with
   | no=>simp[Mk.aQ]at hw
   | gone=>simp[Mk.aQ]at hw
   | pr _ _=>simp[Mk.aQ]at hw
   | own s' mi=>
    simp only[Mk.aQ]at hw;simp only[aq]at r;obtain⟨a,cap,rfl,hl,r⟩:=r;rcases r with r | ⟨b,cs,rfl,fb,hb,hs,Fs,hF,hd,re⟩
    .exact⟨Nil,Nil,Sub.nil _,Sub.nil _,cq.nil _,by simp only[aq];exact⟨a,cap,rfl,hl,.inl r⟩⟩
    .have key:∀i,∃F1 F2:BS,Sub F1 (Fs i)/\Sub F2 (Fs i)/\cq F1 F2/\
       (i<xs.length->aq h (fun b=>Pr b\/F2 b) t wi (xs.getD i t.zero) (sub cs (i * t.width) t.width) F1):=by
      intro i;by_cases hi:i<xs.length
      .obtain⟨F1,F2,s1,s2,dd,rr⟩:=aq.aQ t hw (re i hi);exact⟨F1,F2,s1,s2,dd,fun _=>rr⟩
      .exact⟨Nil,Nil,Sub.nil _,Sub.nil _,cq.nil _,fun h=>absurd h hi⟩
     obtain⟨F1,key⟩:=sH key;obtain⟨F2,key⟩:=sH key;refine⟨fun z=>z=b\/∃i,F1 i z,fun z=>∃i,F2 i z,?_,?_,?_,?_⟩
     .rintro z (rfl | ⟨i,hz⟩)
      .exact fb
      .exact(hF i).1 z ((key i).1 z hz)
     .rintro z ⟨i,hz⟩;exact(hF i).1 z ((key i).2.1 z hz)
     .rintro z (rfl | ⟨i,hz⟩) ⟨j,hy⟩
      .exact(hF j).2 ((key j).2.1 z hy)
      .by_cases e:i=j
       .subst e;exact(key i).2.2.1 z hz hy
       .exact hd i j e z ((key i).1 z hz) ((key j).2.1 z hy)
     .simp only[aq];refine⟨_,cap,rfl,hl,.inr ⟨b,cs,rfl,.inl rfl,hb,hs,F1,fun i=>⟨fun z hz=>.inr ⟨i,hz⟩,fun hz=>(hF i).2 ((key i).1 _ hz)⟩,
       fun i j e=>(hd i j e).mono (key i).1 (key j).1,fun i hi=>?_⟩⟩
      exact aq.mono (fun z hz=>hz.imp id fun hz=>⟨i,hz⟩) (fun _ _=>rfl) t ((key i).2.2.2 hi) (Sub.refl _) (fun _ _=>rfl)
def bq:(t:Ty)->t.den->Path->Prop
 | _,_,[]=>True
 | .pair a _,x,.fst::p=>bq a x.1 p
 | .pair _ b,x,.snd::p=>bq b x.2 p
 | .sl t,xs,.idx i _::p=>i<xs.length/\bq t (xs.getD i t.zero) p
 | _,_,_::_=>False
abbrev fy:=Option (Nat×Nat)
def b8(h:Array Obj):(t:Ty)->List Value->fy->Path->Option (fy×List Value)
 | _,c,base,[]=>some (base,c)
 | .pair a _,c,base,.fst::p=>b8 h a (c.take a.width) base p
 | .pair a b,c,base,.snd::p=>b8 h b (c.drop a.width) (base.map fun x=>(x.1,x.2+a.width)) p
 | .sl t,c,_,.idx i _::p=>
  match c with
  | [.slice (some ⟨b,0,none⟩) _ _]=>
   match h[b]? with
   | some (.cells cs _ _)=>b8 h t (sub cs (i * t.width) t.width) (some (b,i * t.width)) p
   | _=>none
  | _=>none
 | _,_,_,_::_=>none
def bM(l:List Value)(o:Nat)(c:List Value):List Value:=l.take o++c++l.drop (o+c.length)
theorem yj{l:List Value}{o:Nat}{c:List Value}(h:o+c.length<=l.length):(bM l o c).length=l.length:=by simp[bM];omega
theorem aa1{l:List Value}{o:Nat}{c:List Value}(h:o+c.length<=l.length):((bM l o c).drop o).take c.length=c:=by
 have:(l.take o).length=o:=by simp;omega
 simp only[bM,eu];rw[AH (by omega),vi (by omega)];simp
theorem Fj{l:List Value}{o:Nat}{c:List Value}(h:o+c.length<=l.length){o' n:Nat}(hd:o'+n<=o\/o+c.length<=o') :
  ((bM l o c).drop o').take n=(l.drop o').take n:=by
 apply o4;intro i;simp only[fk,f8];split
 .rename_i hi;simp only[bM];by_cases h1:o'+i<o
  .rw[eu,jd (by simp;omega),fk];simp[h1]
  .have h2:o+c.length<=o'+i:=by omega
   rw[jT (by simp;omega),f8];congr 1;simp;omega
 .rfl
def yx(h:Array Obj)(base:fy)(c:List Value)(F:BS):Prop:=
 ∀b o,base=some (b,o)->¬ F b/\∃cs,iS h b cs/\o+c.length<=cs.size/\sub cs o c.length=c
def yP(h h2:Array Obj)(base:fy)(c2:List Value):Prop:=
 ∀b o,base=some (b,o)->∀cs,iS h b cs->∃fH:Array Value,iS h2 b fH/\fH.toList=bM cs.toList o c2
def ew:Ty->Path->Nat
 | .pair a _,.fst::p=>ew a p
 | .pair a b,.snd::p=>a.width+ew b p
 | _,_=>0
end
end Go.V
namespace Go.V
noncomputable section
open Go
structure ay where
 Pr:BS
 C:Nat->List Value
 B:Nat->Option Nat
 G:Nat->BS
 hd:Nat->Value
 L:BS
 P0:BS
def ay.cM(g' g:ay):Prop:=g'.hd=g.hd/\g'.L=g.L/\g'.P0=g.P0
theorem ay.cM.refl(g:ay):g.cM g:=⟨rfl,rfl,rfl⟩
theorem ay.cM.trans{a b c:ay}(h:b.cM a)(k:c.cM b):c.cM a:=⟨k.1.trans h.1,k.2.1.trans h.2.1,k.2.2.trans h.2.2⟩
def aK(hd:Nat->Value):Ty->Mk->List Value->Prop
 | .pair a b,m,c=>aK hd a m.fst (c.take a.width)/\aK hd b m.snd (c.drop a.width)
 | .sl _,.own s mi,c=>(1048576<=s->c=[hd s])/\mi.ak=true
 | _,_,_=>True
def ay.base(g:ay)(r:Nat):fy:=(g.B r).map fun b=>(b,0)
def cU(t:Ty)(c:List Value):Value:=if t.agg then .agg c.toArray else c.headD undef
theorem aq.slice{h:Array Obj}{Pr:BS}{t:Ty}{m:Mk}{x:(Ty.sl t).den}{c:List Value}{F:BS}(r:aq h Pr (.sl t) m x c F):∃a n k,c=[.slice a n k]:=by
 cases m<;>simp only[aq]at r
 .obtain⟨a,k,e,_⟩:=r;exact⟨a,_,k,e⟩
 .exact r
 .obtain⟨a,k,e,_⟩:=r;exact⟨a,_,k,e⟩
 .obtain⟨a,k,e,_⟩:=r;exact⟨a,_,k,e⟩
theorem BG{h:Array Obj}{Pr:BS}{t:Ty}{m:Mk}{x:t.den}{c:List Value}{F:BS}(r:aq h Pr t m x c F):(cU t c).cells.toList=c:=by
 cases t with
 | unit=>simp only[aq]at r;subst r;simp[cU,Ty.agg,Value.cells]
 | int k=>simp only[aq]at r;subst r;simp[cU,Ty.agg,Value.cells]
 | bool=>simp only[aq]at r;subst r;simp[cU,Ty.agg,Value.cells]
 | str=>simp only[aq]at r;subst r;simp[cU,Ty.agg,Value.cells]
 | pair a b=>simp[cU,Ty.agg,Value.cells]
 | sl t=>obtain⟨a,n,k,rfl⟩:=aq.slice r;simp[cU,Ty.agg,Value.cells]
theorem ajA{h h':Array Obj}{Pr fD:BS}{t:Ty}{m m':Mk}{x x':t.den}{c c':List Value}{F F':BS}
  (r:aq h Pr t m x c F) (r':aq h' fD t m' x' c' F') (e:cU t c=cU t c'):c=c':=by
 rw[<-BG r,<-BG r',e]
section rel
variable (h:Array Obj) (S:St) (g:ay)
def pZ(r:Nat)(p:Path)(s:Nat)(v:Value):Prop:=
 ∀R,S.root r=some R->∀t m xs,focus R.ty R.ms R.x p=some ⟨.sl t,.own s m,xs⟩->
  bq R.ty R.x p/\∃base,b8 h R.ty (g.C r) (g.base r) p=some (base,[v])
def A8(r:Nat)(p:Path)(s lo hi:Nat)(v:Value):Prop:=
 ∀R,S.root r=some R->∀t m xs,focus R.ty R.ms R.x p=some ⟨.sl t,.own s m,xs⟩->
  bq R.ty R.x p/\∃base a n k,b8 h R.ty (g.C r) (g.base r) p=some (base,[.slice a n k])/\lo<=hi/\hi<=n/\
   v=.slice (if k=lo then a else a.map (·.add (lo * t.width))) (hi-lo) (k-lo)
def uu(r:Nat)(p:Path)(v:Value):Prop:=
 ∀R,S.root r=some R->∀d,focus R.ty R.ms R.x p=some d->
  bq R.ty R.x p/\∃b o c,b8 h R.ty (g.C r) (g.base r) p=some (some (b,o),c)/\v=.pointer (some ⟨b,o,none⟩)
def yo(t:Ty)(x:t.den)(v:Value):Prop:=
 ∃b o cs,v=.pointer (some ⟨b,o,none⟩)/\g.Pr b/\sJ h b cs/\o+t.width<=cs.size/\aq h g.Pr t .no x (Go.V.sub cs o t.width) Nil
def r5:bt->Value->Prop
 | .val t x,v=>∃c,aq h g.Pr t .no x c Nil/\v=cU t c
 | .bZ t x,v=>yo h g t x v
def nF:List bt->List Value->Prop
 | [],vs=>vs=[]
 | c::l,vs=>∃v vs',vs=v::vs'/\r5 h g c v/\nF l vs'
def dc:AV->List Value->Prop
 | .undef,_=>True
 | .unit,c=>c=[]
 | .val t x,c=>aq h g.Pr t .no x c Nil
 | .b5 r p s,c=>∃v,c=[v]/\pZ h S g r p s v
 | .pair a b,c=>∃ca cb,c=ca++cb/\dc a ca/\dc b cb
 | _,_=>False
mutual
def qe:AV->Value->Prop
 | .undef,_=>True
 | .skip,v=>v=Go.undef
 | .cF b,v=>v=.bool b
 | .unit,v=>v=.agg #[]
 | .fe,v=>v=.slice none 0 0
 | .val t x,v=>∃c,aq h g.Pr t .no x c Nil/\v=cU t c
 | .b5 r p s,v=>pZ h S g r p s v
 | .view r p s lo hi,v=>A8 h S g r p s lo hi v
 | .addr r p,v=>uu h S g r p v
 | .b_ t x,v=>yo h g t x v
 | .pair a b,v=>∃ca cb,v=.agg (ca++cb).toArray/\dc h S g a ca/\dc h S g b cb
 | .jn a,v=>∃vs,v=.tuple vs.toArray/\aL a vs
 | .gz f c,v=>∃vs,v=.func (.func f) #[] vs.toArray/\aL c vs
 | .dZ c,v=>∃vs,v=.func (.func c.f) #[] vs.toArray/\nF h g c.caps vs
def aL:AV->List Value->Prop
 | .unit,vs=>vs=[]
 | .pair a b,vs=>∃v vs',vs=v::vs'/\qe a v/\aL b vs'
 | _,_=>False
end
structure az (tmps:Array Value) (H:BS):Prop where
 len:S.sl.length=tmps.size
 gq:S.rt.length=tmps.size
 slots:∀t,qe h S g (S.get t) (tmps.getD t Go.undef)
 roots:∀r R,S.root r=some R->∃F,aq h g.Pr R.ty R.ms R.x (g.C r) F/\Sub F (g.G r)/\(∀b,g.B r=some b->¬ F b)/\
  (R.mem=true->∃b,g.B r=some b/\g.G r b/\iS h b (g.C r).toArray)/\(R.mem=false->g.B r=none)
 dG:∀r r',r≠r'->(S.root r).isSome->(S.root r').isSome->cq (g.G r) (g.G r')
 dK:∀r,(S.root r).isSome->cq (g.G r) g.Pr
 hand:∀r,(S.root r).isSome->cq (g.G r) H
 bI:cq H g.Pr
 bP:∀b,g.Pr b->b<h.size
 b6:∀r b,(S.root r).isSome->g.G r b->b<h.size
 d_:∀b,H b->b<h.size
 tag:∀r R,S.root r=some R->aK g.hd R.ty R.ms (g.C r)
 own:∀r b,(S.root r).isSome->g.G r b->g.L b
 eY:∀b,H b->g.L b
 fS:∀b,h.size<=b->g.L b
 p0:Sub g.P0 g.Pr
 jY:∀b,g.Pr b->g.P0 b\/g.L b
end rel
section keep
variable (h h':Array Obj) (S S':St) (g g':ay)
def tG(r:Nat)(p:Path):Prop:=
 ∀R',S'.root r=some R'->∀d',focus R'.ty R'.ms R'.x p=some d'->
  ∃R d,S.root r=some R/\focus R.ty R.ms R.x p=some d/\(bq R.ty R.x p->bq R'.ty R'.x p/\
   ∀base c,b8 h R.ty (g.C r) (g.base r) p=some (base,c)->∃c',b8 h' R'.ty (g'.C r) (g'.base r) p=some (base,c'))
def qF(r:Nat)(p:Path)(s:Nat):Prop:=
 ∀R',S'.root r=some R'->∀t m xs,focus R'.ty R'.ms R'.x p=some ⟨.sl t,.own s m,xs⟩->
  ∃R m0 HN,S.root r=some R/\focus R.ty R.ms R.x p=some ⟨.sl t,.own s m0,HN⟩/\(bq R.ty R.x p->bq R'.ty R'.x p/\
   ∀base c,b8 h R.ty (g.C r) (g.base r) p=some (base,c)->b8 h' R'.ty (g'.C r) (g'.base r) p=some (base,c))
def AV.dh:AV->Prop
 | .b5 r p s=>qF h h' S S' g g' r p s
 | .view r p s _ _=>qF h h' S S' g g' r p s
 | .addr r p=>tG h h' S S' g g' r p
 | .pair a b=>a.dh/\b.dh
 | .jn a=>a.dh
 | .gz _ a=>a.dh
 | _=>True
variable {h h' S S' g g'}
theorem pZ.keep{r:Nat}{p:Path}{s:Nat}{v:Value}(x:pZ h S g r p s v)(k:qF h h' S S' g g' r p s):pZ h' S' g' r p s v:=by intro R' cg t m xs hf;obtain⟨R,m0,HN,hR,zN,hr⟩:=k R' cg t m xs hf;obtain⟨h1,base,h2⟩:=x R hR t m0 HN zN;exact⟨(hr h1).1,base,(hr h1).2 _ _ h2⟩
theorem A8.keep{r:Nat}{p:Path}{s lo hi:Nat}{v:Value}(x:A8 h S g r p s lo hi v)(k:qF h h' S S' g g' r p s):A8 h' S' g' r p s lo hi v:=by intro R' cg t m xs hf;obtain⟨R,m0,HN,hR,zN,hr⟩:=k R' cg t m xs hf;obtain⟨h1,base,a,n,k,h2,h3⟩:=x R hR t m0 HN zN;exact⟨(hr h1).1,base,a,n,k,(hr h1).2 _ _ h2,h3⟩
theorem uu.keep{r:Nat}{p:Path}{v:Value}(x:uu h S g r p v)(k:tG h h' S S' g g' r p):uu h' S' g' r p v:=by intro R' cg d hf;obtain⟨R,d0,hR,zN,hr⟩:=k R' cg d hf;obtain⟨h1,b,o,c,h2,h3⟩:=x R hR d0 zN;obtain⟨c',h4⟩:=(hr h1).2 _ _ h2;exact⟨(hr h1).1,b,o,c',h4,h3⟩
theorem yo.keep(hp:Sub g.Pr g'.Pr)(hk:∀b,g.Pr b->h'[b]? = h[b]?){t:Ty}{x:t.den}{v:Value}(y:yo h g t x v):yo h' g' t x v:=by obtain⟨b,o,cs,e,pb,hb,hs,r⟩:=y;exact⟨b,o,cs,e,hp b pb,hb.congr (hk b pb),hs,aq.mono hp hk t r (Sub.refl _) (fun _ h=>h.elim)⟩
theorem r5.keep(hp:Sub g.Pr g'.Pr)(hk:∀b,g.Pr b->h'[b]? = h[b]?){c:bt}{v:Value}(y:r5 h g c v):r5 h' g' c v:=by
 cases c with
 | val t x=>obtain⟨c,r,e⟩:=y;exact⟨c,aq.mono hp hk t r (Sub.refl _) (fun _ h=>h.elim),e⟩
 | bZ t x=>exact yo.keep hp hk y
theorem nF.keep(hp:Sub g.Pr g'.Pr)(hk:∀b,g.Pr b->h'[b]? = h[b]?):∀{l:List bt}{vs:List Value},nF h g l vs->nF h' g' l vs
 | [],_,y=>y
 | c::l,_,y=>by
  obtain⟨v,vs',e,h1,h2⟩:=y;exact⟨v,vs',e,r5.keep hp hk h1,nF.keep hp hk h2⟩
theorem dc.keep(hp:Sub g.Pr g'.Pr)(hk:∀b,g.Pr b->h'[b]? = h[b]?):∀{a:AV}{c:List Value},dc h S g a c->a.dh h h' S S' g g'->dc h' S' g' a c
 | .undef,_,_,_=>trivial
 | .unit,_,y,_=>y
 | .val t x,_,y,_=>aq.mono hp hk t y (Sub.refl _) (fun _ h=>h.elim)
 | .b5 r p s,_,y,k=>by obtain⟨v,e,y⟩:=y;exact⟨v,e,y.keep k⟩
 | .pair a b,_,y,k=>by
  obtain⟨ca,cb,e,y1,y2⟩:=y;exact⟨ca,cb,e,dc.keep hp hk y1 k.1,dc.keep hp hk y2 k.2⟩
 | .skip,_,y,_=>y.elim
 | .cF _,_,y,_=>y.elim
 | .fe,_,y,_=>y.elim
 | .view _ _ _ _ _,_,y,_=>y.elim
 | .addr _ _,_,y,_=>y.elim
 | .b_ _ _,_,y,_=>y.elim
 | .jn _,_,y,_=>y.elim
 | .gz _ _,_,y,_=>y.elim
 | .dZ _,_,y,_=>y.elim
theorem qe.keep(hp:Sub g.Pr g'.Pr)(hk:∀b,g.Pr b->h'[b]? = h[b]?):∀(a:AV),(∀v,qe h S g a v->a.dh h h' S S' g g'->qe h' S' g' a v)/\
  (∀vs,aL h S g a vs->a.dh h h' S S' g g'->aL h' S' g' a vs):=by
 intro a
 induction a with
 | undef=>exact⟨fun _ _ _=>by simp only[qe],fun _ y _=>by simp only[aL]at y⟩
 | skip=>exact⟨fun _ y _=>by simpa only [qe] using y,fun _ y _=>by simp only[aL]at y⟩
 | cF b=>exact⟨fun _ y _=>by simpa only [qe] using y,fun _ y _=>by simp only[aL]at y⟩
 | unit=>exact⟨fun _ y _=>by simpa only [qe] using y,fun _ y _=>by simpa only [aL] using y⟩
 | fe=>exact⟨fun _ y _=>by simpa only [qe] using y,fun _ y _=>by simp only[aL]at y⟩
 | val t x=>refine⟨fun v y _=>?_,fun _ y _=>by simp only[aL]at y⟩;simp only[qe]at y⊢;obtain⟨c,r,e⟩:=y;exact⟨c,aq.mono hp hk t r (Sub.refl _) (fun _ h=>h.elim),e⟩
 | b5 r p s=>exact⟨fun v y k=>by simp only[qe]at y⊢;exact y.keep k,fun _ y _=>by simp only[aL]at y⟩
 | view r p s lo hi=>exact⟨fun v y k=>by simp only[qe]at y⊢;exact y.keep k,fun _ y _=>by simp only[aL]at y⟩
 | addr r p=>exact⟨fun v y k=>by simp only[qe]at y⊢;exact y.keep k,fun _ y _=>by simp only[aL]at y⟩
 | b_ t x=>exact⟨fun v y k=>by simp only[qe]at y⊢;exact yo.keep hp hk y,fun _ y _=>by simp only[aL]at y⟩
 | pair a b fP ki=>
  refine⟨fun v y k=>?_,fun vs y k=>?_⟩
  .simp only[qe]at y⊢;obtain⟨ca,cb,e,y1,y2⟩:=y;exact⟨ca,cb,e,dc.keep hp hk y1 k.1,dc.keep hp hk y2 k.2⟩
  .simp only[aL]at y⊢;obtain⟨v,vs',e,y1,y2⟩:=y;exact⟨v,vs',e,fP.1 v y1 k.1,ki.2 vs' y2 k.2⟩
 | jn a fP=>refine⟨fun v y k=>?_,fun _ y _=>by simp only[aL]at y⟩;simp only[qe]at y⊢;obtain⟨vs,e,y⟩:=y;exact⟨vs,e,fP.2 vs y k⟩
 | gz f a fP=>refine⟨fun v y k=>?_,fun _ y _=>by simp only[aL]at y⟩;simp only[qe]at y⊢;obtain⟨vs,e,y⟩:=y;exact⟨vs,e,fP.2 vs y k⟩
 | dZ c=>refine⟨fun v y k=>?_,fun _ y _=>by simp only[aL]at y⟩;simp only[qe]at y⊢;obtain⟨vs,e,y⟩:=y;exact⟨vs,e,nF.keep hp hk y⟩
end keep
theorem Hy{h h':Array Obj}{Pr:BS}:∀(p:Path){t:Ty}{m:Mk}{x:t.den}{c:List Value}{F:BS}(base:fy){d:Dy},
  aq h Pr t m x c F->focus t m x p=some d->bq t x p->(∀b,F b->h'[b]? = h[b]?)->b8 h' t c base p=b8 h t c base p
 | [],t,m,x,c,F,base,d,_,_,_,_=>by cases t<;>rfl
 | .fst::p,t,m,x,c,F,base,d,r,hf,hr,hk=>by
  cases t with
  | pair a b=>simp only[focus]at hf;simp only[bq]at hr;simp only[aq]at r;obtain⟨ca,cb,Fa,Fb,rfl,ra,rb,sa,sb,dd⟩:=r;simp only[b8];rw[<-aq.width a ra,iX rfl];exact Hy p base ra hf hr fun b hb=>hk b (sa b hb)
  | _=>simp[focus]at hf
 | .snd::p,t,m,x,c,F,base,d,r,hf,hr,hk=>by
  cases t with
  | pair a b=>simp only[focus]at hf;simp only[bq]at hr;simp only[aq]at r;obtain⟨ca,cb,Fa,Fb,rfl,ra,rb,sa,sb,dd⟩:=r;simp only[b8];rw[<-aq.width a ra,iL rfl];exact Hy p _ rb hf hr fun b hb=>hk b (sb b hb)
  | _=>simp[focus]at hf
 | .idx i s'::p,t,m,xs,c,F,base,d,r,hf,hr,hk=>by
  cases t with
  | sl e=>
   cases m with
   | own s mi=>
    simp only[focus]at hf;by_cases hs:s=s'
    .simp only[hs,aX]at hf;simp only[bq]at hr;obtain⟨hi,hr⟩:=hr;simp only[aq]at r;obtain⟨a,cap,rfl,hl,r⟩:=r;rcases r with r | ⟨b1,cs,rfl,fb,bQ,hsz,Fs,hF,kT,re⟩
     .omega
     simp only[b8];rw[hk b1 fb];obtain⟨ty,lo,hi',he,_⟩:=bQ;simp only[he];exact Hy p _ (re i hi) hf hr fun b hb=>hk b ((hF i).1 b hb)
    .simp[hs]at hf
   | _=>simp[focus]at hf
  | _=>simp[focus]at hf
end
end Go.V
namespace Go.V
noncomputable section
open Go
def q8:Ty->Mk->Path->Option (Ty×Mk)
 | t,m,[]=>some (t,m)
 | .pair a _,m,.fst::p=>q8 a m.fst p
 | .pair _ b,m,.snd::p=>q8 b m.snd p
 | .sl t,.own s m,.idx _ s'::p=>if s=s' then q8 t m p else none
 | _,_,_::_=>none
theorem uU:∀(p:Path){t:Ty}{m:Mk}{x:t.den}{d:Dy},focus t m x p=some d->q8 t m p=some (d.ty,d.ms)
 | [],t,m,x,d,h=>by simp only[focus,aI]at h;subst h;cases t<;>rfl
 | .fst::p,t,m,x,d,h=>by
  cases t with
  | pair a b=>simp only[focus]at h;simp only[q8];exact uU p h
  | _=>simp[focus]at h
 | .snd::p,t,m,x,d,h=>by
  cases t with
  | pair a b=>simp only[focus]at h;simp only[q8];exact uU p h
  | _=>simp[focus]at h
 | .idx i s'::p,t,m,x,d,h=>by
  cases t with
  | sl e=>
   cases m with
   | own s mi=>
    simp only[focus]at h;simp only[q8];split at h
    .rename_i hs;simp only[hs,aX];exact uU p h
    .simp at h
   | _=>simp[focus]at h
  | _=>simp[focus]at h
theorem zi:∀(p:Path){t:Ty}{m:Mk}(x:t.den){t':Ty}{m':Mk},q8 t m p=some (t',m')->∃y,focus t m x p=some ⟨t',m',y⟩
 | [],t,m,x,t',m',h=>by
  have:q8 t m []=some (t,m):=by cases t<;>rfl
  rw[this]at h;simp only[aI,a_]at h;obtain⟨rfl,rfl⟩:=h;exact⟨x,by simp[focus]⟩
 | .fst::p,t,m,x,t',m',h=>by
  cases t with
  | pair a b=>simp only[q8]at h;simp only[focus];exact zi p x.1 h
  | _=>simp[q8]at h
 | .snd::p,t,m,x,t',m',h=>by
  cases t with
  | pair a b=>simp only[q8]at h;simp only[focus];exact zi p x.2 h
  | _=>simp[q8]at h
 | .idx i s'::p,t,m,x,t',m',h=>by
  cases t with
  | sl e=>
   cases m with
   | own s mi=>
    simp only[q8]at h;simp only[focus];split at h
    .rename_i hs;simp only[hs,aX];exact zi p _ h
    .simp at h
   | _=>simp[q8]at h
  | _=>simp[q8]at h
def Mk.le:(less more:Mk)->Prop
 | .gone,_=>True
 | .no,m=>m=.no
 | .own s a,m=>∃b,m=.own s b/\a.le b
 | .pr a b,m=>∃c d,m=.pr c d/\a.le c/\b.le d
theorem Mk.le_refl:∀m:Mk,m.le m
 | .no=>rfl
 | .gone=>trivial
 | .own s m=>⟨m,rfl,m.le_refl⟩
 | .pr a b=>⟨a,b,rfl,a.le_refl,b.le_refl⟩
theorem Mk.le_trans:∀{a b c:Mk},a.le b->b.le c->a.le c
 | .gone,_,_,_,_=>trivial
 | .no,b,c,h,h'=>by simp only[Mk.le]at h;subst h;exact h'
 | .own s a,b,c,h,h'=>by
  obtain⟨b',rfl,h⟩:=h;obtain⟨c',rfl,h'⟩:=h';exact⟨c',rfl,Mk.le_trans h h'⟩
 | .pr a1 a2,b,c,h,h'=>by
  obtain⟨b1,b2,rfl,h1,h2⟩:=h;obtain⟨c1,c2,rfl,h3,h4⟩:=h';exact⟨c1,c2,rfl,Mk.le_trans h1 h3,Mk.le_trans h2 h4⟩
def Mk.nt(lo hi:Nat)(m:Mk):Mk->Prop
 | .own s b=>(lo<=s/\s<hi)\/∃a,m=.own s a/\Mk.nt lo hi a b
 | .pr c d=>Mk.nt lo hi m.fst c/\Mk.nt lo hi m.snd d
 | _=>True
theorem Mk.B4{lo hi:Nat}{m n:Mk}(h:m.nt lo hi n):m.fst.nt lo hi n.fst:=by
 cases n with
 | no=>trivial
 | gone=>trivial
 | own s b=>trivial
 | pr c d=>exact h.1
theorem Mk.B5{lo hi:Nat}{m n:Mk}(h:m.nt lo hi n):m.snd.nt lo hi n.snd:=by
 cases n with
 | no=>trivial
 | gone=>trivial
 | own s b=>trivial
 | pr c d=>exact h.2
theorem Mk.eZ(lo hi:Nat):∀m:Mk,m.nt lo hi m
 | .no=>trivial
 | .gone=>trivial
 | .own s m=>.inr ⟨m,rfl,m.eZ lo hi⟩
 | .pr a b=>⟨a.eZ lo hi,b.eZ lo hi⟩
theorem Mk.jR{lo hi:Nat}:∀{m b:Mk},m.nt lo hi b->m.nt lo hi b.fh
 | m,.no,_=>trivial
 | m,.gone,_=>trivial
 | m,.own s b,_=>by unfold Mk.fh;split<;>trivial
 | m,.pr c d,h=>⟨Mk.jR h.1,Mk.jR h.2⟩
theorem Mk.g9{lo hi:Nat}:∀(a:Mk)(m:Mk),m.nt lo hi (a.meet .no)
 | .no,m=>trivial
 | .gone,m=>trivial
 | .own s a,m=>by simp only[Mk.meet];split<;>trivial
 | .pr a b,m=>⟨Mk.g9 a _,Mk.g9 b _⟩
theorem Mk.gH{lo hi:Nat}:∀{a m b:Mk},m.nt lo hi b->m.nt lo hi (a.meet b)
 | .no,m,b,h=>by simpa [Mk.meet] using Mk.jR h
 | .gone,m,b,h=>trivial
 | .own s a,m,b,h=>by
  cases b with
  | no=>simp only[Mk.meet];split<;>trivial
  | gone=>trivial
  | pr _ _=>trivial
  | own s' b=>
   simp only[Mk.meet];rcases h with h | ⟨a',rfl,h⟩
   .exact .inl h
   .exact .inr ⟨a',rfl,Mk.gH h⟩
 | .pr a1 a2,m,b,h=>by
  cases b with
  | no=>exact⟨Mk.g9 a1 _,Mk.g9 a2 _⟩
  | gone=>trivial
  | own s' b=>trivial
  | pr b1 b2=>exact⟨Mk.gH h.1,Mk.gH h.2⟩
def Mk.fresh(lo hi:Nat):Mk->Prop
 | .own s m=>lo<=s/\s<hi
 | .pr a b=>a.fresh lo hi/\b.fresh lo hi
 | _=>True
theorem Mk.eK{lo hi:Nat}:∀{n:Mk}(m:Mk),n.fresh lo hi->m.nt lo hi n
 | .no,m,_=>trivial
 | .gone,m,_=>trivial
 | .own s b,m,h=>.inl h
 | .pr c d,m,h=>⟨Mk.eK _ h.1,Mk.eK _ h.2⟩
theorem AY{lo hi:Nat}:∀(q:Path){t:Ty}{m:Mk}{x:t.den}{t2:Ty}{m2:Mk}{y:t2.den}{m':Mk}{x':t.den},
  put t m x q t2 m2 y=some (m',x')->m2.fresh lo hi->m.nt lo hi m'
 | [],t,m,x,t2,m2,y,m',x',h,hm=>by
  simp only[put]at h;cases hc:qbv t2 t y with
  | none=>rw[hc]at h;simp at h
  | some z=>rw[hc]at h;simp only[dn,aI,a_]at h;rw[<-h.1];exact Mk.eK _ hm
 | .fst::q,t,m,x,t2,m2,y,m',x',h,hm=>by
  cases t with
  | pair a b=>
   simp only[put]at h;cases hq:put a m.fst x.1 q t2 m2 y with
   | none=>rw[hq]at h;simp at h
   | some r=>rw[hq]at h;simp only[dn,aI,a_]at h;rw[<-h.1];exact⟨AY q hq hm,Mk.eZ _ _ _⟩
  | _=>simp[put]at h
 | .snd::q,t,m,x,t2,m2,y,m',x',h,hm=>by
  cases t with
  | pair a b=>
   simp only[put]at h;cases hq:put b m.snd x.2 q t2 m2 y with
   | none=>rw[hq]at h;simp at h
   | some r=>rw[hq]at h;simp only[dn,aI,a_]at h;rw[<-h.1];exact⟨Mk.eZ _ _ _,AY q hq hm⟩
  | _=>simp[put]at h
 | .idx i s'::q,t,m,x,t2,m2,y,m',x',h,hm=>by
  cases t with
  | sl e=>
   cases m with
   | own s mi=>
    simp only[put]at h;split at h
    .rename_i hs;cases hq:put e mi (x.getD i e.zero) q t2 m2 y with
     | none=>rw[hq]at h;simp at h
     | some r=>rw[hq]at h;simp only[dn,aI,a_]at h;rw[<-h.1];exact .inr ⟨mi,rfl,Mk.gH (AY q hq hm)⟩
    .simp at h
   | _=>simp[put]at h
  | _=>simp[put]at h
theorem BC{lo hi:Nat}:∀(p:Path){t:Ty}{m n:Mk}{t':Ty}{n':Mk},m.nt lo hi n->jl lo hi p=true->q8 t n p=some (t',n')->
  ∃m',q8 t m p=some (t',m')/\m'.nt lo hi n'
 | [],t,m,n,t',n',h,_,hf=>by
  have e:∀m,q8 t m []=some (t,m):=fun m=>by cases t<;>rfl
  rw[e]at hf;simp only[aI,a_]at hf;obtain⟨rfl,rfl⟩:=hf;exact⟨m,e m,h⟩
 | .fst::p,t,m,n,t',n',h,hp,hf=>by
  cases t with
  | pair t1 t2=>simp only[q8]at hf⊢;exact BC p (Mk.B4 h) (by simpa [jl] using hp) hf
  | _=>simp[q8]at hf
 | .snd::p,t,m,n,t',n',h,hp,hf=>by
  cases t with
  | pair t1 t2=>simp only[q8]at hf⊢;exact BC p (Mk.B5 h) (by simpa [jl] using hp) hf
  | _=>simp[q8]at hf
 | .idx i s'::p,t,m,n,t',n',h,hp,hf=>by
  cases t with
  | sl e=>
   cases n with
   | own s b=>
    simp only[q8]at hf;split at hf
    .rename_i hs;subst hs;simp only[jl,bC,jV,n4]at hp;rcases h with h | ⟨a,rfl,h⟩
     .exfalso;rcases hp.1 with h1 | h1
      .have:Nat.ble lo s=true:=oY h.1;rw[this]at h1;simp at h1
      .have:Nat.blt s hi=true:=oY h.2;rw[this]at h1;simp at h1
     .simp only[q8,aX];exact BC p h hp.2 hf
    .simp at hf
   | _=>simp[q8]at hf
  | _=>simp[q8]at hf
end
end Go.V
namespace Go.V
noncomputable section
open Go
abbrev Un(F G:BS):BS:=fun b=>F b\/G b
theorem Yp{a b c:List Value}{o:Nat}(h:o+c.length<=a.length):bM (a++b) o c=bM a o c++b:=by simp only[bM];rw[nv (by omega),AH (by omega)];simp
theorem XC{a b c:List Value}{o:Nat}:bM (a++b) (a.length+o) c=a++bM b o c:=by simp only[bM];rw[List.take_append,jf (by omega),Ey,vi (by omega)];simp[Nat.add_sub_cancel_left,Gr]
theorem Au{a c:List Value}(h:c.length=a.length):bM a 0 c=c:=by simp[bM,h]
theorem LJ{cs:Array Value}{o:Nat}{a b:List Value}(h:sub cs o (a++b).length=a++b) :
  sub cs o a.length=a/\sub cs (o+a.length) b.length=b:=by
 simp only[sub,cw]at h⊢;constructor
 .have:=eM (List.take a.length) h;rw[oQ]at this;simpa [SY (Nat.le_add_right _ _)] using this
 .have:=eM (List.drop a.length) h;rw[si,oS]at this;simpa using this
theorem iS.uniq{h:Array Obj}{b:Nat}{cs cs':Array Value}(x:iS h b cs)(y:iS h b cs'):cs=cs':=by obtain⟨e,lo,hi,he,_⟩:=x;obtain⟨e',lo',hi',he',_⟩:=y;rw[he]at he';simp at he';exact he'.1
theorem BB:∀p:Path,jl 0 0 p=true
 | []=>rfl
 | .fst::p=>BB p
 | .snd::p=>BB p
 | .idx i s::p=>by
  have:Nat.blt s 0=false:=rfl;simp[jl,this,BB p]
theorem LU{lo hi s:Nat}(h:lo<=s/\s<hi):(!(Nat.ble lo s&&Nat.blt s hi))=false:=by have e1:Nat.ble lo s=true:=oY h.1;have e2:Nat.blt s hi=true:=oY h.2;simp[e1,e2]
theorem CI{lo hi:Nat}:∀(p:Path){t:Ty}{m:Mk}{t':Ty}{m':Mk},m.fresh lo hi->jl lo hi p=true->q8 t m p=some (t',m')->
  qx p=false/\m'.fresh lo hi
 | [],t,m,t',m',h,_,hf=>by
  have e:∀m,q8 t m []=some (t,m):=fun m=>by cases t<;>rfl
  rw[e]at hf;simp only[aI,a_]at hf;exact⟨rfl,hf.2 ▸ h⟩
 | .fst::p,t,m,t',m',h,hp,hf=>by
  cases t with
  | pair a b=>
   simp only[q8]at hf;have:m.fst.fresh lo hi:=by cases m<;>first | exact h.1 | trivial
   exact CI p this (by simpa [jl] using hp) hf
  | _=>simp[q8]at hf
 | .snd::p,t,m,t',m',h,hp,hf=>by
  cases t with
  | pair a b=>
   simp only[q8]at hf;have:m.snd.fresh lo hi:=by cases m<;>first | exact h.2 | trivial
   exact CI p this (by simpa [jl] using hp) hf
  | _=>simp[q8]at hf
 | .idx i s'::p,t,m,t',m',h,hp,hf=>by
  cases t with
  | sl e=>
   cases m with
   | own s mi=>
    simp only[q8]at hf;split at hf
    .rename_i hs;subst hs;simp only[jl,bC]at hp;rw[LU h]at hp;simp at hp
    .simp at hf
   | _=>simp[q8]at hf
  | _=>simp[q8]at hf
theorem yh:∀(p:Path){t:Ty}{m:Mk}{t':Ty}{m':Mk}(x:t.den),qx p=false->q8 t m p=some (t',m')->bq t x p
 | [],t,_,_,_,x,_,_=>by cases t<;>trivial
 | .fst::p,t,m,t',m',x,hp,hf=>by
  cases t with
  | pair a b=>simp only[q8]at hf;simp only[bq];exact yh p x.1 hp hf
  | _=>simp[q8]at hf
 | .snd::p,t,m,t',m',x,hp,hf=>by
  cases t with
  | pair a b=>simp only[q8]at hf;simp only[bq];exact yh p x.2 hp hf
  | _=>simp[q8]at hf
 | .idx i s::p,_,_,_,_,_,hp,_=>by simp[qx]at hp
theorem CS{h h':Array Obj}:∀(p:Path){t:Ty}(c c':List Value)(base:fy){bp:fy}{cp:List Value},qx p=false->b8 h t c base p=some (bp,cp)->
  ∃ig,b8 h' t c' base p=some (bp,ig)
 | [],t,c,c',base,bp,cp,_,ha=>by
  have e:∀h c,b8 h t c base []=some (base,c):=fun h c=>by cases t<;>rfl
  rw[e]at ha;simp only[aI,a_]at ha;exact⟨c',by rw[e,ha.1]⟩
 | .fst::p,t,c,c',base,bp,cp,hp,ha=>by
  cases t with
  | pair a b=>simp only[b8]at ha⊢;exact CS p _ _ base hp ha
  | _=>simp[b8]at ha
 | .snd::p,t,c,c',base,bp,cp,hp,ha=>by
  cases t with
  | pair a b=>simp only[b8]at ha⊢;exact CS p _ _ _ hp ha
  | _=>simp[b8]at ha
 | .idx i s::p,_,_,_,_,_,_,hp,_=>by simp[qx]at hp
theorem aae{w i n o:Nat}{l l2 c2:List Value}(ht:l2=bM l (i * w+o) c2)(hfit:i * w+w<=l.length)(ho:o+c2.length<=w) :
  ((l2.drop (i * w)).take w=bM ((l.drop (i * w)).take w) o c2)/\∀j,j≠i->(l2.drop (j * w)).take w=(l.drop (j * w)).take w:=by
 subst ht;have hf:i * w+o+c2.length<=l.length:=by omega
 constructor
 .apply o4;intro k;simp only[bM,fk,f8];by_cases hk':k<w
  .simp only[hk',aX];by_cases JA:k<o
   .rw[eu,jd (by simp;omega),eu,jd (by simp;omega)];simp only[fk,f8];rw[aj (by omega),aj (by omega),aj (by omega)]
   .by_cases hk2:k<o+c2.length
    .rw[eu,jT (by simp;omega),jd (by simp;omega),eu,
      jT (by simp;omega),jd (by simp;omega)]
     congr 1;simp;omega
    .rw[jT (by simp;omega),jT (by simp;omega)];simp only[f8,fk];simp only[cw,cY,mz];rw[aj (by omega)];congr 1;omega
  .simp only[hk',dX];rw[n5 (by simp;omega)]
 .intro j hj;apply Fj hf;rcases Nat.lt_or_gt_of_ne hj with h1 | h1
  .left;have:=dz w (show j+1<=i by omega);rw[iE,xz]at this;omega
  .right;have:=dz w (show i+1<=j by omega);rw[iE,xz]at this;omega
structure Zip (h:Array Obj) (Pr:BS) (p:Path) (t:Ty) (m:Mk) (x:t.den) (c:List Value) (F:BS) (base:fy) (d:Dy) (base':fy) (c':List Value) (F' Fr:BS):Prop where
 at_:b8 h t c base p=some (base',c')
 rep:aq h Pr d.ty d.ms d.x c' F'
 ok:yx h base' c' F'
 sub:Sub F' F
 fr:Sub Fr F
 dG:cq F' Fr
 home:∀b o,base'=some (b,o)->Fr b\/∃o0,base=some (b,o0)
 idx:qx p=true->∃b o,base'=some (b,o)/\Fr b
 plain:qx p=false->base'=base.map (fun z=>(z.1,z.2+ew t p))/\c'=(c.drop (ew t p)).take d.ty.width/\ew t p+d.ty.width<=c.length
 vf:∀(h2:Array Obj)(f_:BS)(m2:Mk)(y:d.ty.den)(c2:List Value)(F2:BS)(m':Mk)(x':t.den),
  Sub Pr f_->(∀b,Pr b->h2[b]? = h[b]?)->(∀b,Fr b->(∀o,base'≠some (b,o))->h2[b]? = h[b]?)->yP h h2 base' c2->
  aq h2 f_ d.ty m2 y c2 F2->cq F2 Fr->put t m x p d.ty m2 y=some (m',x')->
  ∃F3 D3:BS,Sub F3 (Un Fr F2)/\Sub D3 (Un Fr F2)/\cq F3 D3/\aq h2 (Un f_ D3) t m' x' (if qx p then c else bM c (ew t p) c2) F3
 paths:∀(lo hi:Nat)(h2:Array Obj)(m2:Mk)(y:d.ty.den)(c2:List Value)(m':Mk)(x':t.den),
  (∀b,Fr b->(∀o,base'≠some (b,o))->h2[b]? = h[b]?)->yP h h2 base' c2->c2.length=d.ty.width->put t m x p d.ty m2 y=some (m',x')->d.ms.nt lo hi m2->
  (∀p' t1 n1,jl lo hi p'=true->q8 d.ty m2 p'=some (t1,n1)->bq d.ty d.x p'->bq d.ty y p'/\∀bp cp,b8 h d.ty c' base' p'=some (bp,cp)->
   ∃ig,b8 h2 d.ty c2 base' p'=some (bp,ig)/\(∀s a,n1=.own s a->¬ (lo<=s/\s<hi)->ig=cp))->
  m.nt lo hi m'/\∀p' t1 n1,jl lo hi p'=true->q8 t m' p'=some (t1,n1)->bq t x p'->bq t x' p'/\∀bp cp,b8 h t c base p'=some (bp,cp)->
   ∃ig,b8 h2 t (if qx p then c else bM c (ew t p) c2) base p'=some (bp,ig)/\(∀s a,n1=.own s a->¬ (lo<=s/\s<hi)->ig=cp)
theorem R7(t:Ty)(x:t.den):qbv t t x=some x:=by simp[qbv]
theorem zip{h:Array Obj}{Pr:BS}:∀(p:Path)(t:Ty)(m:Mk)(x:t.den)(c:List Value)(F:BS)(base:fy)(d:Dy),
  aq h Pr t m x c F->focus t m x p=some d->bq t x p->yx h base c F->
  ∃base' c' F' Fr,Zip h Pr p t m x c F base d base' c' F' Fr
 | [],t,m,x,c,F,base,d,r,hf,_,hb=>by
  simp only[focus,aI]at hf;subst hf;refine⟨base,c,F,Nil,by cases t<;>rfl,r,hb,Sub.refl _,Sub.nil _,fun _ _ h=>h.elim,fun b o e=>.inr ⟨o,e⟩,by simp[qx],?_,?_,?_⟩
  .intro _;refine⟨by cases base<;>simp[ew],?_,?_⟩
   .simp[ew,<-aq.width t r]
   .simp[ew,aq.width t r]
  .intro h2 f_ m2 y c2 F2 m' x' hp _ _ _ r2 _ hput;have e0:ew t []=0:=by cases t<;>rfl
   simp only[put,R7,dn,aI,a_]at hput;obtain⟨rfl,rfl⟩:=hput;refine⟨F2,Nil,fun b hb=>.inr hb,Sub.nil _,fun _ _ h=>h.elim,?_⟩;simp only[qx,e7,dX,e0];rw[Au (by rw[aq.width t r2,aq.width t r])];exact aq.mono (fun b hb=>.inl hb) (fun _ _=>rfl) t r2 (Sub.refl _) (fun _ _=>rfl)
  .intro lo hi h2 m2 y c2 m' x' _ _ hc hput vw hbase;have e0:ew t []=0:=by cases t<;>rfl
   simp only[put,R7,dn,aI,a_]at hput;obtain⟨rfl,rfl⟩:=hput;refine⟨vw,?_⟩;simp only[qx,e7,dX,e0];rw[Au (by rw[hc,aq.width t r])];exact hbase
 | .fst::p,t,m,x,c,F,base,d,r,hf,hr,hb=>by
  cases t with
  | pair a b=>
   simp only[focus]at hf;simp only[bq]at hr;simp only[aq]at r;obtain⟨ca,cb,Fa,Fb,rfl,ra,rb,sa,sb,dd⟩:=r;have wa:=aq.width a ra;have hba:yx h base ca Fa:=by intro b' o e;obtain⟨h1,cs,h2,h3,h4⟩:=hb b' o e;exact⟨fun hz=>h1 (sa _ hz),cs,h2,by simp at h3;omega,(LJ h4).1⟩
   obtain⟨base',c',F',Fr,z⟩:=zip p a m.fst x.1 ca Fa base d ra hf hr hba;refine⟨base',c',F',Un Fr Fb,?_,z.rep,z.ok,z.sub.trans sa,?_,?_,?_,?_,?_,?_,?_⟩
   .simp only[b8];rw[<-wa,iX rfl];exact z.at_
   .rintro y (hy | hy)
    .exact sa y (z.fr y hy)
    .exact sb y hy
   .rintro y hy (hz | hz)
    .exact z.dG y hy hz
    .exact dd y (z.sub y hy) hz
   .intro b' o e;exact(z.home b' o e).imp .inl id
   .intro e;obtain⟨b',o,e1,e2⟩:=z.idx (by simpa [qx] using e);exact⟨b',o,e1,.inl e2⟩
   .intro e;obtain⟨e1,e2,e3⟩:=z.plain (by simpa [qx] using e);refine⟨by simpa [ew] using e1,?_,by simp[ew];omega⟩;rw[e2];simp only[ew];rw[AH (by omega),nv (by simp;omega)]
   .intro h2 f_ m2 y c2 F2 m' x' hp hpk hk hu r2 hd hput;simp only[put]at hput;cases hq:put a m.fst x.1 p d.ty m2 y with
    | none=>simp[hq]at hput
    | some q=>
     simp only[hq,dn,aI,a_]at hput;obtain⟨rfl,rfl⟩:=hput;obtain⟨F3,D3,s3,sd,d3,r3⟩:=z.vf h2 f_ m2 y c2 F2 q.1 q.2 hp hpk (fun b' hb' hn=>hk b' (.inl hb') hn) hu r2 (hd.mono (Sub.refl _) fun b hb=>.inl hb) hq;refine⟨Un F3 Fb,D3,?_,?_,?_,?_⟩
     .rintro b' (hz | hz)
      .rcases s3 b' hz with hz | hz
       .exact .inl (.inl hz)
       .exact .inr hz
      .exact .inl (.inr hz)
     .intro b' hz;rcases sd b' hz with hz | hz
      .exact .inl (.inl hz)
      .exact .inr hz
     .rintro b' (hz | hz) hy
      .exact d3 b' hz hy
      .rcases sd b' hy with hy | hy
       .exact dd b' (z.fr b' hy) hz
       .exact hd b' hy (.inr hz)
     .have Ve:∀b',Fb b'->h2[b']? = h[b']?:=by
       intro b' hb';refine hk b' (.inr hb') fun o e=>?_;rcases z.home b' o e with h1 | ⟨o0,h1⟩
       .exact dd b' (z.fr b' h1) hb'
       .exact(hb b' o0 h1).1 (sb b' hb')
      have rb':=aq.mono (fD:=Un f_ D3) (fun b' hz=>.inl (hp b' hz)) hpk b rb (Sub.refl _) Ve;have gS:c2.length=d.ty.width:=aq.width d.ty r2;simp only[aq];refine⟨if qx p then ca else bM ca (ew a p) c2,cb,F3,Fb,?_,r3,rb',fun _ h=>.inl h,fun _ h=>.inr h,?_⟩
      .simp only[qx];by_cases hi:qx p=true
       .simp[hi]
       .have hi':qx p=false:=by simpa using hi
        have:=(z.plain hi').2.2;simp only[hi',e7,dX,ew];rw[Yp (by omega)]
      .intro b' hz hy;rcases s3 b' hz with hz | hz
       .exact dd b' (z.fr b' hz) hy
       .exact hd b' hz (.inr hy)
   .intro lo hi h2 m2 y c2 m' x' hk hu hc hput vw hbase;simp only[put]at hput;cases hq:put a m.fst x.1 p d.ty m2 y with
    | none=>rw[hq]at hput;simp at hput
    | some rr=>
     rw[hq]at hput;simp only[dn,aI,a_]at hput;obtain⟨rfl,rfl⟩:=hput;obtain⟨uf,gZ⟩:=z.paths lo hi h2 m2 y c2 rr.1 rr.2 (fun b' hb' hn=>hk b' (.inl hb') hn) hu hc hq vw hbase;have hnew:(if qx (.fst::p) then ca++cb else bM (ca++cb) (ew (.pair a b) (.fst::p)) c2)=(if qx p then ca else bM ca (ew a p) c2)++cb:=by
      simp only[qx,ew];by_cases hi':qx p=true
      .simp[hi']
      .have mR:qx p=false:=by simpa using hi'
       have:=(z.plain mR).2.2;simp only[mR,e7,dX];rw[Yp (by omega)]
     have hlen:(if qx p then ca else bM ca (ew a p) c2).length=a.width:=by
      by_cases hi':qx p=true
      .simp[hi',wa]
      .have mR:qx p=false:=by simpa using hi'
       have:=(z.plain mR).2.2;simp only[mR,e7,dX];rw[yj (by omega),wa]
     refine⟨⟨uf,Mk.eZ _ _ _⟩,?_⟩;rw[hnew];intro p' t1 n1 hp mQ hin;cases p' with
     | nil=>refine⟨trivial,fun bp cp hap=>?_⟩;simp only[b8,aI,a_]at hap⊢;simp only[q8,aI,a_]at mQ;refine⟨_,⟨hap.1,rfl⟩,fun s a' e _=>?_⟩;rw[<-mQ.2]at e;simp at e
     | cons p0 p'=>
      cases p0 with
      | fst=>simp only[q8]at mQ;simp only[bq]at hin⊢;obtain⟨h1,h3⟩:=gZ p' t1 n1 (by simpa [jl] using hp) mQ hin;refine⟨h1,fun bp cp hap=>?_⟩;simp only[b8]at hap⊢;rw[<-wa,iX rfl]at hap;rw[<-hlen,iX rfl];exact h3 bp cp hap
      | snd=>
       simp only[q8]at mQ;simp only[bq]at hin⊢;refine⟨hin,fun bp cp hap=>?_⟩;simp only[b8]at hap⊢;rw[<-wa,iL rfl]at hap;rw[<-hlen,iL rfl,hlen];obtain⟨y',hy'⟩:=zi p' x.2 mQ;have wB:=Hy (h':=h2) p' (base.map fun z=>(z.1,z.2+a.width)) rb hy' hin (fun b' hb'=>by
        refine hk b' (.inr hb') fun o e=>?_;rcases z.home b' o e with h1 | ⟨o0,h1⟩
        .exact dd b' (z.fr b' h1) hb'
        .exact(hb b' o0 h1).1 (sb b' hb'))
       rw[wB];rw[wa]at hap;exact⟨cp,hap,fun _ _ _ _=>rfl⟩
      | idx i s=>simp[q8]at mQ
  | _=>simp[focus]at hf
 | .snd::p,t,m,x,c,F,base,d,r,hf,hr,hb=>by
  cases t with
  | pair a b=>
   simp only[focus]at hf;simp only[bq]at hr;simp only[aq]at r;obtain⟨ca,cb,Fa,Fb,rfl,ra,rb,sa,sb,dd⟩:=r;have wa:=aq.width a ra;have hbb:yx h (base.map fun z=>(z.1,z.2+a.width)) cb Fb:=by intro b' o e;simp only[fj]at e;obtain⟨⟨b0,o0⟩,e,e'⟩:=e;simp only[a_]at e';obtain⟨rfl,rfl⟩:=e';obtain⟨h1,cs,h2,h3,h4⟩:=hb b0 o0 e;exact⟨fun hz=>h1 (sb _ hz),cs,h2,by simp at h3;omega,by rw[<-wa];exact(LJ h4).2⟩
   obtain⟨base',c',F',Fr,z⟩:=zip p b m.snd x.2 cb Fb _ d rb hf hr hbb;refine⟨base',c',F',Un Fr Fa,?_,z.rep,z.ok,z.sub.trans sb,?_,?_,?_,?_,?_,?_,?_⟩
   .simp only[b8];rw[<-wa,iL rfl,wa];exact z.at_
   .rintro y (hy | hy)
    .exact sb y (z.fr y hy)
    .exact sa y hy
   .rintro y hy (hz | hz)
    .exact z.dG y hy hz
    .exact dd y hz (z.sub y hy)
   .intro b' o e;rcases z.home b' o e with h1 | ⟨o0,h1⟩
    .exact .inl (.inl h1)
    .simp only[fj]at h1;obtain⟨⟨b0,o1⟩,h1,h2⟩:=h1;simp only[a_]at h2;exact .inr ⟨o1,by rw[h1,<-h2.1]⟩
   .intro e;obtain⟨b',o,e1,e2⟩:=z.idx (by simpa [qx] using e);exact⟨b',o,e1,.inl e2⟩
   .intro e;obtain⟨e1,e2,e3⟩:=z.plain (by simpa [qx] using e);refine⟨?_,?_,by simp[ew];omega⟩
    .rw[e1];cases base<;>simp[ew,Gr]
    .rw[e2];simp only[ew];rw[show List.drop (a.width+ew b p) (ca++cb)=List.drop (ew b p) cb from by rw[<-oS,<-wa,iL rfl]]
   .intro h2 f_ m2 y c2 F2 m' x' hp hpk hk hu r2 hd hput;simp only[put]at hput;cases hq:put b m.snd x.2 p d.ty m2 y with
    | none=>simp[hq]at hput
    | some q=>
     simp only[hq,dn,aI,a_]at hput;obtain⟨rfl,rfl⟩:=hput;obtain⟨F3,D3,s3,sd,d3,r3⟩:=z.vf h2 f_ m2 y c2 F2 q.1 q.2 hp hpk (fun b' hb' hn=>hk b' (.inl hb') hn) hu r2 (hd.mono (Sub.refl _) fun b hb=>.inl hb) hq;refine⟨Un F3 Fa,D3,?_,?_,?_,?_⟩
     .rintro b' (hz | hz)
      .rcases s3 b' hz with hz | hz
       .exact .inl (.inl hz)
       .exact .inr hz
      .exact .inl (.inr hz)
     .intro b' hz;rcases sd b' hz with hz | hz
      .exact .inl (.inl hz)
      .exact .inr hz
     .rintro b' (hz | hz) hy
      .exact d3 b' hz hy
      .rcases sd b' hy with hy | hy
       .exact dd b' hz (z.fr b' hy)
       .exact hd b' hy (.inr hz)
     .have hfa:∀b',Fa b'->h2[b']? = h[b']?:=by
       intro b' hb';refine hk b' (.inr hb') fun o e=>?_;rcases z.home b' o e with h1 | ⟨o0,h1⟩
       .exact dd b' hb' (z.fr b' h1)
       .simp only[fj]at h1;obtain⟨⟨b0,o1⟩,h1,h2⟩:=h1;simp only[a_]at h2;obtain⟨rfl,_⟩:=h2;exact(hb b0 o1 h1).1 (sa b0 hb')
      have ra':=aq.mono (fD:=Un f_ D3) (fun b' hz=>.inl (hp b' hz)) hpk a ra (Sub.refl _) hfa;have gS:c2.length=d.ty.width:=aq.width d.ty r2;simp only[aq];refine⟨ca,if qx p then cb else bM cb (ew b p) c2,Fa,F3,?_,ra',r3,fun _ h=>.inr h,fun _ h=>.inl h,?_⟩
      .simp only[qx];by_cases hi:qx p=true
       .simp[hi]
       .have hi':qx p=false:=by simpa using hi
        simp only[hi',e7,dX,ew];rw[<-wa,XC]
      .intro b' hy hz;rcases s3 b' hz with hz | hz
       .exact dd b' hy (z.fr b' hz)
       .exact hd b' hz (.inr hy)
   .intro lo hi h2 m2 y c2 m' x' hk hu hc hput vw hbase;simp only[put]at hput;cases hq:put b m.snd x.2 p d.ty m2 y with
    | none=>rw[hq]at hput;simp at hput
    | some rr=>
     rw[hq]at hput;simp only[dn,aI,a_]at hput;obtain⟨rfl,rfl⟩:=hput;obtain⟨uf,gZ⟩:=z.paths lo hi h2 m2 y c2 rr.1 rr.2 (fun b' hb' hn=>hk b' (.inl hb') hn) hu hc hq vw hbase;have hnew:(if qx (.snd::p) then ca++cb else bM (ca++cb) (ew (.pair a b) (.snd::p)) c2)=ca++(if qx p then cb else bM cb (ew b p) c2):=by
      simp only[qx,ew];by_cases hi':qx p=true
      .simp[hi']
      .have mR:qx p=false:=by simpa using hi'
       simp only[mR,e7,dX];rw[<-wa,XC]
     refine⟨⟨Mk.eZ _ _ _,uf⟩,?_⟩;rw[hnew];intro p' t1 n1 hp mQ hin;cases p' with
     | nil=>refine⟨trivial,fun bp cp hap=>?_⟩;simp only[b8,aI,a_]at hap⊢;simp only[q8,aI,a_]at mQ;refine⟨_,⟨hap.1,rfl⟩,fun s a' e _=>?_⟩;rw[<-mQ.2]at e;simp at e
     | cons p0 p'=>
      cases p0 with
      | snd=>simp only[q8]at mQ;simp only[bq]at hin⊢;obtain⟨h1,h3⟩:=gZ p' t1 n1 (by simpa [jl] using hp) mQ hin;refine⟨h1,fun bp cp hap=>?_⟩;simp only[b8]at hap⊢;rw[<-wa,iL rfl,wa]at hap;rw[<-wa,iL rfl,wa];exact h3 bp cp hap
      | fst=>
       simp only[q8]at mQ;simp only[bq]at hin⊢;refine⟨hin,fun bp cp hap=>?_⟩;simp only[b8]at hap⊢;rw[<-wa,iX rfl]at hap;rw[<-wa,iX rfl];obtain⟨y',hy'⟩:=zi p' x.1 mQ;have wB:=Hy (h':=h2) p' base ra hy' hin (fun b' hb'=>by
        refine hk b' (.inr hb') fun o e=>?_;rcases z.home b' o e with h1 | ⟨o0,h1⟩
        .exact dd b' hb' (z.fr b' h1)
        .simp only[fj]at h1;obtain⟨⟨b0,o1⟩,h1,h2⟩:=h1;simp only[a_]at h2;obtain⟨rfl,_⟩:=h2;exact(hb b0 o1 h1).1 (sa b0 hb'))
       rw[wB];exact⟨cp,hap,fun _ _ _ _=>rfl⟩
      | idx i s=>simp[q8]at mQ
  | _=>simp[focus]at hf
 | .idx i s'::p,t,m,xs,c,F,base,d,r,hf,hr,hb=>by
  cases t with
  | sl e=>
   cases m with
   | own s mi=>
    simp only[focus]at hf;by_cases hs:s=s'
    .simp only[hs,aX]at hf;simp only[bq]at hr;obtain⟨hi,hr⟩:=hr;simp only[aq]at r;obtain⟨a,cap,rfl,hl,r⟩:=r;rcases r with r | ⟨b1,cs,rfl,fb,bQ,hsz,Fs,hF,kT,re⟩
     .omega
     have ri:=re i hi;have wi:=aq.width e ri;have hle:i * e.width+e.width<=cs.size:=by have:=dz e.width (show i+1<=cap by omega);rw[iE,xz]at this;omega
     have hbi:yx h (some (b1,i * e.width)) (sub cs (i * e.width) e.width) (Fs i):=by intro b' o e';simp only[aI,a_]at e';obtain⟨rfl,rfl⟩:=e';refine⟨(hF i).2,cs,bQ,by rw[wi];exact hle,?_⟩;rw[wi]
     obtain⟨base',c',F',Fr,z⟩:=zip p e mi (xs.getD i e.zero) _ (Fs i) (some (b1,i * e.width)) d ri hf hr hbi;refine⟨base',c',F',fun b=>b=b1\/Fr b\/∃j,j≠i/\Fs j b,?_,z.rep,z.ok,z.sub.trans (hF i).1,?_,?_,?_,?_,by simp[qx],?_,?_⟩
     .simp only[b8];obtain⟨ty,lo,hi',he,_⟩:=bQ;simp only[he];exact z.at_
     .rintro b' (rfl | hz | ⟨j,_,hz⟩)
      .exact fb
      .exact(hF i).1 b' (z.fr b' hz)
      .exact(hF j).1 b' hz
     .rintro b' hy (rfl | hz | ⟨j,hj,hz⟩)
      .exact(hF i).2 (z.sub _ hy)
      .exact z.dG b' hy hz
      .exact kT j i hj b' hz (z.sub b' hy)
     .intro b' o e';rcases z.home b' o e' with h1 | ⟨o0,h1⟩
      .exact .inl (.inr (.inl h1))
      .simp only[aI,a_]at h1;exact .inl (.inl h1.1.symm)
     .intro _;by_cases hp:qx p=true
      .obtain⟨b',o,e1,e2⟩:=z.idx hp;exact⟨b',o,e1,.inr (.inl e2)⟩
      .have Dv:qx p=false:=by simpa using hp
       have:=(z.plain Dv).1;simp only[dV]at this;exact⟨b1,_,this,.inl rfl⟩
     .intro h2 f_ m2 y c2 F2 m' x' hp hpk hk hu r2 hd hput;simp only[put,hs,aX]at hput;cases hq:put e mi (xs.getD i e.zero) p d.ty m2 y with
      | none=>rw[hq]at hput;simp at hput
      | some q=>
       rw[hq]at hput;simp only[dn,aI,a_]at hput;obtain⟨rfl,rfl⟩:=hput;obtain⟨F3,D3,s3,sd,d3,r3⟩:=z.vf h2 f_ m2 y c2 F2 q.1 q.2 hp hpk (fun b' hb' hn=>hk b' (.inr (.inl hb')) hn) hu r2
        (hd.mono (Sub.refl _) fun b hb=>.inr (.inl hb)) hq
       have gS:c2.length=d.ty.width:=aq.width d.ty r2
       -- zu block behind it
       have rN:∃fH:Array Value,iS h2 b1 fH/\fH.size=cs.size/\
         sub fH (i * e.width) e.width=(if qx p then sub cs (i * e.width) e.width else bM (sub cs (i * e.width) e.width) (ew e p) c2)/\
         ∀j,j≠i->sub fH (j * e.width) e.width=sub cs (j * e.width) e.width:=by
        by_cases hi':qx p=true
        .obtain⟨b',o,e1,e2⟩:=z.idx hi';refine⟨cs,bQ.congr (hk b1 (.inl rfl) fun o' e'=>?_),rfl,by simp[hi'],fun _ _=>rfl⟩;rw[e1]at e';simp only[aI,a_]at e';obtain⟨rfl,_⟩:=e';exact(hF i).2 (z.fr _ e2)
        .have mR:qx p=false:=by simpa using hi'
         obtain⟨e1,e2,e3⟩:=z.plain mR;rw[wi]at e3;simp only[dV]at e1;obtain⟨fH,oJ,ht⟩:=hu b1 _ e1 cs bQ;have hfit:i * e.width+ew e p+c2.length<=cs.toList.length:=by simp;omega
         refine⟨fH,oJ,?_,?_,fun j hj=>?_⟩
         .have:=eM List.length ht;rw[yj hfit]at this;simpa using this
         .simp only[mR,e7,dX];simp only[sub];rw[ht];apply o4;intro k;simp only[bM,fk,f8];by_cases hk':k<e.width
          .simp only[hk',aX];by_cases JA:k<ew e p
           .rw[eu,jd (by simp;omega),eu,jd (by simp;omega)];simp only[fk,f8];rw[aj (by omega),aj (by omega),aj (by omega)]
           .by_cases hk2:k<ew e p+c2.length
            .rw[eu,jT (by simp;omega),jd (by simp;omega),eu,
              jT (by simp;omega),jd (by simp;omega)]
             congr 1;simp;omega
            .rw[jT (by simp;omega),jT (by simp;omega)];simp only[f8,fk];simp only[cw,cY,mz];rw[aj (by omega)];have e5:cs.toList.length=cs.size:=by simp
             congr 1;omega
          .simp only[hk',dX];rw[n5 (by simp;omega)]
         .simp only[sub];rw[ht];apply Fj hfit;rcases Nat.lt_or_gt_of_ne hj with h1 | h1
          .left;have:=dz e.width (show j+1<=i by omega);rw[iE,xz]at this;omega
          .right;have:=dz e.width (show i+1<=j by omega);rw[iE,xz]at this;omega
       obtain⟨fH,oJ,nL,hsi,hsj⟩:=rN;have hmb:=Mk.fm mi q.1
       -- zu others
       have VJ:∀j,j≠i->∀b',Fs j b'->h2[b']? = h[b']?:=by
        intro j hj b' hb';refine hk b' (.inr (.inr ⟨j,hj,hb'⟩)) fun o e'=>?_;rcases z.home b' o e' with h1 | ⟨o0,h1⟩
        .exact kT j i hj b' hb' (z.fr b' h1)
        .simp only[aI,a_]at h1;obtain⟨rfl,_⟩:=h1;exact(hF j).2 hb'
       have key:∀j,∃G1 G2:BS,Sub G1 (if j=i then F3 else Fs j)/\Sub G2 (if j=i then F3 else Fs j)/\cq G1 G2/\
         (j<xs.length->aq h2 (Un (Un f_ D3) G2) e (mi.meet q.1) ((xs.set i q.2).getD j e.zero) (sub fH (j * e.width) e.width) G1):=by
        intro j;by_cases hj:j=i
        .subst hj;obtain⟨G1,G2,s1,s2,dd,rr⟩:=aq.aQ e hmb.2 r3;refine⟨G1,G2,by simpa using s1,by simpa using s2,dd,fun _=>?_⟩;rw[hsi];have:(xs.set j q.2).getD j e.zero=q.2:=by simp[List.getD,jv,hi]
         rw[this];exact rr
        .by_cases hjl:j<xs.length
         .have rj:=aq.mono (fD:=Un f_ D3) (fun b' hz=>.inl (hp b' hz)) hpk e (re j hjl) (Sub.refl _) (VJ j hj);obtain⟨G1,G2,s1,s2,dd,rr⟩:=aq.aQ e hmb.1 rj;refine⟨G1,G2,by simpa [hj] using s1,by simpa [hj] using s2,dd,fun _=>?_⟩;rw[hsj j hj];have:(xs.set i q.2).getD j e.zero=xs.getD j e.zero:=by simp[List.getD,jv,Ne.symm hj]
          rw[this];exact rr
         .exact⟨Nil,Nil,Sub.nil _,Sub.nil _,cq.nil _,fun h=>absurd h hjl⟩
       obtain⟨G1,key⟩:=sH key;obtain⟨G2,key⟩:=sH key;have hG:∀j b',(if j=i then F3 else Fs j) b'->(j=i/\(Fr b'\/F2 b'))\/(j≠i/\Fs j b'):=by
        intro j b' hb';by_cases hj:j=i
        .simp only[hj,aX]at hb';exact .inl ⟨hj,s3 b' hb'⟩
        .simp only[hj,dX]at hb';exact .inr ⟨hj,hb'⟩
       have Cb:∀j k b',j≠k->(if j=i then F3 else Fs j) b'->(if k=i then F3 else Fs k) b'->False:=by
        intro j k b' ot h1 vk;rcases hG j b' h1 with⟨e1,h1⟩ | ⟨e1,h1⟩<;>rcases hG k b' vk with⟨e2,h3⟩ | ⟨e2,h3⟩
        .exact ot (e1.trans e2.symm)
        .rcases h1 with h1 | h1
         .exact kT k i e2 b' h3 (z.fr b' h1)
         .exact hd b' h1 (.inr (.inr ⟨k,e2,h3⟩))
        .rcases h3 with h3 | h3
         .exact kT j i e1 b' h1 (z.fr b' h3)
         .exact hd b' h3 (.inr (.inr ⟨j,e1,h1⟩))
        .exact kT j k ot b' h1 h3
       have Jl:∀j,¬ (if j=i then F3 else Fs j) b1:=by
        intro j h1;rcases hG j b1 h1 with⟨e1,h1 | h1⟩ | ⟨e1,h1⟩
        .exact(hF i).2 (z.fr b1 h1)
        .exact hd b1 h1 (.inl rfl)
        .exact(hF j).2 h1
       refine⟨fun b=>b=b1\/∃j,G1 j b,fun b=>D3 b\/∃j,G2 j b,?_,?_,?_,?_⟩
       .rintro b' (rfl | ⟨j,hj⟩)
        .exact .inl (.inl rfl)
        .rcases hG j b' ((key j).1 b' hj) with⟨_,h1 | h1⟩ | ⟨e1,h1⟩
         .exact .inl (.inr (.inl h1))
         .exact .inr h1
         .exact .inl (.inr (.inr ⟨j,e1,h1⟩))
       .rintro b' (hz | ⟨j,hj⟩)
        .rcases sd b' hz with h1 | h1
         .exact .inl (.inr (.inl h1))
         .exact .inr h1
        .rcases hG j b' ((key j).2.1 b' hj) with⟨_,h1 | h1⟩ | ⟨e1,h1⟩
         .exact .inl (.inr (.inl h1))
         .exact .inr h1
         .exact .inl (.inr (.inr ⟨j,e1,h1⟩))
       .rintro b' (rfl | ⟨j,hj⟩) (hz | ⟨k,hk'⟩)
        .rcases sd _ hz with h1 | h1
         .exact(hF i).2 (z.fr _ h1)
         .exact hd _ h1 (.inl rfl)
        .exact Jl k ((key k).2.1 _ hk')
        .have h1:=(key j).1 b' hj;by_cases e1:j=i
         .simp only[e1,aX]at h1;exact d3 b' h1 hz
         .simp only[e1,dX]at h1;rcases sd b' hz with vk | vk
          .exact kT j i e1 b' h1 (z.fr b' vk)
          .exact hd b' vk (.inr (.inr ⟨j,e1,h1⟩))
        .by_cases e1:j=k
         .subst e1;exact(key j).2.2.1 b' hj hk'
         .exact Cb j k b' e1 ((key j).1 b' hj) ((key k).2.1 b' hk')
       .simp only[qx,aX,aq];refine⟨_,cap,by simp,by simpa using hl,.inr ⟨b1,fH,rfl,.inl rfl,oJ,by omega,G1,fun j=>⟨fun b' hb'=>.inr ⟨j,hb'⟩,fun h1=>Jl j ((key j).1 b1 h1)⟩,
         fun j k ot b' h1 vk=>Cb j k b' ot ((key j).1 b' h1) ((key k).1 b' vk),fun j hj=>?_⟩⟩
        have hj':j<xs.length:=by simpa using hj
        refine aq.mono (fun b' hb'=>?_) (fun _ _=>rfl) e ((key j).2.2.2 hj') (Sub.refl _) (fun _ _=>rfl);rcases hb' with(hb' | hb') | hb'
        .exact .inl hb'
        .exact .inr (.inl hb')
        .exact .inr (.inr ⟨j,hb'⟩)
     .intro lo hi h2 m2 y c2 m' x' hk hu hc hput vw hbase;subst hs;simp only[put,aX]at hput;cases hq:put e mi (xs.getD i e.zero) p d.ty m2 y with
      | none=>rw[hq]at hput;simp at hput
      | some rr=>
       rw[hq]at hput;simp only[dn,aI,a_]at hput;obtain⟨rfl,rfl⟩:=hput;obtain⟨uf,gZ⟩:=z.paths lo hi h2 m2 y c2 rr.1 rr.2 (fun b' hb' hn=>hk b' (.inr (.inl hb')) hn) hu hc hq vw hbase;simp only[qx,aX];have rN:∃fH:Array Value,sJ h2 b1 fH/\
         sub fH (i * e.width) e.width=(if qx p then sub cs (i * e.width) e.width else bM (sub cs (i * e.width) e.width) (ew e p) c2)/\
         ∀j,j≠i->sub fH (j * e.width) e.width=sub cs (j * e.width) e.width:=by
        by_cases hi2:qx p=true
        .obtain⟨b',o,e1,e2⟩:=z.idx hi2;refine⟨cs,bQ.zA.congr (hk b1 (.inl rfl) fun o' e'=>?_),by simp[hi2],fun _ _=>rfl⟩;rw[e1]at e';simp only[aI,a_]at e';obtain⟨rfl,_⟩:=e';exact(hF i).2 (z.fr _ e2)
        .have hi3:qx p=false:=by simpa using hi2
         obtain⟨e1,e2,e3⟩:=z.plain hi3;rw[wi]at e3;simp only[dV]at e1;obtain⟨fH,oJ,ht⟩:=hu b1 _ e1 cs bQ;have HW:=aae (n:=0) ht (by simpa using hle) (by omega);exact⟨fH,oJ.zA,by simp only[hi3,e7,dX,sub];exact HW.1,fun j hj=>by simp only[sub];exact HW.2 j hj⟩
       obtain⟨fH,⟨ty2,Ss,oJ⟩,hsi,hsj⟩:=rN;refine⟨.inr ⟨mi,rfl,Mk.gH uf⟩,?_⟩;intro p' t1 n1 hp mQ hin;cases p' with
       | nil=>refine⟨trivial,fun bp cp hap=>?_⟩;simp only[b8,aI,a_]at hap⊢;exact⟨_,⟨hap.1,rfl⟩,fun _ _ _ _=>hap.2⟩
       | cons p0 p'=>
        cases p0 with
        | fst=>simp[q8]at mQ
        | snd=>simp[q8]at mQ
        | idx j s1=>
         simp only[q8]at mQ;split at mQ
         .rename_i sZ;subst sZ;simp only[jl,bC]at hp;simp only[bq]at hin⊢;obtain⟨hj,hin⟩:=hin;have eg:∀(bp:fy)(cp:List Value),b8 h (.sl e) [.slice (some ⟨b1,0,none⟩) xs.length cap] base (.idx j s::p')=some (bp,cp)->
            b8 h e (sub cs (j * e.width) e.width) (some (b1,j * e.width)) p'=some (bp,cp):=by
           intro bp cp hap;simp only[b8]at hap;obtain⟨ty,lo',mR,he,_⟩:=bQ;simp only[he]at hap;exact hap
          have Jk:∀(bp:fy)(cp:List Value),b8 h2 e (sub fH (j * e.width) e.width) (some (b1,j * e.width)) p'=some (bp,cp)->
            b8 h2 (.sl e) [.slice (some ⟨b1,0,none⟩) xs.length cap] base (.idx j s::p')=some (bp,cp):=by
           intro bp cp hap;simp only[b8,oJ];exact hap
          by_cases hji:j=i
          .subst hji;have hx':(xs.set j rr.2).getD j e.zero=rr.2:=by simp[List.getD,jv,hj]
           have V2:rr.1.nt 0 0 (mi.meet rr.1):=Mk.gH (Mk.eZ 0 0 rr.1);obtain⟨n2,tY,hn2⟩:=BC p' V2 (BB p') mQ;obtain⟨h1,h3⟩:=gZ p' t1 n2 hp.2 tY hin;refine⟨⟨by simpa using hj,by rw[hx'];exact h1⟩,fun bp cp hap=>?_⟩;obtain⟨ig,h4,h5⟩:=h3 bp cp (eg bp cp hap);rw[<-hsi]at h4;refine⟨ig,Jk _ _ h4,fun s2 a2 e2 lZ=>?_⟩;subst e2;rcases hn2 with hn2 | ⟨a3,rfl,_⟩
           .omega
           .exact h5 s2 a3 rfl lZ
          .have hx':(xs.set i rr.2).getD j e.zero=xs.getD j e.zero:=by simp[List.getD,jv,Ne.symm hji]
           refine⟨⟨by simpa using hj,by rw[hx'];exact hin⟩,fun bp cp hap=>?_⟩;obtain⟨n2,tY,hn2⟩:=BC p' (Mk.gH (a:=mi) uf) hp.2 mQ;obtain⟨y',hy'⟩:=zi p' (xs.getD j e.zero) tY;have wB:=Hy (h':=h2) p' (some (b1,j * e.width)) (re j hj) hy' hin (fun b' hb'=>by
            refine hk b' (.inr (.inr ⟨j,hji,hb'⟩)) fun o e'=>?_;rcases z.home b' o e' with h1 | ⟨o0,h1⟩
            .exact kT j i hji b' hb' (z.fr b' h1)
            .simp only[aI,a_]at h1;obtain⟨rfl,_⟩:=h1;exact(hF j).2 hb')
           refine⟨cp,Jk _ _ ?_,fun _ _ _ _=>rfl⟩;rw[hsj j hji,wB];exact eg bp cp hap
         .simp at mQ
    .simp[hs]at hf
   | _=>simp[focus]at hf
  | _=>simp[focus]at hf
end
theorem AV.d6{h h':Array Obj}{S S':St}{g g':ay}(hA:∀r p,tG h h' S S' g g' r p)(hB:∀r p s,qF h h' S S' g g' r p s) :
  ∀a:AV,a.dh h h' S S' g g':=by
 intro a
 induction a with
 | b5 r p s=>exact hB r p s
 | view r p s lo hi=>exact hB r p s
 | addr r p=>exact hA r p
 | pair a b fP ki=>exact⟨fP,ki⟩
 | jn a fP=>exact fP
 | gz f a fP=>exact fP
 | _=>trivial
theorem AV.w8{lo hi:Nat}{h h':Array Obj}{S S':St}{g g':ay}(hA:∀r p,jl lo hi p=true->tG h h' S S' g g' r p)
  (hB:∀r p s,jl lo hi p=true->¬ (lo<=s/\s<hi)->qF h h' S S' g g' r p s):∀a:AV,a.aR lo hi=true->a.dh h h' S S' g g':=by
 have hs:∀s,(!(Nat.ble lo s&&Nat.blt s hi))=true->¬ (lo<=s/\s<hi):=by intro s h1 h2;have e1:Nat.ble lo s=true:=oY h2.1;have e2:Nat.blt s hi=true:=oY h2.2;simp[e1,e2]at h1
 intro a
 induction a with
 | b5 r p s=>intro h1;simp only[AV.aR,bC]at h1;exact hB r p s h1.2 (hs s h1.1)
 | view r p s lo hi=>intro h1;simp only[AV.aR,bC]at h1;exact hB r p s h1.2 (hs s h1.1)
 | addr r p=>intro h1;exact hA r p h1
 | pair a b fP ki=>intro h1;simp only[AV.aR,bC]at h1;exact⟨fP h1.1,ki h1.2⟩
 | jn a fP=>intro h1;exact fP h1
 | gz f a fP=>intro h1;exact fP h1
 | _=>intro _;trivial
theorem nC{h h':Array Obj}{S S':St}{g g':ay}{tmps:Array Value}{H:BS}(st:az h S g tmps H){r:Nat}
  (hr:S'.root r=S.root r\/S'.root r=none) (hC:g'.C r=g.C r) (hB:g'.B r=g.B r) (hk:(S.root r).isSome->∀b,g.G r b->h'[b]? = h[b]?) :
  (∀p,tG h h' S S' g g' r p)/\∀p s,qF h h' S S' g g' r p s:=by
 have key:∀p R' d',S'.root r=some R'->focus R'.ty R'.ms R'.x p=some d'->S.root r=some R'/\(bq R'.ty R'.x p->
   ∀base c,b8 h R'.ty (g.C r) (g.base r) p=some (base,c)->b8 h' R'.ty (g'.C r) (g'.base r) p=some (base,c)):=by
  intro p R' d' cg hf;have hR:S.root r=some R':=by
   rcases hr with e | e
   .rw[<-e];exact cg
   .rw[e]at cg;simp at cg
  refine⟨hR,fun hin base c ha=>?_⟩;obtain⟨F,rep,hF,_⟩:=st.roots r R' hR;have hb:g'.base r=g.base r:=by simp only[ay.base,hB]
  rw[hC,hb,Hy p _ rep hf hin fun b hb=>hk (by rw[hR];rfl) b (hF b hb)];exact ha
 constructor
 .intro p R' cg d' hf;obtain⟨h1,h2⟩:=key p R' d' cg hf;exact⟨R',d',h1,hf,fun hin=>⟨hin,fun base c ha=>⟨c,h2 hin base c ha⟩⟩⟩
 .intro p s R' cg t m xs hf;obtain⟨h1,h2⟩:=key p R' _ cg hf;exact⟨R',m,xs,h1,hf,fun hin=>⟨hin,fun base c ha=>h2 hin base c ha⟩⟩
theorem St.gn(S:St)(t:Nat)(v:AV)(u:Nat):(S.set t v).get u=if u=t/\t<S.sl.length then v else S.get u:=by
 simp only[St.get_eq,St.gb,List.getD,jv];by_cases e:t=u
 .subst e;by_cases hl:t<S.sl.length
  .simp[hl]
  .simp[hl]
 .have:¬ u=t:=fun h=>e h.symm;simp[e,this]
theorem St.ng(S:St)(t:Nat)(v:AV)(r:Nat):(S.set t v).root r=S.root r:=rfl
theorem St.bY(S:St)(d:Nat)(x:Option aB)(r:Nat):(S.aD d x).root r=if r=d/\d<S.rt.length then x else S.root r:=by
 simp only[aO.g8,St.aD,aO.bU,List.getD,jv];by_cases e:d=r
 .subst e;by_cases hl:d<S.rt.length
  .simp[hl]
  .simp[hl]
 .have:¬ r=d:=fun h=>e h.symm;simp[e,this]
theorem St.gY(S:St)(d:Nat)(x:Option aB)(t:Nat):(S.aD d x).get t=S.get t:=rfl
theorem St.oT{S:St}{r:Nat}{R:aB}(h:S.root r=some R):r<S.rt.length:=by
 simp only[aO.g8,List.getD]at h;rcases Ah r S.rt.length with h1 | h1
 .exact h1
 .rw[n5 h1]at h;simp at h
theorem qe.gy{h:Array Obj}{S S':St}{g:ay}{tmps:Array Value}{H:BS}(st:az h S g tmps H)(e:S'.rt=S.rt){a:AV}{v:Value}
  (x:qe h S g a v):qe h S' g a v:=by
 have hr:∀r,S'.root r=S.root r:=fun r=>by simp only[St.root,e]
 refine(qe.keep (Sub.refl _) (fun _ _=>rfl) a).1 v x (AV.d6 (fun r p=>?_) (fun r p s=>?_) a)
 .exact(nC st (.inl (hr r)) rfl rfl (fun _ _ _=>rfl)).1 p
 .exact(nC st (.inl (hr r)) rfl rfl (fun _ _ _=>rfl)).2 p s
theorem az.tJ{h:Array Obj}{S:St}{g:ay}{tmps:Array Value}{H:BS}(st:az h S g tmps H)(t:Nat){a:AV}{v:Value}(x:qe h S g a v) :
  az h (S.set t a) g (tmps.setIfInBounds t v) H where
 len:=by simp[St.gb,st.len]
 gq:=by simp[St.gb,st.gq]
 slots:=by
  intro u;rw[St.gn];have hs:(S.set t a).rt=S.rt:=rfl;by_cases hu:u=t/\t<S.sl.length
  .obtain⟨rfl,hl⟩:=hu;rw[aj ⟨rfl,hl⟩];have:(tmps.setIfInBounds u v).getD u Go.undef=v:=by have:=st.len;simp[Array.getD,Array.getElem_setIfInBounds];omega
   rw[this];exact qe.gy st hs x
  .rw[af hu];have:(tmps.setIfInBounds t v).getD u Go.undef=tmps.getD u Go.undef:=by
    have hlen:=st.len;simp only[oX,GX];by_cases e:t=u
    .subst e;have hl:¬ t<tmps.size:=fun hl=>hu ⟨rfl,by omega⟩;rw[aj rfl,af hl,Ew (by omega)]
    .rw[af e]
   rw[this];exact qe.gy st hs (st.slots u)
 roots:=fun r R hR=>st.roots r R hR
 dG:=fun r r' hn h1 h2=>st.dG r r' hn h1 h2
 dK:=fun r h1=>st.dK r h1
 hand:=fun r h1=>st.hand r h1
 bI:=st.bI
 bP:=st.bP
 b6:=fun r b h1 h2=>st.b6 r b h1 h2
 d_:=st.d_
 tag:=st.tag
 own:=st.own
 eY:=st.eY
 fS:=st.fS
 p0:=st.p0
 jY:=st.jY
theorem az.forget{h:Array Obj}{S:St}{g:ay}{tmps:Array Value}{H:BS}(st:az h S g tmps H)(t:Nat):az h (S.set t .undef) g tmps H where
 len:=by simp[St.gb,st.len]
 gq:=by simp[St.gb,st.gq]
 slots:=by
  intro u;rw[St.gn];by_cases hu:u=t/\t<S.sl.length
  .rw[aj hu];simp only[qe]
  .rw[af hu];exact qe.gy (S':=S.set t .undef) st rfl (st.slots u)
 roots:=fun r R hR=>st.roots r R hR
 dG:=fun r r' hn h1 h2=>st.dG r r' hn h1 h2
 dK:=fun r h1=>st.dK r h1
 hand:=fun r h1=>st.hand r h1
 bI:=st.bI
 bP:=st.bP
 b6:=fun r b h1 h2=>st.b6 r b h1 h2
 d_:=st.d_
 tag:=st.tag
 own:=st.own
 eY:=st.eY
 fS:=st.fS
 p0:=st.p0
 jY:=st.jY
theorem Mk.fq{m:Mk}(h:m.ak=true):m.fst.ak=true:=by cases m<;>simp_all [Mk.ak,Mk.fst]
theorem Mk.fu{m:Mk}(h:m.ak=true):m.snd.ak=true:=by cases m<;>simp_all [Mk.ak,Mk.snd]
theorem Mk.gD:∀m:Mk,m.fh.ak=true
 | .no=>rfl
 | .gone=>rfl
 | .own _ m=>by unfold Mk.fh;split<;>rfl
 | .pr a b=>by simp[Mk.fh,Mk.ak,Mk.gD a,Mk.gD b]
theorem Mk.gC:∀m:Mk,(m.meet .no).ak=true
 | .no=>by simp[Mk.meet,Mk.fh,Mk.ak]
 | .gone=>rfl
 | .own _ m=>by simp only[Mk.meet];split<;>rfl
 | .pr a b=>by simp[Mk.meet,Mk.ak,Mk.gC a,Mk.gC b]
theorem Mk.dU:∀{a b:Mk},b.ak=true->(a.meet b).ak=true
 | .no,b,_=>by simpa [Mk.meet] using Mk.gD b
 | .gone,_,_=>rfl
 | .own _ a,b,h=>by
  cases b with
  | no=>simp only[Mk.meet];split<;>rfl
  | gone=>rfl
  | pr _ _=>rfl
  | own s b=>simp only[Mk.meet,Mk.ak,bC]at h⊢;exact⟨h.1,Mk.dU h.2⟩
 | .pr a1 a2,b,h=>by
  cases b with
  | no=>simp[Mk.meet,Mk.ak,Mk.gC]
  | gone=>rfl
  | own _ _=>rfl
  | pr c d=>simp only[Mk.meet,Mk.ak,bC]at h⊢;exact⟨Mk.dU h.1,Mk.dU h.2⟩
theorem nU{a b:Nat}:Nat.blt a b=true↔a<b:=by
 constructor
 .intro h;exact qQ h
 .intro h;exact oY h
theorem Mk.cK{s:Nat}(hs:s<1048576):∀{m:Mk},m.ak=true->(m.stamp s).ak=true
 | .no,_=>rfl
 | .gone,_=>rfl
 | .own s0 m,h=>by
  simp only[Mk.ak,Mk.stamp,bC,nU]at h⊢;refine⟨?_,Mk.cK hs h.2⟩;rw[aj h.1];exact hs
 | .pr a b,h=>by
  simp only[Mk.ak,Mk.stamp,bC]at h⊢;exact⟨Mk.cK hs h.1,Mk.cK hs h.2⟩
theorem Mk.cZ:∀t:Ty,(Mk.top t).ak=true
 | .unit=>rfl
 | .int _=>rfl
 | .bool=>rfl
 | .str=>rfl
 | .sl t=>by simp[Mk.top,Mk.ak,nU,Mk.cZ t]
 | .pair a b=>by simp[Mk.top,Mk.ak,Mk.cZ a,Mk.cZ b]
theorem Mk.kJ:∀t:Ty,(Mk.sD t).ak=true
 | .unit=>rfl
 | .int _=>rfl
 | .bool=>rfl
 | .str=>rfl
 | .sl t=>Mk.cZ _
 | .pair a b=>by
  cases a<;>simp[Mk.sD,Mk.ak,Mk.cZ,Mk.kJ b]
theorem Mk.qK(hint:Bool)(t:Ty):(Mk.zx hint t).ak=true:=by
 unfold Mk.zx;split
 .exact Mk.kJ t
 .exact Mk.cZ t
theorem Mk.ia:∀{m:Mk},m.still=true->m.ak=true
 | .no,_=>rfl
 | .gone,h=>by simp[Mk.still]at h
 | .own _ _,h=>by simp[Mk.still]at h
 | .pr a b,h=>by
  simp only[Mk.still,bC]at h;simp[Mk.ak,Mk.ia h.1,Mk.ia h.2]
theorem aK.ak{hd:Nat->Value}:∀(t:Ty){m:Mk}{c:List Value},m.ak=true->aK hd t m c
 | .unit,_,_,_=>by simp only[aK]
 | .int _,_,_,_=>by simp only[aK]
 | .bool,_,_,_=>by simp only[aK]
 | .str,_,_,_=>by simp only[aK]
 | .pair a b,m,c,h=>by simp only[aK];exact⟨aK.ak a (Mk.fq h),aK.ak b (Mk.fu h)⟩
 | .sl t,m,c,h=>by
  cases m with
  | own s mi=>simp only[Mk.ak,bC,nU]at h;simp only[aK];exact⟨fun h2=>by omega,h.2⟩
  | no=>simp only[aK]
  | gone=>simp only[aK]
  | pr _ _=>simp only[aK]
theorem aK.gone{hd:Nat->Value}(t:Ty)(c:List Value):aK hd t .gone c:=aK.ak t rfl
theorem aK.no{hd:Nat->Value}(t:Ty)(c:List Value):aK hd t .no c:=aK.ak t rfl
theorem aK.stamp{hd:Nat->Value}{s:Nat}(hs:s<1048576):∀(t:Ty){m:Mk}{c:List Value},aK hd t m c->aK hd t (m.stamp s) c
 | .unit,_,_,_=>by simp only[aK]
 | .int _,_,_,_=>by simp only[aK]
 | .bool,_,_,_=>by simp only[aK]
 | .str,_,_,_=>by simp only[aK]
 | .pair a b,m,c,h=>by
  simp only[aK]at h⊢;have h1:(m.stamp s).fst=m.fst.stamp s:=by cases m<;>rfl
  have h2:(m.stamp s).snd=m.snd.stamp s:=by cases m<;>rfl
  rw[h1,h2];exact⟨aK.stamp hs a h.1,aK.stamp hs b h.2⟩
 | .sl t,m,c,h=>by
  cases m with
  | own s0 mi=>
   simp only[Mk.stamp,aK]at h⊢;refine⟨fun h2=>?_,Mk.cK hs h.2⟩;split at h2
   .omega
   .rename_i hn;rw[af hn];exact h.1 h2
  | no=>simp only[Mk.stamp,aK]
  | gone=>simp only[Mk.stamp,aK]
  | pr _ _=>simp only[Mk.stamp,aK]
theorem Uc:∀(p:Path){t:Ty}{m m2 m':Mk},kW t m p m2=some m'->m.ak=true->m2.ak=true->m'.ak=true
 | [],t,m,m2,m',h,_,h2=>by
  have:kW t m [] m2=some m2:=by cases t<;>rfl
  rw[this]at h;simp only[aI]at h;rw[<-h];exact h2
 | .fst::p,t,m,m2,m',h,h1,h2=>by
  cases t with
  | pair a b=>simp only[kW,cJ,aI]at h;obtain⟨r,hr,rfl⟩:=h;simp only[Mk.ak,bC];exact⟨Uc p hr (Mk.fq h1) h2,Mk.fu h1⟩
  | _=>simp[kW]at h
 | .snd::p,t,m,m2,m',h,h1,h2=>by
  cases t with
  | pair a b=>simp only[kW,cJ,aI]at h;obtain⟨r,hr,rfl⟩:=h;simp only[Mk.ak,bC];exact⟨Mk.fq h1,Uc p hr (Mk.fu h1) h2⟩
  | _=>simp[kW]at h
 | .idx i s'::p,t,m,m2,m',h,h1,h2=>by
  cases t with
  | sl e=>
   cases m with
   | own s mi=>
    simp only[kW]at h;split at h
    .simp only[cJ,aI]at h;obtain⟨r,hr,rfl⟩:=h;simp only[Mk.ak,bC]at h1⊢;exact⟨h1.1,Mk.dU (Uc p hr h1.2 h2)⟩
    .simp at h
   | _=>simp[kW]at h
  | _=>simp[kW]at h
theorem aK.oO{hd:Nat->Value}:∀(p:Path){t:Ty}{m m':Mk}{c:List Value},kW t m p .gone=some m'->aK hd t m c->aK hd t m' c
 | [],t,m,m',c,h,_=>by
  have:kW t m [] .gone=some .gone:=by cases t<;>rfl
  rw[this]at h;simp only[aI]at h;rw[<-h];exact aK.gone t c
 | .fst::p,t,m,m',c,h,hc=>by
  cases t with
  | pair a b=>simp only[kW,cJ,aI]at h;obtain⟨r,hr,rfl⟩:=h;simp only[aK]at hc⊢;exact⟨aK.oO p hr hc.1,hc.2⟩
  | _=>simp[kW]at h
 | .snd::p,t,m,m',c,h,hc=>by
  cases t with
  | pair a b=>simp only[kW,cJ,aI]at h;obtain⟨r,hr,rfl⟩:=h;simp only[aK]at hc⊢;exact⟨hc.1,aK.oO p hr hc.2⟩
  | _=>simp[kW]at h
 | .idx i s'::p,t,m,m',c,h,hc=>by
  cases t with
  | sl e=>
   cases m with
   | own s mi=>
    simp only[kW]at h;split at h
    .simp only[cJ,aI]at h;obtain⟨r,hr,rfl⟩:=h;simp only[aK]at hc⊢;exact⟨hc.1,Mk.dU (Uc p hr hc.2 rfl)⟩
    .simp at h
   | _=>simp[kW]at h
  | _=>simp[kW]at h
theorem Ub:∀(p:Path){t:Ty}{m:Mk}{x:t.den}{d:Dy},focus t m x p=some d->m.ak=true->d.ms.ak=true
 | [],t,m,x,d,h,hm=>by simp only[focus,aI]at h;subst h;exact hm
 | .fst::p,t,m,x,d,h,hm=>by
  cases t with
  | pair a b=>simp only[focus]at h;exact Ub p h (Mk.fq hm)
  | _=>simp[focus]at h
 | .snd::p,t,m,x,d,h,hm=>by
  cases t with
  | pair a b=>simp only[focus]at h;exact Ub p h (Mk.fu hm)
  | _=>simp[focus]at h
 | .idx i s'::p,t,m,x,d,h,hm=>by
  cases t with
  | sl e=>
   cases m with
   | own s mi=>
    simp only[focus]at h;simp only[Mk.ak,bC]at hm;split at h
    .exact Ub p h hm.2
    .simp at h
   | _=>simp[focus]at h
  | _=>simp[focus]at h
theorem aK.at{hd:Nat->Value}{hp:Array Obj}:∀(p:Path){t:Ty}{m:Mk}{x:t.den}{c:List Value}{base base':fy}{c':List Value}{d:Dy},
  aK hd t m c->focus t m x p=some d->b8 hp t c base p=some (base',c')->aK hd d.ty d.ms c'
 | [],t,m,x,c,base,base',c',d,hc,hf,ha=>by
  simp only[focus,aI]at hf;subst hf;have:b8 hp t c base []=some (base,c):=by cases t<;>rfl
  rw[this]at ha;simp only[aI,a_]at ha;rw[<-ha.2];exact hc
 | .fst::p,t,m,x,c,base,base',c',d,hc,hf,ha=>by
  cases t with
  | pair a b=>simp only[focus]at hf;simp only[b8]at ha;simp only[aK]at hc;exact aK.at p hc.1 hf ha
  | _=>simp[focus]at hf
 | .snd::p,t,m,x,c,base,base',c',d,hc,hf,ha=>by
  cases t with
  | pair a b=>simp only[focus]at hf;simp only[b8]at ha;simp only[aK]at hc;exact aK.at p hc.2 hf ha
  | _=>simp[focus]at hf
 | .idx i s'::p,t,m,x,c,base,base',c',d,hc,hf,ha=>by
  cases t with
  | sl e=>
   cases m with
   | own s mi=>
    simp only[focus]at hf;simp only[aK]at hc;split at hf
    .exact aK.ak _ (Ub p hf hc.2)
    .simp at hf
   | _=>simp[focus]at hf
  | _=>simp[focus]at hf
theorem SX:∀(p:Path){t:Ty}{m:Mk}{x:t.den}{t2:Ty}{m2:Mk}{y:t2.den}{m':Mk}{x':t.den},
  put t m x p t2 m2 y=some (m',x')->m.ak=true->m2.ak=true->m'.ak=true
 | [],t,m,x,t2,m2,y,m',x',h,_,h2=>by
  simp only[put,cJ,aI,a_]at h;obtain⟨_,_,h,_⟩:=h;rw[<-h];exact h2
 | .fst::p,t,m,x,t2,m2,y,m',x',h,h1,h2=>by
  cases t with
  | pair a b=>simp only[put,cJ,aI,a_]at h;obtain⟨r,hr,rfl,_⟩:=h;simp only[Mk.ak,bC];exact⟨SX p hr (Mk.fq h1) h2,Mk.fu h1⟩
  | _=>simp[put]at h
 | .snd::p,t,m,x,t2,m2,y,m',x',h,h1,h2=>by
  cases t with
  | pair a b=>simp only[put,cJ,aI,a_]at h;obtain⟨r,hr,rfl,_⟩:=h;simp only[Mk.ak,bC];exact⟨Mk.fq h1,SX p hr (Mk.fu h1) h2⟩
  | _=>simp[put]at h
 | .idx i s'::p,t,m,x,t2,m2,y,m',x',h,h1,h2=>by
  cases t with
  | sl e=>
   cases m with
   | own s mi=>
    simp only[put]at h;split at h
    .simp only[cJ,aI,a_]at h;obtain⟨r,hr,rfl,_⟩:=h;simp only[Mk.ak,bC]at h1⊢;exact⟨h1.1,Mk.dU (SX p hr h1.2 h2)⟩
    .simp at h
   | _=>simp[put]at h
  | _=>simp[put]at h
theorem FX:∀(p:Path){t:Ty}{m:Mk}{x:t.den}{t2:Ty}{m2:Mk}{y:t2.den}{m':Mk}{x':t.den},
  put t m x p t2 m2 y=some (m',x')->qx p=false->ew t p+t2.width<=t.width
 | [],t,m,x,t2,m2,y,m',x',h,_=>by
  simp only[put,cJ,qbv]at h;obtain⟨z,hz,_⟩:=h;split at hz
  .rename_i e;subst e;have:ew t2 []=0:=by cases t2<;>rfl
   omega
  .simp at hz
 | .fst::p,t,m,x,t2,m2,y,m',x',h,hi=>by
  cases t with
  | pair a b=>simp only[put,cJ,aI,a_]at h;obtain⟨r,hr,_⟩:=h;have:=FX p hr (by simpa [qx] using hi);simp only[ew,Ty.width];omega
  | _=>simp[put]at h
 | .snd::p,t,m,x,t2,m2,y,m',x',h,hi=>by
  cases t with
  | pair a b=>simp only[put,cJ,aI,a_]at h;obtain⟨r,hr,_⟩:=h;have:=FX p hr (by simpa [qx] using hi);simp only[ew,Ty.width];omega
  | _=>simp[put]at h
 | .idx i s'::p,t,m,x,t2,m2,y,m',x',h,hi=>by simp[qx]at hi
theorem aK.put{hd:Nat->Value}:∀(p:Path){t:Ty}{m:Mk}{x:t.den}{t2:Ty}{m2:Mk}{y:t2.den}{m':Mk}{x':t.den}{c c2:List Value},
  put t m x p t2 m2 y=some (m',x')->aK hd t m c->aK hd t2 m2 c2->(qx p=true->m2.ak=true)->c.length=t.width->c2.length=t2.width->
  aK hd t m' (if qx p then c else bM c (ew t p) c2)
 | [],t,m,x,t2,m2,y,m',x',c,c2,h,hc,h2,_,hl,iw=>by
  simp only[V.put,cJ,qbv,aI,a_]at h;obtain⟨z,hz,rfl,_⟩:=h;split at hz
  .rename_i e;subst e;have:ew t2 []=0:=by cases t2<;>rfl
   rw[this,af (by simp[qx]),Au (by omega)];exact h2
  .simp at hz
 | .fst::p,t,m,x,t2,m2,y,m',x',c,c2,h,hc,h2,hi,hl,iw=>by
  cases t with
  | pair a b=>
   simp only[V.put,cJ,aI,a_]at h;obtain⟨r,hr,rfl,_⟩:=h;simp only[aK]at hc;simp only[Ty.width]at hl;have hca:(c.take a.width).length=a.width:=by simp;omega
   have ih:=aK.put p hr hc.1 h2 (by simpa [qx] using hi) hca iw;have hx:qx (.fst::p)=qx p:=rfl;have ha:ew (.pair a b) (.fst::p)=ew a p:=rfl;rw[hx,ha];by_cases hp:qx p=true
   .rw[aj hp]at ih⊢;simp only[aK];exact⟨ih,hc.2⟩
   .rw[af hp]at ih⊢;have hf:=FX p hr (by simpa using hp);have e:bM c (ew a p) c2=bM (c.take a.width) (ew a p) c2++c.drop a.width:=by
     conv=>lhs;rw[<-oZ a.width c]
     exact Yp (by omega)
    have hl3:(bM (c.take a.width) (ew a p) c2).length=a.width:=by rw[yj (by omega)];exact hca
    simp only[aK];rw[e,iX hl3,iL hl3];exact⟨ih,hc.2⟩
  | _=>simp[V.put]at h
 | .snd::p,t,m,x,t2,m2,y,m',x',c,c2,h,hc,h2,hi,hl,iw=>by
  cases t with
  | pair a b=>
   simp only[V.put,cJ,aI,a_]at h;obtain⟨r,hr,rfl,_⟩:=h;simp only[aK]at hc;simp only[Ty.width]at hl;have hca:(c.take a.width).length=a.width:=by simp;omega
   have hcb:(c.drop a.width).length=b.width:=by simp;omega
   have ih:=aK.put p hr hc.2 h2 (by simpa [qx] using hi) hcb iw;have hx:qx (.snd::p)=qx p:=rfl;have ha:ew (.pair a b) (.snd::p)=a.width+ew b p:=rfl;rw[hx,ha];by_cases hp:qx p=true
   .rw[aj hp]at ih⊢;simp only[aK];exact⟨hc.1,ih⟩
   .rw[af hp]at ih⊢;have e:bM c (a.width+ew b p) c2=c.take a.width++bM (c.drop a.width) (ew b p) c2:=by
     conv=>lhs;rw[<-oZ a.width c]
     have:=@XC (c.take a.width) (c.drop a.width) c2 (ew b p);rw[hca]at this;exact this
    simp only[aK];rw[e,iX hca,iL hca];exact⟨hc.1,ih⟩
  | _=>simp[V.put]at h
 | .idx i s'::p,t,m,x,t2,m2,y,m',x',c,c2,h,hc,h2,hi,hl,iw=>by
  cases t with
  | sl e=>
   cases m with
   | own s mi=>
    simp only[V.put]at h;split at h
    .simp only[cJ,aI,a_]at h;obtain⟨r,hr,rfl,_⟩:=h;simp only[qx,aX];simp only[aK]at hc⊢;exact⟨hc.1,Mk.dU (SX p hr hc.2 (hi rfl))⟩
    .simp at h
   | _=>simp[V.put]at h
  | _=>simp[V.put]at h
theorem aq.gone{h:Array Obj}{Pr:BS}:∀(t:Ty){m:Mk}{x:t.den}{c:List Value}{F:BS},aq h Pr t m x c F->aq h Pr t .gone x c Nil
 | .unit,_,_,_,_,r=>by simpa only [aq] using r
 | .int k,_,_,_,_,r=>by simpa only [aq] using r
 | .bool,_,_,_,_,r=>by simpa only [aq] using r
 | .str,_,_,_,_,r=>by simpa only [aq] using r
 | .pair a b,m,x,c,F,r=>by
  simp only[aq]at r⊢;obtain⟨ca,cb,Fa,Fb,rfl,ra,rb,sa,sb,d⟩:=r;exact⟨ca,cb,Nil,Nil,rfl,aq.gone a ra,aq.gone b rb,Sub.nil _,Sub.nil _,cq.nil _⟩
 | .sl t,m,x,c,F,r=>by
  simp only[aq];exact aq.slice r
theorem AF{n:Mk}:∀(q:Path){t:Ty}{m:Mk}{x:t.den}{d:Dy},focus t m x q=some d->bq t x q->
  ∃mm,put t m x q d.ty n d.x=some (mm,x)/\kW t m q n=some mm
 | [],t,m,x,d,hf,_=>by
  simp only[focus,aI]at hf;subst hf;refine⟨n,by simp[put,R7],by cases t<;>rfl⟩
 | .fst::q,t,m,x,d,hf,hr=>by
  cases t with
  | pair a b=>
   simp only[focus]at hf;simp only[bq]at hr;obtain⟨mm,h1,h2⟩:=AF (n:=n) q hf hr;refine⟨.pr mm m.snd,?_,?_⟩
   .simp only[put];rw[h1];rfl
   .simp only[kW];rw[h2];rfl
  | _=>simp[focus]at hf
 | .snd::q,t,m,x,d,hf,hr=>by
  cases t with
  | pair a b=>
   simp only[focus]at hf;simp only[bq]at hr;obtain⟨mm,h1,h2⟩:=AF (n:=n) q hf hr;refine⟨.pr m.fst mm,?_,?_⟩
   .simp only[put];rw[h1];rfl
   .simp only[kW];rw[h2];rfl
  | _=>simp[focus]at hf
 | .idx i s'::q,t,m,x,d,hf,hr=>by
  cases t with
  | sl e=>
   cases m with
   | own s mi=>
    simp only[focus]at hf;simp only[bq]at hr;split at hf
    .rename_i hs;obtain⟨mm,h1,h2⟩:=AF (n:=n) q hf hr.2;refine⟨.own s (mi.meet mm),?_,?_⟩
     .simp only[put,hs,aX];rw[h1];simp only[dn,aI,a_,true_and];have:=hr.1;rw[List.getD,fN hr.1];simp
     .simp only[kW,hs,aX];rw[h2];rfl
    .simp at hf
   | _=>simp[focus]at hf
  | _=>simp[focus]at hf
theorem yP.self{h:Array Obj}{base:fy}{c:List Value}{F:BS}(hb:yx h base c F):yP h h base c:=by
 intro b o e cs hcs;obtain⟨_,cs',h1,h2,h3⟩:=hb b o e;have:=iS.uniq hcs h1;subst this;refine⟨cs,hcs,?_⟩;simp only[sub]at h3;simp only[bM];have h4:cs.toList.drop (o+c.length)=(cs.toList.drop o).drop c.length:=by rw[oS]
 rw[h4,eu]
 conv=>lhs;rw[<-oZ o cs.toList]
 congr 1
 conv=>lhs;rw[<-oZ c.length (cs.toList.drop o),h3]
theorem AI{c:List Value}{n k:Nat}(h:n+k<=c.length):bM c n ((c.drop n).take k)=c:=by
 simp only[bM];have:((c.drop n).take k).length=k:=by simp;omega
 rw[this];have h4:c.drop (n+k)=(c.drop n).drop k:=by rw[oS]
 rw[h4,eu,oZ,oZ]
theorem az.rJ{h:Array Obj}{S:St}{g:ay}{tmps:Array Value}{H:BS}(st:az h S g tmps H){r:Nat}{R:aB}(hR:S.root r=some R)
  {F:BS} (rep:aq h g.Pr R.ty R.ms R.x (g.C r) F) (hB:∀b,g.B r=some b->¬ F b)
  (hm:R.mem=true->∃b,g.B r=some b/\g.G r b/\iS h b (g.C r).toArray) (hn:R.mem=false->g.B r=none):yx h (g.base r) (g.C r) F:=by
 intro b o e;simp only[ay.base,fj]at e;obtain⟨b',e,e'⟩:=e;simp only[a_]at e';obtain⟨rfl,rfl⟩:=e';refine⟨hB b' e,?_⟩;cases hmem:R.mem with
 | false=>rw[hn hmem]at e;simp at e
 | true=>obtain⟨b2,h1,_,h2⟩:=hm hmem;rw[e]at h1;simp only[aI]at h1;subst h1;exact⟨_,h2,by simp,by simp[sub]⟩
theorem az.take{h:Array Obj}{S:St}{g:ay}{tmps:Array Value}{H:BS}(st:az h S g tmps H){r:Nat}{R:aB}{p:Path}{d:Dy}{m':Mk}
  (hR:S.root r=some R) (hf:focus R.ty R.ms R.x p=some d) (hin:bq R.ty R.x p) (hm:kW R.ty R.ms p .gone=some m') :
  ∃g' F base c,az h (S.aD r (some { R with ms:=m' })) g' tmps (Un H F)/\Sub g.Pr g'.Pr/\g'.C=g.C/\g'.B=g.B/\(∀r,Sub (g'.G r) (g.G r))/\
   b8 h R.ty (g.C r) (g.base r) p=some (base,c)/\aq h g'.Pr d.ty d.ms d.x c F/\aK g.hd d.ty d.ms c/\g'.cM g/\cq F H/\Sub F (g.G r)/\cq F g'.Pr/\
   ∀a:AV,a.dh h h S (S.aD r (some { R with ms:=m' })) g g':=by
 obtain⟨F0,rep,hF,hB,hmem,oM⟩:=st.roots r R hR;have hb:=st.rJ hR rep hB hmem oM;obtain⟨base,c,F,Fr,z⟩:=zip p _ _ _ _ F0 _ d rep hf hin hb;obtain⟨mm,SG,Dw⟩:=AF (n:=.gone) p hf hin;rw[hm]at Dw;simp only[aI]at Dw;subst Dw;obtain⟨F3,D3,s3,sd,d3,r3⟩:=z.vf h g.Pr .gone d.x c Nil m' R.x (Sub.refl _) (fun _ _=>rfl) (fun _ _ _=>rfl) (yP.self z.ok) (aq.gone d.ty z.rep) (cq.nil _) SG;have s3':Sub F3 Fr:=fun b hb=>(s3 b hb).resolve_right id;have Ur:Sub D3 Fr:=fun b hb=>(sd b hb).resolve_right id;have bH:(S.root r).isSome:=by rw[hR];rfl
 have hc:(if qx p then g.C r else bM (g.C r) (ew R.ty p) c)=g.C r:=by
  by_cases hi:qx p=true
  .simp[hi]
  .have hi':qx p=false:=by simpa using hi
   obtain⟨_,e2,e3⟩:=z.plain hi';simp only[hi',e7,dX];rw[e2];exact AI e3
 rw[hc]at r3;have hlt:=St.oT hR
 let g':ay:={ g with Pr:=Un g.Pr D3,G:=fun r'=>if r'=r then (fun b=>g.B r=some b\/F3 b) else g.G r' }
 have bE:∀r',(S.aD r (some { R with ms:=m' })).root r'=if r'=r then some { R with ms:=m' } else S.root r':=by intro r';rw[St.bY];simp[hlt]
 have hsub:∀r',Sub (g'.G r') (g.G r'):=by
  intro r' b hb';simp only[g']at hb';split at hb'
  .rename_i e;subst e;rcases hb' with hb' | hb'
   .cases mD:R.mem with
    | false=>rw[oM mD]at hb';simp at hb'
    | true=>obtain⟨b2,h1,h2,_⟩:=hmem mD;rw[hb']at h1;simp only[aI]at h1;subst h1;exact h2
   .exact hF b (z.fr b (s3' b hb'))
  .exact hb'
 have hsome:∀r',((S.aD r (some { R with ms:=m' })).root r').isSome->(S.root r').isSome:=by
  intro r' h1;rw[bE]at h1;split at h1
  .rename_i e;subst e;exact bH
  .exact h1
 have Sv:Sub D3 (g.G r):=fun b hb'=>hF b (z.fr b (Ur b hb'));have pF:Sub F (g.G r):=fun b hb'=>hF b (z.sub b hb');have vw:=AY (lo:=0) (hi:=0) p SG (by trivial);have hkeep:∀a:AV,a.dh h h S (S.aD r (some { R with ms:=m' })) g g':=by
  intro a;refine AV.d6 (fun r' p'=>?_) (fun r' p' s'=>?_) a
  .by_cases e:r'=r
   .subst e;intro R' cg d' hf';rw[bE,aj rfl]at cg;simp only[aI]at cg;subst cg;obtain⟨n0,h1,_⟩:=BC p' vw (BB p') (uU p' hf');obtain⟨y,h2⟩:=zi p' R.x h1;exact⟨R,_,hR,h2,fun rQ=>⟨rQ,fun bs cc ha=>⟨cc,ha⟩⟩⟩
   .exact(nC st (.inl (by rw[bE,af e])) rfl rfl (fun _ _ _=>rfl)).1 p'
  .by_cases e:r'=r
   .subst e;intro R' cg t' mq xs hf';rw[bE,aj rfl]at cg;simp only[aI]at cg;subst cg;obtain⟨n0,h1,h3⟩:=BC p' vw (BB p') (uU p' hf');rcases h3 with h3 | ⟨a,rfl,_⟩
    .omega
    .obtain⟨y,h2⟩:=zi p' R.x h1;exact⟨R,a,y,hR,h2,fun rQ=>⟨rQ,fun bs cc ha=>ha⟩⟩
   .exact(nC st (.inl (by rw[bE,af e])) rfl rfl (fun _ _ _=>rfl)).2 p' s'
 refine⟨g',F,base,c,?_,fun b hb'=>.inl hb',rfl,rfl,hsub,z.at_,aq.mono (fun b hb'=>.inl hb') (fun _ _=>rfl) d.ty z.rep (Sub.refl _) (fun _ _=>rfl),aK.at p (st.tag r R hR) hf z.at_,⟨rfl,rfl,rfl⟩,?_,pF,?_,hkeep⟩
 .refine { len:=st.len,gq:=by simp[St.aD,aO.bU,st.gq],slots:=?_,roots:=?_,dG:=?_,dK:=?_,hand:=?_,bI:=?_,bP:=?_,b6:=?_,d_:=?_,tag:=?_,own:=?_,eY:=?_,fS:=st.fS,p0:=fun b hb'=>.inl (st.p0 b hb'),jY:=?_ }
  .intro t;rw[St.gY];exact(qe.keep (g':=g') (fun b hb'=>Or.inl hb') (fun _ _=>rfl) _).1 _ (st.slots t) (hkeep _)
  .intro r' R' cg;rw[bE]at cg;by_cases e:r'=r
   .subst e;rw[aj rfl]at cg;simp only[aI]at cg;subst cg;refine⟨F3,r3,fun b hb'=>?_,fun b e' hb'=>hB b e' (z.fr b (s3' b hb')),fun mD=>?_,oM⟩
    .simp only[g',aX];exact .inr hb'
    .obtain⟨b,h1,h2,h3⟩:=hmem mD;exact⟨b,h1,by simp only[g',aX];exact .inl h1,h3⟩
   .rw[af e]at cg;obtain⟨F1,q1,q2,q3,q4,q5⟩:=st.roots r' R' cg;refine⟨F1,aq.mono (fun b hb'=>.inl hb') (fun _ _=>rfl) _ q1 (Sub.refl _) (fun _ _=>rfl),?_,q3,?_,q5⟩
    .simp only[g',af e];exact q2
    .intro mD;obtain⟨b,h1,h2,h3⟩:=q4 mD;exact⟨b,h1,by simp only[g',af e];exact h2,h3⟩
  .intro r1 r2 hne h1 h2;exact(st.dG r1 r2 hne (hsome _ h1) (hsome _ h2)).mono (hsub _) (hsub _)
  .intro r1 h1;rintro b hb' (hz | hz)
   .exact st.dK r1 (hsome _ h1) b (hsub _ b hb') hz
   .by_cases e:r1=r
    .subst e;simp only[g',aX]at hb';rcases hb' with hb' | hb'
     .exact hB b hb' (z.fr b (Ur b hz))
     .exact d3 b hb' hz
    .exact st.dG r1 r e (hsome _ h1) bH b (hsub _ b hb') (Sv b hz)
  .intro r1 h1;rintro b hb' (hz | hz)
   .exact st.hand r1 (hsome _ h1) b (hsub _ b hb') hz
   .by_cases e:r1=r
    .subst e;simp only[g',aX]at hb';rcases hb' with hb' | hb'
     .exact hB b hb' (z.sub b hz)
     .exact z.dG b hz (s3' b hb')
    .exact st.dG r1 r e (hsome _ h1) bH b (hsub _ b hb') (pF b hz)
  .rintro b (hz | hz) (hy | hy)
   .exact st.bI b hz hy
   .exact st.hand r bH b (Sv b hy) hz
   .exact st.dK r bH b (pF b hz) hy
   .exact z.dG b hz (Ur b hy)
  .rintro b (hz | hz)
   .exact st.bP b hz
   .exact st.b6 r b bH (Sv b hz)
  .intro r1 b h1 hb';exact st.b6 r1 b (hsome _ h1) (hsub _ b hb')
  .rintro b (hz | hz)
   .exact st.d_ b hz
   .exact st.b6 r b bH (pF b hz)
  .intro r' R' cg;rw[bE]at cg;by_cases e:r'=r
   .subst e;rw[aj rfl]at cg;simp only[aI]at cg;subst cg;exact aK.oO p hm (st.tag _ R hR)
   .rw[af e]at cg;exact st.tag r' R' cg
  .intro r1 b h1 hb';exact st.own r1 b (hsome _ h1) (hsub _ b hb')
  .rintro b (hz | hz)
   .exact st.eY b hz
   .exact st.own r b bH (pF b hz)
  .rintro b (hz | hz)
   .exact st.jY b hz
   .exact .inr (st.own r b bH (Sv b hz))
 .intro b hz hy;exact st.hand r bH b (pF b hz) hy
 .rintro b hz (hy | hy)
  .exact st.dK r bH b (pF b hz) hy
  .exact z.dG b hz (Ur b hy)
theorem az.mL{h:Array Obj}{S:St}{g:ay}{tmps:Array Value}{H:BS}(st:az h S g tmps H){r:Nat}{R:aB}{q:Path}{d:Dy}
  (hR:S.root r=some R) (hf:focus R.ty R.ms R.x q=some d) (hin:bq R.ty R.x q) :
  ∃base c F,b8 h R.ty (g.C r) (g.base r) q=some (base,c)/\aq h g.Pr d.ty d.ms d.x c F/\Sub F (g.G r)/\yx h base c F/\
   (∀b o,base=some (b,o)->g.G r b)/\
   ∀(lo hi:Nat)(h2:Array Obj)(m2:Mk)(y:d.ty.den)(c2:List Value)(F2 Dd:BS)(m':Mk)(x':R.ty.den),
    (∀t,(S.get t).aR lo hi=true)->
    (∀b,b<h.size->¬ F b->(∀o,base≠some (b,o))->h2[b]? = h[b]?)->h.size<=h2.size->yP h h2 base c2->
    aq h2 (Un g.Pr Dd) d.ty m2 y c2 F2->cq Dd F2->(∀b,F2 b\/Dd b->F b\/H b\/h.size<=b)->(∀b,F2 b\/Dd b->b<h2.size)->
    put R.ty R.ms R.x q d.ty m2 y=some (m',x')->d.ms.nt lo hi m2->aK g.hd d.ty m2 c2->(qx q=true->m2.ak=true)->
    (∀p' t1 n1,jl lo hi p'=true->q8 d.ty m2 p'=some (t1,n1)->bq d.ty d.x p'->bq d.ty y p'/\∀bp cp,b8 h d.ty c base p'=some (bp,cp)->
     ∃ig,b8 h2 d.ty c2 base p'=some (bp,ig)/\(∀s a,n1=.own s a->¬ (lo<=s/\s<hi)->ig=cp))->
    ∃g',az h2 (S.aD r (some { R with ms:=m',x:=x' })) g' tmps (fun b=>(H b\/F b\/(h.size<=b/\b<h2.size))/\¬ (F2 b\/Dd b))/\Sub g.Pr g'.Pr/\Sub Dd g'.Pr/\g'.cM g/\g'.B=g.B/\(∀b,g.Pr b->h2[b]? = h[b]?)/\
     ∀a:AV,a.aR lo hi=true->a.dh h h2 S (S.aD r (some { R with ms:=m',x:=x' })) g g':=by
 obtain⟨F0,rep,hF,hB,hmem,oM⟩:=st.roots r R hR;have hb:=st.rJ hR rep hB hmem oM;obtain⟨base,c,F,Fr,z⟩:=zip q _ _ _ _ F0 _ d rep hf hin hb;have bH:(S.root r).isSome:=by rw[hR];rfl
 have pF:Sub F (g.G r):=fun b hb'=>hF b (z.sub b hb');have vn:Sub Fr (g.G r):=fun b hb'=>hF b (z.fr b hb');have wq:∀b o,g.base r=some (b,o)->g.B r=some b/\g.G r b:=by
  intro b o e;simp only[ay.base,fj]at e;obtain⟨b',e,e'⟩:=e;simp only[a_]at e';obtain⟨rfl,rfl⟩:=e';refine⟨e,?_⟩;cases mD:R.mem with
  | false=>rw[oM mD]at e;simp at e
  | true=>obtain⟨b2,h1,h2,_⟩:=hmem mD;rw[e]at h1;simp only[aI]at h1;subst h1;exact h2
 have VX:∀b o,base=some (b,o)->g.G r b:=by
  intro b o e;rcases z.home b o e with h1 | ⟨o0,h1⟩
  .exact vn b h1
  .exact(wq b o0 h1).2
 refine⟨base,c,F,z.at_,z.rep,pF,z.ok,VX,?_⟩;intro lo hi h2 m2 y c2 F2 Dd m' x' hs hk hsz hu r2 hdF tQ UN hput vw mY mX hbase;have gS:c2.length=d.ty.width:=aq.width d.ty r2;have JB:∀b,Fr b->(∀o,base≠some (b,o))->h2[b]? = h[b]?:=fun b hb' hn=>
  hk b (st.b6 r b bH (vn b hb')) (fun hz=>z.dG b hz hb') hn
 have HU:∀b,g.Pr b->h2[b]? = h[b]?:=fun b hb'=>
  hk b (st.bP b hb') (fun hz=>st.dK r bH b (pF b hz) hb') (fun o e=>st.dK r bH b (VX b o e) hb')
 have SD:∀r',r'≠r->(S.root r').isSome->∀b,g.G r' b->h2[b]? = h[b]?:=fun r' hne h1 b hb'=>
  hk b (st.b6 r' b h1 hb') (fun hz=>st.dG r' r hne h1 bH b hb' (pF b hz)) (fun o e=>st.dG r' r hne h1 bH b hb' (VX b o e))
 have hdD:cq Dd Fr:=by
  intro b hz hy;rcases tQ b (.inr hz) with h1 | h1 | h1
  .exact z.dG b h1 hy
  .exact st.hand r bH b (vn b hy) h1
  .have:=st.b6 r b bH (vn b hy);omega
 have vr:cq F2 Fr:=by
  intro b hz hy;rcases tQ b (.inl hz) with h1 | h1 | h1
  .exact z.dG b h1 hy
  .exact st.hand r bH b (vn b hy) h1
  .have:=st.b6 r b bH (vn b hy);omega
 obtain⟨F3,D3,s3,sd,d3,r3⟩:=z.vf h2 (Un g.Pr Dd) m2 y c2 F2 m' x' (fun b hb'=>.inl hb') HU JB hu r2 vr hput;obtain⟨J5,gZ⟩:=z.paths lo hi h2 m2 y c2 m' x' JB hu gS hput vw hbase;have r3:=aq.mono (fD:=Un g.Pr (fun b=>Dd b\/D3 b)) (fun b hb'=>hb'.elim (fun h=>h.imp id .inl) (fun h=>.inr (.inr h))) (fun _ _=>rfl) _ r3 (Sub.refl _) (fun _ _=>rfl);have vu:∀b,F3 b->Fr b\/(F2 b\/Dd b):=fun b hb'=>(s3 b hb').imp id .inl;have JW:∀b,Dd b\/D3 b->Fr b\/(F2 b\/Dd b):=fun b hb'=>hb'.elim (fun h=>.inr (.inr h)) (fun h=>(sd b h).imp id .inl);have U8:∀b,F3 b->Dd b->False:=fun b h1 h2=>(s3 b h1).elim (fun h3=>hdD b h2 h3) (fun h3=>hdF b h2 h3);have hlt:=St.oT hR
 let cn:List Value:=if qx q then g.C r else bM (g.C r) (ew R.ty q) c2
 let g':ay:=⟨Un g.Pr (fun b=>Dd b\/D3 b),fun r1=>if r1=r then cn else g.C r1,g.B,fun r1=>if r1=r then (fun b=>g.B r=some b\/F3 b) else g.G r1,g.hd,g.L,g.P0⟩
 have bE:∀r',(S.aD r (some { R with ms:=m',x:=x' })).root r'=if r'=r then some { R with ms:=m',x:=x' } else S.root r':=by intro r';rw[St.bY];simp[hlt]
 have hsome:∀r',((S.aD r (some { R with ms:=m',x:=x' })).root r').isSome->(S.root r').isSome:=by
  intro r' h1;rw[bE]at h1;split at h1
  .rename_i e;subst e;exact bH
  .exact h1
 have i6:∀b,g.B r=some b->g.G r b/\¬ F0 b:=by intro b e;refine⟨(wq b 0 (by simp[ay.base,e])).2,hB b e⟩
 -- where new akg may lie
 have hnew:∀b,Fr b\/(F2 b\/Dd b)->(g.G r b/\F0 b)\/H b\/h.size<=b:=by
  rintro b (hz | hz)
  .exact .inl ⟨vn b hz,z.fr b hz⟩
  .rcases tQ b hz with h1 | h1 | h1
   .exact .inl ⟨pF b h1,z.sub b h1⟩
   .exact .inr (.inl h1)
   .exact .inr (.inr h1)
 have wN:∀r1,r1≠r->(S.root r1).isSome->∀b,g.G r1 b->Fr b\/(F2 b\/Dd b)->False:=by
  intro r1 hne h1 b hb' hz;rcases hnew b hz with h3 | h3 | h3
  .exact st.dG r1 r hne h1 bH b hb' h3.1
  .exact st.hand r1 h1 b hb' h3
  .have:=st.b6 r1 b h1 hb';omega
 have JH:∀b,g.Pr b->Fr b\/(F2 b\/Dd b)->False:=by
  intro b hb' hz;rcases hnew b hz with h3 | h3 | h3
  .exact st.dK r bH b h3.1 hb'
  .exact st.bI b h3 hb'
  .have:=st.bP b hb';omega
 have Cj:∀b,g.B r=some b->Fr b\/(F2 b\/Dd b)->False:=by
  intro b hb' hz;rcases hnew b hz with h3 | h3 | h3
  .exact(i6 b hb').2 h3.2
  .exact st.hand r bH b (i6 b hb').1 h3
  .have:=st.b6 r b bH (i6 b hb').1;omega
 have Ci:∀b,Fr b\/(F2 b\/Dd b)->b<h2.size:=by
  rintro b (hz | hz)
  .have:=st.b6 r b bH (vn b hz);omega
  .exact UN b hz
 have Ck:∀b,Fr b\/(F2 b\/Dd b)->g.L b:=by
  intro b hz;rcases hnew b hz with h3 | h3 | h3
  .exact st.own r b bH h3.1
  .exact st.eY b h3
  .exact st.fS b h3
 have hkeep:∀a:AV,a.aR lo hi=true->a.dh h h2 S (S.aD r (some { R with ms:=m',x:=x' })) g g':=by
  intro a ha;refine AV.w8 (lo:=lo) (hi:=hi) (fun r' p' hp=>?_) (fun r' p' s' hp hs'=>?_) a ha
  .by_cases e:r'=r
   .subst e;intro R' cg d' hf';rw[bE,aj rfl]at cg;simp only[aI]at cg;subst cg;have fX:=uU p' hf';obtain⟨n0,h1,_⟩:=BC p' J5 hp fX;obtain⟨y',h3⟩:=zi p' R.x h1;refine⟨R,_,hR,h3,fun rQ=>?_⟩;obtain⟨h4,h5⟩:=gZ p' _ _ hp fX rQ;refine⟨h4,fun bs cc ha=>?_⟩;obtain⟨ig,h6,_⟩:=h5 bs cc ha;exact⟨ig,by simp only[g',aX];exact h6⟩
   .exact(nC (g':=g') st (.inl (by rw[bE,af e])) (by simp only[g',af e]) rfl (fun h1 b hb'=>SD r' e h1 b hb')).1 p'
  .by_cases e:r'=r
   .subst e;intro R' cg t' mq xs hf';rw[bE,aj rfl]at cg;simp only[aI]at cg;subst cg;have fX:=uU p' hf';obtain⟨n0,h1,h3⟩:=BC p' J5 hp fX;rcases h3 with h3 | ⟨a,rfl,_⟩
    .exact absurd h3 hs'
    .obtain⟨y',h4⟩:=zi p' R.x h1;refine⟨R,a,y',hR,h4,fun rQ=>?_⟩;obtain⟨h5,h6⟩:=gZ p' _ _ hp fX rQ;refine⟨h5,fun bs cc ha=>?_⟩;obtain⟨ig,h7,h8⟩:=h6 bs cc ha;rw[h8 _ _ rfl hs']at h7;simp only[g',aX];exact h7
   .exact(nC (g':=g') st (.inl (by rw[bE,af e])) (by simp only[g',af e]) rfl (fun h1 b hb'=>SD r' e h1 b hb')).2 p' s'
 refine⟨g',?_,fun b hb'=>.inl hb',fun b hb'=>.inr (.inl hb'),⟨rfl,rfl,rfl⟩,rfl,HU,hkeep⟩;refine { len:=st.len,gq:=by simp[St.aD,aO.bU,st.gq],slots:=?_,roots:=?_,dG:=?_,dK:=?_,hand:=?_,bI:=?_,bP:=?_,b6:=?_,d_:=?_,tag:=?_,own:=?_,eY:=fun b hz=>hz.1.elim (st.eY b) (fun h=>h.elim (fun h=>st.own r b bH (pF b h)) (fun h=>st.fS b h.1)),fS:=fun b hb'=>st.fS b (by omega),p0:=fun b hb'=>.inl (st.p0 b hb'),jY:=?_ }
 .intro t;rw[St.gY];exact(qe.keep (g':=g') (fun b hb'=>Or.inl hb') HU _).1 _ (st.slots t) (hkeep _ (hs t))
 .intro r' R' cg;rw[bE]at cg;by_cases e:r'=r
  .subst e;rw[aj rfl]at cg;simp only[aI]at cg;subst cg;refine⟨F3,by simp only[g',aX];exact r3,fun b hb'=>by simp only[g',aX];exact .inr hb',fun b e' hb'=>Cj b e' (vu b hb'),fun mD=>?_,oM⟩;obtain⟨b,h1,h3,h4⟩:=hmem mD;refine⟨b,h1,by simp only[g',aX];exact .inl h1,?_⟩;simp only[g',aX,cn];by_cases hi':qx q=true
   .simp only[hi',aX];obtain⟨b',o,e1,e2⟩:=z.idx hi';refine h4.congr (hk b (st.b6 r' b bH h3) (fun hz=>hB b h1 (z.sub b hz)) fun o' e'=>?_);rw[e1]at e';simp only[aI,a_]at e';obtain⟨rfl,_⟩:=e';exact hB _ h1 (z.fr _ e2)
   .have hi2:qx q=false:=by simpa using hi'
    obtain⟨e1,e2,e3⟩:=z.plain hi2;simp only[hi2,e7,dX];simp only[ay.base,h1,dV,jx]at e1;obtain⟨fH,ho,ht⟩:=hu b _ e1 _ h4;have:fH=(bM (g.C r') (ew R.ty q) c2).toArray:=by apply Array.toList_inj.1;rw[ht]
    rw[<-this];exact ho
  .rw[af e]at cg;have h1:(S.root r').isSome:=by rw[cg];rfl
   obtain⟨F1,q1,q2,q3,q4,q5⟩:=st.roots r' R' cg;refine⟨F1,?_,?_,q3,?_,q5⟩
   .simp only[g',af e];exact aq.mono (fun b hb'=>.inl hb') HU _ q1 (Sub.refl _) (fun b hb'=>SD r' e h1 b (q2 b hb'))
   .simp only[g',af e];exact q2
   .intro mD;obtain⟨b,h3,h4,h5⟩:=q4 mD;refine⟨b,h3,by simp only[g',af e];exact h4,?_⟩;simp only[g',af e];exact h5.congr (SD r' e h1 b h4)
 .intro r1 CY hne h1 h3;have k1:=hsome _ h1;have k2:=hsome _ h3;intro b bQ fK;by_cases e1:r1=r
  .subst e1;have e2:CY≠r1:=fun e=>hne e.symm;simp only[g',aX]at bQ;simp only[g',af e2]at fK;rcases bQ with bQ | bQ
   .exact st.dG r1 CY hne k1 k2 b (i6 b bQ).1 fK
   .exact wN CY e2 k2 b fK (vu b bQ)
  .simp only[g',af e1]at bQ;by_cases e2:CY=r
   .subst e2;simp only[g',aX]at fK;rcases fK with fK | fK
    .exact st.dG r1 CY hne k1 k2 b bQ (i6 b fK).1
    .exact wN r1 e1 k1 b bQ (vu b fK)
   .simp only[g',af e2]at fK;exact st.dG r1 CY hne k1 k2 b bQ fK
 .intro r1 h1;have k1:=hsome _ h1;rintro b bQ (hz | hz)
  .by_cases e1:r1=r
   .subst e1;simp only[g',aX]at bQ;rcases bQ with bQ | bQ
    .exact st.dK r1 k1 b (i6 b bQ).1 hz
    .exact JH b hz (vu b bQ)
   .simp only[g',af e1]at bQ;exact st.dK r1 k1 b bQ hz
  .by_cases e1:r1=r
   .subst e1;simp only[g',aX]at bQ;rcases bQ with bQ | bQ
    .exact Cj b bQ (JW b hz)
    .exact hz.elim (U8 b bQ) (d3 b bQ)
   .simp only[g',af e1]at bQ;exact wN r1 e1 k1 b bQ (JW b hz)
 .intro r1 h1;have k1:=hsome _ h1;rintro b bQ ⟨hz,SN⟩;by_cases e1:r1=r
  .subst e1;simp only[g',aX]at bQ;rcases bQ with bQ | bQ
   .exact hz.elim (st.hand r1 k1 b (i6 b bQ).1) (fun h=>h.elim (fun h=>(i6 b bQ).2 (z.sub b h)) (fun h=>absurd (st.b6 r1 b k1 (i6 b bQ).1) (by omega)))
   .rcases s3 b bQ with h3 | h3
    .exact hz.elim (st.hand r1 k1 b (vn b h3)) (fun h=>h.elim (fun h=>z.dG b h h3) (fun h=>absurd (st.b6 r1 b k1 (vn b h3)) (by omega)))
    .exact SN (.inl h3)
  .simp only[g',af e1]at bQ;exact hz.elim (st.hand r1 k1 b bQ) (fun h=>h.elim (fun h=>st.dG r1 r e1 k1 bH b bQ (pF b h)) (fun h=>absurd (st.b6 r1 b k1 bQ) (by omega)))
 .rintro b ⟨hz,SN⟩ (hy | hy)
  .exact hz.elim (fun h=>st.bI b h hy) (fun h=>h.elim (fun h=>st.dK r bH b (pF b h) hy) (fun h=>absurd (st.bP b hy) (by omega)))
  .rcases JW b hy with h3 | h3
   .exact hz.elim (st.hand r bH b (vn b h3)) (fun h=>h.elim (fun h=>z.dG b h h3) (fun h=>absurd (st.b6 r b bH (vn b h3)) (by omega)))
   .exact SN h3
 .rintro b (hz | hz)
  .have:=st.bP b hz;omega
  .exact Ci b (JW b hz)
 .intro r1 b h1 bQ;have k1:=hsome _ h1;by_cases e1:r1=r
  .subst e1;simp only[g',aX]at bQ;rcases bQ with bQ | bQ
   .have:=st.b6 r1 b k1 (i6 b bQ).1;omega
   .exact Ci b (vu b bQ)
  .simp only[g',af e1]at bQ;have:=st.b6 r1 b k1 bQ;omega
 .rintro b ⟨hz | hz | hz,_⟩
  .have:=st.d_ b hz;omega
  .have:=st.b6 r b bH (pF b hz);omega
  .exact hz.2
 .intro r' R' cg;rw[bE]at cg;by_cases e:r'=r
  .subst e;rw[aj rfl]at cg;simp only[aI]at cg;subst cg;simp only[g',aX,cn];exact aK.put q hput (st.tag r' R hR) mY mX (aq.width R.ty rep) gS
  .rw[af e]at cg;simp only[g',af e];exact st.tag r' R' cg
 .intro r1 b h1 bQ;have k1:=hsome _ h1;by_cases e1:r1=r
  .subst e1;simp only[g',aX]at bQ;rcases bQ with bQ | bQ
   .exact st.own r1 b k1 (i6 b bQ).1
   .exact Ck b (vu b bQ)
  .simp only[g',af e1]at bQ;exact st.own r1 b k1 bQ
 .rintro b (hz | hz)
  .exact st.jY b hz
  .exact .inr (Ck b (JW b hz))
theorem az.grow{h h2:Array Obj}{S:St}{g:ay}{tmps:Array Value}{H:BS}(st:az h S g tmps H)(hk:∀b,b<h.size->h2[b]? = h[b]?)(hsz:h.size<=h2.size)
  (H2:BS) (zI:∀b,H2 b->H b\/(h.size<=b/\b<h2.size)):az h2 S g tmps H2 where
 len:=st.len
 gq:=st.gq
 slots:=by
  intro t;refine(qe.keep (Sub.refl _) (fun b hb=>hk b (st.bP b hb)) _).1 _ (st.slots t) (AV.d6 (fun r p=>?_) (fun r p s=>?_) _)
  .exact(nC st (.inl rfl) rfl rfl (fun h1 b hb=>hk b (st.b6 r b h1 hb))).1 p
  .exact(nC st (.inl rfl) rfl rfl (fun h1 b hb=>hk b (st.b6 r b h1 hb))).2 p s
 roots:=by
  intro r R hR;have h1:(S.root r).isSome:=by rw[hR];rfl
  obtain⟨F,q1,q2,q3,q4,q5⟩:=st.roots r R hR;refine⟨F,aq.mono (Sub.refl _) (fun b hb=>hk b (st.bP b hb)) _ q1 (Sub.refl _) (fun b hb=>hk b (st.b6 r b h1 (q2 b hb))),q2,q3,?_,q5⟩;intro hm;obtain⟨b,e1,e2,e3⟩:=q4 hm;exact⟨b,e1,e2,e3.congr (hk b (st.b6 r b h1 e2))⟩
 dG:=st.dG
 dK:=st.dK
 hand:=by
  intro r h1 b hb hz;rcases zI b hz with h3 | h3
  .exact st.hand r h1 b hb h3
  .have:=st.b6 r b h1 hb;omega
 bI:=by
  intro b hz hb;rcases zI b hz with h3 | h3
  .exact st.bI b h3 hb
  .have:=st.bP b hb;omega
 bP:=fun b hb=>by have:=st.bP b hb;omega
 b6:=fun r b h1 hb=>by have:=st.b6 r b h1 hb;omega
 d_:=by
  intro b hz;rcases zI b hz with h3 | h3
  .have:=st.d_ b h3;omega
  .exact h3.2
 tag:=st.tag
 own:=st.own
 eY:=by
  intro b hz;rcases zI b hz with h3 | h3
  .exact st.eY b h3
  .exact st.fS b h3.1
 fS:=fun b hb=>st.fS b (by omega)
 p0:=st.p0
 jY:=st.jY
theorem qe.grow{h h2:Array Obj}{S:St}{g:ay}{tmps:Array Value}{H:BS}(st:az h S g tmps H)(hk:∀b,b<h.size->h2[b]? = h[b]?){a:AV}{v:Value}
  (x:qe h S g a v):qe h2 S g a v:=by
 refine(qe.keep (Sub.refl _) (fun b hb=>hk b (st.bP b hb)) _).1 _ x (AV.d6 (fun r p=>?_) (fun r p s=>?_) _)
 .exact(nC st (.inl rfl) rfl rfl (fun h1 b hb=>hk b (st.b6 r b h1 hb))).1 p
 .exact(nC st (.inl rfl) rfl rfl (fun h1 b hb=>hk b (st.b6 r b h1 hb))).2 p s
theorem az.cP{h:Array Obj}{S:St}{g:ay}{tmps:Array Value}{H:BS}(st:az h S g tmps H)(D:BS)(hD:Sub D H) :
  az h S { g with Pr:=Un g.Pr D } tmps (fun b=>H b/\¬ D b) where
 len:=st.len
 gq:=st.gq
 slots:=by
  intro t;refine(qe.keep (g':={ g with Pr:=Un g.Pr D }) (fun b hb=>Or.inl hb) (fun _ _=>rfl) _).1 _ (st.slots t) (AV.d6 (fun r p=>?_) (fun r p s=>?_) _)
  .exact(nC (g':={ g with Pr:=Un g.Pr D }) st (.inl rfl) rfl rfl (fun _ _ _=>rfl)).1 p
  .exact(nC (g':={ g with Pr:=Un g.Pr D }) st (.inl rfl) rfl rfl (fun _ _ _=>rfl)).2 p s
 roots:=by intro r R hR;obtain⟨F,q1,q2⟩:=st.roots r R hR;exact⟨F,aq.mono (fun b hb=>.inl hb) (fun _ _=>rfl) _ q1 (Sub.refl _) (fun _ _=>rfl),q2⟩
 dG:=st.dG
 dK:=by
  rintro r h1 b hb (hz | hz)
  .exact st.dK r h1 b hb hz
  .exact st.hand r h1 b hb (hD b hz)
 hand:=fun r h1 b hb hz=>st.hand r h1 b hb hz.1
 bI:=by
  rintro b ⟨hz,hn⟩ (hb | hb)
  .exact st.bI b hz hb
  .exact hn hb
 bP:=by
  rintro b (hb | hb)
  .exact st.bP b hb
  .exact st.d_ b (hD b hb)
 b6:=st.b6
 d_:=fun b hz=>st.d_ b hz.1
 tag:=st.tag
 own:=st.own
 eY:=fun b hz=>st.eY b hz.1
 fS:=st.fS
 p0:=fun b hb=>.inl (st.p0 b hb)
 jY:=by
  rintro b (hb | hb)
  .exact st.jY b hb
  .exact .inr (st.eY b (hD b hb))
theorem az.bx{h:Array Obj}{S:St}{g:ay}{tmps:Array Value}{H H':BS}(st:az h S g tmps H)(hs:Sub H' H):az h S g tmps H' where
 len:=st.len
 gq:=st.gq
 slots:=st.slots
 roots:=st.roots
 dG:=st.dG
 dK:=st.dK
 hand:=fun r h1 b hb hz=>st.hand r h1 b hb (hs b hz)
 bI:=fun b hz hb=>st.bI b (hs b hz) hb
 bP:=st.bP
 b6:=st.b6
 d_:=fun b hz=>st.d_ b (hs b hz)
 tag:=st.tag
 own:=st.own
 eY:=fun b hz=>st.eY b (hs b hz)
 fS:=st.fS
 p0:=st.p0
 jY:=st.jY
theorem K2{a b:Nat}:Nat.beq a b=true↔a=b:=⟨kO,fun e=>e ▸ Nat.beq_refl a⟩
theorem AV.uh{lo hi d:Nat}{h h':Array Obj}{S S':St}{g g':ay}(hA:∀r p,r≠d->tG h h' S S' g g' r p)(hB:∀r p s,r≠d->qF h h' S S' g g' r p s)
  (dA:∀p,jl lo hi p=true->qx p=true->tG h h' S S' g g' d p)
  (dB:∀p s,jl lo hi p=true->¬ (lo<=s/\s<hi)->qF h h' S S' g g' d p s):∀a:AV,a.aR lo hi=true->a.gB d=true->a.dh h h' S S' g g':=by
 have hs:∀s,(!(Nat.ble lo s&&Nat.blt s hi))=true->¬ (lo<=s/\s<hi):=by intro s h1 h2;rw[LU h2]at h1;simp at h1
 intro a
 induction a with
 | b5 r p s=>
  intro h1 _;simp only[AV.aR,bC]at h1;by_cases e:r=d
  .subst e;exact dB p s h1.2 (hs s h1.1)
  .exact hB r p s e
 | view r p s l1 UJ=>
  intro h1 _;simp only[AV.aR,bC]at h1;by_cases e:r=d
  .subst e;exact dB p s h1.2 (hs s h1.1)
  .exact hB r p s e
 | addr r p=>
  intro h1 h2;by_cases e:r=d
  .subst e;simp only[AV.gB,Nat.beq_refl,cE,Cw]at h2;exact dA p h1 h2
  .exact hA r p e
 | pair a b fP ki=>intro h1 h2;simp only[AV.aR,AV.gB,bC]at h1 h2;exact⟨fP h1.1 h2.1,ki h1.2 h2.2⟩
 | jn a fP=>intro h1 h2;exact fP h1 h2
 | gz f a fP=>intro h1 h2;exact fP h1 h2
 | _=>intro _ _;trivial
theorem AV.ug{d:Nat}{h h':Array Obj}{S S':St}{g g':ay}(hA:∀r p,r≠d->tG h h' S S' g g' r p)(hB:∀r p s,r≠d->qF h h' S S' g g' r p s) :
  ∀a:AV,a.roots.contains d=false->a.dh h h' S S' g g':=by
 intro a
 induction a with
 | b5 r p s=>intro h1;exact hB r p s (by simp[AV.roots]at h1;exact fun e=>h1 e.symm)
 | view r p s _ _=>intro h1;exact hB r p s (by simp[AV.roots]at h1;exact fun e=>h1 e.symm)
 | addr r p=>intro h1;exact hA r p (by simp[AV.roots]at h1;exact fun e=>h1 e.symm)
 | pair a b fP ki=>intro h1;simp only[AV.roots,Em,nw,bL,nT]at h1;exact⟨fP (by simpa using h1.1),ki (by simpa using h1.2)⟩
 | jn a fP=>intro h1;exact fP (by simpa [AV.roots] using h1)
 | gz f a fP=>intro h1;exact fP (by simpa [AV.roots] using h1)
 | _=>intro _;trivial
theorem az.ko{h:Array Obj}{S:St}{g:ay}{tmps:Array Value}{H:BS}(st:az h S g tmps H){d:Nat}(hd:d<S.rt.length)
  {t:Ty} {m:Mk} {x:t.den} {c:List Value} {F:BS} (rep:aq h g.Pr t m x c F) (mY:aK g.hd t m c) (hF:Sub F H) (ob:Option Nat)
  (wO:∀b,ob=some b->H b/\¬ F b/\iS h b c.toArray)
  (hs:∀u,(S.get u).roots.contains d=false\/(∃lo hi,(S.get u).aR lo hi=true/\(S.get u).gB d=true/\m.fresh lo hi/\ob=none)) :
  ∃g',az h (S.aD d (some ⟨t,m,x,ob.isSome⟩)) g' tmps (fun b=>H b/\¬ F b/\ob≠some b)/\g'.Pr=g.Pr/\g'.cM g/\g'.C d=c/\g'.B d=ob/\
   ∀a:AV,(a.roots.contains d=false\/(∃lo hi,a.aR lo hi=true/\a.gB d=true/\m.fresh lo hi/\ob=none))->a.dh h h S (S.aD d (some ⟨t,m,x,ob.isSome⟩)) g g':=by
 let g':ay:=⟨g.Pr,fun r1=>if r1=d then c else g.C r1,fun r1=>if r1=d then ob else g.B r1,fun r1=>if r1=d then (fun b=>F b\/ob=some b) else g.G r1,g.hd,g.L,g.P0⟩
 have bE:∀r',(S.aD d (some ⟨t,m,x,ob.isSome⟩)).root r'=if r'=d then some ⟨t,m,x,ob.isSome⟩ else S.root r':=by intro r';rw[St.bY];simp[hd]
 have hsome:∀r',r'≠d->((S.aD d (some ⟨t,m,x,ob.isSome⟩)).root r').isSome->(S.root r').isSome:=by intro r' hne h1;rwa [bE,af hne]at h1
 have Cb:∀b,(F b\/ob=some b)->H b:=by
  rintro b (hb | hb)
  .exact hF b hb
  .exact(wO b hb).1
 have hA:∀r p,r≠d->tG h h S (S.aD d (some ⟨t,m,x,ob.isSome⟩)) g g' r p:=fun r p e=>
  (nC (g':=g') st (.inl (by rw[bE,af e])) (by simp only[g',af e]) (by simp only[g',af e]) (fun _ _ _=>rfl)).1 p
 have hB:∀r p s,r≠d->qF h h S (S.aD d (some ⟨t,m,x,ob.isSome⟩)) g g' r p s:=fun r p s e=>
  (nC (g':=g') st (.inl (by rw[bE,af e])) (by simp only[g',af e]) (by simp only[g',af e]) (fun _ _ _=>rfl)).2 p s
 have hkeep:∀a:AV,(a.roots.contains d=false\/(∃lo hi,a.aR lo hi=true/\a.gB d=true/\m.fresh lo hi/\ob=none))->a.dh h h S (S.aD d (some ⟨t,m,x,ob.isSome⟩)) g g':=by
  intro a hsa;rcases hsa with h1 | ⟨lo,hi,h1,h2,h3,h4⟩
  .exact AV.ug hA hB _ h1
  .refine AV.uh (lo:=lo) (hi:=hi) (d:=d) hA hB (fun p hp hi'=>?_) (fun p s hp hs'=>?_) _ h1 h2
   .intro R' cg d' hf';rw[bE,aj rfl]at cg;simp only[aI]at cg;subst cg;have:=(CI p h3 hp (uU p hf')).1;rw[this]at hi';simp at hi'
   .intro R' cg t' mq xs hf';rw[bE,aj rfl]at cg;simp only[aI]at cg;subst cg;exact absurd (CI p h3 hp (uU p hf')).2 hs'
 refine⟨g',?_,rfl,⟨rfl,rfl,rfl⟩,by simp[g'],by simp[g'],hkeep⟩;refine { len:=st.len,gq:=by simp[St.aD,aO.bU,st.gq],slots:=?_,roots:=?_,dG:=?_,dK:=?_,hand:=?_,bI:=fun b hz hb=>st.bI b hz.1 hb,bP:=st.bP,b6:=?_,d_:=fun b hz=>st.d_ b hz.1,tag:=?_,own:=?_,eY:=fun b hz=>st.eY b hz.1,fS:=st.fS,p0:=st.p0,jY:=st.jY }
 .intro u;rw[St.gY];exact(qe.keep (g:=g) (g':=g') (Sub.refl _) (fun _ _=>rfl) _).1 _ (st.slots u) (hkeep _ (hs u))
 .intro r' R' cg;rw[bE]at cg;by_cases e:r'=d
  .subst e;rw[aj rfl]at cg;simp only[aI]at cg;subst cg;refine⟨F,by simp only[g',aX];exact rep,fun b hb=>by simp only[g',aX];exact .inl hb,fun b e' hb=>?_,fun hm=>?_,fun hm=>?_⟩
   .simp only[g',aX]at e';exact(wO b e').2.1 hb
   .simp only[xQ]at hm;obtain⟨b,hm⟩:=hm;exact⟨b,by simp only[g',aX];exact hm,by simp only[g',aX];exact .inr hm,by simp only[g',aX];exact(wO b hm).2.2⟩
   .simp only[g',aX];cases ob with
    | none=>rfl
    | some b=>simp at hm
  .rw[af e]at cg;obtain⟨F1,q1,q2,q3,q4,q5⟩:=st.roots r' R' cg;exact⟨F1,by simp only[g',af e];exact q1,by simp only[g',af e];exact q2,by simp only[g',af e];exact q3,by simp only[g',af e];exact q4,by simp only[g',af e];exact q5⟩
 .intro r1 r2 hne h1 h2 b bQ fK;by_cases e1:r1=d
  .subst e1;have e2:r2≠r1:=fun e=>hne e.symm;simp only[g',aX]at bQ;simp only[g',af e2]at fK;exact st.hand r2 (hsome _ e2 h2) b fK (Cb b bQ)
  .simp only[g',af e1]at bQ;by_cases e2:r2=d
   .subst e2;simp only[g',aX]at fK;exact st.hand r1 (hsome _ e1 h1) b bQ (Cb b fK)
   .simp only[g',af e2]at fK;exact st.dG r1 r2 hne (hsome _ e1 h1) (hsome _ e2 h2) b bQ fK
 .intro r1 h1 b bQ hp;by_cases e1:r1=d
  .subst e1;simp only[g',aX]at bQ;exact st.bI b (Cb b bQ) hp
  .simp only[g',af e1]at bQ;exact st.dK r1 (hsome _ e1 h1) b bQ hp
 .rintro r1 h1 b bQ ⟨hz,hn,hn2⟩;by_cases e1:r1=d
  .subst e1;simp only[g',aX]at bQ;rcases bQ with bQ | bQ
   .exact hn bQ
   .exact hn2 bQ
  .simp only[g',af e1]at bQ;exact st.hand r1 (hsome _ e1 h1) b bQ hz
 .intro r1 b h1 bQ;by_cases e1:r1=d
  .subst e1;simp only[g',aX]at bQ;exact st.d_ b (Cb b bQ)
  .simp only[g',af e1]at bQ;exact st.b6 r1 b (hsome _ e1 h1) bQ
 .intro r' R' cg;rw[bE]at cg;by_cases e:r'=d
  .subst e;rw[aj rfl]at cg;simp only[aI]at cg;subst cg;simp only[g',aX];exact mY
  .rw[af e]at cg;simp only[g',af e];exact st.tag r' R' cg
 .intro r1 b h1 bQ;by_cases e1:r1=d
  .subst e1;simp only[g',aX]at bQ;exact st.eY b (Cb b bQ)
  .simp only[g',af e1]at bQ;exact st.own r1 b (hsome _ e1 h1) bQ
theorem az.wh{h:Array Obj}{S:St}{g:ay}{tmps:Array Value}{H:BS}(st:az h S g tmps H)(d:Nat):az h (S.aD d none) g tmps H:=by
 have bE:∀r',(S.aD d none).root r'=S.root r'\/(S.aD d none).root r'=none:=by intro r';rw[St.bY];by_cases e:r'=d/\d<S.rt.length<;>simp[e]
 have hsome:∀r',((S.aD d none).root r').isSome->(S.root r').isSome:=by
  intro r' h1;rcases bE r' with e | e
  .rwa [e]at h1
  .rw[e]at h1;simp at h1
 refine { len:=st.len,gq:=by simp[St.aD,aO.bU,st.gq],slots:=?_,roots:=?_,dG:=fun r r' hn h1 h2=>st.dG r r' hn (hsome _ h1) (hsome _ h2),dK:=fun r h1=>st.dK r (hsome _ h1),hand:=fun r h1=>st.hand r (hsome _ h1),bI:=st.bI,bP:=st.bP,b6:=fun r b h1 hb=>st.b6 r b (hsome _ h1) hb,d_:=st.d_,tag:=?_,own:=fun r b h1 hb=>st.own r b (hsome _ h1) hb,eY:=st.eY,fS:=st.fS,p0:=st.p0,jY:=st.jY }
 .intro t;rw[St.gY];refine(qe.keep (Sub.refl _) (fun _ _=>rfl) _).1 _ (st.slots t) (AV.d6 (fun r p=>?_) (fun r p s=>?_) _)
  .exact(nC st (bE r) rfl rfl (fun _ _ _=>rfl)).1 p
  .exact(nC st (bE r) rfl rfl (fun _ _ _=>rfl)).2 p s
 .intro r R hR;rcases bE r with e | e
  .rw[e]at hR;exact st.roots r R hR
  .rw[e]at hR;simp at hR
 .intro r R hR;rcases bE r with e | e
  .rw[e]at hR;exact st.tag r R hR
  .rw[e]at hR;simp at hR
theorem az.update{h:Array Obj}{S:St}{g:ay}{tmps:Array Value}{H:BS}(st:az h S g tmps H){r:Nat}{R:aB}{q:Path}{d:Dy}
  (hR:S.root r=some R) (hf:focus R.ty R.ms R.x q=some d) (hin:bq R.ty R.x q) :
  ∃base c F,b8 h R.ty (g.C r) (g.base r) q=some (base,c)/\aq h g.Pr d.ty d.ms d.x c F/\Sub F (g.G r)/\yx h base c F/\
   (∀b o,base=some (b,o)->g.G r b)/\
   ∀(lo hi:Nat)(h2:Array Obj)(m2:Mk)(y:d.ty.den)(c2:List Value)(F2:BS)(m':Mk)(x':R.ty.den),
    (∀t,(S.get t).aR lo hi=true)->
    (∀b,b<h.size->¬ F b->(∀o,base≠some (b,o))->h2[b]? = h[b]?)->h.size<=h2.size->yP h h2 base c2->
    aq h2 g.Pr d.ty m2 y c2 F2->(∀b,F2 b->F b\/H b\/h.size<=b)->(∀b,F2 b->b<h2.size)->
    put R.ty R.ms R.x q d.ty m2 y=some (m',x')->d.ms.nt lo hi m2->aK g.hd d.ty m2 c2->(qx q=true->m2.ak=true)->
    (∀p' t1 n1,jl lo hi p'=true->q8 d.ty m2 p'=some (t1,n1)->bq d.ty d.x p'->bq d.ty y p'/\∀bp cp,b8 h d.ty c base p'=some (bp,cp)->
     ∃ig,b8 h2 d.ty c2 base p'=some (bp,ig)/\(∀s a,n1=.own s a->¬ (lo<=s/\s<hi)->ig=cp))->
    ∃g',az h2 (S.aD r (some { R with ms:=m',x:=x' })) g' tmps (fun b=>H b/\¬ F2 b)/\Sub g.Pr g'.Pr/\g'.cM g/\g'.B=g.B/\(∀b,g.Pr b->h2[b]? = h[b]?)/\
     ∀a:AV,a.aR lo hi=true->a.dh h h2 S (S.aD r (some { R with ms:=m',x:=x' })) g g':=by
 obtain⟨base,c,F,q1,q2,q3,q4,q5,q6⟩:=st.mL hR hf hin;refine⟨base,c,F,q1,q2,q3,q4,q5,?_⟩;intro lo hi h2 m2 y c2 F2 m' x' p1 p2 p3 p4 p5 p6 p7 p8 p9 js jL kC;obtain⟨g',k1,k2,k3,k4,k5,k6,k7⟩:=q6 lo hi h2 m2 y c2 F2 Nil m' x' p1 p2 p3 p4 (aq.mono (fun b hb=>.inl hb) (fun _ _=>rfl) _ p5 (Sub.refl _) (fun _ _=>rfl)) (cq.nil _)
  (fun b hb=>p6 b (hb.resolve_right id)) (fun b hb=>p7 b (hb.resolve_right id)) p8 p9 js jL kC
 exact⟨g',k1.bx (fun b hb=>⟨.inl hb.1,fun h=>h.elim hb.2 id⟩),k2,k4,k5,k6,k7⟩
theorem az.gv{h:Array Obj}{S:St}{g:ay}{tmps:Array Value}{H:BS}(st:az h S g tmps H){d:Nat}(hd:(S.root d).isSome) :
  az h (S.aD d none) g tmps (fun b=>H b\/g.G d b):=by
 have s0:=st.wh d;have hlt:d<S.rt.length:=by obtain⟨R,hR⟩:=xQ.1 hd;exact St.oT hR
 have hn:∀r,((S.aD d none).root r).isSome->r≠d/\(S.root r).isSome:=by
  intro r h1;rw[St.bY]at h1;by_cases e:r=d
  .subst e;simp[hlt]at h1
  .rw[af (fun h=>e h.1)]at h1;exact⟨e,h1⟩
 refine { s0 with hand:=?_,bI:=?_,d_:=?_,eY:=?_ }
 .rintro r h1 b hb (hz | hz)
  .exact s0.hand r h1 b hb hz
  .exact st.dG r d (hn r h1).1 (hn r h1).2 hd b hb hz
 .rintro b (hz | hz) hp
  .exact st.bI b hz hp
  .exact st.dK d hd b hz hp
 .rintro b (hz | hz)
  .exact st.d_ b hz
  .exact st.b6 d b hd hz
 .rintro b (hz | hz)
  .exact st.eY b hz
  .exact st.own d b hd hz
end Go.V
namespace Go.V
noncomputable section
open Go
theorem uL:∀(p q:Path){t:Ty}{m:Mk}{x:t.den}{d:Dy},focus t m x p=some d->focus t m x (p++q)=focus d.ty d.ms d.x q
 | [],q,t,m,x,d,h=>by simp only[focus,aI]at h;subst h;rfl
 | .fst::p,q,t,m,x,d,h=>by
  cases t with
  | pair a b=>simp only[focus,fJ]at h⊢;exact uL p q h
  | _=>simp[focus]at h
 | .snd::p,q,t,m,x,d,h=>by
  cases t with
  | pair a b=>simp only[focus,fJ]at h⊢;exact uL p q h
  | _=>simp[focus]at h
 | .idx i s'::p,q,t,m,x,d,h=>by
  cases t with
  | sl e=>
   cases m with
   | own s mi=>
    simp only[focus,fJ]at h⊢;split at h
    .rename_i hs;simp only[hs,aX];exact uL p q h
    .simp at h
   | _=>simp[focus]at h
  | _=>simp[focus]at h
theorem yq:∀(p q:Path){t:Ty}{m:Mk}{x:t.den}{d:Dy},focus t m x p=some d->(bq t x (p++q)↔bq t x p/\bq d.ty d.x q)
 | [],q,t,m,x,d,h=>by
  simp only[focus,aI]at h;subst h;have:bq t x []=True:=by cases t<;>rfl
  simp[this]
 | .fst::p,q,t,m,x,d,h=>by
  cases t with
  | pair a b=>simp only[focus,fJ,bq]at h⊢;exact yq p q h
  | _=>simp[focus]at h
 | .snd::p,q,t,m,x,d,h=>by
  cases t with
  | pair a b=>simp only[focus,fJ,bq]at h⊢;exact yq p q h
  | _=>simp[focus]at h
 | .idx i s'::p,q,t,m,x,d,h=>by
  cases t with
  | sl e=>
   cases m with
   | own s mi=>
    simp only[focus,fJ,bq]at h⊢;split at h
    .rw[yq p q h,and_assoc]
    .simp at h
   | _=>simp[focus]at h
  | _=>simp[focus]at h
theorem uT{hp:Array Obj}:∀(p q:Path){t:Ty}{m:Mk}{x:t.den}{d:Dy}{c:List Value}{base base':fy}{c':List Value},focus t m x p=some d->
  b8 hp t c base p=some (base',c')->b8 hp t c base (p++q)=b8 hp d.ty c' base' q
 | [],q,t,m,x,d,c,base,base',c',hf,h=>by
  simp only[focus,aI]at hf;subst hf;have e:b8 hp t c base []=some (base,c):=by cases t<;>rfl
  rw[e]at h;simp only[aI,a_]at h;obtain⟨rfl,rfl⟩:=h;rfl
 | .fst::p,q,t,m,x,d,c,base,base',c',hf,h=>by
  cases t with
  | pair a b=>simp only[focus,fJ,b8]at hf h⊢;exact uT p q hf h
  | _=>simp[focus]at hf
 | .snd::p,q,t,m,x,d,c,base,base',c',hf,h=>by
  cases t with
  | pair a b=>simp only[focus,fJ,b8]at hf h⊢;exact uT p q hf h
  | _=>simp[focus]at hf
 | .idx i s'::p,q,t,m,x,d,c,base,base',c',hf,h=>by
  cases t with
  | sl e=>
   cases m with
   | own s mi=>
    simp only[focus]at hf;split at hf
    .simp only[fJ,b8]at h⊢;split at h
     .rename_i b n k;split at h
      .rename_i cs e1 e2 hb;exact uT p q hf h
      .simp at h
     .simp at h
    .simp at hf
   | _=>simp[focus]at hf
  | _=>simp[focus]at hf
theorem DR{h:Array Obj}{S:St}{g:ay}{r:Nat}{R:aB}(hR:S.root r=some R) :
  ∀(t:Ty)(m:Mk)(x:t.den)(p:Path)(base:fy)(c:List Value)(F:BS),focus R.ty R.ms R.x p=some ⟨t,m,x⟩->bq R.ty R.x p->
   b8 h R.ty (g.C r) (g.base r) p=some (base,c)->aq h g.Pr t m x c F->dc h S g (cW r t m x p) c
 | .unit,m,x,p,base,c,F,_,_,_,r=>by simp only[aq]at r;simp only[cW,dc];exact r
 | .int k,m,x,p,base,c,F,_,_,_,r=>by simp only[cW,dc];simpa only [aq] using r
 | .bool,m,x,p,base,c,F,_,_,_,r=>by simp only[cW,dc];simpa only [aq] using r
 | .str,m,x,p,base,c,F,_,_,_,r=>by simp only[cW,dc];simpa only [aq] using r
 | .pair a b,m,x,p,base,c,F,hf,hin,eg,r=>by
  unfold cW;by_cases hs:m.still=true
  .simp only[hs,aX,dc];exact aq.eH _ hs r
  .simp only[hs,e7,dX,dc];simp only[aq]at r;obtain⟨ca,cb,Fa,Fb,rfl,ra,rb,sa,sb,dd⟩:=r;have wa:=aq.width a ra;refine⟨ca,cb,rfl,?_,?_⟩
   .refine DR hR a m.fst x.1 (p++[.fst]) base ca Fa ?_ ?_ ?_ ra
    .rw[uL p _ hf];simp[focus]
    .rw[yq p _ hf];exact⟨hin,by simp only[bq]⟩
    .rw[uT p _ hf eg];simp only[b8];rw[<-wa,iX rfl]
   .refine DR hR b m.snd x.2 (p++[.snd]) (base.map fun z=>(z.1,z.2+a.width)) cb Fb ?_ ?_ ?_ rb
    .rw[uL p _ hf];simp[focus]
    .rw[yq p _ hf];exact⟨hin,by simp only[bq]⟩
    .rw[uT p _ hf eg];simp only[b8];rw[<-wa,iL rfl]
 | .sl t,m,x,p,base,c,F,hf,hin,eg,r=>by
  cases m with
  | no=>simp only[cW,dc];exact aq.eH _ rfl r
  | gone=>simp only[cW,dc]
  | pr _ _=>simp only[cW,dc];simpa only [aq] using r
  | own s mi=>simp only[cW,dc];obtain⟨a,n,k,rfl⟩:=aq.slice r;refine⟨_,rfl,fun R' cg t' m' xs hf'=>?_⟩;rw[hR]at cg;simp only[aI]at cg;subst cg;exact⟨hin,base,eg⟩
theorem dc.rel{h:Array Obj}{S:St}{g:ay}{r:Nat}{t:Ty}{m:Mk}{x:t.den}{p:Path}{c:List Value}{F:BS}(rep:aq h g.Pr t m x c F)
  (y:dc h S g (cW r t m x p) c) (hu:t≠.unit):qe h S g (cW r t m x p) (cU t c):=by
 cases t with
 | unit=>exact absurd rfl hu
 | int k=>simp only[cW,dc]at y;simp only[cW,qe];exact⟨c,y,rfl⟩
 | bool=>simp only[cW,dc]at y;simp only[cW,qe];exact⟨c,y,rfl⟩
 | str=>simp only[cW,dc]at y;simp only[cW,qe];exact⟨c,y,rfl⟩
 | pair a b=>
  unfold cW at y⊢;by_cases hs:m.still=true
  .simp only[hs,aX,dc]at y;simp only[hs,aX,qe];exact⟨c,y,rfl⟩
  .simp only[hs,e7,dX,dc]at y;simp only[hs,e7,dX,qe];obtain⟨ca,cb,rfl,y1,y2⟩:=y;exact⟨ca,cb,rfl,y1,y2⟩
 | sl t=>
  cases m with
  | no=>simp only[cW,dc]at y;simp only[cW,qe];exact⟨c,y,rfl⟩
  | gone=>simp only[cW,qe]
  | pr _ _=>simp only[cW,dc]at y;simp only[cW,qe];exact⟨c,y,rfl⟩
  | own s mi=>simp only[cW,dc]at y;obtain⟨v,rfl,y⟩:=y;simp only[cW,qe,cU,Ty.agg,e7,dX,sj];exact y
theorem CN{a b:Ty}{x:a.den}{y:b.den}(h:qbv a b x=some y):∃e:a=b,e ▸ x=y:=by
 unfold qbv at h;split at h
 .rename_i e;exact⟨e,by simpa using h⟩
 .simp at h
theorem aq.cast{h:Array Obj}{Pr:BS}{a b:Ty}{m:Mk}{x:a.den}{y:b.den}{c:List Value}{F:BS}(e:qbv a b x=some y)(r:aq h Pr a m x c F):a=b/\aq h Pr b m y c F:=by obtain⟨rfl,rfl⟩:=CN e;exact⟨rfl,r⟩
def yQ(S:St)(g:ay):BS:=fun b=>g.Pr b\/∃r,(S.root r).isSome/\g.G r b
theorem Ky{h:Array Obj}{S:St}{g:ay}{tmps:Array Value}{H:BS}(st:az h S g tmps H){r:Nat}{p:Path}{s s':Nat}{t':Ty}{m:Mk}{xs:(Ty.sl t').den}{v:Value}
  (hf:S.focus r p=some ⟨.sl t',.own s' m,xs⟩) (hs:s=s') (x:pZ h S g r p s v) :
  ∃R base F,S.root r=some R/\focus R.ty R.ms R.x p=some ⟨.sl t',.own s' m,xs⟩/\bq R.ty R.x p/\b8 h R.ty (g.C r) (g.base r) p=some (base,[v])/\
   aq h g.Pr (.sl t') (.own s' m) xs [v] F/\Sub F (g.G r):=by
 simp only[St.focus,aO.focus]at hf;split at hf
 .rename_i R hR;subst hs;obtain⟨hin,base,eg⟩:=x R hR t' m xs hf;obtain⟨F0,rep,hF,hB,hmem,oM⟩:=st.roots r R hR;obtain⟨base',c',F,Fr,z⟩:=zip p _ _ _ _ F0 _ _ rep hf hin (st.rJ hR rep hB hmem oM);have:=z.at_;rw[eg]at this;simp only[aI,a_]at this;obtain⟨rfl,rfl⟩:=this;exact⟨R,base,F,hR,hf,hin,eg,z.rep,fun b hb=>hF b (z.sub b hb)⟩
 .simp at hf
theorem Bb{h:Array Obj}{S:St}{g:ay}{tmps:Array Value}{H:BS}(st:az h S g tmps H):∀(t:Ty){a:AV}{x:t.den}{c:List Value},
  rd S.rt t a=some x->dc h S g a c->aq h (yQ S g) t .no x c Nil
 | t,a,x,c,hr,y=>by
  have hval:∀(t:Ty)(x:t.den)(t':Ty)(x':t'.den),qbv t' t x'=some x->aq h g.Pr t' .no x' c Nil->aq h (yQ S g) t .no x c Nil:=by intro t x t' x' e r;exact aq.mono (fun b hb=>Or.inl hb) (fun _ _=>rfl) t (aq.cast e r).2 (Sub.refl _) (fun _ _=>rfl)
  cases a with
  | val t' x'=>cases t<;>(simp only[rd]at hr;simp only[dc]at y;exact hval _ _ _ _ hr y)
  | unit=>
   cases t with
   | unit=>simp only[dc]at y;simp only[aq];exact y
   | _=>simp[rd]at hr
  | b5 r p s=>
   cases t with
   | sl e=>
    simp only[rd]at hr;simp only[dc]at y;obtain⟨v,rfl,y⟩:=y;split at hr
    .rename_i t' s' m xs hf;split at hr
     .rename_i hs;obtain⟨R,base,F,Ji,_,_,_,rep,hF⟩:=Ky st hf hs.1 y;have bH:(S.root r).isSome:=by rw[Ji];rfl
      have r2:=aq.share _ (by simpa [Mk.whole] using hs.2) rep;have r3:=aq.mono (fD:=yQ S g) (fun b hb=>hb.elim .inl (fun hb=>.inr ⟨r,bH,hF b hb⟩)) (fun _ _=>rfl) _ r2 (Sub.refl _) (fun _ _=>rfl);exact(aq.cast hr r3).2
     .simp at hr
    .simp at hr
   | _=>simp[rd]at hr
  | pair u v=>
   cases t with
   | pair a b=>
    simp only[rd]at hr;simp only[dc]at y;obtain⟨ca,cb,rfl,y1,y2⟩:=y;cases h1:rd S.rt a u with
    | none=>rw[h1]at hr;simp at hr
    | some x1=>
     rw[h1]at hr;simp only[dn]at hr;cases h2:rd S.rt b v with
     | none=>rw[h2]at hr;simp at hr
     | some x2=>rw[h2]at hr;simp only[dn,aI]at hr;subst hr;simp only[aq];exact⟨ca,cb,Nil,Nil,rfl,Bb st a h1 y1,Bb st b h2 y2,Sub.nil _,Sub.nil _,cq.nil _⟩
   | _=>simp[rd]at hr
  | undef=>cases t<;>simp[rd]at hr
  | _=>simp only[dc]at y
theorem pX{h:Array Obj}{S:St}{g:ay}{tmps:Array Value}{H:BS}(st:az h S g tmps H)(t:Ty){a:AV}{x:t.den}{v:Value}
  (hr:rd S.rt t a=some x) (y:qe h S g a v):∃c,v=cU t c/\aq h (yQ S g) t .no x c Nil:=by
 cases a with
 | val t' x'=>
  have hc:qbv t' t x'=some x:=by cases t<;>simpa only [rd] using hr
  simp only[qe]at y;obtain⟨c,r,rfl⟩:=y;obtain⟨rfl,r2⟩:=aq.cast hc r;exact⟨c,rfl,aq.mono (fun b hb=>Or.inl hb) (fun _ _=>rfl) _ r2 (Sub.refl _) (fun _ _=>rfl)⟩
 | cF b=>
  cases t with
  | bool=>simp only[rd,aI]at hr;simp only[qe]at y;subst hr;subst y;exact⟨[.bool b],by simp[cU,Ty.agg],by simp only[aq]⟩
  | _=>simp[rd]at hr
 | unit=>
  cases t with
  | unit=>simp only[qe]at y;exact⟨[],by rw[y];rfl,by simp only[aq]⟩
  | _=>simp[rd]at hr
 | fe=>
  cases t with
  | sl e=>simp only[rd,aI]at hr;simp only[qe]at y;subst hr;subst y;exact⟨[.slice none 0 0],by simp[cU,Ty.agg],by simp only[aq];exact⟨none,0,by simp,by simp,by simp⟩⟩
  | _=>simp[rd]at hr
 | b5 r p s=>
  cases t with
  | sl e=>have:=Bb st (.sl e) (c:=[v]) hr (by simp only[qe]at y;simp only[dc];exact⟨v,rfl,y⟩);exact⟨[v],by simp[cU,Ty.agg],this⟩
  | _=>simp[rd]at hr
 | pair u w=>
  cases t with
  | pair a b=>simp only[qe]at y;obtain⟨ca,cb,rfl,y1,y2⟩:=y;exact⟨ca++cb,by simp[cU,Ty.agg],Bb st (.pair a b) hr (by simp only[dc];exact⟨ca,cb,rfl,y1,y2⟩)⟩
  | _=>simp[rd]at hr
 | _=>cases t<;>simp[rd]at hr
end
section trans
variable {h h' h'':Array Obj} {S S' v8:St} {g g' tO:ay}
theorem tG.trans{r:Nat}{p:Path}(x:tG h h' S S' g g' r p)(y:tG h' h'' S' v8 g' tO r p):tG h h'' S v8 g tO r p:=by intro R2 vp d2 tY;obtain⟨R1,d1,US,Vd,k1⟩:=y R2 vp d2 tY;obtain⟨R0,d0,Ji,zN,k0⟩:=x R1 US d1 Vd;refine⟨R0,d0,Ji,zN,fun hin=>⟨(k1 (k0 hin).1).1,fun base c ha=>?_⟩⟩;obtain⟨c1,h1⟩:=(k0 hin).2 base c ha;exact(k1 (k0 hin).1).2 base c1 h1
theorem qF.trans{r:Nat}{p:Path}{s:Nat}(x:qF h h' S S' g g' r p s)(y:qF h' h'' S' v8 g' tO r p s):qF h h'' S v8 g tO r p s:=by intro R2 vp t m xs tY;obtain⟨R1,m1,xs1,US,Vd,k1⟩:=y R2 vp t m xs tY;obtain⟨R0,m0,HN,Ji,zN,k0⟩:=x R1 US t m1 xs1 Vd;exact⟨R0,m0,HN,Ji,zN,fun hin=>⟨(k1 (k0 hin).1).1,fun base c ha=>(k1 (k0 hin).1).2 base c ((k0 hin).2 base c ha)⟩⟩
theorem AV.dh.trans:∀{a:AV},a.dh h h' S S' g g'->a.dh h' h'' S' v8 g' tO->a.dh h h'' S v8 g tO:=by
 intro a
 induction a with
 | b5 r p s=>exact qF.trans
 | view r p s lo hi=>exact qF.trans
 | addr r p=>exact tG.trans
 | pair a b fP ki=>exact fun x y=>⟨fP x.1 y.1,ki x.2 y.2⟩
 | jn a fP=>exact fP
 | gz f a fP=>exact fP
 | _=>exact fun _ _=>trivial
theorem AV.dh.refl:∀(a:AV),a.dh h h S S g g:=
 AV.d6 (fun r p R hR d hf=>⟨R,d,hR,hf,fun hin=>⟨hin,fun base c ha=>⟨c,ha⟩⟩⟩)
  (fun r p s R hR t m xs hf=>⟨R,m,xs,hR,hf,fun hin=>⟨hin,fun base c ha=>ha⟩⟩)
end trans
structure j6 (h:Array Obj) (S S':St) (g:ay) (tmps:Array Value) (H:BS) (t:Ty) (m:Mk) (x:t.den) (c:List Value) (g':ay) (F:BS):Prop where
 st:az h S' g' tmps (Un H F)
 pr:Sub g.Pr g'.Pr
 rep:aq h g'.Pr t m x c F
 dG:cq F H
 sM:cq F g'.Pr
 keeps:∀a:AV,a.dh h h S S' g g'
 sl:S'.sl=S.sl
 rl:S'.rt.length=S.rt.length
 tag:aK g.hd t m c
 same:g'.cM g
theorem j6.none{h:Array Obj}{S:St}{g:ay}{tmps:Array Value}{H:BS}(st:az h S g tmps H){t:Ty}{m:Mk}{x:t.den}{c:List Value}
  (r:aq h g.Pr t m x c Nil) (mY:aK g.hd t m c):j6 h S S g tmps H t m x c g Nil where
 st:=st.bx (fun b hb=>hb.resolve_right id)
 pr:=Sub.refl _
 rep:=r
 dG:=cq.nil _
 sM:=cq.nil _
 keeps:=AV.dh.refl
 sl:=rfl
 rl:=rfl
 tag:=mY
 same:=.refl g
theorem Bl{h:Array Obj}{tmps:Array Value}:∀(t:Ty){S:St}{rt':aO}{g:ay}{H:BS}{a:AV}{m:Mk}{x:t.den}{c:List Value},az h S g tmps H->
  tk S.rt t a=some (m,x,rt')->dc h S g a c->∃g' F,j6 h S ⟨S.sl,rt'⟩ g tmps H t m x c g' F
 | t,S,rt',g,H,a,m,x,c,st,ht,y=>by
  have hval:∀(t:Ty)(x:t.den)(t':Ty)(x':t'.den),((qbv t' t x').bind fun x=>some (Mk.no,x,S.rt))=some (m,x,rt')->aq h g.Pr t' .no x' c Nil->
    ∃g' F,j6 h S ⟨S.sl,rt'⟩ g tmps H t m x c g' F:=by
   intro t x t' x' e r;cases hc:qbv t' t x' with
   | none=>rw[hc]at e;simp at e
   | some z=>rw[hc]at e;simp only[dn,aI,a_]at e;obtain⟨rfl,rfl,rfl⟩:=e;exact⟨g,Nil,j6.none st (aq.cast hc r).2 (aK.no _ _)⟩
  cases a with
  | val t' x'=>cases t<;>(simp only[tk]at ht;simp only[dc]at y;exact hval _ _ _ _ ht y)
  | unit=>
   cases t with
   | unit=>simp only[dc]at y;simp only[tk,aI,a_]at ht;obtain⟨rfl,_,rfl⟩:=ht;exact⟨g,Nil,j6.none st (by simp only[aq];exact y) (aK.no _ _)⟩
   | _=>simp[tk]at ht
  | b5 r p s=>
   cases t with
   | sl e=>
    simp only[tk]at ht;simp only[dc]at y;obtain⟨v,rfl,y⟩:=y;split at ht
    .rename_i R hR;split at ht
     .rename_i t' s' mi xs hf;split at ht
      .rename_i hs;cases hc:qbv (.sl t') (.sl e) xs with
       | none=>rw[hc]at ht;simp at ht
       | some z=>
        rw[hc]at ht;simp only[dn]at ht;cases hm:kW R.ty R.ms p .gone with
        | none=>rw[hm]at ht;simp at ht
        | some m'=>rw[hm]at ht;simp only[dn,aI,a_]at ht;obtain⟨rfl,rfl,rfl⟩:=ht;have hin:=(y R hR t' mi xs (by rw[hf];simp[hs])).1;obtain⟨oa,U0⟩:=(y R hR t' mi xs (by rw[hf];simp[hs])).2;obtain⟨g',F,base,c',h1,h2,h3,h4,h5,h6,h7,mY,iY,h8,h9,Da,h11⟩:=st.take hR hf hin hm;rw[U0]at h6;simp only[aI,a_]at h6;obtain⟨_,rfl⟩:=h6;obtain⟨_,h12⟩:=aq.cast hc h7;exact⟨g',F,{ st:=h1,pr:=h2,rep:=h12,dG:=h8,sM:=Da,keeps:=h11,sl:=rfl,rl:=by simp[aO.bU],tag:=by obtain⟨e1,e2⟩:=CN hc;simp only[Ty.sl.injEq]at e1;subst e1;exact mY,same:=iY }⟩
      .simp at ht
     .simp at ht
    .simp at ht
   | _=>simp[tk]at ht
  | pair u v=>
   cases t with
   | pair a b=>
    simp only[tk]at ht;simp only[dc]at y;obtain⟨ca,cb,rfl,y1,y2⟩:=y;cases h1:tk S.rt a u with
    | none=>rw[h1]at ht;simp at ht
    | some z1=>
     obtain⟨m1,x1,S1⟩:=z1;rw[h1]at ht;simp only[dn]at ht;cases h2:tk S1 b v with
     | none=>rw[h2]at ht;simp at ht
     | some z2=>
      obtain⟨m2,x2,S2⟩:=z2;rw[h2]at ht;simp only[dn,aI,a_]at ht;obtain⟨rfl,rfl,rfl⟩:=ht;obtain⟨g1,F1,k1⟩:=Bl a st h1 y1;obtain⟨g2,F2,k2⟩:=Bl b (S:=⟨S.sl,S1⟩) k1.st h2 (dc.keep k1.pr (fun _ _=>rfl) y2 (k1.keeps v));refine⟨g2,Un F1 F2,{ st:=k2.st.bx ?_,pr:=k1.pr.trans k2.pr,rep:=?_,dG:=?_,sM:=?_,keeps:=fun a=>(k1.keeps a).trans (k2.keeps a),sl:=k2.sl.trans k1.sl,rl:=k2.rl.trans k1.rl,tag:=?_,same:=k1.same.trans k2.same }⟩
      .rintro b' (hb | hb | hb)
       .exact .inl (.inl hb)
       .exact .inl (.inr hb)
       .exact .inr hb
      .simp only[aq,Mk.fst,Mk.snd];refine⟨ca,cb,F1,F2,rfl,aq.mono k2.pr (fun _ _=>rfl) a k1.rep (Sub.refl _) (fun _ _=>rfl),k2.rep,fun _ hb=>.inl hb,fun _ hb=>.inr hb,?_⟩;intro b' bQ fK;exact k2.dG b' fK (.inr bQ)
      .rintro b' (hb | hb) hH
       .exact k1.dG b' hb hH
       .exact k2.dG b' hb (.inl hH)
      .rintro b' (hb | hb) hp
       .exact k2.st.bI b' (.inl (.inr hb)) hp
       .exact k2.sM b' hb hp
      .simp only[aK,Mk.fst,Mk.snd];have hl:=aq.width a k1.rep;rw[iX hl,iL hl];have:=k2.tag;rw[k1.same.1]at this;exact⟨k1.tag,this⟩
   | _=>simp[tk]at ht
  | undef=>cases t<;>simp[tk]at ht
  | _=>simp only[dc]at y
theorem yC{h:Array Obj}{tmps:Array Value}(t:Ty){S:St}{rt':aO}{g:ay}{H:BS}{a:AV}{m:Mk}{x:t.den}{v:Value}(st:az h S g tmps H)
  (ht:tk S.rt t a=some (m,x,rt')) (y:qe h S g a v):∃c g' F,v=cU t c/\j6 h S ⟨S.sl,rt'⟩ g tmps H t m x c g' F:=by
 cases a with
 | val t' x'=>
  have hc0:((qbv t' t x').bind fun x=>some (Mk.no,x,S.rt))=some (m,x,rt'):=by cases t<;>simpa only [tk] using ht
  simp only[qe]at y;obtain⟨c,r,rfl⟩:=y;cases hc:qbv t' t x' with
  | none=>rw[hc]at hc0;simp at hc0
  | some z=>rw[hc]at hc0;simp only[dn,aI,a_]at hc0;obtain⟨rfl,rfl,rfl⟩:=hc0;obtain⟨rfl,r2⟩:=aq.cast hc r;exact⟨c,g,Nil,rfl,j6.none st r2 (aK.no _ _)⟩
 | cF b=>
  cases t with
  | bool=>simp only[tk,aI,a_]at ht;simp only[qe]at y;obtain⟨rfl,rfl,rfl⟩:=ht;subst y;exact⟨[.bool b],g,Nil,by simp[cU,Ty.agg],j6.none st (by simp only[aq]) (aK.no _ _)⟩
  | _=>simp[tk]at ht
 | unit=>
  cases t with
  | unit=>simp only[tk,aI,a_]at ht;simp only[qe]at y;obtain⟨rfl,_,rfl⟩:=ht;exact⟨[],g,Nil,by rw[y];rfl,j6.none st (by simp only[aq]) (aK.no _ _)⟩
  | _=>simp[tk]at ht
 | fe=>
  cases t with
  | sl e=>simp only[tk,aI,a_]at ht;simp only[qe]at y;obtain⟨rfl,rfl,rfl⟩:=ht;subst y;exact⟨[.slice none 0 0],g,Nil,by simp[cU,Ty.agg],j6.none st (by simp only[Mk.top,aq];exact⟨none,0,by simp,by simp,.inl rfl⟩) (aK.ak _ (Mk.cZ _))⟩
  | _=>simp[tk]at ht
 | b5 r p s=>
  cases t with
  | sl e=>obtain⟨g',F,k⟩:=Bl (.sl e) (c:=[v]) st ht (by simp only[qe]at y;simp only[dc];exact⟨v,rfl,y⟩);exact⟨[v],g',F,by simp[cU,Ty.agg],k⟩
  | _=>simp[tk]at ht
 | pair u w=>
  cases t with
  | pair a b=>simp only[qe]at y;obtain⟨ca,cb,rfl,y1,y2⟩:=y;obtain⟨g',F,k⟩:=Bl (.pair a b) (c:=ca++cb) st ht (by simp only[dc];exact⟨ca,cb,rfl,y1,y2⟩);exact⟨ca++cb,g',F,by simp[cU,Ty.agg],k⟩
  | _=>simp[tk]at ht
 | _=>cases t<;>simp[tk]at ht
end Go.V
namespace Go.V
noncomputable section
open Go
def zc:Ty->List Value
 | .unit=>[]
 | .int k=>[.int k 0]
 | .bool=>[.bool false]
 | .str=>[.string ByteArray.empty]
 | .sl _=>[.slice none 0 0]
 | .pair a b=>zc a++zc b
theorem BT:∀t:Ty,(zc t).length=t.width
 | .unit=>rfl
 | .int _=>rfl
 | .bool=>rfl
 | .str=>rfl
 | .sl _=>rfl
 | .pair a b=>by simp[zc,Ty.width,BT a,BT b]
theorem aq.zero{h:Array Obj}{Pr:BS}:∀(t:Ty)(m:Mk),aq h Pr t m t.zero (zc t) Nil
 | .unit,_=>by simp only[aq,zc]
 | .int _,_=>by simp only[aq,zc,Ty.zero]
 | .bool,_=>by simp only[aq,zc,Ty.zero]
 | .str,_=>by simp only[aq,zc,Ty.zero]
 | .sl t,m=>by
  cases m<;>simp only[aq,zc,Ty.zero]
  .exact⟨none,0,rfl,b7 _,fun h=>absurd rfl h⟩
  .exact⟨none,0,0,rfl⟩
  .exact⟨none,0,rfl,b7 _,.inl rfl⟩
  .exact⟨none,0,rfl,b7 _,fun h=>absurd rfl h⟩
 | .pair a b,m=>by
  simp only[aq,zc,Ty.zero];exact⟨zc a,zc b,Nil,Nil,rfl,aq.zero a _,aq.zero b _,Sub.nil _,Sub.nil _,cq.nil _⟩
theorem aq.one{h:Array Obj}{Pr:BS}:∀(t:Ty){m:Mk}{x:t.den}{c:List Value}{F:BS},aq h Pr t m x c F->∀v∈c,v.oneCell'=true
 | .unit,_,_,_,_,r,v,hv=>by simp only[aq]at r;subst r;simp at hv
 | .int k,_,_,_,_,r,v,hv=>by simp only[aq]at r;subst r;simp only[er]at hv;subst hv;rfl
 | .bool,_,_,_,_,r,v,hv=>by simp only[aq]at r;subst r;simp only[er]at hv;subst hv;rfl
 | .str,_,_,_,_,r,v,hv=>by simp only[aq]at r;subst r;simp only[er]at hv;subst hv;rfl
 | .sl t,m,_,_,_,r,v,hv=>by
  obtain⟨a,n,k,rfl⟩:=aq.slice r;simp only[er]at hv;subst hv;rfl
 | .pair a b,m,_,_,_,r,v,hv=>by
  simp only[aq]at r;obtain⟨ca,cb,Fa,Fb,rfl,ra,rb,_⟩:=r;rcases bL.1 hv with hv | hv
  .exact aq.one a ra v hv
  .exact aq.one b rb v hv
def Ty.deep:Ty->Nat
 | .pair a b=>a.deep+b.deep+1
 | .sl t=>t.deep+1
 | _=>1
def mF(C:Ctx):List Field->Nat->Ty->Prop
 | [],_,T=>T=.unit
 | f::fs,off,T=>∃b,T=.pair (C.ty f.type) b/\f.offset=off/\f.name≠ "_" /\ (C.ty f.type).nz=true/\mF C fs (off+(C.ty f.type).width) b
def oA(C:Ctx):TypeDesc->Ty->Prop
 | .int k,T=>T=.int k
 | .bool,T=>T=.bool
 | .string,T=>T=.str
 | .slice e,T=>T=.sl (C.ty e)/\(C.ty e).nz=true
 | .struct fs,T=>mF C fs.toList 0 T/\T≠.unit
 | _,_=>False
structure lW (P:Program) (C:Ctx) (t:TypeId):Prop where
 info:∃i,P.info? t=some i/\i.size=(C.ty t).width/\i.zero=some (cU (C.ty t) (zc (C.ty t)))/\i.bytes<=255
 pos:0<(C.ty t).width
 desc:∃d,P.underlying t=some d/\oA C d (C.ty t)
 deep:(C.ty t).deep<10000
 eq:(C.ty t).agg=true->(C.ty t).comp=true->P.stoodInHeld t=false/\P.eqGuardType P.depth t=false
def hY(P:Program)(C:Ctx):Prop:=∀t,(C.ty t).nz=true->lW P C t
section
variable {P:Program} {C:Ctx} {t:TypeId} (k:lW P C t) (w:World)
include k
theorem lW.nh:(zeroValue t).run P w=.ok (cU (C.ty t) (zc (C.ty t))) w:=by obtain⟨i,h1,h2,h3,h4⟩:=k.info;simp[zeroValue,typeInfo,h1,h3]
theorem lW.fI:(sizeOf t).run P w=.ok (C.ty t).width w:=by obtain⟨i,h1,h2,h3,h4⟩:=k.info;simp[sizeOf,typeInfo,h1,h2]
theorem lW.oU:(isAgg t).run P w=.ok (C.ty t).agg w:=by
 obtain⟨d,h1,h2⟩:=k.desc;have:(underlying t).run P w=.ok d w:=by simp[underlying,h1]
 cases d<;>simp only[oA]at h2<;>simp[isAgg,this,Sem.run_bind]
 case bool=>rw[h2];rfl
 case int=>rw[h2];rfl
 case string=>rw[h2];rfl
 case slice=>rw[h2.1];rfl
 case struct fs=>
  cases hl:fs.toList with
  | nil=>rw[hl]at h2;simp only[mF]at h2;exact absurd h2.1 h2.2
  | cons f l=>rw[hl]at h2;simp only[mF]at h2;obtain⟨⟨b,e,_⟩,_⟩:=h2;rw[e];rfl
end
theorem Bw(T:Ty):(cU T (zc T)).cells.toList=zc T:=BG (aq.zero (h:=#[]) (Pr:=Nil) T .no)
structure jW (L:BS) (w w':World):Prop where
 os:w'.os=w.os
 tape:w'.tape=w.tape
 output:w'.output=w.output
 size:w.heap.size<=w'.heap.size
 block:∀b,b<w.heap.size->¬ L b->w'.heap[b]? = w.heap[b]?
theorem jW.refl(L:BS)(w:World):jW L w w:=⟨rfl,rfl,rfl,b7 _,fun _ _ _=>rfl⟩
theorem jW.trans{L:BS}{a b c:World}(h:jW L a b)(k:jW L b c):jW L a c:=
 ⟨k.os.trans h.os,k.tape.trans h.tape,k.output.trans h.output,mB h.size k.size,
  fun i hi hn=>(k.block i (Nat.lt_of_lt_of_le hi h.size) hn).trans (h.block i hi hn)⟩
theorem jW.mono{L L':BS}{a b:World}(h:jW L a b)(hs:∀i,i<a.heap.size->L i->L' i):jW L' a b:=
 ⟨h.os,h.tape,h.output,h.size,fun i hi hn=>h.block i hi fun hl=>hn (hs i hi hl)⟩
theorem jW.drawn{L:BS}{w:World}(n:Nat):jW L w { w with drawn:=n }:=⟨rfl,rfl,rfl,b7 _,fun _ _ _=>rfl⟩
theorem jW.push{L:BS}{w:World}(o:Obj):jW L w { w with heap:=w.heap.push o }:=
 ⟨rfl,rfl,rfl,by simp,fun b hb _=>by show(w.heap.push o)[b]? = _;rw[Bn,af (by omega)]⟩
theorem zl{h:Array Obj}{o:Obj}:∀b,b<h.size->(h.push o)[b]? = h[b]?:=fun b hb=>by rw[Bn,af (by omega)]
theorem abE{h:Array Obj}{o:Obj}:(h.push o)[h.size]? = some o:=by rw[Bn,aj rfl]
theorem iS.new{h:Array Obj}{cs:Array Value}{e:TypeId}:iS (h.push (.cells cs e)) h.size cs:=⟨e,0,0,abE,fun i _=>by omega⟩
theorem Qh{w:World}{b:Nat}{cs:Array Value}{e:TypeId}{fr:Nat×Nat}(h:w.heap[b]? = some (.cells cs e fr))(i:Nat):w.cell? ⟨b,i,none⟩=cs[i]?:=by simp[World.cell?,h]
theorem BD{w:World}{b o n:Nat}{cs:Array Value}(h:sJ w.heap b cs)(hn:o+n<=cs.size):w.rangeAt b o (sub cs o n):=by
 obtain⟨e,fr,he⟩:=h;intro j v hv;rw[Qh he];simp only[sub,fk,f8]at hv;split at hv
 .simpa using hv
 .simp at hv
theorem Fl{cs:Array Value}{o n:Nat}(h:o+n<=cs.size):(sub cs o n).length=n:=by simp[sub];omega
theorem zj{b:Nat}:∀(vs:List Value)(o:Nat)(w:World)(k:Nat),k≠b->(w.setCells b o vs).heap[k]? = w.heap[k]?
 | [],_,_,_,_=>rfl
 | v::r,o,w,k,hk=>by
  rw[World.setCells,zj r (o+1) _ k hk];simp only[World.setCell,LS];rw[af (by omega)]
theorem qD{b:Nat}:∀(vs:List Value)(o:Nat)(w:World),(w.setCells b o vs).heap.size=w.heap.size
 | [],_,_=>rfl
 | v::r,o,w=>by rw[World.setCells,qD r];simp[World.setCell]
theorem CR{b:Nat}:∀(vs:List Value)(o:Nat)(w:World),(w.setCells b o vs).os=w.os/\(w.setCells b o vs).tape=w.tape/\(w.setCells b o vs).output=w.output
 | [],_,_=>⟨rfl,rfl,rfl⟩
 | v::r,o,w=>by rw[World.setCells];exact CR r _ _
theorem PF{l:List Value}{o:Nat}{v:Value}{r:List Value}(h:o+(v::r).length<=l.length):bM (l.set o v) (o+1) r=bM l o (v::r):=by
 simp only[ct]at h;have hA:(l.take o).length=o:=by simp;omega
 have e0:l.set o v=l.take o++v::l.drop (o+1):=by rw[List.set_eq_take_append_cons_drop,aj (by omega)]
 have e1:(l.set o v).take (o+1)=l.take o++[v]:=by
  rw[e0,List.take_append,hA,jf (by omega)];have:o+1-o=1:=by omega
  rw[this];rfl
 have e2:(l.set o v).drop (o+1+r.length)=l.drop (o+(r.length+1)):=by
  rw[e0,Ey,hA,vi (by omega),gJ];have:o+1+r.length-o=r.length+1:=by omega
  rw[this,List.drop_succ_cons,oS];congr 1;omega
 simp only[bM,ct];rw[e1,e2];simp
theorem Il{b:Nat}{e:TypeId}{fr:Nat×Nat}:∀(vs:List Value)(o:Nat)(w:World)(cs:Array Value),w.heap[b]? = some (.cells cs e fr)->o+vs.length<=cs.size->
  ∃fH:Array Value,(w.setCells b o vs).heap[b]? = some (.cells fH e fr)/\fH.toList=bM cs.toList o vs
 | [],o,w,cs,h,hl=>⟨cs,h,by simp[bM]⟩
 | v::r,o,w,cs,h,hl=>by
  simp only[ct]at hl;rw[World.setCells];have h1:(w.setCell ⟨b,o,none⟩ v).heap[b]? = some (.cells (cs.setIfInBounds o v) e fr):=by simp[World.setCell,LS,h]
  obtain⟨fH,h2,h3⟩:=Il r (o+1) _ _ h1 (by simp;omega);refine⟨fH,h2,?_⟩;rw[h3,QK];exact PF (by simp;omega)
theorem rY{w:World}{b o n:Nat}{cs:Array Value}(h:iS w.heap b cs)(hn:o+n<=cs.size):w.there b o n:=by obtain⟨e,lo,hi,he,hf⟩:=h;intro j hj;rw[Qh he];refine⟨by rw[qP (by omega)];rfl,?_⟩;have:=hf (o+j) (by omega);simp only[World.frozen?,he];simpa using this
theorem FO{w:World}{b o:Nat}{c2:List Value}{base:fy}(hb:base=some (b,o)){cs:Array Value}(h:iS w.heap b cs)(hn:o+c2.length<=cs.size) :
  yP w.heap (w.setCells b o c2).heap base c2:=by
 intro b' o' e cs' h';rw[hb]at e;simp only[aI,a_]at e;obtain⟨rfl,rfl⟩:=e;obtain rfl:=iS.uniq h h';obtain⟨ty,lo,hi,he,hf⟩:=h;obtain⟨fH,h2,h3⟩:=Il c2 o w cs he hn;refine⟨fH,⟨ty,lo,hi,h2,fun i hi'=>hf i ?_⟩,h3⟩;have:fH.size=cs.size:=by rw[<-eS,h3,yj (by simpa using hn),eS]
 omega
end
end Go.V

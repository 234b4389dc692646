import Derived.Calls
import Derived.Deep.MidRow
import Derived.Laws.MakeOwn
import Derived.Orders
set_option linter.unusedVariables false
set_option linter.unusedSimpArgs false
set_option linter.unusedSectionVars false
namespace Go
abbrev z4:=@Option.some.injEq
abbrev z5:=@if_neg
abbrev z6:=@if_pos
abbrev z7:=@Prod.mk.injEq
abbrev z8:=@Option.bind_eq_some_iff
abbrev z9:=@Bool.and_eq_true
abbrev z10:=@decide_eq_false
abbrev z11:=@decide_eq_true
abbrev z12:=@Int.toNat_natCast
abbrev z13:=@Bool.not_true
abbrev z14:=@List.mem_cons_self
abbrev z15:=@List.mem_cons
abbrev z16:=@List.mem_cons_of_mem
abbrev z17:=@List.length_set
abbrev z18:=@List.mem_append
abbrev z19:=@List.length_append
abbrev z20:=@cond_false
abbrev z21:=@cond_true
abbrev z22:=@List.length_cons
abbrev z23:=@List.mem_singleton
abbrev z24:=@List.getElem_mem
abbrev z25:=@List.not_mem_nil
abbrev z26:=@Nat.mul_le_mul_right
abbrev z27:=@List.length_take
abbrev z28:=@List.map_cons
abbrev z29:=@Option.map_eq_some_iff
abbrev z30:=@Option.bind_some
abbrev z31:=@List.getElem?_eq_getElem
abbrev z32:=@List.take_succ_eq_append_getElem
abbrev z33:=@List.append_assoc
abbrev z34:=@Bool.false_eq_true
abbrev z35:=@Option.map_some
abbrev z36:=@List.cons.injEq
abbrev z37:=@List.mem_map
abbrev z38:=@List.getLast?_singleton
abbrev z39:=@List.getElem?_take
abbrev z40:=@List.cons_append
abbrev z41:=@Array.length_toList
abbrev z42:=@List.take_of_length_le
abbrev z43:=@List.getElem?_append_left
abbrev z44:=@List.getElem?_drop
abbrev z45:=@decide_eq_true_eq
abbrev z46:=@List.nil_append
abbrev z47:=@List.getElem?_append_right
abbrev z48:=@List.append_nil
abbrev z49:=@List.length_map
abbrev z50:=@List.length_eq_zero_iff
abbrev z51:=@List.length_reverse
abbrev z52:=@List.mem_iff_getElem
end Go
namespace Go.V
open Go
inductive Ty where
 | unit | int (k:IntKind) | bool | str | sl (t:Ty) | pair (a b:Ty)
 deriving DecidableEq
@[reducible] def Ty.den:Ty→Type
 | .unit=>Unit
 | .int _=>Int
 | .bool=>Bool
 | .str=>ByteArray
 | .sl t=>List t.den
 | .pair a b=>a.den×b.den
def Ty.width:Ty→Nat
 | .unit=>0
 | .int _=>1
 | .bool=>1
 | .str=>1
 | .sl _=>1
 | .pair a b=>a.width+b.width
def Ty.zero:(t:Ty)→t.den
 | .unit=>()
 | .int _=>0
 | .bool=>false
 | .str=>ByteArray.empty
 | .sl _=>[]
 | .pair a b=>(a.zero,b.zero)
def Ty.agg:Ty→Bool
 | .unit=>true
 | .pair _ _=>true
 | _=>false
inductive Mk where
 | no | gone | own (s:Nat) (m:Mk) | pr (a b:Mk)
 deriving DecidableEq
def Mk.fst:Mk→Mk
 | .pr a _=>a
 | .gone=>.gone
 | _=>.no
def Mk.snd:Mk→Mk
 | .pr _ b=>b
 | .gone=>.gone
 | _=>.no
def Mk.whole:Mk→Bool
 | .no=>true
 | .gone=>false
 | .own _ m=>m.whole
 | .pr a b=>a.whole&&b.whole
def Mk.still:Mk→Bool
 | .no=>true
 | .gone=>false
 | .own _ _=>false
 | .pr a b=>a.still&&b.still
def Mk.stamp (s:Nat):Mk→Mk
 | .no=>.no
 | .gone=>.gone
 | .own s0 m=>.own (if s0<1048576 then s else s0) (m.stamp s)
 | .pr a b=>.pr (a.stamp s) (b.stamp s)
def Mk.noMeet:Mk→Mk
 | .pr a b=>.pr a.noMeet b.noMeet
 | .gone=>.gone
 | .own _ m=>if m.whole then .no else .gone
 | .no=>.no
def Mk.meet:Mk→Mk→Mk
 | .no,x=>x.noMeet
 | .gone,_=>.gone
 | .own _ a,x=>
  match x with
  | .own s b=>.own s (a.meet b)
  | .no=>if a.whole then .no else .gone
  | _=>.gone
 | .pr a b,x=>
  match x with
  | .pr c d=>.pr (a.meet c) (b.meet d)
  | .no=>.pr (a.meet .no) (b.meet .no)
  | _=>.gone
def Mk.top:Ty→Mk
 | .sl t=>.own 0 (Mk.top t)
 | .pair a b=>.pr (Mk.top a) (Mk.top b)
 | _=>.no
def Mk.topS:Ty→Mk
 | .pair (.sl _) b=>.pr .no (Mk.topS b)
 | .pair a b=>.pr (Mk.top a) (Mk.topS b)
 | t=>Mk.top t
def Mk.bld (hint:Bool) (t:Ty):Mk:=if hint then Mk.topS t else Mk.top t
def Mk.serves:(want have_:Mk)→Bool
 | .gone,_=>true
 | .no,h=>h.whole
 | .own _ w,.own _ h=>w.serves h
 | .pr a b,.pr c d=>a.serves c&&b.serves d
 | .pr a b,.no=>a.serves .no&&b.serves .no
 | _,_=>false
inductive Stp where
 | fst | snd | idx (i:Nat) (s:Nat)
 deriving DecidableEq
abbrev Path:=List Stp
def q9:Nat→Path
 | 0=>[.fst]
 | n+1=>.snd::q9 n
def Stp.plain:Stp→Bool
 | .idx _ _=>false
 | _=>true
structure Dy where
 ty:Ty
 ms:Mk
 x:ty.den
structure Root where
 ty:Ty
 ms:Mk
 x:ty.den
 mem:Bool
inductive CapV where
 | val (t:Ty) (x:t.den)
 | rptr (t:Ty) (x:t.den)
structure Clo where
 f:FuncId
 caps:List CapV
inductive AV where
 | undef
 | skip
 | litB (b:Bool)
 | unit
 | nils
 | val (t:Ty) (x:t.den)
 | brw (r:Nat) (p:Path) (s:Nat)
 | view (r:Nat) (p:Path) (s:Nat) (lo hi:Nat)
 | addr (r:Nat) (p:Path)
 | raddr (t:Ty) (x:t.den)
 | pair (a b:AV)
 | tup (a:AV)
 | clo (f:FuncId) (caps:AV)
 | cloV (c:Clo)
abbrev Rts:=List (Option Root)
structure St where
 sl:List AV
 rt:Rts
noncomputable section
def getL {α:Type} (l:List α) (i:Nat) (d:α):α:=
 List.rec (motive:=fun _=>Nat→α) (fun _=>d) (fun a _ ih i=>Nat.rec (motive:=fun _=>α) a (fun j _=>ih j) i) l i
theorem qbl8 {α:Type} (d:α):∀ (l:List α) (i:Nat),getL l i d=l.getD i d
 | [],_=>rfl
 | _::_,0=>rfl
 | _::l,i+1=>by show getL l i d=_;rw[qbl8 d l i];rfl
def setL {α:Type} (l:List α) (i:Nat) (v:α):List α:=
 List.rec (motive:=fun _=>Nat→List α) (fun _=>[]) (fun a l ih i=>Nat.rec (motive:=fun _=>List α) (v::l) (fun j _=>a::ih j) i) l i
theorem qbnm {α:Type} (v:α):∀ (l:List α) (i:Nat),setL l i v=l.set i v
 | [],_=>rfl
 | _::_,0=>rfl
 | a::l,i+1=>by show a::setL l i v=_;rw[qbnm v l i];rfl
def Rts.root (S:Rts) (r:Nat):Option Root:=getL S r none
def Rts.setRoot (S:Rts) (r:Nat) (x:Option Root):Rts:=setL S r x
def St.get (S:St) (t:Nat):AV:=getL S.sl t .undef
abbrev St.root (S:St) (r:Nat):Option Root:=S.rt.root r
def St.set (S:St) (t:Nat) (v:AV):St:={ S with sl:=setL S.sl t v }
theorem Rts.root_eq (S:Rts) (r:Nat):S.root r=S.getD r none:=qbl8 _ _ _
theorem Rts.setRoot_eq (S:Rts) (r:Nat) (x:Option Root):S.setRoot r x=S.set r x:=qbnm _ _ _
theorem St.get_eq (S:St) (t:Nat):S.get t=S.sl.getD t .undef:=qbl8 _ _ _
theorem St.set_eq (S:St) (t:Nat) (v:AV):S.set t v={ S with sl:=S.sl.set t v }:=by
 unfold St.set;rw[qbnm]
def St.setRoot (S:St) (r:Nat) (x:Option Root):St:={ S with rt:=S.rt.setRoot r x }
def qbq (a b:Ty) (x:a.den):Option b.den:=if h:a=b then some (h ▸ x) else none
def focus:(t:Ty)→Mk→t.den→Path→Option Dy
 | t,m,x,[]=>some ⟨t,m,x⟩
 | .pair a _,m,x,.fst::p=>focus a m.fst x.1 p
 | .pair _ b,m,x,.snd::p=>focus b m.snd x.2 p
 | .sl t,.own s m,xs,.idx i s'::p=>if s=s' then focus t m (xs.getD i t.zero) p else none
 | _,_,_,_::_=>none
def put:(t:Ty)→Mk→t.den→Path→(t2:Ty)→Mk→t2.den→Option (Mk×t.den)
 | t,_,_,[],t2,m2,y=>(qbq t2 t y).bind fun y=>some (m2,y)
 | .pair a b,m,x,.fst::p,t2,m2,y=>(put a m.fst x.1 p t2 m2 y).bind fun r=>some (.pr r.1 m.snd,(r.2,x.2))
 | .pair a b,m,x,.snd::p,t2,m2,y=>(put b m.snd x.2 p t2 m2 y).bind fun r=>some (.pr m.fst r.1,(x.1,r.2))
 | .sl t,.own s m,xs,.idx i s'::p,t2,m2,y=>
  if s=s' then (put t m (xs.getD i t.zero) p t2 m2 y).bind fun r=>some (.own s (m.meet r.1),xs.set i r.2) else none
 | _,_,_,_::_,_,_,_=>none
def qfc:Ty→Mk→Path→Mk→Option Mk
 | _,_,[],m2=>some m2
 | .pair a _,m,.fst::p,m2=>(qfc a m.fst p m2).bind fun r=>some (.pr r m.snd)
 | .pair _ b,m,.snd::p,m2=>(qfc b m.snd p m2).bind fun r=>some (.pr m.fst r)
 | .sl t,.own s m,.idx _ s'::p,m2=>if s=s' then (qfc t m p m2).bind fun r=>some (.own s (m.meet r)) else none
 | _,_,_::_,_=>none
def avOf (r:Nat):(t:Ty)→Mk→t.den→Path→AV
 | .unit,_,_,_=>.unit
 | .pair a b,m,x,p=>if m.still then .val (.pair a b) x else .pair (avOf r a m.fst x.1 (p++[.fst])) (avOf r b m.snd x.2 (p++[.snd]))
 | .sl t,.own s _,_,p=>.brw r p s
 | .sl _,.gone,_,_=>.undef
 | t,_,x,_=>.val t x
def Rts.focus (S:Rts) (r:Nat) (p:Path):Option Dy:=
 match S.root r with
 | some R=>V.focus R.ty R.ms R.x p
 | none=>none
abbrev St.focus (S:St) (r:Nat) (p:Path):Option Dy:=S.rt.focus r p
def rd (S:Rts):(t:Ty)→AV→Option t.den
 | t,.val t' x=>qbq t' t x
 | .unit,.unit=>some ()
 | .bool,.litB b=>some b
 | .sl _,.nils=>some []
 | .sl t,.brw r p s=>
  match S.focus r p with
  | some ⟨.sl t',.own s' m,xs⟩=>if s=s'∧m.whole then qbq (.sl t') (.sl t) xs else none
  | _=>none
 | .pair a b,.pair u v=>(rd S a u).bind fun x=>(rd S b v).bind fun y=>some (x,y)
 | _,_=>none
def tk (S:Rts):(t:Ty)→AV→Option (Mk×t.den×Rts)
 | t,.val t' x=>(qbq t' t x).bind fun x=>some (.no,x,S)
 | .unit,.unit=>some (.no,(),S)
 | .bool,.litB b=>some (.no,b,S)
 | .sl t,.nils=>some (Mk.top (.sl t),[],S)
 | .sl t,.brw r p s=>
  match S.root r with
  | some R=>
   match V.focus R.ty R.ms R.x p with
   | some ⟨.sl t',.own s' m,xs⟩=>
    if s=s' then
     (qbq (.sl t') (.sl t) xs).bind fun xs=>
     (qfc R.ty R.ms p .gone).bind fun m'=>
     some (.own s' m,xs,S.setRoot r (some { R with ms:=m' }))
    else none
   | _=>none
  | none=>none
 | .pair a b,.pair u v=>(tk S a u).bind fun x=>(tk x.2.2 b v).bind fun y=>some (.pr x.1 y.1,(x.2.1,y.2.1),y.2.2)
 | _,_=>none
def qbjd (S:Rts):AV→Option Ty
 | .val t _=>some t
 | .litB _=>some .bool
 | .unit=>some .unit
 | .brw r p _=>(S.focus r p).bind fun d=>some d.ty
 | .pair a b=>(qbjd S a).bind fun x=>(qbjd S b).bind fun y=>some (.pair x y)
 | _=>none
def share (S:Rts) (t:Ty) (v:AV):Option (t.den×Rts):=
 (tk S t v).bind fun x=>some (x.2.1,x.2.2)
def Ty.nz:Ty→Bool
 | .unit=>false
 | _=>true
def qr:Path→Bool
 | []=>false
 | .idx _ _::_=>true
 | _::p=>qr p
def AV.noPl (d:Nat):AV→Bool
 | .addr r p=>!(Nat.beq r d)||qr p
 | .pair a b=>a.noPl d&&b.noPl d
 | .tup a=>a.noPl d
 | .clo _ a=>a.noPl d
 | _=>true
def Mk.tagFree:Mk→Bool
 | .own s m=>Nat.blt s 1048576&&m.tagFree
 | .pr a b=>a.tagFree&&b.tagFree
 | _=>true
def AV.roots:AV→List Nat
 | .brw r _ _=>[r]
 | .view r _ _ _ _=>[r]
 | .addr r _=>[r]
 | .pair a b=>a.roots++b.roots
 | .tup a=>a.roots
 | .clo _ c=>c.roots
 | _=>[]
def qba4 (d:Nat):Nat→List AV→Bool
 | _,[]=>true
 | i,v::l=>(Nat.beq i d||!(v.roots.contains d))&&qba4 d (i+1) l
def q0m (d:Nat):Nat→List AV→Bool
 | _,[]=>true
 | i,v::l=>(Nat.beq i d||v.noPl d)&&q0m d (i+1) l
inductive PK where
 | val (t:Ty)
 | own (t:Ty) (m:Mk)
 | mutp (t:Ty) (m m':Mk)
 | mutv (t:Ty) (m m':Mk)
 | rptr (t:Ty)
 | fn
inductive RK where
 | val (t:Ty) (m:Mk)
 | ptr (t:Ty) (m:Mk)
structure Sig where
 params:List PK
 res:List RK
@[reducible] def PK.den:PK→Type
 | .val t | .own t _ | .mutp t _ _ | .mutv t _ _ | .rptr t=>t.den
 | .fn=>Clo
@[reducible] def RK.den:RK→Type
 | .val t _ | .ptr t _=>t.den
@[reducible] def PDen:List PK→Type
 | []=>Unit
 | k::ks=>k.den×PDen ks
@[reducible] def RDen:List RK→Type
 | []=>Unit
 | k::ks=>k.den×RDen ks
@[reducible] def ODen:List PK→Type
 | []=>Unit
 | .mutp t _ _::ks | .mutv t _ _::ks=>t.den×ODen ks
 | _::ks=>ODen ks
structure Hints where
 keep:List (Nat×List Nat×List Nat×List Nat):=[]
 share:List (Nat×Nat):=[]
 outs:List (Nat×Nat):=[]
structure Ctx where
 ty:TypeId→Ty
 sig:FuncId→Sig
 hints:FuncId→Hints
abbrev Den (C:Ctx):=(g:FuncId)→PDen (C.sig g).params→Option (RDen (C.sig g).res×ODen (C.sig g).params)
def qcr (lo hi:Nat):Path→Bool
 | []=>true
 | .idx _ s::p=>!(Nat.ble lo s&&Nat.blt s hi)&&qcr lo hi p
 | _::p=>qcr lo hi p
@[reducible] def GDen:List PK→Type
 | []=>Unit
 | .own t _::ks=>t.den×GDen ks
 | _::ks=>GDen ks
inductive Tr (α:Type):Type 1 where
 | ret (a:α)
 | fail
 | br (c:Bool) (x y:Tr α)
 | nil (n:Nat) (neg:Bool) (f:Bool→Tr α)
 | call {β:Type} (x:Option β) (f:β→Tr α)
def br {R:Type} (c:Bool) (a b:Option R):Option R:=
 match c with
 | true=>a
 | false=>b
def qd {α R:Type} (x:Option α) (f:α→Option R):Option R:=x.bind f
noncomputable def both {R:Type} (x y:Option R):Option R:=
 match x,y with
 | some a,some b=>open Classical in if a=b then some a else none
 | _,_=>none
noncomputable def nilK {R:Type} (n:Nat) (neg:Bool) (k:Bool→Option R):Option R:=
 V.br (decide (n=0)) (both (k true) (k false)) (k neg)
noncomputable def Tr.run {α R:Type} (k:α→Option R):Tr α→Option R
 | .ret a=>k a
 | .fail=>none
 | .br c x y=>V.br c (x.run k) (y.run k)
 | .nil n neg f=>nilK n neg fun b=>(f b).run k
 | .call x f=>qd x fun b=>(f b).run k
def Tr.dec {α:Type} (β:Bool):Tr α→Option α
 | .ret a=>some a
 | .fail=>none
 | .br c x y=>match c with
  | true=>x.dec β
  | false=>y.dec β
 | .nil n neg f=>(f (if n=0 then β else neg)).dec β
 | .call x f=>x.bind fun b=>(f b).dec β
theorem Tr.run_dec {α R:Type} {k:α→Option R} {r:R} (β:Bool):∀ (t:Tr α),t.run k=some r→∃ a,t.dec β=some a∧k a=some r
 | .ret a,h=>⟨a,rfl,h⟩
 | .fail,h=>by simp[Tr.run] at h
 | .br c x y,h=>by
  cases c with
  | true=>exact Tr.run_dec β x h
  | false=>exact Tr.run_dec β y h
 | .nil n neg f,h=>by
  simp only[Tr.run,nilK] at h
  simp only[Tr.dec]
  by_cases e:n=0
  ·simp only[e,decide_true,V.br,if_true] at h ⊢
   unfold both at h
   split at h
   ·rename_i a b h1 h2
    split at h
    ·rename_i hab
     subst hab
     simp only[z4] at h
     subst h
     cases β with
     | true=>exact Tr.run_dec true _ h1
     | false=>exact Tr.run_dec false _ h2
    ·simp at h
   ·simp at h
  ·simp only[e,decide_false,V.br,if_false] at h ⊢
   exact Tr.run_dec β _ h
 | .call x f,h=>by
  simp only[Tr.run,qd] at h
  cases x with
  | none=>simp at h
  | some b=>
   simp only[z30] at h
   obtain ⟨a,h1,h2⟩:=Tr.run_dec β (f b) h
   exact ⟨a,by simpa [Tr.dec] using h1,h2⟩
def Tr.of {α:Type}:Option α→Tr α
 | some a=>.ret a
 | none=>.fail
def AV.flat:AV→AV
 | .litB b=>.val .bool b
 | v=>v
def qbe5:Value→AV
 | .bool b=>.val .bool b
 | .int k n=>.val (.int k) n
 | .string s=>.val .str s
 | .slice none 0 0=>.nils
 | _=>.undef
def ev (S:St):Operand→AV
 | .tmp t=>(S.get t).flat
 | .const v=>qbe5 v
 | .func f=>.clo f .unit
 | .global _=>.undef
def qt4:AV→Option (IntKind×Int)
 | .val (.int k) n=>some (k,n)
 | _=>none
def asBool:AV→Option Bool
 | .val .bool b=>some b
 | .litB b=>some b
 | _=>none
def qjw:(t:Ty)→t.den→t.den→Bool
 | .unit,_,_=>true
 | .int _,x,y=>x == y
 | .bool,x,y=>x == y
 | .str,x,y=>x.toList == y.toList
 | .sl _,_,_=>false
 | .pair a b,x,y=>qjw a x.1 y.1&&qjw b x.2 y.2
def Ty.comp:Ty→Bool
 | .sl _=>false
 | .pair a b=>a.comp&&b.comp
 | _=>true
def qbxd (T:Ty) (op:BinOp) (u:Ty) (x:u.den) (t:Ty) (y:t.den):Tr AV:=
 if u.comp∧T=u then
  match op,qbq t u y with
  | .eql,some y=>.ret (.val .bool (qjw u x y))
  | .neq,some y=>.ret (.val .bool (!(qjw u x y)))
  | _,_=>.fail
 else .fail
def binT (T:Ty) (op:BinOp) (x y:AV):Tr AV:=
 match x,y with
 | .val (.int ka) a,.val (.int kb) b=>
  match op with
  | .shl=>.br (decide (b<0)) .fail (.ret (.val (.int ka) (ka.wrap (a * 2 ^ (min b.toNat ka.bits)))))
  | .shr=>.br (decide (b<0)) .fail (.ret (.val (.int ka) (a.fdiv (2 ^ (min b.toNat ka.bits)))))
  | .add=>if ka=kb then .ret (.val (.int ka) (ka.wrap (a+b))) else .fail
  | .sub=>if ka=kb then .ret (.val (.int ka) (ka.wrap (a - b))) else .fail
  | .mul=>if ka=kb then .ret (.val (.int ka) (ka.wrap (a * b))) else .fail
  | .quo=>if ka=kb then (.br (decide (b=0)) .fail (.ret (.val (.int ka) (ka.wrap (a.tdiv b))))) else .fail
  | .rem=>if ka=kb then (.br (decide (b=0)) .fail (.ret (.val (.int ka) (a.tmod b)))) else .fail
  | .and=>if ka=kb then .ret (.val (.int ka) (ka.wrap (BitVec.ofInt ka.bits a &&&BitVec.ofInt ka.bits b).toNat)) else .fail
  | .or=>if ka=kb then .ret (.val (.int ka) (ka.wrap (BitVec.ofInt ka.bits a |||BitVec.ofInt ka.bits b).toNat)) else .fail
  | .xor=>if ka=kb then .ret (.val (.int ka) (ka.wrap (BitVec.ofInt ka.bits a ^^^ BitVec.ofInt ka.bits b).toNat)) else .fail
  | .andNot=>.fail
  | .eql=>if ka=kb then .ret (.val .bool (a == b)) else .fail
  | .neq=>if ka=kb then .ret (.val .bool (a != b)) else .fail
  | .lss=>if ka=kb then .ret (.val .bool (decide (a<b))) else .fail
  | .leq=>if ka=kb then .ret (.val .bool (decide (a≤b))) else .fail
  | .gtr=>if ka=kb then .ret (.val .bool (decide (a>b))) else .fail
  | .geq=>if ka=kb then .ret (.val .bool (decide (a≥b))) else .fail
 | .val .str a,.val .str b=>
  match op with
  | .add=>.br (decide (a.size+b.size≤2 ^ 47)) (.ret (.val .str (a++b))) .fail
  | .eql=>.ret (.val .bool (a.toList == b.toList))
  | .neq=>.ret (.val .bool (!(a.toList == b.toList)))
  | .lss=>.ret (.val .bool (Op.bytesLess a.toList b.toList))
  | .leq=>.ret (.val .bool (Op.bytesLess a.toList b.toList||a.toList == b.toList))
  | .gtr=>.ret (.val .bool (!(Op.bytesLess a.toList b.toList||a.toList == b.toList)))
  | .geq=>.ret (.val .bool (!(Op.bytesLess a.toList b.toList)))
  | _=>.fail
 | .val .bool a,.val .bool b=>
  if T=.bool then
   match op with
   | .eql=>.ret (.val .bool (a == b))
   | .neq=>.ret (.val .bool (!(a == b)))
   | _=>.fail
  else .fail
 | .val (.pair a b) x,.val t y=>qbxd T op (.pair a b) x t y
 | _,_=>.fail
def qxq (S:Rts):AV→Option Int
 | .val (.sl _) xs=>some xs.length
 | .nils=>some 0
 | .brw r p s=>
  match S.focus r p with
  | some ⟨.sl _,.own s' _,xs⟩=>if s=s' then some (xs.length:Int) else none
  | _=>none
 | _=>none
def qb8:Nat:=2 ^ 38
def qbea (S:Rts) (T:Ty) (x i:AV):Tr AV:=
 match qt4 i with
 | none=>.fail
 | some (_,n)=>
  match x with
  | .val (.sl t) xs=>if T=.sl t then .br (decide (0≤n)&&decide (n<(xs.length:Int))) (.ret (.raddr t (xs.getD n.toNat t.zero))) .fail else .fail
  | .brw r p s=>
   match S.focus r p with
   | some ⟨.sl t,.own s' _,xs⟩=>if s=s'∧T=.sl t then (.br (decide (0≤n)&&decide (n<(xs.length:Int))) (.ret (.addr r (p++[.idx n.toNat s]))) .fail) else .fail
   | _=>.fail
  | _=>.fail
def qmn (S:Rts) (t:Ty):AV→Option AV
 | .raddr t' x=>(qbq t' t x).bind fun x=>some (.val t x)
 | .addr r p=>
  match S.focus r p with
  | some d=>if d.ty=t then some (avOf r d.ty d.ms d.x p) else none
  | none=>none
 | _=>none
def qis (S:Rts) (T:Ty) (x:AV) (f:Nat):Option AV:=
 match x with
 | .addr r p=>
  match S.focus r p with
  | some d=>if d.ty=T∧(focus d.ty d.ms d.x (q9 f)).isSome then some (.addr r (p++q9 f)) else none
  | none=>none
 | .raddr t x=>if t=T then (focus t .no x (q9 f)).bind fun d=>some (.raddr d.ty d.x) else none
 | _=>none
def tkS (S:Rts) (hint:Bool) (t:Ty) (v:AV):Option (Mk×t.den×Rts):=
 (tk S t v).bind fun x=>if hint then (if x.1.whole then some (.no,x.2.1,x.2.2) else none) else some x
def qbfd (S:Rts) (site:Nat) (hint:Bool) (t:Ty) (a v:AV):Option Rts:=
 match a with
 | .addr r p=>
  (tkS S hint t v).bind fun x=>
  match x.2.2.root r with
  | some R=>
   (V.focus R.ty R.ms R.x p).bind fun d=>
   if d.ty=t∧x.1.tagFree then
    (put R.ty R.ms R.x p t (x.1.stamp site) x.2.1).bind fun r'=>some (x.2.2.setRoot r (some { R with ms:=r'.1,x:=r'.2 }))
   else none
  | none=>none
 | _=>none
def qcq (S:Rts) (t:Ty):Mk×t.den→List (Nat×AV)→Option (Mk×t.den×Rts)
 | acc,[]=>some (acc.1,acc.2,S)
 | acc,(i,v)::rest=>
  (focus t acc.1 acc.2 (q9 i)).bind fun d=>
  (tk S d.ty v).bind fun x=>
  (put t acc.1 acc.2 (q9 i) d.ty x.1 x.2.1).bind fun r=>qcq x.2.2 t r rest
def qhl (S:Rts) (t:Ty):Mk×List t.den→List (Nat×AV)→Option (Mk×List t.den×Rts)
 | acc,[]=>some (acc.1,acc.2,S)
 | acc,(i,v)::rest=>
  if i<acc.2.length then
   (tk S t v).bind fun x=>qhl x.2.2 t (acc.1.meet x.1,acc.2.set i x.2.1) rest
  else none
def q1i:AV→Nat→Option AV
 | .tup (.pair a _),0=>some a
 | .tup (.pair _ b),n+1=>q1i (.tup b) n
 | _,_=>none
def tupV:(t:Ty)→t.den→AV
 | .unit,_=>.unit
 | .pair a b,x=>.pair (.val a x.1) (tupV b x.2)
 | t,x=>.val t x
def qblh:AV→AV
 | .val t x=>tupV t x
 | .pair a b=>.pair a (qblh b)
 | v=>v
def qdl (S:Rts):AV→Option (List CapV)
 | .unit=>some []
 | .pair (.addr r p) rest=>
  match S.focus r p with
  | some d=>if d.ms.whole then (qdl S rest).bind fun l=>some (.rptr d.ty d.x::l) else none
  | none=>none
 | .pair (.raddr t x) rest=>(qdl S rest).bind fun l=>some (.rptr t x::l)
 | .pair (.val t x) rest=>(qdl S rest).bind fun l=>some (.val t x::l)
 | _=>none
def qbi (S:Rts):(ks:List PK)→List AV→Option (GDen ks×Rts)
 | [],[]=>some ((),S)
 | .own t m::ks,a::avs=>
  (tk S t a).bind fun x=>if m.serves x.1 then (qbi x.2.2 ks avs).bind fun r=>some ((x.2.1,r.1),r.2) else none
 | .val _::ks,_::avs=>qbi S ks avs
 | .mutp _ _ _::ks,_::avs=>qbi S ks avs
 | .mutv _ _ _::ks,_::avs=>qbi S ks avs
 | .rptr _::ks,_::avs=>qbi S ks avs
 | .fn::ks,_::avs=>qbi S ks avs
 | _,_=>none
def qcm:AV→Option (Nat×Path)
 | .brw r p _=>some (r,p)
 | .pair a b=>
  match qcm a with
  | some (r,p)=>some (r,p.dropLast)
  | none=>match qcm b with
   | some (r,p)=>some (r,p.dropLast)
   | none=>none
 | _=>none
def qj7:AV→Path→Bool
 | .brw _ p' _,p=>decide (p'=p)
 | .pair a b,p=>qj7 a (p++[.fst])&&qj7 b (p++[.snd])
 | _,_=>true
def qkz:List PK→List AV→Bool
  | .mutv _ _ _::ks,a::avs=>
    (match qcm a with
     | some (_,p)=>qj7 a p
     | none=>true)&&qkz ks avs
  | _::ks,_::avs=>qkz ks avs
  | _,_=>true
def qee (r:Nat):(t:Ty)→AV→Path→Mk→t.den→Option (Mk×t.den)
 | .pair a b,.pair u v,p,md,xd=>
  (qee r a u (p++[.fst]) md.fst xd.1).bind fun y=>
  (qee r b v (p++[.snd]) md.snd xd.2).bind fun z=>some (.pr y.1 z.1,(y.2,z.2))
 | .sl _,.brw r' p' s,p,md,xd=>
  match md with
  | .own s' m0=>if r=r'∧s=s' then some (.own s' m0,xd) else none
  | _=>none
 | t,.val t' x,_,md,_=>if md.still then (qbq t' t x).bind fun y=>some (.no,y) else none
 | .unit,.unit,_,md,_=>if md.still then some (.no,()) else none
 | _,_,_,_,_=>none
def qbg (S:Rts):(ks:List PK)→List AV→Option (ODen ks×Rts)
 | [],[]=>some ((),S)
 | .mutv t m _::ks,a::avs=>
  match qcm a with
  | some (q,p)=>
   match S.root q with
   | some R=>
    (focus R.ty R.ms R.x p).bind fun d=>
    if h:d.ty=t then
     (qee q t a p d.ms (h ▸ d.x)).bind fun x=>if m.serves x.1 then (qbg (S.setRoot q none) ks avs).bind fun r=>some ((x.2,r.1),r.2) else none
    else none
   | none=>none
  | none=>none
 | .mutp t m _::ks,a::avs=>
  match a with
  | .addr q []=>
   match S.root q with
   | some R=>if m.serves R.ms∧R.mem then (qbq R.ty t R.x).bind fun x=>(qbg (S.setRoot q none) ks avs).bind fun r=>some ((x,r.1),r.2) else none
   | none=>none
  | _=>none
 | .val _::ks,_::avs=>qbg S ks avs
 | .own _ _::ks,_::avs=>qbg S ks avs
 | .rptr _::ks,_::avs=>qbg S ks avs
 | .fn::ks,_::avs=>qbg S ks avs
 | _,_=>none
def qcj (S:Rts):(ks:List PK)→List AV→GDen ks→ODen ks→Option (PDen ks)
 | [],[],_,_=>some ()
 | .val t::ks,a::avs,g,o=>(rd S t a).bind fun x=>(qcj S ks avs g o).bind fun r=>some (x,r)
 | .rptr t::ks,a::avs,g,o=>
  match a with
  | .raddr t' x=>(qbq t' t x).bind fun x=>(qcj S ks avs g o).bind fun r=>some (x,r)
  | .addr q p=>
   match S.focus q p with
   | some d=>if d.ms.whole then (qbq d.ty t d.x).bind fun x=>(qcj S ks avs g o).bind fun r=>some (x,r) else none
   | none=>none
  | _=>none
 | .own _ _::ks,_::avs,g,o=>(qcj S ks avs g.2 o).bind fun r=>some (g.1,r)
 | .mutp _ _ _::ks,_::avs,g,o=>(qcj S ks avs g o.2).bind fun r=>some (o.1,r)
 | .mutv _ _ _::ks,_::avs,g,o=>(qcj S ks avs g o.2).bind fun r=>some (o.1,r)
 | .fn::ks,a::avs,g,o=>
  match a with
  | .clo f caps=>(qdl S caps).bind fun l=>(qcj S ks avs g o).bind fun r=>some (⟨f,l⟩,r)
  | .cloV c=>(qcj S ks avs g o).bind fun r=>some (c,r)
  | _=>none
 | _,_,_,_=>none
def qbu (site r:Nat):(t:Ty)→AV→Path→Mk→t.den→Mk→t.den→Option (Mk×t.den)
 | .pair a b,.pair u v,p,md,xd,m,o=>
  (qbu site r a u (p++[.fst]) md.fst xd.1 m.fst o.1).bind fun y=>
  (qbu site r b v (p++[.snd]) md.snd xd.2 m.snd o.2).bind fun z=>some (.pr y.1 z.1,(y.2,z.2))
 | .sl _,.brw r' p' s,p,md,_,m,o=>
  match md with
  | .own s' m0=>if r=r'∧s=s'∧m0.tagFree∧(Mk.own s' m0).serves m then some (.own s' (m0.stamp site),o) else none
  | _=>none
 | _,.val _ _,_,md,xd,_,_=>if md.still then some (.no,xd) else none
 | _,.unit,_,md,xd,_,_=>if md.still then some (.no,xd) else none
 | _,_,_,_,_,_,_=>none
def qbeq (S:Rts) (site:Nat) (t:Ty) (a:AV) (m:Mk) (o:t.den):Option Rts:=
 match qcm a with
 | none=>some S
 | some (r,p)=>
  match S.root r with
  | some R=>
   (focus R.ty R.ms R.x p).bind fun d=>
   if h:d.ty=t then
    (qbu site r t a p d.ms (h ▸ d.x) m o).bind fun y=>
    if qr p&&!y.1.tagFree then none else
    (put R.ty R.ms R.x p t y.1 y.2).bind fun r'=>some (S.setRoot r (some { R with ms:=r'.1,x:=r'.2 }))
   else none
  | none=>none
def PK.plain:PK→Bool
 | .val _ | .rptr _ | .fn=>true
 | _=>false
def PK.gives:PK→Bool
 | .own _ _=>true
 | _=>false
def PK.lends:PK→Bool
 | .mutp _ _ _ | .mutv _ _ _=>true
 | _=>false
def Mk.full:Ty→Mk→Bool
 | .sl t,.own _ m=>m.full t
 | .sl _,_=>false
 | .pair a b,m=>m.fst.full a&&m.snd.full b
 | _,_=>true
def PK.full:PK→Bool
 | .mutp t _ m | .mutv t _ m=>m.full t
 | _=>true
def RK.full:RK→Bool
 | .val t m | .ptr t m=>m.full t
def Sig.full (s:Sig):Bool:=s.params.all PK.full&&s.res.all RK.full
def AV.shared:AV→Bool
 | .val _ _ | .unit | .litB _ | .nils | .raddr _ _ | .cloV _=>true
 | .pair a b=>a.shared&&b.shared
 | .clo _ c=>c.shared
 | _=>false
def qb7:List PK→List AV→Bool
 | k::ks,a::avs=>(!k.plain||a.shared)&&qb7 ks avs
 | _,_=>true
def qbls (ks:List PK):Bool:=
 match ks.filter PK.lends with
 | []=>true
 | [_]=>ks.all fun k=>!k.gives
 | _=>false
def qbm (S:Rts) (site:Nat):(ks:List PK)→List AV→ODen ks→Option Rts
 | [],[],_=>some S
 | .mutp t _ m'::ks,a::avs,o=>
  match a with
  | .addr q []=>if m'.tagFree then qbm (S.setRoot q (some ⟨t,m'.stamp site,o.1,true⟩)) site ks avs o.2 else none
  | _=>none
 | .mutv t _ m'::ks,a::avs,o=>(qbeq S site t a m' o.1).bind fun S=>qbm S site ks avs o.2
 | .val _::ks,_::avs,o=>qbm S site ks avs o
 | .own _ _::ks,_::avs,o=>qbm S site ks avs o
 | .rptr _::ks,_::avs,o=>qbm S site ks avs o
 | .fn::ks,_::avs,o=>qbm S site ks avs o
 | _,_,_=>none
def RK.ty:RK→Ty
 | .val t _ | .ptr t _=>t
def RK.ms:RK→Mk
 | .val _ m | .ptr _ m=>m
def RK.isPtr:RK→Bool
 | .ptr _ _=>true
 | _=>false
def qc5:List RK→Ty
 | []=>.unit
 | k::ks=>.pair k.ty (qc5 ks)
def qkr:List RK→Mk
 | []=>.no
 | k::ks=>.pr k.ms (qkr ks)
def resX:(ks:List RK)→RDen ks→(qc5 ks).den
 | [],_=>()
 | .val _ _::ks,r=>(r.1,resX ks r.2)
 | .ptr _ _::ks,r=>(r.1,resX ks r.2)
structure Asks where
 men:Bool
 pl:Bool
 fr:Bool
 sh:Bool
def layT (A:Asks) (S:Rts) (d:Option Nat) (site:Nat) (t:Ty) (m:Mk) (x:t.den) (mem:Bool):Tr (AV×Rts):=
 match d with
 | none=>.ret (.undef,S)
 | some d=>
  if !Nat.blt d S.length||!Nat.blt site 1048576 then .fail
  else if mem then (if A.men then .ret (.addr d [],S.setRoot d (some ⟨t,m.stamp site,x,true⟩)) else .fail)
  else if m.still then .ret (.val t x,S)
  else if A.men||(A.fr&&m.tagFree&&A.pl) then .ret (avOf d t (m.stamp site) x [],S.setRoot d (some ⟨t,m.stamp site,x,false⟩)) else .fail
section ops
variable (C:Ctx) (D:Den C)
def qse (A:Asks) (S:Rts) (d:Option Nat) (site:Nat) (ks:List RK) (r:RDen ks):Tr (AV×Rts):=
 if (qkr ks).tagFree&&ks.all (fun k=>!k.isPtr&&k.ty.nz) then
  match d with
  | none=>.ret (.undef,S)
  | some d=>
   match layT A S (some d) site (qc5 ks) (qkr ks) (resX ks r) false with
   | .ret (v,S)=>.ret (.tup (qblh v),S)
   | _=>.fail
 else .fail
def qd3 (A:Asks) (S:Rts) (d:Option Nat) (site:Nat):(ks:List RK)→RDen ks→Tr (AV×Rts)
 | [],_=>.ret (.tup .unit,S)
 | [.val t m],r=>if A.sh then (if m.whole then .ret (.val t r.1,S) else .fail) else if m.tagFree then layT A S d site t m r.1 false else .fail
 | [.ptr t m],r=>if m.tagFree then layT A S d site t m r.1 true else .fail
 | ks,r=>qse A S d site ks r
def ql9 (A:Asks) (S:Rts) (d:Option Nat) (site:Nat) (g:FuncId) (args:List AV):Tr (AV×Rts):=
  match qbi S (C.sig g).params args with
  | none=>.fail
  | some (gd,S1)=>
  match qbg S1 (C.sig g).params args with
  | none=>.fail
  | some (od,S2)=>
  match qcj S2 (C.sig g).params args gd od with
  | none=>.fail
  | some a=>
    if qbls (C.sig g).params&&(qb7 (C.sig g).params args||(C.sig g).full) then
      .call (D g a) fun r=>
        if (C.sig g).params.all (fun k=>!k.lends) then qd3 A S1 d site (C.sig g).res r.1
        else if A.fr then
          .br (qkz (C.sig g).params args)
            (match qbm S1 site (C.sig g).params args r.2 with
             | none=>.fail
             | some S3=>qd3 A S3 d site (C.sig g).res r.1) .fail
        else .fail
    else .fail
def qb6 (S:Rts):List PK→List AV→Option (List AV×Rts)
 | [],[]=>some ([],S)
 | .val t::ks,a::avs=>
  if a.shared then (qb6 S ks avs).map fun z=>(a::z.1,z.2)
  else match tk S t a with
   | some (m,y,S1)=>if m.whole then (qb6 S1 ks avs).map fun z=>(.val t y::z.1,z.2) else none
   | none=>none
 | _::ks,a::avs=>(qb6 S ks avs).map fun z=>(a::z.1,z.2)
 | _,_=>none
def qbcz (s:Sig) (args:List AV):Bool:=!(qb7 s.params args||s.full)
def q8b (A:Asks) (S:Rts) (d:Option Nat) (site:Nat) (g:FuncId) (args:List AV):Tr (AV×Rts):=
 if qbcz (C.sig g) args then
  match qb6 S (C.sig g).params args with
  | some z=>ql9 C D A z.2 d site g z.1
  | none=>.fail
 else ql9 C D A S d site g args
def qmw:(ks:List PK)→List CapV→Option (PDen ks)
 | [],[]=>some ()
 | .val t::ks,.val t' x::l=>(qbq t' t x).bind fun x=>(qmw ks l).bind fun r=>some (x,r)
 | .rptr t::ks,.rptr t' x::l=>(qbq t' t x).bind fun x=>(qmw ks l).bind fun r=>some (x,r)
 | _,_=>none
def q60:(ks:List RK)→RDen ks→(t:Ty)→Option t.den
 | [.val t' _],r,t=>qbq t' t r.1
 | _,_,_=>none
def qbj (c:Clo) (xs:List CapV) (t:Ty):Option t.den:=
 (qmw (C.sig c.f).params (xs++c.caps)).bind fun a=>(D c.f a).bind fun r=>q60 (C.sig c.f).res r.1 t
def qxy (S:Rts):List Ty→List AV→Option (List CapV)
 | [],[]=>some []
 | t::ts,a::avs=>(rd S t a).bind fun x=>(qxy S ts avs).bind fun l=>some (.val t x::l)
 | _,_=>none
def Ty.scalar:Ty→Bool
 | .int _=>true
 | .bool=>true
 | .str=>true
 | _=>false
def qe2:AV→List AV
 | .pair a b=>a::qe2 b
 | _=>[]
def elMk:Mk→Option Mk
 | .own _ m=>some m
 | .no=>some .no
 | _=>none
def qvv (A:Asks) (S:Rts) (d:Option Nat) (site:Nat) (t:Ty) (x y:AV):Tr (AV×Rts):=
 match tk S (.sl t) x with
 | some (.own _ m,xs,S1)=>
  match tk S1 (.sl t) y with
  | some (my,ys,S2)=>
   match elMk my with
   | some m'=>
    if (m.meet m').tagFree then
     .br (decide (xs.length+ys.length≤qb8)) (layT A S2 d site (.sl t) (.own 0 (m.meet m')) (xs++ys) false) .fail
    else .fail
   | none=>.fail
  | none=>.fail
 | _=>.fail
def q7f (S:Rts) (t:Ty):AV→AV→Tr (AV×Rts)
 | .brw r p s,.val (.sl t2) ys=>
  match S.root r with
  | some R=>
   match V.focus R.ty R.ms R.x p with
   | some ⟨.sl t',.own s' m,xs⟩=>
    if s=s'∧t'=t∧t2=t∧m.still=true then
     match qbq (.sl t') (.sl t) xs,qbq (.sl t2) (.sl t) ys,put R.ty R.ms R.x p (.sl t') .no xs with
     | some xs',some ys',some r'=>.br (decide ((xs':List t.den).length+(ys':List t.den).length≤qb8)) (.ret (.val (.sl t) ((xs':List t.den)++(ys':List t.den)),S.setRoot r (some { R with ms:=r'.1,x:=r'.2 }))) .fail
     | _,_,_=>.fail
    else .fail
   | _=>.fail
  | none=>.fail
 | _,_=>.fail
def q40 (A:Asks) (S:Rts) (d:Option Nat) (site:Nat) (hint:Bool) (v:AV):Tr (AV×Rts):=
 match qbjd S v with
 | some t=>
  match tk S t v with
  | some (m,y,S1)=>
   if hint then (if m.whole then .ret (.val t y,S1) else .fail)
   else layT A S1 d site t m y false
  | none=>.fail
 | none=>.fail
def q4p:Option AV→Option Int
 | none=>some 0
 | some v=>(qt4 v).map (·.2)
def qzv (n:Int):Option AV→Option Int
 | none=>some n
 | some v=>(qt4 v).map (·.2)
def qbe8 (S:Rts) (e:Ty) (r:Nat) (p:Path) (s:Nat) (lo:AV) (hi:Option AV):Tr (AV×Rts):=
 match qt4 lo,hi with
 | some kl,none=>
  match S.focus r p with
  | some ⟨.sl e',.own s' _,xs⟩=>if s=s'∧e=e' then .br (decide (0≤kl.2)&&decide (kl.2≤((xs:List e'.den).length:Int))) (.ret (.view r p s kl.2.toNat (xs:List e'.den).length,S)) .fail else .fail
  | _=>.fail
 | _,_=>.fail
def qtz (t:Ty) (xs:List t.den) (lo hi:Nat):List t.den:=xs.take lo++List.replicate (hi - lo) t.zero++xs.drop hi
def qbdi (S:Rts) (t:Ty):AV→Tr (AV×Rts)
 | .view r p s lo hi=>
  match S.root r with
  | some R=>
   match V.focus R.ty R.ms R.x p with
   | some ⟨.sl t',.own s' m,xs⟩=>
    if s=s'∧t=t'∧m.still=true∧s'<1048576 then
     match put R.ty R.ms R.x p (.sl t') (.own s' m) (qtz t' xs lo hi) with
     | some r'=>.br (decide (lo<hi)) (.ret (.undef,S.setRoot r (some { R with ms:=r'.1,x:=r'.2 }))) (.ret (.undef,S))
     | none=>.fail
    else .fail
   | _=>.fail
  | none=>.fail
 | _=>.fail
def qoq (t:Ty) (xs ys:List t.den):List t.den:=ys.take xs.length++xs.drop ys.length
def qblf (S:Rts) (t:Ty):AV→AV→Tr (AV×Rts)
 | .brw r p s,.val (.sl t2) ys=>
  match S.root r with
  | some R=>
   match V.focus R.ty R.ms R.x p with
   | some ⟨.sl t',.own s' .no,xs⟩=>
    if s=s'∧t'=t∧t2=t∧s'<1048576 then
     match qbq (.sl t2) (.sl t') ys with
     | some ys'=>
      match put R.ty R.ms R.x p (.sl t') (.own s' .no) (qoq t' xs ys') with
      | some r'=>.br (decide (0<(ys':List t'.den).length)&&decide (0<(xs:List t'.den).length)) (.ret (.val (.int .i64) ((min (ys':List t'.den).length (xs:List t'.den).length:Nat):Int),S.setRoot r (some { R with ms:=r'.1,x:=r'.2 }))) (.ret (.val (.int .i64) ((0:Nat):Int),S))
      | none=>.fail
     | none=>.fail
    else .fail
   | _=>.fail
  | none=>.fail
 | _,_=>.fail
def q9w (A:Asks) (S:Rts) (T:Ty) (d:Option Nat) (site:Nat) (x:AV) (lo hi:Option AV):Tr (AV×Rts):=
 match x,T with
 | .val .str s,.str=>
  match q4p lo,qzv s.size hi with
  | some l,some h=>.br (decide (0≤l)&&decide (l≤h)&&decide (h≤(s.size:Int))) (.ret (.val .str (s.extract l.toNat h.toNat),S)) .fail
  | _,_=>.fail
 | .val (.sl e) xs,.sl e'=>
  match q4p lo,qzv xs.length hi with
  | some l,some h=>if e=e' then .br (decide (0≤l)&&decide (l≤h)&&decide (h≤(xs.length:Int))) (.ret (.val (.sl e) ((xs.take h.toNat).drop l.toNat),S)) .fail else .fail
  | _,_=>.fail
 | .brw r p s,.sl e=>
  match lo with
  | none=>
   match tk S (.sl e) (.brw r p s) with
   | some (.own _ m,xs,S2)=>
    match qzv xs.length hi with
    | some h=>if m.tagFree then (.br (decide (0≤h)&&decide (h≤(xs.length:Int))) (layT A S2 d site (.sl e) (.own 0 m) (xs.take h.toNat) false) .fail) else .fail
    | none=>.fail
   | _=>.fail
  | some v=>qbe8 S e r p s v hi
 | _,_=>.fail
def opT (A:Asks) (ρ:Operand→AV) (S:Rts) (site:Nat) (hint:Bool) (o:Oper):Tr (AV×Rts):=
 match o.op with
 | .move x=>.ret (ρ x,S)
 | .assign x=>
  match ρ x with
  | .brw r p s=>if qr p&&!hint then .ret (.brw r p s,S) else q40 A S o.dst site hint (.brw r p s)
  | .pair a b=>q40 A S o.dst site hint (.pair a b)
  | v=>.ret (v,S)
 | .pick c a b=>
  match asBool (ρ c) with
  | some c=>.br c (.ret (ρ a,S)) (.ret (ρ b,S))
  | none=>.fail
 | .alloc t=>if (C.ty t).nz then layT A S o.dst site (C.ty t) (Mk.top (C.ty t)) (C.ty t).zero true else .fail
 | .box t x=>
  if (C.ty t).nz then
   match tk S (C.ty t) (ρ x) with
   | some (m,y,S1)=>if hint then (if m.whole then layT A S1 o.dst site (C.ty t) .no y true else .fail) else layT A S1 o.dst site (C.ty t) m y true
   | none=>.fail
  else .fail
 | .build t parts=>
  if (C.ty t).nz&&(C.ty t).agg then
   match qcq S (C.ty t) (Mk.bld hint (C.ty t),(C.ty t).zero) (parts.toList.map fun p=>(p.1,ρ p.2)) with
   | some (m,y,S1)=>layT A S1 o.dst site (C.ty t) m y false
   | none=>.fail
  else .fail
 | .buildSlice t n parts=>
  match C.ty t with
  | .sl e=>
   match qhl S e (Mk.top e,List.replicate n e.zero) (parts.toList.map fun p=>(p.1,ρ p.2)) with
   | some (m,y,S1)=>
    if m.tagFree&&Nat.ble (n * e.width) 16777216 then
     (if hint then (if m.whole then .ret (.val (.sl e) y,S1) else .fail) else layT A S1 o.dst site (.sl e) (.own 0 m) y false)
    else .fail
   | none=>.fail
  | _=>.fail
 | .load t a=>if (C.ty t).nz then .of ((qmn S (C.ty t) (ρ a)).map fun v=>(v,S)) else .fail
 | .store t a x=>if (C.ty t).nz&&A.fr then .of ((qbfd S site hint (C.ty t) (ρ a) (ρ x)).map fun S=>(.undef,S)) else .fail
 | .nilCheck x=>
  match ρ x with
  | .addr r p=>match S.focus r p with | some _=>.ret (.addr r p,S) | none=>.fail
  | .raddr t x=>.ret (.raddr t x,S)
  | .clo f c=>.ret (.clo f c,S)
  | _=>.fail
 | .binOp op xt x y _=>
  match ρ y with
  | .nils=>
   match C.ty xt,op,qxq S (ρ x) with
   | .sl _,.eql,some n=>.nil n.toNat false fun b=>.ret (.val .bool b,S)
   | .sl _,.neq,some n=>.nil n.toNat true fun b=>.ret (.val .bool b,S)
   | _,_,_=>.fail
  | w=>
   match binT (C.ty xt) op (ρ x) w with
   | .ret v=>.ret (v,S)
   | .br c (.ret v) .fail=>.br c (.ret (v,S)) .fail
   | .br c .fail (.ret v)=>.br c .fail (.ret (v,S))
   | _=>.fail
 | .unOp op _ x=>
  match op,ρ x with
  | .not,.val .bool b=>.ret (.val .bool (!b),S)
  | .neg,.val (.int kd) n=>.ret (.val (.int kd) (kd.wrap (0 - n)),S)
  | _,_=>.fail
 | .convert src dst x=>
  match C.ty src,C.ty dst,ρ x with
  | .int _,.int kd,.val (.int _) n=>.ret (.val (.int kd) (kd.wrap n),S)
  | .str,.str,.val .str s=>.ret (.val .str s,S)
  | .sl (.int .u8),.str,v=>
   match rd S (.sl (.int .u8)) v with
   | some xs=>.ret (.val .str (ByteArray.mk (xs.map fun n=>UInt8.ofNat n.toNat).toArray),S)
   | none=>.fail
  | _,_,_=>.fail
 | .makeFunc (.func f) first caps=>if first.isEmpty then .ret (.clo f (caps.toList.foldr (fun x r=>.pair (ρ x) r) .unit),S) else .fail
 | .makeSlice t len cap=>
  match C.ty t,qt4 (ρ len),qt4 (ρ cap) with
  | .sl e,some (.i64,l),some (.i64,c)=>
   .br (decide (0≤l)&&decide (l≤c)&&decide (c≤(qb8:Int)))
    (layT A S o.dst site (.sl e) (.own 0 (Mk.top e)) (List.replicate l.toNat e.zero) false) .fail
  | _,_,_=>.fail
 | .slice t x lo hi none=>q9w A S (C.ty t) o.dst site (ρ x) (lo.map ρ) (hi.map ρ)
 | .fieldAddr s x f=>.of ((qis S (C.ty s) (ρ x) f).map fun v=>(v,S))
 | .field ts x f=>
  match ρ x with
  | .val t y=>
   if t=C.ty ts then
    match focus t .no y (q9 f) with
    | some dd=>.ret (.val dd.ty dd.x,S)
    | none=>.fail
   else .fail
  | _=>.fail
 | .indexAddr t x i=>
  match qbea S (C.ty t) (ρ x) (ρ i) with
  | .br c (.ret v) .fail=>.br c (.ret (v,S)) .fail
  | _=>.fail
 | .index t x i=>
  match C.ty t,ρ x,qt4 (ρ i) with
  | .str,.val .str s,some (_,n)=>.br (decide (0≤n)&&decide (n<(s.size:Int))) (.ret (.val (.int .u8) ((s.data.getD n.toNat 0).toNat:Int),S)) .fail
  | _,_,_=>.fail
 | .extract x i=>.of ((q1i (ρ x) i).map fun v=>(v,S))
 | .call c=>
  match c.callee with
  | .builtin b=>
   match b,c.args.toList.map ρ,c.argTypes.toList.map C.ty with
   | .len,[.val .str s],.str::_=>.ret (.val (.int .i64) (s.size:Nat),S)
   | .len,[x],.sl _::_=>.of ((qxq S x).map fun n=>(.val (.int .i64) n,S))
   | .append,[x,y],.sl t::.sl t'::_=>if t=t' then (if hint then q7f S t x y else qvv A S o.dst site t x y) else .fail
   | .clear,[x],.sl t::_=>qbdi S t x
   | .copy,[x,y],.sl t::_=>qblf S t x y
   | .min,[x,y],_=>match x,y with | .val (.int ka) a,.val (.int kb) b=>if ka=kb then .ret (.val (.int ka) (if b<a then b else a),S) else .fail | _,_=>.fail
   | .max,[x,y],_=>match x,y with | .val (.int ka) a,.val (.int kb) b=>if ka=kb then .ret (.val (.int ka) (if b>a then b else a),S) else .fail | _,_=>.fail
   | _,_,_=>.fail
  | .value f=>
   match ρ f with
   | .clo g caps=>q8b C D { A with sh:=hint } S o.dst site g (c.args.toList.map ρ++qe2 caps)
   | .cloV f=>
    if (C.ty o.type).scalar then
     match qxy S (c.argTypes.toList.map C.ty) (c.args.toList.map ρ) with
     | some xs=>.call (qbj C D f xs (C.ty o.type)) fun x=>.ret (.val (C.ty o.type) x,S)
     | none=>.fail
    else .fail
   | _=>.fail
  | _=>.fail
 | _=>.fail
end ops
def AV.stampsOk (lo hi:Nat):AV→Bool
 | .brw _ p s=>!(Nat.ble lo s&&Nat.blt s hi)&&qcr lo hi p
 | .view _ p s _ _=>!(Nat.ble lo s&&Nat.blt s hi)&&qcr lo hi p
 | .addr _ p=>qcr lo hi p
 | .pair a b=>a.stampsOk lo hi&&b.stampsOk lo hi
 | .tup a=>a.stampsOk lo hi
 | .clo _ c=>c.stampsOk lo hi
 | _=>true
def quc (s:Nat):List AV→Bool
 | []=>true
 | v::l=>v.stampsOk s (s+1)&&quc s l
def qdc (sl:List AV) (d:Option Nat) (s:Nat):Asks where
 men:=match d with | some d=>qba4 d 0 sl | none=>true
 pl:=match d with | some d=>q0m d 0 sl | none=>true
 fr:=Nat.blt s 1048576&&quc s sl
 sh:=false
end
end Go.V

namespace Go.V
noncomputable section
open Go
inductive Ex where
 | normal | exit (id:Nat) | ret
section
variable (C:Ctx) (D:Den C) {R:Type}
def q97 (S:St) (o:Oper) (v:AV):St:=
 match o.dst with
 | some d=>S.set d v
 | none=>S
def qe5 (ops:Array Oper) (j:Nat):Nat:=((ops[j]?).bind (·.dst)).getD 0
def qlo:Path→List Nat
 | []=>[]
 | .idx _ s::p=>s::qlo p
 | _::p=>qlo p
def AV.stamps:AV→List Nat
 | .brw _ p s=>s::qlo p
 | .view _ p s _ _=>s::qlo p
 | .addr _ p=>qlo p
 | .pair a b=>a.stamps++b.stamps
 | .tup a=>a.stamps
 | .clo _ c=>c.stamps
 | _=>[]
structure Ent where
 i:Nat
 rd:List Nat
 st:List Nat
 site:Nat
 wr:Option (List Nat)
 io:Option (Rts×Rts)
 dst:Option Nat
 ld:Option ((Rts→Option AV)×AV)
 bl:Bool
 lc:Bool
abbrev Log:=List Ent
def qbxs (ops:Array Oper) (c:Nat):Nat→Oper→Bool
 | 0,_=>false
 | n+1,o=>
  match o.guard with
  | none=>false
  | some (j,_)=>Nat.beq (qe5 ops j) c||(match ops[j]? with | some oj=>qbxs ops c n oj | none=>false)
def qgq (ops:Array Oper) (i:Nat) (o:Oper):List Nat:=
 match o.op with
 | .pick (.tmp c) _ _=>(ops.toList.take i).filterMap fun o'=>if qbxs ops c 8 o' then o'.dst else none
 | _=>[]
def St.forget (S:St):List Nat→St
 | []=>S
 | t::ts=>(S.set t .undef).forget ts
def fin (ops:Array Oper) (S:St) (i:Nat) (o:Oper) (v:AV):St:=q97 (S.forget (qgq ops i o)) o v
def ql:List AV→List Nat
 | []=>[]
 | v::l=>v.roots++ql l
def q85 (S:St) (o:Oper):List AV:=o.op.operands.toList.map (ev S)
def qd5:List PK→List AV→List Nat
 | k::ks,a::avs=>if k.plain then qd5 ks avs else a.roots++qd5 ks avs
 | _,_=>[]
def qbif (s:Sig):Bool:=s.params.all PK.plain&&s.res.all (fun k=>!k.isPtr&&k.ms.still)
def Ty.flat:Ty→Bool
 | .sl _=>false
 | .pair a b=>a.flat&&b.flat
 | _=>true
def AV.isVal:AV→Bool
 | .val _ _=>true
 | .litB _=>true
 | _=>false
def qv6 (ρ:Operand→AV) (l:List (Nat×Operand)):Bool:=l.all fun p=>(ρ p.2).isVal
def wrOf (ρ:Operand→AV) (o:Oper):Option (List Nat):=
 let all:=some (o.dst.toList++ql (o.op.operands.toList.map ρ))
 match o.op with
 | .move _ | .pick _ _ _ | .load _ _ | .nilCheck _ | .binOp _ _ _ _ _ | .unOp _ _ _ | .convert _ _ _ | .makeFunc _ _ _ | .fieldAddr _ _ _ | .field _ _ _ | .indexAddr _ _ _ | .index _ _ _ | .extract _ _=>none
 | .assign x=>match ρ x with | .brw _ _ _=>all | .pair _ _=>all | _=>none
 | .build t parts=>if (C.ty t).flat&&qv6 ρ parts.toList then none else all
 | .call c=>
  match c.callee with
  | .builtin .len | .builtin .min | .builtin .max=>none
  | .builtin _=>all
  | .value f=>
   match ρ f with
   | .clo g caps=>if qbcz (C.sig g) (c.args.toList.map ρ++qe2 caps) then all else if qbif (C.sig g) then none else some (o.dst.toList++qd5 (C.sig g).params (c.args.toList.map ρ++qe2 caps))
   | .cloV _=>none
   | _=>all
  | _=>all
 | _=>all
def PK.loc:PK→Bool
 | .own _ _ | .mutv _ _ _=>false
 | _=>true
def qrz (ρ:Operand→AV) (o:Oper):Bool:=
 match o.op with
 | .alloc _ | .box _ _ | .build _ _ | .buildSlice _ _ _ | .makeSlice _ _ _ | .slice _ _ _ _ none=>true
 | .call c=>
  match c.callee with
  | .builtin .append=>
   match c.args.toList.map ρ with
   | .brw _ p _::_=>!qr p
   | _=>true
  | .value f=>
   match ρ f with
   | .clo g _=>(C.sig g).params.all PK.loc
   | _=>false
  | _=>false
 | _=>false
def rootsAt (S:St):List Nat→List Nat
 | []=>[]
 | t::ts=>(S.get t).roots++rootsAt S ts
def stampsAt (S:St):List Nat→List Nat
 | []=>[]
 | t::ts=>(S.get t).stamps++stampsAt S ts
def qcs (ops:Array Oper) (i:Nat) (o:Oper):List Nat:=o.dst.toList++qgq ops i o
def qho (o:Oper):Bool:=
 match o.op with
 | .move _ | .pick _ _ _ | .unOp _ _ _ | .makeFunc _ _ _ | .field _ _ _ | .extract _ _=>true
 | _=>false
def ldOf (ρ:Operand→AV) (o:Oper) (v:AV):Option ((Rts→Option AV)×AV):=
 match o.op with
 | .load t a=>some (fun S=>if (C.ty t).nz then qmn S (C.ty t) (ρ a) else none,v)
 | .fieldAddr s x f=>some (fun S=>qis S (C.ty s) (ρ x) f,v)
 | _=>none
def qdb (ops:Array Oper) (S:St) (site i:Nat) (o:Oper) (v:AV) (rt':Rts):Ent:=
 ⟨i,v.roots++((if qho o then [] else ql (q85 S o))++rootsAt S (qcs ops i o)),v.stamps++stampsAt S (qcs ops i o),site,wrOf C (ev S) o,(match wrOf C (ev S) o,qrz C (ev S) o with | some _,false=>some (S.rt,rt') | _,_=>none),o.dst,ldOf C (ev S) o v,qho o,qrz C (ev S) o⟩
def qfa (ops:Array Oper) (S:St) (site i:Nat) (o:Oper):Ent:=⟨i,rootsAt S (qcs ops i o),stampsAt S (qcs ops i o),site,none,none,none,none,true,false⟩
def qj5 (M:Array Nat) (i j:Nat):Bool:=(M.getD j 0).testBit i||(M.getD i 0).testBit j
def disj:List Nat→List Nat→Bool
 | [],_=>true
 | a::l,l'=>!(l'.contains a)&&disj l l'
def qbks (w:List Nat) (e f:Ent):Bool:=disj w f.rd&&!f.st.contains e.site
def qqj:Path→Path→Bool
 | [],[]=>true
 | .fst::p,.fst::q=>qqj p q
 | .snd::p,.snd::q=>qqj p q
 | _,_=>false
def qbe0 (S:Rts) (l:(Rts→Option AV)×AV):Bool:=
 match l.1 S,l.2 with
 | some (.brw r p s),.brw r' p' s'=>Nat.beq r r'&&qqj p p'&&Nat.beq s s'
 | some (.addr r p),.addr r' p'=>Nat.beq r r'&&qqj p p'
 | _,_=>false
def qbqz (e f:Ent):Bool:=
 (f.bl||(match f.ld,e.io with
  | some l,some io=>qbe0 io.1 l&&qbe0 io.2 l
  | _,_=>false))&&disj e.dst.toList f.rd&&!f.st.contains e.site
def Ent.free (e f:Ent):Bool:=
 match e.wr,f.wr with
 | none,none=>true
 | some w,none=>qbks w e f||qbqz e f
 | none,some w=>qbks w f e||qbqz f e
 | some w,some w'=>(e.lc&&f.lc)&&((disj w f.rd&&disj w w')&&(disj w' e.rd&&disj w' w))&&(!e.st.contains f.site&&!f.st.contains e.site)
def qbe3 (M:Array Nat) (e:Ent):Log→Bool
 | []=>true
 | f::l=>(Nat.beq e.i f.i||qj5 M e.i f.i||e.free f)&&qbe3 M e l
def qvq (M:Array Nat) (all:Log):Log→Bool
 | []=>true
 | e::l=>(match e.wr with | none=>true | some _=>qbe3 M e all)&&qvq M all l
def qo1 (ops:Array Oper) (o:Oper):List Nat:=
 (match o.guard with | some (j,_)=>[qe5 ops j] | none=>[])++o.op.operands.toList.filterMap fun x=>match x with | .tmp t=>some t | _=>none
def qnp (ops:Array Oper) (i j:Nat) (x y:Oper):Bool:=
 disj (qcs ops i x) (qo1 ops y)&&disj (qcs ops i x) (qcs ops j y)&&disj (qcs ops j y) (qo1 ops x)
def qbbs (M:Array Nat) (ops:Array Oper) (i:Nat) (x:Oper):List (Nat×Oper)→Bool
 | []=>true
 | (j,y)::l=>(qj5 M i j||qnp ops i j x y)&&qbbs M ops i x l
def quu (M:Array Nat) (ops:Array Oper):List (Nat×Oper)→Bool
 | []=>true
 | (i,x)::l=>qbbs M ops i x l&&quu M ops l
def qga (o:Oper):Bool:=
 match o.op with
 | .move _ | .pick _ _ _ | .unOp _ _ _ | .fieldAddr _ _ _ | .field _ _ _ | .load _ _ | .extract _ _=>true
 | .binOp op _ _ _ _=>match op with | .eql | .neq | .lss | .leq | .gtr | .geq | .sub | .mul=>true | _=>false
 | .call c=>match c.callee with | .builtin .len=>true | _=>false
 | _=>false
def qbtq (t:Nat) (o:Oper):Bool:=
 match o.op with
 | .pick (.tmp c) _ _=>Nat.beq c t
 | _=>false
def q1t (t:Nat):List (Nat×Oper)→Option (List (Nat×Oper)×(Nat×Oper)×List (Nat×Oper))
 | []=>none
 | x::l=>if qbtq t x.2 then some ([],x,l) else match q1t t l with
  | some y=>some (x::y.1,y.2)
  | none=>none
def qb1p (ops:Array Oper) (S:St) (D:List Nat) (o:Oper):Bool:=
 match o.guard with
 | none=>true
 | some (j,b)=>!D.contains (qe5 ops j)&&(match S.get (qe5 ops j) with | .litB c=>c == b | _=>false)
def opAt (S:St) (site:Nat) (hint:Bool) (o:Oper):Tr (AV×Rts):=opT C D (qdc S.sl o.dst site) (ev S) S.rt site hint o
def qbkc (ops:Array Oper) (id:Nat) (rec_:List (Nat×Oper)→St→Log→Option (St×Log)) (t:Nat) (c:Bool) (l:List (Nat×Oper)) (S:St) (lg:Log) :
  Option (St×Log×List (Nat×Oper)):=
 match q1t t l with
 | some (seg,(i,o),rest)=>
  let D:=qgq ops i o
  if seg.all (fun x=>qga x.2&&(qcs ops x.1 x.2).all D.contains)&&qb1p ops S D o&&!D.contains t then
   match o.op,rec_ seg (S.set t (.litB true)) [],rec_ seg (S.set t (.litB false)) [] with
   | .pick _ a b,some (S1,l1),some (S2,l2)=>
    match asBool (ev S1 a),asBool (ev S2 b) with
    | some x,some y=>some (fin ops S i o (.val .bool (cond c x y)),
      qdb C ops S1 (id * 256+i+1) i o (.val .bool x) S1.rt::qdb C ops S2 (id * 256+i+1) i o (.val .bool y) S2.rt::(l1++(l2++lg)),rest)
    | _,_=>none
   | _,_,_=>none
  else none
 | _=>none
noncomputable def segR (id:Nat) (ops:Array Oper):Nat→List (Nat×Oper)→St→Log→Option (St×Log)
 | 0,_,_,_=>none
 | _+1,[],S,lg=>some (S,lg)
 | n+1,(i,o)::rest,S,lg=>
  let site:=id * 256+i+1
  let go:=match opAt C D S site false o with
   | .ret (v,rt')=>segR id ops n rest (fin ops ⟨S.sl,rt'⟩ i o v) (qdb C ops S site i o v rt'::lg)
   | _=>none
  match o.guard with
  | none=>go
  | some (j,b)=>
   match S.get (qe5 ops j) with
   | .skip=>segR id ops n rest (fin ops S i o .skip) (qfa ops S site i o::lg)
   | .litB c=>if c=b then go else segR id ops n rest (fin ops S i o .skip) (qfa ops S site i o::lg)
   | .val .bool c=>
    match qbkc C ops id (segR id ops n) (qe5 ops j) c ((i,o)::rest) S lg with
    | some (S',lg,rest)=>segR id ops n rest S' lg
    | none=>none
   | _=>none
noncomputable def qmm (H:Hints) (id:Nat) (ops:Array Oper):Nat→List (Nat×Oper)→St→Log→(Log→St→Option R)→Option R
 | 0,_,_,_,_=>none
 | _+1,[],S,lg,k=>k lg S
 | n+1,(i,o)::rest,S,lg,k=>
  let site:=id * 256+i+1
  let go:=fun (S:St)=>(opAt C D S site (H.share.contains (id,i)) o).run fun x=>qmm H id ops n rest (fin ops ⟨S.sl,x.2⟩ i o x.1) (qdb C ops S site i o x.1 x.2::lg) k
  let skip:=fun (S:St)=>qmm H id ops n rest (fin ops S i o .skip) (qfa ops S site i o::lg) k
  match o.guard with
  | none=>go S
  | some (j,b)=>
   match S.get (qe5 ops j) with
   | .skip=>skip S
   | .litB c=>if c=b then go S else skip S
   | .val .bool c=>
    match qbkc C ops id (segR C D id ops n) (qe5 ops j) c ((i,o)::rest) S lg with
    | some (S',lg,rest)=>qmm H id ops n rest S' lg k
    | none=>
     br c
      (if b=true then go (S.set (qe5 ops j) (.litB true)) else skip (S.set (qe5 ops j) (.litB true)))
      (if b=false then go (S.set (qe5 ops j) (.litB false)) else skip (S.set (qe5 ops j) (.litB false)))
   | _=>none
def qbbk (body:St→(Ex→St→Option R)→Option R) (canon canonOut:St→St):Nat→St→(Ex→St→Option R)→Option R
 | 0,_,_=>none
 | n+1,S,k=>body (canon S) fun e S=>match e with
  | .normal=>qbbk body canon canonOut n S k
  | e=>k e (canonOut S)
def Mk.prN:Mk→Mk→Mk
 | .no,.no=>.no
 | a,b=>.pr a b
def Mk.restamp:Mk→Mk
 | .no=>.no
 | .gone=>.gone
 | .own s m=>.own (if s<1048576 then 0 else s) m.restamp
 | .pr a b=>Mk.prN a.restamp b.restamp
def Stp.zero:Stp→Stp
 | .idx i s=>.idx i (if s<1048576 then 0 else s)
 | p=>p
def AV.canon (S:St):AV→AV
 | .brw r p s=>
  match S.focus r p with
  | some ⟨.sl _,.own s' _,_⟩=>if s=s' then .brw r (p.map Stp.zero) (if s<1048576 then 0 else s) else .undef
  | _=>.undef
 | .addr r p=>
  match S.focus r p with
  | some _=>.addr r (p.map Stp.zero)
  | _=>.undef
 | .pair a b=>.pair (a.canon S) (b.canon S)
 | .clo f c=>.clo f (c.canon S)
 | .tup a=>.undef
 | .view _ _ _ _ _=>.undef
 | v=>v
def q1n (x:Option Root):Option Root:=x.bind fun R=>match R.ms with | .gone=>none | _=>some { R with ms:=R.ms.restamp }
def qzy (ment:List Nat):Nat→List (Option Root)→List (Option Root)
 | _,[]=>[]
 | i,x::l=>
  (if ment.contains i then q1n x else none)
   :: qzy ment (i+1) l
def q0t (S:St) (keep:List Nat):Nat→List AV→List AV
 | _,[]=>[]
 | i,x::l=>(if keep.contains i then x.canon S else .undef)::q0t S keep (i+1) l
def St.canon (keep extra:List Nat) (S:St):St:=
 let sl:=q0t S keep 0 S.sl
 ⟨sl,qzy (extra++sl.flatMap AV.roots) 0 S.rt⟩
def qny:Code→Nat
 | .region id _ _=>id
 | .seq a _=>qny a
 | .block _ b=>qny b
 | .loop b=>qny b
 | _=>0
def qfe (ops:Array Oper):List (Nat×Oper):=ops.toList.zipIdx.map fun x=>(x.2,x.1)
def q52 (ops:Array Oper):Bool:=ops.toList.all fun o=>match o.guard with | none=>true | some (j,_)=>((ops[j]?).bind (·.dst)).isSome
def qzj (ops:Array Oper):Bool:=(qfe ops).all fun x=>x.2.after.all fun e=>!Region.binds .any e||Nat.blt e.on x.1
def cutC (H:Hints) (b:Code) (S:St):St:=
 match H.keep.lookup (100000+qny b) with
 | some kp=>St.canon kp.1 kp.2.2 S
 | none=>S
noncomputable def exec (H:Hints) (n:Nat):Code→St→(Ex→St→Option R)→Option R
 | .skip,S,k=>k .normal S
 | .region id ops dr,S,k=>
  if q52 ops then
   qmm C D H id ops (ops.size+1) (qfe ops) S [] fun lg S=>
    if dr then (if qzj ops&&qvq (Region.before ops) lg lg&&quu (Region.before ops) ops (qfe ops) then k .normal S else none) else k .normal S
  else none
 | .seq a b,S,k=>exec H n a S fun e S=>match e with
  | .normal=>exec H n b (cutC H b S) k
  | e=>k e S
 | .cond c a b,S,k=>
  match asBool (ev S c) with
  | some t=>br t (exec H n a S k) (exec H n b S k)
  | none=>none
 | .block id b,S,k=>exec H n b S fun e S=>match e with
  | .exit j=>if j=id then k .normal S else k (.exit j) S
  | e=>k e S
 | .loop b,S,k=>
  match H.keep.lookup (qny b) with
  | some kp=>qbbk (exec H n b) (St.canon kp.1 kp.2.2) (St.canon kp.2.1 kp.2.2) n S k
  | none=>none
 | .exit id,S,k=>k (.exit id) S
 | .ret,S,k=>k .ret S
 | _,_,_=>none
def Mk.tag:Mk→Nat→Mk×Nat
 | .no,n=>(.no,n)
 | .gone,n=>(.gone,n)
 | .own _ m,n=>(.own n m,n+1)
 | .pr a b,n=>let x:=a.tag n;let y:=b.tag x.2;(.pr x.1 y.1,y.2)
def qblb (i:Nat) (m:Mk):Mk:=(m.tag (1048576+64 * i)).1
def enter (S:St):Nat→(ks:List PK)→PDen ks→St
 | _,[],_=>S
 | i,.val t::ks,a=>enter (S.set i (.val t a.1)) (i+1) ks a.2
 | i,.rptr t::ks,a=>enter (S.set i (.raddr t a.1)) (i+1) ks a.2
 | i,.own t m::ks,a=>enter ((S.setRoot i (some ⟨t,m,a.1,false⟩)).set i (avOf i t m a.1 [])) (i+1) ks a.2
 | i,.mutp t m _::ks,a=>enter ((S.setRoot i (some ⟨t,m,a.1,true⟩)).set i (.addr i [])) (i+1) ks a.2
 | i,.mutv t m _::ks,a=>enter ((S.setRoot i (some ⟨t,qblb i m,a.1,false⟩)).set i (avOf i t (qblb i m) a.1 [])) (i+1) ks a.2
 | i,.fn::ks,a=>enter (S.set i (.cloV a.1)) (i+1) ks a.2
def qbkl (C:Ctx) (S:St):ResultVar→Option AV
 | .tmp t=>some (S.get t)
 | .cell a t=>if (C.ty t).nz then qmn S.rt (C.ty t) (S.get a) else none
def qoj (C:Ctx):(ks:List RK)→List ResultVar→St→Option (RDen ks×St)
 | [],[],S=>some ((),S)
 | .val t m::ks,v::vs,S=>
  (qbkl C S v).bind fun a=>
  (tk S.rt t a).bind fun x=>if m.serves x.1 then (qoj C ks vs ⟨S.sl,x.2.2⟩).bind fun r=>some ((x.2.1,r.1),r.2) else none
 | .ptr t m::ks,v::vs,S=>
  match qbkl C S v with
  | some (.addr q [])=>
   match S.root q with
   | some R=>if R.mem∧m.serves R.ms then (qbq R.ty t R.x).bind fun x=>(qoj C ks vs (S.setRoot q none)).bind fun r=>some ((x,r.1),r.2) else none
   | none=>none
  | _=>none
 | _,_,_=>none
def Mk.same:(was now:Mk)→Bool
 | .no,h=>h.still
 | .own s _,h=>
  match h with
  | .own s' _=>s=s'
  | _=>false
 | .pr a b,h=>
  match h with
  | .pr c d=>a.same c&&b.same d
  | .no=>a.same .no&&b.same .no
  | _=>false
 | .gone,_=>false
def outs (H:Hints):Nat→(ks:List PK)→St→Option (ODen ks)
 | _,[],_=>some ()
 | i,.mutp t _ m'::ks,S=>
  match S.get i with
  | .addr q []=>
   match S.root q with
   | some R=>if R.mem∧m'.serves R.ms then (qbq R.ty t R.x).bind fun x=>(outs H (i+1) ks (S.setRoot q none)).bind fun r=>some (x,r) else none
   | none=>none
  | _=>none
 | i,.mutv t m m'::ks,S=>
  let q:=(H.outs.lookup i).getD i
  match S.root q with
  | some R=>if m'.serves R.ms∧(qblb i m).same R.ms then (qbq R.ty t R.x).bind fun x=>(outs H (i+1) ks (S.setRoot q none)).bind fun r=>some (x,r) else none
  | none=>none
 | i,.val _::ks,S=>outs H (i+1) ks S
 | i,.own _ _::ks,S=>outs H (i+1) ks S
 | i,.rptr _::ks,S=>outs H (i+1) ks S
 | i,.fn::ks,S=>outs H (i+1) ks S
def q4s (np:List Nat) (ops:Array Oper):Bool:=ops.toList.all fun o=>match o.dst with | some d=>!np.contains d | none=>true
def qgi:Nat→List PK→List Nat
 | _,[]=>[]
 | i,.mutp _ _ _::ks=>i::qgi (i+1) ks
 | i,_::ks=>qgi (i+1) ks
def qgo (np:List Nat):Code→Bool
 | .region _ ops _=>q4s np ops
 | .seq a b=>qgo np a&&qgo np b
 | .cond _ a b=>qgo np a&&qgo np b
 | .block _ b=>qgo np b
 | .loop b=>qgo np b
 | _=>true
def qba:Ty→Mk→Bool
 | .sl _,.own _ _=>true
 | .pair a b,.pr x y=>qba a x&&qba b y
 | .unit,.no=>true
 | _,_=>false
def PK.enterOk:PK→Bool
 | .own t m=>t.nz&&m.tagFree
 | .mutp _ m _=>m.tagFree
 | .mutv t m _=>t.nz&&(m.tagFree&&(qba t m&&Nat.ble t.width 64))
 | _=>true
noncomputable def runF (n:Nat) (fn:Func) (H:Hints) (ks:List PK) (rs:List RK) (a:PDen ks):Option (RDen rs×ODen ks):=
 match fn.body with
 | none=>none
 | some c=>
  if ks.all PK.enterOk&&(Nat.ble ks.length fn.ntmps&&qgo (qgi 0 ks) c) then
  exec C D H n c (enter ⟨List.replicate fn.ntmps .undef,List.replicate fn.ntmps none⟩ 0 ks a) fun e S=>
   match e with
   | .exit _=>none
   | _=>(qoj C rs fn.results.toList S).bind fun r=>(outs H 0 ks r.2).bind fun o=>some (r.1,o)
  else none
end
structure Code' where
 func:FuncId→Option Func
noncomputable def Dn (C:Ctx) (E:Den C) (isExt:FuncId→Bool) (func:FuncId→Option Func):Nat→Den C
 | 0,_=>fun _=>none
 | n+1,g=>fun a=>
  if isExt g then E g a else
  match func g with
  | none=>none
  | some fn=>runF C (Dn C E isExt func n) n fn (C.hints g) (C.sig g).params (C.sig g).res a
end
end Go.V

namespace Go.V
noncomputable section
open Go
abbrev BS:=Nat→Prop
def Sub (F G:BS):Prop:=∀ b,F b→G b
def Dis (F G:BS):Prop:=∀ b,F b→G b→False
def Nil:BS:=fun _=>False
theorem Sub.refl (F:BS):Sub F F:=fun _ h=>h
theorem Sub.trans {F G H:BS} (h:Sub F G) (h':Sub G H):Sub F H:=fun b x=>h' b (h b x)
theorem Sub.nil (F:BS):Sub Nil F:=fun _ h=>h.elim
theorem Dis.symm {F G:BS} (h:Dis F G):Dis G F:=fun b x y=>h b y x
theorem Dis.mono {F G F' G':BS} (h:Dis F G) (hf:Sub F' F) (hg:Sub G' G):Dis F' G':=fun b x y=>h b (hf b x) (hg b y)
theorem Dis.nil (F:BS):Dis Nil F:=fun _ h _=>h.elim
def qcn (h:Array Obj) (b:Nat) (cs:Array Value):Prop:=
 ∃ e lo hi,h[b]? = some (.cells cs e (lo,hi))∧∀ i,i≤cs.size→¬ (lo≤i∧i<hi)
def Blk (h:Array Obj) (b:Nat) (cs:Array Value):Prop:=∃ e fr,h[b]? = some (.cells cs e fr)
theorem qcn.blk {h:Array Obj} {b:Nat} {cs:Array Value} (x:qcn h b cs):Blk h b cs:=let ⟨e,lo,hi,he,_⟩:=x;⟨e,(lo,hi),he⟩
theorem qcn.congr {h h':Array Obj} {b:Nat} {cs:Array Value} (x:qcn h b cs) (e:h'[b]? = h[b]?):qcn h' b cs:=
 let ⟨t,lo,hi,he,hf⟩:=x;⟨t,lo,hi,e.trans he,hf⟩
theorem Blk.congr {h h':Array Obj} {b:Nat} {cs:Array Value} (x:Blk h b cs) (e:h'[b]? = h[b]?):Blk h' b cs:=
 let ⟨t,fr,he⟩:=x;⟨t,fr,e.trans he⟩
def sub (cs:Array Value) (off n:Nat):List Value:=(cs.toList.drop off).take n
def Rep (h:Array Obj) (Pr:BS):(t:Ty)→Mk→t.den→List Value→BS→Prop
 | .unit,_,_,c,_=>c=[]
 | .int k,_,x,c,_=>c=[.int k x]
 | .bool,_,x,c,_=>c=[.bool x]
 | .str,_,x,c,_=>c=[.string x]
 | .pair a b,m,x,c,F=>∃ ca cb Fa Fb,c=ca++cb∧Rep h Pr a m.fst x.1 ca Fa∧Rep h Pr b m.snd x.2 cb Fb∧
   Sub Fa F∧Sub Fb F∧Dis Fa Fb
 | .sl t,.gone,xs,c,F=>∃ a n k,c=[.slice a n k]
 | .sl t,.own _ mi,xs,c,F=>∃ a cap,c=[.slice a xs.length cap]∧xs.length≤cap∧
   (cap=0∨∃ b cs,a=some ⟨b,0,none⟩∧F b∧qcn h b cs∧cap * t.width≤cs.size∧
    ∃ Fs:Nat→BS,(∀ i,Sub (Fs i) F∧¬ Fs i b)∧(∀ i j,i≠j→Dis (Fs i) (Fs j))∧
     ∀ i,i<xs.length→Rep h Pr t mi (xs.getD i t.zero) (sub cs (i * t.width) t.width) (Fs i))
 | .sl t,_,xs,c,F=>∃ a cap,c=[.slice a xs.length cap]∧xs.length≤cap∧
   (xs≠[]→∃ b o cs,a=some ⟨b,o,none⟩∧Pr b∧Blk h b cs∧o+xs.length * t.width≤cs.size∧
    ∀ i,i<xs.length→Rep h Pr t .no (xs.getD i t.zero) (sub cs (o+i * t.width) t.width) Nil)
theorem Rep.width {h:Array Obj} {Pr:BS}:∀ (t:Ty) {m:Mk} {x:t.den} {c:List Value} {F:BS},Rep h Pr t m x c F→c.length=t.width
 | .unit,_,_,_,_,r=>by simp only[Rep] at r;subst r;rfl
 | .int k,_,_,_,_,r=>by simp only[Rep] at r;subst r;rfl
 | .bool,_,_,_,_,r=>by simp only[Rep] at r;subst r;rfl
 | .str,_,_,_,_,r=>by simp only[Rep] at r;subst r;rfl
 | .pair a b,_,_,_,_,r=>by
  simp only[Rep] at r
  obtain ⟨ca,cb,Fa,Fb,rfl,ra,rb,_⟩:=r
  simp[Ty.width,Rep.width a ra,Rep.width b rb]
 | .sl t,m,_,_,_,r=>by
  cases m<;>simp only[Rep] at r
  ·obtain ⟨_,_,rfl,_⟩:=r;rfl
  ·obtain ⟨_,_,_,rfl⟩:=r;rfl
  ·obtain ⟨_,_,rfl,_⟩:=r;rfl
  ·obtain ⟨_,_,rfl,_⟩:=r;rfl
theorem Rep.mono {h h':Array Obj} {Pr Pr':BS} (hp:Sub Pr Pr') (hpr:∀ b,Pr b→h'[b]? = h[b]?) :
  ∀ (t:Ty) {m:Mk} {x:t.den} {c:List Value} {F F':BS},Rep h Pr t m x c F→Sub F F'→(∀ b,F b→h'[b]? = h[b]?)→Rep h' Pr' t m x c F'
 | .unit,_,_,_,_,_,r,_,_=>by simpa only [Rep] using r
 | .int k,_,_,_,_,_,r,_,_=>by simpa only [Rep] using r
 | .bool,_,_,_,_,_,r,_,_=>by simpa only [Rep] using r
 | .str,_,_,_,_,_,r,_,_=>by simpa only [Rep] using r
 | .pair a b,_,_,_,_,_,r,hf,hk=>by
  simp only[Rep] at r ⊢
  obtain ⟨ca,cb,Fa,Fb,rfl,ra,rb,sa,sb,d⟩:=r
  exact ⟨ca,cb,Fa,Fb,rfl,Rep.mono hp hpr a ra (Sub.refl _) (fun b hb=>hk b (sa b hb)),Rep.mono hp hpr b rb (Sub.refl _) (fun b hb=>hk b (sb b hb)),
   sa.trans hf,sb.trans hf,d⟩
 | .sl t,m,_,_,_,_,r,hf,hk=>by
  cases m<;>simp only[Rep] at r ⊢
  ·obtain ⟨a,cap,rfl,hl,r⟩:=r
   refine ⟨a,cap,rfl,hl,fun hne=>?_⟩
   obtain ⟨b,o,cs,rfl,pb,hb,hs,re⟩:=r hne
   exact ⟨b,o,cs,rfl,hp b pb,hb.congr (hpr b pb),hs,fun i hi=>Rep.mono hp hpr t (re i hi) (Sub.refl _) (fun _ h=>h.elim)⟩
  ·exact r
  ·obtain ⟨a,cap,rfl,hl,r⟩:=r
   refine ⟨a,cap,rfl,hl,?_⟩
   rcases r with r | ⟨b,cs,rfl,fb,hb,hs,Fs,hF,hd,re⟩
   ·exact .inl r
   ·exact .inr ⟨b,cs,rfl,hf b fb,hb.congr (hk b fb),hs,Fs,fun i=>⟨(hF i).1.trans hf,(hF i).2⟩,hd,
     fun i hi=>Rep.mono hp hpr t (re i hi) (Sub.refl _) (fun b' h'=>hk b' ((hF i).1 b' h'))⟩
  ·obtain ⟨a,cap,rfl,hl,r⟩:=r
   refine ⟨a,cap,rfl,hl,fun hne=>?_⟩
   obtain ⟨b,o,cs,rfl,pb,hb,hs,re⟩:=r hne
   exact ⟨b,o,cs,rfl,hp b pb,hb.congr (hpr b pb),hs,fun i hi=>Rep.mono hp hpr t (re i hi) (Sub.refl _) (fun _ h=>h.elim)⟩
theorem Rep.room {h:Array Obj} {Pr:BS} (t:Ty) {m:Mk} {x:t.den} {c:List Value} {F F':BS} (r:Rep h Pr t m x c F) (hf:Sub F F'):Rep h Pr t m x c F':=
 Rep.mono (Sub.refl _) (fun _ _=>rfl) t r hf (fun _ _=>rfl)
theorem Rep.no_room {h:Array Obj} {Pr:BS}:∀ (t:Ty) {m:Mk} {x:t.den} {c:List Value} {F F':BS},m.still=true→Rep h Pr t m x c F→Rep h Pr t .no x c F'
 | .unit,_,_,_,_,_,_,r=>by simpa only [Rep] using r
 | .int k,_,_,_,_,_,_,r=>by simpa only [Rep] using r
 | .bool,_,_,_,_,_,_,r=>by simpa only [Rep] using r
 | .str,_,_,_,_,_,_,r=>by simpa only [Rep] using r
 | .pair a b,m,_,_,_,_,hm,r=>by
  simp only[Rep] at r ⊢
  obtain ⟨ca,cb,Fa,Fb,rfl,ra,rb,sa,sb,d⟩:=r
  have h1:m.fst.still=true:=by cases m<;>simp_all [Mk.still,Mk.fst]
  have h2:m.snd.still=true:=by cases m<;>simp_all [Mk.still,Mk.snd]
  exact ⟨ca,cb,Nil,Nil,rfl,Rep.no_room a h1 ra,Rep.no_room b h2 rb,Sub.nil _,Sub.nil _,Dis.nil _⟩
 | .sl t,m,_,_,_,_,hm,r=>by
  cases m<;>simp only[Rep] at r ⊢
  ·exact r
  ·simp[Mk.still] at hm
  ·simp[Mk.still] at hm
  ·exact r
theorem Rep.stamp {h:Array Obj} {Pr:BS} (s:Nat):∀ (t:Ty) {m:Mk} {x:t.den} {c:List Value} {F:BS},Rep h Pr t m x c F↔Rep h Pr t (m.stamp s) x c F
 | .unit,_,_,_,_=>by simp only[Rep]
 | .int k,_,_,_,_=>by simp only[Rep]
 | .bool,_,_,_,_=>by simp only[Rep]
 | .str,_,_,_,_=>by simp only[Rep]
 | .pair a b,m,x,_,_=>by
  simp only[Rep]
  have h1:(m.stamp s).fst=m.fst.stamp s:=by cases m<;>rfl
  have h2:(m.stamp s).snd=m.snd.stamp s:=by cases m<;>rfl
  rw[h1,h2]
  constructor
  ·rintro ⟨ca,cb,Fa,Fb,rfl,ra,rb,r⟩;exact ⟨ca,cb,Fa,Fb,rfl,(Rep.stamp s a).1 ra,(Rep.stamp s b).1 rb,r⟩
  ·rintro ⟨ca,cb,Fa,Fb,rfl,ra,rb,r⟩;exact ⟨ca,cb,Fa,Fb,rfl,(Rep.stamp s a).2 ra,(Rep.stamp s b).2 rb,r⟩
 | .sl t,m,_,_,_=>by
  cases m<;>simp only[Rep,Mk.stamp]
  constructor
  ·rintro ⟨a,cap,rfl,hl,r⟩
   refine ⟨a,cap,rfl,hl,r.imp id ?_⟩
   rintro ⟨b,cs,rfl,fb,hb,hs,Fs,hF,hd,re⟩
   exact ⟨b,cs,rfl,fb,hb,hs,Fs,hF,hd,fun i hi=>(Rep.stamp s t).1 (re i hi)⟩
  ·rintro ⟨a,cap,rfl,hl,r⟩
   refine ⟨a,cap,rfl,hl,r.imp id ?_⟩
   rintro ⟨b,cs,rfl,fb,hb,hs,Fs,hF,hd,re⟩
   exact ⟨b,cs,rfl,fb,hb,hs,Fs,hF,hd,fun i hi=>(Rep.stamp s t).2 (re i hi)⟩
theorem Mk.prN_fst (a b:Mk):(Mk.prN a b).fst=a:=by cases a<;>cases b<;>rfl
theorem Mk.prN_snd (a b:Mk):(Mk.prN a b).snd=b:=by cases a<;>cases b<;>rfl
theorem Mk.prN_tagFree (a b:Mk):(Mk.prN a b).tagFree=(a.tagFree&&b.tagFree):=by cases a<;>cases b<;>rfl
theorem Mk.prN_cases (a b:Mk):Mk.prN a b=.no∨Mk.prN a b=.pr a b:=by cases a<;>cases b<;>first | exact .inl rfl | exact .inr rfl
theorem Mk.restamp_fst (m:Mk):m.restamp.fst=m.fst.restamp:=by cases m<;>first | rfl | exact Mk.prN_fst _ _
theorem Mk.restamp_snd (m:Mk):m.restamp.snd=m.snd.restamp:=by cases m<;>first | rfl | exact Mk.prN_snd _ _
theorem Rep.restamp {h:Array Obj} {Pr:BS}:∀ (t:Ty) {m:Mk} {x:t.den} {c:List Value} {F:BS},Rep h Pr t m x c F↔Rep h Pr t m.restamp x c F
 | .unit,_,_,_,_=>by simp only[Rep]
 | .int k,_,_,_,_=>by simp only[Rep]
 | .bool,_,_,_,_=>by simp only[Rep]
 | .str,_,_,_,_=>by simp only[Rep]
 | .pair a b,m,x,_,_=>by
  simp only[Rep]
  have h1:=Mk.restamp_fst m
  have h2:=Mk.restamp_snd m
  rw[h1,h2]
  constructor
  ·rintro ⟨ca,cb,Fa,Fb,rfl,ra,rb,r⟩;exact ⟨ca,cb,Fa,Fb,rfl,(Rep.restamp a).1 ra,(Rep.restamp b).1 rb,r⟩
  ·rintro ⟨ca,cb,Fa,Fb,rfl,ra,rb,r⟩;exact ⟨ca,cb,Fa,Fb,rfl,(Rep.restamp a).2 ra,(Rep.restamp b).2 rb,r⟩
 | .sl t,m,_,_,_=>by
  cases m<;>simp only[Rep,Mk.restamp]
  constructor
  ·rintro ⟨a,cap,rfl,hl,r⟩
   refine ⟨a,cap,rfl,hl,r.imp id ?_⟩
   rintro ⟨b,cs,rfl,fb,hb,hs,Fs,hF,hd,re⟩
   exact ⟨b,cs,rfl,fb,hb,hs,Fs,hF,hd,fun i hi=>(Rep.restamp t).1 (re i hi)⟩
  ·rintro ⟨a,cap,rfl,hl,r⟩
   refine ⟨a,cap,rfl,hl,r.imp id ?_⟩
   rintro ⟨b,cs,rfl,fb,hb,hs,Fs,hF,hd,re⟩
   exact ⟨b,cs,rfl,fb,hb,hs,Fs,hF,hd,fun i hi=>(Rep.restamp t).2 (re i hi)⟩
  rename_i a b
  rcases Mk.prN_cases a.restamp b.restamp with e | e<;>rw[e]<;>simp only[Rep]
theorem Rep.share {h:Array Obj} {Pr:BS}:∀ (t:Ty) {m:Mk} {x:t.den} {c:List Value} {F:BS},m.whole=true→Rep h Pr t m x c F→
  Rep h (fun b=>Pr b∨F b) t .no x c Nil
 | .unit,_,_,_,_,_,r=>by simpa only [Rep] using r
 | .int k,_,_,_,_,_,r=>by simpa only [Rep] using r
 | .bool,_,_,_,_,_,r=>by simpa only [Rep] using r
 | .str,_,_,_,_,_,r=>by simpa only [Rep] using r
 | .pair a b,m,_,_,F,hm,r=>by
  simp only[Rep] at r ⊢
  obtain ⟨ca,cb,Fa,Fb,rfl,ra,rb,sa,sb,d⟩:=r
  have h1:m.fst.whole=true:=by cases m<;>simp_all [Mk.whole,Mk.fst]
  have h2:m.snd.whole=true:=by cases m<;>simp_all [Mk.whole,Mk.snd]
  have e1:=Rep.share a h1 ra
  have e2:=Rep.share b h2 rb
  exact ⟨ca,cb,Nil,Nil,rfl,
   Rep.mono (fun b hb=>hb.imp id (sa b)) (fun _ _=>rfl) a e1 (Sub.refl _) (fun _ _=>rfl),
   Rep.mono (fun b hb=>hb.imp id (sb b)) (fun _ _=>rfl) b e2 (Sub.refl _) (fun _ _=>rfl),Sub.nil _,Sub.nil _,Dis.nil _⟩
 | .sl t,m,xs,_,F,hm,r=>by
  cases m with
  | no=>
   simp only[Rep] at r ⊢
   obtain ⟨a,cap,rfl,hl,r⟩:=r
   refine ⟨a,cap,rfl,hl,fun hne=>?_⟩
   obtain ⟨b,o,cs,rfl,pb,hb,hs,re⟩:=r hne
   exact ⟨b,o,cs,rfl,.inl pb,hb,hs,fun i hi=>Rep.mono (fun b hb=>.inl hb) (fun _ _=>rfl) t (re i hi) (Sub.refl _) (fun _ _=>rfl)⟩
  | gone=>simp[Mk.whole] at hm
  | pr _ _=>
   simp only[Rep] at r ⊢
   obtain ⟨a,cap,rfl,hl,r⟩:=r
   refine ⟨a,cap,rfl,hl,fun hne=>?_⟩
   obtain ⟨b,o,cs,rfl,pb,hb,hs,re⟩:=r hne
   exact ⟨b,o,cs,rfl,.inl pb,hb,hs,fun i hi=>Rep.mono (fun b hb=>.inl hb) (fun _ _=>rfl) t (re i hi) (Sub.refl _) (fun _ _=>rfl)⟩
  | own s mi=>
   simp only[Rep] at r ⊢
   obtain ⟨a,cap,rfl,hl,r⟩:=r
   refine ⟨a,cap,rfl,hl,fun hne=>?_⟩
   have hpos:0<xs.length:=List.length_pos_iff.2 hne
   rcases r with r | ⟨b,cs,rfl,fb,hb,hs,Fs,hF,hd,re⟩
   ·omega
   ·refine ⟨b,0,cs,rfl,.inr fb,hb.blk,?_,fun i hi=>?_⟩
    ·have:=z26 t.width hl;omega
    ·have e:=Rep.share t (by simpa [Mk.whole] using hm) (re i hi)
     rw[Nat.zero_add]
     exact Rep.mono (fun b hb=>hb.imp id ((hF i).1 b)) (fun _ _=>rfl) t e (Sub.refl _) (fun _ _=>rfl)
end
end Go.V

namespace Go.V
noncomputable section
open Go
theorem Mk.serves_fst {w h:Mk} (x:w.serves h=true):w.fst.serves h.fst=true:=by
 cases w<;>cases h<;>simp_all [Mk.serves,Mk.fst,Mk.whole]
theorem Mk.serves_snd {w h:Mk} (x:w.serves h=true):w.snd.serves h.snd=true:=by
 cases w<;>cases h<;>simp_all [Mk.serves,Mk.snd,Mk.whole]
theorem Mk.noMeet_no:∀ b:Mk,b.noMeet.serves .no=true
 | .no=>rfl
 | .gone=>rfl
 | .own _ m=>by unfold Mk.noMeet;split<;>rfl
 | .pr a b=>by simp[Mk.noMeet,Mk.serves,Mk.noMeet_no a,Mk.noMeet_no b]
theorem Mk.noMeet_self:∀ b:Mk,b.noMeet.serves b=true
 | .no=>rfl
 | .gone=>rfl
 | .own _ m=>by unfold Mk.noMeet;split<;>simp_all [Mk.serves,Mk.whole]
 | .pr a b=>by simp[Mk.noMeet,Mk.serves,Mk.noMeet_self a,Mk.noMeet_self b]
theorem Mk.meet_both:∀ a b:Mk,(a.meet b).serves a=true∧(a.meet b).serves b=true
 | .no,b=>⟨by simpa [Mk.meet] using Mk.noMeet_no b,by simpa [Mk.meet] using Mk.noMeet_self b⟩
 | .gone,_=>⟨rfl,rfl⟩
 | .own _ a,b=>by
  cases b with
  | no=>simp only[Mk.meet];split<;>simp_all [Mk.serves,Mk.whole]
  | gone=>exact ⟨rfl,rfl⟩
  | own s b=>have:=Mk.meet_both a b;simpa [Mk.meet,Mk.serves] using this
  | pr _ _=>exact ⟨rfl,rfl⟩
 | .pr a b,c=>by
  cases c with
  | no=>have h1:=Mk.meet_both a .no;have h2:=Mk.meet_both b .no;simp[Mk.meet,Mk.serves,h1,h2]
  | gone=>exact ⟨rfl,rfl⟩
  | own _ _=>exact ⟨rfl,rfl⟩
  | pr c d=>have h1:=Mk.meet_both a c;have h2:=Mk.meet_both b d;simp[Mk.meet,Mk.serves,h1,h2]
theorem Rep.serves {h:Array Obj} {Pr:BS}:∀ (t:Ty) {w m:Mk} {x:t.den} {c:List Value} {F:BS},w.serves m=true→Rep h Pr t m x c F→
  ∃ F1 F2:BS,Sub F1 F∧Sub F2 F∧Dis F1 F2∧Rep h (fun b=>Pr b∨F2 b) t w x c F1
 | .unit,_,_,_,_,_,_,r=>⟨Nil,Nil,Sub.nil _,Sub.nil _,Dis.nil _,by simpa only [Rep] using r⟩
 | .int k,_,_,_,_,_,_,r=>⟨Nil,Nil,Sub.nil _,Sub.nil _,Dis.nil _,by simpa only [Rep] using r⟩
 | .bool,_,_,_,_,_,_,r=>⟨Nil,Nil,Sub.nil _,Sub.nil _,Dis.nil _,by simpa only [Rep] using r⟩
 | .str,_,_,_,_,_,_,r=>⟨Nil,Nil,Sub.nil _,Sub.nil _,Dis.nil _,by simpa only [Rep] using r⟩
 | .pair a b,w,m,x,c,F,hw,r=>by
  simp only[Rep] at r
  obtain ⟨ca,cb,Fa,Fb,rfl,ra,rb,sa,sb,d⟩:=r
  obtain ⟨A1,A2,s1,s2,dA,rA⟩:=Rep.serves a (Mk.serves_fst hw) ra
  obtain ⟨B1,B2,s3,s4,dB,rB⟩:=Rep.serves b (Mk.serves_snd hw) rb
  refine ⟨fun b=>A1 b∨B1 b,fun b=>A2 b∨B2 b,?_,?_,?_,?_⟩
  ·rintro z (hz | hz)
   ·exact sa z (s1 z hz)
   ·exact sb z (s3 z hz)
  ·rintro z (hz | hz)
   ·exact sa z (s2 z hz)
   ·exact sb z (s4 z hz)
  ·rintro z (hz | hz) (hy | hy)
   ·exact dA z hz hy
   ·exact d z (s1 z hz) (s4 z hy)
   ·exact d z (s2 z hy) (s3 z hz)
   ·exact dB z hz hy
  ·simp only[Rep]
   exact ⟨ca,cb,A1,B1,rfl,Rep.mono (fun z hz=>hz.imp id .inl) (fun _ _=>rfl) a rA (Sub.refl _) (fun _ _=>rfl),
    Rep.mono (fun z hz=>hz.imp id .inr) (fun _ _=>rfl) b rB (Sub.refl _) (fun _ _=>rfl),fun z hz=>.inl hz,fun z hz=>.inr hz,d.mono s1 s3⟩
 | .sl t,w,m,xs,c,F,hw,r=>by
  cases w with
  | gone=>
   refine ⟨Nil,Nil,Sub.nil _,Sub.nil _,Dis.nil _,?_⟩
   simp only[Rep]
   cases m<;>simp only[Rep] at r
   ·obtain ⟨a,k,e,_⟩:=r;exact ⟨a,_,k,e⟩
   ·exact r
   ·obtain ⟨a,k,e,_⟩:=r;exact ⟨a,_,k,e⟩
   ·obtain ⟨a,k,e,_⟩:=r;exact ⟨a,_,k,e⟩
  | no=>
   have hm:m.whole=true:=by cases m<;>simp_all [Mk.serves]
   exact ⟨Nil,F,Sub.nil _,Sub.refl _,Dis.nil _,Rep.share (.sl t) hm r⟩
  | pr w1 w2=>
   refine ⟨Nil,Nil,Sub.nil _,Sub.nil _,Dis.nil _,?_⟩
   have r':Rep h Pr (.sl t) .no xs c F:=by cases m<;>simp_all [Mk.serves]<;>simpa only [Rep] using r
   have r2:=Rep.mono (Pr':=fun b=>Pr b∨Nil b) (fun z hz=>.inl hz) (fun _ _=>rfl) (.sl t) r' (Sub.refl _) (fun _ _=>rfl)
   simpa only [Rep] using r2
  | own s wi=>
   cases m with
   | no=>simp[Mk.serves] at hw
   | gone=>simp[Mk.serves] at hw
   | pr _ _=>simp[Mk.serves] at hw
   | own s' mi=>
    simp only[Mk.serves] at hw
    simp only[Rep] at r
    obtain ⟨a,cap,rfl,hl,r⟩:=r
    rcases r with r | ⟨b,cs,rfl,fb,hb,hs,Fs,hF,hd,re⟩
    ·exact ⟨Nil,Nil,Sub.nil _,Sub.nil _,Dis.nil _,by simp only[Rep];exact ⟨a,cap,rfl,hl,.inl r⟩⟩
    ·have key:∀ i,∃ F1 F2:BS,Sub F1 (Fs i)∧Sub F2 (Fs i)∧Dis F1 F2∧
       (i<xs.length→Rep h (fun b=>Pr b∨F2 b) t wi (xs.getD i t.zero) (sub cs (i * t.width) t.width) F1):=by
      intro i
      by_cases hi:i<xs.length
      ·obtain ⟨F1,F2,s1,s2,dd,rr⟩:=Rep.serves t hw (re i hi)
       exact ⟨F1,F2,s1,s2,dd,fun _=>rr⟩
      ·exact ⟨Nil,Nil,Sub.nil _,Sub.nil _,Dis.nil _,fun h=>absurd h hi⟩
     obtain ⟨F1,key⟩:=Classical.axiomOfChoice key
     obtain ⟨F2,key⟩:=Classical.axiomOfChoice key
     refine ⟨fun z=>z=b∨∃ i,F1 i z,fun z=>∃ i,F2 i z,?_,?_,?_,?_⟩
     ·rintro z (rfl | ⟨i,hz⟩)
      ·exact fb
      ·exact (hF i).1 z ((key i).1 z hz)
     ·rintro z ⟨i,hz⟩;exact (hF i).1 z ((key i).2.1 z hz)
     ·rintro z (rfl | ⟨i,hz⟩) ⟨j,hy⟩
      ·exact (hF j).2 ((key j).2.1 z hy)
      ·by_cases e:i=j
       ·subst e;exact (key i).2.2.1 z hz hy
       ·exact hd i j e z ((key i).1 z hz) ((key j).2.1 z hy)
     ·simp only[Rep]
      refine ⟨_,cap,rfl,hl,.inr ⟨b,cs,rfl,.inl rfl,hb,hs,F1,fun i=>⟨fun z hz=>.inr ⟨i,hz⟩,fun hz=>(hF i).2 ((key i).1 _ hz)⟩,
       fun i j e=>(hd i j e).mono (key i).1 (key j).1,fun i hi=>?_⟩⟩
      exact Rep.mono (fun z hz=>hz.imp id fun hz=>⟨i,hz⟩) (fun _ _=>rfl) t ((key i).2.2.2 hi) (Sub.refl _) (fun _ _=>rfl)
def inR:(t:Ty)→t.den→Path→Prop
 | _,_,[]=>True
 | .pair a _,x,.fst::p=>inR a x.1 p
 | .pair _ b,x,.snd::p=>inR b x.2 p
 | .sl t,xs,.idx i _::p=>i<xs.length∧inR t (xs.getD i t.zero) p
 | _,_,_::_=>False
abbrev Base:=Option (Nat×Nat)
def atP (h:Array Obj):(t:Ty)→List Value→Base→Path→Option (Base×List Value)
 | _,c,base,[]=>some (base,c)
 | .pair a _,c,base,.fst::p=>atP h a (c.take a.width) base p
 | .pair a b,c,base,.snd::p=>atP h b (c.drop a.width) (base.map fun x=>(x.1,x.2+a.width)) p
 | .sl t,c,_,.idx i _::p=>
  match c with
  | [.slice (some ⟨b,0,none⟩) _ _]=>
   match h[b]? with
   | some (.cells cs _ _)=>atP h t (sub cs (i * t.width) t.width) (some (b,i * t.width)) p
   | _=>none
  | _=>none
 | _,_,_,_::_=>none
def repl (l:List Value) (o:Nat) (c:List Value):List Value:=l.take o++c++l.drop (o+c.length)
theorem qiq {l:List Value} {o:Nat} {c:List Value} (h:o+c.length≤l.length):(repl l o c).length=l.length:=by
 simp[repl];omega
theorem qbza {l:List Value} {o:Nat} {c:List Value} (h:o+c.length≤l.length):((repl l o c).drop o).take c.length=c:=by
 have:(l.take o).length=o:=by simp;omega
 simp only[repl,z33]
 rw[List.drop_append_of_le_length (by omega),List.drop_eq_nil_of_le (by omega)]
 simp
theorem qbbn {l:List Value} {o:Nat} {c:List Value} (h:o+c.length≤l.length) {o' n:Nat} (hd:o'+n≤o∨o+c.length≤o') :
  ((repl l o c).drop o').take n=(l.drop o').take n:=by
 apply List.ext_getElem?
 intro i
 simp only[z39,z44]
 split
 ·rename_i hi
  simp only[repl]
  by_cases h1:o'+i<o
  ·rw[z33,z43 (by simp;omega),z39];simp[h1]
  ·have h2:o+c.length≤o'+i:=by omega
   rw[z47 (by simp;omega),z44]
   congr 1
   simp;omega
 ·rfl
def qqr (h:Array Obj) (base:Base) (c:List Value) (F:BS):Prop:=
 ∀ b o,base=some (b,o)→¬ F b∧∃ cs,qcn h b cs∧o+c.length≤cs.size∧sub cs o c.length=c
def Upd (h h2:Array Obj) (base:Base) (c2:List Value):Prop:=
 ∀ b o,base=some (b,o)→∀ cs,qcn h b cs→∃ cs2:Array Value,qcn h2 b cs2∧cs2.toList=repl cs.toList o c2
def qbd:Ty→Path→Nat
 | .pair a _,.fst::p=>qbd a p
 | .pair a b,.snd::p=>a.width+qbd b p
 | _,_=>0
end
end Go.V

namespace Go.V
noncomputable section
open Go
structure Ghost where
 Pr:BS
 C:Nat→List Value
 B:Nat→Option Nat
 G:Nat→BS
 hd:Nat→Value
 L:BS
 P0:BS
def Ghost.Same (g' g:Ghost):Prop:=g'.hd=g.hd∧g'.L=g.L∧g'.P0=g.P0
theorem Ghost.Same.refl (g:Ghost):g.Same g:=⟨rfl,rfl,rfl⟩
theorem Ghost.Same.trans {a b c:Ghost} (h:b.Same a) (k:c.Same b):c.Same a:=⟨k.1.trans h.1,k.2.1.trans h.2.1,k.2.2.trans h.2.2⟩
def TagC (hd:Nat→Value):Ty→Mk→List Value→Prop
 | .pair a b,m,c=>TagC hd a m.fst (c.take a.width)∧TagC hd b m.snd (c.drop a.width)
 | .sl _,.own s mi,c=>(1048576≤s→c=[hd s])∧mi.tagFree=true
 | _,_,_=>True
def Ghost.base (g:Ghost) (r:Nat):Base:=(g.B r).map fun b=>(b,0)
def mkV (t:Ty) (c:List Value):Value:=if t.agg then .agg c.toArray else c.headD undef
theorem Rep.slice {h:Array Obj} {Pr:BS} {t:Ty} {m:Mk} {x:(Ty.sl t).den} {c:List Value} {F:BS} (r:Rep h Pr (.sl t) m x c F):∃ a n k,c=[.slice a n k]:=by
 cases m<;>simp only[Rep] at r
 ·obtain ⟨a,k,e,_⟩:=r;exact ⟨a,_,k,e⟩
 ·exact r
 ·obtain ⟨a,k,e,_⟩:=r;exact ⟨a,_,k,e⟩
 ·obtain ⟨a,k,e,_⟩:=r;exact ⟨a,_,k,e⟩
theorem qlq {h:Array Obj} {Pr:BS} {t:Ty} {m:Mk} {x:t.den} {c:List Value} {F:BS} (r:Rep h Pr t m x c F):(mkV t c).cells.toList=c:=by
 cases t with
 | unit=>simp only[Rep] at r;subst r;simp[mkV,Ty.agg,Value.cells]
 | int k=>simp only[Rep] at r;subst r;simp[mkV,Ty.agg,Value.cells]
 | bool=>simp only[Rep] at r;subst r;simp[mkV,Ty.agg,Value.cells]
 | str=>simp only[Rep] at r;subst r;simp[mkV,Ty.agg,Value.cells]
 | pair a b=>simp[mkV,Ty.agg,Value.cells]
 | sl t=>obtain ⟨a,n,k,rfl⟩:=Rep.slice r;simp[mkV,Ty.agg,Value.cells]
theorem qb23 {h h':Array Obj} {Pr Pr':BS} {t:Ty} {m m':Mk} {x x':t.den} {c c':List Value} {F F':BS}
  (r:Rep h Pr t m x c F) (r':Rep h' Pr' t m' x' c' F') (e:mkV t c=mkV t c'):c=c':=by
 rw[←qlq r,←qlq r',e]
section rel
variable (h:Array Obj) (S:St) (g:Ghost)
def q7k (r:Nat) (p:Path) (s:Nat) (v:Value):Prop:=
 ∀ R,S.root r=some R→∀ t m xs,focus R.ty R.ms R.x p=some ⟨.sl t,.own s m,xs⟩→
  inR R.ty R.x p∧∃ base,atP h R.ty (g.C r) (g.base r) p=some (base,[v])
def qbka (r:Nat) (p:Path) (s lo hi:Nat) (v:Value):Prop:=
 ∀ R,S.root r=some R→∀ t m xs,focus R.ty R.ms R.x p=some ⟨.sl t,.own s m,xs⟩→
  inR R.ty R.x p∧∃ base a n k,atP h R.ty (g.C r) (g.base r) p=some (base,[.slice a n k])∧lo≤hi∧hi≤n∧
   v=.slice (if k=lo then a else a.map (·.add (lo * t.width))) (hi - lo) (k - lo)
def qbau (r:Nat) (p:Path) (v:Value):Prop:=
 ∀ R,S.root r=some R→∀ d,focus R.ty R.ms R.x p=some d→
  inR R.ty R.x p∧∃ b o c,atP h R.ty (g.C r) (g.base r) p=some (some (b,o),c)∧v=.pointer (some ⟨b,o,none⟩)
def qmh (t:Ty) (x:t.den) (v:Value):Prop:=
 ∃ b o cs,v=.pointer (some ⟨b,o,none⟩)∧g.Pr b∧Blk h b cs∧o+t.width≤cs.size∧Rep h g.Pr t .no x (Go.V.sub cs o t.width) Nil
def qbbr:CapV→Value→Prop
 | .val t x,v=>∃ c,Rep h g.Pr t .no x c Nil∧v=mkV t c
 | .rptr t x,v=>qmh h g t x v
def qfu:List CapV→List Value→Prop
 | [],vs=>vs=[]
 | c::l,vs=>∃ v vs',vs=v::vs'∧qbbr h g c v∧qfu l vs'
def AVC:AV→List Value→Prop
 | .undef,_=>True
 | .unit,c=>c=[]
 | .val t x,c=>Rep h g.Pr t .no x c Nil
 | .brw r p s,c=>∃ v,c=[v]∧q7k h S g r p s v
 | .pair a b,c=>∃ ca cb,c=ca++cb∧AVC a ca∧AVC b cb
 | _,_=>False
mutual
def qe:AV→Value→Prop
 | .undef,_=>True
 | .skip,v=>v=Go.undef
 | .litB b,v=>v=.bool b
 | .unit,v=>v=.agg #[]
 | .nils,v=>v=.slice none 0 0
 | .val t x,v=>∃ c,Rep h g.Pr t .no x c Nil∧v=mkV t c
 | .brw r p s,v=>q7k h S g r p s v
 | .view r p s lo hi,v=>qbka h S g r p s lo hi v
 | .addr r p,v=>qbau h S g r p v
 | .raddr t x,v=>qmh h g t x v
 | .pair a b,v=>∃ ca cb,v=.agg (ca++cb).toArray∧AVC h S g a ca∧AVC h S g b cb
 | .tup a,v=>∃ vs,v=.tuple vs.toArray∧TupRel a vs
 | .clo f c,v=>∃ vs,v=.func (.func f) #[] vs.toArray∧TupRel c vs
 | .cloV c,v=>∃ vs,v=.func (.func c.f) #[] vs.toArray∧qfu h g c.caps vs
def TupRel:AV→List Value→Prop
 | .unit,vs=>vs=[]
 | .pair a b,vs=>∃ v vs',vs=v::vs'∧qe a v∧TupRel b vs'
 | _,_=>False
end
structure StRel (tmps:Array Value) (H:BS):Prop where
 len:S.sl.length=tmps.size
 rlen:S.rt.length=tmps.size
 slots:∀ t,qe h S g (S.get t) (tmps.getD t Go.undef)
 roots:∀ r R,S.root r=some R→∃ F,Rep h g.Pr R.ty R.ms R.x (g.C r) F∧Sub F (g.G r)∧(∀ b,g.B r=some b→¬ F b)∧
  (R.mem=true→∃ b,g.B r=some b∧g.G r b∧qcn h b (g.C r).toArray)∧(R.mem=false→g.B r=none)
 dis:∀ r r',r≠r'→(S.root r).isSome→(S.root r').isSome→Dis (g.G r) (g.G r')
 prot:∀ r,(S.root r).isSome→Dis (g.G r) g.Pr
 hand:∀ r,(S.root r).isSome→Dis (g.G r) H
 handPr:Dis H g.Pr
 limPr:∀ b,g.Pr b→b<h.size
 limG:∀ r b,(S.root r).isSome→g.G r b→b<h.size
 limH:∀ b,H b→b<h.size
 tag:∀ r R,S.root r=some R→TagC g.hd R.ty R.ms (g.C r)
 own:∀ r b,(S.root r).isSome→g.G r b→g.L b
 ownH:∀ b,H b→g.L b
 limL:∀ b,h.size≤b→g.L b
 p0:Sub g.P0 g.Pr
 prL:∀ b,g.Pr b→g.P0 b∨g.L b
end rel
section keep
variable (h h':Array Obj) (S S':St) (g g':Ghost)
def qqc (r:Nat) (p:Path):Prop:=
 ∀ R',S'.root r=some R'→∀ d',focus R'.ty R'.ms R'.x p=some d'→
  ∃ R d,S.root r=some R∧focus R.ty R.ms R.x p=some d∧(inR R.ty R.x p→inR R'.ty R'.x p∧
   ∀ base c,atP h R.ty (g.C r) (g.base r) p=some (base,c)→∃ c',atP h' R'.ty (g'.C r) (g'.base r) p=some (base,c'))
def qlp (r:Nat) (p:Path) (s:Nat):Prop:=
 ∀ R',S'.root r=some R'→∀ t m xs,focus R'.ty R'.ms R'.x p=some ⟨.sl t,.own s m,xs⟩→
  ∃ R m0 xs0,S.root r=some R∧focus R.ty R.ms R.x p=some ⟨.sl t,.own s m0,xs0⟩∧(inR R.ty R.x p→inR R'.ty R'.x p∧
   ∀ base c,atP h R.ty (g.C r) (g.base r) p=some (base,c)→atP h' R'.ty (g'.C r) (g'.base r) p=some (base,c))
def AV.Keeps:AV→Prop
 | .brw r p s=>qlp h h' S S' g g' r p s
 | .view r p s _ _=>qlp h h' S S' g g' r p s
 | .addr r p=>qqc h h' S S' g g' r p
 | .pair a b=>a.Keeps∧b.Keeps
 | .tup a=>a.Keeps
 | .clo _ a=>a.Keeps
 | _=>True
variable {h h' S S' g g'}
theorem q7k.keep {r:Nat} {p:Path} {s:Nat} {v:Value} (x:q7k h S g r p s v) (k:qlp h h' S S' g g' r p s):q7k h' S' g' r p s v:=by
 intro R' hR' t m xs hf
 obtain ⟨R,m0,xs0,hR,hf0,hr⟩:=k R' hR' t m xs hf
 obtain ⟨h1,base,h2⟩:=x R hR t m0 xs0 hf0
 exact ⟨(hr h1).1,base,(hr h1).2 _ _ h2⟩
theorem qbka.keep {r:Nat} {p:Path} {s lo hi:Nat} {v:Value} (x:qbka h S g r p s lo hi v) (k:qlp h h' S S' g g' r p s):qbka h' S' g' r p s lo hi v:=by
 intro R' hR' t m xs hf
 obtain ⟨R,m0,xs0,hR,hf0,hr⟩:=k R' hR' t m xs hf
 obtain ⟨h1,base,a,n,k,h2,h3⟩:=x R hR t m0 xs0 hf0
 exact ⟨(hr h1).1,base,a,n,k,(hr h1).2 _ _ h2,h3⟩
theorem qbau.keep {r:Nat} {p:Path} {v:Value} (x:qbau h S g r p v) (k:qqc h h' S S' g g' r p):qbau h' S' g' r p v:=by
 intro R' hR' d hf
 obtain ⟨R,d0,hR,hf0,hr⟩:=k R' hR' d hf
 obtain ⟨h1,b,o,c,h2,h3⟩:=x R hR d0 hf0
 obtain ⟨c',h4⟩:=(hr h1).2 _ _ h2
 exact ⟨(hr h1).1,b,o,c',h4,h3⟩
theorem qmh.keep (hp:Sub g.Pr g'.Pr) (hk:∀ b,g.Pr b→h'[b]? = h[b]?) {t:Ty} {x:t.den} {v:Value} (y:qmh h g t x v):qmh h' g' t x v:=by
 obtain ⟨b,o,cs,e,pb,hb,hs,r⟩:=y
 exact ⟨b,o,cs,e,hp b pb,hb.congr (hk b pb),hs,Rep.mono hp hk t r (Sub.refl _) (fun _ h=>h.elim)⟩
theorem qbbr.keep (hp:Sub g.Pr g'.Pr) (hk:∀ b,g.Pr b→h'[b]? = h[b]?) {c:CapV} {v:Value} (y:qbbr h g c v):qbbr h' g' c v:=by
 cases c with
 | val t x=>obtain ⟨c,r,e⟩:=y;exact ⟨c,Rep.mono hp hk t r (Sub.refl _) (fun _ h=>h.elim),e⟩
 | rptr t x=>exact qmh.keep hp hk y
theorem qfu.keep (hp:Sub g.Pr g'.Pr) (hk:∀ b,g.Pr b→h'[b]? = h[b]?):∀ {l:List CapV} {vs:List Value},qfu h g l vs→qfu h' g' l vs
 | [],_,y=>y
 | c::l,_,y=>by
  obtain ⟨v,vs',e,h1,h2⟩:=y
  exact ⟨v,vs',e,qbbr.keep hp hk h1,qfu.keep hp hk h2⟩
theorem AVC.keep (hp:Sub g.Pr g'.Pr) (hk:∀ b,g.Pr b→h'[b]? = h[b]?):∀ {a:AV} {c:List Value},AVC h S g a c→a.Keeps h h' S S' g g'→AVC h' S' g' a c
 | .undef,_,_,_=>trivial
 | .unit,_,y,_=>y
 | .val t x,_,y,_=>Rep.mono hp hk t y (Sub.refl _) (fun _ h=>h.elim)
 | .brw r p s,_,y,k=>by obtain ⟨v,e,y⟩:=y;exact ⟨v,e,y.keep k⟩
 | .pair a b,_,y,k=>by
  obtain ⟨ca,cb,e,y1,y2⟩:=y
  exact ⟨ca,cb,e,AVC.keep hp hk y1 k.1,AVC.keep hp hk y2 k.2⟩
 | .skip,_,y,_=>y.elim
 | .litB _,_,y,_=>y.elim
 | .nils,_,y,_=>y.elim
 | .view _ _ _ _ _,_,y,_=>y.elim
 | .addr _ _,_,y,_=>y.elim
 | .raddr _ _,_,y,_=>y.elim
 | .tup _,_,y,_=>y.elim
 | .clo _ _,_,y,_=>y.elim
 | .cloV _,_,y,_=>y.elim
theorem qe.keep (hp:Sub g.Pr g'.Pr) (hk:∀ b,g.Pr b→h'[b]? = h[b]?):∀ (a:AV),(∀ v,qe h S g a v→a.Keeps h h' S S' g g'→qe h' S' g' a v)∧
  (∀ vs,TupRel h S g a vs→a.Keeps h h' S S' g g'→TupRel h' S' g' a vs):=by
 intro a
 induction a with
 | undef=>exact ⟨fun _ _ _=>by simp only[qe],fun _ y _=>by simp only[TupRel] at y⟩
 | skip=>exact ⟨fun _ y _=>by simpa only [qe] using y,fun _ y _=>by simp only[TupRel] at y⟩
 | litB b=>exact ⟨fun _ y _=>by simpa only [qe] using y,fun _ y _=>by simp only[TupRel] at y⟩
 | unit=>exact ⟨fun _ y _=>by simpa only [qe] using y,fun _ y _=>by simpa only [TupRel] using y⟩
 | nils=>exact ⟨fun _ y _=>by simpa only [qe] using y,fun _ y _=>by simp only[TupRel] at y⟩
 | val t x=>
  refine ⟨fun v y _=>?_,fun _ y _=>by simp only[TupRel] at y⟩
  simp only[qe] at y ⊢
  obtain ⟨c,r,e⟩:=y
  exact ⟨c,Rep.mono hp hk t r (Sub.refl _) (fun _ h=>h.elim),e⟩
 | brw r p s=>exact ⟨fun v y k=>by simp only[qe] at y ⊢;exact y.keep k,fun _ y _=>by simp only[TupRel] at y⟩
 | view r p s lo hi=>exact ⟨fun v y k=>by simp only[qe] at y ⊢;exact y.keep k,fun _ y _=>by simp only[TupRel] at y⟩
 | addr r p=>exact ⟨fun v y k=>by simp only[qe] at y ⊢;exact y.keep k,fun _ y _=>by simp only[TupRel] at y⟩
 | raddr t x=>exact ⟨fun v y k=>by simp only[qe] at y ⊢;exact qmh.keep hp hk y,fun _ y _=>by simp only[TupRel] at y⟩
 | pair a b iha ihb=>
  refine ⟨fun v y k=>?_,fun vs y k=>?_⟩
  ·simp only[qe] at y ⊢
   obtain ⟨ca,cb,e,y1,y2⟩:=y
   exact ⟨ca,cb,e,AVC.keep hp hk y1 k.1,AVC.keep hp hk y2 k.2⟩
  ·simp only[TupRel] at y ⊢
   obtain ⟨v,vs',e,y1,y2⟩:=y
   exact ⟨v,vs',e,iha.1 v y1 k.1,ihb.2 vs' y2 k.2⟩
 | tup a iha=>
  refine ⟨fun v y k=>?_,fun _ y _=>by simp only[TupRel] at y⟩
  simp only[qe] at y ⊢
  obtain ⟨vs,e,y⟩:=y
  exact ⟨vs,e,iha.2 vs y k⟩
 | clo f a iha=>
  refine ⟨fun v y k=>?_,fun _ y _=>by simp only[TupRel] at y⟩
  simp only[qe] at y ⊢
  obtain ⟨vs,e,y⟩:=y
  exact ⟨vs,e,iha.2 vs y k⟩
 | cloV c=>
  refine ⟨fun v y k=>?_,fun _ y _=>by simp only[TupRel] at y⟩
  simp only[qe] at y ⊢
  obtain ⟨vs,e,y⟩:=y
  exact ⟨vs,e,qfu.keep hp hk y⟩
end keep
theorem qro {h h':Array Obj} {Pr:BS}:∀ (p:Path) {t:Ty} {m:Mk} {x:t.den} {c:List Value} {F:BS} (base:Base) {d:Dy},
  Rep h Pr t m x c F→focus t m x p=some d→inR t x p→(∀ b,F b→h'[b]? = h[b]?)→atP h' t c base p=atP h t c base p
 | [],t,m,x,c,F,base,d,_,_,_,_=>by cases t<;>rfl
 | .fst::p,t,m,x,c,F,base,d,r,hf,hr,hk=>by
  cases t with
  | pair a b=>
   simp only[focus] at hf
   simp only[inR] at hr
   simp only[Rep] at r
   obtain ⟨ca,cb,Fa,Fb,rfl,ra,rb,sa,sb,dd⟩:=r
   simp only[atP]
   rw[←Rep.width a ra,List.take_left' rfl]
   exact qro p base ra hf hr fun b hb=>hk b (sa b hb)
  | _=>simp[focus] at hf
 | .snd::p,t,m,x,c,F,base,d,r,hf,hr,hk=>by
  cases t with
  | pair a b=>
   simp only[focus] at hf
   simp only[inR] at hr
   simp only[Rep] at r
   obtain ⟨ca,cb,Fa,Fb,rfl,ra,rb,sa,sb,dd⟩:=r
   simp only[atP]
   rw[←Rep.width a ra,List.drop_left' rfl]
   exact qro p _ rb hf hr fun b hb=>hk b (sb b hb)
  | _=>simp[focus] at hf
 | .idx i s'::p,t,m,xs,c,F,base,d,r,hf,hr,hk=>by
  cases t with
  | sl e=>
   cases m with
   | own s mi=>
    simp only[focus] at hf
    by_cases hs:s=s'
    ·simp only[hs,if_true] at hf
     simp only[inR] at hr
     obtain ⟨hi,hr⟩:=hr
     simp only[Rep] at r
     obtain ⟨a,cap,rfl,hl,r⟩:=r
     rcases r with r | ⟨b1,cs,rfl,fb,hb1,hsz,Fs,hF,hdd,re⟩
     ·omega
     simp only[atP]
     rw[hk b1 fb]
     obtain ⟨ty,lo,hi',he,_⟩:=hb1
     simp only[he]
     exact qro p _ (re i hi) hf hr fun b hb=>hk b ((hF i).1 b hb)
    ·simp[hs] at hf
   | _=>simp[focus] at hf
  | _=>simp[focus] at hf
end
end Go.V

namespace Go.V
noncomputable section
open Go
def qw:Ty→Mk→Path→Option (Ty×Mk)
 | t,m,[]=>some (t,m)
 | .pair a _,m,.fst::p=>qw a m.fst p
 | .pair _ b,m,.snd::p=>qw b m.snd p
 | .sl t,.own s m,.idx _ s'::p=>if s=s' then qw t m p else none
 | _,_,_::_=>none
theorem qj6:∀ (p:Path) {t:Ty} {m:Mk} {x:t.den} {d:Dy},focus t m x p=some d→qw t m p=some (d.ty,d.ms)
 | [],t,m,x,d,h=>by simp only[focus,z4] at h;subst h;cases t<;>rfl
 | .fst::p,t,m,x,d,h=>by
  cases t with
  | pair a b=>simp only[focus] at h;simp only[qw];exact qj6 p h
  | _=>simp[focus] at h
 | .snd::p,t,m,x,d,h=>by
  cases t with
  | pair a b=>simp only[focus] at h;simp only[qw];exact qj6 p h
  | _=>simp[focus] at h
 | .idx i s'::p,t,m,x,d,h=>by
  cases t with
  | sl e=>
   cases m with
   | own s mi=>
    simp only[focus] at h;simp only[qw]
    split at h
    ·rename_i hs;simp only[hs,if_true];exact qj6 p h
    ·simp at h
   | _=>simp[focus] at h
  | _=>simp[focus] at h
theorem qiw:∀ (p:Path) {t:Ty} {m:Mk} (x:t.den) {t':Ty} {m':Mk},qw t m p=some (t',m')→∃ y,focus t m x p=some ⟨t',m',y⟩
 | [],t,m,x,t',m',h=>by
  have:qw t m []=some (t,m):=by cases t<;>rfl
  rw[this] at h
  simp only[z4,z7] at h
  obtain ⟨rfl,rfl⟩:=h
  exact ⟨x,by simp[focus]⟩
 | .fst::p,t,m,x,t',m',h=>by
  cases t with
  | pair a b=>simp only[qw] at h;simp only[focus];exact qiw p x.1 h
  | _=>simp[qw] at h
 | .snd::p,t,m,x,t',m',h=>by
  cases t with
  | pair a b=>simp only[qw] at h;simp only[focus];exact qiw p x.2 h
  | _=>simp[qw] at h
 | .idx i s'::p,t,m,x,t',m',h=>by
  cases t with
  | sl e=>
   cases m with
   | own s mi=>
    simp only[qw] at h;simp only[focus]
    split at h
    ·rename_i hs;simp only[hs,if_true];exact qiw p _ h
    ·simp at h
   | _=>simp[qw] at h
  | _=>simp[qw] at h
def Mk.le:(less more:Mk)→Prop
 | .gone,_=>True
 | .no,m=>m=.no
 | .own s a,m=>∃ b,m=.own s b∧a.le b
 | .pr a b,m=>∃ c d,m=.pr c d∧a.le c∧b.le d
theorem Mk.le_refl:∀ m:Mk,m.le m
 | .no=>rfl
 | .gone=>trivial
 | .own s m=>⟨m,rfl,m.le_refl⟩
 | .pr a b=>⟨a,b,rfl,a.le_refl,b.le_refl⟩
theorem Mk.le_trans:∀ {a b c:Mk},a.le b→b.le c→a.le c
 | .gone,_,_,_,_=>trivial
 | .no,b,c,h,h'=>by simp only[Mk.le] at h;subst h;exact h'
 | .own s a,b,c,h,h'=>by
  obtain ⟨b',rfl,h⟩:=h
  obtain ⟨c',rfl,h'⟩:=h'
  exact ⟨c',rfl,Mk.le_trans h h'⟩
 | .pr a1 a2,b,c,h,h'=>by
  obtain ⟨b1,b2,rfl,h1,h2⟩:=h
  obtain ⟨c1,c2,rfl,h3,h4⟩:=h'
  exact ⟨c1,c2,rfl,Mk.le_trans h1 h3,Mk.le_trans h2 h4⟩
def Mk.upd (lo hi:Nat) (m:Mk):Mk→Prop
 | .own s b=>(lo≤s∧s<hi)∨∃ a,m=.own s a∧Mk.upd lo hi a b
 | .pr c d=>Mk.upd lo hi m.fst c∧Mk.upd lo hi m.snd d
 | _=>True
theorem Mk.upd_fst {lo hi:Nat} {m n:Mk} (h:m.upd lo hi n):m.fst.upd lo hi n.fst:=by
 cases n with
 | no=>trivial
 | gone=>trivial
 | own s b=>trivial
 | pr c d=>exact h.1
theorem Mk.upd_snd {lo hi:Nat} {m n:Mk} (h:m.upd lo hi n):m.snd.upd lo hi n.snd:=by
 cases n with
 | no=>trivial
 | gone=>trivial
 | own s b=>trivial
 | pr c d=>exact h.2
theorem Mk.upd_refl (lo hi:Nat):∀ m:Mk,m.upd lo hi m
 | .no=>trivial
 | .gone=>trivial
 | .own s m=>.inr ⟨m,rfl,m.upd_refl lo hi⟩
 | .pr a b=>⟨a.upd_refl lo hi,b.upd_refl lo hi⟩
theorem Mk.upd_noMeet {lo hi:Nat}:∀ {m b:Mk},m.upd lo hi b→m.upd lo hi b.noMeet
 | m,.no,_=>trivial
 | m,.gone,_=>trivial
 | m,.own s b,_=>by unfold Mk.noMeet;split<;>trivial
 | m,.pr c d,h=>⟨Mk.upd_noMeet h.1,Mk.upd_noMeet h.2⟩
theorem Mk.upd_meet_no {lo hi:Nat}:∀ (a:Mk) (m:Mk),m.upd lo hi (a.meet .no)
 | .no,m=>trivial
 | .gone,m=>trivial
 | .own s a,m=>by simp only[Mk.meet];split<;>trivial
 | .pr a b,m=>⟨Mk.upd_meet_no a _,Mk.upd_meet_no b _⟩
theorem Mk.upd_meet {lo hi:Nat}:∀ {a m b:Mk},m.upd lo hi b→m.upd lo hi (a.meet b)
 | .no,m,b,h=>by simpa [Mk.meet] using Mk.upd_noMeet h
 | .gone,m,b,h=>trivial
 | .own s a,m,b,h=>by
  cases b with
  | no=>simp only[Mk.meet];split<;>trivial
  | gone=>trivial
  | pr _ _=>trivial
  | own s' b=>
   simp only[Mk.meet]
   rcases h with h | ⟨a',rfl,h⟩
   ·exact .inl h
   ·exact .inr ⟨a',rfl,Mk.upd_meet h⟩
 | .pr a1 a2,m,b,h=>by
  cases b with
  | no=>exact ⟨Mk.upd_meet_no a1 _,Mk.upd_meet_no a2 _⟩
  | gone=>trivial
  | own s' b=>trivial
  | pr b1 b2=>exact ⟨Mk.upd_meet h.1,Mk.upd_meet h.2⟩
def Mk.fresh (lo hi:Nat):Mk→Prop
 | .own s m=>lo≤s∧s<hi
 | .pr a b=>a.fresh lo hi∧b.fresh lo hi
 | _=>True
theorem Mk.upd_of_fresh {lo hi:Nat}:∀ {n:Mk} (m:Mk),n.fresh lo hi→m.upd lo hi n
 | .no,m,_=>trivial
 | .gone,m,_=>trivial
 | .own s b,m,h=>.inl h
 | .pr c d,m,h=>⟨Mk.upd_of_fresh _ h.1,Mk.upd_of_fresh _ h.2⟩
theorem qbfc {lo hi:Nat}:∀ (q:Path) {t:Ty} {m:Mk} {x:t.den} {t2:Ty} {m2:Mk} {y:t2.den} {m':Mk} {x':t.den},
  put t m x q t2 m2 y=some (m',x')→m2.fresh lo hi→m.upd lo hi m'
 | [],t,m,x,t2,m2,y,m',x',h,hm=>by
  simp only[put] at h
  cases hc:qbq t2 t y with
  | none=>rw[hc] at h;simp at h
  | some z=>
   rw[hc] at h
   simp only[z30,z4,z7] at h
   rw[←h.1];exact Mk.upd_of_fresh _ hm
 | .fst::q,t,m,x,t2,m2,y,m',x',h,hm=>by
  cases t with
  | pair a b=>
   simp only[put] at h
   cases hq:put a m.fst x.1 q t2 m2 y with
   | none=>rw[hq] at h;simp at h
   | some r=>
    rw[hq] at h
    simp only[z30,z4,z7] at h
    rw[←h.1]
    exact ⟨qbfc q hq hm,Mk.upd_refl _ _ _⟩
  | _=>simp[put] at h
 | .snd::q,t,m,x,t2,m2,y,m',x',h,hm=>by
  cases t with
  | pair a b=>
   simp only[put] at h
   cases hq:put b m.snd x.2 q t2 m2 y with
   | none=>rw[hq] at h;simp at h
   | some r=>
    rw[hq] at h
    simp only[z30,z4,z7] at h
    rw[←h.1]
    exact ⟨Mk.upd_refl _ _ _,qbfc q hq hm⟩
  | _=>simp[put] at h
 | .idx i s'::q,t,m,x,t2,m2,y,m',x',h,hm=>by
  cases t with
  | sl e=>
   cases m with
   | own s mi=>
    simp only[put] at h
    split at h
    ·rename_i hs
     cases hq:put e mi (x.getD i e.zero) q t2 m2 y with
     | none=>rw[hq] at h;simp at h
     | some r=>
      rw[hq] at h
      simp only[z30,z4,z7] at h
      rw[←h.1]
      exact .inr ⟨mi,rfl,Mk.upd_meet (qbfc q hq hm)⟩
    ·simp at h
   | _=>simp[put] at h
  | _=>simp[put] at h
theorem qjx {lo hi:Nat}:∀ (p:Path) {t:Ty} {m n:Mk} {t':Ty} {n':Mk},m.upd lo hi n→qcr lo hi p=true→qw t n p=some (t',n')→
  ∃ m',qw t m p=some (t',m')∧m'.upd lo hi n'
 | [],t,m,n,t',n',h,_,hf=>by
  have e:∀ m,qw t m []=some (t,m):=fun m=>by cases t<;>rfl
  rw[e] at hf
  simp only[z4,z7] at hf
  obtain ⟨rfl,rfl⟩:=hf
  exact ⟨m,e m,h⟩
 | .fst::p,t,m,n,t',n',h,hp,hf=>by
  cases t with
  | pair t1 t2=>simp only[qw] at hf ⊢;exact qjx p (Mk.upd_fst h) (by simpa [qcr] using hp) hf
  | _=>simp[qw] at hf
 | .snd::p,t,m,n,t',n',h,hp,hf=>by
  cases t with
  | pair t1 t2=>simp only[qw] at hf ⊢;exact qjx p (Mk.upd_snd h) (by simpa [qcr] using hp) hf
  | _=>simp[qw] at hf
 | .idx i s'::p,t,m,n,t',n',h,hp,hf=>by
  cases t with
  | sl e=>
   cases n with
   | own s b=>
    simp only[qw] at hf
    split at hf
    ·rename_i hs
     subst hs
     simp only[qcr,z9,Bool.not_eq_true',Bool.and_eq_false_iff] at hp
     rcases h with h | ⟨a,rfl,h⟩
     ·exfalso
      rcases hp.1 with h1 | h1
      ·have:Nat.ble lo s=true:=Nat.ble_eq_true_of_le h.1
       rw[this] at h1;simp at h1
      ·have:Nat.blt s hi=true:=Nat.ble_eq_true_of_le h.2
       rw[this] at h1;simp at h1
     ·simp only[qw,if_true]
      exact qjx p h hp.2 hf
    ·simp at hf
   | _=>simp[qw] at hf
  | _=>simp[qw] at hf
end
end Go.V

namespace Go.V
noncomputable section
open Go
abbrev Un (F G:BS):BS:=fun b=>F b∨G b
theorem q2m {a b c:List Value} {o:Nat} (h:o+c.length≤a.length):repl (a++b) o c=repl a o c++b:=by
 simp only[repl]
 rw[List.take_append_of_le_length (by omega),List.drop_append_of_le_length (by omega)]
 simp
theorem qyy {a b c:List Value} {o:Nat}:repl (a++b) (a.length+o) c=a++repl b o c:=by
 simp only[repl]
 rw[List.take_append,z42 (by omega),List.drop_append,List.drop_eq_nil_of_le (by omega)]
 simp[Nat.add_sub_cancel_left,Nat.add_assoc]
theorem qbb1 {a c:List Value} (h:c.length=a.length):repl a 0 c=c:=by
 simp[repl,h]
theorem qbve {cs:Array Value} {o:Nat} {a b:List Value} (h:sub cs o (a++b).length=a++b) :
  sub cs o a.length=a∧sub cs (o+a.length) b.length=b:=by
 simp only[sub,z19] at h ⊢
 constructor
 ·have:=congrArg (List.take a.length) h
  rw[List.take_take] at this
  simpa [Nat.min_eq_left (Nat.le_add_right _ _)] using this
 ·have:=congrArg (List.drop a.length) h
  rw[List.drop_take,List.drop_drop] at this
  simpa using this
theorem qcn.uniq {h:Array Obj} {b:Nat} {cs cs':Array Value} (x:qcn h b cs) (y:qcn h b cs'):cs=cs':=by
 obtain ⟨e,lo,hi,he,_⟩:=x
 obtain ⟨e',lo',hi',he',_⟩:=y
 rw[he] at he'
 simp at he'
 exact he'.1
theorem qiu:∀ p:Path,qcr 0 0 p=true
 | []=>rfl
 | .fst::p=>qiu p
 | .snd::p=>qiu p
 | .idx i s::p=>by
  have:Nat.blt s 0=false:=rfl
  simp[qcr,this,qiu p]
theorem qbxu {lo hi s:Nat} (h:lo≤s∧s<hi):(!(Nat.ble lo s&&Nat.blt s hi))=false:=by
 have e1:Nat.ble lo s=true:=Nat.ble_eq_true_of_le h.1
 have e2:Nat.blt s hi=true:=Nat.ble_eq_true_of_le h.2
 simp[e1,e2]
theorem qi7 {lo hi:Nat}:∀ (p:Path) {t:Ty} {m:Mk} {t':Ty} {m':Mk},m.fresh lo hi→qcr lo hi p=true→qw t m p=some (t',m')→
  qr p=false∧m'.fresh lo hi
 | [],t,m,t',m',h,_,hf=>by
  have e:∀ m,qw t m []=some (t,m):=fun m=>by cases t<;>rfl
  rw[e] at hf
  simp only[z4,z7] at hf
  exact ⟨rfl,hf.2 ▸ h⟩
 | .fst::p,t,m,t',m',h,hp,hf=>by
  cases t with
  | pair a b=>
   simp only[qw] at hf
   have:m.fst.fresh lo hi:=by cases m<;>first | exact h.1 | trivial
   exact qi7 p this (by simpa [qcr] using hp) hf
  | _=>simp[qw] at hf
 | .snd::p,t,m,t',m',h,hp,hf=>by
  cases t with
  | pair a b=>
   simp only[qw] at hf
   have:m.snd.fresh lo hi:=by cases m<;>first | exact h.2 | trivial
   exact qi7 p this (by simpa [qcr] using hp) hf
  | _=>simp[qw] at hf
 | .idx i s'::p,t,m,t',m',h,hp,hf=>by
  cases t with
  | sl e=>
   cases m with
   | own s mi=>
    simp only[qw] at hf
    split at hf
    ·rename_i hs
     subst hs
     simp only[qcr,z9] at hp
     rw[qbxu h] at hp
     simp at hp
    ·simp at hf
   | _=>simp[qw] at hf
  | _=>simp[qw] at hf
theorem qi3:∀ (p:Path) {t:Ty} {m:Mk} {t':Ty} {m':Mk} (x:t.den),qr p=false→qw t m p=some (t',m')→inR t x p
 | [],t,_,_,_,x,_,_=>by cases t<;>trivial
 | .fst::p,t,m,t',m',x,hp,hf=>by
  cases t with
  | pair a b=>simp only[qw] at hf;simp only[inR];exact qi3 p x.1 hp hf
  | _=>simp[qw] at hf
 | .snd::p,t,m,t',m',x,hp,hf=>by
  cases t with
  | pair a b=>simp only[qw] at hf;simp only[inR];exact qi3 p x.2 hp hf
  | _=>simp[qw] at hf
 | .idx i s::p,_,_,_,_,_,hp,_=>by simp[qr] at hp
theorem qnj {h h':Array Obj}:∀ (p:Path) {t:Ty} (c c':List Value) (base:Base) {bp:Base} {cp:List Value},qr p=false→atP h t c base p=some (bp,cp)→
  ∃ cp',atP h' t c' base p=some (bp,cp')
 | [],t,c,c',base,bp,cp,_,ha=>by
  have e:∀ h c,atP h t c base []=some (base,c):=fun h c=>by cases t<;>rfl
  rw[e] at ha
  simp only[z4,z7] at ha
  exact ⟨c',by rw[e,ha.1]⟩
 | .fst::p,t,c,c',base,bp,cp,hp,ha=>by
  cases t with
  | pair a b=>simp only[atP] at ha ⊢;exact qnj p _ _ base hp ha
  | _=>simp[atP] at ha
 | .snd::p,t,c,c',base,bp,cp,hp,ha=>by
  cases t with
  | pair a b=>simp only[atP] at ha ⊢;exact qnj p _ _ _ hp ha
  | _=>simp[atP] at ha
 | .idx i s::p,_,_,_,_,_,_,hp,_=>by simp[qr] at hp
theorem qbw4 {w i n o:Nat} {l l2 c2:List Value} (ht:l2=repl l (i * w+o) c2) (hfit:i * w+w≤l.length) (ho:o+c2.length≤w) :
  ((l2.drop (i * w)).take w=repl ((l.drop (i * w)).take w) o c2)∧∀ j,j≠i→(l2.drop (j * w)).take w=(l.drop (j * w)).take w:=by
 subst ht
 have hf:i * w+o+c2.length≤l.length:=by omega
 constructor
 ·apply List.ext_getElem?
  intro k
  simp only[repl,z39,z44]
  by_cases hk':k<w
  ·simp only[hk',if_true]
   by_cases hk1:k<o
   ·rw[z33,z43 (by simp;omega),z33,z43 (by simp;omega)]
    simp only[z39,z44]
    rw[z6 (by omega),z6 (by omega),z6 (by omega)]
   ·by_cases hk2:k<o+c2.length
    ·rw[z33,z47 (by simp;omega),z43 (by simp;omega),z33,
      z47 (by simp;omega),z43 (by simp;omega)]
     congr 1;simp;omega
    ·rw[z47 (by simp;omega),z47 (by simp;omega)]
     simp only[z44,z39]
     simp only[z19,z27,List.length_drop]
     rw[z6 (by omega)]
     congr 1;omega
  ·simp only[hk',if_false]
   rw[List.getElem?_eq_none (by simp;omega)]
 ·intro j hj
  apply qbbn hf
  rcases Nat.lt_or_gt_of_ne hj with h1 | h1
  ·left
   have:=z26 w (show j+1≤i by omega)
   rw[Nat.add_mul,Nat.one_mul] at this;omega
  ·right
   have:=z26 w (show i+1≤j by omega)
   rw[Nat.add_mul,Nat.one_mul] at this;omega
structure Zip (h:Array Obj) (Pr:BS) (p:Path) (t:Ty) (m:Mk) (x:t.den) (c:List Value) (F:BS) (base:Base) (d:Dy) (base':Base) (c':List Value) (F' Fr:BS):Prop where
 at_:atP h t c base p=some (base',c')
 rep:Rep h Pr d.ty d.ms d.x c' F'
 ok:qqr h base' c' F'
 sub:Sub F' F
 fr:Sub Fr F
 dis:Dis F' Fr
 home:∀ b o,base'=some (b,o)→Fr b∨∃ o0,base=some (b,o0)
 idx:qr p=true→∃ b o,base'=some (b,o)∧Fr b
 plain:qr p=false→base'=base.map (fun z=>(z.1,z.2+qbd t p))∧c'=(c.drop (qbd t p)).take d.ty.width∧qbd t p+d.ty.width≤c.length
 wand:∀ (h2:Array Obj) (Pr2:BS) (m2:Mk) (y:d.ty.den) (c2:List Value) (F2:BS) (m':Mk) (x':t.den),
  Sub Pr Pr2→(∀ b,Pr b→h2[b]? = h[b]?)→(∀ b,Fr b→(∀ o,base'≠some (b,o))→h2[b]? = h[b]?)→Upd h h2 base' c2→
  Rep h2 Pr2 d.ty m2 y c2 F2→Dis F2 Fr→put t m x p d.ty m2 y=some (m',x')→
  ∃ F3 D3:BS,Sub F3 (Un Fr F2)∧Sub D3 (Un Fr F2)∧Dis F3 D3∧Rep h2 (Un Pr2 D3) t m' x' (if qr p then c else repl c (qbd t p) c2) F3
 paths:∀ (lo hi:Nat) (h2:Array Obj) (m2:Mk) (y:d.ty.den) (c2:List Value) (m':Mk) (x':t.den),
  (∀ b,Fr b→(∀ o,base'≠some (b,o))→h2[b]? = h[b]?)→Upd h h2 base' c2→c2.length=d.ty.width→put t m x p d.ty m2 y=some (m',x')→d.ms.upd lo hi m2→
  (∀ p' t1 n1,qcr lo hi p'=true→qw d.ty m2 p'=some (t1,n1)→inR d.ty d.x p'→inR d.ty y p'∧∀ bp cp,atP h d.ty c' base' p'=some (bp,cp)→
   ∃ cp',atP h2 d.ty c2 base' p'=some (bp,cp')∧(∀ s a,n1=.own s a→¬ (lo≤s∧s<hi)→cp'=cp))→
  m.upd lo hi m'∧∀ p' t1 n1,qcr lo hi p'=true→qw t m' p'=some (t1,n1)→inR t x p'→inR t x' p'∧∀ bp cp,atP h t c base p'=some (bp,cp)→
   ∃ cp',atP h2 t (if qr p then c else repl c (qbd t p) c2) base p'=some (bp,cp')∧(∀ s a,n1=.own s a→¬ (lo≤s∧s<hi)→cp'=cp)
theorem qtr (t:Ty) (x:t.den):qbq t t x=some x:=by simp[qbq]
theorem zip {h:Array Obj} {Pr:BS}:∀ (p:Path) (t:Ty) (m:Mk) (x:t.den) (c:List Value) (F:BS) (base:Base) (d:Dy),
  Rep h Pr t m x c F→focus t m x p=some d→inR t x p→qqr h base c F→
  ∃ base' c' F' Fr,Zip h Pr p t m x c F base d base' c' F' Fr
 | [],t,m,x,c,F,base,d,r,hf,_,hb=>by
  simp only[focus,z4] at hf
  subst hf
  refine ⟨base,c,F,Nil,by cases t<;>rfl,r,hb,Sub.refl _,Sub.nil _,fun _ _ h=>h.elim,fun b o e=>.inr ⟨o,e⟩,by simp[qr],?_,?_,?_⟩
  ·intro _
   refine ⟨by cases base<;>simp[qbd],?_,?_⟩
   ·simp[qbd,←Rep.width t r]
   ·simp[qbd,Rep.width t r]
  ·intro h2 Pr2 m2 y c2 F2 m' x' hp _ _ _ r2 _ hput
   have e0:qbd t []=0:=by cases t<;>rfl
   simp only[put,qtr,z30,z4,z7] at hput
   obtain ⟨rfl,rfl⟩:=hput
   refine ⟨F2,Nil,fun b hb=>.inr hb,Sub.nil _,fun _ _ h=>h.elim,?_⟩
   simp only[qr,z34,if_false,e0]
   rw[qbb1 (by rw[Rep.width t r2,Rep.width t r])]
   exact Rep.mono (fun b hb=>.inl hb) (fun _ _=>rfl) t r2 (Sub.refl _) (fun _ _=>rfl)
  ·intro lo hi h2 m2 y c2 m' x' _ _ hc hput hup hbase
   have e0:qbd t []=0:=by cases t<;>rfl
   simp only[put,qtr,z30,z4,z7] at hput
   obtain ⟨rfl,rfl⟩:=hput
   refine ⟨hup,?_⟩
   simp only[qr,z34,if_false,e0]
   rw[qbb1 (by rw[hc,Rep.width t r])]
   exact hbase
 | .fst::p,t,m,x,c,F,base,d,r,hf,hr,hb=>by
  cases t with
  | pair a b=>
   simp only[focus] at hf
   simp only[inR] at hr
   simp only[Rep] at r
   obtain ⟨ca,cb,Fa,Fb,rfl,ra,rb,sa,sb,dd⟩:=r
   have wa:=Rep.width a ra
   have hba:qqr h base ca Fa:=by
    intro b' o e
    obtain ⟨h1,cs,h2,h3,h4⟩:=hb b' o e
    exact ⟨fun hz=>h1 (sa _ hz),cs,h2,by simp at h3;omega,(qbve h4).1⟩
   obtain ⟨base',c',F',Fr,z⟩:=zip p a m.fst x.1 ca Fa base d ra hf hr hba
   refine ⟨base',c',F',Un Fr Fb,?_,z.rep,z.ok,z.sub.trans sa,?_,?_,?_,?_,?_,?_,?_⟩
   ·simp only[atP];rw[←wa,List.take_left' rfl];exact z.at_
   ·rintro y (hy | hy)
    ·exact sa y (z.fr y hy)
    ·exact sb y hy
   ·rintro y hy (hz | hz)
    ·exact z.dis y hy hz
    ·exact dd y (z.sub y hy) hz
   ·intro b' o e;exact (z.home b' o e).imp .inl id
   ·intro e;obtain ⟨b',o,e1,e2⟩:=z.idx (by simpa [qr] using e);exact ⟨b',o,e1,.inl e2⟩
   ·intro e
    obtain ⟨e1,e2,e3⟩:=z.plain (by simpa [qr] using e)
    refine ⟨by simpa [qbd] using e1,?_,by simp[qbd];omega⟩
    rw[e2];simp only[qbd]
    rw[List.drop_append_of_le_length (by omega),List.take_append_of_le_length (by simp;omega)]
   ·intro h2 Pr2 m2 y c2 F2 m' x' hp hpk hk hu r2 hd hput
    simp only[put] at hput
    cases hq:put a m.fst x.1 p d.ty m2 y with
    | none=>simp[hq] at hput
    | some q=>
     simp only[hq,z30,z4,z7] at hput
     obtain ⟨rfl,rfl⟩:=hput
     obtain ⟨F3,D3,s3,sd,d3,r3⟩:=z.wand h2 Pr2 m2 y c2 F2 q.1 q.2 hp hpk (fun b' hb' hn=>hk b' (.inl hb') hn) hu r2 (hd.mono (Sub.refl _) fun b hb=>.inl hb) hq
     refine ⟨Un F3 Fb,D3,?_,?_,?_,?_⟩
     ·rintro b' (hz | hz)
      ·rcases s3 b' hz with hz | hz
       ·exact .inl (.inl hz)
       ·exact .inr hz
      ·exact .inl (.inr hz)
     ·intro b' hz
      rcases sd b' hz with hz | hz
      ·exact .inl (.inl hz)
      ·exact .inr hz
     ·rintro b' (hz | hz) hy
      ·exact d3 b' hz hy
      ·rcases sd b' hy with hy | hy
       ·exact dd b' (z.fr b' hy) hz
       ·exact hd b' hy (.inr hz)
     ·have hfb:∀ b',Fb b'→h2[b']? = h[b']?:=by
       intro b' hb'
       refine hk b' (.inr hb') fun o e=>?_
       rcases z.home b' o e with h1 | ⟨o0,h1⟩
       ·exact dd b' (z.fr b' h1) hb'
       ·exact (hb b' o0 h1).1 (sb b' hb')
      have rb':=Rep.mono (Pr':=Un Pr2 D3) (fun b' hz=>.inl (hp b' hz)) hpk b rb (Sub.refl _) hfb
      have hc2:c2.length=d.ty.width:=Rep.width d.ty r2
      simp only[Rep]
      refine ⟨if qr p then ca else repl ca (qbd a p) c2,cb,F3,Fb,?_,r3,rb',fun _ h=>.inl h,fun _ h=>.inr h,?_⟩
      ·simp only[qr]
       by_cases hi:qr p=true
       ·simp[hi]
       ·have hi':qr p=false:=by simpa using hi
        have:=(z.plain hi').2.2
        simp only[hi',z34,if_false,qbd]
        rw[q2m (by omega)]
      ·intro b' hz hy
       rcases s3 b' hz with hz | hz
       ·exact dd b' (z.fr b' hz) hy
       ·exact hd b' hz (.inr hy)
   ·intro lo hi h2 m2 y c2 m' x' hk hu hc hput hup hbase
    simp only[put] at hput
    cases hq:put a m.fst x.1 p d.ty m2 y with
    | none=>rw[hq] at hput;simp at hput
    | some rr=>
     rw[hq] at hput
     simp only[z30,z4,z7] at hput
     obtain ⟨rfl,rfl⟩:=hput
     obtain ⟨hup',hpath⟩:=z.paths lo hi h2 m2 y c2 rr.1 rr.2 (fun b' hb' hn=>hk b' (.inl hb') hn) hu hc hq hup hbase
     have hnew:(if qr (.fst::p) then ca++cb else repl (ca++cb) (qbd (.pair a b) (.fst::p)) c2)=(if qr p then ca else repl ca (qbd a p) c2)++cb:=by
      simp only[qr,qbd]
      by_cases hi':qr p=true
      ·simp[hi']
      ·have hi'':qr p=false:=by simpa using hi'
       have:=(z.plain hi'').2.2
       simp only[hi'',z34,if_false]
       rw[q2m (by omega)]
     have hlen:(if qr p then ca else repl ca (qbd a p) c2).length=a.width:=by
      by_cases hi':qr p=true
      ·simp[hi',wa]
      ·have hi'':qr p=false:=by simpa using hi'
       have:=(z.plain hi'').2.2
       simp only[hi'',z34,if_false]
       rw[qiq (by omega),wa]
     refine ⟨⟨hup',Mk.upd_refl _ _ _⟩,?_⟩
     rw[hnew]
     intro p' t1 n1 hp hfp hin
     cases p' with
     | nil=>
      refine ⟨trivial,fun bp cp hap=>?_⟩
      simp only[atP,z4,z7] at hap ⊢
      simp only[qw,z4,z7] at hfp
      refine ⟨_,⟨hap.1,rfl⟩,fun s a' e _=>?_⟩
      rw[←hfp.2] at e;simp at e
     | cons p0 p'=>
      cases p0 with
      | fst=>
       simp only[qw] at hfp
       simp only[inR] at hin ⊢
       obtain ⟨h1,h3⟩:=hpath p' t1 n1 (by simpa [qcr] using hp) hfp hin
       refine ⟨h1,fun bp cp hap=>?_⟩
       simp only[atP] at hap ⊢
       rw[←wa,List.take_left' rfl] at hap
       rw[←hlen,List.take_left' rfl]
       exact h3 bp cp hap
      | snd=>
       simp only[qw] at hfp
       simp only[inR] at hin ⊢
       refine ⟨hin,fun bp cp hap=>?_⟩
       simp only[atP] at hap ⊢
       rw[←wa,List.drop_left' rfl] at hap
       rw[←hlen,List.drop_left' rfl,hlen]
       obtain ⟨y',hy'⟩:=qiw p' x.2 hfp
       have hcon:=qro (h':=h2) p' (base.map fun z=>(z.1,z.2+a.width)) rb hy' hin (fun b' hb'=>by
        refine hk b' (.inr hb') fun o e=>?_
        rcases z.home b' o e with h1 | ⟨o0,h1⟩
        ·exact dd b' (z.fr b' h1) hb'
        ·exact (hb b' o0 h1).1 (sb b' hb'))
       rw[hcon]
       rw[wa] at hap
       exact ⟨cp,hap,fun _ _ _ _=>rfl⟩
      | idx i s=>simp[qw] at hfp
  | _=>simp[focus] at hf
 | .snd::p,t,m,x,c,F,base,d,r,hf,hr,hb=>by
  cases t with
  | pair a b=>
   simp only[focus] at hf
   simp only[inR] at hr
   simp only[Rep] at r
   obtain ⟨ca,cb,Fa,Fb,rfl,ra,rb,sa,sb,dd⟩:=r
   have wa:=Rep.width a ra
   have hbb:qqr h (base.map fun z=>(z.1,z.2+a.width)) cb Fb:=by
    intro b' o e
    simp only[z29] at e
    obtain ⟨⟨b0,o0⟩,e,e'⟩:=e
    simp only[z7] at e'
    obtain ⟨rfl,rfl⟩:=e'
    obtain ⟨h1,cs,h2,h3,h4⟩:=hb b0 o0 e
    exact ⟨fun hz=>h1 (sb _ hz),cs,h2,by simp at h3;omega,by rw[←wa];exact (qbve h4).2⟩
   obtain ⟨base',c',F',Fr,z⟩:=zip p b m.snd x.2 cb Fb _ d rb hf hr hbb
   refine ⟨base',c',F',Un Fr Fa,?_,z.rep,z.ok,z.sub.trans sb,?_,?_,?_,?_,?_,?_,?_⟩
   ·simp only[atP];rw[←wa,List.drop_left' rfl,wa];exact z.at_
   ·rintro y (hy | hy)
    ·exact sb y (z.fr y hy)
    ·exact sa y hy
   ·rintro y hy (hz | hz)
    ·exact z.dis y hy hz
    ·exact dd y hz (z.sub y hy)
   ·intro b' o e
    rcases z.home b' o e with h1 | ⟨o0,h1⟩
    ·exact .inl (.inl h1)
    ·simp only[z29] at h1
     obtain ⟨⟨b0,o1⟩,h1,h2⟩:=h1
     simp only[z7] at h2
     exact .inr ⟨o1,by rw[h1,←h2.1]⟩
   ·intro e;obtain ⟨b',o,e1,e2⟩:=z.idx (by simpa [qr] using e);exact ⟨b',o,e1,.inl e2⟩
   ·intro e
    obtain ⟨e1,e2,e3⟩:=z.plain (by simpa [qr] using e)
    refine ⟨?_,?_,by simp[qbd];omega⟩
    ·rw[e1];cases base<;>simp[qbd,Nat.add_assoc]
    ·rw[e2];simp only[qbd]
     rw[show List.drop (a.width+qbd b p) (ca++cb)=List.drop (qbd b p) cb from by rw[←List.drop_drop,←wa,List.drop_left' rfl]]
   ·intro h2 Pr2 m2 y c2 F2 m' x' hp hpk hk hu r2 hd hput
    simp only[put] at hput
    cases hq:put b m.snd x.2 p d.ty m2 y with
    | none=>simp[hq] at hput
    | some q=>
     simp only[hq,z30,z4,z7] at hput
     obtain ⟨rfl,rfl⟩:=hput
     obtain ⟨F3,D3,s3,sd,d3,r3⟩:=z.wand h2 Pr2 m2 y c2 F2 q.1 q.2 hp hpk (fun b' hb' hn=>hk b' (.inl hb') hn) hu r2 (hd.mono (Sub.refl _) fun b hb=>.inl hb) hq
     refine ⟨Un F3 Fa,D3,?_,?_,?_,?_⟩
     ·rintro b' (hz | hz)
      ·rcases s3 b' hz with hz | hz
       ·exact .inl (.inl hz)
       ·exact .inr hz
      ·exact .inl (.inr hz)
     ·intro b' hz
      rcases sd b' hz with hz | hz
      ·exact .inl (.inl hz)
      ·exact .inr hz
     ·rintro b' (hz | hz) hy
      ·exact d3 b' hz hy
      ·rcases sd b' hy with hy | hy
       ·exact dd b' hz (z.fr b' hy)
       ·exact hd b' hy (.inr hz)
     ·have hfa:∀ b',Fa b'→h2[b']? = h[b']?:=by
       intro b' hb'
       refine hk b' (.inr hb') fun o e=>?_
       rcases z.home b' o e with h1 | ⟨o0,h1⟩
       ·exact dd b' hb' (z.fr b' h1)
       ·simp only[z29] at h1
        obtain ⟨⟨b0,o1⟩,h1,h2⟩:=h1
        simp only[z7] at h2
        obtain ⟨rfl,_⟩:=h2
        exact (hb b0 o1 h1).1 (sa b0 hb')
      have ra':=Rep.mono (Pr':=Un Pr2 D3) (fun b' hz=>.inl (hp b' hz)) hpk a ra (Sub.refl _) hfa
      have hc2:c2.length=d.ty.width:=Rep.width d.ty r2
      simp only[Rep]
      refine ⟨ca,if qr p then cb else repl cb (qbd b p) c2,Fa,F3,?_,ra',r3,fun _ h=>.inr h,fun _ h=>.inl h,?_⟩
      ·simp only[qr]
       by_cases hi:qr p=true
       ·simp[hi]
       ·have hi':qr p=false:=by simpa using hi
        simp only[hi',z34,if_false,qbd]
        rw[←wa,qyy]
      ·intro b' hy hz
       rcases s3 b' hz with hz | hz
       ·exact dd b' hy (z.fr b' hz)
       ·exact hd b' hz (.inr hy)
   ·intro lo hi h2 m2 y c2 m' x' hk hu hc hput hup hbase
    simp only[put] at hput
    cases hq:put b m.snd x.2 p d.ty m2 y with
    | none=>rw[hq] at hput;simp at hput
    | some rr=>
     rw[hq] at hput
     simp only[z30,z4,z7] at hput
     obtain ⟨rfl,rfl⟩:=hput
     obtain ⟨hup',hpath⟩:=z.paths lo hi h2 m2 y c2 rr.1 rr.2 (fun b' hb' hn=>hk b' (.inl hb') hn) hu hc hq hup hbase
     have hnew:(if qr (.snd::p) then ca++cb else repl (ca++cb) (qbd (.pair a b) (.snd::p)) c2)=ca++(if qr p then cb else repl cb (qbd b p) c2):=by
      simp only[qr,qbd]
      by_cases hi':qr p=true
      ·simp[hi']
      ·have hi'':qr p=false:=by simpa using hi'
       simp only[hi'',z34,if_false]
       rw[←wa,qyy]
     refine ⟨⟨Mk.upd_refl _ _ _,hup'⟩,?_⟩
     rw[hnew]
     intro p' t1 n1 hp hfp hin
     cases p' with
     | nil=>
      refine ⟨trivial,fun bp cp hap=>?_⟩
      simp only[atP,z4,z7] at hap ⊢
      simp only[qw,z4,z7] at hfp
      refine ⟨_,⟨hap.1,rfl⟩,fun s a' e _=>?_⟩
      rw[←hfp.2] at e;simp at e
     | cons p0 p'=>
      cases p0 with
      | snd=>
       simp only[qw] at hfp
       simp only[inR] at hin ⊢
       obtain ⟨h1,h3⟩:=hpath p' t1 n1 (by simpa [qcr] using hp) hfp hin
       refine ⟨h1,fun bp cp hap=>?_⟩
       simp only[atP] at hap ⊢
       rw[←wa,List.drop_left' rfl,wa] at hap
       rw[←wa,List.drop_left' rfl,wa]
       exact h3 bp cp hap
      | fst=>
       simp only[qw] at hfp
       simp only[inR] at hin ⊢
       refine ⟨hin,fun bp cp hap=>?_⟩
       simp only[atP] at hap ⊢
       rw[←wa,List.take_left' rfl] at hap
       rw[←wa,List.take_left' rfl]
       obtain ⟨y',hy'⟩:=qiw p' x.1 hfp
       have hcon:=qro (h':=h2) p' base ra hy' hin (fun b' hb'=>by
        refine hk b' (.inr hb') fun o e=>?_
        rcases z.home b' o e with h1 | ⟨o0,h1⟩
        ·exact dd b' hb' (z.fr b' h1)
        ·simp only[z29] at h1
         obtain ⟨⟨b0,o1⟩,h1,h2⟩:=h1
         simp only[z7] at h2
         obtain ⟨rfl,_⟩:=h2
         exact (hb b0 o1 h1).1 (sa b0 hb'))
       rw[hcon]
       exact ⟨cp,hap,fun _ _ _ _=>rfl⟩
      | idx i s=>simp[qw] at hfp
  | _=>simp[focus] at hf
 | .idx i s'::p,t,m,xs,c,F,base,d,r,hf,hr,hb=>by
  cases t with
  | sl e=>
   cases m with
   | own s mi=>
    simp only[focus] at hf
    by_cases hs:s=s'
    ·simp only[hs,if_true] at hf
     simp only[inR] at hr
     obtain ⟨hi,hr⟩:=hr
     simp only[Rep] at r
     obtain ⟨a,cap,rfl,hl,r⟩:=r
     rcases r with r | ⟨b1,cs,rfl,fb,hb1,hsz,Fs,hF,hdd,re⟩
     ·omega
     have ri:=re i hi
     have wi:=Rep.width e ri
     have hle:i * e.width+e.width≤cs.size:=by
      have:=z26 e.width (show i+1≤cap by omega)
      rw[Nat.add_mul,Nat.one_mul] at this;omega
     have hbi:qqr h (some (b1,i * e.width)) (sub cs (i * e.width) e.width) (Fs i):=by
      intro b' o e'
      simp only[z4,z7] at e'
      obtain ⟨rfl,rfl⟩:=e'
      refine ⟨(hF i).2,cs,hb1,by rw[wi];exact hle,?_⟩
      rw[wi]
     obtain ⟨base',c',F',Fr,z⟩:=zip p e mi (xs.getD i e.zero) _ (Fs i) (some (b1,i * e.width)) d ri hf hr hbi
     refine ⟨base',c',F',fun b=>b=b1∨Fr b∨∃ j,j≠i∧Fs j b,?_,z.rep,z.ok,z.sub.trans (hF i).1,?_,?_,?_,?_,by simp[qr],?_,?_⟩
     ·simp only[atP]
      obtain ⟨ty,lo,hi',he,_⟩:=hb1
      simp only[he];exact z.at_
     ·rintro b' (rfl | hz | ⟨j,_,hz⟩)
      ·exact fb
      ·exact (hF i).1 b' (z.fr b' hz)
      ·exact (hF j).1 b' hz
     ·rintro b' hy (rfl | hz | ⟨j,hj,hz⟩)
      ·exact (hF i).2 (z.sub _ hy)
      ·exact z.dis b' hy hz
      ·exact hdd j i hj b' hz (z.sub b' hy)
     ·intro b' o e'
      rcases z.home b' o e' with h1 | ⟨o0,h1⟩
      ·exact .inl (.inr (.inl h1))
      ·simp only[z4,z7] at h1
       exact .inl (.inl h1.1.symm)
     ·intro _
      by_cases hp:qr p=true
      ·obtain ⟨b',o,e1,e2⟩:=z.idx hp
       exact ⟨b',o,e1,.inr (.inl e2)⟩
      ·have hp':qr p=false:=by simpa using hp
       have:=(z.plain hp').1
       simp only[z35] at this
       exact ⟨b1,_,this,.inl rfl⟩
     ·intro h2 Pr2 m2 y c2 F2 m' x' hp hpk hk hu r2 hd hput
      simp only[put,hs,if_true] at hput
      cases hq:put e mi (xs.getD i e.zero) p d.ty m2 y with
      | none=>rw[hq] at hput;simp at hput
      | some q=>
       rw[hq] at hput
       simp only[z30,z4,z7] at hput
       obtain ⟨rfl,rfl⟩:=hput
       obtain ⟨F3,D3,s3,sd,d3,r3⟩:=z.wand h2 Pr2 m2 y c2 F2 q.1 q.2 hp hpk (fun b' hb' hn=>hk b' (.inr (.inl hb')) hn) hu r2
        (hd.mono (Sub.refl _) fun b hb=>.inr (.inl hb)) hq
       have hc2:c2.length=d.ty.width:=Rep.width d.ty r2
       -- the block behind it
       have hblk:∃ cs2:Array Value,qcn h2 b1 cs2∧cs2.size=cs.size∧
         sub cs2 (i * e.width) e.width=(if qr p then sub cs (i * e.width) e.width else repl (sub cs (i * e.width) e.width) (qbd e p) c2)∧
         ∀ j,j≠i→sub cs2 (j * e.width) e.width=sub cs (j * e.width) e.width:=by
        by_cases hi':qr p=true
        ·obtain ⟨b',o,e1,e2⟩:=z.idx hi'
         refine ⟨cs,hb1.congr (hk b1 (.inl rfl) fun o' e'=>?_),rfl,by simp[hi'],fun _ _=>rfl⟩
         rw[e1] at e'
         simp only[z4,z7] at e'
         obtain ⟨rfl,_⟩:=e'
         exact (hF i).2 (z.fr _ e2)
        ·have hi'':qr p=false:=by simpa using hi'
         obtain ⟨e1,e2,e3⟩:=z.plain hi''
         rw[wi] at e3
         simp only[z35] at e1
         obtain ⟨cs2,ho2,ht⟩:=hu b1 _ e1 cs hb1
         have hfit:i * e.width+qbd e p+c2.length≤cs.toList.length:=by simp;omega
         refine ⟨cs2,ho2,?_,?_,fun j hj=>?_⟩
         ·have:=congrArg List.length ht
          rw[qiq hfit] at this;simpa using this
         ·simp only[hi'',z34,if_false]
          simp only[sub];rw[ht]
          apply List.ext_getElem?
          intro k
          simp only[repl,z39,z44]
          by_cases hk':k<e.width
          ·simp only[hk',if_true]
           by_cases hk1:k<qbd e p
           ·rw[z33,z43 (by simp;omega),z33,z43 (by simp;omega)]
            simp only[z39,z44]
            rw[z6 (by omega),z6 (by omega),z6 (by omega)]
           ·by_cases hk2:k<qbd e p+c2.length
            ·rw[z33,z47 (by simp;omega),z43 (by simp;omega),z33,
              z47 (by simp;omega),z43 (by simp;omega)]
             congr 1;simp;omega
            ·rw[z47 (by simp;omega),z47 (by simp;omega)]
             simp only[z44,z39]
             simp only[z19,z27,List.length_drop]
             rw[z6 (by omega)]
             have e5:cs.toList.length=cs.size:=by simp
             congr 1;omega
          ·simp only[hk',if_false]
           rw[List.getElem?_eq_none (by simp;omega)]
         ·simp only[sub];rw[ht]
          apply qbbn hfit
          rcases Nat.lt_or_gt_of_ne hj with h1 | h1
          ·left
           have:=z26 e.width (show j+1≤i by omega)
           rw[Nat.add_mul,Nat.one_mul] at this;omega
          ·right
           have:=z26 e.width (show i+1≤j by omega)
           rw[Nat.add_mul,Nat.one_mul] at this;omega
       obtain ⟨cs2,ho2,hsz2,hsi,hsj⟩:=hblk
       have hmb:=Mk.meet_both mi q.1
       -- the others
       have hoth:∀ j,j≠i→∀ b',Fs j b'→h2[b']? = h[b']?:=by
        intro j hj b' hb'
        refine hk b' (.inr (.inr ⟨j,hj,hb'⟩)) fun o e'=>?_
        rcases z.home b' o e' with h1 | ⟨o0,h1⟩
        ·exact hdd j i hj b' hb' (z.fr b' h1)
        ·simp only[z4,z7] at h1
         obtain ⟨rfl,_⟩:=h1
         exact (hF j).2 hb'
       have key:∀ j,∃ G1 G2:BS,Sub G1 (if j=i then F3 else Fs j)∧Sub G2 (if j=i then F3 else Fs j)∧Dis G1 G2∧
         (j<xs.length→Rep h2 (Un (Un Pr2 D3) G2) e (mi.meet q.1) ((xs.set i q.2).getD j e.zero) (sub cs2 (j * e.width) e.width) G1):=by
        intro j
        by_cases hj:j=i
        ·subst hj
         obtain ⟨G1,G2,s1,s2,dd,rr⟩:=Rep.serves e hmb.2 r3
         refine ⟨G1,G2,by simpa using s1,by simpa using s2,dd,fun _=>?_⟩
         rw[hsi]
         have:(xs.set j q.2).getD j e.zero=q.2:=by simp[List.getD,List.getElem?_set,hi]
         rw[this];exact rr
        ·by_cases hjl:j<xs.length
         ·have rj:=Rep.mono (Pr':=Un Pr2 D3) (fun b' hz=>.inl (hp b' hz)) hpk e (re j hjl) (Sub.refl _) (hoth j hj)
          obtain ⟨G1,G2,s1,s2,dd,rr⟩:=Rep.serves e hmb.1 rj
          refine ⟨G1,G2,by simpa [hj] using s1,by simpa [hj] using s2,dd,fun _=>?_⟩
          rw[hsj j hj]
          have:(xs.set i q.2).getD j e.zero=xs.getD j e.zero:=by simp[List.getD,List.getElem?_set,Ne.symm hj]
          rw[this];exact rr
         ·exact ⟨Nil,Nil,Sub.nil _,Sub.nil _,Dis.nil _,fun h=>absurd h hjl⟩
       obtain ⟨G1,key⟩:=Classical.axiomOfChoice key
       obtain ⟨G2,key⟩:=Classical.axiomOfChoice key
       have hG:∀ j b',(if j=i then F3 else Fs j) b'→(j=i∧(Fr b'∨F2 b'))∨(j≠i∧Fs j b'):=by
        intro j b' hb'
        by_cases hj:j=i
        ·simp only[hj,if_true] at hb';exact .inl ⟨hj,s3 b' hb'⟩
        ·simp only[hj,if_false] at hb';exact .inr ⟨hj,hb'⟩
       have hGd:∀ j k b',j≠k→(if j=i then F3 else Fs j) b'→(if k=i then F3 else Fs k) b'→False:=by
        intro j k b' hjk h1 h2'
        rcases hG j b' h1 with ⟨e1,h1⟩ | ⟨e1,h1⟩<;>rcases hG k b' h2' with ⟨e2,h3⟩ | ⟨e2,h3⟩
        ·exact hjk (e1.trans e2.symm)
        ·rcases h1 with h1 | h1
         ·exact hdd k i e2 b' h3 (z.fr b' h1)
         ·exact hd b' h1 (.inr (.inr ⟨k,e2,h3⟩))
        ·rcases h3 with h3 | h3
         ·exact hdd j i e1 b' h1 (z.fr b' h3)
         ·exact hd b' h3 (.inr (.inr ⟨j,e1,h1⟩))
        ·exact hdd j k hjk b' h1 h3
       have hb1n:∀ j,¬ (if j=i then F3 else Fs j) b1:=by
        intro j h1
        rcases hG j b1 h1 with ⟨e1,h1 | h1⟩ | ⟨e1,h1⟩
        ·exact (hF i).2 (z.fr b1 h1)
        ·exact hd b1 h1 (.inl rfl)
        ·exact (hF j).2 h1
       refine ⟨fun b=>b=b1∨∃ j,G1 j b,fun b=>D3 b∨∃ j,G2 j b,?_,?_,?_,?_⟩
       ·rintro b' (rfl | ⟨j,hj⟩)
        ·exact .inl (.inl rfl)
        ·rcases hG j b' ((key j).1 b' hj) with ⟨_,h1 | h1⟩ | ⟨e1,h1⟩
         ·exact .inl (.inr (.inl h1))
         ·exact .inr h1
         ·exact .inl (.inr (.inr ⟨j,e1,h1⟩))
       ·rintro b' (hz | ⟨j,hj⟩)
        ·rcases sd b' hz with h1 | h1
         ·exact .inl (.inr (.inl h1))
         ·exact .inr h1
        ·rcases hG j b' ((key j).2.1 b' hj) with ⟨_,h1 | h1⟩ | ⟨e1,h1⟩
         ·exact .inl (.inr (.inl h1))
         ·exact .inr h1
         ·exact .inl (.inr (.inr ⟨j,e1,h1⟩))
       ·rintro b' (rfl | ⟨j,hj⟩) (hz | ⟨k,hk'⟩)
        ·rcases sd _ hz with h1 | h1
         ·exact (hF i).2 (z.fr _ h1)
         ·exact hd _ h1 (.inl rfl)
        ·exact hb1n k ((key k).2.1 _ hk')
        ·have h1:=(key j).1 b' hj
         by_cases e1:j=i
         ·simp only[e1,if_true] at h1;exact d3 b' h1 hz
         ·simp only[e1,if_false] at h1
          rcases sd b' hz with h2' | h2'
          ·exact hdd j i e1 b' h1 (z.fr b' h2')
          ·exact hd b' h2' (.inr (.inr ⟨j,e1,h1⟩))
        ·by_cases e1:j=k
         ·subst e1;exact (key j).2.2.1 b' hj hk'
         ·exact hGd j k b' e1 ((key j).1 b' hj) ((key k).2.1 b' hk')
       ·simp only[qr,if_true,Rep]
        refine ⟨_,cap,by simp,by simpa using hl,.inr ⟨b1,cs2,rfl,.inl rfl,ho2,by omega,G1,fun j=>⟨fun b' hb'=>.inr ⟨j,hb'⟩,fun h1=>hb1n j ((key j).1 b1 h1)⟩,
         fun j k hjk b' h1 h2'=>hGd j k b' hjk ((key j).1 b' h1) ((key k).1 b' h2'),fun j hj=>?_⟩⟩
        have hj':j<xs.length:=by simpa using hj
        refine Rep.mono (fun b' hb'=>?_) (fun _ _=>rfl) e ((key j).2.2.2 hj') (Sub.refl _) (fun _ _=>rfl)
        rcases hb' with (hb' | hb') | hb'
        ·exact .inl hb'
        ·exact .inr (.inl hb')
        ·exact .inr (.inr ⟨j,hb'⟩)
     ·intro lo hi h2 m2 y c2 m' x' hk hu hc hput hup hbase
      subst hs
      simp only[put,if_true] at hput
      cases hq:put e mi (xs.getD i e.zero) p d.ty m2 y with
      | none=>rw[hq] at hput;simp at hput
      | some rr=>
       rw[hq] at hput
       simp only[z30,z4,z7] at hput
       obtain ⟨rfl,rfl⟩:=hput
       obtain ⟨hup',hpath⟩:=z.paths lo hi h2 m2 y c2 rr.1 rr.2 (fun b' hb' hn=>hk b' (.inr (.inl hb')) hn) hu hc hq hup hbase
       simp only[qr,if_true]
       have hblk:∃ cs2:Array Value,Blk h2 b1 cs2∧
         sub cs2 (i * e.width) e.width=(if qr p then sub cs (i * e.width) e.width else repl (sub cs (i * e.width) e.width) (qbd e p) c2)∧
         ∀ j,j≠i→sub cs2 (j * e.width) e.width=sub cs (j * e.width) e.width:=by
        by_cases hi2:qr p=true
        ·obtain ⟨b',o,e1,e2⟩:=z.idx hi2
         refine ⟨cs,hb1.blk.congr (hk b1 (.inl rfl) fun o' e'=>?_),by simp[hi2],fun _ _=>rfl⟩
         rw[e1] at e'
         simp only[z4,z7] at e'
         obtain ⟨rfl,_⟩:=e'
         exact (hF i).2 (z.fr _ e2)
        ·have hi3:qr p=false:=by simpa using hi2
         obtain ⟨e1,e2,e3⟩:=z.plain hi3
         rw[wi] at e3
         simp only[z35] at e1
         obtain ⟨cs2,ho2,ht⟩:=hu b1 _ e1 cs hb1
         have hra:=qbw4 (n:=0) ht (by simpa using hle) (by omega)
         exact ⟨cs2,ho2.blk,by simp only[hi3,z34,if_false,sub];exact hra.1,fun j hj=>by simp only[sub];exact hra.2 j hj⟩
       obtain ⟨cs2,⟨ty2,fr2,ho2⟩,hsi,hsj⟩:=hblk
       refine ⟨.inr ⟨mi,rfl,Mk.upd_meet hup'⟩,?_⟩
       intro p' t1 n1 hp hfp hin
       cases p' with
       | nil=>
        refine ⟨trivial,fun bp cp hap=>?_⟩
        simp only[atP,z4,z7] at hap ⊢
        exact ⟨_,⟨hap.1,rfl⟩,fun _ _ _ _=>hap.2⟩
       | cons p0 p'=>
        cases p0 with
        | fst=>simp[qw] at hfp
        | snd=>simp[qw] at hfp
        | idx j s1=>
         simp only[qw] at hfp
         split at hfp
         ·rename_i hs1
          subst hs1
          simp only[qcr,z9] at hp
          simp only[inR] at hin ⊢
          obtain ⟨hj,hin⟩:=hin
          have hat:∀ (bp:Base) (cp:List Value),atP h (.sl e) [.slice (some ⟨b1,0,none⟩) xs.length cap] base (.idx j s::p')=some (bp,cp)→
            atP h e (sub cs (j * e.width) e.width) (some (b1,j * e.width)) p'=some (bp,cp):=by
           intro bp cp hap
           simp only[atP] at hap
           obtain ⟨ty,lo',hi'',he,_⟩:=hb1
           simp only[he] at hap;exact hap
          have hat2:∀ (bp:Base) (cp:List Value),atP h2 e (sub cs2 (j * e.width) e.width) (some (b1,j * e.width)) p'=some (bp,cp)→
            atP h2 (.sl e) [.slice (some ⟨b1,0,none⟩) xs.length cap] base (.idx j s::p')=some (bp,cp):=by
           intro bp cp hap
           simp only[atP,ho2];exact hap
          by_cases hji:j=i
          ·subst hji
           have hx':(xs.set j rr.2).getD j e.zero=rr.2:=by simp[List.getD,List.getElem?_set,hj]
           have hup0:rr.1.upd 0 0 (mi.meet rr.1):=Mk.upd_meet (Mk.upd_refl 0 0 rr.1)
           obtain ⟨n2,hf2,hn2⟩:=qjx p' hup0 (qiu p') hfp
           obtain ⟨h1,h3⟩:=hpath p' t1 n2 hp.2 hf2 hin
           refine ⟨⟨by simpa using hj,by rw[hx'];exact h1⟩,fun bp cp hap=>?_⟩
           obtain ⟨cp',h4,h5⟩:=h3 bp cp (hat bp cp hap)
           rw[←hsi] at h4
           refine ⟨cp',hat2 _ _ h4,fun s2 a2 e2 hs2=>?_⟩
           subst e2
           rcases hn2 with hn2 | ⟨a3,rfl,_⟩
           ·omega
           ·exact h5 s2 a3 rfl hs2
          ·have hx':(xs.set i rr.2).getD j e.zero=xs.getD j e.zero:=by simp[List.getD,List.getElem?_set,Ne.symm hji]
           refine ⟨⟨by simpa using hj,by rw[hx'];exact hin⟩,fun bp cp hap=>?_⟩
           obtain ⟨n2,hf2,hn2⟩:=qjx p' (Mk.upd_meet (a:=mi) hup') hp.2 hfp
           obtain ⟨y',hy'⟩:=qiw p' (xs.getD j e.zero) hf2
           have hcon:=qro (h':=h2) p' (some (b1,j * e.width)) (re j hj) hy' hin (fun b' hb'=>by
            refine hk b' (.inr (.inr ⟨j,hji,hb'⟩)) fun o e'=>?_
            rcases z.home b' o e' with h1 | ⟨o0,h1⟩
            ·exact hdd j i hji b' hb' (z.fr b' h1)
            ·simp only[z4,z7] at h1
             obtain ⟨rfl,_⟩:=h1
             exact (hF j).2 hb')
           refine ⟨cp,hat2 _ _ ?_,fun _ _ _ _=>rfl⟩
           rw[hsj j hji,hcon];exact hat bp cp hap
         ·simp at hfp
    ·simp[hs] at hf
   | _=>simp[focus] at hf
  | _=>simp[focus] at hf
end
end Go.V

namespace Go.V
open Go
theorem AV.keeps_all {h h':Array Obj} {S S':St} {g g':Ghost} (hA:∀ r p,qqc h h' S S' g g' r p) (hB:∀ r p s,qlp h h' S S' g g' r p s) :
  ∀ a:AV,a.Keeps h h' S S' g g':=by
 intro a
 induction a with
 | brw r p s=>exact hB r p s
 | view r p s lo hi=>exact hB r p s
 | addr r p=>exact hA r p
 | pair a b iha ihb=>exact ⟨iha,ihb⟩
 | tup a iha=>exact iha
 | clo f a iha=>exact iha
 | _=>trivial
theorem AV.keeps_ok {lo hi:Nat} {h h':Array Obj} {S S':St} {g g':Ghost} (hA:∀ r p,qcr lo hi p=true→qqc h h' S S' g g' r p)
  (hB:∀ r p s,qcr lo hi p=true→¬ (lo≤s∧s<hi)→qlp h h' S S' g g' r p s):∀ a:AV,a.stampsOk lo hi=true→a.Keeps h h' S S' g g':=by
 have hs:∀ s,(!(Nat.ble lo s&&Nat.blt s hi))=true→¬ (lo≤s∧s<hi):=by
  intro s h1 h2
  have e1:Nat.ble lo s=true:=Nat.ble_eq_true_of_le h2.1
  have e2:Nat.blt s hi=true:=Nat.ble_eq_true_of_le h2.2
  simp[e1,e2] at h1
 intro a
 induction a with
 | brw r p s=>intro h1;simp only[AV.stampsOk,z9] at h1;exact hB r p s h1.2 (hs s h1.1)
 | view r p s lo hi=>intro h1;simp only[AV.stampsOk,z9] at h1;exact hB r p s h1.2 (hs s h1.1)
 | addr r p=>intro h1;exact hA r p h1
 | pair a b iha ihb=>intro h1;simp only[AV.stampsOk,z9] at h1;exact ⟨iha h1.1,ihb h1.2⟩
 | tup a iha=>intro h1;exact iha h1
 | clo f a iha=>intro h1;exact iha h1
 | _=>intro _;trivial
theorem qcv {h h':Array Obj} {S S':St} {g g':Ghost} {tmps:Array Value} {H:BS} (st:StRel h S g tmps H) {r:Nat}
  (hr:S'.root r=S.root r∨S'.root r=none) (hC:g'.C r=g.C r) (hB:g'.B r=g.B r) (hk:(S.root r).isSome→∀ b,g.G r b→h'[b]? = h[b]?) :
  (∀ p,qqc h h' S S' g g' r p)∧∀ p s,qlp h h' S S' g g' r p s:=by
 have key:∀ p R' d',S'.root r=some R'→focus R'.ty R'.ms R'.x p=some d'→S.root r=some R'∧(inR R'.ty R'.x p→
   ∀ base c,atP h R'.ty (g.C r) (g.base r) p=some (base,c)→atP h' R'.ty (g'.C r) (g'.base r) p=some (base,c)):=by
  intro p R' d' hR' hf
  have hR:S.root r=some R':=by
   rcases hr with e | e
   ·rw[←e];exact hR'
   ·rw[e] at hR';simp at hR'
  refine ⟨hR,fun hin base c ha=>?_⟩
  obtain ⟨F,rep,hF,_⟩:=st.roots r R' hR
  have hb:g'.base r=g.base r:=by simp only[Ghost.base,hB]
  rw[hC,hb,qro p _ rep hf hin fun b hb=>hk (by rw[hR];rfl) b (hF b hb)]
  exact ha
 constructor
 ·intro p R' hR' d' hf
  obtain ⟨h1,h2⟩:=key p R' d' hR' hf
  exact ⟨R',d',h1,hf,fun hin=>⟨hin,fun base c ha=>⟨c,h2 hin base c ha⟩⟩⟩
 ·intro p s R' hR' t m xs hf
  obtain ⟨h1,h2⟩:=key p R' _ hR' hf
  exact ⟨R',m,xs,h1,hf,fun hin=>⟨hin,fun base c ha=>h2 hin base c ha⟩⟩
theorem St.get_set (S:St) (t:Nat) (v:AV) (u:Nat):(S.set t v).get u=if u=t∧t<S.sl.length then v else S.get u:=by
 simp only[St.get_eq,St.set_eq,List.getD,List.getElem?_set]
 by_cases e:t=u
 ·subst e
  by_cases hl:t<S.sl.length
  ·simp[hl]
  ·simp[hl]
 ·have:¬ u=t:=fun h=>e h.symm
  simp[e,this]
theorem St.root_set (S:St) (t:Nat) (v:AV) (r:Nat):(S.set t v).root r=S.root r:=rfl
theorem St.root_setRoot (S:St) (d:Nat) (x:Option Root) (r:Nat):(S.setRoot d x).root r=if r=d∧d<S.rt.length then x else S.root r:=by
 simp only[Rts.root_eq,St.setRoot,Rts.setRoot_eq,List.getD,List.getElem?_set]
 by_cases e:d=r
 ·subst e
  by_cases hl:d<S.rt.length
  ·simp[hl]
  ·simp[hl]
 ·have:¬ r=d:=fun h=>e h.symm
  simp[e,this]
theorem St.get_setRoot (S:St) (d:Nat) (x:Option Root) (t:Nat):(S.setRoot d x).get t=S.get t:=rfl
theorem St.root_lt {S:St} {r:Nat} {R:Root} (h:S.root r=some R):r<S.rt.length:=by
 simp only[Rts.root_eq,List.getD] at h
 rcases Nat.lt_or_ge r S.rt.length with h1 | h1
 ·exact h1
 ·rw[List.getElem?_eq_none h1] at h;simp at h
theorem qe.sameRoots {h:Array Obj} {S S':St} {g:Ghost} {tmps:Array Value} {H:BS} (st:StRel h S g tmps H) (e:S'.rt=S.rt) {a:AV} {v:Value}
  (x:qe h S g a v):qe h S' g a v:=by
 have hr:∀ r,S'.root r=S.root r:=fun r=>by simp only[St.root,e]
 refine (qe.keep (Sub.refl _) (fun _ _=>rfl) a).1 v x (AV.keeps_all (fun r p=>?_) (fun r p s=>?_) a)
 ·exact (qcv st (.inl (hr r)) rfl rfl (fun _ _ _=>rfl)).1 p
 ·exact (qcv st (.inl (hr r)) rfl rfl (fun _ _ _=>rfl)).2 p s
theorem StRel.setSlot {h:Array Obj} {S:St} {g:Ghost} {tmps:Array Value} {H:BS} (st:StRel h S g tmps H) (t:Nat) {a:AV} {v:Value} (x:qe h S g a v) :
  StRel h (S.set t a) g (tmps.setIfInBounds t v) H where
 len:=by simp[St.set_eq,st.len]
 rlen:=by simp[St.set_eq,st.rlen]
 slots:=by
  intro u
  rw[St.get_set]
  have hs:(S.set t a).rt=S.rt:=rfl
  by_cases hu:u=t∧t<S.sl.length
  ·obtain ⟨rfl,hl⟩:=hu
   rw[z6 ⟨rfl,hl⟩]
   have:(tmps.setIfInBounds u v).getD u Go.undef=v:=by
    have:=st.len
    simp[Array.getD,Array.getElem_setIfInBounds];omega
   rw[this];exact qe.sameRoots st hs x
  ·rw[z5 hu]
   have:(tmps.setIfInBounds t v).getD u Go.undef=tmps.getD u Go.undef:=by
    have hlen:=st.len
    simp only[Array.getD_eq_getD_getElem?,Array.getElem?_setIfInBounds]
    by_cases e:t=u
    ·subst e
     have hl:¬ t<tmps.size:=fun hl=>hu ⟨rfl,by omega⟩
     rw[z6 rfl,z5 hl,Array.getElem?_eq_none (by omega)]
    ·rw[z5 e]
   rw[this];exact qe.sameRoots st hs (st.slots u)
 roots:=fun r R hR=>st.roots r R hR
 dis:=fun r r' hn h1 h2=>st.dis r r' hn h1 h2
 prot:=fun r h1=>st.prot r h1
 hand:=fun r h1=>st.hand r h1
 handPr:=st.handPr
 limPr:=st.limPr
 limG:=fun r b h1 h2=>st.limG r b h1 h2
 limH:=st.limH
 tag:=st.tag
 own:=st.own
 ownH:=st.ownH
 limL:=st.limL
 p0:=st.p0
 prL:=st.prL
theorem StRel.forget {h:Array Obj} {S:St} {g:Ghost} {tmps:Array Value} {H:BS} (st:StRel h S g tmps H) (t:Nat):StRel h (S.set t .undef) g tmps H where
 len:=by simp[St.set_eq,st.len]
 rlen:=by simp[St.set_eq,st.rlen]
 slots:=by
  intro u
  rw[St.get_set]
  by_cases hu:u=t∧t<S.sl.length
  ·rw[z6 hu];simp only[qe]
  ·rw[z5 hu];exact qe.sameRoots (S':=S.set t .undef) st rfl (st.slots u)
 roots:=fun r R hR=>st.roots r R hR
 dis:=fun r r' hn h1 h2=>st.dis r r' hn h1 h2
 prot:=fun r h1=>st.prot r h1
 hand:=fun r h1=>st.hand r h1
 handPr:=st.handPr
 limPr:=st.limPr
 limG:=fun r b h1 h2=>st.limG r b h1 h2
 limH:=st.limH
 tag:=st.tag
 own:=st.own
 ownH:=st.ownH
 limL:=st.limL
 p0:=st.p0
 prL:=st.prL
end Go.V

namespace Go.V
open Go
theorem Mk.tagFree_fst {m:Mk} (h:m.tagFree=true):m.fst.tagFree=true:=by
 cases m<;>simp_all [Mk.tagFree,Mk.fst]
theorem Mk.tagFree_snd {m:Mk} (h:m.tagFree=true):m.snd.tagFree=true:=by
 cases m<;>simp_all [Mk.tagFree,Mk.snd]
theorem Mk.tagFree_noMeet:∀ m:Mk,m.noMeet.tagFree=true
 | .no=>rfl
 | .gone=>rfl
 | .own _ m=>by unfold Mk.noMeet;split<;>rfl
 | .pr a b=>by simp[Mk.noMeet,Mk.tagFree,Mk.tagFree_noMeet a,Mk.tagFree_noMeet b]
theorem Mk.tagFree_meetNo:∀ m:Mk,(m.meet .no).tagFree=true
 | .no=>by simp[Mk.meet,Mk.noMeet,Mk.tagFree]
 | .gone=>rfl
 | .own _ m=>by simp only[Mk.meet];split<;>rfl
 | .pr a b=>by simp[Mk.meet,Mk.tagFree,Mk.tagFree_meetNo a,Mk.tagFree_meetNo b]
theorem Mk.tagFree_meet:∀ {a b:Mk},b.tagFree=true→(a.meet b).tagFree=true
 | .no,b,_=>by simpa [Mk.meet] using Mk.tagFree_noMeet b
 | .gone,_,_=>rfl
 | .own _ a,b,h=>by
  cases b with
  | no=>simp only[Mk.meet];split<;>rfl
  | gone=>rfl
  | pr _ _=>rfl
  | own s b=>simp only[Mk.meet,Mk.tagFree,z9] at h ⊢;exact ⟨h.1,Mk.tagFree_meet h.2⟩
 | .pr a1 a2,b,h=>by
  cases b with
  | no=>simp[Mk.meet,Mk.tagFree,Mk.tagFree_meetNo]
  | gone=>rfl
  | own _ _=>rfl
  | pr c d=>simp only[Mk.meet,Mk.tagFree,z9] at h ⊢;exact ⟨Mk.tagFree_meet h.1,Mk.tagFree_meet h.2⟩
theorem qge {a b:Nat}:Nat.blt a b=true↔a<b:=by
 constructor
 ·intro h;exact Nat.le_of_ble_eq_true h
 ·intro h;exact Nat.ble_eq_true_of_le h
theorem Mk.tagFree_stamp {s:Nat} (hs:s<1048576):∀ {m:Mk},m.tagFree=true→(m.stamp s).tagFree=true
 | .no,_=>rfl
 | .gone,_=>rfl
 | .own s0 m,h=>by
  simp only[Mk.tagFree,Mk.stamp,z9,qge] at h ⊢
  refine ⟨?_,Mk.tagFree_stamp hs h.2⟩
  rw[z6 h.1];exact hs
 | .pr a b,h=>by
  simp only[Mk.tagFree,Mk.stamp,z9] at h ⊢
  exact ⟨Mk.tagFree_stamp hs h.1,Mk.tagFree_stamp hs h.2⟩
theorem Mk.tagFree_top:∀ t:Ty,(Mk.top t).tagFree=true
 | .unit=>rfl
 | .int _=>rfl
 | .bool=>rfl
 | .str=>rfl
 | .sl t=>by simp[Mk.top,Mk.tagFree,qge,Mk.tagFree_top t]
 | .pair a b=>by simp[Mk.top,Mk.tagFree,Mk.tagFree_top a,Mk.tagFree_top b]
theorem Mk.tagFree_topS:∀ t:Ty,(Mk.topS t).tagFree=true
 | .unit=>rfl
 | .int _=>rfl
 | .bool=>rfl
 | .str=>rfl
 | .sl t=>Mk.tagFree_top _
 | .pair a b=>by
  cases a<;>simp[Mk.topS,Mk.tagFree,Mk.tagFree_top,Mk.tagFree_topS b]
theorem Mk.tagFree_bld (hint:Bool) (t:Ty):(Mk.bld hint t).tagFree=true:=by
 unfold Mk.bld
 split
 ·exact Mk.tagFree_topS t
 ·exact Mk.tagFree_top t
theorem Mk.still_tagFree:∀ {m:Mk},m.still=true→m.tagFree=true
 | .no,_=>rfl
 | .gone,h=>by simp[Mk.still] at h
 | .own _ _,h=>by simp[Mk.still] at h
 | .pr a b,h=>by
  simp only[Mk.still,z9] at h
  simp[Mk.tagFree,Mk.still_tagFree h.1,Mk.still_tagFree h.2]
theorem TagC.tagFree {hd:Nat→Value}:∀ (t:Ty) {m:Mk} {c:List Value},m.tagFree=true→TagC hd t m c
 | .unit,_,_,_=>by simp only[TagC]
 | .int _,_,_,_=>by simp only[TagC]
 | .bool,_,_,_=>by simp only[TagC]
 | .str,_,_,_=>by simp only[TagC]
 | .pair a b,m,c,h=>by simp only[TagC];exact ⟨TagC.tagFree a (Mk.tagFree_fst h),TagC.tagFree b (Mk.tagFree_snd h)⟩
 | .sl t,m,c,h=>by
  cases m with
  | own s mi=>
   simp only[Mk.tagFree,z9,qge] at h
   simp only[TagC]
   exact ⟨fun h2=>by omega,h.2⟩
  | no=>simp only[TagC]
  | gone=>simp only[TagC]
  | pr _ _=>simp only[TagC]
theorem TagC.gone {hd:Nat→Value} (t:Ty) (c:List Value):TagC hd t .gone c:=TagC.tagFree t rfl
theorem TagC.no {hd:Nat→Value} (t:Ty) (c:List Value):TagC hd t .no c:=TagC.tagFree t rfl
theorem TagC.stamp {hd:Nat→Value} {s:Nat} (hs:s<1048576):∀ (t:Ty) {m:Mk} {c:List Value},TagC hd t m c→TagC hd t (m.stamp s) c
 | .unit,_,_,_=>by simp only[TagC]
 | .int _,_,_,_=>by simp only[TagC]
 | .bool,_,_,_=>by simp only[TagC]
 | .str,_,_,_=>by simp only[TagC]
 | .pair a b,m,c,h=>by
  simp only[TagC] at h ⊢
  have h1:(m.stamp s).fst=m.fst.stamp s:=by cases m<;>rfl
  have h2:(m.stamp s).snd=m.snd.stamp s:=by cases m<;>rfl
  rw[h1,h2]
  exact ⟨TagC.stamp hs a h.1,TagC.stamp hs b h.2⟩
 | .sl t,m,c,h=>by
  cases m with
  | own s0 mi=>
   simp only[Mk.stamp,TagC] at h ⊢
   refine ⟨fun h2=>?_,Mk.tagFree_stamp hs h.2⟩
   split at h2
   ·omega
   ·rename_i hn;rw[z5 hn];exact h.1 h2
  | no=>simp only[Mk.stamp,TagC]
  | gone=>simp only[Mk.stamp,TagC]
  | pr _ _=>simp only[Mk.stamp,TagC]
theorem qt5:∀ (p:Path) {t:Ty} {m m2 m':Mk},qfc t m p m2=some m'→m.tagFree=true→m2.tagFree=true→m'.tagFree=true
 | [],t,m,m2,m',h,_,h2=>by
  have:qfc t m [] m2=some m2:=by cases t<;>rfl
  rw[this] at h;simp only[z4] at h;rw[←h];exact h2
 | .fst::p,t,m,m2,m',h,h1,h2=>by
  cases t with
  | pair a b=>
   simp only[qfc,z8,z4] at h
   obtain ⟨r,hr,rfl⟩:=h
   simp only[Mk.tagFree,z9]
   exact ⟨qt5 p hr (Mk.tagFree_fst h1) h2,Mk.tagFree_snd h1⟩
  | _=>simp[qfc] at h
 | .snd::p,t,m,m2,m',h,h1,h2=>by
  cases t with
  | pair a b=>
   simp only[qfc,z8,z4] at h
   obtain ⟨r,hr,rfl⟩:=h
   simp only[Mk.tagFree,z9]
   exact ⟨Mk.tagFree_fst h1,qt5 p hr (Mk.tagFree_snd h1) h2⟩
  | _=>simp[qfc] at h
 | .idx i s'::p,t,m,m2,m',h,h1,h2=>by
  cases t with
  | sl e=>
   cases m with
   | own s mi=>
    simp only[qfc] at h
    split at h
    ·simp only[z8,z4] at h
     obtain ⟨r,hr,rfl⟩:=h
     simp only[Mk.tagFree,z9] at h1 ⊢
     exact ⟨h1.1,Mk.tagFree_meet (qt5 p hr h1.2 h2)⟩
    ·simp at h
   | _=>simp[qfc] at h
  | _=>simp[qfc] at h
theorem TagC.putGone {hd:Nat→Value}:∀ (p:Path) {t:Ty} {m m':Mk} {c:List Value},qfc t m p .gone=some m'→TagC hd t m c→TagC hd t m' c
 | [],t,m,m',c,h,_=>by
  have:qfc t m [] .gone=some .gone:=by cases t<;>rfl
  rw[this] at h;simp only[z4] at h;rw[←h];exact TagC.gone t c
 | .fst::p,t,m,m',c,h,hc=>by
  cases t with
  | pair a b=>
   simp only[qfc,z8,z4] at h
   obtain ⟨r,hr,rfl⟩:=h
   simp only[TagC] at hc ⊢
   exact ⟨TagC.putGone p hr hc.1,hc.2⟩
  | _=>simp[qfc] at h
 | .snd::p,t,m,m',c,h,hc=>by
  cases t with
  | pair a b=>
   simp only[qfc,z8,z4] at h
   obtain ⟨r,hr,rfl⟩:=h
   simp only[TagC] at hc ⊢
   exact ⟨hc.1,TagC.putGone p hr hc.2⟩
  | _=>simp[qfc] at h
 | .idx i s'::p,t,m,m',c,h,hc=>by
  cases t with
  | sl e=>
   cases m with
   | own s mi=>
    simp only[qfc] at h
    split at h
    ·simp only[z8,z4] at h
     obtain ⟨r,hr,rfl⟩:=h
     simp only[TagC] at hc ⊢
     exact ⟨hc.1,Mk.tagFree_meet (qt5 p hr hc.2 rfl)⟩
    ·simp at h
   | _=>simp[qfc] at h
  | _=>simp[qfc] at h
theorem qua:∀ (p:Path) {t:Ty} {m:Mk} {x:t.den} {d:Dy},focus t m x p=some d→m.tagFree=true→d.ms.tagFree=true
 | [],t,m,x,d,h,hm=>by simp only[focus,z4] at h;subst h;exact hm
 | .fst::p,t,m,x,d,h,hm=>by
  cases t with
  | pair a b=>simp only[focus] at h;exact qua p h (Mk.tagFree_fst hm)
  | _=>simp[focus] at h
 | .snd::p,t,m,x,d,h,hm=>by
  cases t with
  | pair a b=>simp only[focus] at h;exact qua p h (Mk.tagFree_snd hm)
  | _=>simp[focus] at h
 | .idx i s'::p,t,m,x,d,h,hm=>by
  cases t with
  | sl e=>
   cases m with
   | own s mi=>
    simp only[focus] at h
    simp only[Mk.tagFree,z9] at hm
    split at h
    ·exact qua p h hm.2
    ·simp at h
   | _=>simp[focus] at h
  | _=>simp[focus] at h
theorem TagC.at {hd:Nat→Value} {hp:Array Obj}:∀ (p:Path) {t:Ty} {m:Mk} {x:t.den} {c:List Value} {base base':Base} {c':List Value} {d:Dy},
  TagC hd t m c→focus t m x p=some d→atP hp t c base p=some (base',c')→TagC hd d.ty d.ms c'
 | [],t,m,x,c,base,base',c',d,hc,hf,ha=>by
  simp only[focus,z4] at hf;subst hf
  have:atP hp t c base []=some (base,c):=by cases t<;>rfl
  rw[this] at ha;simp only[z4,z7] at ha;rw[←ha.2];exact hc
 | .fst::p,t,m,x,c,base,base',c',d,hc,hf,ha=>by
  cases t with
  | pair a b=>simp only[focus] at hf;simp only[atP] at ha;simp only[TagC] at hc;exact TagC.at p hc.1 hf ha
  | _=>simp[focus] at hf
 | .snd::p,t,m,x,c,base,base',c',d,hc,hf,ha=>by
  cases t with
  | pair a b=>simp only[focus] at hf;simp only[atP] at ha;simp only[TagC] at hc;exact TagC.at p hc.2 hf ha
  | _=>simp[focus] at hf
 | .idx i s'::p,t,m,x,c,base,base',c',d,hc,hf,ha=>by
  cases t with
  | sl e=>
   cases m with
   | own s mi=>
    simp only[focus] at hf
    simp only[TagC] at hc
    split at hf
    ·exact TagC.tagFree _ (qua p hf hc.2)
    ·simp at hf
   | _=>simp[focus] at hf
  | _=>simp[focus] at hf
theorem q04:∀ (p:Path) {t:Ty} {m:Mk} {x:t.den} {t2:Ty} {m2:Mk} {y:t2.den} {m':Mk} {x':t.den},
  put t m x p t2 m2 y=some (m',x')→m.tagFree=true→m2.tagFree=true→m'.tagFree=true
 | [],t,m,x,t2,m2,y,m',x',h,_,h2=>by
  simp only[put,z8,z4,z7] at h
  obtain ⟨_,_,h,_⟩:=h;rw[←h];exact h2
 | .fst::p,t,m,x,t2,m2,y,m',x',h,h1,h2=>by
  cases t with
  | pair a b=>
   simp only[put,z8,z4,z7] at h
   obtain ⟨r,hr,rfl,_⟩:=h
   simp only[Mk.tagFree,z9]
   exact ⟨q04 p hr (Mk.tagFree_fst h1) h2,Mk.tagFree_snd h1⟩
  | _=>simp[put] at h
 | .snd::p,t,m,x,t2,m2,y,m',x',h,h1,h2=>by
  cases t with
  | pair a b=>
   simp only[put,z8,z4,z7] at h
   obtain ⟨r,hr,rfl,_⟩:=h
   simp only[Mk.tagFree,z9]
   exact ⟨Mk.tagFree_fst h1,q04 p hr (Mk.tagFree_snd h1) h2⟩
  | _=>simp[put] at h
 | .idx i s'::p,t,m,x,t2,m2,y,m',x',h,h1,h2=>by
  cases t with
  | sl e=>
   cases m with
   | own s mi=>
    simp only[put] at h
    split at h
    ·simp only[z8,z4,z7] at h
     obtain ⟨r,hr,rfl,_⟩:=h
     simp only[Mk.tagFree,z9] at h1 ⊢
     exact ⟨h1.1,Mk.tagFree_meet (q04 p hr h1.2 h2)⟩
    ·simp at h
   | _=>simp[put] at h
  | _=>simp[put] at h
theorem qbiv:∀ (p:Path) {t:Ty} {m:Mk} {x:t.den} {t2:Ty} {m2:Mk} {y:t2.den} {m':Mk} {x':t.den},
  put t m x p t2 m2 y=some (m',x')→qr p=false→qbd t p+t2.width≤t.width
 | [],t,m,x,t2,m2,y,m',x',h,_=>by
  simp only[put,z8,qbq] at h
  obtain ⟨z,hz,_⟩:=h
  split at hz
  ·rename_i e;subst e
   have:qbd t2 []=0:=by cases t2<;>rfl
   omega
  ·simp at hz
 | .fst::p,t,m,x,t2,m2,y,m',x',h,hi=>by
  cases t with
  | pair a b=>
   simp only[put,z8,z4,z7] at h
   obtain ⟨r,hr,_⟩:=h
   have:=qbiv p hr (by simpa [qr] using hi)
   simp only[qbd,Ty.width];omega
  | _=>simp[put] at h
 | .snd::p,t,m,x,t2,m2,y,m',x',h,hi=>by
  cases t with
  | pair a b=>
   simp only[put,z8,z4,z7] at h
   obtain ⟨r,hr,_⟩:=h
   have:=qbiv p hr (by simpa [qr] using hi)
   simp only[qbd,Ty.width];omega
  | _=>simp[put] at h
 | .idx i s'::p,t,m,x,t2,m2,y,m',x',h,hi=>by simp[qr] at hi
theorem TagC.put {hd:Nat→Value}:∀ (p:Path) {t:Ty} {m:Mk} {x:t.den} {t2:Ty} {m2:Mk} {y:t2.den} {m':Mk} {x':t.den} {c c2:List Value},
  put t m x p t2 m2 y=some (m',x')→TagC hd t m c→TagC hd t2 m2 c2→(qr p=true→m2.tagFree=true)→c.length=t.width→c2.length=t2.width→
  TagC hd t m' (if qr p then c else repl c (qbd t p) c2)
 | [],t,m,x,t2,m2,y,m',x',c,c2,h,hc,h2,_,hl,hl2=>by
  simp only[V.put,z8,qbq,z4,z7] at h
  obtain ⟨z,hz,rfl,_⟩:=h
  split at hz
  ·rename_i e;subst e
   have:qbd t2 []=0:=by cases t2<;>rfl
   rw[this,z5 (by simp[qr]),qbb1 (by omega)];exact h2
  ·simp at hz
 | .fst::p,t,m,x,t2,m2,y,m',x',c,c2,h,hc,h2,hi,hl,hl2=>by
  cases t with
  | pair a b=>
   simp only[V.put,z8,z4,z7] at h
   obtain ⟨r,hr,rfl,_⟩:=h
   simp only[TagC] at hc
   simp only[Ty.width] at hl
   have hca:(c.take a.width).length=a.width:=by simp;omega
   have ih:=TagC.put p hr hc.1 h2 (by simpa [qr] using hi) hca hl2
   have hx:qr (.fst::p)=qr p:=rfl
   have ha:qbd (.pair a b) (.fst::p)=qbd a p:=rfl
   rw[hx,ha]
   by_cases hp:qr p=true
   ·rw[z6 hp] at ih ⊢
    simp only[TagC];exact ⟨ih,hc.2⟩
   ·rw[z5 hp] at ih ⊢
    have hf:=qbiv p hr (by simpa using hp)
    have e:repl c (qbd a p) c2=repl (c.take a.width) (qbd a p) c2++c.drop a.width:=by
     conv=>lhs;rw[←List.take_append_drop a.width c]
     exact q2m (by omega)
    have hl3:(repl (c.take a.width) (qbd a p) c2).length=a.width:=by rw[qiq (by omega)];exact hca
    simp only[TagC]
    rw[e,List.take_left' hl3,List.drop_left' hl3]
    exact ⟨ih,hc.2⟩
  | _=>simp[V.put] at h
 | .snd::p,t,m,x,t2,m2,y,m',x',c,c2,h,hc,h2,hi,hl,hl2=>by
  cases t with
  | pair a b=>
   simp only[V.put,z8,z4,z7] at h
   obtain ⟨r,hr,rfl,_⟩:=h
   simp only[TagC] at hc
   simp only[Ty.width] at hl
   have hca:(c.take a.width).length=a.width:=by simp;omega
   have hcb:(c.drop a.width).length=b.width:=by simp;omega
   have ih:=TagC.put p hr hc.2 h2 (by simpa [qr] using hi) hcb hl2
   have hx:qr (.snd::p)=qr p:=rfl
   have ha:qbd (.pair a b) (.snd::p)=a.width+qbd b p:=rfl
   rw[hx,ha]
   by_cases hp:qr p=true
   ·rw[z6 hp] at ih ⊢
    simp only[TagC];exact ⟨hc.1,ih⟩
   ·rw[z5 hp] at ih ⊢
    have e:repl c (a.width+qbd b p) c2=c.take a.width++repl (c.drop a.width) (qbd b p) c2:=by
     conv=>lhs;rw[←List.take_append_drop a.width c]
     have:=@qyy (c.take a.width) (c.drop a.width) c2 (qbd b p)
     rw[hca] at this;exact this
    simp only[TagC]
    rw[e,List.take_left' hca,List.drop_left' hca]
    exact ⟨hc.1,ih⟩
  | _=>simp[V.put] at h
 | .idx i s'::p,t,m,x,t2,m2,y,m',x',c,c2,h,hc,h2,hi,hl,hl2=>by
  cases t with
  | sl e=>
   cases m with
   | own s mi=>
    simp only[V.put] at h
    split at h
    ·simp only[z8,z4,z7] at h
     obtain ⟨r,hr,rfl,_⟩:=h
     simp only[qr,if_true]
     simp only[TagC] at hc ⊢
     exact ⟨hc.1,Mk.tagFree_meet (q04 p hr hc.2 (hi rfl))⟩
    ·simp at h
   | _=>simp[V.put] at h
  | _=>simp[V.put] at h
end Go.V

namespace Go.V
open Go
theorem Rep.gone {h:Array Obj} {Pr:BS}:∀ (t:Ty) {m:Mk} {x:t.den} {c:List Value} {F:BS},Rep h Pr t m x c F→Rep h Pr t .gone x c Nil
 | .unit,_,_,_,_,r=>by simpa only [Rep] using r
 | .int k,_,_,_,_,r=>by simpa only [Rep] using r
 | .bool,_,_,_,_,r=>by simpa only [Rep] using r
 | .str,_,_,_,_,r=>by simpa only [Rep] using r
 | .pair a b,m,x,c,F,r=>by
  simp only[Rep] at r ⊢
  obtain ⟨ca,cb,Fa,Fb,rfl,ra,rb,sa,sb,d⟩:=r
  exact ⟨ca,cb,Nil,Nil,rfl,Rep.gone a ra,Rep.gone b rb,Sub.nil _,Sub.nil _,Dis.nil _⟩
 | .sl t,m,x,c,F,r=>by
  simp only[Rep]
  exact Rep.slice r
theorem qbbz {n:Mk}:∀ (q:Path) {t:Ty} {m:Mk} {x:t.den} {d:Dy},focus t m x q=some d→inR t x q→
  ∃ mm,put t m x q d.ty n d.x=some (mm,x)∧qfc t m q n=some mm
 | [],t,m,x,d,hf,_=>by
  simp only[focus,z4] at hf
  subst hf
  refine ⟨n,by simp[put,qtr],by cases t<;>rfl⟩
 | .fst::q,t,m,x,d,hf,hr=>by
  cases t with
  | pair a b=>
   simp only[focus] at hf
   simp only[inR] at hr
   obtain ⟨mm,h1,h2⟩:=qbbz (n:=n) q hf hr
   refine ⟨.pr mm m.snd,?_,?_⟩
   ·simp only[put];rw[h1];rfl
   ·simp only[qfc];rw[h2];rfl
  | _=>simp[focus] at hf
 | .snd::q,t,m,x,d,hf,hr=>by
  cases t with
  | pair a b=>
   simp only[focus] at hf
   simp only[inR] at hr
   obtain ⟨mm,h1,h2⟩:=qbbz (n:=n) q hf hr
   refine ⟨.pr m.fst mm,?_,?_⟩
   ·simp only[put];rw[h1];rfl
   ·simp only[qfc];rw[h2];rfl
  | _=>simp[focus] at hf
 | .idx i s'::q,t,m,x,d,hf,hr=>by
  cases t with
  | sl e=>
   cases m with
   | own s mi=>
    simp only[focus] at hf
    simp only[inR] at hr
    split at hf
    ·rename_i hs
     obtain ⟨mm,h1,h2⟩:=qbbz (n:=n) q hf hr.2
     refine ⟨.own s (mi.meet mm),?_,?_⟩
     ·simp only[put,hs,if_true];rw[h1]
      simp only[z30,z4,z7,true_and]
      have:=hr.1
      rw[List.getD,z31 hr.1]
      simp
     ·simp only[qfc,hs,if_true];rw[h2];rfl
    ·simp at hf
   | _=>simp[focus] at hf
  | _=>simp[focus] at hf
theorem Upd.self {h:Array Obj} {base:Base} {c:List Value} {F:BS} (hb:qqr h base c F):Upd h h base c:=by
 intro b o e cs hcs
 obtain ⟨_,cs',h1,h2,h3⟩:=hb b o e
 have:=qcn.uniq hcs h1
 subst this
 refine ⟨cs,hcs,?_⟩
 simp only[sub] at h3
 simp only[repl]
 have h4:cs.toList.drop (o+c.length)=(cs.toList.drop o).drop c.length:=by rw[List.drop_drop]
 rw[h4,z33]
 conv=>lhs;rw[←List.take_append_drop o cs.toList]
 congr 1
 conv=>lhs;rw[←List.take_append_drop c.length (cs.toList.drop o),h3]
theorem q77 {c:List Value} {n k:Nat} (h:n+k≤c.length):repl c n ((c.drop n).take k)=c:=by
 simp only[repl]
 have:((c.drop n).take k).length=k:=by simp;omega
 rw[this]
 have h4:c.drop (n+k)=(c.drop n).drop k:=by rw[List.drop_drop]
 rw[h4,z33,List.take_append_drop,List.take_append_drop]
theorem StRel.baseOk {h:Array Obj} {S:St} {g:Ghost} {tmps:Array Value} {H:BS} (st:StRel h S g tmps H) {r:Nat} {R:Root} (hR:S.root r=some R)
  {F:BS} (rep:Rep h g.Pr R.ty R.ms R.x (g.C r) F) (hB:∀ b,g.B r=some b→¬ F b)
  (hm:R.mem=true→∃ b,g.B r=some b∧g.G r b∧qcn h b (g.C r).toArray) (hn:R.mem=false→g.B r=none):qqr h (g.base r) (g.C r) F:=by
 intro b o e
 simp only[Ghost.base,z29] at e
 obtain ⟨b',e,e'⟩:=e
 simp only[z7] at e'
 obtain ⟨rfl,rfl⟩:=e'
 refine ⟨hB b' e,?_⟩
 cases hmem:R.mem with
 | false=>rw[hn hmem] at e;simp at e
 | true=>
  obtain ⟨b2,h1,_,h2⟩:=hm hmem
  rw[e] at h1;simp only[z4] at h1;subst h1
  exact ⟨_,h2,by simp,by simp[sub]⟩
theorem StRel.take {h:Array Obj} {S:St} {g:Ghost} {tmps:Array Value} {H:BS} (st:StRel h S g tmps H) {r:Nat} {R:Root} {p:Path} {d:Dy} {m':Mk}
  (hR:S.root r=some R) (hf:focus R.ty R.ms R.x p=some d) (hin:inR R.ty R.x p) (hm:qfc R.ty R.ms p .gone=some m') :
  ∃ g' F base c,StRel h (S.setRoot r (some { R with ms:=m' })) g' tmps (Un H F)∧Sub g.Pr g'.Pr∧g'.C=g.C∧g'.B=g.B∧(∀ r,Sub (g'.G r) (g.G r))∧
   atP h R.ty (g.C r) (g.base r) p=some (base,c)∧Rep h g'.Pr d.ty d.ms d.x c F∧TagC g.hd d.ty d.ms c∧g'.Same g∧Dis F H∧Sub F (g.G r)∧Dis F g'.Pr∧
   ∀ a:AV,a.Keeps h h S (S.setRoot r (some { R with ms:=m' })) g g':=by
 obtain ⟨F0,rep,hF,hB,hmem,hreg⟩:=st.roots r R hR
 have hb:=st.baseOk hR rep hB hmem hreg
 obtain ⟨base,c,F,Fr,z⟩:=zip p _ _ _ _ F0 _ d rep hf hin hb
 obtain ⟨mm,hp1,hp2⟩:=qbbz (n:=.gone) p hf hin
 rw[hm] at hp2
 simp only[z4] at hp2
 subst hp2
 obtain ⟨F3,D3,s3,sd,d3,r3⟩:=z.wand h g.Pr .gone d.x c Nil m' R.x (Sub.refl _) (fun _ _=>rfl) (fun _ _ _=>rfl) (Upd.self z.ok) (Rep.gone d.ty z.rep) (Dis.nil _) hp1
 have s3':Sub F3 Fr:=fun b hb=>(s3 b hb).resolve_right id
 have sd':Sub D3 Fr:=fun b hb=>(sd b hb).resolve_right id
 have hisr:(S.root r).isSome:=by rw[hR];rfl
 have hc:(if qr p then g.C r else repl (g.C r) (qbd R.ty p) c)=g.C r:=by
  by_cases hi:qr p=true
  ·simp[hi]
  ·have hi':qr p=false:=by simpa using hi
   obtain ⟨_,e2,e3⟩:=z.plain hi'
   simp only[hi',z34,if_false]
   rw[e2];exact q77 e3
 rw[hc] at r3
 have hlt:=St.root_lt hR
 let g':Ghost:={ g with Pr:=Un g.Pr D3,G:=fun r'=>if r'=r then (fun b=>g.B r=some b∨F3 b) else g.G r' }
 have hroot:∀ r',(S.setRoot r (some { R with ms:=m' })).root r'=if r'=r then some { R with ms:=m' } else S.root r':=by
  intro r';rw[St.root_setRoot];simp[hlt]
 have hsub:∀ r',Sub (g'.G r') (g.G r'):=by
  intro r' b hb'
  simp only[g'] at hb'
  split at hb'
  ·rename_i e;subst e
   rcases hb' with hb' | hb'
   ·cases hmm:R.mem with
    | false=>rw[hreg hmm] at hb';simp at hb'
    | true=>
     obtain ⟨b2,h1,h2,_⟩:=hmem hmm
     rw[hb'] at h1;simp only[z4] at h1;subst h1;exact h2
   ·exact hF b (z.fr b (s3' b hb'))
  ·exact hb'
 have hsome:∀ r',((S.setRoot r (some { R with ms:=m' })).root r').isSome→(S.root r').isSome:=by
  intro r' h1;rw[hroot] at h1
  split at h1
  ·rename_i e;subst e;exact hisr
  ·exact h1
 have hD3:Sub D3 (g.G r):=fun b hb'=>hF b (z.fr b (sd' b hb'))
 have hFG:Sub F (g.G r):=fun b hb'=>hF b (z.sub b hb')
 have hup:=qbfc (lo:=0) (hi:=0) p hp1 (by trivial)
 have hkeep:∀ a:AV,a.Keeps h h S (S.setRoot r (some { R with ms:=m' })) g g':=by
  intro a
  refine AV.keeps_all (fun r' p'=>?_) (fun r' p' s'=>?_) a
  ·by_cases e:r'=r
   ·subst e
    intro R' hR' d' hf'
    rw[hroot,z6 rfl] at hR'
    simp only[z4] at hR'
    subst hR'
    obtain ⟨n0,h1,_⟩:=qjx p' hup (qiu p') (qj6 p' hf')
    obtain ⟨y,h2⟩:=qiw p' R.x h1
    exact ⟨R,_,hR,h2,fun hin'=>⟨hin',fun bs cc ha=>⟨cc,ha⟩⟩⟩
   ·exact (qcv st (.inl (by rw[hroot,z5 e])) rfl rfl (fun _ _ _=>rfl)).1 p'
  ·by_cases e:r'=r
   ·subst e
    intro R' hR' t' mq xs hf'
    rw[hroot,z6 rfl] at hR'
    simp only[z4] at hR'
    subst hR'
    obtain ⟨n0,h1,h3⟩:=qjx p' hup (qiu p') (qj6 p' hf')
    rcases h3 with h3 | ⟨a,rfl,_⟩
    ·omega
    ·obtain ⟨y,h2⟩:=qiw p' R.x h1
     exact ⟨R,a,y,hR,h2,fun hin'=>⟨hin',fun bs cc ha=>ha⟩⟩
   ·exact (qcv st (.inl (by rw[hroot,z5 e])) rfl rfl (fun _ _ _=>rfl)).2 p' s'
 refine ⟨g',F,base,c,?_,fun b hb'=>.inl hb',rfl,rfl,hsub,z.at_,Rep.mono (fun b hb'=>.inl hb') (fun _ _=>rfl) d.ty z.rep (Sub.refl _) (fun _ _=>rfl),TagC.at p (st.tag r R hR) hf z.at_,⟨rfl,rfl,rfl⟩,?_,hFG,?_,hkeep⟩
 ·refine { len:=st.len,rlen:=by simp[St.setRoot,Rts.setRoot_eq,st.rlen],slots:=?_,roots:=?_,dis:=?_,prot:=?_,hand:=?_,handPr:=?_,limPr:=?_,limG:=?_,limH:=?_,tag:=?_,own:=?_,ownH:=?_,limL:=st.limL,p0:=fun b hb'=>.inl (st.p0 b hb'),prL:=?_ }
  ·intro t
   rw[St.get_setRoot]
   exact (qe.keep (g':=g') (fun b hb'=>Or.inl hb') (fun _ _=>rfl) _).1 _ (st.slots t) (hkeep _)
  ·intro r' R' hR'
   rw[hroot] at hR'
   by_cases e:r'=r
   ·subst e
    rw[z6 rfl] at hR'
    simp only[z4] at hR'
    subst hR'
    refine ⟨F3,r3,fun b hb'=>?_,fun b e' hb'=>hB b e' (z.fr b (s3' b hb')),fun hmm=>?_,hreg⟩
    ·simp only[g',if_true];exact .inr hb'
    ·obtain ⟨b,h1,h2,h3⟩:=hmem hmm
     exact ⟨b,h1,by simp only[g',if_true];exact .inl h1,h3⟩
   ·rw[z5 e] at hR'
    obtain ⟨F1,q1,q2,q3,q4,q5⟩:=st.roots r' R' hR'
    refine ⟨F1,Rep.mono (fun b hb'=>.inl hb') (fun _ _=>rfl) _ q1 (Sub.refl _) (fun _ _=>rfl),?_,q3,?_,q5⟩
    ·simp only[g',z5 e];exact q2
    ·intro hmm;obtain ⟨b,h1,h2,h3⟩:=q4 hmm;exact ⟨b,h1,by simp only[g',z5 e];exact h2,h3⟩
  ·intro r1 r2 hne h1 h2;exact (st.dis r1 r2 hne (hsome _ h1) (hsome _ h2)).mono (hsub _) (hsub _)
  ·intro r1 h1
   rintro b hb' (hz | hz)
   ·exact st.prot r1 (hsome _ h1) b (hsub _ b hb') hz
   ·by_cases e:r1=r
    ·subst e
     simp only[g',if_true] at hb'
     rcases hb' with hb' | hb'
     ·exact hB b hb' (z.fr b (sd' b hz))
     ·exact d3 b hb' hz
    ·exact st.dis r1 r e (hsome _ h1) hisr b (hsub _ b hb') (hD3 b hz)
  ·intro r1 h1
   rintro b hb' (hz | hz)
   ·exact st.hand r1 (hsome _ h1) b (hsub _ b hb') hz
   ·by_cases e:r1=r
    ·subst e
     simp only[g',if_true] at hb'
     rcases hb' with hb' | hb'
     ·exact hB b hb' (z.sub b hz)
     ·exact z.dis b hz (s3' b hb')
    ·exact st.dis r1 r e (hsome _ h1) hisr b (hsub _ b hb') (hFG b hz)
  ·rintro b (hz | hz) (hy | hy)
   ·exact st.handPr b hz hy
   ·exact st.hand r hisr b (hD3 b hy) hz
   ·exact st.prot r hisr b (hFG b hz) hy
   ·exact z.dis b hz (sd' b hy)
  ·rintro b (hz | hz)
   ·exact st.limPr b hz
   ·exact st.limG r b hisr (hD3 b hz)
  ·intro r1 b h1 hb';exact st.limG r1 b (hsome _ h1) (hsub _ b hb')
  ·rintro b (hz | hz)
   ·exact st.limH b hz
   ·exact st.limG r b hisr (hFG b hz)
  ·intro r' R' hR'
   rw[hroot] at hR'
   by_cases e:r'=r
   ·subst e
    rw[z6 rfl] at hR'
    simp only[z4] at hR'
    subst hR'
    exact TagC.putGone p hm (st.tag _ R hR)
   ·rw[z5 e] at hR'
    exact st.tag r' R' hR'
  ·intro r1 b h1 hb';exact st.own r1 b (hsome _ h1) (hsub _ b hb')
  ·rintro b (hz | hz)
   ·exact st.ownH b hz
   ·exact st.own r b hisr (hFG b hz)
  ·rintro b (hz | hz)
   ·exact st.prL b hz
   ·exact .inr (st.own r b hisr (hD3 b hz))
 ·intro b hz hy;exact st.hand r hisr b (hFG b hz) hy
 ·rintro b hz (hy | hy)
  ·exact st.prot r hisr b (hFG b hz) hy
  ·exact z.dis b hz (sd' b hy)
end Go.V

namespace Go.V
open Go
theorem StRel.updateD {h:Array Obj} {S:St} {g:Ghost} {tmps:Array Value} {H:BS} (st:StRel h S g tmps H) {r:Nat} {R:Root} {q:Path} {d:Dy}
  (hR:S.root r=some R) (hf:focus R.ty R.ms R.x q=some d) (hin:inR R.ty R.x q) :
  ∃ base c F,atP h R.ty (g.C r) (g.base r) q=some (base,c)∧Rep h g.Pr d.ty d.ms d.x c F∧Sub F (g.G r)∧qqr h base c F∧
   (∀ b o,base=some (b,o)→g.G r b)∧
   ∀ (lo hi:Nat) (h2:Array Obj) (m2:Mk) (y:d.ty.den) (c2:List Value) (F2 Dd:BS) (m':Mk) (x':R.ty.den),
    (∀ t,(S.get t).stampsOk lo hi=true)→
    (∀ b,b<h.size→¬ F b→(∀ o,base≠some (b,o))→h2[b]? = h[b]?)→h.size≤h2.size→Upd h h2 base c2→
    Rep h2 (Un g.Pr Dd) d.ty m2 y c2 F2→Dis Dd F2→(∀ b,F2 b∨Dd b→F b∨H b∨h.size≤b)→(∀ b,F2 b∨Dd b→b<h2.size)→
    put R.ty R.ms R.x q d.ty m2 y=some (m',x')→d.ms.upd lo hi m2→TagC g.hd d.ty m2 c2→(qr q=true→m2.tagFree=true)→
    (∀ p' t1 n1,qcr lo hi p'=true→qw d.ty m2 p'=some (t1,n1)→inR d.ty d.x p'→inR d.ty y p'∧∀ bp cp,atP h d.ty c base p'=some (bp,cp)→
     ∃ cp',atP h2 d.ty c2 base p'=some (bp,cp')∧(∀ s a,n1=.own s a→¬ (lo≤s∧s<hi)→cp'=cp))→
    ∃ g',StRel h2 (S.setRoot r (some { R with ms:=m',x:=x' })) g' tmps (fun b=>(H b∨F b∨(h.size≤b∧b<h2.size))∧¬ (F2 b∨Dd b))∧Sub g.Pr g'.Pr∧Sub Dd g'.Pr∧g'.Same g∧g'.B=g.B∧(∀ b,g.Pr b→h2[b]? = h[b]?)∧
     ∀ a:AV,a.stampsOk lo hi=true→a.Keeps h h2 S (S.setRoot r (some { R with ms:=m',x:=x' })) g g':=by
 obtain ⟨F0,rep,hF,hB,hmem,hreg⟩:=st.roots r R hR
 have hb:=st.baseOk hR rep hB hmem hreg
 obtain ⟨base,c,F,Fr,z⟩:=zip q _ _ _ _ F0 _ d rep hf hin hb
 have hisr:(S.root r).isSome:=by rw[hR];rfl
 have hFG:Sub F (g.G r):=fun b hb'=>hF b (z.sub b hb')
 have hFr:Sub Fr (g.G r):=fun b hb'=>hF b (z.fr b hb')
 have hbaseR:∀ b o,g.base r=some (b,o)→g.B r=some b∧g.G r b:=by
  intro b o e
  simp only[Ghost.base,z29] at e
  obtain ⟨b',e,e'⟩:=e
  simp only[z7] at e'
  obtain ⟨rfl,rfl⟩:=e'
  refine ⟨e,?_⟩
  cases hmm:R.mem with
  | false=>rw[hreg hmm] at e;simp at e
  | true=>
   obtain ⟨b2,h1,h2,_⟩:=hmem hmm
   rw[e] at h1;simp only[z4] at h1;subst h1;exact h2
 have htG:∀ b o,base=some (b,o)→g.G r b:=by
  intro b o e
  rcases z.home b o e with h1 | ⟨o0,h1⟩
  ·exact hFr b h1
  ·exact (hbaseR b o0 h1).2
 refine ⟨base,c,F,z.at_,z.rep,hFG,z.ok,htG,?_⟩
 intro lo hi h2 m2 y c2 F2 Dd m' x' hs hk hsz hu r2 hdF hF2 hF2l hput hup htg htf hbase
 have hc2:c2.length=d.ty.width:=Rep.width d.ty r2
 have hkFr:∀ b,Fr b→(∀ o,base≠some (b,o))→h2[b]? = h[b]?:=fun b hb' hn=>
  hk b (st.limG r b hisr (hFr b hb')) (fun hz=>z.dis b hz hb') hn
 have hkP:∀ b,g.Pr b→h2[b]? = h[b]?:=fun b hb'=>
  hk b (st.limPr b hb') (fun hz=>st.prot r hisr b (hFG b hz) hb') (fun o e=>st.prot r hisr b (htG b o e) hb')
 have hkO:∀ r',r'≠r→(S.root r').isSome→∀ b,g.G r' b→h2[b]? = h[b]?:=fun r' hne h1 b hb'=>
  hk b (st.limG r' b h1 hb') (fun hz=>st.dis r' r hne h1 hisr b hb' (hFG b hz)) (fun o e=>st.dis r' r hne h1 hisr b hb' (htG b o e))
 have hdD:Dis Dd Fr:=by
  intro b hz hy
  rcases hF2 b (.inr hz) with h1 | h1 | h1
  ·exact z.dis b h1 hy
  ·exact st.hand r hisr b (hFr b hy) h1
  ·have:=st.limG r b hisr (hFr b hy);omega
 have hd2:Dis F2 Fr:=by
  intro b hz hy
  rcases hF2 b (.inl hz) with h1 | h1 | h1
  ·exact z.dis b h1 hy
  ·exact st.hand r hisr b (hFr b hy) h1
  ·have:=st.limG r b hisr (hFr b hy);omega
 obtain ⟨F3,D3,s3,sd,d3,r3⟩:=z.wand h2 (Un g.Pr Dd) m2 y c2 F2 m' x' (fun b hb'=>.inl hb') hkP hkFr hu r2 hd2 hput
 obtain ⟨hupR,hpath⟩:=z.paths lo hi h2 m2 y c2 m' x' hkFr hu hc2 hput hup hbase
 have r3:=Rep.mono (Pr':=Un g.Pr (fun b=>Dd b∨D3 b)) (fun b hb'=>hb'.elim (fun h=>h.imp id .inl) (fun h=>.inr (.inr h))) (fun _ _=>rfl) _ r3 (Sub.refl _) (fun _ _=>rfl)
 have hs3:∀ b,F3 b→Fr b∨(F2 b∨Dd b):=fun b hb'=>(s3 b hb').imp id .inl
 have hsd:∀ b,Dd b∨D3 b→Fr b∨(F2 b∨Dd b):=fun b hb'=>hb'.elim (fun h=>.inr (.inr h)) (fun h=>(sd b h).imp id .inl)
 have hd3D:∀ b,F3 b→Dd b→False:=fun b h1 h2=>(s3 b h1).elim (fun h3=>hdD b h2 h3) (fun h3=>hdF b h2 h3)
 have hlt:=St.root_lt hR
 let cn:List Value:=if qr q then g.C r else repl (g.C r) (qbd R.ty q) c2
 let g':Ghost:=⟨Un g.Pr (fun b=>Dd b∨D3 b),fun r1=>if r1=r then cn else g.C r1,g.B,fun r1=>if r1=r then (fun b=>g.B r=some b∨F3 b) else g.G r1,g.hd,g.L,g.P0⟩
 have hroot:∀ r',(S.setRoot r (some { R with ms:=m',x:=x' })).root r'=if r'=r then some { R with ms:=m',x:=x' } else S.root r':=by
  intro r';rw[St.root_setRoot];simp[hlt]
 have hsome:∀ r',((S.setRoot r (some { R with ms:=m',x:=x' })).root r').isSome→(S.root r').isSome:=by
  intro r' h1;rw[hroot] at h1
  split at h1
  ·rename_i e;subst e;exact hisr
  ·exact h1
 have hownB:∀ b,g.B r=some b→g.G r b∧¬ F0 b:=by
  intro b e
  refine ⟨(hbaseR b 0 (by simp[Ghost.base,e])).2,hB b e⟩
 -- where new things may lie
 have hnew:∀ b,Fr b∨(F2 b∨Dd b)→(g.G r b∧F0 b)∨H b∨h.size≤b:=by
  rintro b (hz | hz)
  ·exact .inl ⟨hFr b hz,z.fr b hz⟩
  ·rcases hF2 b hz with h1 | h1 | h1
   ·exact .inl ⟨hFG b h1,z.sub b h1⟩
   ·exact .inr (.inl h1)
   ·exact .inr (.inr h1)
 have hnewO:∀ r1,r1≠r→(S.root r1).isSome→∀ b,g.G r1 b→Fr b∨(F2 b∨Dd b)→False:=by
  intro r1 hne h1 b hb' hz
  rcases hnew b hz with h3 | h3 | h3
  ·exact st.dis r1 r hne h1 hisr b hb' h3.1
  ·exact st.hand r1 h1 b hb' h3
  ·have:=st.limG r1 b h1 hb';omega
 have hnewP:∀ b,g.Pr b→Fr b∨(F2 b∨Dd b)→False:=by
  intro b hb' hz
  rcases hnew b hz with h3 | h3 | h3
  ·exact st.prot r hisr b h3.1 hb'
  ·exact st.handPr b h3 hb'
  ·have:=st.limPr b hb';omega
 have hnewB:∀ b,g.B r=some b→Fr b∨(F2 b∨Dd b)→False:=by
  intro b hb' hz
  rcases hnew b hz with h3 | h3 | h3
  ·exact (hownB b hb').2 h3.2
  ·exact st.hand r hisr b (hownB b hb').1 h3
  ·have:=st.limG r b hisr (hownB b hb').1;omega
 have hlim3:∀ b,Fr b∨(F2 b∨Dd b)→b<h2.size:=by
  rintro b (hz | hz)
  ·have:=st.limG r b hisr (hFr b hz);omega
  ·exact hF2l b hz
 have hnewL:∀ b,Fr b∨(F2 b∨Dd b)→g.L b:=by
  intro b hz
  rcases hnew b hz with h3 | h3 | h3
  ·exact st.own r b hisr h3.1
  ·exact st.ownH b h3
  ·exact st.limL b h3
 have hkeep:∀ a:AV,a.stampsOk lo hi=true→a.Keeps h h2 S (S.setRoot r (some { R with ms:=m',x:=x' })) g g':=by
  intro a ha
  refine AV.keeps_ok (lo:=lo) (hi:=hi) (fun r' p' hp=>?_) (fun r' p' s' hp hs'=>?_) a ha
  ·by_cases e:r'=r
   ·subst e
    intro R' hR' d' hf'
    rw[hroot,z6 rfl] at hR'
    simp only[z4] at hR'
    subst hR'
    have hfm:=qj6 p' hf'
    obtain ⟨n0,h1,_⟩:=qjx p' hupR hp hfm
    obtain ⟨y',h3⟩:=qiw p' R.x h1
    refine ⟨R,_,hR,h3,fun hin'=>?_⟩
    obtain ⟨h4,h5⟩:=hpath p' _ _ hp hfm hin'
    refine ⟨h4,fun bs cc ha=>?_⟩
    obtain ⟨cp',h6,_⟩:=h5 bs cc ha
    exact ⟨cp',by simp only[g',if_true];exact h6⟩
   ·exact (qcv (g':=g') st (.inl (by rw[hroot,z5 e])) (by simp only[g',z5 e]) rfl (fun h1 b hb'=>hkO r' e h1 b hb')).1 p'
  ·by_cases e:r'=r
   ·subst e
    intro R' hR' t' mq xs hf'
    rw[hroot,z6 rfl] at hR'
    simp only[z4] at hR'
    subst hR'
    have hfm:=qj6 p' hf'
    obtain ⟨n0,h1,h3⟩:=qjx p' hupR hp hfm
    rcases h3 with h3 | ⟨a,rfl,_⟩
    ·exact absurd h3 hs'
    ·obtain ⟨y',h4⟩:=qiw p' R.x h1
     refine ⟨R,a,y',hR,h4,fun hin'=>?_⟩
     obtain ⟨h5,h6⟩:=hpath p' _ _ hp hfm hin'
     refine ⟨h5,fun bs cc ha=>?_⟩
     obtain ⟨cp',h7,h8⟩:=h6 bs cc ha
     rw[h8 _ _ rfl hs'] at h7
     simp only[g',if_true];exact h7
   ·exact (qcv (g':=g') st (.inl (by rw[hroot,z5 e])) (by simp only[g',z5 e]) rfl (fun h1 b hb'=>hkO r' e h1 b hb')).2 p' s'
 refine ⟨g',?_,fun b hb'=>.inl hb',fun b hb'=>.inr (.inl hb'),⟨rfl,rfl,rfl⟩,rfl,hkP,hkeep⟩
 refine { len:=st.len,rlen:=by simp[St.setRoot,Rts.setRoot_eq,st.rlen],slots:=?_,roots:=?_,dis:=?_,prot:=?_,hand:=?_,handPr:=?_,limPr:=?_,limG:=?_,limH:=?_,tag:=?_,own:=?_,ownH:=fun b hz=>hz.1.elim (st.ownH b) (fun h=>h.elim (fun h=>st.own r b hisr (hFG b h)) (fun h=>st.limL b h.1)),limL:=fun b hb'=>st.limL b (by omega),p0:=fun b hb'=>.inl (st.p0 b hb'),prL:=?_ }
 ·intro t
  rw[St.get_setRoot]
  exact (qe.keep (g':=g') (fun b hb'=>Or.inl hb') hkP _).1 _ (st.slots t) (hkeep _ (hs t))
 ·intro r' R' hR'
  rw[hroot] at hR'
  by_cases e:r'=r
  ·subst e
   rw[z6 rfl] at hR'
   simp only[z4] at hR'
   subst hR'
   refine ⟨F3,by simp only[g',if_true];exact r3,fun b hb'=>by simp only[g',if_true];exact .inr hb',fun b e' hb'=>hnewB b e' (hs3 b hb'),fun hmm=>?_,hreg⟩
   obtain ⟨b,h1,h3,h4⟩:=hmem hmm
   refine ⟨b,h1,by simp only[g',if_true];exact .inl h1,?_⟩
   simp only[g',if_true,cn]
   by_cases hi':qr q=true
   ·simp only[hi',if_true]
    obtain ⟨b',o,e1,e2⟩:=z.idx hi'
    refine h4.congr (hk b (st.limG r' b hisr h3) (fun hz=>hB b h1 (z.sub b hz)) fun o' e'=>?_)
    rw[e1] at e'
    simp only[z4,z7] at e'
    obtain ⟨rfl,_⟩:=e'
    exact hB _ h1 (z.fr _ e2)
   ·have hi2:qr q=false:=by simpa using hi'
    obtain ⟨e1,e2,e3⟩:=z.plain hi2
    simp only[hi2,z34,if_false]
    simp only[Ghost.base,h1,z35,Nat.zero_add] at e1
    obtain ⟨cs2,ho,ht⟩:=hu b _ e1 _ h4
    have:cs2=(repl (g.C r') (qbd R.ty q) c2).toArray:=by
     apply Array.toList_inj.1
     rw[ht]
    rw[←this];exact ho
  ·rw[z5 e] at hR'
   have h1:(S.root r').isSome:=by rw[hR'];rfl
   obtain ⟨F1,q1,q2,q3,q4,q5⟩:=st.roots r' R' hR'
   refine ⟨F1,?_,?_,q3,?_,q5⟩
   ·simp only[g',z5 e]
    exact Rep.mono (fun b hb'=>.inl hb') hkP _ q1 (Sub.refl _) (fun b hb'=>hkO r' e h1 b (q2 b hb'))
   ·simp only[g',z5 e];exact q2
   ·intro hmm
    obtain ⟨b,h3,h4,h5⟩:=q4 hmm
    refine ⟨b,h3,by simp only[g',z5 e];exact h4,?_⟩
    simp only[g',z5 e]
    exact h5.congr (hkO r' e h1 b h4)
 ·intro r1 r2' hne h1 h3
  have k1:=hsome _ h1
  have k2:=hsome _ h3
  intro b hb1 hb2
  by_cases e1:r1=r
  ·subst e1
   have e2:r2'≠r1:=fun e=>hne e.symm
   simp only[g',if_true] at hb1
   simp only[g',z5 e2] at hb2
   rcases hb1 with hb1 | hb1
   ·exact st.dis r1 r2' hne k1 k2 b (hownB b hb1).1 hb2
   ·exact hnewO r2' e2 k2 b hb2 (hs3 b hb1)
  ·simp only[g',z5 e1] at hb1
   by_cases e2:r2'=r
   ·subst e2
    simp only[g',if_true] at hb2
    rcases hb2 with hb2 | hb2
    ·exact st.dis r1 r2' hne k1 k2 b hb1 (hownB b hb2).1
    ·exact hnewO r1 e1 k1 b hb1 (hs3 b hb2)
   ·simp only[g',z5 e2] at hb2
    exact st.dis r1 r2' hne k1 k2 b hb1 hb2
 ·intro r1 h1
  have k1:=hsome _ h1
  rintro b hb1 (hz | hz)
  ·by_cases e1:r1=r
   ·subst e1
    simp only[g',if_true] at hb1
    rcases hb1 with hb1 | hb1
    ·exact st.prot r1 k1 b (hownB b hb1).1 hz
    ·exact hnewP b hz (hs3 b hb1)
   ·simp only[g',z5 e1] at hb1;exact st.prot r1 k1 b hb1 hz
  ·by_cases e1:r1=r
   ·subst e1
    simp only[g',if_true] at hb1
    rcases hb1 with hb1 | hb1
    ·exact hnewB b hb1 (hsd b hz)
    ·exact hz.elim (hd3D b hb1) (d3 b hb1)
   ·simp only[g',z5 e1] at hb1;exact hnewO r1 e1 k1 b hb1 (hsd b hz)
 ·intro r1 h1
  have k1:=hsome _ h1
  rintro b hb1 ⟨hz,hz2⟩
  by_cases e1:r1=r
  ·subst e1
   simp only[g',if_true] at hb1
   rcases hb1 with hb1 | hb1
   ·exact hz.elim (st.hand r1 k1 b (hownB b hb1).1) (fun h=>h.elim (fun h=>(hownB b hb1).2 (z.sub b h)) (fun h=>absurd (st.limG r1 b k1 (hownB b hb1).1) (by omega)))
   ·rcases s3 b hb1 with h3 | h3
    ·exact hz.elim (st.hand r1 k1 b (hFr b h3)) (fun h=>h.elim (fun h=>z.dis b h h3) (fun h=>absurd (st.limG r1 b k1 (hFr b h3)) (by omega)))
    ·exact hz2 (.inl h3)
  ·simp only[g',z5 e1] at hb1;exact hz.elim (st.hand r1 k1 b hb1) (fun h=>h.elim (fun h=>st.dis r1 r e1 k1 hisr b hb1 (hFG b h)) (fun h=>absurd (st.limG r1 b k1 hb1) (by omega)))
 ·rintro b ⟨hz,hz2⟩ (hy | hy)
  ·exact hz.elim (fun h=>st.handPr b h hy) (fun h=>h.elim (fun h=>st.prot r hisr b (hFG b h) hy) (fun h=>absurd (st.limPr b hy) (by omega)))
  ·rcases hsd b hy with h3 | h3
   ·exact hz.elim (st.hand r hisr b (hFr b h3)) (fun h=>h.elim (fun h=>z.dis b h h3) (fun h=>absurd (st.limG r b hisr (hFr b h3)) (by omega)))
   ·exact hz2 h3
 ·rintro b (hz | hz)
  ·have:=st.limPr b hz;omega
  ·exact hlim3 b (hsd b hz)
 ·intro r1 b h1 hb1
  have k1:=hsome _ h1
  by_cases e1:r1=r
  ·subst e1
   simp only[g',if_true] at hb1
   rcases hb1 with hb1 | hb1
   ·have:=st.limG r1 b k1 (hownB b hb1).1;omega
   ·exact hlim3 b (hs3 b hb1)
  ·simp only[g',z5 e1] at hb1;have:=st.limG r1 b k1 hb1;omega
 ·rintro b ⟨hz | hz | hz,_⟩
  ·have:=st.limH b hz;omega
  ·have:=st.limG r b hisr (hFG b hz);omega
  ·exact hz.2
 ·intro r' R' hR'
  rw[hroot] at hR'
  by_cases e:r'=r
  ·subst e
   rw[z6 rfl] at hR'
   simp only[z4] at hR'
   subst hR'
   simp only[g',if_true,cn]
   exact TagC.put q hput (st.tag r' R hR) htg htf (Rep.width R.ty rep) hc2
  ·rw[z5 e] at hR'
   simp only[g',z5 e];exact st.tag r' R' hR'
 ·intro r1 b h1 hb1
  have k1:=hsome _ h1
  by_cases e1:r1=r
  ·subst e1
   simp only[g',if_true] at hb1
   rcases hb1 with hb1 | hb1
   ·exact st.own r1 b k1 (hownB b hb1).1
   ·exact hnewL b (hs3 b hb1)
  ·simp only[g',z5 e1] at hb1;exact st.own r1 b k1 hb1
 ·rintro b (hz | hz)
  ·exact st.prL b hz
  ·exact .inr (hnewL b (hsd b hz))
end Go.V

namespace Go.V
open Go
theorem StRel.grow {h h2:Array Obj} {S:St} {g:Ghost} {tmps:Array Value} {H:BS} (st:StRel h S g tmps H) (hk:∀ b,b<h.size→h2[b]? = h[b]?) (hsz:h.size≤h2.size)
  (H2:BS) (hH2:∀ b,H2 b→H b∨(h.size≤b∧b<h2.size)):StRel h2 S g tmps H2 where
 len:=st.len
 rlen:=st.rlen
 slots:=by
  intro t
  refine (qe.keep (Sub.refl _) (fun b hb=>hk b (st.limPr b hb)) _).1 _ (st.slots t) (AV.keeps_all (fun r p=>?_) (fun r p s=>?_) _)
  ·exact (qcv st (.inl rfl) rfl rfl (fun h1 b hb=>hk b (st.limG r b h1 hb))).1 p
  ·exact (qcv st (.inl rfl) rfl rfl (fun h1 b hb=>hk b (st.limG r b h1 hb))).2 p s
 roots:=by
  intro r R hR
  have h1:(S.root r).isSome:=by rw[hR];rfl
  obtain ⟨F,q1,q2,q3,q4,q5⟩:=st.roots r R hR
  refine ⟨F,Rep.mono (Sub.refl _) (fun b hb=>hk b (st.limPr b hb)) _ q1 (Sub.refl _) (fun b hb=>hk b (st.limG r b h1 (q2 b hb))),q2,q3,?_,q5⟩
  intro hm
  obtain ⟨b,e1,e2,e3⟩:=q4 hm
  exact ⟨b,e1,e2,e3.congr (hk b (st.limG r b h1 e2))⟩
 dis:=st.dis
 prot:=st.prot
 hand:=by
  intro r h1 b hb hz
  rcases hH2 b hz with h3 | h3
  ·exact st.hand r h1 b hb h3
  ·have:=st.limG r b h1 hb;omega
 handPr:=by
  intro b hz hb
  rcases hH2 b hz with h3 | h3
  ·exact st.handPr b h3 hb
  ·have:=st.limPr b hb;omega
 limPr:=fun b hb=>by have:=st.limPr b hb;omega
 limG:=fun r b h1 hb=>by have:=st.limG r b h1 hb;omega
 limH:=by
  intro b hz
  rcases hH2 b hz with h3 | h3
  ·have:=st.limH b h3;omega
  ·exact h3.2
 tag:=st.tag
 own:=st.own
 ownH:=by
  intro b hz
  rcases hH2 b hz with h3 | h3
  ·exact st.ownH b h3
  ·exact st.limL b h3.1
 limL:=fun b hb=>st.limL b (by omega)
 p0:=st.p0
 prL:=st.prL
theorem qe.grow {h h2:Array Obj} {S:St} {g:Ghost} {tmps:Array Value} {H:BS} (st:StRel h S g tmps H) (hk:∀ b,b<h.size→h2[b]? = h[b]?) {a:AV} {v:Value}
  (x:qe h S g a v):qe h2 S g a v:=by
 refine (qe.keep (Sub.refl _) (fun b hb=>hk b (st.limPr b hb)) _).1 _ x (AV.keeps_all (fun r p=>?_) (fun r p s=>?_) _)
 ·exact (qcv st (.inl rfl) rfl rfl (fun h1 b hb=>hk b (st.limG r b h1 hb))).1 p
 ·exact (qcv st (.inl rfl) rfl rfl (fun h1 b hb=>hk b (st.limG r b h1 hb))).2 p s
theorem StRel.shareHand {h:Array Obj} {S:St} {g:Ghost} {tmps:Array Value} {H:BS} (st:StRel h S g tmps H) (D:BS) (hD:Sub D H) :
  StRel h S { g with Pr:=Un g.Pr D } tmps (fun b=>H b∧¬ D b) where
 len:=st.len
 rlen:=st.rlen
 slots:=by
  intro t
  refine (qe.keep (g':={ g with Pr:=Un g.Pr D }) (fun b hb=>Or.inl hb) (fun _ _=>rfl) _).1 _ (st.slots t) (AV.keeps_all (fun r p=>?_) (fun r p s=>?_) _)
  ·exact (qcv (g':={ g with Pr:=Un g.Pr D }) st (.inl rfl) rfl rfl (fun _ _ _=>rfl)).1 p
  ·exact (qcv (g':={ g with Pr:=Un g.Pr D }) st (.inl rfl) rfl rfl (fun _ _ _=>rfl)).2 p s
 roots:=by
  intro r R hR
  obtain ⟨F,q1,q2⟩:=st.roots r R hR
  exact ⟨F,Rep.mono (fun b hb=>.inl hb) (fun _ _=>rfl) _ q1 (Sub.refl _) (fun _ _=>rfl),q2⟩
 dis:=st.dis
 prot:=by
  rintro r h1 b hb (hz | hz)
  ·exact st.prot r h1 b hb hz
  ·exact st.hand r h1 b hb (hD b hz)
 hand:=fun r h1 b hb hz=>st.hand r h1 b hb hz.1
 handPr:=by
  rintro b ⟨hz,hn⟩ (hb | hb)
  ·exact st.handPr b hz hb
  ·exact hn hb
 limPr:=by
  rintro b (hb | hb)
  ·exact st.limPr b hb
  ·exact st.limH b (hD b hb)
 limG:=st.limG
 limH:=fun b hz=>st.limH b hz.1
 tag:=st.tag
 own:=st.own
 ownH:=fun b hz=>st.ownH b hz.1
 limL:=st.limL
 p0:=fun b hb=>.inl (st.p0 b hb)
 prL:=by
  rintro b (hb | hb)
  ·exact st.prL b hb
  ·exact .inr (st.ownH b (hD b hb))
theorem StRel.lessHand {h:Array Obj} {S:St} {g:Ghost} {tmps:Array Value} {H H':BS} (st:StRel h S g tmps H) (hs:Sub H' H):StRel h S g tmps H' where
 len:=st.len
 rlen:=st.rlen
 slots:=st.slots
 roots:=st.roots
 dis:=st.dis
 prot:=st.prot
 hand:=fun r h1 b hb hz=>st.hand r h1 b hb (hs b hz)
 handPr:=fun b hz hb=>st.handPr b (hs b hz) hb
 limPr:=st.limPr
 limG:=st.limG
 limH:=fun b hz=>st.limH b (hs b hz)
 tag:=st.tag
 own:=st.own
 ownH:=fun b hz=>st.ownH b (hs b hz)
 limL:=st.limL
 p0:=st.p0
 prL:=st.prL
theorem qbwf {a b:Nat}:Nat.beq a b=true↔a=b:=⟨Nat.eq_of_beq_eq_true,fun e=>e ▸ Nat.beq_refl a⟩
theorem AV.keeps_new {lo hi d:Nat} {h h':Array Obj} {S S':St} {g g':Ghost} (hA:∀ r p,r≠d→qqc h h' S S' g g' r p) (hB:∀ r p s,r≠d→qlp h h' S S' g g' r p s)
  (dA:∀ p,qcr lo hi p=true→qr p=true→qqc h h' S S' g g' d p)
  (dB:∀ p s,qcr lo hi p=true→¬ (lo≤s∧s<hi)→qlp h h' S S' g g' d p s):∀ a:AV,a.stampsOk lo hi=true→a.noPl d=true→a.Keeps h h' S S' g g':=by
 have hs:∀ s,(!(Nat.ble lo s&&Nat.blt s hi))=true→¬ (lo≤s∧s<hi):=by
  intro s h1 h2;rw[qbxu h2] at h1;simp at h1
 intro a
 induction a with
 | brw r p s=>
  intro h1 _
  simp only[AV.stampsOk,z9] at h1
  by_cases e:r=d
  ·subst e;exact dB p s h1.2 (hs s h1.1)
  ·exact hB r p s e
 | view r p s l1 h1'=>
  intro h1 _
  simp only[AV.stampsOk,z9] at h1
  by_cases e:r=d
  ·subst e;exact dB p s h1.2 (hs s h1.1)
  ·exact hB r p s e
 | addr r p=>
  intro h1 h2
  by_cases e:r=d
  ·subst e
   simp only[AV.noPl,Nat.beq_refl,z13,Bool.false_or] at h2
   exact dA p h1 h2
  ·exact hA r p e
 | pair a b iha ihb=>intro h1 h2;simp only[AV.stampsOk,AV.noPl,z9] at h1 h2;exact ⟨iha h1.1 h2.1,ihb h1.2 h2.2⟩
 | tup a iha=>intro h1 h2;exact iha h1 h2
 | clo f a iha=>intro h1 h2;exact iha h1 h2
 | _=>intro _ _;trivial
theorem AV.keeps_men {d:Nat} {h h':Array Obj} {S S':St} {g g':Ghost} (hA:∀ r p,r≠d→qqc h h' S S' g g' r p) (hB:∀ r p s,r≠d→qlp h h' S S' g g' r p s) :
  ∀ a:AV,a.roots.contains d=false→a.Keeps h h' S S' g g':=by
 intro a
 induction a with
 | brw r p s=>intro h1;exact hB r p s (by simp[AV.roots] at h1;exact fun e=>h1 e.symm)
 | view r p s _ _=>intro h1;exact hB r p s (by simp[AV.roots] at h1;exact fun e=>h1 e.symm)
 | addr r p=>intro h1;exact hA r p (by simp[AV.roots] at h1;exact fun e=>h1 e.symm)
 | pair a b iha ihb=>
  intro h1
  simp only[AV.roots,List.contains_eq_mem,decide_eq_false_iff_not,z18,not_or] at h1
  exact ⟨iha (by simpa using h1.1),ihb (by simpa using h1.2)⟩
 | tup a iha=>intro h1;exact iha (by simpa [AV.roots] using h1)
 | clo f a iha=>intro h1;exact iha (by simpa [AV.roots] using h1)
 | _=>intro _;trivial
theorem StRel.newRoot {h:Array Obj} {S:St} {g:Ghost} {tmps:Array Value} {H:BS} (st:StRel h S g tmps H) {d:Nat} (hd:d<S.rt.length)
  {t:Ty} {m:Mk} {x:t.den} {c:List Value} {F:BS} (rep:Rep h g.Pr t m x c F) (htg:TagC g.hd t m c) (hF:Sub F H) (ob:Option Nat)
  (hob:∀ b,ob=some b→H b∧¬ F b∧qcn h b c.toArray)
  (hs:∀ u,(S.get u).roots.contains d=false∨(∃ lo hi,(S.get u).stampsOk lo hi=true∧(S.get u).noPl d=true∧m.fresh lo hi∧ob=none)) :
  ∃ g',StRel h (S.setRoot d (some ⟨t,m,x,ob.isSome⟩)) g' tmps (fun b=>H b∧¬ F b∧ob≠some b)∧g'.Pr=g.Pr∧g'.Same g∧g'.C d=c∧g'.B d=ob∧
   ∀ a:AV,(a.roots.contains d=false∨(∃ lo hi,a.stampsOk lo hi=true∧a.noPl d=true∧m.fresh lo hi∧ob=none))→a.Keeps h h S (S.setRoot d (some ⟨t,m,x,ob.isSome⟩)) g g':=by
 let g':Ghost:=⟨g.Pr,fun r1=>if r1=d then c else g.C r1,fun r1=>if r1=d then ob else g.B r1,fun r1=>if r1=d then (fun b=>F b∨ob=some b) else g.G r1,g.hd,g.L,g.P0⟩
 have hroot:∀ r',(S.setRoot d (some ⟨t,m,x,ob.isSome⟩)).root r'=if r'=d then some ⟨t,m,x,ob.isSome⟩ else S.root r':=by
  intro r';rw[St.root_setRoot];simp[hd]
 have hsome:∀ r',r'≠d→((S.setRoot d (some ⟨t,m,x,ob.isSome⟩)).root r').isSome→(S.root r').isSome:=by
  intro r' hne h1;rwa [hroot,z5 hne] at h1
 have hGd:∀ b,(F b∨ob=some b)→H b:=by
  rintro b (hb | hb)
  ·exact hF b hb
  ·exact (hob b hb).1
 have hA:∀ r p,r≠d→qqc h h S (S.setRoot d (some ⟨t,m,x,ob.isSome⟩)) g g' r p:=fun r p e=>
  (qcv (g':=g') st (.inl (by rw[hroot,z5 e])) (by simp only[g',z5 e]) (by simp only[g',z5 e]) (fun _ _ _=>rfl)).1 p
 have hB:∀ r p s,r≠d→qlp h h S (S.setRoot d (some ⟨t,m,x,ob.isSome⟩)) g g' r p s:=fun r p s e=>
  (qcv (g':=g') st (.inl (by rw[hroot,z5 e])) (by simp only[g',z5 e]) (by simp only[g',z5 e]) (fun _ _ _=>rfl)).2 p s
 have hkeep:∀ a:AV,(a.roots.contains d=false∨(∃ lo hi,a.stampsOk lo hi=true∧a.noPl d=true∧m.fresh lo hi∧ob=none))→a.Keeps h h S (S.setRoot d (some ⟨t,m,x,ob.isSome⟩)) g g':=by
  intro a hsa
  rcases hsa with h1 | ⟨lo,hi,h1,h2,h3,h4⟩
  ·exact AV.keeps_men hA hB _ h1
  ·refine AV.keeps_new (lo:=lo) (hi:=hi) (d:=d) hA hB (fun p hp hi'=>?_) (fun p s hp hs'=>?_) _ h1 h2
   ·intro R' hR' d' hf'
    rw[hroot,z6 rfl] at hR'
    simp only[z4] at hR'
    subst hR'
    have:=(qi7 p h3 hp (qj6 p hf')).1
    rw[this] at hi';simp at hi'
   ·intro R' hR' t' mq xs hf'
    rw[hroot,z6 rfl] at hR'
    simp only[z4] at hR'
    subst hR'
    exact absurd (qi7 p h3 hp (qj6 p hf')).2 hs'
 refine ⟨g',?_,rfl,⟨rfl,rfl,rfl⟩,by simp[g'],by simp[g'],hkeep⟩
 refine { len:=st.len,rlen:=by simp[St.setRoot,Rts.setRoot_eq,st.rlen],slots:=?_,roots:=?_,dis:=?_,prot:=?_,hand:=?_,handPr:=fun b hz hb=>st.handPr b hz.1 hb,limPr:=st.limPr,limG:=?_,limH:=fun b hz=>st.limH b hz.1,tag:=?_,own:=?_,ownH:=fun b hz=>st.ownH b hz.1,limL:=st.limL,p0:=st.p0,prL:=st.prL }
 ·intro u
  rw[St.get_setRoot]
  exact (qe.keep (g:=g) (g':=g') (Sub.refl _) (fun _ _=>rfl) _).1 _ (st.slots u) (hkeep _ (hs u))
 ·intro r' R' hR'
  rw[hroot] at hR'
  by_cases e:r'=d
  ·subst e
   rw[z6 rfl] at hR'
   simp only[z4] at hR'
   subst hR'
   refine ⟨F,by simp only[g',if_true];exact rep,fun b hb=>by simp only[g',if_true];exact .inl hb,fun b e' hb=>?_,fun hm=>?_,fun hm=>?_⟩
   ·simp only[g',if_true] at e';exact (hob b e').2.1 hb
   ·simp only[Option.isSome_iff_exists] at hm
    obtain ⟨b,hm⟩:=hm
    exact ⟨b,by simp only[g',if_true];exact hm,by simp only[g',if_true];exact .inr hm,by simp only[g',if_true];exact (hob b hm).2.2⟩
   ·simp only[g',if_true]
    cases ob with
    | none=>rfl
    | some b=>simp at hm
  ·rw[z5 e] at hR'
   obtain ⟨F1,q1,q2,q3,q4,q5⟩:=st.roots r' R' hR'
   exact ⟨F1,by simp only[g',z5 e];exact q1,by simp only[g',z5 e];exact q2,by simp only[g',z5 e];exact q3,by simp only[g',z5 e];exact q4,by simp only[g',z5 e];exact q5⟩
 ·intro r1 r2 hne h1 h2 b hb1 hb2
  by_cases e1:r1=d
  ·subst e1
   have e2:r2≠r1:=fun e=>hne e.symm
   simp only[g',if_true] at hb1
   simp only[g',z5 e2] at hb2
   exact st.hand r2 (hsome _ e2 h2) b hb2 (hGd b hb1)
  ·simp only[g',z5 e1] at hb1
   by_cases e2:r2=d
   ·subst e2
    simp only[g',if_true] at hb2
    exact st.hand r1 (hsome _ e1 h1) b hb1 (hGd b hb2)
   ·simp only[g',z5 e2] at hb2
    exact st.dis r1 r2 hne (hsome _ e1 h1) (hsome _ e2 h2) b hb1 hb2
 ·intro r1 h1 b hb1 hp
  by_cases e1:r1=d
  ·subst e1
   simp only[g',if_true] at hb1
   exact st.handPr b (hGd b hb1) hp
  ·simp only[g',z5 e1] at hb1
   exact st.prot r1 (hsome _ e1 h1) b hb1 hp
 ·rintro r1 h1 b hb1 ⟨hz,hn,hn2⟩
  by_cases e1:r1=d
  ·subst e1
   simp only[g',if_true] at hb1
   rcases hb1 with hb1 | hb1
   ·exact hn hb1
   ·exact hn2 hb1
  ·simp only[g',z5 e1] at hb1
   exact st.hand r1 (hsome _ e1 h1) b hb1 hz
 ·intro r1 b h1 hb1
  by_cases e1:r1=d
  ·subst e1
   simp only[g',if_true] at hb1
   exact st.limH b (hGd b hb1)
  ·simp only[g',z5 e1] at hb1
   exact st.limG r1 b (hsome _ e1 h1) hb1
 ·intro r' R' hR'
  rw[hroot] at hR'
  by_cases e:r'=d
  ·subst e
   rw[z6 rfl] at hR'
   simp only[z4] at hR'
   subst hR'
   simp only[g',if_true];exact htg
  ·rw[z5 e] at hR'
   simp only[g',z5 e];exact st.tag r' R' hR'
 ·intro r1 b h1 hb1
  by_cases e1:r1=d
  ·subst e1
   simp only[g',if_true] at hb1
   exact st.ownH b (hGd b hb1)
  ·simp only[g',z5 e1] at hb1
   exact st.own r1 b (hsome _ e1 h1) hb1
theorem StRel.dropRoot {h:Array Obj} {S:St} {g:Ghost} {tmps:Array Value} {H:BS} (st:StRel h S g tmps H) (d:Nat):StRel h (S.setRoot d none) g tmps H:=by
 have hroot:∀ r',(S.setRoot d none).root r'=S.root r'∨(S.setRoot d none).root r'=none:=by
  intro r';rw[St.root_setRoot];by_cases e:r'=d∧d<S.rt.length<;>simp[e]
 have hsome:∀ r',((S.setRoot d none).root r').isSome→(S.root r').isSome:=by
  intro r' h1
  rcases hroot r' with e | e
  ·rwa [e] at h1
  ·rw[e] at h1;simp at h1
 refine { len:=st.len,rlen:=by simp[St.setRoot,Rts.setRoot_eq,st.rlen],slots:=?_,roots:=?_,dis:=fun r r' hn h1 h2=>st.dis r r' hn (hsome _ h1) (hsome _ h2),prot:=fun r h1=>st.prot r (hsome _ h1),hand:=fun r h1=>st.hand r (hsome _ h1),handPr:=st.handPr,limPr:=st.limPr,limG:=fun r b h1 hb=>st.limG r b (hsome _ h1) hb,limH:=st.limH,tag:=?_,own:=fun r b h1 hb=>st.own r b (hsome _ h1) hb,ownH:=st.ownH,limL:=st.limL,p0:=st.p0,prL:=st.prL }
 ·intro t
  rw[St.get_setRoot]
  refine (qe.keep (Sub.refl _) (fun _ _=>rfl) _).1 _ (st.slots t) (AV.keeps_all (fun r p=>?_) (fun r p s=>?_) _)
  ·exact (qcv st (hroot r) rfl rfl (fun _ _ _=>rfl)).1 p
  ·exact (qcv st (hroot r) rfl rfl (fun _ _ _=>rfl)).2 p s
 ·intro r R hR
  rcases hroot r with e | e
  ·rw[e] at hR;exact st.roots r R hR
  ·rw[e] at hR;simp at hR
 ·intro r R hR
  rcases hroot r with e | e
  ·rw[e] at hR;exact st.tag r R hR
  ·rw[e] at hR;simp at hR
theorem StRel.update {h:Array Obj} {S:St} {g:Ghost} {tmps:Array Value} {H:BS} (st:StRel h S g tmps H) {r:Nat} {R:Root} {q:Path} {d:Dy}
  (hR:S.root r=some R) (hf:focus R.ty R.ms R.x q=some d) (hin:inR R.ty R.x q) :
  ∃ base c F,atP h R.ty (g.C r) (g.base r) q=some (base,c)∧Rep h g.Pr d.ty d.ms d.x c F∧Sub F (g.G r)∧qqr h base c F∧
   (∀ b o,base=some (b,o)→g.G r b)∧
   ∀ (lo hi:Nat) (h2:Array Obj) (m2:Mk) (y:d.ty.den) (c2:List Value) (F2:BS) (m':Mk) (x':R.ty.den),
    (∀ t,(S.get t).stampsOk lo hi=true)→
    (∀ b,b<h.size→¬ F b→(∀ o,base≠some (b,o))→h2[b]? = h[b]?)→h.size≤h2.size→Upd h h2 base c2→
    Rep h2 g.Pr d.ty m2 y c2 F2→(∀ b,F2 b→F b∨H b∨h.size≤b)→(∀ b,F2 b→b<h2.size)→
    put R.ty R.ms R.x q d.ty m2 y=some (m',x')→d.ms.upd lo hi m2→TagC g.hd d.ty m2 c2→(qr q=true→m2.tagFree=true)→
    (∀ p' t1 n1,qcr lo hi p'=true→qw d.ty m2 p'=some (t1,n1)→inR d.ty d.x p'→inR d.ty y p'∧∀ bp cp,atP h d.ty c base p'=some (bp,cp)→
     ∃ cp',atP h2 d.ty c2 base p'=some (bp,cp')∧(∀ s a,n1=.own s a→¬ (lo≤s∧s<hi)→cp'=cp))→
    ∃ g',StRel h2 (S.setRoot r (some { R with ms:=m',x:=x' })) g' tmps (fun b=>H b∧¬ F2 b)∧Sub g.Pr g'.Pr∧g'.Same g∧g'.B=g.B∧(∀ b,g.Pr b→h2[b]? = h[b]?)∧
     ∀ a:AV,a.stampsOk lo hi=true→a.Keeps h h2 S (S.setRoot r (some { R with ms:=m',x:=x' })) g g':=by
 obtain ⟨base,c,F,q1,q2,q3,q4,q5,q6⟩:=st.updateD hR hf hin
 refine ⟨base,c,F,q1,q2,q3,q4,q5,?_⟩
 intro lo hi h2 m2 y c2 F2 m' x' p1 p2 p3 p4 p5 p6 p7 p8 p9 p10 p11 p12
 obtain ⟨g',k1,k2,k3,k4,k5,k6,k7⟩:=q6 lo hi h2 m2 y c2 F2 Nil m' x' p1 p2 p3 p4 (Rep.mono (fun b hb=>.inl hb) (fun _ _=>rfl) _ p5 (Sub.refl _) (fun _ _=>rfl)) (Dis.nil _)
  (fun b hb=>p6 b (hb.resolve_right id)) (fun b hb=>p7 b (hb.resolve_right id)) p8 p9 p10 p11 p12
 exact ⟨g',k1.lessHand (fun b hb=>⟨.inl hb.1,fun h=>h.elim hb.2 id⟩),k2,k4,k5,k6,k7⟩
theorem StRel.dropRootH {h:Array Obj} {S:St} {g:Ghost} {tmps:Array Value} {H:BS} (st:StRel h S g tmps H) {d:Nat} (hd:(S.root d).isSome) :
  StRel h (S.setRoot d none) g tmps (fun b=>H b∨g.G d b):=by
 have s0:=st.dropRoot d
 have hlt:d<S.rt.length:=by
  obtain ⟨R,hR⟩:=Option.isSome_iff_exists.1 hd
  exact St.root_lt hR
 have hn:∀ r,((S.setRoot d none).root r).isSome→r≠d∧(S.root r).isSome:=by
  intro r h1
  rw[St.root_setRoot] at h1
  by_cases e:r=d
  ·subst e;simp[hlt] at h1
  ·rw[z5 (fun h=>e h.1)] at h1;exact ⟨e,h1⟩
 refine { s0 with hand:=?_,handPr:=?_,limH:=?_,ownH:=?_ }
 ·rintro r h1 b hb (hz | hz)
  ·exact s0.hand r h1 b hb hz
  ·exact st.dis r d (hn r h1).1 (hn r h1).2 hd b hb hz
 ·rintro b (hz | hz) hp
  ·exact st.handPr b hz hp
  ·exact st.prot d hd b hz hp
 ·rintro b (hz | hz)
  ·exact st.limH b hz
  ·exact st.limG d b hd hz
 ·rintro b (hz | hz)
  ·exact st.ownH b hz
  ·exact st.own d b hd hz
end Go.V

namespace Go.V
noncomputable section
open Go
theorem qgv:∀ (p q:Path) {t:Ty} {m:Mk} {x:t.den} {d:Dy},focus t m x p=some d→focus t m x (p++q)=focus d.ty d.ms d.x q
 | [],q,t,m,x,d,h=>by simp only[focus,z4] at h;subst h;rfl
 | .fst::p,q,t,m,x,d,h=>by
  cases t with
  | pair a b=>simp only[focus,z40] at h ⊢;exact qgv p q h
  | _=>simp[focus] at h
 | .snd::p,q,t,m,x,d,h=>by
  cases t with
  | pair a b=>simp only[focus,z40] at h ⊢;exact qgv p q h
  | _=>simp[focus] at h
 | .idx i s'::p,q,t,m,x,d,h=>by
  cases t with
  | sl e=>
   cases m with
   | own s mi=>
    simp only[focus,z40] at h ⊢
    split at h
    ·rename_i hs;simp only[hs,if_true];exact qgv p q h
    ·simp at h
   | _=>simp[focus] at h
  | _=>simp[focus] at h
theorem qm4:∀ (p q:Path) {t:Ty} {m:Mk} {x:t.den} {d:Dy},focus t m x p=some d→(inR t x (p++q)↔inR t x p∧inR d.ty d.x q)
 | [],q,t,m,x,d,h=>by
  simp only[focus,z4] at h;subst h
  have:inR t x []=True:=by cases t<;>rfl
  simp[this]
 | .fst::p,q,t,m,x,d,h=>by
  cases t with
  | pair a b=>simp only[focus,z40,inR] at h ⊢;exact qm4 p q h
  | _=>simp[focus] at h
 | .snd::p,q,t,m,x,d,h=>by
  cases t with
  | pair a b=>simp only[focus,z40,inR] at h ⊢;exact qm4 p q h
  | _=>simp[focus] at h
 | .idx i s'::p,q,t,m,x,d,h=>by
  cases t with
  | sl e=>
   cases m with
   | own s mi=>
    simp only[focus,z40,inR] at h ⊢
    split at h
    ·rw[qm4 p q h,and_assoc]
    ·simp at h
   | _=>simp[focus] at h
  | _=>simp[focus] at h
theorem qkb {hp:Array Obj}:∀ (p q:Path) {t:Ty} {m:Mk} {x:t.den} {d:Dy} {c:List Value} {base base':Base} {c':List Value},focus t m x p=some d→
  atP hp t c base p=some (base',c')→atP hp t c base (p++q)=atP hp d.ty c' base' q
 | [],q,t,m,x,d,c,base,base',c',hf,h=>by
  simp only[focus,z4] at hf;subst hf
  have e:atP hp t c base []=some (base,c):=by cases t<;>rfl
  rw[e] at h
  simp only[z4,z7] at h
  obtain ⟨rfl,rfl⟩:=h
  rfl
 | .fst::p,q,t,m,x,d,c,base,base',c',hf,h=>by
  cases t with
  | pair a b=>simp only[focus,z40,atP] at hf h ⊢;exact qkb p q hf h
  | _=>simp[focus] at hf
 | .snd::p,q,t,m,x,d,c,base,base',c',hf,h=>by
  cases t with
  | pair a b=>simp only[focus,z40,atP] at hf h ⊢;exact qkb p q hf h
  | _=>simp[focus] at hf
 | .idx i s'::p,q,t,m,x,d,c,base,base',c',hf,h=>by
  cases t with
  | sl e=>
   cases m with
   | own s mi=>
    simp only[focus] at hf
    split at hf
    ·simp only[z40,atP] at h ⊢
     split at h
     ·rename_i b n k
      split at h
      ·rename_i cs e1 e2 hb
       exact qkb p q hf h
      ·simp at h
     ·simp at h
    ·simp at hf
   | _=>simp[focus] at hf
  | _=>simp[focus] at hf
theorem qzf {h:Array Obj} {S:St} {g:Ghost} {r:Nat} {R:Root} (hR:S.root r=some R) :
  ∀ (t:Ty) (m:Mk) (x:t.den) (p:Path) (base:Base) (c:List Value) (F:BS),focus R.ty R.ms R.x p=some ⟨t,m,x⟩→inR R.ty R.x p→
   atP h R.ty (g.C r) (g.base r) p=some (base,c)→Rep h g.Pr t m x c F→AVC h S g (avOf r t m x p) c
 | .unit,m,x,p,base,c,F,_,_,_,r=>by simp only[Rep] at r;simp only[avOf,AVC];exact r
 | .int k,m,x,p,base,c,F,_,_,_,r=>by simp only[avOf,AVC];simpa only [Rep] using r
 | .bool,m,x,p,base,c,F,_,_,_,r=>by simp only[avOf,AVC];simpa only [Rep] using r
 | .str,m,x,p,base,c,F,_,_,_,r=>by simp only[avOf,AVC];simpa only [Rep] using r
 | .pair a b,m,x,p,base,c,F,hf,hin,hat,r=>by
  unfold avOf
  by_cases hs:m.still=true
  ·simp only[hs,if_true,AVC];exact Rep.no_room _ hs r
  ·simp only[hs,z34,if_false,AVC]
   simp only[Rep] at r
   obtain ⟨ca,cb,Fa,Fb,rfl,ra,rb,sa,sb,dd⟩:=r
   have wa:=Rep.width a ra
   refine ⟨ca,cb,rfl,?_,?_⟩
   ·refine qzf hR a m.fst x.1 (p++[.fst]) base ca Fa ?_ ?_ ?_ ra
    ·rw[qgv p _ hf];simp[focus]
    ·rw[qm4 p _ hf];exact ⟨hin,by simp only[inR]⟩
    ·rw[qkb p _ hf hat]
     simp only[atP]
     rw[←wa,List.take_left' rfl]
   ·refine qzf hR b m.snd x.2 (p++[.snd]) (base.map fun z=>(z.1,z.2+a.width)) cb Fb ?_ ?_ ?_ rb
    ·rw[qgv p _ hf];simp[focus]
    ·rw[qm4 p _ hf];exact ⟨hin,by simp only[inR]⟩
    ·rw[qkb p _ hf hat]
     simp only[atP]
     rw[←wa,List.drop_left' rfl]
 | .sl t,m,x,p,base,c,F,hf,hin,hat,r=>by
  cases m with
  | no=>simp only[avOf,AVC];exact Rep.no_room _ rfl r
  | gone=>simp only[avOf,AVC]
  | pr _ _=>simp only[avOf,AVC];simpa only [Rep] using r
  | own s mi=>
   simp only[avOf,AVC]
   obtain ⟨a,n,k,rfl⟩:=Rep.slice r
   refine ⟨_,rfl,fun R' hR' t' m' xs hf'=>?_⟩
   rw[hR] at hR'
   simp only[z4] at hR'
   subst hR'
   exact ⟨hin,base,hat⟩
theorem AVC.rel {h:Array Obj} {S:St} {g:Ghost} {r:Nat} {t:Ty} {m:Mk} {x:t.den} {p:Path} {c:List Value} {F:BS} (rep:Rep h g.Pr t m x c F)
  (y:AVC h S g (avOf r t m x p) c) (hu:t≠.unit):qe h S g (avOf r t m x p) (mkV t c):=by
 cases t with
 | unit=>exact absurd rfl hu
 | int k=>simp only[avOf,AVC] at y;simp only[avOf,qe];exact ⟨c,y,rfl⟩
 | bool=>simp only[avOf,AVC] at y;simp only[avOf,qe];exact ⟨c,y,rfl⟩
 | str=>simp only[avOf,AVC] at y;simp only[avOf,qe];exact ⟨c,y,rfl⟩
 | pair a b=>
  unfold avOf at y ⊢
  by_cases hs:m.still=true
  ·simp only[hs,if_true,AVC] at y;simp only[hs,if_true,qe];exact ⟨c,y,rfl⟩
  ·simp only[hs,z34,if_false,AVC] at y
   simp only[hs,z34,if_false,qe]
   obtain ⟨ca,cb,rfl,y1,y2⟩:=y
   exact ⟨ca,cb,rfl,y1,y2⟩
 | sl t=>
  cases m with
  | no=>simp only[avOf,AVC] at y;simp only[avOf,qe];exact ⟨c,y,rfl⟩
  | gone=>simp only[avOf,qe]
  | pr _ _=>simp only[avOf,AVC] at y;simp only[avOf,qe];exact ⟨c,y,rfl⟩
  | own s mi=>
   simp only[avOf,AVC] at y
   obtain ⟨v,rfl,y⟩:=y
   simp only[avOf,qe,mkV,Ty.agg,z34,if_false,List.headD_cons]
   exact y
theorem qjz {a b:Ty} {x:a.den} {y:b.den} (h:qbq a b x=some y):∃ e:a=b,e ▸ x=y:=by
 unfold qbq at h
 split at h
 ·rename_i e;exact ⟨e,by simpa using h⟩
 ·simp at h
theorem Rep.cast {h:Array Obj} {Pr:BS} {a b:Ty} {m:Mk} {x:a.den} {y:b.den} {c:List Value} {F:BS} (e:qbq a b x=some y) (r:Rep h Pr a m x c F):a=b∧Rep h Pr b m y c F:=by
 obtain ⟨rfl,rfl⟩:=qjz e
 exact ⟨rfl,r⟩
def Vis (S:St) (g:Ghost):BS:=fun b=>g.Pr b∨∃ r,(S.root r).isSome∧g.G r b
theorem q5q {h:Array Obj} {S:St} {g:Ghost} {tmps:Array Value} {H:BS} (st:StRel h S g tmps H) {r:Nat} {p:Path} {s s':Nat} {t':Ty} {m:Mk} {xs:(Ty.sl t').den} {v:Value}
  (hf:S.focus r p=some ⟨.sl t',.own s' m,xs⟩) (hs:s=s') (x:q7k h S g r p s v) :
  ∃ R base F,S.root r=some R∧focus R.ty R.ms R.x p=some ⟨.sl t',.own s' m,xs⟩∧inR R.ty R.x p∧atP h R.ty (g.C r) (g.base r) p=some (base,[v])∧
   Rep h g.Pr (.sl t') (.own s' m) xs [v] F∧Sub F (g.G r):=by
 simp only[St.focus,Rts.focus] at hf
 split at hf
 ·rename_i R hR
  subst hs
  obtain ⟨hin,base,hat⟩:=x R hR t' m xs hf
  obtain ⟨F0,rep,hF,hB,hmem,hreg⟩:=st.roots r R hR
  obtain ⟨base',c',F,Fr,z⟩:=zip p _ _ _ _ F0 _ _ rep hf hin (st.baseOk hR rep hB hmem hreg)
  have:=z.at_
  rw[hat] at this
  simp only[z4,z7] at this
  obtain ⟨rfl,rfl⟩:=this
  exact ⟨R,base,F,hR,hf,hin,hat,z.rep,fun b hb=>hF b (z.sub b hb)⟩
 ·simp at hf
theorem qbjl {h:Array Obj} {S:St} {g:Ghost} {tmps:Array Value} {H:BS} (st:StRel h S g tmps H):∀ (t:Ty) {a:AV} {x:t.den} {c:List Value},
  rd S.rt t a=some x→AVC h S g a c→Rep h (Vis S g) t .no x c Nil
 | t,a,x,c,hr,y=>by
  have hval:∀ (t:Ty) (x:t.den) (t':Ty) (x':t'.den),qbq t' t x'=some x→Rep h g.Pr t' .no x' c Nil→Rep h (Vis S g) t .no x c Nil:=by
   intro t x t' x' e r
   exact Rep.mono (fun b hb=>Or.inl hb) (fun _ _=>rfl) t (Rep.cast e r).2 (Sub.refl _) (fun _ _=>rfl)
  cases a with
  | val t' x'=>cases t<;>(simp only[rd] at hr;simp only[AVC] at y;exact hval _ _ _ _ hr y)
  | unit=>
   cases t with
   | unit=>simp only[AVC] at y;simp only[Rep];exact y
   | _=>simp[rd] at hr
  | brw r p s=>
   cases t with
   | sl e=>
    simp only[rd] at hr
    simp only[AVC] at y
    obtain ⟨v,rfl,y⟩:=y
    split at hr
    ·rename_i t' s' m xs hf
     split at hr
     ·rename_i hs
      obtain ⟨R,base,F,hR0,_,_,_,rep,hF⟩:=q5q st hf hs.1 y
      have hisr:(S.root r).isSome:=by rw[hR0];rfl
      have r2:=Rep.share _ (by simpa [Mk.whole] using hs.2) rep
      have r3:=Rep.mono (Pr':=Vis S g) (fun b hb=>hb.elim .inl (fun hb=>.inr ⟨r,hisr,hF b hb⟩)) (fun _ _=>rfl) _ r2 (Sub.refl _) (fun _ _=>rfl)
      exact (Rep.cast hr r3).2
     ·simp at hr
    ·simp at hr
   | _=>simp[rd] at hr
  | pair u v=>
   cases t with
   | pair a b=>
    simp only[rd] at hr
    simp only[AVC] at y
    obtain ⟨ca,cb,rfl,y1,y2⟩:=y
    cases h1:rd S.rt a u with
    | none=>rw[h1] at hr;simp at hr
    | some x1=>
     rw[h1] at hr
     simp only[z30] at hr
     cases h2:rd S.rt b v with
     | none=>rw[h2] at hr;simp at hr
     | some x2=>
      rw[h2] at hr
      simp only[z30,z4] at hr
      subst hr
      simp only[Rep]
      exact ⟨ca,cb,Nil,Nil,rfl,qbjl st a h1 y1,qbjl st b h2 y2,Sub.nil _,Sub.nil _,Dis.nil _⟩
   | _=>simp[rd] at hr
  | undef=>cases t<;>simp[rd] at hr
  | _=>simp only[AVC] at y
theorem q7b {h:Array Obj} {S:St} {g:Ghost} {tmps:Array Value} {H:BS} (st:StRel h S g tmps H) (t:Ty) {a:AV} {x:t.den} {v:Value}
  (hr:rd S.rt t a=some x) (y:qe h S g a v):∃ c,v=mkV t c∧Rep h (Vis S g) t .no x c Nil:=by
 cases a with
 | val t' x'=>
  have hc:qbq t' t x'=some x:=by cases t<;>simpa only [rd] using hr
  simp only[qe] at y
  obtain ⟨c,r,rfl⟩:=y
  obtain ⟨rfl,r2⟩:=Rep.cast hc r
  exact ⟨c,rfl,Rep.mono (fun b hb=>Or.inl hb) (fun _ _=>rfl) _ r2 (Sub.refl _) (fun _ _=>rfl)⟩
 | litB b=>
  cases t with
  | bool=>
   simp only[rd,z4] at hr
   simp only[qe] at y
   subst hr;subst y
   exact ⟨[.bool b],by simp[mkV,Ty.agg],by simp only[Rep]⟩
  | _=>simp[rd] at hr
 | unit=>
  cases t with
  | unit=>simp only[qe] at y;exact ⟨[],by rw[y];rfl,by simp only[Rep]⟩
  | _=>simp[rd] at hr
 | nils=>
  cases t with
  | sl e=>
   simp only[rd,z4] at hr
   simp only[qe] at y
   subst hr;subst y
   exact ⟨[.slice none 0 0],by simp[mkV,Ty.agg],by simp only[Rep];exact ⟨none,0,by simp,by simp,by simp⟩⟩
  | _=>simp[rd] at hr
 | brw r p s=>
  cases t with
  | sl e=>
   have:=qbjl st (.sl e) (c:=[v]) hr (by simp only[qe] at y;simp only[AVC];exact ⟨v,rfl,y⟩)
   exact ⟨[v],by simp[mkV,Ty.agg],this⟩
  | _=>simp[rd] at hr
 | pair u w=>
  cases t with
  | pair a b=>
   simp only[qe] at y
   obtain ⟨ca,cb,rfl,y1,y2⟩:=y
   exact ⟨ca++cb,by simp[mkV,Ty.agg],qbjl st (.pair a b) hr (by simp only[AVC];exact ⟨ca,cb,rfl,y1,y2⟩)⟩
  | _=>simp[rd] at hr
 | _=>cases t<;>simp[rd] at hr
end
end Go.V

namespace Go.V
open Go
section trans
variable {h h' h'':Array Obj} {S S' S'':St} {g g' g'':Ghost}
theorem qqc.trans {r:Nat} {p:Path} (x:qqc h h' S S' g g' r p) (y:qqc h' h'' S' S'' g' g'' r p):qqc h h'' S S'' g g'' r p:=by
 intro R2 hR2 d2 hf2
 obtain ⟨R1,d1,hR1,hf1,k1⟩:=y R2 hR2 d2 hf2
 obtain ⟨R0,d0,hR0,hf0,k0⟩:=x R1 hR1 d1 hf1
 refine ⟨R0,d0,hR0,hf0,fun hin=>⟨(k1 (k0 hin).1).1,fun base c ha=>?_⟩⟩
 obtain ⟨c1,h1⟩:=(k0 hin).2 base c ha
 exact (k1 (k0 hin).1).2 base c1 h1
theorem qlp.trans {r:Nat} {p:Path} {s:Nat} (x:qlp h h' S S' g g' r p s) (y:qlp h' h'' S' S'' g' g'' r p s):qlp h h'' S S'' g g'' r p s:=by
 intro R2 hR2 t m xs hf2
 obtain ⟨R1,m1,xs1,hR1,hf1,k1⟩:=y R2 hR2 t m xs hf2
 obtain ⟨R0,m0,xs0,hR0,hf0,k0⟩:=x R1 hR1 t m1 xs1 hf1
 exact ⟨R0,m0,xs0,hR0,hf0,fun hin=>⟨(k1 (k0 hin).1).1,fun base c ha=>(k1 (k0 hin).1).2 base c ((k0 hin).2 base c ha)⟩⟩
theorem AV.Keeps.trans:∀ {a:AV},a.Keeps h h' S S' g g'→a.Keeps h' h'' S' S'' g' g''→a.Keeps h h'' S S'' g g'':=by
 intro a
 induction a with
 | brw r p s=>exact qlp.trans
 | view r p s lo hi=>exact qlp.trans
 | addr r p=>exact qqc.trans
 | pair a b iha ihb=>exact fun x y=>⟨iha x.1 y.1,ihb x.2 y.2⟩
 | tup a iha=>exact iha
 | clo f a iha=>exact iha
 | _=>exact fun _ _=>trivial
theorem AV.Keeps.refl:∀ (a:AV),a.Keeps h h S S g g:=
 AV.keeps_all (fun r p R hR d hf=>⟨R,d,hR,hf,fun hin=>⟨hin,fun base c ha=>⟨c,ha⟩⟩⟩)
  (fun r p s R hR t m xs hf=>⟨R,m,xs,hR,hf,fun hin=>⟨hin,fun base c ha=>ha⟩⟩)
end trans
structure Took (h:Array Obj) (S S':St) (g:Ghost) (tmps:Array Value) (H:BS) (t:Ty) (m:Mk) (x:t.den) (c:List Value) (g':Ghost) (F:BS):Prop where
 st:StRel h S' g' tmps (Un H F)
 pr:Sub g.Pr g'.Pr
 rep:Rep h g'.Pr t m x c F
 dis:Dis F H
 disPr:Dis F g'.Pr
 keeps:∀ a:AV,a.Keeps h h S S' g g'
 sl:S'.sl=S.sl
 rl:S'.rt.length=S.rt.length
 tag:TagC g.hd t m c
 same:g'.Same g
theorem Took.none {h:Array Obj} {S:St} {g:Ghost} {tmps:Array Value} {H:BS} (st:StRel h S g tmps H) {t:Ty} {m:Mk} {x:t.den} {c:List Value}
  (r:Rep h g.Pr t m x c Nil) (htg:TagC g.hd t m c):Took h S S g tmps H t m x c g Nil where
 st:=st.lessHand (fun b hb=>hb.resolve_right id)
 pr:=Sub.refl _
 rep:=r
 dis:=Dis.nil _
 disPr:=Dis.nil _
 keeps:=AV.Keeps.refl
 sl:=rfl
 rl:=rfl
 tag:=htg
 same:=.refl g
theorem qbj4 {h:Array Obj} {tmps:Array Value}:∀ (t:Ty) {S:St} {rt':Rts} {g:Ghost} {H:BS} {a:AV} {m:Mk} {x:t.den} {c:List Value},StRel h S g tmps H→
  tk S.rt t a=some (m,x,rt')→AVC h S g a c→∃ g' F,Took h S ⟨S.sl,rt'⟩ g tmps H t m x c g' F
 | t,S,rt',g,H,a,m,x,c,st,ht,y=>by
  have hval:∀ (t:Ty) (x:t.den) (t':Ty) (x':t'.den),((qbq t' t x').bind fun x=>some (Mk.no,x,S.rt))=some (m,x,rt')→Rep h g.Pr t' .no x' c Nil→
    ∃ g' F,Took h S ⟨S.sl,rt'⟩ g tmps H t m x c g' F:=by
   intro t x t' x' e r
   cases hc:qbq t' t x' with
   | none=>rw[hc] at e;simp at e
   | some z=>
    rw[hc] at e
    simp only[z30,z4,z7] at e
    obtain ⟨rfl,rfl,rfl⟩:=e
    exact ⟨g,Nil,Took.none st (Rep.cast hc r).2 (TagC.no _ _)⟩
  cases a with
  | val t' x'=>cases t<;>(simp only[tk] at ht;simp only[AVC] at y;exact hval _ _ _ _ ht y)
  | unit=>
   cases t with
   | unit=>
    simp only[AVC] at y
    simp only[tk,z4,z7] at ht
    obtain ⟨rfl,_,rfl⟩:=ht
    exact ⟨g,Nil,Took.none st (by simp only[Rep];exact y) (TagC.no _ _)⟩
   | _=>simp[tk] at ht
  | brw r p s=>
   cases t with
   | sl e=>
    simp only[tk] at ht
    simp only[AVC] at y
    obtain ⟨v,rfl,y⟩:=y
    split at ht
    ·rename_i R hR
     split at ht
     ·rename_i t' s' mi xs hf
      split at ht
      ·rename_i hs
       cases hc:qbq (.sl t') (.sl e) xs with
       | none=>rw[hc] at ht;simp at ht
       | some z=>
        rw[hc] at ht
        simp only[z30] at ht
        cases hm:qfc R.ty R.ms p .gone with
        | none=>rw[hm] at ht;simp at ht
        | some m'=>
         rw[hm] at ht
         simp only[z30,z4,z7] at ht
         obtain ⟨rfl,rfl,rfl⟩:=ht
         have hin:=(y R hR t' mi xs (by rw[hf];simp[hs])).1
         obtain ⟨base0,hat0⟩:=(y R hR t' mi xs (by rw[hf];simp[hs])).2
         obtain ⟨g',F,base,c',h1,h2,h3,h4,h5,h6,h7,htg,hsm,h8,h9,h10,h11⟩:=st.take hR hf hin hm
         rw[hat0] at h6
         simp only[z4,z7] at h6
         obtain ⟨_,rfl⟩:=h6
         obtain ⟨_,h12⟩:=Rep.cast hc h7
         exact ⟨g',F,{ st:=h1,pr:=h2,rep:=h12,dis:=h8,disPr:=h10,keeps:=h11,sl:=rfl,rl:=by simp[Rts.setRoot_eq],tag:=by obtain ⟨e1,e2⟩:=qjz hc;simp only[Ty.sl.injEq] at e1;subst e1;exact htg,same:=hsm }⟩
      ·simp at ht
     ·simp at ht
    ·simp at ht
   | _=>simp[tk] at ht
  | pair u v=>
   cases t with
   | pair a b=>
    simp only[tk] at ht
    simp only[AVC] at y
    obtain ⟨ca,cb,rfl,y1,y2⟩:=y
    cases h1:tk S.rt a u with
    | none=>rw[h1] at ht;simp at ht
    | some z1=>
     obtain ⟨m1,x1,S1⟩:=z1
     rw[h1] at ht
     simp only[z30] at ht
     cases h2:tk S1 b v with
     | none=>rw[h2] at ht;simp at ht
     | some z2=>
      obtain ⟨m2,x2,S2⟩:=z2
      rw[h2] at ht
      simp only[z30,z4,z7] at ht
      obtain ⟨rfl,rfl,rfl⟩:=ht
      obtain ⟨g1,F1,k1⟩:=qbj4 a st h1 y1
      obtain ⟨g2,F2,k2⟩:=qbj4 b (S:=⟨S.sl,S1⟩) k1.st h2 (AVC.keep k1.pr (fun _ _=>rfl) y2 (k1.keeps v))
      refine ⟨g2,Un F1 F2,{ st:=k2.st.lessHand ?_,pr:=k1.pr.trans k2.pr,rep:=?_,dis:=?_,disPr:=?_,keeps:=fun a=>(k1.keeps a).trans (k2.keeps a),sl:=k2.sl.trans k1.sl,rl:=k2.rl.trans k1.rl,tag:=?_,same:=k1.same.trans k2.same }⟩
      ·rintro b' (hb | hb | hb)
       ·exact .inl (.inl hb)
       ·exact .inl (.inr hb)
       ·exact .inr hb
      ·simp only[Rep,Mk.fst,Mk.snd]
       refine ⟨ca,cb,F1,F2,rfl,Rep.mono k2.pr (fun _ _=>rfl) a k1.rep (Sub.refl _) (fun _ _=>rfl),k2.rep,fun _ hb=>.inl hb,fun _ hb=>.inr hb,?_⟩
       intro b' hb1 hb2;exact k2.dis b' hb2 (.inr hb1)
      ·rintro b' (hb | hb) hH
       ·exact k1.dis b' hb hH
       ·exact k2.dis b' hb (.inl hH)
      ·rintro b' (hb | hb) hp
       ·exact k2.st.handPr b' (.inl (.inr hb)) hp
       ·exact k2.disPr b' hb hp
      ·simp only[TagC,Mk.fst,Mk.snd]
       have hl:=Rep.width a k1.rep
       rw[List.take_left' hl,List.drop_left' hl]
       have:=k2.tag
       rw[k1.same.1] at this
       exact ⟨k1.tag,this⟩
   | _=>simp[tk] at ht
  | undef=>cases t<;>simp[tk] at ht
  | _=>simp only[AVC] at y
theorem qwn {h:Array Obj} {tmps:Array Value} (t:Ty) {S:St} {rt':Rts} {g:Ghost} {H:BS} {a:AV} {m:Mk} {x:t.den} {v:Value} (st:StRel h S g tmps H)
  (ht:tk S.rt t a=some (m,x,rt')) (y:qe h S g a v):∃ c g' F,v=mkV t c∧Took h S ⟨S.sl,rt'⟩ g tmps H t m x c g' F:=by
 cases a with
 | val t' x'=>
  have hc0:((qbq t' t x').bind fun x=>some (Mk.no,x,S.rt))=some (m,x,rt'):=by cases t<;>simpa only [tk] using ht
  simp only[qe] at y
  obtain ⟨c,r,rfl⟩:=y
  cases hc:qbq t' t x' with
  | none=>rw[hc] at hc0;simp at hc0
  | some z=>
   rw[hc] at hc0
   simp only[z30,z4,z7] at hc0
   obtain ⟨rfl,rfl,rfl⟩:=hc0
   obtain ⟨rfl,r2⟩:=Rep.cast hc r
   exact ⟨c,g,Nil,rfl,Took.none st r2 (TagC.no _ _)⟩
 | litB b=>
  cases t with
  | bool=>
   simp only[tk,z4,z7] at ht
   simp only[qe] at y
   obtain ⟨rfl,rfl,rfl⟩:=ht;subst y
   exact ⟨[.bool b],g,Nil,by simp[mkV,Ty.agg],Took.none st (by simp only[Rep]) (TagC.no _ _)⟩
  | _=>simp[tk] at ht
 | unit=>
  cases t with
  | unit=>
   simp only[tk,z4,z7] at ht
   simp only[qe] at y
   obtain ⟨rfl,_,rfl⟩:=ht
   exact ⟨[],g,Nil,by rw[y];rfl,Took.none st (by simp only[Rep]) (TagC.no _ _)⟩
  | _=>simp[tk] at ht
 | nils=>
  cases t with
  | sl e=>
   simp only[tk,z4,z7] at ht
   simp only[qe] at y
   obtain ⟨rfl,rfl,rfl⟩:=ht;subst y
   exact ⟨[.slice none 0 0],g,Nil,by simp[mkV,Ty.agg],Took.none st (by simp only[Mk.top,Rep];exact ⟨none,0,by simp,by simp,.inl rfl⟩) (TagC.tagFree _ (Mk.tagFree_top _))⟩
  | _=>simp[tk] at ht
 | brw r p s=>
  cases t with
  | sl e=>
   obtain ⟨g',F,k⟩:=qbj4 (.sl e) (c:=[v]) st ht (by simp only[qe] at y;simp only[AVC];exact ⟨v,rfl,y⟩)
   exact ⟨[v],g',F,by simp[mkV,Ty.agg],k⟩
  | _=>simp[tk] at ht
 | pair u w=>
  cases t with
  | pair a b=>
   simp only[qe] at y
   obtain ⟨ca,cb,rfl,y1,y2⟩:=y
   obtain ⟨g',F,k⟩:=qbj4 (.pair a b) (c:=ca++cb) st ht (by simp only[AVC];exact ⟨ca,cb,rfl,y1,y2⟩)
   exact ⟨ca++cb,g',F,by simp[mkV,Ty.agg],k⟩
  | _=>simp[tk] at ht
 | _=>cases t<;>simp[tk] at ht
end Go.V

namespace Go.V
noncomputable section
open Go
def zc:Ty→List Value
 | .unit=>[]
 | .int k=>[.int k 0]
 | .bool=>[.bool false]
 | .str=>[.string ByteArray.empty]
 | .sl _=>[.slice none 0 0]
 | .pair a b=>zc a++zc b
theorem qlj:∀ t:Ty,(zc t).length=t.width
 | .unit=>rfl
 | .int _=>rfl
 | .bool=>rfl
 | .str=>rfl
 | .sl _=>rfl
 | .pair a b=>by simp[zc,Ty.width,qlj a,qlj b]
theorem Rep.zero {h:Array Obj} {Pr:BS}:∀ (t:Ty) (m:Mk),Rep h Pr t m t.zero (zc t) Nil
 | .unit,_=>by simp only[Rep,zc]
 | .int _,_=>by simp only[Rep,zc,Ty.zero]
 | .bool,_=>by simp only[Rep,zc,Ty.zero]
 | .str,_=>by simp only[Rep,zc,Ty.zero]
 | .sl t,m=>by
  cases m<;>simp only[Rep,zc,Ty.zero]
  ·exact ⟨none,0,rfl,Nat.le_refl _,fun h=>absurd rfl h⟩
  ·exact ⟨none,0,0,rfl⟩
  ·exact ⟨none,0,rfl,Nat.le_refl _,.inl rfl⟩
  ·exact ⟨none,0,rfl,Nat.le_refl _,fun h=>absurd rfl h⟩
 | .pair a b,m=>by
  simp only[Rep,zc,Ty.zero]
  exact ⟨zc a,zc b,Nil,Nil,rfl,Rep.zero a _,Rep.zero b _,Sub.nil _,Sub.nil _,Dis.nil _⟩
theorem Rep.one {h:Array Obj} {Pr:BS}:∀ (t:Ty) {m:Mk} {x:t.den} {c:List Value} {F:BS},Rep h Pr t m x c F→∀ v∈c,v.oneCell'=true
 | .unit,_,_,_,_,r,v,hv=>by simp only[Rep] at r;subst r;simp at hv
 | .int k,_,_,_,_,r,v,hv=>by simp only[Rep] at r;subst r;simp only[z23] at hv;subst hv;rfl
 | .bool,_,_,_,_,r,v,hv=>by simp only[Rep] at r;subst r;simp only[z23] at hv;subst hv;rfl
 | .str,_,_,_,_,r,v,hv=>by simp only[Rep] at r;subst r;simp only[z23] at hv;subst hv;rfl
 | .sl t,m,_,_,_,r,v,hv=>by
  obtain ⟨a,n,k,rfl⟩:=Rep.slice r
  simp only[z23] at hv;subst hv;rfl
 | .pair a b,m,_,_,_,r,v,hv=>by
  simp only[Rep] at r
  obtain ⟨ca,cb,Fa,Fb,rfl,ra,rb,_⟩:=r
  rcases z18.1 hv with hv | hv
  ·exact Rep.one a ra v hv
  ·exact Rep.one b rb v hv
def Ty.deep:Ty→Nat
 | .pair a b=>a.deep+b.deep+1
 | .sl t=>t.deep+1
 | _=>1
def qc1 (C:Ctx):List Field→Nat→Ty→Prop
 | [],_,T=>T=.unit
 | f::fs,off,T=>∃ b,T=.pair (C.ty f.type) b∧f.offset=off∧f.name≠ "_" ∧ (C.ty f.type).nz=true∧qc1 C fs (off+(C.ty f.type).width) b
def qgw (C:Ctx):TypeDesc→Ty→Prop
 | .int k,T=>T=.int k
 | .bool,T=>T=.bool
 | .string,T=>T=.str
 | .slice e,T=>T=.sl (C.ty e)∧(C.ty e).nz=true
 | .struct fs,T=>qc1 C fs.toList 0 T∧T≠.unit
 | _,_=>False
structure TyOk (P:Program) (C:Ctx) (t:TypeId):Prop where
 info:∃ i,P.info? t=some i∧i.size=(C.ty t).width∧i.zero=some (mkV (C.ty t) (zc (C.ty t)))∧i.bytes≤255
 pos:0<(C.ty t).width
 desc:∃ d,P.underlying t=some d∧qgw C d (C.ty t)
 deep:(C.ty t).deep<10000
 eq:(C.ty t).agg=true→(C.ty t).comp=true→P.stoodInHeld t=false∧P.eqGuardType P.depth t=false
def qcl (P:Program) (C:Ctx):Prop:=∀ t,(C.ty t).nz=true→TyOk P C t
section
variable {P:Program} {C:Ctx} {t:TypeId} (k:TyOk P C t) (w:World)
include k
theorem TyOk.run_zero:(zeroValue t).run P w=.ok (mkV (C.ty t) (zc (C.ty t))) w:=by
 obtain ⟨i,h1,h2,h3,h4⟩:=k.info
 simp[zeroValue,typeInfo,h1,h3]
theorem TyOk.run_size:(sizeOf t).run P w=.ok (C.ty t).width w:=by
 obtain ⟨i,h1,h2,h3,h4⟩:=k.info
 simp[sizeOf,typeInfo,h1,h2]
theorem TyOk.run_agg:(isAgg t).run P w=.ok (C.ty t).agg w:=by
 obtain ⟨d,h1,h2⟩:=k.desc
 have:(underlying t).run P w=.ok d w:=by simp[underlying,h1]
 cases d<;>simp only[qgw] at h2<;>simp[isAgg,this,Sem.run_bind]
 case bool=>rw[h2];rfl
 case int=>rw[h2];rfl
 case string=>rw[h2];rfl
 case slice=>rw[h2.1];rfl
 case struct fs=>
  cases hl:fs.toList with
  | nil=>rw[hl] at h2;simp only[qc1] at h2;exact absurd h2.1 h2.2
  | cons f l=>rw[hl] at h2;simp only[qc1] at h2;obtain ⟨⟨b,e,_⟩,_⟩:=h2;rw[e];rfl
omit k in
end
theorem qbj1 (T:Ty):(mkV T (zc T)).cells.toList=zc T:=qlq (Rep.zero (h:=#[]) (Pr:=Nil) T .no)
structure WFr (L:BS) (w w':World):Prop where
 os:w'.os=w.os
 tape:w'.tape=w.tape
 output:w'.output=w.output
 size:w.heap.size≤w'.heap.size
 block:∀ b,b<w.heap.size→¬ L b→w'.heap[b]? = w.heap[b]?
theorem WFr.refl (L:BS) (w:World):WFr L w w:=⟨rfl,rfl,rfl,Nat.le_refl _,fun _ _ _=>rfl⟩
theorem WFr.trans {L:BS} {a b c:World} (h:WFr L a b) (k:WFr L b c):WFr L a c:=
 ⟨k.os.trans h.os,k.tape.trans h.tape,k.output.trans h.output,Nat.le_trans h.size k.size,
  fun i hi hn=>(k.block i (Nat.lt_of_lt_of_le hi h.size) hn).trans (h.block i hi hn)⟩
theorem WFr.mono {L L':BS} {a b:World} (h:WFr L a b) (hs:∀ i,i<a.heap.size→L i→L' i):WFr L' a b:=
 ⟨h.os,h.tape,h.output,h.size,fun i hi hn=>h.block i hi fun hl=>hn (hs i hi hl)⟩
theorem WFr.drawn {L:BS} {w:World} (n:Nat):WFr L w { w with drawn:=n }:=⟨rfl,rfl,rfl,Nat.le_refl _,fun _ _ _=>rfl⟩
theorem WFr.push {L:BS} {w:World} (o:Obj):WFr L w { w with heap:=w.heap.push o }:=
 ⟨rfl,rfl,rfl,by simp,fun b hb _=>by show (w.heap.push o)[b]? = _;rw[Array.getElem?_push,z5 (by omega)]⟩
theorem ql1 {h:Array Obj} {o:Obj}:∀ b,b<h.size→(h.push o)[b]? = h[b]?:=fun b hb=>by rw[Array.getElem?_push,z5 (by omega)]
theorem qb1c {h:Array Obj} {o:Obj}:(h.push o)[h.size]? = some o:=by rw[Array.getElem?_push,z6 rfl]
theorem qcn.new {h:Array Obj} {cs:Array Value} {e:TypeId}:qcn (h.push (.cells cs e)) h.size cs:=⟨e,0,0,qb1c,fun i _=>by omega⟩
theorem qbrh {w:World} {b:Nat} {cs:Array Value} {e:TypeId} {fr:Nat×Nat} (h:w.heap[b]? = some (.cells cs e fr)) (i:Nat):w.cell? ⟨b,i,none⟩=cs[i]?:=by
 simp[World.cell?,h]
theorem qj1 {w:World} {b o n:Nat} {cs:Array Value} (h:Blk w.heap b cs) (hn:o+n≤cs.size):w.rangeAt b o (sub cs o n):=by
 obtain ⟨e,fr,he⟩:=h
 intro j v hv
 rw[qbrh he]
 simp only[sub,z39,z44] at hv
 split at hv
 ·simpa using hv
 ·simp at hv
theorem qba7 {cs:Array Value} {o n:Nat} (h:o+n≤cs.size):(sub cs o n).length=n:=by
 simp[sub];omega
theorem qgr {b:Nat}:∀ (vs:List Value) (o:Nat) (w:World) (k:Nat),k≠b→(w.setCells b o vs).heap[k]? = w.heap[k]?
 | [],_,_,_,_=>rfl
 | v::r,o,w,k,hk=>by
  rw[World.setCells,qgr r (o+1) _ k hk]
  simp only[World.setCell,Array.getElem?_modify]
  rw[z5 (by omega)]
theorem qct {b:Nat}:∀ (vs:List Value) (o:Nat) (w:World),(w.setCells b o vs).heap.size=w.heap.size
 | [],_,_=>rfl
 | v::r,o,w=>by rw[World.setCells,qct r];simp[World.setCell]
theorem qk5 {b:Nat}:∀ (vs:List Value) (o:Nat) (w:World),(w.setCells b o vs).os=w.os∧(w.setCells b o vs).tape=w.tape∧(w.setCells b o vs).output=w.output
 | [],_,_=>⟨rfl,rfl,rfl⟩
 | v::r,o,w=>by rw[World.setCells];exact qk5 r _ _
theorem qbo0 {l:List Value} {o:Nat} {v:Value} {r:List Value} (h:o+(v::r).length≤l.length):repl (l.set o v) (o+1) r=repl l o (v::r):=by
 simp only[z22] at h
 have hA:(l.take o).length=o:=by simp;omega
 have e0:l.set o v=l.take o++v::l.drop (o+1):=by
  rw[List.set_eq_take_append_cons_drop,z6 (by omega)]
 have e1:(l.set o v).take (o+1)=l.take o++[v]:=by
  rw[e0,List.take_append,hA,z42 (by omega)]
  have:o+1 - o=1:=by omega
  rw[this];rfl
 have e2:(l.set o v).drop (o+1+r.length)=l.drop (o+(r.length+1)):=by
  rw[e0,List.drop_append,hA,List.drop_eq_nil_of_le (by omega),z46]
  have:o+1+r.length - o=r.length+1:=by omega
  rw[this,List.drop_succ_cons,List.drop_drop]
  congr 1;omega
 simp only[repl,z22]
 rw[e1,e2]
 simp
theorem q03 {b:Nat} {e:TypeId} {fr:Nat×Nat}:∀ (vs:List Value) (o:Nat) (w:World) (cs:Array Value),w.heap[b]? = some (.cells cs e fr)→o+vs.length≤cs.size→
  ∃ cs2:Array Value,(w.setCells b o vs).heap[b]? = some (.cells cs2 e fr)∧cs2.toList=repl cs.toList o vs
 | [],o,w,cs,h,hl=>⟨cs,h,by simp[repl]⟩
 | v::r,o,w,cs,h,hl=>by
  simp only[z22] at hl
  rw[World.setCells]
  have h1:(w.setCell ⟨b,o,none⟩ v).heap[b]? = some (.cells (cs.setIfInBounds o v) e fr):=by
   simp[World.setCell,Array.getElem?_modify,h]
  obtain ⟨cs2,h2,h3⟩:=q03 r (o+1) _ _ h1 (by simp;omega)
  refine ⟨cs2,h2,?_⟩
  rw[h3,Array.toList_setIfInBounds]
  exact qbo0 (by simp;omega)
theorem q1q {w:World} {b o n:Nat} {cs:Array Value} (h:qcn w.heap b cs) (hn:o+n≤cs.size):w.there b o n:=by
 obtain ⟨e,lo,hi,he,hf⟩:=h
 intro j hj
 rw[qbrh he]
 refine ⟨by rw[Array.getElem?_eq_getElem (by omega)];rfl,?_⟩
 have:=hf (o+j) (by omega)
 simp only[World.frozen?,he]
 simpa using this
theorem q64 {w:World} {b o:Nat} {c2:List Value} {base:Base} (hb:base=some (b,o)) {cs:Array Value} (h:qcn w.heap b cs) (hn:o+c2.length≤cs.size) :
  Upd w.heap (w.setCells b o c2).heap base c2:=by
 intro b' o' e cs' h'
 rw[hb] at e
 simp only[z4,z7] at e
 obtain ⟨rfl,rfl⟩:=e
 obtain rfl:=qcn.uniq h h'
 obtain ⟨ty,lo,hi,he,hf⟩:=h
 obtain ⟨cs2,h2,h3⟩:=q03 c2 o w cs he hn
 refine ⟨cs2,⟨ty,lo,hi,h2,fun i hi'=>hf i ?_⟩,h3⟩
 have:cs2.size=cs.size:=by
  rw[←z41,h3,qiq (by simpa using hn),z41]
 omega
end
end Go.V


import Derived.WalkKit
import Derived.Lib.Walk
import Derived.Lib.SliceRun
import Derived.Lib.JoinLaws
import Derived.Lib.AppendZeros
import Derived.Lib.Overlaps
import Derived.Laws.Externs
import Derived.Laws.IdiomCopy
import Derived.Lib.AppendZerosOnto
import Derived.Shelf.Spec.SlicesInsert
import Derived.Test.YtfafjngknkbngaaGreatAPFnExactRemove1
set_option linter.unusedVariables false
set_option linter.unusedSimpArgs false
set_option linter.unusedSectionVars false
namespace Go.G
open Go Go.V
theorem br_t {R:Type} {a b:Option R}:br true a b=a:=rfl
theorem br_f {R:Type} {a b:Option R}:br false a b=b:=rfl
theorem qp {R:Type} {a b:Option R} {p:Prop} [Decidable p] (h:p):br (decide p) a b=a:=by simp[br,h]
theorem qo {R:Type} {a b:Option R} {p:Prop} [Decidable p] (h:¬ p):br (decide p) a b=b:=by simp[br,h]
theorem qg {α R:Type} {a:α} {f:α→Option R}:qj (some a) f=f a:=rfl
theorem qbpc {R:Type} {c:Bool} {a b:Option R}:br c a b=if c=true then a else b:=by cases c<;>rfl
theorem qbug (x:Int):IntKind.wrap IntKind.i64 x=if x % 18446744073709551616≥9223372036854775808 then x % 18446744073709551616 - 18446744073709551616 else x % 18446744073709551616:=by
 by_cases h:x % 18446744073709551616≥9223372036854775808<;>simp[IntKind.wrap,IntKind.signed,IntKind.bits,h]
theorem qce {x:Int} (h1 : -9223372036854775808≤x) (h2:x≤9223372036854775807):IntKind.wrap IntKind.i64 x=x:=by
 rw[qbug]
 split<;>omega
def W:Nat:=9223372036854775808
theorem qbn:W=9223372036854775808:=rfl
theorem ql:maxLen=9223372036854775807:=rfl
theorem qdo:qbm=274877906944:=rfl
theorem ix {α:Type} {l:List α} {i:Nat} (h:i<l.length):(decide (0≤(i:Int))&&decide ((i:Int)<(l.length:Int)))=true:=by
 simp only[Bool.and_eq_true,decide_eq_true_eq];omega
theorem ixn {α:Type} {l:List α} {i:Int} (h0:0≤i) (h:i<l.length):(decide (0≤i)&&decide (i<(l.length:Int)))=true:=by
 simp only[Bool.and_eq_true,decide_eq_true_eq];omega
theorem qr {i:Nat} (h:i<9223372036854775807):IntKind.wrap IntKind.i64 ((i:Int)+1)=((i+1:Nat):Int):=by
 rw[qce]<;>omega
theorem qbj {α:Type} {l:List α} {i:Nat} {d:α} (h:i<l.length):l.getD i d=l[i]:=by
 simp[List.getD,h]
theorem q0 {α:Type} {l:List α} {i:Nat} (h:i<l.length):l.drop i=l[i]::l.drop (i+1):=List.drop_eq_getElem_cons h
theorem qbb {α:Type} {l:List α} {i:Nat} (h:¬ i<l.length):l.drop i=[]:=List.drop_eq_nil_of_le (by omega)
def tot:(t:Ty)→t.den→Nat
 | .unit,_=>0
 | .int _,_=>0
 | .bool,_=>0
 | .str,s=>s.size
 | .sl t,xs=>xs.length+(xs.map (tot t)).sum
 | .pair a b,x=>tot a x.1+tot b x.2
def left (t:Ty) (a:t.den) (k:Int):Int:=if (tot t a:Int)≤k then k - tot t a else -1
theorem qi1 {α:Type} {f:α→Nat} {l:List α} {i:Nat} (h:i<l.length):((l.drop i).map f).sum=f l[i]+((l.drop (i+1)).map f).sum:=by
 rw[q0 h,List.map_cons,List.sum_cons]
theorem q4n {t:Ty}:∀ {xs:List t.den} {x:t.den},x∈xs→tot t x+xs.length≤tot (.sl t) xs
 | y::xs,x,h=>by
  simp only[tot,List.length_cons,List.map_cons,List.sum_cons]
  rcases List.mem_cons.1 h with rfl | h
  ·have:xs.length≤xs.length+(xs.map (tot t)).sum:=by omega
   omega
  ·have:=q4n h
   simp only[tot] at this
   omega
theorem qgi {a b:ByteArray}:List.beq a.toList b.toList=decide (a=b):=by
 have h1:List.beq a.toList b.toList=decide (a.toList=b.toList):=by
  have:(a.toList == b.toList)=decide (a.toList=b.toList):=by
   by_cases h:a.toList=b.toList<;>simp[h]
  exact this
 rw[h1]
 by_cases h:a=b
 ·simp[h]
 ·have:a.toList≠b.toList:=fun e=>h (by
   have h2:a.data.toList=b.data.toList:=by
    have:=e
    simpa [ByteArray.toList_eq] using this
   cases a;cases b
   simp only[ByteArray.mk.injEq]
   exact Array.toList_inj.1 h2)
  simp[h,this]
end Go.G

namespace Go.G
open Go Go.V
abbrev qda:Ty:=.sl (.int .i64)
theorem q5r (a:List Int):tot qda a=a.length:=by
 have:∀ l:List Int,(l.map fun _=>0).sum=0:=by
  intro l;induction l with
  | nil=>rfl
  | cons x l ih=>simp[ih]
 have e:(a.map (tot (.int .i64)))=a.map fun _=>0:=by
  apply List.map_congr_left;intro x _;simp only[tot]
 show a.length+(a.map (tot (.int .i64))).sum=a.length
 rw[e,this];omega
theorem qnf {α:Type} {l:List α} {i:Nat} {x:α} (h:i<l.length):(l.set i x).take (i+1)=l.take i++[x]:=by
 rw[List.take_add_one,List.take_set_of_le (Nat.le_refl _)]
 simp[List.getElem?_set,h]
theorem qbo4 (D:Den ctx) (n:Nat) (K0:Bool→Option ((Bool×Unit)×Unit)) (K1:Option ((Bool×Unit)×Unit)):∀ (m i:Nat) (a b:List Int),a.length=b.length→a.length≤maxLen→i≤a.length→a.length - i<m→
  qkm D n K0 K1 m a b i=if a.drop i=b.drop i then K1 else K0 false
 | 0,_,_,_,_,_,_,h=>by omega
 | m+1,i,a,b,hl,hm,hi,hk=>by
  simp only[qkm,q1d]
  rw[ql] at hm
  by_cases h:i<a.length
  ·rw[qp (by exact_mod_cast h),ix h,br_t,ix (hl ▸ h),br_t,qr (by omega),Int.toNat_natCast,qbj h,qbj (hl ▸ h),q0 h,q0 (hl ▸ h:i<b.length)]
   by_cases e:a[i]=b[i]'(hl ▸ h)
   ·rw[e]
    simp only[bne_self_eq_false,br_f,List.cons.injEq,true_and]
    exact qbo4 D n K0 K1 m (i+1) a b hl (by rw[ql];omega) (by omega) (by omega)
   ·have:(a[i] != b[i]'(hl ▸ h))=true:=by simp[e]
    rw[this,br_t];simp only[List.cons.injEq,e,false_and,if_false]
  ·rw[qo (by exact_mod_cast h),qbb h,qbb (hl ▸ h)];rfl
theorem qbod {X:Ext} (hX:XOk X) {n:Nat} (hn:W+1≤n) (a b:List Int) (hb:b.length≤maxLen):qu4 (DD X n) a b=some ((decide (a=b),()),()):=by
 obtain ⟨n,rfl⟩:∃ k,n=k+1:=⟨n - 1,by omega⟩
 rw[qbn1 hX]
 simp only[q2z,q28,qx6]
 by_cases h:a.length=b.length
 ·have e:((a.length:Int) != (b.length:Int))=false:=by simp[h]
  rw[e,br_f]
  have:=qbo4 (DD X n) n (fun v=>qpb (DD X n) n v) (qo5 (DD X n) n) n 0 a b h (by omega) (by omega) (by have:=qbn;have:=ql;omega)
  rw[show ((0:Nat):Int)=0 from rfl] at this
  rw[this]
  simp only[List.drop_zero,qpb,qo5]
  by_cases h:a=b<;>simp[h]
 ·have e:((a.length:Int) != (b.length:Int))=true:=by simp;omega
  have:a≠b:=fun h2=>h (by rw[h2])
  rw[e,br_t];simp[this]
theorem qbqn (D:Den ctx) (n:Nat) (K:List Int→Option ((List Int×Unit)×Unit)):∀ (m i:Nat) (a c:List Int),a.length=c.length→a.length≤maxLen→i≤a.length→a.length - i<m→
  qkh D n K m a i c=K (c.take i++a.drop i)
 | 0,_,_,_,_,_,_,h=>by omega
 | m+1,i,a,c,hl,hm,hi,hk=>by
  simp only[qkh,q0t]
  rw[ql] at hm
  by_cases h:i<a.length
  ·rw[qp (by exact_mod_cast h),ix h,br_t,ix (hl ▸ h),br_t,qr (by omega),Int.toNat_natCast,qbj h,qbqn D n K m (i+1) a _ (by simp[hl]) (by rw[ql];omega) (by omega) (by omega)]
   congr 1
   rw[q0 h,qnf (hl ▸ h),List.append_assoc];rfl
  ·rw[qo (by exact_mod_cast h),qbb h,List.take_of_length_le (by omega),List.append_nil]
theorem q7v {a:Nat} (h:a≤qbm):(decide (0≤(a:Int))&&decide ((a:Int)≤(a:Int))&&decide ((a:Int)≤((qbm:Nat):Int)))=true:=by
 simp only[Bool.and_eq_true,decide_eq_true_eq];omega
theorem qboq {X:Ext} (hX:XOk X) {n:Nat} (hn:W+1≤n) (a:List Int) (ha:a.length≤qbm):qvc (DD X n) a=some ((a,()),()):=by
 obtain ⟨n,rfl⟩:∃ k,n=k+1:=⟨n - 1,by omega⟩
 rw[qbnj hX]
 simp only[q23,q2w,qwx]
 rw[q7v ha,br_t]
 have h1:=qdo
 have:=qbqn (DD X n) n (fun v=>qpj (DD X n) n v) n 0 a (List.replicate (Int.toNat (a.length:Int)) 0) (by simp) (by rw[ql];omega) (by omega) (by have:=qbn;omega)
 rw[show ((0:Nat):Int)=0 from rfl] at this
 rw[this]
 simp only[List.take_zero,List.drop_zero,List.nil_append,qpj]
theorem qboh {X:Ext} (hX:XOk X) {n:Nat} (hn:W+1≤n) (a:List Int) (k:Int) (ha:a.length≤maxLen) (hk:0≤k∧k≤maxLen):qu9 (DD X n) a k=some ((left qda a k,()),()):=by
 obtain ⟨n,rfl⟩:∃ k,n=k+1:=⟨n - 1,by omega⟩
 rw[ql] at ha hk
 rw[qbnx hX]
 simp only[q2e,q91,left,q5r]
 rw[qce (by omega) (by omega)]
 by_cases h:k - (a.length:Int)<0
 ·rw[qp h,if_neg (by omega)]
 ·rw[qo h,if_pos (by omega)]
def qfw:Int→List Int→List Int
 | _,[]=>[]
 | k,_::l=>k::qfw (k+1) l
theorem qbc3:∀ (l:List Int) (k:Int),(qfw k l).length=l.length
 | [],_=>rfl
 | _::l,k=>by simp[qfw,qbc3 l]
theorem qbku (D:Den ctx) (n:Nat) (K:Int→List Int→Option ((Int×Unit)×List Int×Unit)):∀ (m i:Nat) (k:Int) (a:List Int),a.length≤maxLen→i≤a.length→a.length - i<m→0≤k→k+(a.length - i)≤maxLen→
  qie D n K m k i a=K (k+(a.length - i)) (a.take i++qfw k (a.drop i))
 | 0,_,_,_,_,_,h,_,_=>by omega
 | m+1,i,k,a,hm,hi,hf,hk,hkl=>by
  simp only[qie,qvf]
  have hd:=ql
  by_cases h:i<a.length
  ·rw[qp (by exact_mod_cast h),ix h,br_t,qr (by omega),qce (by omega) (by omega),Int.toNat_natCast]
   rw[qbku D n K m (i+1) (k+1) _ (by simpa using hm) (by simp;omega) (by simp;omega) (by omega) (by simp only[List.length_set];omega),qnf h,q0 h,List.drop_set_of_lt (by omega)]
   simp only[List.length_set,List.append_assoc,qfw,List.singleton_append]
   congr 1
   omega
  ·rw[qo (by exact_mod_cast h),qbb h,List.take_of_length_le (by omega)]
   simp only[qfw,List.append_nil]
   congr 1
   omega
theorem qbsz {X:Ext} (hX:XOk X) {n:Nat} (hn:W+1≤n) (a:List Int) (k:Int) (hk:0≤k) (h:k+a.length≤maxLen):qmj (DD X n) a k=some ((k+a.length,()),(qfw k a,())):=by
 obtain ⟨n,rfl⟩:∃ k,n=k+1:=⟨n - 1,by omega⟩
 have hd:=ql
 rw[qbki hX]
 simp only[qyt,qyd,qus]
 have:=qbku (DD X n) n (fun v w=>qmp (DD X n) n v w) n 0 k a (by omega) (by omega) (by have:=qbn;omega) hk (by omega)
 rw[show ((0:Nat):Int)=0 from rfl] at this
 rw[this]
 simp only[List.take_zero,List.drop_zero,List.nil_append,qmp,Int.sub_zero]
theorem qbjk (D:Den ctx) (n:Nat) (K0:Int→Int→Option ((Int×Unit)×Unit)) (K1:Int→Option ((Int×Unit)×Unit)):∀ (m i:Nat) (k k0:Int) (a l:List Int),a.length≤maxLen→i≤a.length→a.length - i<m→0≤k→k+(a.length - i)≤maxLen→
  a.drop i=qfw k l→qir D n K0 K1 m a k i=K1 (k+(a.length - i))
 | 0,_,_,_,_,_,_,_,h,_,_,_=>by omega
 | m+1,i,k,k0,a,l,hm,hi,hf,hk,hkl,hl=>by
  simp only[qir,qvv]
  have hd:=ql
  by_cases h:i<a.length
  ·rw[qp (by exact_mod_cast h),ix h,br_t,qr (by omega),qce (by omega) (by omega),Int.toNat_natCast,qbj h]
   rw[q0 h] at hl
   cases l with
   | nil=>simp[qfw] at hl;omega
   | cons x l=>
    simp only[qfw,List.cons.injEq] at hl
    rw[hl.1,bne_self_eq_false,br_f]
    rw[qbjk D n K0 K1 m (i+1) (k+1) k0 a l hm (by omega) (by omega) (by omega) (by omega) hl.2]
    congr 1
    omega
  ·rw[qo (by exact_mod_cast h)]
   congr 1
   omega
theorem qbse {X:Ext} (hX:XOk X) {n:Nat} (hn:W+1≤n) (a:List Int) (k:Int) (hk:0≤k) (h:k+a.length≤maxLen):qmf (DD X n) (qfw k a) k=some ((k+a.length,()),()):=by
 obtain ⟨n,rfl⟩:∃ k,n=k+1:=⟨n - 1,by omega⟩
 have hd:=ql
 rw[qbjg hX]
 simp only[qy1,qyy,quu]
 have hml:=qbc3 a k
 have:=qbjk (DD X n) n (fun v w=>qr9 (DD X n) n v w) (fun v=>ql6 (DD X n) n v) n 0 k k (qfw k a) a (by omega) (by omega) (by have:=qbn;omega) hk (by omega) (by simp)
 rw[show ((0:Nat):Int)=0 from rfl] at this
 rw[this]
 simp only[ql6,Int.sub_zero,hml]
def qbcb (x:Int):ByteArray:=ByteArray.mk (List.toArray (List.map (fun n↦UInt8.ofNat (Int.toNat n)) [IntKind.wrap IntKind.u8 (IntKind.wrap IntKind.i64 (48+Int.tmod x 10))]))
def qs7:Nat→Int→ByteArray→ByteArray
 | 0,_,s=>s
 | f+1,x,s=>if x>0 then qs7 f (Int.tdiv x 10) (ByteArray.append (qbcb x) s) else s
def q4a (k:Int):ByteArray:=if k≤0 then ByteArray.mk #[UInt8.ofNat 109,UInt8.ofNat 48] else ByteArray.append (ByteArray.mk #[UInt8.ofNat 109]) (qs7 19 k (ByteArray.mk #[]))
theorem qbfy (a b:ByteArray):(ByteArray.append a b).size=a.size+b.size:=ByteArray.size_append
theorem q66 (x:Int):(qbcb x).size=1:=rfl
theorem qbcp:∀ (f:Nat) (x:Int) (s:ByteArray),(qs7 f x s).size≤s.size+f
 | 0,_,s=>by simp[qs7]
 | f+1,x,s=>by
  simp only[qs7]
  split
  ·have:=qbcp f (Int.tdiv x 10) (ByteArray.append (qbcb x) s)
   rw[qbfy,q66] at this
   omega
  ·omega
theorem qbhv (D:Den ctx) (n:Nat) (K:ByteArray→Option ((ByteArray×Unit)×Unit)):∀ (f m:Nat) (x:Int) (s:ByteArray),f<m→0≤x→x<10 ^ f→x≤maxLen→s.size+f≤2 ^ 47→qfs D n K m x s=K (qs7 f x s)
 | f,0,_,_,h,_,_,_,_=>by omega
 | 0,m+1,x,s,_,h0,hx,_,_=>by
  simp only[qfs,qon,qs7]
  rw[qo (by simp at hx;omega)]
 | f+1,m+1,x,s,hf,h0,hx,hm,hs=>by
  simp only[qfs,qon,qs7]
  have hd:=ql
  by_cases h:x>0
  ·rw[qp h,if_pos h,qp (by show (qbcb x).size+s.size≤Nat.pow 2 47;rw[q66];show 1+s.size≤2 ^ 47;omega)]
   have e:Int.tdiv x 10=x / 10:=Int.tdiv_eq_ediv_of_nonneg h0
   rw[qce (by rw[e];omega) (by rw[e];omega)]
   refine qbhv D n K f m _ _ (by omega) (by rw[e];omega) ?_ (by rw[e];omega) ?_
   ·rw[e]
    have:(10:Int) ^ (f+1)=10 ^ f * 10:=Int.pow_succ ..
    omega
   ·show (ByteArray.append (qbcb x) s).size+f≤2 ^ 47
    rw[qbfy,q66];omega
  ·rw[qo h,if_neg h]
theorem qta {X:Ext} (hX:XOk X) {n:Nat} (hn:W+1≤n) (k:Int) (hk:k≤maxLen):qe2 (DD X n) k=some ((q4a k,()),()):=by
 obtain ⟨n,rfl⟩:∃ k,n=k+1:=⟨n - 1,by omega⟩
 have hd:=ql
 rw[qbjy hX]
 simp only[qyo,qw5,qtq,q4a]
 by_cases h:k≤0
 ·rw[qp h,if_pos h]
 ·rw[qo h,if_neg h,qbhv (DD X n) n _ 19 n k _ (by have:=qbn;omega) (by omega) (by omega) hk (by show 0+19≤2 ^ 47;decide)]
  simp only[qr2]
  have h1:=qbcp 19 k (ByteArray.mk #[])
  have h2:(ByteArray.mk #[]).size=0:=rfl
  rw[qp]
  show 1+(qs7 19 k (ByteArray.mk #[])).size≤2 ^ 47
  omega
end Go.G

namespace Go.G
open Go Go.V
def mkL {α:Type} (f:Int→α→Int×α):Int→List α→Int×List α
 | k,[]=>(k,[])
 | k,x::l=>((mkL f (f k x).1 l).1,(f k x).2::(mkL f (f k x).1 l).2)
def mkT:(t:Ty)→Int→t.den→Int×t.den
 | .unit,k,x=>(k,x)
 | .int _,k,_=>(k+1,k)
 | .bool,k,_=>(k+1,decide (Int.tmod k 3=0))
 | .str,k,_=>(k+1,q4a k)
 | .sl t,k,xs=>mkL (mkT t) k xs
 | .pair a b,k,x=>((mkT b (mkT a k x.1).1 x.2).1,((mkT a k x.1).2,(mkT b (mkT a k x.1).1 x.2).2))
def cnt:(t:Ty)→t.den→Nat
 | .unit,_=>0
 | .int _,_=>1
 | .bool,_=>1
 | .str,_=>1
 | .sl t,xs=>(xs.map (cnt t)).sum
 | .pair a b,x=>cnt a x.1+cnt b x.2
theorem qbr4 {t:Ty} (h:∀ k x,(mkT t k x).1=k+cnt t x):∀ (k:Int) (xs:List t.den),(mkL (mkT t) k xs).1=k+((xs.map (cnt t)).sum:Nat)
 | k,[]=>by simp[mkL]
 | k,x::l=>by
  simp only[mkL,qbr4 h,h,List.map_cons,List.sum_cons]
  omega
theorem qdd:∀ (t:Ty) (k:Int) (x:t.den),(mkT t k x).1=k+cnt t x
 | .unit,k,x=>by simp[mkT,cnt]
 | .int _,k,_=>by simp[mkT,cnt]
 | .bool,k,_=>by simp[mkT,cnt]
 | .str,k,_=>by simp[mkT,cnt]
 | .sl t,k,xs=>by simp only[mkT,cnt];exact qbr4 (qdd t) k xs
 | .pair a b,k,x=>by simp only[mkT,cnt,qdd a,qdd b];omega
theorem q4o {α:Type} {f:Int→α→Int×α}:∀ (k:Int) (xs:List α),(mkL f k xs).2.length=xs.length
 | _,[]=>rfl
 | k,x::l=>by simp[mkL,q4o]
theorem qod {t:Ty} (a:List t.den):tot (.sl t) a=a.length+(a.map (tot t)).sum:=rfl
theorem qbuk {t:Ty} (a:List t.den):cnt (.sl t) a=(a.map (cnt t)).sum:=rfl
theorem qd2 {t:Ty} {a:t.den} {k:Int} (h:(tot t a:Int)≤k):left t a k=k - tot t a:=if_pos h
theorem qec {t:Ty} {a:t.den} {k:Int} (h:¬ (tot t a:Int)≤k):left t a k = -1:=if_neg h
theorem qff {t:Ty} {a:t.den} {k:Int} (h:¬ left t a k<0) (hk:0≤k):left t a k=k - tot t a∧(tot t a:Int)≤k:=by
 unfold left at h ⊢
 split at h
 ·rename_i h1;rw[if_pos h1];exact ⟨rfl,h1⟩
 ·omega
theorem q3a {α:Type} {l:List α} {i:Nat} {x d:α} (h:i<l.length):(l.set i x).getD i d=x:=by
 simp[List.getD,h]
theorem q1h:∀ (k:Int) (a:List Int),mkT qda k a=(k+a.length,qfw k a)
 | k,[]=>by simp[mkT,mkL,qfw]
 | k,x::a=>by
  have:=q1h (k+1) a
  simp only[mkT] at this
  simp only[mkT,mkL,qfw,this,List.length_cons]
  congr 1
  omega
theorem qbqg (a:List Int):cnt qda a=a.length:=by
 have h1:=qdd qda 0 a
 rw[q1h] at h1
 simp only at h1
 omega
theorem qbi1 {X:Ext} (hX:XOk X) {n:Nat} (hn:W+1≤n) (a:List Int) (k:Int) (hk:0≤k) (h:k+cnt qda a≤maxLen):qmj (DD X n) a k=some (((mkT qda k a).1,()),((mkT qda k a).2,())):=by
 rw[q1h];rw[qbqg] at h;exact qbsz hX hn a k hk h
theorem qbii {X:Ext} (hX:XOk X) {n:Nat} (hn:W+1≤n) (a:List Int) (k:Int) (hk:0≤k) (h:k+cnt qda a≤maxLen):qmf (DD X n) (mkT qda k a).2 k=some (((mkT qda k a).1,()),()):=by
 rw[q1h];rw[qbqg] at h;exact qbse hX hn a k hk h
theorem qbp9 {R:Type} {t t2:Ty} {m m':Mk} {l:List AV} {r:Nat} {p:Path} {s:Nat} {v:AV} {a b:Option R} (h:l=[.brw r p s,v]):br (qgy [.mutv t m m',.val t2] l) a b=a:=by
 subst h
 simp[qgy,qck,qi9,br]
end Go.G

namespace Go.G
open Go Go.V
def Fit (b:Nat):(t:Ty)→t.den→Prop
 | .sl t,xs=>xs.length≤b∧∀ x∈xs,Fit b t x
 | .pair s t,x=>Fit b s x.1∧Fit b t x.2
 | _,_=>True
theorem Fit.mono {b c:Nat} (h:b≤c):∀ {t:Ty} {x:t.den},Fit b t x→Fit c t x
 | .unit,_,_=>trivial
 | .int _,_,_=>trivial
 | .bool,_,_=>trivial
 | .str,_,_=>trivial
 | .sl t,xs,f=>⟨Nat.le_trans f.1 h,fun x hx=>(f.2 x hx).mono h⟩
 | .pair s t,x,f=>⟨f.1.mono h,f.2.mono h⟩
theorem qsw {b:Nat}:∀ {t:Ty} {x:t.den},tot t x≤b→Fit b t x
 | .unit,_,_=>trivial
 | .int _,_,_=>trivial
 | .bool,_,_=>trivial
 | .str,_,_=>trivial
 | .sl t,xs,f=>by
  have h:=qod (t:=t) xs
  refine ⟨by omega,fun x hx=>qsw ?_⟩
  have:=q4n (t:=t) hx
  omega
 | .pair s t,x,f=>by
  have h:tot (.pair s t) x=tot s x.1+tot t x.2:=rfl
  exact ⟨qsw (by omega),qsw (by omega)⟩
def qiw:Ty→Nat
 | .unit=>0
 | .int _=>1
 | .bool=>1
 | .str=>1
 | .sl t=>qiw t
 | .pair a b=>qiw a+qiw b
theorem qbb4:∀ (t:Ty) (x:t.den),cnt t x≤qiw t * (1+tot t x)
 | .unit,_=>by simp[cnt]
 | .int _,_=>by simp[cnt,qiw,tot]
 | .bool,_=>by simp[cnt,qiw,tot]
 | .str,x=>by simp only[cnt,qiw];omega
 | .sl t,xs=>by
  rw[qbuk,qod]
  simp only[qiw]
  have key:∀ xs:List t.den,(xs.map (cnt t)).sum≤qiw t * (xs.length+(xs.map (tot t)).sum):=by
   intro xs
   induction xs with
   | nil=>simp
   | cons x l ih=>
    have h:=qbb4 t x
    simp only[List.map_cons,List.sum_cons,List.length_cons]
    have e:qiw t * (l.length+1+(tot t x+(l.map (tot t)).sum))=qiw t * (1+tot t x)+qiw t * (l.length+(l.map (tot t)).sum):=by
     rw[←Nat.mul_add];congr 1;omega
    omega
  have:=key xs
  have e:qiw t * (1+(xs.length+(xs.map (tot t)).sum))=qiw t+qiw t * (xs.length+(xs.map (tot t)).sum):=by
   rw[Nat.mul_add];omega
  omega
 | .pair a b,x=>by
  have h1:=qbb4 a x.1
  have h2:=qbb4 b x.2
  have e1:cnt (.pair a b) x=cnt a x.1+cnt b x.2:=rfl
  have e2:tot (.pair a b) x=tot a x.1+tot b x.2:=rfl
  rw[e1,e2]
  simp only[qiw]
  have h3:qiw a * (1+tot a x.1)≤qiw a * (1+(tot a x.1+tot b x.2)):=Nat.mul_le_mul_left _ (by omega)
  have h4:qiw b * (1+tot b x.2)≤qiw b * (1+(tot a x.1+tot b x.2)):=Nat.mul_le_mul_left _ (by omega)
  rw[Nat.add_mul]
  omega
end Go.G

namespace Go.G
open Go Go.V
abbrev qu:Ty:=.pair (.int .i64) (.pair (.int .i64) (.pair (.str) (.unit)))
abbrev qe:=Int×Int×ByteArray×Unit
theorem qbtm {X:Ext} (hX:XOk X) {n:Nat} (hn:W+2≤n) (a b:qe) (hb:Fit maxLen qu b):qs9 (DD X n) a b=some ((decide (a=b),()),()):=by
 obtain ⟨n,rfl⟩:∃ k,n=k+1:=⟨n - 1,by omega⟩
 rw[qbmj hX]
 obtain ⟨a0,a1,a2,⟨⟩⟩:=a
 obtain ⟨b0,b1,b2,⟨⟩⟩:=b
 simp only[Fit] at hb
 have ne:∀ x y:Int,(x != y)=!decide (x=y):=fun x y=>by by_cases h:x=y<;>simp[h]
 simp only[qzn,q8h,qgi,ne]
 by_cases h0:a0=b0<;>by_cases h1:a1=b1<;>by_cases h2:a2=b2<;>simp[h0,h1,h2,br]
theorem qbk1 (D:Den ctx) (n:Nat) (K0:Bool→Option ((Bool×Unit)×Unit)) (K1:Option ((Bool×Unit)×Unit)):∀ (m i:Nat) (a b:List qe),(∀ x y,y∈b→qs9 D x y=some ((decide (x=y),()),()))→
  a.length=b.length→a.length≤maxLen→i≤a.length→a.length - i<m→qh2 D n K0 K1 m a b i=if a.drop i=b.drop i then K1 else K0 false
 | 0,_,_,_,_,_,_,_,h=>by omega
 | m+1,i,a,b,he,hl,hm,hi,hk=>by
  simp only[qh2,qwg]
  have hd:=ql
  by_cases h:i<a.length
  ·rw[qp (by exact_mod_cast h),ix h,br_t,ix (hl ▸ h),br_t,qr (by omega),Int.toNat_natCast,qbj h,qbj (hl ▸ h),he _ _ (List.getElem_mem _),qg,q0 h,q0 (hl ▸ h:i<b.length)]
   by_cases e:a[i]=b[i]'(hl ▸ h)
   ·simp only[e,decide_true,Bool.not_true,br_f,List.cons.injEq,true_and]
    exact qbk1 D n K0 K1 m (i+1) a b he hl hm (by omega) (by omega)
   ·simp only[e,decide_false,Bool.not_false,br_t,List.cons.injEq,false_and,if_false]
  ·rw[qo (by exact_mod_cast h),qbb h,qbb (hl ▸ h)];rfl
theorem qbju {X:Ext} (hX:XOk X) {n:Nat} (hn:W+3≤n) (a b:List qe) (hb:Fit maxLen (.sl qu) b):qmy (DD X n) a b=some ((decide (a=b),()),()):=by
 obtain ⟨n,rfl⟩:∃ k,n=k+1:=⟨n - 1,by omega⟩
 have hb1:b.length≤maxLen:=hb.1
 rw[qbi3 hX]
 simp only[qyg,qxi,qtv]
 by_cases h:a.length=b.length
 ·have e:((a.length:Int) != (b.length:Int))=false:=by simp[h]
  rw[e,br_f]
  have:=qbk1 (DD X n) n (fun v=>ql8 (DD X n) n v) (qmg (DD X n) n) n 0 a b (fun x y hy=>qbtm hX (by omega) x y (hb.2 y hy)) h (by omega) (by omega) (by have:=qbn;have:=ql;omega)
  rw[show ((0:Nat):Int)=0 from rfl] at this
  rw[this]
  simp only[List.drop_zero,ql8,qmg]
  by_cases h:a=b<;>simp[h]
 ·have e:((a.length:Int) != (b.length:Int))=true:=by simp;omega
  have:a≠b:=fun h2=>h (by rw[h2])
  rw[e,br_t];simp[this]
theorem qbu1 {X:Ext} (hX:XOk X) {n:Nat} (hn:W+2≤n) (a:qe) (ha:Fit qbm qu a):qs8 (DD X n) a=some ((a,()),()):=by
 obtain ⟨n,rfl⟩:∃ k,n=k+1:=⟨n - 1,by omega⟩
 rw[qbk8 hX]
 rfl
theorem qbh1 (D:Den ctx) (n:Nat) (K:List qe→Option ((List qe×Unit)×Unit)):∀ (m i:Nat) (a c:List qe),(∀ x∈a,qs8 D x=some ((x,()),()))→a.length=c.length→a.length≤maxLen→i≤a.length→a.length - i<m→
  qio D n K m a i c=K (c.take i++a.drop i)
 | 0,_,_,_,_,_,_,_,h=>by omega
 | m+1,i,a,c,he,hl,hm,hi,hk=>by
  simp only[qio,qwo]
  have hd:=ql
  by_cases h:i<a.length
  ·rw[qp (by exact_mod_cast h),ix h,br_t,Int.toNat_natCast,qbj h,he _ (List.getElem_mem _),qg,ix (hl ▸ h),br_t,qr (by omega)]
   have e:=qbh1 D n K m (i+1) a (c.set i a[i]) he (by simp[hl]) hm (by omega) (by omega)
   rw[q0 h]
   refine Eq.trans e ?_
   rw[qnf (hl ▸ h),List.append_assoc];rfl
  ·rw[qo (by exact_mod_cast h),qbb h,List.take_of_length_le (by omega),List.append_nil]
theorem qbh4 {X:Ext} (hX:XOk X) {n:Nat} (hn:W+3≤n) (a:List qe) (ha:Fit qbm (.sl qu) a):qe4 (DD X n) a=some ((a,()),()):=by
 obtain ⟨n,rfl⟩:∃ k,n=k+1:=⟨n - 1,by omega⟩
 have ha1:a.length≤qbm:=ha.1
 rw[qbjo hX]
 simp only[qx1,qyn,qur]
 rw[q7v ha1,br_t]
 have h1:=qdo
 have:=qbh1 (DD X n) n (fun v=>qme (DD X n) n v) n 0 a (List.replicate (Int.toNat (a.length:Int)) (0,(0,(ByteArray.empty,())))) (fun x hx=>qbu1 hX (by omega) x (ha.2 x hx)) (by simp) (by rw[ql];omega) (by omega) (by have:=qbn;omega)
 rw[show ((0:Nat):Int)=0 from rfl] at this
 rw[this]
 simp only[List.take_zero,List.drop_zero,List.nil_append,qme]
theorem qbti {X:Ext} (hX:XOk X) {n:Nat} (hn:W+2≤n) (a:qe) (k:Int) (ha:Wf qu a) (hk:0≤k∧k≤maxLen):qsu (DD X n) a k=some ((left qu a k,()),()):=by
 obtain ⟨n,rfl⟩:∃ k,n=k+1:=⟨n - 1,by omega⟩
 have hd:=ql
 simp only[Wf] at ha
 have w1:a.2.2.1.size≤maxLen:=ha.2.2.1
 have ht:tot qu a=0+(0+(a.2.2.1.size+(0))):=rfl
 rw[qbmb hX]
 simp only[q0q,q8p]
 rw[qce (by omega) (by omega)]
 by_cases h:k - (a.2.2.1.size:Int)<0
 ·rw[qp h,qec (by omega)]
 ·rw[qo h,qd2 (by omega)]
  try (congr 3<;>omega)
theorem qbi2 (D:Den ctx) (n:Nat) (K0:Int→Int→Option ((Int×Unit)×Unit)) (K1:Int→Option ((Int×Unit)×Unit)) (hK:∀ k,K1 k=some ((k,()),())) (hK0:∀ k,K0 k (-1)=some ((-1,()),())):∀ (m i:Nat) (k:Int) (a:List qe),
  (∀ x∈a,∀ k:Int,0≤k→k≤maxLen→qsu D x k=some ((left qu x k,()),()))→a.length≤maxLen→i≤a.length→a.length - i<m→0≤k→k≤maxLen→
  qic D n K0 K1 m a k i=some ((if (((a.drop i).map (tot qu)).sum:Int)≤k then k - ((a.drop i).map (tot qu)).sum else -1,()),())
 | 0,_,_,_,_,_,_,h,_,_=>by omega
 | m+1,i,k,a,he,hm,hi,hf,h0,h1=>by
  simp only[qic,qvj]
  have hd:=ql
  by_cases h:i<a.length
  ·rw[qp (by exact_mod_cast h),ix h,br_t,Int.toNat_natCast,qbj h,he _ (List.getElem_mem _) k h0 h1,qg,qr (by omega),qi1 h]
   by_cases h2:left qu a[i] k<0
   ·rw[qp h2,hK0,if_neg]
    intro h3
    rw[qd2 (by omega)] at h2
    omega
   ·obtain ⟨e1,e2⟩:=qff h2 h0
    rw[qo h2,e1];dsimp only
    rw[qbi2 D n K0 K1 hK hK0 m (i+1) _ a he hm (by omega) (by omega) (by omega) (by omega)]
    congr 3
    push_cast
    split<;>split<;>omega
  ·rw[qo (by exact_mod_cast h),qbb h,hK]
   simp[h0]
theorem qbio {X:Ext} (hX:XOk X) {n:Nat} (hn:W+3≤n) (a:List qe) (k:Int) (ha:Wf (.sl qu) a) (hk:0≤k∧k≤maxLen):qmo (DD X n) a k=some ((left (.sl qu) a k,()),()):=by
 obtain ⟨n,rfl⟩:∃ k,n=k+1:=⟨n - 1,by omega⟩
 have hd:=ql
 have w1:a.length≤maxLen:=ha.1
 have hts:=qod (t:=qu) a
 rw[qbjq hX]
 simp only[qxb,qxx,qtw]
 rw[qce (by omega) (by omega)]
 by_cases h:k - (a.length:Int)<0
 ·rw[qp h,qec (by omega)]
 ·rw[qo h]
  have:=qbi2 (DD X n) n (fun v w=>qrw (DD X n) n v w) (fun v=>qr6 (DD X n) n v) (fun _=>rfl) (fun _=>rfl) n 0 (k - a.length) a
   (fun x hx k h0 h1=>qbti hX (by omega) x k (ha.2 x hx) ⟨h0,h1⟩) w1 (by omega) (by have:=qbn;omega) (by omega) (by omega)
  rw[show ((0:Nat):Int)=0 from rfl] at this
  rw[this,List.drop_zero]
  by_cases h2:(tot (.sl qu) a:Int)≤k
  ·rw[qd2 h2,if_pos (by omega)];congr 3;omega
  ·rw[qec h2,if_neg (by omega)]
theorem qbbz {X:Ext} (hX:XOk X) (N n:Nat) (hN:W+1≤N) (K:Int→List qe→Option ((Int×Unit)×List qe×Unit)):∀ (m i:Nat) (k:Int) (a:List qe),a.length≤maxLen→i≤a.length→a.length - i<m→0≤k→k+((a.drop i).map (cnt qu)).sum≤maxLen→
  qf5 (DD X N) n K m k i a=K (mkL (mkT qu) k (a.drop i)).1 (a.take i++(mkL (mkT qu) k (a.drop i)).2)
 | 0,_,_,_,_,_,h,_,_=>by omega
 | m+1,i,k,a,hm,hi,hf,hk,hkl=>by
  simp only[qf5,qsa]
  have hd:=ql
  by_cases h:i<a.length
  ·rw[qi1 h] at hkl
   have hc:cnt qu a[i]=1+1+1:=by first | rfl | (simp only[cnt];omega)
   have t2:=qta hX hN (k+1+1) (by omega)
   have w0:IntKind.wrap IntKind.i64 (k+1)=k+1:=qce (by omega) (by omega)
   have w1:IntKind.wrap IntKind.i64 (k+1+1)=k+1+1:=qce (by omega) (by omega)
   have w2:IntKind.wrap IntKind.i64 (k+1+1+1)=k+1+1+1:=qce (by omega) (by omega)
   have wi:IntKind.wrap IntKind.i64 ((i:Int)+1)=((i+1:Nat):Int):=qr (by omega)
   rw[qp (by exact_mod_cast h)]
   simp only[ix h,br_t,t2,w0,w1,w2,wi,qg,List.length_set,Int.toNat_natCast,q3a h,qbj h,List.set_set]
   have e:=qbbz hX N n hN K m (i+1) (k+1+1+1) (a.set i (k,k+1,q4a (k+1+1),())) (by simpa using hm) (by simp;omega) (by simp;omega) (by omega) (by rw[List.drop_set_of_lt (by omega)];omega)
   refine Eq.trans e ?_
   rw[qnf h,q0 h,List.drop_set_of_lt (by omega),List.append_assoc]
   rfl
  ·rw[qo (by exact_mod_cast h),qbb h,List.take_of_length_le (by omega)]
   simp only[mkL,List.append_nil]
theorem qbcy {X:Ext} (hX:XOk X) {n:Nat} (hn:W+2≤n) (a:List qe) (k:Int) (ha:a.length≤maxLen) (hk:0≤k) (h:k+cnt (.sl qu) a≤maxLen) :
  qn0 (DD X n) a k=some (((mkT (.sl qu) k a).1,()),((mkT (.sl qu) k a).2,())):=by
 obtain ⟨n,rfl⟩:∃ k,n=k+1:=⟨n - 1,by omega⟩
 have hd:=ql
 rw[qbek hX]
 simp only[qt7,qui,qqm]
 have:=qbbz hX n n (by omega) (fun v w=>qjw (DD X n) n v w) n 0 k a ha (by omega) (by have:=qbn;omega) hk (by rw[List.drop_zero];exact h)
 rw[show ((0:Nat):Int)=0 from rfl] at this
 rw[this]
 simp only[List.take_zero,List.drop_zero,List.nil_append,qjw,mkT]
theorem qbbe {X:Ext} (hX:XOk X) (N n:Nat) (hN:W+1≤N) (K0:Int→Int→Option ((Int×Unit)×Unit)) (K1:Int→Option ((Int×Unit)×Unit)):∀ (m i:Nat) (k:Int) (a l:List qe),a.length≤maxLen→i≤a.length→a.length - i<m→0≤k→k+(l.map (cnt qu)).sum≤maxLen→
  a.drop i=(mkL (mkT qu) k l).2→qgg (DD X N) n K0 K1 m a k i=K1 (mkL (mkT qu) k l).1
 | 0,_,_,_,_,_,_,h,_,_,_=>by omega
 | m+1,i,k,a,l,hm,hi,hf,hk,hkl,hl=>by
  simp only[qgg,qsq]
  have hd:=ql
  by_cases h:i<a.length
  ·rw[q0 h] at hl
   cases l with
   | nil=>simp[mkL] at hl;omega
   | cons x l=>
    simp only[mkL,List.cons.injEq] at hl
    obtain ⟨hx,hl⟩:=hl
    simp only[List.map_cons,List.sum_cons] at hkl
    have hc:cnt qu x=1+1+1:=by first | rfl | (simp only[cnt];omega)
    have t2:=qta hX hN (k+1+1) (by omega)
    have w0:IntKind.wrap IntKind.i64 (k+1)=k+1:=qce (by omega) (by omega)
    have w1:IntKind.wrap IntKind.i64 (k+1+1)=k+1+1:=qce (by omega) (by omega)
    have w2:IntKind.wrap IntKind.i64 (k+1+1+1)=k+1+1+1:=qce (by omega) (by omega)
    have hx0:a[i].1=k:=by rw[hx];rfl
    have hx1:a[i].2.1=k+1:=by rw[hx];rfl
    have hx2:a[i].2.2.1=q4a (k+1+1):=by rw[hx];rfl
    have wi:IntKind.wrap IntKind.i64 ((i:Int)+1)=((i+1:Nat):Int):=qr (by omega)
    rw[qp (by exact_mod_cast h)]
    simp only[ix h,br_t,Int.toNat_natCast,qbj h,hx0,hx1,hx2,t2,w0,w1,w2,wi,qg,qgi,decide_true,Bool.not_true,br_f,bne_self_eq_false]
    exact qbbe hX N n hN K0 K1 m (i+1) (mkT qu k x).1 a l hm (by omega) (by omega) (by rw[qdd];omega) (by rw[qdd];omega) hl
  ·rw[qo (by exact_mod_cast h)]
   rw[qbb h] at hl
   cases l with
   | nil=>rfl
   | cons x l=>simp[mkL] at hl
theorem qbpz {X:Ext} (hX:XOk X) {n:Nat} (hn:W+2≤n) (a:List qe) (k:Int) (ha:a.length≤maxLen) (hk:0≤k) (h:k+cnt (.sl qu) a≤maxLen) :
  qt8 (DD X n) (mkT (.sl qu) k a).2 k=some (((mkT (.sl qu) k a).1,()),()):=by
 obtain ⟨n,rfl⟩:∃ k,n=k+1:=⟨n - 1,by omega⟩
 have hd:=ql
 rw[qbeo hX]
 simp only[quh,quk,qqd]
 have hml:(mkT (.sl qu) k a).2.length=a.length:=q4o k a
 have:=qbbe hX n n (by omega) (fun v w=>qo3 (DD X n) n v w) (fun v=>qju (DD X n) n v) n 0 k (mkT (.sl qu) k a).2 a (by omega) (by omega) (by have:=qbn;omega) hk h (by simp[mkT])
 rw[show ((0:Nat):Int)=0 from rfl] at this
 rw[this]
 simp only[qju,mkT]
abbrev ColT:Ty:=.pair (.str) (.pair (.int .i64) (.pair (.bool) (.unit)))
abbrev Col:=ByteArray×Int×Bool×Unit
theorem qbxd {X:Ext} (hX:XOk X) {n:Nat} (hn:W+2≤n) (a b:Col) (hb:Fit maxLen ColT b):qyv (DD X n) a b=some ((decide (a=b),()),()):=by
 obtain ⟨n,rfl⟩:∃ k,n=k+1:=⟨n - 1,by omega⟩
 rw[qbp7 hX]
 obtain ⟨a0,a1,a2,⟨⟩⟩:=a
 obtain ⟨b0,b1,b2,⟨⟩⟩:=b
 simp only[Fit] at hb
 have ne:∀ x y:Int,(x != y)=!decide (x=y):=fun x y=>by by_cases h:x=y<;>simp[h]
 simp only[q5y,qbcm,qgi,ne]
 by_cases h0:a0=b0<;>by_cases h1:a1=b1<;>by_cases h2:a2=b2<;>simp[h0,h1,h2,br]
theorem qbpi (D:Den ctx) (n:Nat) (K0:Bool→Option ((Bool×Unit)×Unit)) (K1:Option ((Bool×Unit)×Unit)):∀ (m i:Nat) (a b:List Col),(∀ x y,y∈b→qyv D x y=some ((decide (x=y),()),()))→
  a.length=b.length→a.length≤maxLen→i≤a.length→a.length - i<m→qko D n K0 K1 m a b i=if a.drop i=b.drop i then K1 else K0 false
 | 0,_,_,_,_,_,_,_,h=>by omega
 | m+1,i,a,b,he,hl,hm,hi,hk=>by
  simp only[qko,qz9]
  have hd:=ql
  by_cases h:i<a.length
  ·rw[qp (by exact_mod_cast h),ix h,br_t,ix (hl ▸ h),br_t,qr (by omega),Int.toNat_natCast,qbj h,qbj (hl ▸ h),he _ _ (List.getElem_mem _),qg,q0 h,q0 (hl ▸ h:i<b.length)]
   by_cases e:a[i]=b[i]'(hl ▸ h)
   ·simp only[e,decide_true,Bool.not_true,br_f,List.cons.injEq,true_and]
    exact qbpi D n K0 K1 m (i+1) a b he hl hm (by omega) (by omega)
   ·simp only[e,decide_false,Bool.not_false,br_t,List.cons.injEq,false_and,if_false]
  ·rw[qo (by exact_mod_cast h),qbb h,qbb (hl ▸ h)];rfl
theorem qbv2 {X:Ext} (hX:XOk X) {n:Nat} (hn:W+3≤n) (a b:List Col) (hb:Fit maxLen (.sl ColT) b):q25 (DD X n) a b=some ((decide (a=b),()),()):=by
 obtain ⟨n,rfl⟩:∃ k,n=k+1:=⟨n - 1,by omega⟩
 have hb1:b.length≤maxLen:=hb.1
 rw[qbnp hX]
 simp only[q2t,q2x,qyc]
 by_cases h:a.length=b.length
 ·have e:((a.length:Int) != (b.length:Int))=false:=by simp[h]
  rw[e,br_f]
  have:=qbpi (DD X n) n (fun v=>qol (DD X n) n v) (qpc (DD X n) n) n 0 a b (fun x y hy=>qbxd hX (by omega) x y (hb.2 y hy)) h (by omega) (by omega) (by have:=qbn;have:=ql;omega)
  rw[show ((0:Nat):Int)=0 from rfl] at this
  rw[this]
  simp only[List.drop_zero,qol,qpc]
  by_cases h:a=b<;>simp[h]
 ·have e:((a.length:Int) != (b.length:Int))=true:=by simp;omega
  have:a≠b:=fun h2=>h (by rw[h2])
  rw[e,br_t];simp[this]
theorem qbws {X:Ext} (hX:XOk X) {n:Nat} (hn:W+2≤n) (a:Col) (ha:Fit qbm ColT a):qyk (DD X n) a=some ((a,()),()):=by
 obtain ⟨n,rfl⟩:∃ k,n=k+1:=⟨n - 1,by omega⟩
 rw[qbpd hX]
 rfl
theorem qbop (D:Den ctx) (n:Nat) (K:List Col→Option ((List Col×Unit)×Unit)):∀ (m i:Nat) (a c:List Col),(∀ x∈a,qyk D x=some ((x,()),()))→a.length=c.length→a.length≤maxLen→i≤a.length→a.length - i<m→
  qki D n K m a i c=K (c.take i++a.drop i)
 | 0,_,_,_,_,_,_,_,h=>by omega
 | m+1,i,a,c,he,hl,hm,hi,hk=>by
  simp only[qki,q0x]
  have hd:=ql
  by_cases h:i<a.length
  ·rw[qp (by exact_mod_cast h),ix h,br_t,Int.toNat_natCast,qbj h,he _ (List.getElem_mem _),qg,ix (hl ▸ h),br_t,qr (by omega)]
   have e:=qbop D n K m (i+1) a (c.set i a[i]) he (by simp[hl]) hm (by omega) (by omega)
   rw[q0 h]
   refine Eq.trans e ?_
   rw[qnf (hl ▸ h),List.append_assoc];rfl
  ·rw[qo (by exact_mod_cast h),qbb h,List.take_of_length_le (by omega),List.append_nil]
theorem qbu9 {X:Ext} (hX:XOk X) {n:Nat} (hn:W+3≤n) (a:List Col) (ha:Fit qbm (.sl ColT) a):q2q (DD X n) a=some ((a,()),()):=by
 obtain ⟨n,rfl⟩:∃ k,n=k+1:=⟨n - 1,by omega⟩
 have ha1:a.length≤qbm:=ha.1
 rw[qbnw hX]
 simp only[q2g,q2f,qw2]
 rw[q7v ha1,br_t]
 have h1:=qdo
 have:=qbop (DD X n) n (fun v=>qph (DD X n) n v) n 0 a (List.replicate (Int.toNat (a.length:Int)) (ByteArray.empty,(0,(false,())))) (fun x hx=>qbws hX (by omega) x (ha.2 x hx)) (by simp) (by rw[ql];omega) (by omega) (by have:=qbn;omega)
 rw[show ((0:Nat):Int)=0 from rfl] at this
 rw[this]
 simp only[List.take_zero,List.drop_zero,List.nil_append,qph]
theorem qbxt {X:Ext} (hX:XOk X) {n:Nat} (hn:W+2≤n) (a:Col) (k:Int) (ha:Wf ColT a) (hk:0≤k∧k≤maxLen):qw1 (DD X n) a k=some ((left ColT a k,()),()):=by
 obtain ⟨n,rfl⟩:∃ k,n=k+1:=⟨n - 1,by omega⟩
 have hd:=ql
 simp only[Wf] at ha
 have w1:a.1.size≤maxLen:=ha.1
 have ht:tot ColT a=a.1.size+(0+(0+(0))):=rfl
 rw[qboy hX]
 simp only[q48,qbbu]
 rw[qce (by omega) (by omega)]
 by_cases h:k - (a.1.size:Int)<0
 ·rw[qp h,qec (by omega)]
 ·rw[qo h,qd2 (by omega)]
  try (congr 3<;>omega)
theorem qbo8 (D:Den ctx) (n:Nat) (K0:Int→Int→Option ((Int×Unit)×Unit)) (K1:Int→Option ((Int×Unit)×Unit)) (hK:∀ k,K1 k=some ((k,()),())) (hK0:∀ k,K0 k (-1)=some ((-1,()),())):∀ (m i:Nat) (k:Int) (a:List Col),
  (∀ x∈a,∀ k:Int,0≤k→k≤maxLen→qw1 D x k=some ((left ColT x k,()),()))→a.length≤maxLen→i≤a.length→a.length - i<m→0≤k→k≤maxLen→
  qkg D n K0 K1 m a k i=some ((if (((a.drop i).map (tot ColT)).sum:Int)≤k then k - ((a.drop i).map (tot ColT)).sum else -1,()),())
 | 0,_,_,_,_,_,_,h,_,_=>by omega
 | m+1,i,k,a,he,hm,hi,hf,h0,h1=>by
  simp only[qkg,q0c]
  have hd:=ql
  by_cases h:i<a.length
  ·rw[qp (by exact_mod_cast h),ix h,br_t,Int.toNat_natCast,qbj h,he _ (List.getElem_mem _) k h0 h1,qg,qr (by omega),qi1 h]
   by_cases h2:left ColT a[i] k<0
   ·rw[qp h2,hK0,if_neg]
    intro h3
    rw[qd2 (by omega)] at h2
    omega
   ·obtain ⟨e1,e2⟩:=qff h2 h0
    rw[qo h2,e1];dsimp only
    rw[qbo8 D n K0 K1 hK hK0 m (i+1) _ a he hm (by omega) (by omega) (by omega) (by omega)]
    congr 3
    push_cast
    split<;>split<;>omega
  ·rw[qo (by exact_mod_cast h),qbb h,hK]
   simp[h0]
theorem qbu8 {X:Ext} (hX:XOk X) {n:Nat} (hn:W+3≤n) (a:List Col) (k:Int) (ha:Wf (.sl ColT) a) (hk:0≤k∧k≤maxLen):q2o (DD X n) a k=some ((left (.sl ColT) a k,()),()):=by
 obtain ⟨n,rfl⟩:∃ k,n=k+1:=⟨n - 1,by omega⟩
 have hd:=ql
 have w1:a.length≤maxLen:=ha.1
 have hts:=qod (t:=ColT) a
 rw[qbn2 hX]
 simp only[q2i,q20,qw9]
 rw[qce (by omega) (by omega)]
 by_cases h:k - (a.length:Int)<0
 ·rw[qp h,qec (by omega)]
 ·rw[qo h]
  have:=qbo8 (DD X n) n (fun v w=>qvy (DD X n) n v w) (fun v=>qve (DD X n) n v) (fun _=>rfl) (fun _=>rfl) n 0 (k - a.length) a
   (fun x hx k h0 h1=>qbxt hX (by omega) x k (ha.2 x hx) ⟨h0,h1⟩) w1 (by omega) (by have:=qbn;omega) (by omega) (by omega)
  rw[show ((0:Nat):Int)=0 from rfl] at this
  rw[this,List.drop_zero]
  by_cases h2:(tot (.sl ColT) a:Int)≤k
  ·rw[qd2 h2,if_pos (by omega)];congr 3;omega
  ·rw[qec h2,if_neg (by omega)]
theorem qbiw {X:Ext} (hX:XOk X) (N n:Nat) (hN:W+1≤N) (K:Int→List Col→Option ((Int×Unit)×List Col×Unit)):∀ (m i:Nat) (k:Int) (a:List Col),a.length≤maxLen→i≤a.length→a.length - i<m→0≤k→k+((a.drop i).map (cnt ColT)).sum≤maxLen→
  qik (DD X N) n K m k i a=K (mkL (mkT ColT) k (a.drop i)).1 (a.take i++(mkL (mkT ColT) k (a.drop i)).2)
 | 0,_,_,_,_,_,h,_,_=>by omega
 | m+1,i,k,a,hm,hi,hf,hk,hkl=>by
  simp only[qik,qwn]
  have hd:=ql
  by_cases h:i<a.length
  ·rw[qi1 h] at hkl
   have hc:cnt ColT a[i]=1+1+1:=by first | rfl | (simp only[cnt];omega)
   have t0:=qta hX hN (k) (by omega)
   have w0:IntKind.wrap IntKind.i64 (k+1)=k+1:=qce (by omega) (by omega)
   have w1:IntKind.wrap IntKind.i64 (k+1+1)=k+1+1:=qce (by omega) (by omega)
   have w2:IntKind.wrap IntKind.i64 (k+1+1+1)=k+1+1+1:=qce (by omega) (by omega)
   have wi:IntKind.wrap IntKind.i64 ((i:Int)+1)=((i+1:Nat):Int):=qr (by omega)
   rw[qp (by exact_mod_cast h)]
   simp only[ix h,br_t,t0,w0,w1,w2,wi,qg,List.length_set,Int.toNat_natCast,q3a h,qbj h,List.set_set]
   have e:=qbiw hX N n hN K m (i+1) (k+1+1+1) (a.set i (q4a (k),k+1,decide (Int.tmod (k+1+1) 3=0),())) (by simpa using hm) (by simp;omega) (by simp;omega) (by omega) (by rw[List.drop_set_of_lt (by omega)];omega)
   refine Eq.trans e ?_
   rw[qnf h,q0 h,List.drop_set_of_lt (by omega),List.append_assoc]
   rfl
  ·rw[qo (by exact_mod_cast h),qbb h,List.take_of_length_le (by omega)]
   simp only[mkL,List.append_nil]
theorem qbs2 {X:Ext} (hX:XOk X) {n:Nat} (hn:W+2≤n) (a:List Col) (k:Int) (ha:a.length≤maxLen) (hk:0≤k) (h:k+cnt (.sl ColT) a≤maxLen) :
  qxl (DD X n) a k=some (((mkT (.sl ColT) k a).1,()),((mkT (.sl ColT) k a).2,())):=by
 obtain ⟨n,rfl⟩:∃ k,n=k+1:=⟨n - 1,by omega⟩
 have hd:=ql
 rw[qbif hX]
 simp only[qyr,qyw,qtp]
 have:=qbiw hX n n (by omega) (fun v w=>qm9 (DD X n) n v w) n 0 k a ha (by omega) (by have:=qbn;omega) hk (by rw[List.drop_zero];exact h)
 rw[show ((0:Nat):Int)=0 from rfl] at this
 rw[this]
 simp only[List.take_zero,List.drop_zero,List.nil_append,qm9,mkT]
theorem qbkm {X:Ext} (hX:XOk X) (N n:Nat) (hN:W+1≤N) (K0:Int→Int→Option ((Int×Unit)×Unit)) (K1:Int→Option ((Int×Unit)×Unit)):∀ (m i:Nat) (k:Int) (a l:List Col),a.length≤maxLen→i≤a.length→a.length - i<m→0≤k→k+(l.map (cnt ColT)).sum≤maxLen→
  a.drop i=(mkL (mkT ColT) k l).2→qil (DD X N) n K0 K1 m a k i=K1 (mkL (mkT ColT) k l).1
 | 0,_,_,_,_,_,_,h,_,_,_=>by omega
 | m+1,i,k,a,l,hm,hi,hf,hk,hkl,hl=>by
  simp only[qil,qwk]
  have hd:=ql
  by_cases h:i<a.length
  ·rw[q0 h] at hl
   cases l with
   | nil=>simp[mkL] at hl;omega
   | cons x l=>
    simp only[mkL,List.cons.injEq] at hl
    obtain ⟨hx,hl⟩:=hl
    simp only[List.map_cons,List.sum_cons] at hkl
    have hc:cnt ColT x=1+1+1:=by first | rfl | (simp only[cnt];omega)
    have t0:=qta hX hN (k) (by omega)
    have w0:IntKind.wrap IntKind.i64 (k+1)=k+1:=qce (by omega) (by omega)
    have w1:IntKind.wrap IntKind.i64 (k+1+1)=k+1+1:=qce (by omega) (by omega)
    have w2:IntKind.wrap IntKind.i64 (k+1+1+1)=k+1+1+1:=qce (by omega) (by omega)
    have hx0:a[i].1=q4a (k):=by rw[hx];rfl
    have hx1:a[i].2.1=k+1:=by rw[hx];rfl
    have hx2:a[i].2.2.1=decide (Int.tmod (k+1+1) 3=0):=by rw[hx];rfl
    have wi:IntKind.wrap IntKind.i64 ((i:Int)+1)=((i+1:Nat):Int):=qr (by omega)
    rw[qp (by exact_mod_cast h)]
    simp only[ix h,br_t,Int.toNat_natCast,qbj h,hx0,hx1,hx2,t0,w0,w1,w2,wi,qg,qgi,decide_true,Bool.not_true,br_f,bne_self_eq_false]
    exact qbkm hX N n hN K0 K1 m (i+1) (mkT ColT k x).1 a l hm (by omega) (by omega) (by rw[qdd];omega) (by rw[qdd];omega) hl
  ·rw[qo (by exact_mod_cast h)]
   rw[qbb h] at hl
   cases l with
   | nil=>rfl
   | cons x l=>simp[mkL] at hl
theorem qbsa {X:Ext} (hX:XOk X) {n:Nat} (hn:W+2≤n) (a:List Col) (k:Int) (ha:a.length≤maxLen) (hk:0≤k) (h:k+cnt (.sl ColT) a≤maxLen) :
  qxh (DD X n) (mkT (.sl ColT) k a).2 k=some (((mkT (.sl ColT) k a).1,()),()):=by
 obtain ⟨n,rfl⟩:∃ k,n=k+1:=⟨n - 1,by omega⟩
 have hd:=ql
 rw[qbkv hX]
 simp only[qxn,qx5,que]
 have hml:(mkT (.sl ColT) k a).2.length=a.length:=q4o k a
 have:=qbkm hX n n (by omega) (fun v w=>qse (DD X n) n v w) (fun v=>qlu (DD X n) n v) n 0 k (mkT (.sl ColT) k a).2 a (by omega) (by omega) (by have:=qbn;omega) hk h (by simp[mkT])
 rw[show ((0:Nat):Int)=0 from rfl] at this
 rw[this]
 simp only[qlu,mkT]
abbrev qby:Ty:=.pair (.str) (.pair (.sl (.int .i64)) (.pair (.bool) (.unit)))
abbrev qdl:=ByteArray×List Int×Bool×Unit
theorem qbus {X:Ext} (hX:XOk X) {n:Nat} (hn:W+2≤n) (a b:qdl) (hb:Fit maxLen qby b):qs1 (DD X n) a b=some ((decide (a=b),()),()):=by
 obtain ⟨n,rfl⟩:∃ k,n=k+1:=⟨n - 1,by omega⟩
 rw[qblc hX]
 obtain ⟨a0,a1,a2,⟨⟩⟩:=a
 obtain ⟨b0,b1,b2,⟨⟩⟩:=b
 simp only[Fit] at hb
 have ne:∀ x y:Int,(x != y)=!decide (x=y):=fun x y=>by by_cases h:x=y<;>simp[h]
 simp only[q1c,q74,qgi,ne]
 rw[qbod hX (by omega) _ _ (hb.2.1.1),qg]
 by_cases h0:a0=b0<;>by_cases h1:a1=b1<;>by_cases h2:a2=b2<;>simp[h0,h1,h2,br]
theorem qbj3 (D:Den ctx) (n:Nat) (K0:Bool→Option ((Bool×Unit)×Unit)) (K1:Option ((Bool×Unit)×Unit)):∀ (m i:Nat) (a b:List qdl),(∀ x y,y∈b→qs1 D x y=some ((decide (x=y),()),()))→
  a.length=b.length→a.length≤maxLen→i≤a.length→a.length - i<m→qh6 D n K0 K1 m a b i=if a.drop i=b.drop i then K1 else K0 false
 | 0,_,_,_,_,_,_,_,h=>by omega
 | m+1,i,a,b,he,hl,hm,hi,hk=>by
  simp only[qh6,qvw]
  have hd:=ql
  by_cases h:i<a.length
  ·rw[qp (by exact_mod_cast h),ix h,br_t,ix (hl ▸ h),br_t,qr (by omega),Int.toNat_natCast,qbj h,qbj (hl ▸ h),he _ _ (List.getElem_mem _),qg,q0 h,q0 (hl ▸ h:i<b.length)]
   by_cases e:a[i]=b[i]'(hl ▸ h)
   ·simp only[e,decide_true,Bool.not_true,br_f,List.cons.injEq,true_and]
    exact qbj3 D n K0 K1 m (i+1) a b he hl hm (by omega) (by omega)
   ·simp only[e,decide_false,Bool.not_false,br_t,List.cons.injEq,false_and,if_false]
  ·rw[qo (by exact_mod_cast h),qbb h,qbb (hl ▸ h)];rfl
theorem qbsk {X:Ext} (hX:XOk X) {n:Nat} (hn:W+3≤n) (a b:List qdl) (hb:Fit maxLen (.sl qby) b):qx9 (DD X n) a b=some ((decide (a=b),()),()):=by
 obtain ⟨n,rfl⟩:∃ k,n=k+1:=⟨n - 1,by omega⟩
 have hb1:b.length≤maxLen:=hb.1
 rw[qbie hX]
 simp only[qyl,qwy,qt3]
 by_cases h:a.length=b.length
 ·have e:((a.length:Int) != (b.length:Int))=false:=by simp[h]
  rw[e,br_f]
  have:=qbj3 (DD X n) n (fun v=>qmd (DD X n) n v) (ql7 (DD X n) n) n 0 a b (fun x y hy=>qbus hX (by omega) x y (hb.2 y hy)) h (by omega) (by omega) (by have:=qbn;have:=ql;omega)
  rw[show ((0:Nat):Int)=0 from rfl] at this
  rw[this]
  simp only[List.drop_zero,qmd,ql7]
  by_cases h:a=b<;>simp[h]
 ·have e:((a.length:Int) != (b.length:Int))=true:=by simp;omega
  have:a≠b:=fun h2=>h (by rw[h2])
  rw[e,br_t];simp[this]
theorem qbur {X:Ext} (hX:XOk X) {n:Nat} (hn:W+2≤n) (a:qdl) (ha:Fit qbm qby a):qs6 (DD X n) a=some ((a,()),()):=by
 obtain ⟨n,rfl⟩:∃ k,n=k+1:=⟨n - 1,by omega⟩
 rw[qblv hX]
 simp only[Fit] at ha
 simp only[q0e,q7i]
 rw[qboq hX (by omega) _ ha.2.1.1,qg]
theorem qbjh (D:Den ctx) (n:Nat) (K:List qdl→Option ((List qdl×Unit)×Unit)):∀ (m i:Nat) (a c:List qdl),(∀ x∈a,qs6 D x=some ((x,()),()))→a.length=c.length→a.length≤maxLen→i≤a.length→a.length - i<m→
  qim D n K m a i c=K (c.take i++a.drop i)
 | 0,_,_,_,_,_,_,_,h=>by omega
 | m+1,i,a,c,he,hl,hm,hi,hk=>by
  simp only[qim,qvh]
  have hd:=ql
  by_cases h:i<a.length
  ·rw[qp (by exact_mod_cast h),ix h,br_t,Int.toNat_natCast,qbj h,he _ (List.getElem_mem _),qg,ix (hl ▸ h),br_t,qr (by omega)]
   have e:=qbjh D n K m (i+1) a (c.set i a[i]) he (by simp[hl]) hm (by omega) (by omega)
   rw[q0 h]
   refine Eq.trans e ?_
   rw[qnf (hl ▸ h),List.append_assoc];rfl
  ·rw[qo (by exact_mod_cast h),qbb h,List.take_of_length_le (by omega),List.append_nil]
theorem qbta {X:Ext} (hX:XOk X) {n:Nat} (hn:W+3≤n) (a:List qdl) (ha:Fit qbm (.sl qby) a):qxz (DD X n) a=some ((a,()),()):=by
 obtain ⟨n,rfl⟩:∃ k,n=k+1:=⟨n - 1,by omega⟩
 have ha1:a.length≤qbm:=ha.1
 rw[qbh3 hX]
 simp only[qxf,qyi,qun]
 rw[q7v ha1,br_t]
 have h1:=qdo
 have:=qbjh (DD X n) n (fun v=>qmw (DD X n) n v) n 0 a (List.replicate (Int.toNat (a.length:Int)) (ByteArray.empty,([],(false,())))) (fun x hx=>qbur hX (by omega) x (ha.2 x hx)) (by simp) (by rw[ql];omega) (by omega) (by have:=qbn;omega)
 rw[show ((0:Nat):Int)=0 from rfl] at this
 rw[this]
 simp only[List.take_zero,List.drop_zero,List.nil_append,qmw]
theorem qbux {X:Ext} (hX:XOk X) {n:Nat} (hn:W+2≤n) (a:qdl) (k:Int) (ha:Wf qby a) (hk:0≤k∧k≤maxLen):qs3 (DD X n) a k=some ((left qby a k,()),()):=by
 obtain ⟨n,rfl⟩:∃ k,n=k+1:=⟨n - 1,by omega⟩
 have hd:=ql
 simp only[Wf] at ha
 have w1:a.1.size≤maxLen:=ha.1
 have ht:tot qby a=a.1.size+(tot qda a.2.1+(0+(0))):=rfl
 rw[q5r] at ht
 rw[qbk5 hX]
 simp only[q0f,q7h]
 rw[qce (by omega) (by omega)]
 by_cases h:k - (a.1.size:Int)<0
 ·rw[qp h,qec (by omega)]
 ·have w2:a.2.1.length≤maxLen:=ha.2.1.1
  rw[qo h,qboh hX (by omega) _ _ w2 (by omega),qg]
  have e2:=q5r a.2.1
  by_cases h2:(tot qda a.2.1:Int)≤k - a.1.size
  ·rw[qd2 h2];dsimp only
   rw[qo (by omega),qd2 (by omega)]
   congr 3;omega
  ·rw[qec h2];dsimp only
   rw[qp (by omega),qec (by omega)]
theorem qbhx (D:Den ctx) (n:Nat) (K0:Int→Int→Option ((Int×Unit)×Unit)) (K1:Int→Option ((Int×Unit)×Unit)) (hK:∀ k,K1 k=some ((k,()),())) (hK0:∀ k,K0 k (-1)=some ((-1,()),())):∀ (m i:Nat) (k:Int) (a:List qdl),
  (∀ x∈a,∀ k:Int,0≤k→k≤maxLen→qs3 D x k=some ((left qby x k,()),()))→a.length≤maxLen→i≤a.length→a.length - i<m→0≤k→k≤maxLen→
  qh4 D n K0 K1 m a k i=some ((if (((a.drop i).map (tot qby)).sum:Int)≤k then k - ((a.drop i).map (tot qby)).sum else -1,()),())
 | 0,_,_,_,_,_,_,h,_,_=>by omega
 | m+1,i,k,a,he,hm,hi,hf,h0,h1=>by
  simp only[qh4,qwf]
  have hd:=ql
  by_cases h:i<a.length
  ·rw[qp (by exact_mod_cast h),ix h,br_t,Int.toNat_natCast,qbj h,he _ (List.getElem_mem _) k h0 h1,qg,qr (by omega),qi1 h]
   by_cases h2:left qby a[i] k<0
   ·rw[qp h2,hK0,if_neg]
    intro h3
    rw[qd2 (by omega)] at h2
    omega
   ·obtain ⟨e1,e2⟩:=qff h2 h0
    rw[qo h2,e1];dsimp only
    rw[qbhx D n K0 K1 hK hK0 m (i+1) _ a he hm (by omega) (by omega) (by omega) (by omega)]
    congr 3
    push_cast
    split<;>split<;>omega
  ·rw[qo (by exact_mod_cast h),qbb h,hK]
   simp[h0]
theorem qbsh {X:Ext} (hX:XOk X) {n:Nat} (hn:W+3≤n) (a:List qdl) (k:Int) (ha:Wf (.sl qby) a) (hk:0≤k∧k≤maxLen):qx0 (DD X n) a k=some ((left (.sl qby) a k,()),()):=by
 obtain ⟨n,rfl⟩:∃ k,n=k+1:=⟨n - 1,by omega⟩
 have hd:=ql
 have w1:a.length≤maxLen:=ha.1
 have hts:=qod (t:=qby) a
 rw[qbh6 hX]
 simp only[qw0,qys,qtu]
 rw[qce (by omega) (by omega)]
 by_cases h:k - (a.length:Int)<0
 ·rw[qp h,qec (by omega)]
 ·rw[qo h]
  have:=qbhx (DD X n) n (fun v w=>qso (DD X n) n v w) (fun v=>qrt (DD X n) n v) (fun _=>rfl) (fun _=>rfl) n 0 (k - a.length) a
   (fun x hx k h0 h1=>qbux hX (by omega) x k (ha.2 x hx) ⟨h0,h1⟩) w1 (by omega) (by have:=qbn;omega) (by omega) (by omega)
  rw[show ((0:Nat):Int)=0 from rfl] at this
  rw[this,List.drop_zero]
  by_cases h2:(tot (.sl qby) a:Int)≤k
  ·rw[qd2 h2,if_pos (by omega)];congr 3;omega
  ·rw[qec h2,if_neg (by omega)]
theorem qbc7 {X:Ext} (hX:XOk X) (N n:Nat) (hN:W+1≤N) (K:Int→List qdl→Option ((Int×Unit)×List qdl×Unit)):∀ (m i:Nat) (k:Int) (a:List qdl),a.length≤maxLen→i≤a.length→a.length - i<m→0≤k→k+((a.drop i).map (cnt qby)).sum≤maxLen→
  qgc (DD X N) n K m k i a=K (mkL (mkT qby) k (a.drop i)).1 (a.take i++(mkL (mkT qby) k (a.drop i)).2)
 | 0,_,_,_,_,_,h,_,_=>by omega
 | m+1,i,k,a,hm,hi,hf,hk,hkl=>by
  simp only[qgc,qru]
  have hd:=ql
  by_cases h:i<a.length
  ·rw[qi1 h] at hkl
   have hc:cnt qby a[i]=1+cnt qda a[i].2.1+1:=by first | rfl | (simp only[cnt];omega)
   have t0:=qta hX hN (k) (by omega)
   have hc1:=qdd qda (k+1) a[i].2.1
   have t1:=qbi1 hX hN a[i].2.1 (k+1) (by omega) (by omega)
   have w0:IntKind.wrap IntKind.i64 (k+1)=k+1:=qce (by omega) (by omega)
   have w1:IntKind.wrap IntKind.i64 ((mkT qda (k+1) a[i].2.1).1+1)=(mkT qda (k+1) a[i].2.1).1+1:=qce (by omega) (by omega)
   have wi:IntKind.wrap IntKind.i64 ((i:Int)+1)=((i+1:Nat):Int):=qr (by omega)
   rw[qp (by exact_mod_cast h)]
   simp only[ix h,br_t,t0,t1,w0,w1,wi,qg,List.length_set,Int.toNat_natCast,q3a h,qbj h,List.set_set]
   refine Eq.trans (qbp9 rfl) ?_
   have e:=qbc7 hX N n hN K m (i+1) ((mkT qda (k+1) a[i].2.1).1+1) (a.set i (q4a (k),(mkT qda (k+1) a[i].2.1).2,decide (Int.tmod ((mkT qda (k+1) a[i].2.1).1) 3=0),())) (by simpa using hm) (by simp;omega) (by simp;omega) (by omega) (by rw[List.drop_set_of_lt (by omega)];omega)
   refine Eq.trans e ?_
   rw[qnf h,q0 h,List.drop_set_of_lt (by omega),List.append_assoc]
   rfl
  ·rw[qo (by exact_mod_cast h),qbb h,List.take_of_length_le (by omega)]
   simp only[mkL,List.append_nil]
theorem qboc {X:Ext} (hX:XOk X) {n:Nat} (hn:W+2≤n) (a:List qdl) (k:Int) (ha:a.length≤maxLen) (hk:0≤k) (h:k+cnt (.sl qby) a≤maxLen) :
  qtz (DD X n) a k=some (((mkT (.sl qby) k a).1,()),((mkT (.sl qby) k a).2,())):=by
 obtain ⟨n,rfl⟩:∃ k,n=k+1:=⟨n - 1,by omega⟩
 have hd:=ql
 rw[qbfb hX]
 simp only[qul,qup,qqf]
 have:=qbc7 hX n n (by omega) (fun v w=>qkb (DD X n) n v w) n 0 k a ha (by omega) (by have:=qbn;omega) hk (by rw[List.drop_zero];exact h)
 rw[show ((0:Nat):Int)=0 from rfl] at this
 rw[this]
 simp only[List.take_zero,List.drop_zero,List.nil_append,qkb,mkT]
theorem qba7 {X:Ext} (hX:XOk X) (N n:Nat) (hN:W+1≤N) (K0:Int→Int→Option ((Int×Unit)×Unit)) (K1:Int→Option ((Int×Unit)×Unit)):∀ (m i:Nat) (k:Int) (a l:List qdl),a.length≤maxLen→i≤a.length→a.length - i<m→0≤k→k+(l.map (cnt qby)).sum≤maxLen→
  a.drop i=(mkL (mkT qby) k l).2→qge (DD X N) n K0 K1 m a k i=K1 (mkL (mkT qby) k l).1
 | 0,_,_,_,_,_,_,h,_,_,_=>by omega
 | m+1,i,k,a,l,hm,hi,hf,hk,hkl,hl=>by
  simp only[qge,qrh]
  have hd:=ql
  by_cases h:i<a.length
  ·rw[q0 h] at hl
   cases l with
   | nil=>simp[mkL] at hl;omega
   | cons x l=>
    simp only[mkL,List.cons.injEq] at hl
    obtain ⟨hx,hl⟩:=hl
    simp only[List.map_cons,List.sum_cons] at hkl
    have hc:cnt qby x=1+cnt qda x.2.1+1:=by first | rfl | (simp only[cnt];omega)
    have t0:=qta hX hN (k) (by omega)
    have hc1:=qdd qda (k+1) x.2.1
    have t1:=qbii hX hN x.2.1 (k+1) (by omega) (by omega)
    have w0:IntKind.wrap IntKind.i64 (k+1)=k+1:=qce (by omega) (by omega)
    have w1:IntKind.wrap IntKind.i64 ((mkT qda (k+1) x.2.1).1+1)=(mkT qda (k+1) x.2.1).1+1:=qce (by omega) (by omega)
    have hx0:a[i].1=q4a (k):=by rw[hx];rfl
    have hx1:a[i].2.1=(mkT qda (k+1) x.2.1).2:=by rw[hx];rfl
    have hx2:a[i].2.2.1=decide (Int.tmod ((mkT qda (k+1) x.2.1).1) 3=0):=by rw[hx];rfl
    have wi:IntKind.wrap IntKind.i64 ((i:Int)+1)=((i+1:Nat):Int):=qr (by omega)
    rw[qp (by exact_mod_cast h)]
    simp only[ix h,br_t,Int.toNat_natCast,qbj h,hx0,hx1,hx2,t0,t1,w0,w1,wi,qg,qgi,decide_true,Bool.not_true,br_f,bne_self_eq_false]
    rw[qo (by omega)]
    exact qba7 hX N n hN K0 K1 m (i+1) (mkT qby k x).1 a l hm (by omega) (by omega) (by rw[qdd];omega) (by rw[qdd];omega) hl
  ·rw[qo (by exact_mod_cast h)]
   rw[qbb h] at hl
   cases l with
   | nil=>rfl
   | cons x l=>simp[mkL] at hl
theorem qbof {X:Ext} (hX:XOk X) {n:Nat} (hn:W+2≤n) (a:List qdl) (k:Int) (ha:a.length≤maxLen) (hk:0≤k) (h:k+cnt (.sl qby) a≤maxLen) :
  quf (DD X n) (mkT (.sl qby) k a).2 k=some (((mkT (.sl qby) k a).1,()),()):=by
 obtain ⟨n,rfl⟩:∃ k,n=k+1:=⟨n - 1,by omega⟩
 have hd:=ql
 rw[qbeh hX]
 simp only[qtl,qtk,qqr]
 have hml:(mkT (.sl qby) k a).2.length=a.length:=q4o k a
 have:=qba7 hX n n (by omega) (fun v w=>qpe (DD X n) n v w) (fun v=>qj4 (DD X n) n v) n 0 k (mkT (.sl qby) k a).2 a (by omega) (by omega) (by have:=qbn;omega) hk h (by simp[mkT])
 rw[show ((0:Nat):Int)=0 from rfl] at this
 rw[this]
 simp only[qj4,mkT]
end Go.G

namespace Go.G
open Go Go.V Go.Proofs
def q9 (P:Nat→Bool):Nat→Nat→Bool
 | _,0=>false
 | i,k+1=>P i||q9 P (i+1) k
theorem q1k {P:Nat→Bool}:∀ {k i:Nat},q9 P i k=true↔∃ j,i≤j∧j<i+k∧P j=true
 | 0,i=>by simp[q9];intro j h1 h2;omega
 | k+1,i=>by
  simp only[q9,Bool.or_eq_true,q1k (k:=k) (i:=i+1)]
  constructor
  ·rintro (h | ⟨j,h1,h2,h3⟩)
   ·exact ⟨i,Nat.le_refl _,by omega,h⟩
   ·exact ⟨j,by omega,by omega,h3⟩
  ·rintro ⟨j,h1,h2,h3⟩
   rcases Nat.eq_or_lt_of_le h1 with rfl | h1
   ·exact .inl h3
   ·exact .inr ⟨j,by omega,by omega,h3⟩
theorem qlg {P:Nat→Bool} {k i:Nat}:q9 P i k=false↔∀ j,i≤j→j<i+k→P j=false:=by
 rw[←Bool.not_eq_true,q1k]
 constructor
 ·intro h j h1 h2
  cases hp:P j with
  | false=>rfl
  | true=>exact absurd ⟨j,h1,h2,hp⟩ h
 ·rintro h ⟨j,h1,h2,h3⟩
  rw[h j h1 h2] at h3;exact Bool.noConfusion h3
theorem qu8 {P Q:Nat→Bool}:∀ {k i:Nat},(∀ j,i≤j→j<i+k→P j=Q j)→q9 P i k=q9 Q i k
 | 0,_,_=>rfl
 | k+1,i,h=>by
  simp only[q9]
  rw[h i (Nat.le_refl _) (by omega),qu8 fun j h1 h2=>h j (by omega) (by omega)]
theorem scan {R:Type} {L:Nat→Nat→Option R} {N:Nat} {P:Nat→Bool} {A B:Option R}
  (hs:∀ m i,i≤N→L (m+1) i=if i<N then br (P i) A (L m (i+1)) else B):∀ m i,i≤N→N - i<m→L m i=br (q9 P i (N - i)) A B
 | 0,_,_,h=>by omega
 | m+1,i,hi,hm=>by
  rw[hs m i hi]
  by_cases h:i<N
  ·rw[if_pos h]
   obtain ⟨k,hk⟩:∃ k,N - i=k+1:=⟨N - i - 1,by omega⟩
   rw[hk,scan hs m (i+1) (by omega) (by omega)]
   have:N - (i+1)=k:=by omega
   rw[this]
   show br (P i) A (br (q9 P (i+1) k) A B)=br (P i||q9 P (i+1) k) A B
   cases P i<;>rfl
  ·rw[if_neg h]
   have:N - i=0:=by omega
   rw[this];rfl
theorem qjx {R:Type} {L:Nat→Nat→Option R} {N:Nat} {P:Nat→Bool} {A B:Option R}
  (hs:∀ m i,i≤N→L (m+1) i=if i<N then br (P i) A (L m (i+1)) else B) {m:Nat} (hm:N<m):L m 0=br (q9 P 0 N) A B:=by
 have:=scan hs m 0 (by omega) (by omega)
 rwa [Nat.sub_zero] at this
def qbw (P:Nat→Bool):Nat→Nat→Option Nat
 | _,0=>none
 | i,k+1=>if P i=true then some i else qbw P (i+1) k
theorem qsy {P:Nat→Bool}:∀ {k i j:Nat},qbw P i k=some j→i≤j∧j<i+k∧P j=true∧∀ l,i≤l→l<j→P l=false
 | 0,i,j,h=>by simp[qbw] at h
 | k+1,i,j,h=>by
  simp only[qbw] at h
  split at h
  ·rename_i hp
   simp only[Option.some.injEq] at h
   subst h
   exact ⟨Nat.le_refl _,by omega,hp,fun l h1 h2=>by omega⟩
  ·rename_i hp
   obtain ⟨h1,h2,h3,h4⟩:=qsy h
   refine ⟨by omega,by omega,h3,fun l h5 h6=>?_⟩
   rcases Nat.eq_or_lt_of_le h5 with rfl | h5
   ·simpa using hp
   ·exact h4 l h5 h6
theorem qz0 {P:Nat→Bool}:∀ {k i:Nat},qbw P i k=none→∀ j,i≤j→j<i+k→P j=false
 | 0,i,_,j,h1,h2=>by omega
 | k+1,i,h,j,h1,h2=>by
  simp only[qbw] at h
  split at h
  ·simp at h
  ·rename_i hp
   rcases Nat.eq_or_lt_of_le h1 with rfl | h1
   ·simpa using hp
   ·exact qz0 h j (by omega) (by omega)
theorem qbwl {R:Type} {L:Nat→Nat→Option R} {N:Nat} {P:Nat→Bool} {A:Nat→Option R} {B:Option R}
  (hs:∀ m i,i≤N→L (m+1) i=if i<N then br (P i) (A i) (L m (i+1)) else B):∀ m i,i≤N→N - i<m→L m i=match qbw P i (N - i) with | some j=>A j | none=>B
 | 0,_,_,h=>by omega
 | m+1,i,hi,hm=>by
  rw[hs m i hi]
  by_cases h:i<N
  ·rw[if_pos h]
   obtain ⟨k,hk⟩:∃ k,N - i=k+1:=⟨N - i - 1,by omega⟩
   rw[hk]
   simp only[qbw]
   by_cases hp:P i=true
   ·rw[if_pos hp,hp];rfl
   ·rw[if_neg hp,qbwl hs m (i+1) (by omega) (by omega)]
    simp only[Bool.not_eq_true] at hp
    have:N - (i+1)=k:=by omega
    rw[this,hp];rfl
  ·rw[if_neg h]
   have:N - i=0:=by omega
   rw[this];rfl
theorem q2a {R:Type} {L:Nat→Nat→Option R} {N:Nat} {P:Nat→Bool} {A:Nat→Option R} {B:Option R}
  (hs:∀ m i,i≤N→L (m+1) i=if i<N then br (P i) (A i) (L m (i+1)) else B) {m:Nat} (hm:N<m):L m 0=match qbw P 0 N with | some j=>A j | none=>B:=by
 have:=qbwl hs m 0 (by omega) (by omega)
 rwa [Nat.sub_zero] at this
theorem qjn (a b:Bool):(bif a then b else false)=(a&&b):=by cases a<;>rfl
theorem qbr0 (a b:Bool):(bif a then true else b)=(a||b):=by cases a<;>rfl
def inR (x a b:Int):Bool:=decide (a≤x)&&decide (x≤b)
theorem q1x {X:Ext} (hX:XOk X) {n:Nat} (hn:1≤n) (x a b:Int):qgo (DD X n) x a b=some ((inR x a b,()),()):=by
 obtain ⟨n,rfl⟩:∃ k,n=k+1:=⟨n - 1,by omega⟩
 rw[qbrc hX]
 simp only[q7a,qbft,qjn,inR]
theorem q2c {X:Ext} (hX:XOk X) {n:Nat} (hn:1≤n) (x a b:Int):qgn (DD X n) x a b=some ((inR x a b,()),()):=by
 obtain ⟨n,rfl⟩:∃ k,n=k+1:=⟨n - 1,by omega⟩
 rw[qbq8 hX]
 simp only[q68,qbfz,qjn,inR]
def qhq (s:ByteArray) (i:Nat):Int:=((s.data.getD i (UInt8.ofNat 0)).toNat:Int)
def quy (s:ByteArray):Bool:=!(q9 (fun i=>decide (qhq s i<97)||decide (qhq s i>122)) 0 s.size)&&inR s.size 1 12
theorem ixs {s:ByteArray} {i:Nat} (h:i<s.size):(decide (0≤(i:Int))&&decide ((i:Int)<(s.size:Int)))=true:=by
 simp only[Bool.and_eq_true,decide_eq_true_eq];omega
theorem qba9 {X:Ext} (hX:XOk X) {n:Nat} (hn:W+2≤n) (s:ByteArray) (hs:s.size≤maxLen):qo1 (DD X n) s=some ((quy s,()),()):=by
 obtain ⟨n,rfl⟩:∃ k,n=k+1:=⟨n - 1,by omega⟩
 have hd:=ql
 have hW:=qbn
 rw[qbgj hX]
 simp only[qv0,qv7,qrm]
 refine Eq.trans (qjx (L:=fun m i=>qha (DD X n) n _ _ m s s.size (i:Int)) (N:=s.size) (P:=fun i=>decide (qhq s i<97)||decide (qhq s i>122))
  (A:=some ((false,()),())) (B:=some ((inR s.size 1 12,()),())) (fun m i hi=>?_) (m:=n) (by omega)) ?_
 ·simp only[qha,qtm]
  by_cases h:i<s.size
  ·rw[qp (by exact_mod_cast h),ixs h,br_t,br_t,Int.toNat_natCast,qr (by omega),if_pos h]
   change br (decide (qhq s i<97)) _ (br (decide (qhq s i>122)) _ _)=_
   by_cases h1:qhq s i<97
   ·rw[qp h1,decide_eq_true h1];rfl
   ·rw[qo h1,decide_eq_false h1]
    by_cases h2:qhq s i>122
    ·rw[qp h2,decide_eq_true h2];rfl
    ·rw[qo h2,decide_eq_false h2];rfl
  ·rw[qo (by exact_mod_cast h),if_neg h]
   simp only[qp5,q1x hX (show 1≤n by omega),qg]
 ·unfold quy
  cases q9 (fun i=>decide (qhq s i<97)||decide (qhq s i>122)) 0 s.size<;>rfl
theorem qbb0 {X:Ext} (hX:XOk X) {n:Nat} (hn:W+2≤n) (s:ByteArray) (hs:s.size≤maxLen):qo9 (DD X n) s=some ((quy s,()),()):=by
 obtain ⟨n,rfl⟩:∃ k,n=k+1:=⟨n - 1,by omega⟩
 have hd:=ql
 have hW:=qbn
 rw[qbha hX]
 simp only[qv6,qvr,qrl]
 refine Eq.trans (qjx (L:=fun m i=>qg3 (DD X n) n _ _ m s (i:Int)) (N:=s.size) (P:=fun i=>decide (qhq s i<97)||decide (qhq s i>122))
  (A:=some ((false,()),())) (B:=some ((inR s.size 1 12,()),())) (fun m i hi=>?_) (m:=n) (by omega)) ?_
 ·simp only[qg3,qtr]
  by_cases h:i<s.size
  ·rw[qp (by exact_mod_cast h),ixs h,br_t,br_t,Int.toNat_natCast,qr (by omega),if_pos h]
   change br (decide (qhq s i<97)) _ (br (decide (qhq s i>122)) _ _)=_
   by_cases h1:qhq s i<97
   ·rw[qp h1,decide_eq_true h1];rfl
   ·rw[qo h1,decide_eq_false h1]
    by_cases h2:qhq s i>122
    ·rw[qp h2,decide_eq_true h2];rfl
    ·rw[qo h2,decide_eq_false h2];rfl
  ·rw[qo (by exact_mod_cast h),if_neg h]
   simp only[qqn,q2c hX (show 1≤n by omega),qg]
 ·unfold quy
  cases q9 (fun i=>decide (qhq s i<97)||decide (qhq s i>122)) 0 s.size<;>rfl
def has (l:List Int) (x:Int):Bool:=q9 (fun j=>decide (x=l.getD j 0)) 0 l.length
theorem qbst {X:Ext} (hX:XOk X) {n:Nat} (hn:W+2≤n) (l:List Int) (x:Int) (hl:l.length≤maxLen):qj5 (DD X n) l x=some ((has l x,()),()):=by
 obtain ⟨n,rfl⟩:∃ k,n=k+2:=⟨n - 2,by omega⟩
 have hd:=ql
 have hW:=qbn
 rw[q4e hX]
 simp only[qj0,qrb]
 have e:qng (DD X (n+1)) l x=some ((match qbw (fun j=>decide (x=l.getD j 0)) 0 l.length with | some j=>(j:Int) | none=>-1,()),()):=by
  rw[q67 hX]
  simp only[qnd,qnc,qkr]
  refine Eq.trans (q2a (L:=fun m i=>qdr (DD X n) n _ _ m l x l.length (i:Int)) (N:=l.length) (P:=fun j=>decide (x=l.getD j 0))
   (A:=fun j=>some (((j:Int),()),())) (B:=some ((-1,()),())) (fun m i hi=>?_) (m:=n) (by omega)) ?_
  ·simp only[qdr,qld]
   by_cases h:i<l.length
   ·rw[qp (by exact_mod_cast h),ix h,br_t,Int.toNat_natCast,qr (by omega),if_pos h];rfl
   ·rw[qo (by exact_mod_cast h),if_neg h];rfl
  ·cases qbw (fun j=>decide (x=l.getD j 0)) 0 l.length<;>rfl
 rw[e,qg]
 congr 3
 unfold has
 cases hf:qbw (fun j=>decide (x=l.getD j 0)) 0 l.length with
 | none=>
  have:=qz0 hf
  rw[qlg.2 this];rfl
 | some j=>
  obtain ⟨h1,h2,h3,_⟩:=qsy hf
  rw[q1k.2 ⟨j,h1,h2,h3⟩]
  simp
def qe1 (n:Nat) (l:List Int) (most:Int):Bool:=!(q9 (fun i=>!inR (l.getD i 0) 0 ((n:Int) - 1)||has (l.take i) (l.getD i 0)) 0 l.length)&&inR l.length 1 most
theorem q70 {X:Ext} (hX:XOk X) {n:Nat} (hn:W+3≤n) (s:List Col×List Int×List qdl×Unit) (l:List Int) (most:Int) (hc:s.1.length≤maxLen) (hl:l.length≤maxLen) :
  qqv (DD X n) s l most=some ((qe1 s.1.length l most,()),()):=by
 obtain ⟨n,rfl⟩:∃ k,n=k+1:=⟨n - 1,by omega⟩
 have hd:=ql
 have hW:=qbn
 rw[qbkq hX]
 simp only[qxm,qxa,qtt]
 refine Eq.trans (qjx (L:=fun m i=>qhy (DD X n) n _ _ m l most l l.length (i:Int) s) (N:=l.length) (P:=fun i=>!inR (l.getD i 0) 0 ((s.1.length:Int) - 1)||has (l.take i) (l.getD i 0))
  (A:=some ((false,()),())) (B:=some ((inR l.length 1 most,()),())) (fun m i hi=>?_) (m:=n) (by omega)) ?_
 ·simp only[qhy,qv2]
  by_cases h:i<l.length
  ·have hc1:(decide ((0:Nat)≤0)&&decide ((0:Int)≤(i:Int))&&decide ((i:Int)≤(l.length:Int)))=true:=by
    rw[decide_eq_true (by omega),decide_eq_true (by omega),decide_eq_true (by omega)];rfl
   rw[qp (by exact_mod_cast h),ix h,br_t,q1x hX (show 1≤n by omega),qg,hc1,br_t,Int.toNat_natCast,qr (by omega),if_pos h,qce (by omega) (by omega)]
   have ht:(List.drop (Int.toNat 0) (List.take i l))=l.take i:=rfl
   rw[ht,qbst hX (by omega) _ _ (by rw[List.length_take];omega),qg]
   dsimp only
   cases inR (l.getD i 0) 0 ((s.1.length:Int) - 1)
   ·rfl
   ·cases has (l.take i) (l.getD i 0)<;>rfl
  ·rw[qo (by exact_mod_cast h),if_neg h]
   simp only[qsk,q1x hX (show 1≤n by omega),qg]
 ·unfold qe1
  cases q9 (fun i=>!inR (l.getD i 0) 0 ((s.1.length:Int) - 1)||has (l.take i) (l.getD i 0)) 0 l.length<;>rfl
theorem qbu2 {l:List Int} {i:Nat} (hi:i≤l.length) (x:Int):has (l.take i) x=q9 (fun k=>decide (l.getD k 0=x)) 0 i:=by
 unfold has
 rw[List.length_take,Nat.min_eq_left hi]
 refine qu8 fun j _ h=>?_
 have e:(l.take i).getD j 0=l.getD j 0:=by
  simp only[List.getD,List.getElem?_take]
  rw[if_pos (by omega)]
 rw[e]
 by_cases h:x=l.getD j 0
 ·rw[decide_eq_true h,decide_eq_true h.symm]
 ·rw[decide_eq_false h,decide_eq_false fun k=>h k.symm]
theorem q8g {X:Ext} (hX:XOk X) {n:Nat} (hn:W+3≤n) (s:List Col×List Int×List qdl×Unit) (l:List Int) (most:Int) (hc:s.1.length≤maxLen) (hl:l.length≤maxLen) :
  qou (DD X n) s l most=some ((qe1 s.1.length l most,()),()):=by
 obtain ⟨n,rfl⟩:∃ k,n=k+1:=⟨n - 1,by omega⟩
 have hd:=ql
 have hW:=qbn
 rw[qbg0 hX]
 simp only[qwc,qwj,qri]
 refine Eq.trans (qjx (L:=fun m i=>qd5 (DD X n) n _ _ m l most (i:Int) s) (N:=l.length) (P:=fun i=>!inR (l.getD i 0) 0 ((s.1.length:Int) - 1)||has (l.take i) (l.getD i 0))
  (A:=some ((false,()),())) (B:=some ((inR l.length 1 most,()),())) (fun m i hi=>?_) (m:=n) (by omega)) ?_
 ·simp only[qd5,qt6]
  by_cases h:i<l.length
  ·rw[qp (by exact_mod_cast h),ix h,br_t,q2c hX (show 1≤n by omega),qg,Int.toNat_natCast,if_pos h,qce (by omega) (by omega)]
   dsimp only
   cases hin:inR (l.getD i 0) 0 ((s.1.length:Int) - 1)
   ·rfl
   ·rw[Bool.not_true,br_f,Bool.false_or,qbu2 (by omega)]
    simp only[qsi]
    refine Eq.trans (qjx (L:=fun q k=>qg5 (DD X n) n _ _ q l most (i:Int) (k:Int) s) (N:=i) (P:=fun k=>decide (l.getD k 0=l.getD i 0))
     (A:=some ((false,()),())) (B:=qd5 (DD X n) n (fun v0_0 v0_1 v0_2=>qqi (DD X n) n v0_0 v0_1 v0_2) (fun v1_0 v1_1=>qkz (DD X n) n v1_0 v1_1) m l most ((i+1:Nat):Int) s) (fun q k hk=>?_) (m:=n) (by omega)) rfl
    simp only[qg5,qte]
    by_cases h2:k<i
    ·rw[qp (by exact_mod_cast h2),ix (i:=k) (by omega),br_t,ix h,br_t,Int.toNat_natCast,Int.toNat_natCast,qr (by omega),if_pos h2];rfl
    ·rw[qo (by exact_mod_cast h2),if_neg h2]
     simp only[qp7]
     rw[qr (by omega)]
  ·rw[qo (by exact_mod_cast h),if_neg h]
   simp only[qkz,q2c hX (show 1≤n by omega),qg]
 ·unfold qe1
  cases q9 (fun i=>!inR (l.getD i 0) 0 ((s.1.length:Int) - 1)||has (l.take i) (l.getD i 0)) 0 l.length<;>rfl
end Go.G

namespace Go.G
set_option maxRecDepth 100000
open Go Go.V Go.Proofs
theorem q6m (P:Nat→Bool) (n:Nat):decide ((match qbw P 0 n with | some j=>(j:Int) | none=>-1)≥0)=q9 P 0 n:=by
 cases hf:qbw P 0 n with
 | none=>rw[qlg.2 (qz0 hf)];rfl
 | some j=>
  obtain ⟨h1,h2,h3,_⟩:=qsy hf
  rw[q1k.2 ⟨j,h1,h2,h3⟩]
  simp
theorem qbvz {X:Ext} (hX:XOk X) {n:Nat} (hn:W+1≤n) (l:List (Col)) (hl:l.length≤maxLen) (c:Clo) (P:Nat→Bool)
  (hP:∀ i,i<l.length→qcj ctx (DD X (n - 1)) c [CapV.val (Ty.pair Ty.str (Ty.pair (Ty.int IntKind.i64) (Ty.pair Ty.bool Ty.unit))) (l.getD i (ByteArray.empty,0,false,()))] Ty.bool=some (P i)) :
  qex (DD X n) l c=some ((match qbw P 0 l.length with | some j=>(j:Int) | none=>-1,()),()):=by
 obtain ⟨n,rfl⟩:∃ k,n=k+1:=⟨n - 1,by omega⟩
 have hd:=ql
 have hW:=qbn
 rw[qsj hX]
 simp only[qep,qev,qd7]
 refine Eq.trans (q2a (L:=fun m i=>qb5 (DD X n) n c _ _ m l l.length (i:Int)) (N:=l.length) (P:=P)
  (A:=fun j=>some (((j:Int),()),())) (B:=some ((-1,()),())) (fun m i hi=>?_) (m:=n) (by omega)) ?_
 ·simp only[qb5,qeg]
  by_cases h:i<l.length
  ·have hp:qcj ctx (DD X n) c [CapV.val (Ty.pair Ty.str (Ty.pair (Ty.int IntKind.i64) (Ty.pair Ty.bool Ty.unit))) (l.getD i (ByteArray.empty,0,false,()))] Ty.bool=some (P i):=hP i h
   rw[qp (by exact_mod_cast h),ix h,br_t,Int.toNat_natCast,hp,qg,qr (by omega),if_pos h];rfl
  ·rw[qo (by exact_mod_cast h),if_neg h];rfl
 ·cases qbw P 0 l.length<;>rfl
theorem qbsl {X:Ext} (hX:XOk X) {n:Nat} (hn:W+1≤n) (l:List (qdl)) (hl:l.length≤maxLen) (c:Clo) (P:Nat→Bool)
  (hP:∀ i,i<l.length→qcj ctx (DD X (n - 1)) c [CapV.val (Ty.pair Ty.str (Ty.pair (Ty.sl (Ty.int IntKind.i64)) (Ty.pair Ty.bool Ty.unit))) (l.getD i (ByteArray.empty,[],false,()))] Ty.bool=some (P i)) :
  qd0 (DD X n) l c=some ((match qbw P 0 l.length with | some j=>(j:Int) | none=>-1,()),()):=by
 obtain ⟨n,rfl⟩:∃ k,n=k+1:=⟨n - 1,by omega⟩
 have hd:=ql
 have hW:=qbn
 rw[qoq hX]
 simp only[qdu,qdz,qdj]
 refine Eq.trans (q2a (L:=fun m i=>qbr (DD X n) n c _ _ m l l.length (i:Int)) (N:=l.length) (P:=P)
  (A:=fun j=>some (((j:Int),()),())) (B:=some ((-1,()),())) (fun m i hi=>?_) (m:=n) (by omega)) ?_
 ·simp only[qbr,qdm]
  by_cases h:i<l.length
  ·have hp:qcj ctx (DD X n) c [CapV.val (Ty.pair Ty.str (Ty.pair (Ty.sl (Ty.int IntKind.i64)) (Ty.pair Ty.bool Ty.unit))) (l.getD i (ByteArray.empty,[],false,()))] Ty.bool=some (P i):=hP i h
   rw[qp (by exact_mod_cast h),ix h,br_t,Int.toNat_natCast,hp,qg,qr (by omega),if_pos h];rfl
  ·rw[qo (by exact_mod_cast h),if_neg h];rfl
 ·cases qbw P 0 l.length<;>rfl
theorem qbv5 {X:Ext} (hX:XOk X) {n:Nat} (hn:W+1≤n) (l:List (Int)) (hl:l.length≤maxLen) (c:Clo) (P:Nat→Bool)
  (hP:∀ i,i<l.length→qcj ctx (DD X (n - 1)) c [CapV.val (Ty.int IntKind.i64) (l.getD i 0)] Ty.bool=some (P i)) :
  qjq (DD X n) l c=some ((match qbw P 0 l.length with | some j=>(j:Int) | none=>-1,()),()):=by
 obtain ⟨n,rfl⟩:∃ k,n=k+1:=⟨n - 1,by omega⟩
 have hd:=ql
 have hW:=qbn
 rw[q2d hX]
 simp only[qjr,qjo,qia]
 refine Eq.trans (q2a (L:=fun m i=>qc7 (DD X n) n c _ _ m l l.length (i:Int)) (N:=l.length) (P:=P)
  (A:=fun j=>some (((j:Int),()),())) (B:=some ((-1,()),())) (fun m i hi=>?_) (m:=n) (by omega)) ?_
 ·simp only[qc7,qi0]
  by_cases h:i<l.length
  ·have hp:qcj ctx (DD X n) c [CapV.val (Ty.int IntKind.i64) (l.getD i 0)] Ty.bool=some (P i):=hP i h
   rw[qp (by exact_mod_cast h),ix h,br_t,Int.toNat_natCast,hp,qg,qr (by omega),if_pos h];rfl
  ·rw[qo (by exact_mod_cast h),if_neg h];rfl
 ·cases qbw P 0 l.length<;>rfl
theorem qbqh {X:Ext} (hX:XOk X) {n:Nat} (hn:W+1≤n) (l:List (List qe)) (hl:l.length≤maxLen) (c:Clo) (P:Nat→Bool)
  (hP:∀ i,i<l.length→qcj ctx (DD X (n - 1)) c [CapV.val (Ty.sl (Ty.pair (Ty.int IntKind.i64) (Ty.pair (Ty.int IntKind.i64) (Ty.pair Ty.str Ty.unit)))) (l.getD i [])] Ty.bool=some (P i)) :
  qcv (DD X n) l c=some ((match qbw P 0 l.length with | some j=>(j:Int) | none=>-1,()),()):=by
 obtain ⟨n,rfl⟩:∃ k,n=k+1:=⟨n - 1,by omega⟩
 have hd:=ql
 have hW:=qbn
 rw[qpf hX]
 simp only[qd1,qdy,qdi]
 refine Eq.trans (q2a (L:=fun m i=>qbt (DD X n) n c _ _ m l l.length (i:Int)) (N:=l.length) (P:=P)
  (A:=fun j=>some (((j:Int),()),())) (B:=some ((-1,()),())) (fun m i hi=>?_) (m:=n) (by omega)) ?_
 ·simp only[qbt,qdn]
  by_cases h:i<l.length
  ·have hp:qcj ctx (DD X n) c [CapV.val (Ty.sl (Ty.pair (Ty.int IntKind.i64) (Ty.pair (Ty.int IntKind.i64) (Ty.pair Ty.str Ty.unit)))) (l.getD i [])] Ty.bool=some (P i):=hP i h
   rw[qp (by exact_mod_cast h),ix h,br_t,Int.toNat_natCast,hp,qg,qr (by omega),if_pos h];rfl
  ·rw[qo (by exact_mod_cast h),if_neg h];rfl
 ·cases qbw P 0 l.length<;>rfl
theorem qbfp {X:Ext} (hX:XOk X) {n:Nat} (hn:W+2≤n) (l:List (qdl)) (hl:l.length≤maxLen) (c:Clo) (P:Nat→Bool)
  (hP:∀ i,i<l.length→qcj ctx (DD X (n - 2)) c [CapV.val (Ty.pair Ty.str (Ty.pair (Ty.sl (Ty.int IntKind.i64)) (Ty.pair Ty.bool Ty.unit))) (l.getD i (ByteArray.empty,[],false,()))] Ty.bool=some (P i)) :
  qco (DD X n) l c=some ((q9 P 0 l.length,()),()):=by
 obtain ⟨n,rfl⟩:∃ k,n=k+1:=⟨n - 1,by omega⟩
 rw[qnp hX]
 simp only[qdf,qfp]
 rw[qbsl hX (n:=n) (by omega) l hl c P (fun i h=>hP i h),qg]
 congr 3
 exact q6m P l.length
theorem qbtk {X:Ext} (hX:XOk X) {n:Nat} (hn:W+2≤n) (l:List (Int)) (hl:l.length≤maxLen) (c:Clo) (P:Nat→Bool)
  (hP:∀ i,i<l.length→qcj ctx (DD X (n - 2)) c [CapV.val (Ty.int IntKind.i64) (l.getD i 0)] Ty.bool=some (P i)) :
  qhm (DD X n) l c=some ((q9 P 0 l.length,()),()):=by
 obtain ⟨n,rfl⟩:∃ k,n=k+1:=⟨n - 1,by omega⟩
 rw[qy7 hX]
 simp only[qhl,qnl]
 rw[qbv5 hX (n:=n) (by omega) l hl c P (fun i h=>hP i h),qg]
 congr 3
 exact q6m P l.length
theorem qbuc {X:Ext} (hX:XOk X) {n:Nat} (hn:W+2≤n) (l:List (List qe)) (hl:l.length≤maxLen) (c:Clo) (P:Nat→Bool)
  (hP:∀ i,i<l.length→qcj ctx (DD X (n - 2)) c [CapV.val (Ty.sl (Ty.pair (Ty.int IntKind.i64) (Ty.pair (Ty.int IntKind.i64) (Ty.pair Ty.str Ty.unit)))) (l.getD i [])] Ty.bool=some (P i)) :
  qb8 (DD X n) l c=some ((q9 P 0 l.length,()),()):=by
 obtain ⟨n,rfl⟩:∃ k,n=k+1:=⟨n - 1,by omega⟩
 rw[qnq hX]
 simp only[qdg,qfm]
 rw[qbqh hX (n:=n) (by omega) l hl c P (fun i h=>hP i h),qg]
 congr 3
 exact q6m P l.length
end Go.G

namespace Go.G
set_option maxRecDepth 100000
open Go Go.V Go.Proofs
abbrev qcl:Ty:=.pair (.sl ColT) (.pair (.sl (.int .i64)) (.pair (.sl qby) .unit))
abbrev qcc:=List Col×List Int×List qdl×Unit
def M:Nat:=4194304
theorem qc0:M=4194304:=rfl
structure SchSm (s:qcc):Prop where
 cols:s.1.length≤M
 names:∀ c∈s.1,c.1.size≤M
 key:s.2.1.length≤M
 ixs:s.2.2.1.length≤M
 ixn:∀ x∈s.2.2.1,x.1.size≤M
 ixc:∀ x∈s.2.2.1,x.2.1.length≤M
abbrev cd:Col:=(ByteArray.empty,0,false,())
abbrev xd:qdl:=(ByteArray.empty,[],false,())
theorem qeq {α:Type} {l:List α} {i:Nat} {d:α} (h:i<l.length):l.getD i d∈l:=by rw[qbj h];exact List.getElem_mem _
def qboa (cs:List Col) (name:ByteArray):Int:=match qbw (fun i=>decide ((cs.getD i cd).1=name)) 0 cs.length with | some j=>(j:Int) | none=>-1
theorem qbtg (D:Den ctx) (name:ByteArray) (x:Col):qcj ctx D (Clo.mk 196 [CapV.rptr Ty.str name]) [CapV.val (Ty.pair Ty.str (Ty.pair (Ty.int IntKind.i64) (Ty.pair Ty.bool Ty.unit))) x] Ty.bool=(q8b D x name).bind fun r=>some r.1.1:=by kernel_rfl
theorem qbq0 {X:Ext} (hX:XOk X) {n:Nat} (hn:W+3≤n) (s:qcc) (hs:SchSm s) (name:ByteArray):q5g (DD X n) s name=some ((qboa s.1 name,()),()):=by
 obtain ⟨n,rfl⟩:∃ k,n=k+1:=⟨n - 1,by omega⟩
 have hd:=ql
 have hM:=qc0
 have:=hs.cols
 rw[qbo1 hX]
 simp only[q50,qbcw]
 rw[qbvz hX (n:=n) (by omega) s.1 (by omega) _ (fun i=>decide ((s.1.getD i cd).1=name)) (fun i h=>by
  obtain ⟨n,rfl⟩:∃ k,n=k+2:=⟨n - 2,by omega⟩
  rw[qbtg]
  rw[show n+2 - 1=n+1 from rfl,qblo hX]
  simp only[qz7,q77,Option.bind_some,qgi]),qg]
 rfl
theorem qbq1 {X:Ext} (hX:XOk X) {n:Nat} (hn:W+1≤n) (s:qcc) (hs:SchSm s) (name:ByteArray):q51 (DD X n) s name=some ((qboa s.1 name,()),()):=by
 obtain ⟨n,rfl⟩:∃ k,n=k+1:=⟨n - 1,by omega⟩
 have hd:=ql
 have hW:=qbn
 have hM:=qc0
 have:=hs.cols
 rw[qbpu hX]
 simp only[q4v,q5m,qz1]
 refine Eq.trans (q2a (L:=fun m i=>qlm (DD X n) n _ _ m name (i:Int) s) (N:=s.1.length) (P:=fun i=>decide ((s.1.getD i cd).1=name))
  (A:=fun j=>some (((j:Int),()),())) (B:=some ((-1,()),())) (fun m i hi=>?_) (m:=n) (by omega)) ?_
 ·simp only[qlm,q21]
  by_cases h:i<s.1.length
  ·rw[qp (by exact_mod_cast h),ix h,br_t,Int.toNat_natCast,qr (by omega),if_pos h,qgi];rfl
  ·rw[qo (by exact_mod_cast h),if_neg h];rfl
 ·unfold qboa
  cases qbw (fun i=>decide ((s.1.getD i cd).1=name)) 0 s.1.length<;>rfl
def q56 (cs:List Col) (i:Nat):Bool:=!quy (cs.getD i cd).1||(!inR (cs.getD i cd).2.1 1 3||!decide (qboa cs (cs.getD i cd).1=(i:Int)))
def qu7 (nc:Nat) (xs:List qdl) (i:Nat):Bool:=!quy (xs.getD i xd).1||(!qe1 nc (xs.getD i xd).2.1 3||q9 (fun k=>decide ((xs.getD k xd).1=(xs.getD i xd).1)) 0 i)
def q4s (cs:List Col) (key:List Int):Bool:=q9 (fun j=>(cs.getD (key.getD j 0).toNat cd).2.2.1) 0 key.length
def qne (s:qcc):Bool:=
 !q9 (q56 s.1) 0 s.1.length&&(!q9 (qu7 s.1.length s.2.2.1) 0 s.2.2.1.length&&(inR s.1.length 1 5&&(qe1 s.1.length s.2.1 4&&(!q4s s.1 s.2.1&&decide ((s.2.2.1.length:Int)≤3)))))
theorem qbm3 {n:Nat} {l:List Int} {most:Int} (h:qe1 n l most=true) {j:Nat} (hj:j<l.length):0≤l.getD j 0∧l.getD j 0<n:=by
 simp only[qe1,Bool.and_eq_true,Bool.not_eq_true'] at h
 have:=qlg.1 h.1 j (by omega) (by omega)
 simp only[Bool.or_eq_false_iff,Bool.not_eq_false',inR,Bool.and_eq_true,decide_eq_true_eq] at this
 omega
theorem q0y (a b:Int):(a != b)=!decide (a=b):=by by_cases h:a=b<;>simp[h]
theorem qbsu (D:Den ctx) (y x:qdl):qcj ctx D (Clo.mk 149 [CapV.rptr (Ty.pair Ty.str (Ty.pair (Ty.sl (Ty.int IntKind.i64)) (Ty.pair Ty.bool Ty.unit))) y]) [CapV.val (Ty.pair Ty.str (Ty.pair (Ty.sl (Ty.int IntKind.i64)) (Ty.pair Ty.bool Ty.unit))) x] Ty.bool=(q3m D x y).bind fun r=>some r.1.1:=by kernel_rfl
theorem qbra (D:Den ctx) (s:qcc) (x:Int):qcj ctx D (Clo.mk 151 [CapV.rptr (Ty.pair (Ty.sl (Ty.pair Ty.str (Ty.pair (Ty.int IntKind.i64) (Ty.pair Ty.bool Ty.unit)))) (Ty.pair (Ty.sl (Ty.int IntKind.i64)) (Ty.pair (Ty.sl (Ty.pair Ty.str (Ty.pair (Ty.sl (Ty.int IntKind.i64)) (Ty.pair Ty.bool Ty.unit)))) Ty.unit))) s]) [CapV.val (Ty.int IntKind.i64) x] Ty.bool=(q3j D x s).bind fun r=>some r.1.1:=by kernel_rfl
theorem q7e {X:Ext} (hX:XOk X) {n:Nat} (hn:W+5≤n) (s:qcc) (hs:SchSm s):qqw (DD X n) s=some ((qne s,()),()):=by
 obtain ⟨n,rfl⟩:∃ k,n=k+1:=⟨n - 1,by omega⟩
 have hd:=ql
 have hW:=qbn
 have hM:=qc0
 have h1:=hs.cols
 have h2:=hs.ixs
 have h3:=hs.key
 rw[qbk0 hX]
 simp only[qw3,qxv,qua]
 refine Eq.trans (qjx (L:=fun m i=>qh5 (DD X n) n _ _ m s.1 s.1.length (i:Int) s) (N:=s.1.length) (P:=q56 s.1)
  (A:=some ((false,()),())) (B:=br (q9 (qu7 s.1.length s.2.2.1) 0 s.2.2.1.length) (some ((false,()),())) (some ((inR s.1.length 1 5&&(qe1 s.1.length s.2.1 4&&(!q4s s.1 s.2.1&&decide ((s.2.2.1.length:Int)≤3))),()),()))) (fun m i hi=>?_) (m:=n) (by omega)) ?_
 ·simp only[qh5,qwi]
  by_cases h:i<s.1.length
  ·have hsz:=hs.names _ (qeq (d:=cd) h)
   rw[qp (by exact_mod_cast h),ix h,br_t,Int.toNat_natCast,qba9 hX (by omega) _ (Nat.le_trans hsz (by omega)),qg,q1x hX (by omega),qg,qbq0 hX (by omega) s hs,qg,qr (by omega),if_pos h,q0y]
   dsimp only[q56]
   cases quy (s.1.getD i cd).1
   ·rfl
   ·cases inR (s.1.getD i cd).2.1 1 3
    ·rfl
    ·rw[Bool.not_true,br_f,br_f,Bool.false_or,Bool.false_or];rfl
  ·rw[qo (by exact_mod_cast h),if_neg h]
   simp only[qsf,qut]
   refine (qjx (L:=fun m i=>qh7 (DD X n) n _ _ m s.2.2.1 s.2.2.1.length (i:Int) s) (N:=s.2.2.1.length) (P:=qu7 s.1.length s.2.2.1)
    (A:=some ((false,()),())) (B:=some ((inR s.1.length 1 5&&(qe1 s.1.length s.2.1 4&&(!q4s s.1 s.2.1&&decide ((s.2.2.1.length:Int)≤3))),()),())) (fun m i hi=>?_) (m:=n) (by omega))
   simp only[qh7,qvo]
   by_cases h:i<s.2.2.1.length
   ·have hm:=qeq (d:=xd) h
    have hsz:=hs.ixn _ hm
    have hsl:=hs.ixc _ hm
    have hc1:(decide ((0:Nat)≤0)&&decide ((0:Int)≤(i:Int))&&decide ((i:Int)≤(s.2.2.1.length:Int)))=true:=by
     rw[decide_eq_true (by omega),decide_eq_true (by omega),decide_eq_true (by omega)];rfl
    have hlen:(s.2.2.1.take i).length=i:=by rw[List.length_take];omega
    rw[qp (by exact_mod_cast h),ix h,br_t,Int.toNat_natCast,qba9 hX (by omega) _ (Nat.le_trans hsz (by omega)),qg,q70 hX (by omega) s _ _ (by omega) (Nat.le_trans hsl (by omega)),qg,hc1,br_t,qr (by omega),if_pos h]
    have ht:(List.drop (Int.toNat 0) (List.take i s.2.2.1))=s.2.2.1.take i:=rfl
    rw[ht,qbfp hX (n:=n) (by omega) _ (by omega) _ (fun k=>decide ((s.2.2.1.getD k xd).1=(s.2.2.1.getD i xd).1)) (fun k hk=>by
     rw[hlen] at hk
     obtain ⟨n,rfl⟩:∃ k,n=k+3:=⟨n - 3,by omega⟩
     rw[qbsu,show n+3 - 2=n+1 from rfl,qbff hX]
     have e:(s.2.2.1.take i).getD k xd=s.2.2.1.getD k xd:=by
      simp only[List.getD,List.getElem?_take]
      rw[if_pos hk]
     simp only[quc,q3e,Option.bind_some,qgi,e]),qg,hlen]
    dsimp only[qu7]
    cases quy (s.2.2.1.getD i xd).1
    ·rfl
    ·cases qe1 s.1.length (s.2.2.1.getD i xd).2.1 3
     ·rfl
     ·rw[Bool.not_true,br_f,br_f,Bool.false_or,Bool.false_or];rfl
   ·rw[qo (by exact_mod_cast h),if_neg h]
    simp only[qrv]
    rw[q1x hX (by omega),qg,q70 hX (by omega) s _ _ (by omega) (by omega),qg]
    dsimp only
    cases inR s.1.length 1 5
    ·rfl
    ·rw[br_t,Bool.true_and]
     cases hp:qe1 s.1.length s.2.1 4
     ·rfl
     ·rw[br_t,Bool.true_and,qbtk hX (n:=n) (by omega) s.2.1 (by omega) _ (fun j=>(s.1.getD (s.2.1.getD j 0).toNat cd).2.2.1) (fun k hk=>by
       obtain ⟨n,rfl⟩:∃ k,n=k+3:=⟨n - 3,by omega⟩
       obtain ⟨p1,p2⟩:=qbm3 hp hk
       rw[qbra,show n+3 - 2=n+1 from rfl,qbem hX]
       simp only[qtj,q3g]
       rw[ixn p1 p2,br_t];rfl),qg,qjn]
      rfl
 ·unfold qne
  cases q9 (q56 s.1) 0 s.1.length
  ·cases q9 (qu7 s.1.length s.2.2.1) 0 s.2.2.1.length<;>rfl
  ·rfl
theorem qbnk {X:Ext} (hX:XOk X) {n:Nat} (hn:W+4≤n) (s:qcc) (hs:SchSm s):qtd (DD X n) s=some ((!q9 (qu7 s.1.length s.2.2.1) 0 s.2.2.1.length&&decide ((s.2.2.1.length:Int)≤3),()),()):=by
 obtain ⟨n,rfl⟩:∃ k,n=k+1:=⟨n - 1,by omega⟩
 have hd:=ql
 have hW:=qbn
 have hM:=qc0
 have h1:=hs.cols
 have h2:=hs.ixs
 rw[qbew hX]
 simp only[qt9,qum,qqg]
 refine Eq.trans (qjx (L:=fun m i=>qdp (DD X n) n _ _ m (i:Int) s) (N:=s.2.2.1.length) (P:=qu7 s.1.length s.2.2.1)
  (A:=some ((false,()),())) (B:=some ((decide ((s.2.2.1.length:Int)≤3),()),())) (fun m i hi=>?_) (m:=n) (by omega)) ?_
 ·simp only[qdp,qrn]
  by_cases h:i<s.2.2.1.length
  ·have hm:=qeq (d:=xd) h
   have hsz:=hs.ixn _ hm
   have hsl:=hs.ixc _ hm
   rw[qp (by exact_mod_cast h),ix h,br_t,Int.toNat_natCast,qbb0 hX (by omega) _ (Nat.le_trans hsz (by omega)),qg,q8g hX (by omega) s _ _ (by omega) (Nat.le_trans hsl (by omega)),qg,if_pos h]
   dsimp only[qu7]
   cases quy (s.2.2.1.getD i xd).1
   ·rfl
   ·cases qe1 s.1.length (s.2.2.1.getD i xd).2.1 3
    ·rfl
    ·rw[Bool.not_true,br_f,br_f,Bool.false_or,Bool.false_or]
     simp only[qp8]
     refine Eq.trans (qjx (L:=fun q k=>qf9 (DD X n) n _ _ q (i:Int) (k:Int) s (s.2.2.1.getD i xd)) (N:=i) (P:=fun k=>decide ((s.2.2.1.getD k xd).1=(s.2.2.1.getD i xd).1))
      (A:=some ((false,()),())) (B:=qdp (DD X n) n (fun v0_0 v0_1=>qpi (DD X n) n v0_0 v0_1) (fun v1_0=>qo0 (DD X n) n v1_0) m ((i+1:Nat):Int) s) (fun q k hk=>?_) (m:=n) (by omega)) rfl
     simp only[qf9,qsp]
     by_cases h2:k<i
     ·rw[qp (by exact_mod_cast h2),ix (i:=k) (by omega),br_t,Int.toNat_natCast,qr (by omega),if_pos h2,qgi];rfl
     ·rw[qo (by exact_mod_cast h2),if_neg h2]
      simp only[qo4]
      rw[qr (by omega)]
  ·rw[qo (by exact_mod_cast h),if_neg h];rfl
 ·cases q9 (qu7 s.1.length s.2.2.1) 0 s.2.2.1.length<;>rfl
theorem q7o {X:Ext} (hX:XOk X) {n:Nat} (hn:W+5≤n) (s:qcc) (hs:SchSm s):qqx (DD X n) s=some ((qne s,()),()):=by
 obtain ⟨n,rfl⟩:∃ k,n=k+1:=⟨n - 1,by omega⟩
 have hd:=ql
 have hW:=qbn
 have hM:=qc0
 have h1:=hs.cols
 have h2:=hs.ixs
 have h3:=hs.key
 rw[qbjw hX]
 simp only[qxk,qyx,qti]
 refine Eq.trans (qjx (L:=fun m i=>qht (DD X n) n _ _ m (i:Int) s) (N:=s.1.length) (P:=q56 s.1)
  (A:=some ((false,()),())) (B:=some ((inR s.1.length 1 5&&(qe1 s.1.length s.2.1 4&&((!q9 (qu7 s.1.length s.2.2.1) 0 s.2.2.1.length&&decide ((s.2.2.1.length:Int)≤3))&&!q4s s.1 s.2.1)),()),())) (fun m i hi=>?_) (m:=n) (by omega)) ?_
 ·simp only[qht,qvq]
  by_cases h:i<s.1.length
  ·have hsz:=hs.names _ (qeq (d:=cd) h)
   rw[qp (by exact_mod_cast h),ix h,br_t,br_t,br_t,Int.toNat_natCast,qbb0 hX (by omega) _ (Nat.le_trans hsz (by omega)),qg,q2c hX (by omega),qg,qbq1 hX (by omega) s hs,qg,qr (by omega),if_pos h,q0y]
   dsimp only[q56]
   cases quy (s.1.getD i cd).1
   ·rfl
   ·cases inR (s.1.getD i cd).2.1 1 3
    ·rfl
    ·rw[Bool.not_true,br_f,br_f,Bool.false_or,Bool.false_or];rfl
  ·rw[qo (by exact_mod_cast h),if_neg h]
   simp only[qrs,qty]
   rw[q2c hX (by omega),qg,q8g hX (by omega) s _ _ (by omega) (by omega),qg,qbnk hX (by omega) s hs,qg]
   dsimp only
   cases inR s.1.length 1 5
   ·rfl
   ·cases hp:qe1 s.1.length s.2.1 4
    ·rfl
    ·cases (!q9 (qu7 s.1.length s.2.2.1) 0 s.2.2.1.length&&decide ((s.2.2.1.length:Int)≤3))
     ·rfl
     ·simp only[Bool.not_true,br_f,Bool.true_and]
      refine Eq.trans (qjx (L:=fun m i=>qhv (DD X n) n _ _ m (i:Int) s) (N:=s.2.1.length) (P:=fun j=>(s.1.getD (s.2.1.getD j 0).toNat cd).2.2.1)
       (A:=some ((false,()),())) (B:=some ((true,()),())) (fun m i hi=>?_) (m:=n) (by omega)) ?_
      ·simp only[qhv,qwp]
       by_cases h:i<s.2.1.length
       ·obtain ⟨p1,p2⟩:=qbm3 hp h
        rw[qp (by exact_mod_cast h),ix h,br_t,Int.toNat_natCast,ixn p1 p2,br_t,qr (by omega),if_pos h];rfl
       ·rw[qo (by exact_mod_cast h),if_neg h];rfl
      ·unfold q4s
       cases q9 (fun j=>(s.1.getD (s.2.1.getD j 0).toNat cd).2.2.1) 0 s.2.1.length<;>rfl
 ·unfold qne
  cases q9 (q56 s.1) 0 s.1.length<;>cases q9 (qu7 s.1.length s.2.2.1) 0 s.2.2.1.length<;>cases inR s.1.length 1 5<;>cases qe1 s.1.length s.2.1 4<;>cases q4s s.1 s.2.1<;>simp[br]
end Go.G

namespace Go.G
open Go Go.V Go.Proofs
instance decCols:DecidableEq (List Col):=inferInstance
instance decIxs:DecidableEq (List qdl):=inferInstance
instance decSchema:DecidableEq qcc:=fun a b=>@instDecidableEqProd _ _ decCols (@instDecidableEqProd _ _ inferInstance (@instDecidableEqProd _ _ decIxs inferInstance)) a b
theorem qbkb (a:qcc):tot qcl a=tot (.sl ColT) a.1+(tot qda a.2.1+(tot (.sl qby) a.2.2.1+0)):=rfl
theorem qbxr (a:Col):tot ColT a=a.1.size:=rfl
theorem qbmw (a:qdl):tot qby a=a.1.size+a.2.1.length:=by
 have h:tot qby a=a.1.size+(tot qda a.2.1+(0+0)):=rfl
 rw[h,q5r];omega
theorem qbwa {s:qcc} (h:tot qcl s≤M):SchSm s:=by
 rw[qbkb,q5r] at h
 have h1:=qod (t:=ColT) s.1
 have h2:=qod (t:=qby) s.2.2.1
 refine ⟨by omega,fun c hc=>?_,by omega,by omega,fun x hx=>?_,fun x hx=>?_⟩
 ·have:=q4n (t:=ColT) hc
  rw[qbxr] at this;omega
 ·have:=q4n (t:=qby) hx
  rw[qbmw] at this;omega
 ·have:=q4n (t:=qby) hx
  rw[qbmw] at this;omega
theorem qbs3 {X:Ext} (hX:XOk X) {n:Nat} (hn:W+4≤n) (a:qcc) (ha:Fit qbm qcl a):qxt (DD X n) a=some ((a,()),()):=by
 obtain ⟨n,rfl⟩:∃ k,n=k+1:=⟨n - 1,by omega⟩
 rw[qbkd hX]
 simp only[qye,q6d]
 rw[qbu9 hX (by omega) _ ha.1,qg,qboq hX (by omega) _ ha.2.1.1,qg,qbta hX (by omega) _ ha.2.2.1,qg]
theorem qbsi {X:Ext} (hX:XOk X) {n:Nat} (hn:W+4≤n) (a b:qcc) (hb:Fit maxLen qcl b):qw8 (DD X n) a b=some ((decide (a=b),()),()):=by
 obtain ⟨n,rfl⟩:∃ k,n=k+1:=⟨n - 1,by omega⟩
 rw[qbje hX]
 simp only[qx3,q6a]
 rw[qbv2 hX (by omega) _ _ hb.1,qg,qbod hX (by omega) _ _ hb.2.1.1,qg,qbsk hX (by omega) _ _ hb.2.2.1,qg]
 obtain ⟨a1,a2,a3,⟨⟩⟩:=a
 obtain ⟨b1,b2,b3,⟨⟩⟩:=b
 by_cases h1:a1=b1<;>by_cases h2:a2=b2<;>by_cases h3:a3=b3<;>simp[h1,h2,h3,br]
theorem qbsx {X:Ext} (hX:XOk X) {n:Nat} (hn:W+4≤n) (a:qcc) (k:Int) (ha:Wf qcl a) (hk:0≤k∧k≤maxLen):qxq (DD X n) a k=some ((left qcl a k,()),()):=by
 obtain ⟨n,rfl⟩:∃ k,n=k+1:=⟨n - 1,by omega⟩
 have hd:=ql
 have ht:=qbkb a
 rw[qbjc hX]
 simp only[qxp,q6b]
 rw[qbu8 hX (by omega) _ _ ha.1 hk,qg];dsimp only
 by_cases h:left (.sl ColT) a.1 k<0
 ·rw[qp h,qec]
  intro h3
  rw[qd2 (by omega)] at h
  omega
 ·obtain ⟨e1,e2⟩:=qff h hk.1
  rw[qo h,e1,qboh hX (by omega) _ _ ha.2.1.1 (by omega),qg];dsimp only
  by_cases h:left qda a.2.1 (k - tot (.sl ColT) a.1)<0
  ·rw[qp h,qec]
   intro h3
   rw[qd2 (by omega)] at h
   omega
  ·obtain ⟨e3,e4⟩:=qff h (by omega)
   rw[qo h,e3,qbsh hX (by omega) _ _ ha.2.2.1 (by omega),qg];dsimp only
   by_cases h:left (.sl qby) a.2.2.1 (k - tot (.sl ColT) a.1 - tot qda a.2.1)<0
   ·rw[qp h,qec]
    intro h3
    rw[qd2 (by omega)] at h
    omega
   ·obtain ⟨e5,e6⟩:=qff h (by omega)
    rw[qo h,e5,qd2 (by omega)]
    congr 3;omega
theorem qbor {X:Ext} (hX:XOk X) {n:Nat} (hn:W+3≤n) (a:qcc) (k:Int) (ha:Fit maxLen qcl a) (hk:0≤k) (h:k+cnt qcl a≤maxLen) :
  qug (DD X n) a k=some (((mkT qcl k a).1,()),((mkT qcl k a).2,())):=by
 obtain ⟨n,rfl⟩:∃ k,n=k+1:=⟨n - 1,by omega⟩
 have hc:cnt qcl a=cnt (.sl ColT) a.1+(cnt qda a.2.1+(cnt (.sl qby) a.2.2.1+0)):=rfl
 have h1:=qdd (.sl ColT) k a.1
 have h2:=qdd qda (mkT (.sl ColT) k a.1).1 a.2.1
 rw[qbe4 hX]
 simp only[qt2,q3t]
 rw[qbs2 hX (by omega) _ _ ha.1.1 hk (by omega),qg];dsimp only
 rw[qbi1 hX (by omega) _ _ (by omega) (by omega),qg];dsimp only
 rw[qboc hX (by omega) _ _ ha.2.2.1.1 (by omega) (by omega),qg]
 rfl
theorem qbp0 {X:Ext} (hX:XOk X) {n:Nat} (hn:W+3≤n) (a:qcc) (k:Int) (ha:Fit maxLen qcl a) (hk:0≤k) (h:k+cnt qcl a≤maxLen) :
  qnz (DD X n) (mkT qcl k a).2 k=some (((mkT qcl k a).1,()),()):=by
 obtain ⟨n,rfl⟩:∃ k,n=k+1:=⟨n - 1,by omega⟩
 have hc:cnt qcl a=cnt (.sl ColT) a.1+(cnt qda a.2.1+(cnt (.sl qby) a.2.2.1+0)):=rfl
 have h1:=qdd (.sl ColT) k a.1
 have h2:=qdd qda (mkT (.sl ColT) k a.1).1 a.2.1
 have h3:=qdd (.sl qby) (mkT qda (mkT (.sl ColT) k a.1).1 a.2.1).1 a.2.2.1
 rw[qbef hX]
 simp only[quv,q3z,mkT]
 have e1:=qbsa hX (n:=n) (by omega) a.1 k ha.1.1 hk (by omega)
 have e2:=qbii hX (n:=n) (by omega) a.2.1 (mkT (.sl ColT) k a.1).1 (by omega) (by omega)
 have e3:=qbof hX (n:=n) (by omega) a.2.2.1 (mkT qda (mkT (.sl ColT) k a.1).1 a.2.1).1 ha.2.2.1.1 (by omega) (by omega)
 simp only[mkT] at e1 e2 e3 h1 h2 h3
 rw[e1,qg];dsimp only
 rw[qo (by omega),e2,qg];dsimp only
 rw[qo (by omega),e3,qg];dsimp only
 rw[qo (by omega)]
theorem fitB {t:Ty} {a:t.den} (h:(tot t a:Int)≤1048576):Fit qbm t a:=qsw (by have:=qdo;omega)
theorem fitM {t:Ty} {a:t.den} (h:(tot t a:Int)≤1048576):Fit maxLen t a:=qsw (by have:=ql;omega)
end Go.G

namespace Go.G
set_option maxRecDepth 100000
open Go Go.V Go.Proofs
abbrev vd:qe:=(0,0,ByteArray.empty,())
abbrev Row:=List qe
def qbo (row:Row) (cols:List Int):Row:=(cols.filter fun c=>inR c 0 ((row.length:Int) - 1)).map fun c=>row.getD c.toNat vd
theorem qpz (row:Row) (cols:List Int):(qbo row cols).length≤cols.length:=by
 unfold qbo;rw[List.length_map];exact List.length_filter_le _ _
theorem qbb1 (row:Row) (c:Int) (cols:List Int):qbo row (c::cols)=if inR c 0 ((row.length:Int) - 1)=true then row.getD c.toNat vd::qbo row cols else qbo row cols:=by
 unfold qbo
 rw[List.filter_cons]
 split<;>simp
theorem qbpm {c:Int} {n:Nat} (h:inR c 0 ((n:Int) - 1)=true):0≤c∧c<n:=by
 simp only[inR,Bool.and_eq_true,decide_eq_true_eq] at h;omega
theorem q2v {X:Ext} (hX:XOk X) (N n:Nat) (hN:1≤N) (K:Row→Option ((Row×Unit)×Unit)) (row:Row) (hr:row.length≤M) (cols:List Int) (hc:cols.length≤M):∀ (m i:Nat) (acc:Row),i≤cols.length→cols.length - i<m→acc.length≤i→
  qjb (DD X N) n K m row cols cols.length (i:Int) acc=K (acc++qbo row (cols.drop i))
 | 0,_,_,_,h,_=>by omega
 | m+1,i,acc,hi,hf,ha=>by
  simp only[qjb,qxc]
  have hM:=qc0
  have hb:=qdo
  by_cases h:i<cols.length
  ·rw[qp (by exact_mod_cast h),ix h,br_t,Int.toNat_natCast,qce (by omega) (by omega),q1x hX hN,qg,qr (by omega),q0 h,qbb1,qbj h]
   dsimp only
   by_cases hin:inR cols[i] 0 ((row.length:Int) - 1)=true
   ·obtain ⟨p1,p2⟩:=qbpm hin
    rw[hin,br_t,ixn p1 p2,br_t,qp (by omega),if_pos rfl]
    refine Eq.trans (q2v hX N n hN K row hr cols hc m (i+1) _ (by omega) (by omega) (by simp;omega)) ?_
    rw[List.append_assoc];rfl
   ·rw[Bool.not_eq_true] at hin
    rw[hin,br_f,if_neg Bool.noConfusion]
    exact q2v hX N n hN K row hr cols hc m (i+1) acc (by omega) (by omega) (by omega)
  ·rw[qo (by exact_mod_cast h),qbb h]
   simp[qbo]
theorem q26 {X:Ext} (hX:XOk X) (N n:Nat) (hN:1≤N) (K:Row→Option ((Row×Unit)×Unit)) (row:Row) (hr:row.length≤M) (cols:List Int) (hc:cols.length≤M):∀ (m i:Nat) (acc:Row),i≤cols.length→cols.length - i<m→acc.length≤i→
  qjh (DD X N) n K m row cols (i:Int) acc=K (acc++qbo row (cols.drop i))
 | 0,_,_,_,h,_=>by omega
 | m+1,i,acc,hi,hf,ha=>by
  simp only[qjh,qyf]
  have hM:=qc0
  have hb:=qdo
  by_cases h:i<cols.length
  ·rw[qp (by exact_mod_cast h),ix h,br_t,Int.toNat_natCast,qce (by omega) (by omega),q2c hX hN,qg,qr (by omega),q0 h,qbb1,qbj h]
   dsimp only
   by_cases hin:inR cols[i] 0 ((row.length:Int) - 1)=true
   ·obtain ⟨p1,p2⟩:=qbpm hin
    rw[hin,br_t,br_t,ixn p1 p2,br_t,qp (by omega),if_pos rfl]
    refine Eq.trans (q26 hX N n hN K row hr cols hc m (i+1) _ (by omega) (by omega) (by simp;omega)) ?_
    rw[List.append_assoc];rfl
   ·rw[Bool.not_eq_true] at hin
    rw[hin,br_f,if_neg Bool.noConfusion]
    exact q26 hX N n hN K row hr cols hc m (i+1) acc (by omega) (by omega) (by omega)
  ·rw[qo (by exact_mod_cast h),qbb h]
   simp[qbo]
theorem q2p {X:Ext} (hX:XOk X) {n:Nat} (hn:W+1≤n) (row:Row) (hr:row.length≤M) (cols:List Int) (hc:cols.length≤M):qoe (DD X n) row cols=some ((qbo row cols,()),()):=by
 obtain ⟨n,rfl⟩:∃ k,n=k+1:=⟨n - 1,by omega⟩
 have hW:=qbn
 have hM:=qc0
 rw[qbl2 hX]
 simp only[q0d,q0v,qv8]
 refine Eq.trans (q2v hX n n (by omega) _ row hr cols hc n 0 [] (by omega) (by omega) (by simp)) ?_
 rfl
theorem q2r {X:Ext} (hX:XOk X) {n:Nat} (hn:W+1≤n) (row:Row) (hr:row.length≤M) (cols:List Int) (hc:cols.length≤M):qn6 (DD X n) row cols=some ((qbo row cols,()),()):=by
 obtain ⟨n,rfl⟩:∃ k,n=k+1:=⟨n - 1,by omega⟩
 have hW:=qbn
 have hM:=qc0
 rw[qbma hX]
 simp only[qz6,q0n,qwh]
 refine Eq.trans (q26 hX n n (by omega) _ row hr cols hc n 0 [] (by omega) (by omega) (by simp)) ?_
 rfl
theorem q07 {X:Ext} (hX:XOk X) {n:Nat} (hn:W+2≤n) (s:qcc) (row:Row) (hr:row.length≤M) (hc:s.2.1.length≤M):qmb (DD X n) s row=some ((qbo row s.2.1,()),()):=by
 obtain ⟨n,rfl⟩:∃ k,n=k+1:=⟨n - 1,by omega⟩
 rw[qbiu hX]
 simp only[qym,q60]
 rw[q2p hX (by omega) row hr _ hc,qg]
theorem q06 {X:Ext} (hX:XOk X) {n:Nat} (hn:W+2≤n) (s:qcc) (row:Row) (hr:row.length≤M) (hc:s.2.1.length≤M):qm7 (DD X n) s row=some ((qbo row s.2.1,()),()):=by
 obtain ⟨n,rfl⟩:∃ k,n=k+1:=⟨n - 1,by omega⟩
 rw[qbko hX]
 simp only[qxe,q6h]
 rw[q2r hX (by omega) row hr _ hc,qg]
def q8m (v:qe):Bool:=decide (v.2.2.1=ByteArray.mk #[])
def qli (v:qe):Bool:=
 bif decide (v.1=0) then decide (v.2.1=0)&&q8m v else
 bif decide (v.1=1) then inR v.2.1 0 1&&q8m v else
 bif decide (v.1=2) then inR v.2.1 (-1000000000000) 1000000000000&&q8m v else
 bif decide (v.1=3) then decide (v.2.1=0)&&decide ((v.2.2.1.size:Int)≤20) else false
theorem qbnm {X:Ext} (hX:XOk X) {n:Nat} (hn:2≤n) (v:qe):qzz (DD X n) v=some ((qli v,()),()):=by
 obtain ⟨n,rfl⟩:∃ k,n=k+1:=⟨n - 1,by omega⟩
 rw[qbl9 hX]
 simp only[qzo,q8c]
 rw[q1x hX (by omega),q1x hX (by omega)]
 simp only[qg,qjn,qgi]
 unfold qli q8m
 cases decide (v.1=0)<;>cases decide (v.1=1)<;>cases decide (v.1=2)<;>cases decide (v.1=3)<;>rfl
theorem qbnn {X:Ext} (hX:XOk X) {n:Nat} (hn:2≤n) (v:qe):q05 (DD X n) v=some ((qli v,()),()):=by
 obtain ⟨n,rfl⟩:∃ k,n=k+1:=⟨n - 1,by omega⟩
 rw[qblx hX]
 simp only[q09,q79]
 rw[q2c hX (by omega),q2c hX (by omega)]
 simp only[qg,qjn,qgi]
 unfold qli q8m
 cases decide (v.1=0)<;>cases decide (v.1=1)<;>cases decide (v.1=2)<;>cases decide (v.1=3)<;>rfl
def q4z (cs:List Col) (row:Row) (i:Nat):Bool:=!qli (row.getD i vd)||(!decide ((row.getD i vd).1=(cs.getD i cd).2.1)&&!(decide ((row.getD i vd).1=0)&&(cs.getD i cd).2.2.1))
def q4h (s:qcc) (row:Row):Bool:=qne s&&(decide (row.length=s.1.length)&&!q9 (q4z s.1 row) 0 row.length)
theorem qbmn (a b:Nat):((a:Int) != (b:Int))=!decide (a=b):=by
 by_cases h:a=b
 ·simp[h]
 ·have:¬ (a:Int)=(b:Int):=by omega
  rw[q0y,decide_eq_false this,decide_eq_false h]
theorem qbqu {X:Ext} (hX:XOk X) {n:Nat} (hn:W+6≤n) (s:qcc) (hs:SchSm s) (row:Row) (hr:row.length≤M):q41 (DD X n) s row=some ((q4h s row,()),()):=by
 obtain ⟨n,rfl⟩:∃ k,n=k+1:=⟨n - 1,by omega⟩
 have hW:=qbn
 have hM:=qc0
 rw[qbpq hX]
 simp only[q5w,q43,qz2]
 rw[q7e hX (by omega) s hs,qg,qbmn]
 dsimp only
 unfold q4h
 cases qne s
 ·rfl
 ·by_cases hl:row.length=s.1.length
  ·rw[decide_eq_true hl]
   refine Eq.trans (qjx (L:=fun m i=>qlr (DD X n) n _ _ m row row.length (i:Int) s) (N:=row.length) (P:=q4z s.1 row)
    (A:=some ((false,()),())) (B:=some ((true,()),())) (fun m i hi=>?_) (m:=n) (by omega)) ?_
   ·simp only[qlr,q2h]
    by_cases h:i<row.length
    ·rw[qp (by exact_mod_cast h),ix h,br_t,ix (i:=i) (hl ▸ h),br_t,Int.toNat_natCast,qbnm hX (by omega),qg,qr (by omega),if_pos h,q0y,qjn,qjn,qbr0]
     rfl
    ·rw[qo (by exact_mod_cast h),if_neg h];rfl
   ·cases q9 (q4z s.1 row) 0 row.length<;>rfl
  ·rw[decide_eq_false hl];rfl
theorem qbrh {X:Ext} (hX:XOk X) {n:Nat} (hn:W+6≤n) (s:qcc) (hs:SchSm s) (row:Row) (hr:row.length≤M):q5l (DD X n) s row=some ((q4h s row,()),()):=by
 obtain ⟨n,rfl⟩:∃ k,n=k+1:=⟨n - 1,by omega⟩
 have hW:=qbn
 have hM:=qc0
 rw[qboj hX]
 simp only[q42,q4u,q0i]
 rw[q7o hX (by omega) s hs,qg,qbmn]
 dsimp only
 unfold q4h
 cases qne s
 ·rfl
 ·by_cases hl:row.length=s.1.length
  ·rw[decide_eq_true hl]
   refine Eq.trans (qjx (L:=fun m i=>qlq (DD X n) n _ _ m row (i:Int) s) (N:=row.length) (P:=q4z s.1 row)
    (A:=some ((false,()),())) (B:=some ((true,()),())) (fun m i hi=>?_) (m:=n) (by omega)) ?_
   ·simp only[qlq,q2u]
    by_cases h:i<row.length
    ·rw[qp (by exact_mod_cast h),ix h,br_t,br_t,ix (i:=i) (hl ▸ h),br_t,br_t,br_t,Int.toNat_natCast,qbnn hX (by omega),qg,qr (by omega),if_pos h,q0y]
     dsimp only[q4z]
     cases qli (row.getD i vd)
     ·rfl
     ·cases decide ((row.getD i vd).1=(s.1.getD i cd).2.1)
      ·cases (s.1.getD i cd).2.2.1
       ·cases decide ((row.getD i vd).1=0)<;>rfl
       ·cases decide ((row.getD i vd).1=0)<;>rfl
      ·rfl
    ·rw[qo (by exact_mod_cast h),if_neg h];rfl
   ·cases q9 (q4z s.1 row) 0 row.length<;>rfl
  ·rw[decide_eq_false hl];rfl
theorem qbkg:∀ (a:List qe),cnt (.sl qu) a=3 * a.length
 | []=>rfl
 | x::a=>by
  have:=qbkg a
  rw[qbuk] at this ⊢
  rw[List.map_cons,List.sum_cons,this,List.length_cons]
  have:cnt qu x=3:=rfl
  omega
theorem qbry {b:Nat} {a:Row} (h:a.length≤b):Fit b (.sl qu) a:=⟨h,fun _ _=>⟨trivial,trivial,trivial,trivial⟩⟩
theorem qbr3 {t:Ty} {k:Int} (hk:0≤k) (a:t.den):¬ (mkT t k a).1<0:=by rw[qdd];omega
theorem qbb8 (a b:qe):qra (Ty.pair (Ty.int IntKind.i64) (Ty.pair (Ty.int IntKind.i64) (Ty.pair Ty.str Ty.unit))) a b=decide (a=b):=by
 obtain ⟨a1,a2,a3,⟨⟩⟩:=a
 obtain ⟨b1,b2,b3,⟨⟩⟩:=b
 have e:∀ x y:ByteArray,(x.toList == y.toList)=decide (x=y):=fun x y=>qgi
 have e2:∀ x y:Int,(x == y)=decide (x=y):=fun x y=>by by_cases h:x=y<;>simp[h]
 simp only[qra,e,e2]
 by_cases h1:a1=b1<;>by_cases h2:a2=b2<;>by_cases h3:a3=b3<;>simp[h1,h2,h3]
end Go.G

namespace Go.G
set_option maxRecDepth 100000
open Go Go.V Go.Proofs
structure XC (X:Ext):Prop where
 ok:XOk X
 cmp:∀ n a b,q37 (DD X (n+1)) a b=some ((scmp a b,()),())
theorem q9d:∀ (a b:List UInt8),(Lib.compareBytes a b<0↔Op.bytesLess a b=true)∧(Lib.compareBytes a b=0↔a=b)
 | [],[]=>by simp[Lib.compareBytes,Op.bytesLess]
 | [],_::_=>by simp[Lib.compareBytes,Op.bytesLess]
 | _::_,[]=>by simp[Lib.compareBytes,Op.bytesLess]
 | x::a,y::b=>by
  obtain ⟨h1,h2⟩:=q9d a b
  simp only[Lib.compareBytes,Op.bytesLess]
  by_cases hxy:x<y
  ·have hne:x≠y:=fun e=>by subst e;exact absurd hxy (UInt8.lt_irrefl x)
   simp[hxy,hne]
  ·by_cases hyx:y<x
   ·have hne:x≠y:=fun e=>by subst e;exact absurd hyx (UInt8.lt_irrefl x)
    simp[hxy,hyx,hne]
   ·have e:x=y:=UInt8.le_antisymm (UInt8.not_lt.1 hyx) (UInt8.not_lt.1 hxy)
    subst e
    simp[hxy,h1,h2]
theorem qbwx (a b:ByteArray):scmp a b<0↔Op.bytesLess a.toList b.toList=true:=by
 unfold scmp
 rw[(q9d _ _).1,ByteArray.toList_eq,ByteArray.toList_eq]
theorem qbwu (a b:ByteArray):scmp a b=0↔a=b:=by
 unfold scmp
 rw[(q9d _ _).2]
 constructor
 ·intro h;cases a;cases b;simp only[ByteArray.mk.injEq];exact Array.toList_inj.1 h
 ·rintro rfl;rfl
def byv (a b:qe):Int:=bif decide (a.1<b.1)||(decide (a.1=b.1)&&decide (a.2.1<b.2.1)) then -1 else bif decide (a.1>b.1)||decide (a.2.1>b.2.1) then 1 else scmp a.2.2.1 b.2.2.1
def vlt (a b:qe):Bool:=bif !decide (a.1=b.1) then decide (a.1<b.1) else bif !decide (a.2.1=b.2.1) then decide (a.2.1<b.2.1) else Op.bytesLess a.2.2.1.toList b.2.2.1.toList
theorem qbuf (a b:qe):(byv a b<0↔vlt a b=true)∧(byv a b=0↔a=b):=by
 obtain ⟨a1,a2,a3,⟨⟩⟩:=a
 obtain ⟨b1,b2,b3,⟨⟩⟩:=b
 have h1:=qbwx a3 b3
 have h2:=qbwu a3 b3
 simp only[byv,vlt]
 by_cases k1:a1<b1
 ·have:¬ a1=b1:=by omega
  simp[k1,this]
 ·by_cases k2:a1=b1
  ·subst k2
   by_cases k3:a2<b2
   ·have:¬ a2=b2:=by omega
    simp[k3,this]
   ·by_cases k4:a2=b2
    ·subst k4
     simp[h1,h2]
    ·have:a2>b2:=by omega
     simp[k3,k4,this]
  ·have:a1>b1:=by omega
   simp[k1,k2,this]
theorem qbtq {X:Ext} (hX:XC X) {n:Nat} (hn:2≤n) (a b:qe):qzv (DD X n) a b=some ((byv a b,()),()):=by
 obtain ⟨n,rfl⟩:∃ k,n=k+2:=⟨n - 2,by omega⟩
 rw[qbl1 hX.ok]
 simp only[q1a,q8l]
 rw[hX.cmp]
 simp only[qg,qjn,qbr0]
 unfold byv
 cases (decide (a.1<b.1)||(decide (a.1=b.1)&&decide (a.2.1<b.2.1)))<;>cases (decide (a.1>b.1)||decide (a.2.1>b.2.1))<;>rfl
theorem qbqt (D:Den ctx) (x y:qe):qcj ctx D (Clo.mk 141 []) [CapV.val (Ty.pair (Ty.int IntKind.i64) (Ty.pair (Ty.int IntKind.i64) (Ty.pair Ty.str Ty.unit))) x,CapV.val (Ty.pair (Ty.int IntKind.i64) (Ty.pair (Ty.int IntKind.i64) (Ty.pair Ty.str Ty.unit))) y] (Ty.int IntKind.i64)=(qzv D x y).bind fun r=>some r.1.1:=by kernel_rfl
def tcmp:Row→Row→Int
 | [],[]=>0
 | [],_::_=>-1
 | _::_,[]=>1
 | x::a,y::b=>if byv x y=0 then tcmp a b else byv x y
def tlt:Row→Row→Bool
 | [],[]=>false
 | [],_::_=>true
 | _::_,[]=>false
 | x::a,y::b=>if x=y then tlt a b else vlt x y
theorem qbrr:∀ (a b:Row),(decide (tcmp a b<0))=tlt a b
 | [],[]=>rfl
 | [],_::_=>rfl
 | _::_,[]=>rfl
 | x::a,y::b=>by
  obtain ⟨h1,h2⟩:=qbuf x y
  simp only[tcmp,tlt]
  by_cases e:x=y
  ·simp only[if_pos (h2.2 e),if_pos e];exact qbrr a b
  ·simp only[if_neg (fun k=>e (h2.1 k)),if_neg e]
   by_cases k:byv x y<0
   ·rw[decide_eq_true k,h1.1 k]
   ·rw[decide_eq_false k]
    cases hv:vlt x y
    ·rfl
    ·exact absurd (h1.2 hv) k
theorem qbm1 {X:Ext} (hX:XC X) (N n:Nat) (hN:2≤N) (a b:Row) (ha:a.length≤M):∀ (m i:Nat),i≤a.length→i≤b.length→a.length - i<m→
  qx (DD X N) n (Clo.mk 141 []) (fun v w u=>qbx (DD X N) n (Clo.mk 141 []) v w u) (fun v w=>qbf (DD X N) n (Clo.mk 141 []) v w) m a b a a.length (i:Int)=some ((tcmp (a.drop i) (b.drop i),()),())
 | 0,_,_,_,h=>by omega
 | m+1,i,hi,hj,hf=>by
  have hM:=qc0
  simp only[qx,qb1]
  by_cases h:i<a.length
  ·rw[qp (by exact_mod_cast h),ix h,br_t,q0 h]
   by_cases h2:i<b.length
   ·rw[qo (by omega),ix h2,br_t,qbqt,Int.toNat_natCast,qbtq hX hN,q0 h2,Option.bind_some,qg,qr (by omega),qbj h,qbj h2,q0y]
    simp only[tcmp]
    by_cases e:byv a[i] b[i]=0
    ·rw[decide_eq_true e,if_pos e,Bool.not_true,br_f]
     exact qbm1 hX N n hN a b ha m (i+1) (by omega) (by omega) (by omega)
    ·rw[decide_eq_false e,if_neg e,Bool.not_false,br_t];rfl
   ·rw[qp (by omega),qbb h2];rfl
  ·rw[qo (by exact_mod_cast h),qbb h]
   simp only[qbf]
   by_cases h2:i<b.length
   ·rw[qp (by omega),q0 h2];rfl
   ·rw[qo (by omega),qbb h2];rfl
theorem qbkl {X:Ext} (hX:XC X) {n:Nat} (hn:W+3≤n) (a b:Row) (ha:a.length≤M):qvp (DD X n) a b=some ((tlt a b,()),()):=by
 obtain ⟨n,rfl⟩:∃ k,n=k+2:=⟨n - 2,by omega⟩
 have hW:=qbn
 have hM:=qc0
 rw[qbgi hX.ok]
 simp only[qv1,q5p]
 have e:qcb (DD X (n+1)) a b (Clo.mk 141 [])=some ((tcmp a b,()),()):=by
  rw[qfy hX.ok]
  simp only[qb9,qca,qb0]
  exact qbm1 hX n n (by omega) a b ha n 0 (by omega) (by omega) (by omega)
 rw[e,qg]
 dsimp only
 rw[qbrr]
theorem qbfq {X:Ext} (hX:XOk X) {n:Nat} (hn:1≤n) (a b:qe):qoo (DD X n) a b=some ((decide (a=b),()),()):=by
 obtain ⟨n,rfl⟩:∃ k,n=k+1:=⟨n - 1,by omega⟩
 rw[qbgh hX]
 simp only[qv5,q5d,qbb8]
theorem qbqq {X:Ext} (hX:XOk X) {n:Nat} (hn:1≤n) (a b:qe):qvg (DD X n) a b=some ((vlt a b,()),()):=by
 obtain ⟨n,rfl⟩:∃ k,n=k+1:=⟨n - 1,by omega⟩
 rw[qbgm hX]
 simp only[qvs,q54,q0y]
 unfold vlt
 cases decide (a.1=b.1)<;>cases decide (a.2.1=b.2.1)<;>rfl
theorem qbia {X:Ext} (hX:XOk X) (N n:Nat) (hN:1≤N) (a b:Row) (ha:a.length≤M):∀ (m i:Nat),i≤a.length→i≤b.length→a.length - i<m→
  qgz (DD X N) n (fun v w u=>qqp (DD X N) n v w u) (fun v w=>qhn (DD X N) n v w) m a b (i:Int)=some ((tlt (a.drop i) (b.drop i),()),())
 | 0,_,_,_,h=>by omega
 | m+1,i,hi,hj,hf=>by
  have hM:=qc0
  simp only[qgz,qth,qjn]
  by_cases h:i<a.length
  ·by_cases h2:i<b.length
   ·rw[decide_eq_true (show (i:Int)<a.length by omega),decide_eq_true (show (i:Int)<b.length by omega)]
    have c0:decide ((0:Int)≤(i:Int))=true:=decide_eq_true (by omega)
    rw[c0,Bool.true_and,br_t,br_t,br_t,qbfq hX hN,qg,Int.toNat_natCast,qr (by omega),q0 h,q0 h2,qbj h,qbj h2]
    simp only[tlt]
    by_cases e:a[i]=b[i]
    ·rw[decide_eq_true e,if_pos e,Bool.not_true,br_f]
     exact qbia hX N n hN a b ha m (i+1) (by omega) (by omega) (by omega)
    ·rw[decide_eq_false e,if_neg e,Bool.not_false,br_t,br_t,br_t,qbqq hX hN,qg];rfl
   ·rw[decide_eq_true (show (i:Int)<a.length by omega),decide_eq_false (show ¬ (i:Int)<b.length by omega),q0 h,qbb h2]
    simp only[Bool.and_false,br_f,qhn,tlt]
    rw[decide_eq_false (by omega)]
  ·rw[decide_eq_false (show ¬ (i:Int)<a.length by omega),qbb h]
   simp only[Bool.false_and,br_f,qhn]
   by_cases h2:i<b.length
   ·rw[decide_eq_true (by omega),q0 h2];rfl
   ·rw[decide_eq_false (by omega),qbb h2];rfl
theorem qbic {X:Ext} (hX:XOk X) {n:Nat} (hn:W+1≤n) (a b:Row) (ha:a.length≤M):qwa (DD X n) a b=some ((tlt a b,()),()):=by
 obtain ⟨n,rfl⟩:∃ k,n=k+1:=⟨n - 1,by omega⟩
 have hW:=qbn
 have hM:=qc0
 rw[qbgu hX]
 simp only[qwq,qvu,qr8]
 exact qbia hX n n (by omega) a b ha n 0 (by omega) (by omega) (by omega)
theorem qbtd {X:Ext} (hX:XOk X) (N n:Nat) (hN:1≤N) (a b:Row) (ha:a.length≤M):∀ (m i:Nat),i≤a.length→i≤b.length→a.length - i<m→
  qi6 (DD X N) n (fun v w u=>qt4 (DD X N) n v w u) (fun v w=>qjt (DD X N) n v w) m a b (i:Int)=some ((decide (a.drop i=b.drop i),()),())
 | 0,_,_,_,h=>by omega
 | m+1,i,hi,hj,hf=>by
  have hM:=qc0
  simp only[qi6,qyu,qjn]
  by_cases h:i<a.length
  ·by_cases h2:i<b.length
   ·rw[decide_eq_true (show (i:Int)<a.length by omega),decide_eq_true (show (i:Int)<b.length by omega)]
    have c0:decide ((0:Int)≤(i:Int))=true:=decide_eq_true (by omega)
    rw[c0,Bool.true_and,br_t,br_t,br_t,qbfq hX hN,qg,Int.toNat_natCast,qr (by omega),q0 h,q0 h2,qbj h,qbj h2]
    by_cases e:a[i]=b[i]
    ·rw[decide_eq_true e,Bool.not_true,br_f]
     refine Eq.trans (qbtd hX N n hN a b ha m (i+1) (by omega) (by omega) (by omega)) ?_
     simp only[e,List.cons.injEq,true_and]
    ·rw[decide_eq_false e,Bool.not_false,br_t]
     simp only[e,List.cons.injEq,false_and,decide_false];rfl
   ·rw[decide_eq_true (show (i:Int)<a.length by omega),decide_eq_false (show ¬ (i:Int)<b.length by omega),q0 h,qbb h2]
    simp only[Bool.and_false,br_f,qjt]
    rw[decide_eq_false (by omega)];simp[h]
  ·rw[decide_eq_false (show ¬ (i:Int)<a.length by omega),qbb h]
   simp only[Bool.false_and,br_f,qjt]
   by_cases h2:i<b.length
   ·rw[decide_eq_false (by omega),q0 h2];simp[h2]
   ·rw[decide_eq_true (by omega),qbb h2];simp
theorem qbm0 {X:Ext} (hX:XOk X) {n:Nat} (hn:W+1≤n) (a b:Row) (ha:a.length≤M):qs0 (DD X n) a b=some ((decide (a=b),()),()):=by
 obtain ⟨n,rfl⟩:∃ k,n=k+1:=⟨n - 1,by omega⟩
 have hW:=qbn
 have hM:=qc0
 rw[qbmd hX]
 simp only[qzq,q00,qv3]
 exact qbtd hX n n (by omega) a b ha n 0 (by omega) (by omega) (by omega)
theorem qbvj {a b:Row} (hl:a.length=b.length):q9 (fun i=>!decide (a.getD i vd=b.getD i vd)) 0 a.length=!decide (a=b):=by
 by_cases e:a=b
 ·rw[decide_eq_true e,qlg.2 (fun j _ _=>by rw[e];simp)];rfl
 ·rw[decide_eq_false e]
  show _=true
  rw[←Bool.not_eq_false]
  intro hf
  apply e
  apply List.ext_getElem hl
  intro i h1 h2
  have:=qlg.1 hf i (by omega) (by omega)
  rw[qbj h1,qbj h2] at this
  simpa using this
theorem qbrm {X:Ext} (hX:XOk X) {n:Nat} (hn:W+1≤n) (a b:Row) (ha:a.length≤M):qdb (DD X n) a b=some ((decide (a=b),()),()):=by
 obtain ⟨n,rfl⟩:∃ k,n=k+1:=⟨n - 1,by omega⟩
 have hM:=qc0
 have hW:=qbn
 rw[qsg hX]
 simp only[qet,qen,qd9]
 rw[qbmn]
 by_cases hl:a.length=b.length
 ·rw[decide_eq_true hl,Bool.not_true,br_f]
  refine Eq.trans (qjx (L:=fun m i=>qb7 (DD X n) n _ _ m a b a.length (i:Int)) (N:=a.length) (P:=fun i=>!decide (a.getD i vd=b.getD i vd))
   (A:=some ((false,()),())) (B:=some ((true,()),())) (fun m i hi=>?_) (m:=n) (by omega)) ?_
  ·simp only[qb7,qeh]
   by_cases h:i<a.length
   ·rw[qp (by exact_mod_cast h),ix h,br_t,ix (hl ▸ h),br_t,Int.toNat_natCast,qbb8,qr (by omega),if_pos h];rfl
   ·rw[qo (by exact_mod_cast h),if_neg h];rfl
  ·rw[qbvj hl]
   cases decide (a=b)<;>rfl
 ·have:¬ a=b:=fun e=>hl (by rw[e])
  rw[decide_eq_false hl,decide_eq_false this];rfl
def hasV (l:Row) (x:qe):Bool:=q9 (fun j=>decide (x=l.getD j vd)) 0 l.length
theorem qbrj {X:Ext} (hX:XOk X) {n:Nat} (hn:W+2≤n) (l:Row) (x:qe) (hl:l.length≤M):qd4 (DD X n) l x=some ((hasV l x,()),()):=by
 obtain ⟨n,rfl⟩:∃ k,n=k+2:=⟨n - 2,by omega⟩
 have hM:=qc0
 have hW:=qbn
 rw[qpw hX]
 simp only[qd3,qhi]
 have e:qew (DD X (n+1)) l x=some ((match qbw (fun j=>decide (x=l.getD j vd)) 0 l.length with | some j=>(j:Int) | none=>-1,()),()):=by
  rw[qr1 hX]
  simp only[qeu,qes,qea]
  refine Eq.trans (q2a (L:=fun m i=>qb6 (DD X n) n _ _ m l l.length (i:Int) x) (N:=l.length) (P:=fun j=>decide (x=l.getD j vd))
   (A:=fun j=>some (((j:Int),()),())) (B:=some ((-1,()),())) (fun m i hi=>?_) (m:=n) (by omega)) ?_
  ·simp only[qb6,qef]
   by_cases h:i<l.length
   ·rw[qp (by exact_mod_cast h),ix h,br_t,Int.toNat_natCast,qr (by omega),if_pos h,qbb8];rfl
   ·rw[qo (by exact_mod_cast h),if_neg h];rfl
  ·cases qbw (fun j=>decide (x=l.getD j vd)) 0 l.length<;>rfl
 rw[e,qg]
 congr 3
 exact q6m _ _
def q71 (l:Row):Bool:=q9 (fun j=>decide ((l.getD j vd).1=0)) 0 l.length
theorem qbt6 {X:Ext} (hX:XOk X) {n:Nat} (hn:W+1≤n) (l:Row) (hl:l.length≤M):q0h (DD X n) l=some ((q71 l,()),()):=by
 obtain ⟨n,rfl⟩:∃ k,n=k+1:=⟨n - 1,by omega⟩
 have hM:=qc0
 have hW:=qbn
 rw[qblu hX]
 simp only[q0u,qzm,qv4]
 refine Eq.trans (qjx (L:=fun m i=>qji (DD X n) n _ _ m l (i:Int)) (N:=l.length) (P:=fun j=>decide ((l.getD j vd).1=0))
  (A:=some ((true,()),())) (B:=some ((false,()),())) (fun m i hi=>?_) (m:=n) (by omega)) ?_
 ·simp only[qji,qya]
  by_cases h:i<l.length
  ·rw[qp (by exact_mod_cast h),ix h,br_t,Int.toNat_natCast,qr (by omega),if_pos h];rfl
  ·rw[qo (by exact_mod_cast h),if_neg h];rfl
 ·unfold q71
  cases q9 (fun j=>decide ((l.getD j vd).1=0)) 0 l.length<;>rfl
theorem qbw7 {v:qe} (h:qli v=true):decide (vd=v)=decide (v.1=0):=by
 obtain ⟨v1,v2,v3,⟨⟩⟩:=v
 by_cases h0:v1=0
 ·subst h0
  simp only[qli,q8m,decide_true,cond_true,Bool.and_eq_true,decide_eq_true_eq] at h
  obtain ⟨rfl,rfl⟩:=h
  rfl
 ·have:¬ vd=(v1,v2,v3,()):=fun e=>h0 (by rw[←(Prod.mk.inj e).1])
  rw[decide_eq_false this,decide_eq_false h0]
theorem qbt4 {l:Row} (h:∀ v∈l,qli v=true):hasV l vd=q71 l:=
 qu8 fun j _ hj=>qbw7 (h _ (qeq (by omega)))
theorem qbqo {row:Row} {cols:List Int}:∀ v∈qbo row cols,v∈row:=by
 intro v hv
 unfold qbo at hv
 obtain ⟨c,hc,rfl⟩:=List.mem_map.1 hv
 have:=qbpm (List.mem_filter.1 hc).2
 exact qeq (by omega)
def qzw (xs:List qdl) (a b:Row) (i:Nat):Bool:=(xs.getD i xd).2.2.1&&(decide (qbo a (xs.getD i xd).2.1=qbo b (xs.getD i xd).2.1)&&!q71 (qbo a (xs.getD i xd).2.1))
def q1l (s:qcc) (a b:Row):Bool:=q9 (qzw s.2.2.1 a b) 0 s.2.2.1.length
theorem qbs4 (s:qcc) (a b:Row):q1l s a b=q1l s b a:=by
 refine qu8 fun j _ _=>?_
 unfold qzw
 by_cases e:qbo a (s.2.2.1.getD j xd).2.1=qbo b (s.2.2.1.getD j xd).2.1
 ·rw[decide_eq_true e,decide_eq_true e.symm,e]
 ·rw[decide_eq_false e,decide_eq_false fun k=>e k.symm];simp
theorem qbul (D:Den ctx) (a b:Row) (x:qdl):qcj ctx D (Clo.mk 143 [CapV.rptr (Ty.sl (Ty.pair (Ty.int IntKind.i64) (Ty.pair (Ty.int IntKind.i64) (Ty.pair Ty.str Ty.unit)))) a,CapV.rptr (Ty.sl (Ty.pair (Ty.int IntKind.i64) (Ty.pair (Ty.int IntKind.i64) (Ty.pair Ty.str Ty.unit)))) b]) [CapV.val (Ty.pair Ty.str (Ty.pair (Ty.sl (Ty.int IntKind.i64)) (Ty.pair Ty.bool Ty.unit))) x] Ty.bool=(q7l D x a b).bind fun r=>some r.1.1:=by kernel_rfl
theorem qbqs {X:Ext} (hX:XOk X) {n:Nat} (hn:W+6≤n) (s:qcc) (hs:SchSm s) (a b:Row) (ha:a.length≤M) (hb:b.length≤M) (hv:∀ v∈a,qli v=true):q4y (DD X n) s a b=some ((q1l s a b,()),()):=by
 obtain ⟨n,rfl⟩:∃ k,n=k+1:=⟨n - 1,by omega⟩
 have hM:=qc0
 have hd:=ql
 have h2:=hs.ixs
 rw[qbpy hX]
 simp only[q45,qbcg]
 rw[qbfp hX (n:=n) (by omega) _ (by omega) _ (qzw s.2.2.1 a b) (fun i hi=>by
  have hc:=hs.ixc _ (qeq (d:=xd) hi)
  obtain ⟨n,rfl⟩:∃ k,n=k+3:=⟨n - 3,by omega⟩
  rw[qbul,show n+3 - 2=n+1 from rfl,qblk hX]
  simp only[qz4,q7p]
  have p1:=q2p hX (n:=n) (by omega) a ha (s.2.2.1.getD i xd).2.1 hc
  have p2:=q2p hX (n:=n) (by omega) b hb (s.2.2.1.getD i xd).2.1 hc
  have l1:=qpz a (s.2.2.1.getD i xd).2.1
  have p3:=qbrj hX (n:=n) (by omega) (qbo a (s.2.2.1.getD i xd).2.1) vd (by omega)
  have p4:=qbrm hX (n:=n) (by omega) (qbo a (s.2.2.1.getD i xd).2.1) (qbo b (s.2.2.1.getD i xd).2.1) (by omega)
  rw[p1,qg]
  dsimp only
  rw[p2,p3]
  simp only[qg]
  rw[p4,qg,qbt4 (fun v h=>hv v (qbqo v h))]
  unfold qzw
  cases (s.2.2.1.getD i xd).2.2.1
  ·rfl
  ·cases q71 (qbo a (s.2.2.1.getD i xd).2.1)<;>simp[br]),qg]
 rfl
theorem qbq4 {X:Ext} (hX:XOk X) {n:Nat} (hn:W+3≤n) (s:qcc) (hs:SchSm s) (a b:Row) (ha:a.length≤M) (hb:b.length≤M):qx8 (DD X n) s a b=some ((q1l s a b,()),()):=by
 obtain ⟨n,rfl⟩:∃ k,n=k+1:=⟨n - 1,by omega⟩
 have hM:=qc0
 have hW:=qbn
 have h2:=hs.ixs
 rw[qbjx hX]
 simp only[qxr,qx2,quq]
 refine Eq.trans (qjx (L:=fun m i=>qh1 (DD X n) n _ _ m a b (i:Int) s) (N:=s.2.2.1.length) (P:=qzw s.2.2.1 a b)
  (A:=some ((true,()),())) (B:=some ((false,()),())) (fun m i hi=>?_) (m:=n) (by omega)) ?_
 ·simp only[qh1,qvm]
  by_cases h:i<s.2.2.1.length
  ·have hc:=hs.ixc _ (qeq (d:=xd) h)
   have p1:=q2r hX (n:=n) (by omega) a ha (s.2.2.1.getD i xd).2.1 hc
   have p2:=q2r hX (n:=n) (by omega) b hb (s.2.2.1.getD i xd).2.1 hc
   have l1:=qpz a (s.2.2.1.getD i xd).2.1
   have p3:=qbt6 hX (n:=n) (by omega) (qbo a (s.2.2.1.getD i xd).2.1) (by omega)
   have p4:=qbm0 hX (n:=n) (by omega) (qbo a (s.2.2.1.getD i xd).2.1) (qbo b (s.2.2.1.getD i xd).2.1) (by omega)
   rw[qp (by exact_mod_cast h),ix h,br_t,Int.toNat_natCast,p1,qg]
   dsimp only
   rw[p2,qg]
   dsimp only
   rw[p3,p4,qr (by omega),if_pos h]
   simp only[qg]
   unfold qzw
   cases (s.2.2.1.getD i xd).2.2.1
   ·rfl
   ·cases decide (qbo a (s.2.2.1.getD i xd).2.1=qbo b (s.2.2.1.getD i xd).2.1)
    ·rfl
    ·cases q71 (qbo a (s.2.2.1.getD i xd).2.1)<;>rfl
  ·rw[qo (by exact_mod_cast h),if_neg h];rfl
 ·unfold q1l
  cases q9 (qzw s.2.2.1 a b) 0 s.2.2.1.length<;>rfl
end Go.G

namespace Go.G
set_option maxRecDepth 100000
open Go Go.V Go.Proofs
abbrev Rel:=qcc×List Row×Unit
abbrev RelT:Ty:=.pair qcl (.pair (.sl (Ty.sl qu)) .unit)
theorem qbf9 (D:Den ctx) (n:Nat) (K0:Bool→Option ((Bool×Unit)×Unit)) (K1:Option ((Bool×Unit)×Unit)):∀ (m i:Nat) (a b:List Row),(∀ x y,y∈b→qmy D x y=some ((decide (x=y),()),()))→
  a.length=b.length→a.length≤maxLen→i≤a.length→a.length - i<m→qg0 D n K0 K1 m a b i=if a.drop i=b.drop i then K1 else K0 false
 | 0,_,_,_,_,_,_,_,h=>by omega
 | m+1,i,a,b,he,hl,hm,hi,hk=>by
  simp only[qg0,qt5]
  have hd:=ql
  by_cases h:i<a.length
  ·rw[qp (by exact_mod_cast h),ix h,br_t,ix (hl ▸ h),br_t,qr (by omega),Int.toNat_natCast,qbj h,qbj (hl ▸ h),he _ _ (List.getElem_mem _),qg,q0 h,q0 (hl ▸ h:i<b.length)]
   by_cases e:a[i]=b[i]'(hl ▸ h)
   ·simp only[e,decide_true,Bool.not_true,br_f,List.cons.injEq,true_and]
    exact qbf9 D n K0 K1 m (i+1) a b he hl hm (by omega) (by omega)
   ·simp only[e,decide_false,Bool.not_false,br_t,List.cons.injEq,false_and,if_false]
  ·rw[qo (by exact_mod_cast h),qbb h,qbb (hl ▸ h)];rfl
theorem qbqp {X:Ext} (hX:XOk X) {n:Nat} (hn:W+4≤n) (a b:List Row) (hb:Fit maxLen (.sl (Ty.sl qu)) b):qvt (DD X n) a b=some ((decide (a=b),()),()):=by
 obtain ⟨n,rfl⟩:∃ k,n=k+1:=⟨n - 1,by omega⟩
 have hb1:b.length≤maxLen:=hb.1
 rw[qbhg hX]
 simp only[qvd,qwm,qsr]
 by_cases h:a.length=b.length
 ·have e:((a.length:Int) != (b.length:Int))=false:=by simp[h]
  rw[e,br_f]
  have:=qbf9 (DD X n) n (fun v=>qk1 (DD X n) n v) (qk6 (DD X n) n) n 0 a b (fun x y hy=>qbju hX (by omega) x y (hb.2 y hy)) h (by omega) (by omega) (by have:=qbn;have:=ql;omega)
  rw[show ((0:Nat):Int)=0 from rfl] at this
  rw[this]
  simp only[List.drop_zero,qk1,qk6]
  by_cases h:a=b<;>simp[h]
 ·have e:((a.length:Int) != (b.length:Int))=true:=by simp;omega
  have:a≠b:=fun h2=>h (by rw[h2])
  rw[e,br_t];simp[this]
theorem qbfx (D:Den ctx) (n:Nat) (K:List Row→Option ((List Row×Unit)×Unit)):∀ (m i:Nat) (a c:List Row),(∀ x∈a,qe4 D x=some ((x,()),()))→a.length=c.length→a.length≤maxLen→i≤a.length→a.length - i<m→
  qg6 D n K m a i c=K (c.take i++a.drop i)
 | 0,_,_,_,_,_,_,_,h=>by omega
 | m+1,i,a,c,he,hl,hm,hi,hk=>by
  simp only[qg6,qub]
  have hd:=ql
  by_cases h:i<a.length
  ·rw[qp (by exact_mod_cast h),ix h,br_t,Int.toNat_natCast,qbj h,he _ (List.getElem_mem _),qg,ix (hl ▸ h),br_t,qr (by omega)]
   have e:=qbfx D n K m (i+1) a (c.set i a[i]) he (by simp[hl]) hm (by omega) (by omega)
   rw[q0 h]
   refine Eq.trans e ?_
   rw[qnf (hl ▸ h),List.append_assoc];rfl
  ·rw[qo (by exact_mod_cast h),qbb h,List.take_of_length_le (by omega),List.append_nil]
theorem qbqx {X:Ext} (hX:XOk X) {n:Nat} (hn:W+4≤n) (a:List Row) (ha:Fit qbm (.sl (Ty.sl qu)) a):qwd (DD X n) a=some ((a,()),()):=by
 obtain ⟨n,rfl⟩:∃ k,n=k+1:=⟨n - 1,by omega⟩
 have ha1:a.length≤qbm:=ha.1
 rw[qbhj hX]
 simp only[qvx,qvz,qsc]
 rw[q7v ha1,br_t]
 have h1:=qdo
 have:=qbfx (DD X n) n (fun v=>qk3 (DD X n) n v) n 0 a (List.replicate (Int.toNat (a.length:Int)) []) (fun x hx=>qbh4 hX (by omega) x (ha.2 x hx)) (by simp) (by rw[ql];omega) (by omega) (by have:=qbn;omega)
 rw[show ((0:Nat):Int)=0 from rfl] at this
 rw[this]
 simp only[List.take_zero,List.drop_zero,List.nil_append,qk3]
theorem qbfu (D:Den ctx) (n:Nat) (K0:Int→Int→Option ((Int×Unit)×Unit)) (K1:Int→Option ((Int×Unit)×Unit)) (hK:∀ k,K1 k=some ((k,()),())) (hK0:∀ k,K0 k (-1)=some ((-1,()),())):∀ (m i:Nat) (k:Int) (a:List Row),
  (∀ x∈a,∀ k:Int,0≤k→k≤maxLen→qmo D x k=some ((left (Ty.sl qu) x k,()),()))→a.length≤maxLen→i≤a.length→a.length - i<m→0≤k→k≤maxLen→
  qgx D n K0 K1 m a k i=some ((if (((a.drop i).map (tot (Ty.sl qu))).sum:Int)≤k then k - ((a.drop i).map (tot (Ty.sl qu))).sum else -1,()),())
 | 0,_,_,_,_,_,_,h,_,_=>by omega
 | m+1,i,k,a,he,hm,hi,hf,h0,h1=>by
  simp only[qgx,qtg]
  have hd:=ql
  by_cases h:i<a.length
  ·rw[qp (by exact_mod_cast h),ix h,br_t,Int.toNat_natCast,qbj h,he _ (List.getElem_mem _) k h0 h1,qg,qr (by omega),qi1 h]
   by_cases h2:left (Ty.sl qu) a[i] k<0
   ·rw[qp h2,hK0,if_neg]
    intro h3
    rw[qd2 (by omega)] at h2
    omega
   ·obtain ⟨e1,e2⟩:=qff h2 h0
    rw[qo h2,e1];dsimp only
    rw[qbfu D n K0 K1 hK hK0 m (i+1) _ a he hm (by omega) (by omega) (by omega) (by omega)]
    congr 3
    push_cast
    split<;>split<;>omega
  ·rw[qo (by exact_mod_cast h),qbb h,hK]
   simp[h0]
theorem qbrf {X:Ext} (hX:XOk X) {n:Nat} (hn:W+4≤n) (a:List Row) (k:Int) (ha:Wf (.sl (Ty.sl qu)) a) (hk:0≤k∧k≤maxLen):qvn (DD X n) a k=some ((left (.sl (Ty.sl qu)) a k,()),()):=by
 obtain ⟨n,rfl⟩:∃ k,n=k+1:=⟨n - 1,by omega⟩
 have hd:=ql
 have w1:a.length≤maxLen:=ha.1
 have hts:=qod (t:=(Ty.sl qu)) a
 rw[qbgt hX]
 simp only[qwr,qvk,qrx]
 rw[qce (by omega) (by omega)]
 by_cases h:k - (a.length:Int)<0
 ·rw[qp h,qec (by omega)]
 ·rw[qo h]
  have:=qbfu (DD X n) n (fun v w=>qqk (DD X n) n v w) (fun v=>qp9 (DD X n) n v) (fun _=>rfl) (fun _=>rfl) n 0 (k - a.length) a
   (fun x hx k h0 h1=>qbio hX (by omega) x k (ha.2 x hx) ⟨h0,h1⟩) w1 (by omega) (by have:=qbn;omega) (by omega) (by omega)
  rw[show ((0:Nat):Int)=0 from rfl] at this
  rw[this,List.drop_zero]
  by_cases h2:(tot (.sl (Ty.sl qu)) a:Int)≤k
  ·rw[qd2 h2,if_pos (by omega)];congr 3;omega
  ·rw[qec h2,if_neg (by omega)]
theorem qbpj {X:Ext} (hX:XOk X) (N n:Nat) (hN:W+2≤N) (K:Int→List Row→Option ((Int×Unit)×List Row×Unit)):∀ (m i:Nat) (k:Int) (a:List Row),a.length≤maxLen→(∀ x∈a,x.length≤maxLen)→i≤a.length→a.length - i<m→0≤k→k+((a.drop i).map (cnt (Ty.sl qu))).sum≤maxLen→
  qfb (DD X N) n K m k i a=K (mkL (mkT (Ty.sl qu)) k (a.drop i)).1 (a.take i++(mkL (mkT (Ty.sl qu)) k (a.drop i)).2)
 | 0,_,_,_,_,_,_,h,_,_=>by omega
 | m+1,i,k,a,hm,hmm,hi,hf,hk,hkl=>by
  simp only[qfb,qql]
  have hd:=ql
  by_cases h:i<a.length
  ·rw[qi1 h] at hkl
   have hc1:=qdd (Ty.sl qu) k a[i]
   have t1:=qbcy hX hN a[i] k (hmm _ (List.getElem_mem h)) hk (by omega)
   have wi:IntKind.wrap IntKind.i64 ((i:Int)+1)=((i+1:Nat):Int):=qr (by omega)
   rw[qp (by exact_mod_cast h)]
   simp only[ix h,br_t,wi,qg,List.length_set,Int.toNat_natCast,qbj h,t1]
   refine Eq.trans (qbp9 rfl) ?_
   have hml:(mkT (Ty.sl qu) k a[i]).2.length=a[i].length:=q4o k a[i]
   have e:=qbpj hX N n hN K m (i+1) (mkT (Ty.sl qu) k a[i]).1 (a.set i (mkT (Ty.sl qu) k a[i]).2) (by simpa using hm) (fun x hx=>by
    rcases List.mem_or_eq_of_mem_set hx with hx | rfl
    ·exact hmm x hx
    ·rw[hml];exact hmm _ (List.getElem_mem h)) (by simp;omega) (by simp;omega) (by omega) (by rw[List.drop_set_of_lt (by omega)];omega)
   refine Eq.trans e ?_
   rw[qnf h,q0 h,List.drop_set_of_lt (by omega),List.append_assoc]
   rfl
  ·rw[qo (by exact_mod_cast h),qbb h,List.take_of_length_le (by omega)]
   simp only[mkL,List.append_nil]
theorem qbnl {X:Ext} (hX:XOk X) {n:Nat} (hn:W+3≤n) (a:List Row) (k:Int) (ha:a.length≤maxLen) (hr:∀ x∈a,x.length≤maxLen) (hk:0≤k) (h:k+cnt (.sl (Ty.sl qu)) a≤maxLen) :
  qsl (DD X n) a k=some (((mkT (.sl (Ty.sl qu)) k a).1,()),((mkT (.sl (Ty.sl qu)) k a).2,())):=by
 obtain ⟨n,rfl⟩:∃ k,n=k+1:=⟨n - 1,by omega⟩
 have hd:=ql
 rw[qbct hX]
 simp only[qss,qr3,qop]
 have:=qbpj hX n n (by omega) (fun v w=>qi5 (DD X n) n v w) n 0 k a ha hr (by omega) (by have:=qbn;omega) hk (by rw[List.drop_zero];exact h)
 rw[show ((0:Nat):Int)=0 from rfl] at this
 rw[this]
 simp only[List.take_zero,List.drop_zero,List.nil_append,qi5,mkT]
theorem qbps {X:Ext} (hX:XOk X) (N n:Nat) (hN:W+2≤N) (K0:Int→Int→Option ((Int×Unit)×Unit)) (K1:Int→Option ((Int×Unit)×Unit)):∀ (m i:Nat) (k:Int) (a l:List Row),a.length≤maxLen→(∀ x∈l,x.length≤maxLen)→i≤a.length→a.length - i<m→0≤k→k+(l.map (cnt (Ty.sl qu))).sum≤maxLen→
  a.drop i=(mkL (mkT (Ty.sl qu)) k l).2→qe8 (DD X N) n K0 K1 m a k i=K1 (mkL (mkT (Ty.sl qu)) k l).1
 | 0,_,_,_,_,_,_,_,h,_,_,_=>by omega
 | m+1,i,k,a,l,hm,hmm,hi,hf,hk,hkl,hl=>by
  simp only[qe8,qqe]
  have hd:=ql
  by_cases h:i<a.length
  ·rw[q0 h] at hl
   cases l with
   | nil=>simp[mkL] at hl;omega
   | cons x l=>
    simp only[mkL,List.cons.injEq] at hl
    obtain ⟨hx,hl⟩:=hl
    simp only[List.map_cons,List.sum_cons] at hkl
    have hc1:=qdd (Ty.sl qu) k x
    have t1:=qbpz hX hN x k (hmm _ (List.mem_cons_self ..)) hk (by omega)
    have wi:IntKind.wrap IntKind.i64 ((i:Int)+1)=((i+1:Nat):Int):=qr (by omega)
    rw[qp (by exact_mod_cast h)]
    simp only[ix h,br_t,Int.toNat_natCast,qbj h,hx,t1,wi,qg]
    rw[qo (by omega)]
    exact qbps hX N n hN K0 K1 m (i+1) (mkT (Ty.sl qu) k x).1 a l hm (fun y hy=>hmm y (List.mem_cons_of_mem _ hy)) (by omega) (by omega) (by omega) (by omega) hl
  ·rw[qo (by exact_mod_cast h)]
   rw[qbb h] at hl
   cases l with
   | nil=>rfl
   | cons x l=>simp[mkL] at hl
theorem qbno {X:Ext} (hX:XOk X) {n:Nat} (hn:W+3≤n) (a:List Row) (k:Int) (ha:a.length≤maxLen) (hr:∀ x∈a,x.length≤maxLen) (hk:0≤k) (h:k+cnt (.sl (Ty.sl qu)) a≤maxLen) :
  qma (DD X n) (mkT (.sl (Ty.sl qu)) k a).2 k=some (((mkT (.sl (Ty.sl qu)) k a).1,()),()):=by
 obtain ⟨n,rfl⟩:∃ k,n=k+1:=⟨n - 1,by omega⟩
 have hd:=ql
 rw[qbcx hX]
 simp only[qrz,qrk,qot]
 have hml:(mkT (.sl (Ty.sl qu)) k a).2.length=a.length:=q4o k a
 have:=qbps hX n n (by omega) (fun v w=>qn8 (DD X n) n v w) (fun v=>qja (DD X n) n v) n 0 k (mkT (.sl (Ty.sl qu)) k a).2 a (by omega) hr (by omega) (by have:=qbn;omega) hk h (by simp[mkT])
 rw[show ((0:Nat):Int)=0 from rfl] at this
 rw[this]
 simp only[qja,mkT]
instance decRows:DecidableEq (List Row):=inferInstance
instance decRel:DecidableEq Rel:=fun a b=>@instDecidableEqProd _ _ decSchema (@instDecidableEqProd _ _ decRows inferInstance) a b
theorem qbdo (a:Rel):tot RelT a=tot qcl a.1+(tot (.sl (Ty.sl qu)) a.2.1+0):=rfl
theorem qbxi {X:Ext} (hX:XOk X) {n:Nat} (hn:W+5≤n) (a:Rel) (ha:Fit qbm RelT a):qgw (DD X n) a=some ((a,()),()):=by
 obtain ⟨n,rfl⟩:∃ k,n=k+1:=⟨n - 1,by omega⟩
 rw[qbd0 hX]
 simp only[qt1,q3n]
 rw[qbs3 hX (by omega) _ ha.1,qg,qbqx hX (by omega) _ ha.2.1,qg]
theorem qbrx {X:Ext} (hX:XOk X) {n:Nat} (hn:W+5≤n) (a b:Rel) (hb:Fit maxLen RelT b):qhd (DD X n) a b=some ((decide (a=b),()),()):=by
 obtain ⟨n,rfl⟩:∃ k,n=k+1:=⟨n - 1,by omega⟩
 rw[qbej hX]
 simp only[quw,q3q]
 rw[qbsi hX (by omega) _ _ hb.1,qg,qbqp hX (by omega) _ _ hb.2.1,qg]
 obtain ⟨a1,a2,⟨⟩⟩:=a
 obtain ⟨b1,b2,⟨⟩⟩:=b
 by_cases h1:a1=b1<;>by_cases h2:a2=b2<;>simp[h1,h2,br]
theorem qbw5 {X:Ext} (hX:XOk X) {n:Nat} (hn:W+5≤n) (a:Rel) (k:Int) (ha:Wf RelT a) (hk:0≤k∧k≤maxLen):quj (DD X n) a k=some ((left RelT a k,()),()):=by
 obtain ⟨n,rfl⟩:∃ k,n=k+1:=⟨n - 1,by omega⟩
 have hd:=ql
 have ht:=qbdo a
 rw[qbeb hX]
 simp only[qto,q3o]
 rw[qbsx hX (by omega) _ _ ha.1 hk,qg];dsimp only
 by_cases h:left qcl a.1 k<0
 ·rw[qp h,qec]
  intro h3
  rw[qd2 (by omega)] at h
  omega
 ·obtain ⟨e1,e2⟩:=qff h hk.1
  rw[qo h,e1,qbrf hX (by omega) _ _ ha.2.1 (by omega),qg];dsimp only
  by_cases h:left (.sl (Ty.sl qu)) a.2.1 (k - tot qcl a.1)<0
  ·rw[qp h,qec]
   intro h3
   rw[qd2 (by omega)] at h
   omega
  ·obtain ⟨e3,e4⟩:=qff h (by omega)
   rw[qo h,e3,qd2 (by omega)]
   congr 3;omega
theorem qbnf {X:Ext} (hX:XOk X) {n:Nat} (hn:W+4≤n) (a:Rel) (k:Int) (ha:Fit maxLen RelT a) (hk:0≤k) (h:k+cnt RelT a≤maxLen) :
  qla (DD X n) a k=some (((mkT RelT k a).1,()),((mkT RelT k a).2,())):=by
 obtain ⟨n,rfl⟩:∃ k,n=k+1:=⟨n - 1,by omega⟩
 have hc:cnt RelT a=cnt qcl a.1+(cnt (.sl (Ty.sl qu)) a.2.1+0):=rfl
 have h1:=qdd qcl k a.1
 rw[qbaf hX]
 simp only[qqh,qze]
 rw[qbor hX (by omega) _ _ ha.1 hk (by omega),qg];dsimp only
 rw[qbnl hX (by omega) _ _ ha.2.1.1 (fun x hx=>(ha.2.1.2 x hx).1) (by omega) (by omega),qg]
 rfl
theorem qbtn {X:Ext} (hX:XOk X) {n:Nat} (hn:W+4≤n) (a:Rel) (k:Int) (ha:Fit maxLen RelT a) (hk:0≤k) (h:k+cnt RelT a≤maxLen) :
  qk2 (DD X n) (mkT RelT k a).2 k=some (((mkT RelT k a).1,()),()):=by
 obtain ⟨n,rfl⟩:∃ k,n=k+1:=⟨n - 1,by omega⟩
 have hc:cnt RelT a=cnt qcl a.1+(cnt (.sl (Ty.sl qu)) a.2.1+0):=rfl
 have h1:=qdd qcl k a.1
 have h2:=qdd (.sl (Ty.sl qu)) (mkT qcl k a.1).1 a.2.1
 rw[qbae hX]
 simp only[qqc,qzg]
 have e1:=qbp0 hX (n:=n) (by omega) a.1 k ha.1 hk (by omega)
 have e2:=qbno hX (n:=n) (by omega) a.2.1 (mkT qcl k a.1).1 ha.2.1.1 (fun x hx=>(ha.2.1.2 x hx).1) (by omega) (by omega)
 show qj (qnz (DD X n) (mkT qcl k a.1).2 k) _=_
 rw[e1,qg];dsimp only
 rw[qo (by omega)]
 show qj (qma (DD X n) (mkT (.sl (Ty.sl qu)) (mkT qcl k a.1).1 a.2.1).2 (mkT qcl k a.1).1) _=_
 rw[e2,qg];dsimp only
 rw[qo (by omega)]
 rfl
structure RelSm (r:Rel):Prop where
 sch:SchSm r.1
 rows:r.2.1.length≤M
 row:∀ x∈r.2.1,x.length≤M
theorem qbvd {r:Rel} (h:tot RelT r≤M):RelSm r:=by
 rw[qbdo] at h
 have h1:=qod (t:=(Ty.sl qu)) r.2.1
 refine ⟨qbwa (by omega),by omega,fun x hx=>?_⟩
 have:=q4n (t:=(Ty.sl qu)) hx
 have h2:=qod (t:=qu) x
 have:x.length≤tot (Ty.sl qu) x:=by show x.length≤tot (.sl qu) x;omega
 omega
end Go.G

namespace Go.G
set_option maxRecDepth 100000
open Go Go.V Go.Proofs
theorem qbsp {s:qcc} {row:Row} (h:q4h s row=true):∀ v∈row,qli v=true:=by
 intro v hv
 obtain ⟨i,hi,rfl⟩:=List.mem_iff_getElem.1 hv
 simp only[q4h,Bool.and_eq_true,Bool.not_eq_true',decide_eq_true_eq] at h
 have k:=qlg.1 h.2.2 i (by omega) (by omega)
 simp only[q4z,Bool.or_eq_false_iff,Bool.not_eq_false'] at k
 rw[←qbj (d:=vd) hi];exact k.1
def q5n (s:qcc) (rows:List Row) (i:Nat):Bool:=
 !q4h s (rows.getD i [])||((decide (0<i)&&!tlt (qbo (rows.getD (i - 1) []) s.2.1) (qbo (rows.getD i []) s.2.1))||q9 (fun k=>q1l s (rows.getD i []) (rows.getD k [])) 0 i)
def q4k (r:Rel):Bool:=!q9 (q5n r.1 r.2.1) 0 r.2.1.length&&(qne r.1&&decide ((r.2.1.length:Int)≤12))
theorem qbw9 (D:Den ctx) (r:Rel) (row x:Row):qcj ctx D (Clo.mk 80 [CapV.rptr (Ty.pair
          (Ty.pair (Ty.sl (Ty.pair Ty.str (Ty.pair (Ty.int IntKind.i64) (Ty.pair Ty.bool Ty.unit))))
           (Ty.pair (Ty.sl (Ty.int IntKind.i64))
            (Ty.pair (Ty.sl (Ty.pair Ty.str (Ty.pair (Ty.sl (Ty.int IntKind.i64)) (Ty.pair Ty.bool Ty.unit)))) Ty.unit)))
          (Ty.pair (Ty.sl (Ty.sl (Ty.pair (Ty.int IntKind.i64) (Ty.pair (Ty.int IntKind.i64) (Ty.pair Ty.str Ty.unit))))) Ty.unit)) r,CapV.rptr (Ty.sl (Ty.pair (Ty.int IntKind.i64) (Ty.pair (Ty.int IntKind.i64) (Ty.pair Ty.str Ty.unit)))) row]) [CapV.val (Ty.sl (Ty.pair (Ty.int IntKind.i64) (Ty.pair (Ty.int IntKind.i64) (Ty.pair Ty.str Ty.unit)))) x] Ty.bool=(q8e D x r row).bind fun q=>some q.1.1:=by kernel_rfl
theorem qbt8 {α:Type} {l:List α} {i j:Nat} {d:α} (h:j<i):(l.take i).getD j d=l.getD j d:=by
 simp only[List.getD,List.getElem?_take]
 rw[if_pos h]
theorem qbrg {X:Ext} (hX:XOk X) {n:Nat} (hn:W+9≤n) (r:Rel) (hr:RelSm r) (i:Nat) (hi:i<r.2.1.length) (hv:∀ v∈r.2.1.getD i [],qli v=true) :
  qb8 (DD X n) (List.drop (Int.toNat 0) (List.take i r.2.1)) (Clo.mk 80 [CapV.rptr (Ty.pair
          (Ty.pair (Ty.sl (Ty.pair Ty.str (Ty.pair (Ty.int IntKind.i64) (Ty.pair Ty.bool Ty.unit))))
           (Ty.pair (Ty.sl (Ty.int IntKind.i64))
            (Ty.pair (Ty.sl (Ty.pair Ty.str (Ty.pair (Ty.sl (Ty.int IntKind.i64)) (Ty.pair Ty.bool Ty.unit)))) Ty.unit)))
          (Ty.pair (Ty.sl (Ty.sl (Ty.pair (Ty.int IntKind.i64) (Ty.pair (Ty.int IntKind.i64) (Ty.pair Ty.str Ty.unit))))) Ty.unit)) r,CapV.rptr (Ty.sl (Ty.pair (Ty.int IntKind.i64) (Ty.pair (Ty.int IntKind.i64) (Ty.pair Ty.str Ty.unit)))) (r.2.1.getD i [])])
   = some ((q9 (fun k=>q1l r.1 (r.2.1.getD i []) (r.2.1.getD k [])) 0 i,()),()):=by
 have hM:=qc0
 have hd:=ql
 have h2:=hr.rows
 have hl:(List.drop (Int.toNat 0) (List.take i r.2.1)).length=i:=by
  show (List.take i r.2.1).length=i
  rw[List.length_take];omega
 have e:=qbuc hX (n:=n) (by omega) (List.drop (Int.toNat 0) (List.take i r.2.1)) (by rw[hl];omega) (Clo.mk 80 [CapV.rptr (Ty.pair
          (Ty.pair (Ty.sl (Ty.pair Ty.str (Ty.pair (Ty.int IntKind.i64) (Ty.pair Ty.bool Ty.unit))))
           (Ty.pair (Ty.sl (Ty.int IntKind.i64))
            (Ty.pair (Ty.sl (Ty.pair Ty.str (Ty.pair (Ty.sl (Ty.int IntKind.i64)) (Ty.pair Ty.bool Ty.unit)))) Ty.unit)))
          (Ty.pair (Ty.sl (Ty.sl (Ty.pair (Ty.int IntKind.i64) (Ty.pair (Ty.int IntKind.i64) (Ty.pair Ty.str Ty.unit))))) Ty.unit)) r,CapV.rptr (Ty.sl (Ty.pair (Ty.int IntKind.i64) (Ty.pair (Ty.int IntKind.i64) (Ty.pair Ty.str Ty.unit)))) (r.2.1.getD i [])])
  (fun k=>q1l r.1 (r.2.1.getD i []) (r.2.1.getD k [])) (fun k hk=>by
   rw[hl] at hk
   obtain ⟨n,rfl⟩:∃ k,n=k+3:=⟨n - 3,by omega⟩
   rw[qbw9,show n+3 - 2=n+1 from rfl,qblh hX]
   simp only[q1e,q7u]
   have hg:(List.drop (Int.toNat 0) (List.take i r.2.1)).getD k []=r.2.1.getD k []:=qbt8 hk
   rw[hg,qbqs hX (by omega) r.1 hr.sch _ _ (hr.row _ (qeq hi)) (hr.row _ (qeq (by omega))) hv,qg]
   rfl)
 rw[hl] at e
 exact e
theorem qbq9 {X:Ext} (hX:XC X) {n:Nat} (hn:W+10≤n) (r:Rel) (hr:RelSm r):q47 (DD X n) r=some ((q4k r,()),()):=by
 obtain ⟨n,rfl⟩:∃ k,n=k+1:=⟨n - 1,by omega⟩
 have hW:=qbn
 have hM:=qc0
 have h2:=hr.rows
 have hk:=hr.sch.key
 rw[qbo7 hX.ok]
 simp only[q5k,q5x,qz3]
 refine Eq.trans (qjx (L:=fun m i=>qlf (DD X n) n _ _ m r.2.1 r.2.1.length (i:Int) r) (N:=r.2.1.length) (P:=q5n r.1 r.2.1)
  (A:=some ((false,()),())) (B:=some ((qne r.1&&decide ((r.2.1.length:Int)≤12),()),())) (fun m i hi=>?_) (m:=n) (by omega)) ?_
 ·simp only[qlf,q2m]
  by_cases h:i<r.2.1.length
  ·have hc1:(decide ((0:Nat)≤0)&&decide ((0:Int)≤(i:Int))&&decide ((i:Int)≤(r.2.1.length:Int)))=true:=by
    rw[decide_eq_true (by omega),decide_eq_true (by omega),decide_eq_true (by omega)];rfl
   have hri:=hr.row _ (qeq (d:=[]) h)
   rw[qp (by exact_mod_cast h),ix h,br_t,Int.toNat_natCast,qbqu hX.ok (n:=n) (by omega) r.1 hr.sch _ hri,qg,qr (by omega),if_pos h,hc1]
   dsimp only
   unfold q5n
   cases hok:q4h r.1 (r.2.1.getD i [])
   ·rfl
   ·have ec:=qbrg hX.ok (n:=n) (by omega) r hr i h (qbsp hok)
    rw[Bool.not_true,br_f,br_t,ec,qg,Bool.false_or]
    dsimp only
    by_cases h0:0<i
    ·have w1:IntKind.wrap IntKind.i64 ((i:Int) - 1)=((i - 1:Nat):Int):=by rw[qce (by omega) (by omega)];omega
     have hrj:=hr.row _ (qeq (d:=[]) (show i - 1<r.2.1.length by omega))
     have l1:=qpz (r.2.1.getD (i - 1) []) r.1.2.1
     rw[qp (by omega),w1,ix (i:=i - 1) (by omega),br_t,Int.toNat_natCast,q07 hX.ok (by omega) r.1 _ hrj hk,qg]
     dsimp only
     rw[q07 hX.ok (by omega) r.1 _ hri hk,qg]
     dsimp only
     rw[qbkl hX (by omega) _ _ (by omega),qg,decide_eq_true h0]
     dsimp only
     cases tlt (qbo (r.2.1.getD (i - 1) []) r.1.2.1) (qbo (r.2.1.getD i []) r.1.2.1)<;>rfl
    ·rw[qo (by omega),decide_eq_false h0];rfl
  ·rw[qo (by exact_mod_cast h),if_neg h]
   simp only[qx4]
   rw[q7e hX.ok (by omega) r.1 hr.sch,qg,qjn]
 ·unfold q4k
  cases q9 (q5n r.1 r.2.1) 0 r.2.1.length<;>rfl
theorem qbqr {X:Ext} (hX:XOk X) {n:Nat} (hn:W+8≤n) (r:Rel) (hr:RelSm r):q5o (DD X n) r=some ((q4k r,()),()):=by
 obtain ⟨n,rfl⟩:∃ k,n=k+1:=⟨n - 1,by omega⟩
 have hW:=qbn
 have hM:=qc0
 have h2:=hr.rows
 have hk:=hr.sch.key
 rw[qbpo hX]
 simp only[q5h,q49,qzx]
 refine Eq.trans (qjx (L:=fun m i=>qey (DD X n) n _ _ m (i:Int) r) (N:=r.2.1.length) (P:=q5n r.1 r.2.1)
  (A:=some ((false,()),())) (B:=some ((qne r.1&&decide ((r.2.1.length:Int)≤12),()),())) (fun m i hi=>?_) (m:=n) (by omega)) ?_
 ·simp only[qey,q2y,q0m]
  by_cases h:i<r.2.1.length
  ·have hri:=hr.row _ (qeq (d:=[]) h)
   have el:=qjx (L:=fun q k=>qlt (DD X n) n (fun v0_0 v0_1 v0_2=>qxg (DD X n) n (qey (DD X n) n (fun v0_0 v0_1=>qgv (DD X n) n v0_0 v0_1) (fun v1_0=>qe3 (DD X n) n v1_0) m) (fun v0_0 v0_1=>qgv (DD X n) n v0_0 v0_1) (fun v1_0=>qe3 (DD X n) n v1_0) v0_0 v0_1 v0_2)
      (fun v1_0 v1_1=>qq4 (DD X n) n (qey (DD X n) n (fun v0_0 v0_1=>qgv (DD X n) n v0_0 v0_1) (fun v1_0=>qe3 (DD X n) n v1_0) m) (fun v0_0 v0_1=>qgv (DD X n) n v0_0 v0_1) (fun v1_0=>qe3 (DD X n) n v1_0) v1_0 v1_1) q (i:Int) (k:Int) r)
     (N:=i) (P:=fun k=>q1l r.1 (r.2.1.getD i []) (r.2.1.getD k []))
     (A:=some ((false,()),())) (B:=qey (DD X n) n (fun v0_0 v0_1=>qgv (DD X n) n v0_0 v0_1) (fun v1_0=>qe3 (DD X n) n v1_0) m ((i+1:Nat):Int) r) (fun q k hk2=>by
    simp only[qlt,q24]
    by_cases h3:k<i
    ·rw[qp (by exact_mod_cast h3),ix (i:=k) (by omega),br_t,ix h,br_t,Int.toNat_natCast,Int.toNat_natCast,qbq4 hX (by omega) r.1 hr.sch _ _ (hr.row _ (qeq (by omega))) hri,qg,qr (by omega),if_pos h3,qbs4]
     rfl
    ·rw[qo (by exact_mod_cast h3),if_neg h3]
     simp only[qq4]
     rw[qr (by omega)]) (m:=n) (by omega)
   simp only[Int.natCast_zero] at el
   rw[qp (by exact_mod_cast h),ix h,br_t,Int.toNat_natCast,qbrh hX (n:=n) (by omega) r.1 hr.sch _ hri,qg,if_pos h]
   dsimp only
   unfold q5n
   cases hok:q4h r.1 (r.2.1.getD i [])
   ·rfl
   ·rw[Bool.not_true,br_f,Bool.false_or]
    by_cases h0:0<i
    ·have w1:IntKind.wrap IntKind.i64 ((i:Int) - 1)=((i - 1:Nat):Int):=by rw[qce (by omega) (by omega)];omega
     have hrj:=hr.row _ (qeq (d:=[]) (show i - 1<r.2.1.length by omega))
     have l1:=qpz (r.2.1.getD (i - 1) []) r.1.2.1
     rw[qp (by omega),w1,ix (i:=i - 1) (by omega),br_t,Int.toNat_natCast,q06 hX (by omega) r.1 _ hrj hk,qg]
     dsimp only
     rw[br_t,q06 hX (by omega) r.1 _ hri hk,qg]
     dsimp only
     rw[qbic hX (by omega) _ _ (by omega),qg,decide_eq_true h0]
     dsimp only
     cases tlt (qbo (r.2.1.getD (i - 1) []) r.1.2.1) (qbo (r.2.1.getD i []) r.1.2.1)
     ·rfl
     ·exact el
    ·rw[qo (by omega),decide_eq_false h0];exact el
  ·rw[qo (by exact_mod_cast h),if_neg h]
   simp only[qe3]
   rw[q7o hX (by omega) r.1 hr.sch,qg,qjn]
 ·unfold q4k
  cases q9 (q5n r.1 r.2.1) 0 r.2.1.length<;>rfl
def qbn6 (r:Rel) (key:Row) (i:Nat):Bool:=decide (qbo (r.2.1.getD i []) r.1.2.1=key)
def q4c (r:Rel) (key:Row):Option Nat:=qbw (qbn6 r key) 0 r.2.1.length
theorem qbgb {r:Rel} {key:Row} {j:Nat} (h:q4c r key=some j):j<r.2.1.length:=by
 have:=qsy h;omega
theorem qbup (D:Den ctx) (r:Rel) (key x:Row):qcj ctx D (Clo.mk 153 [CapV.rptr (Ty.pair
          (Ty.pair (Ty.sl (Ty.pair Ty.str (Ty.pair (Ty.int IntKind.i64) (Ty.pair Ty.bool Ty.unit))))
           (Ty.pair (Ty.sl (Ty.int IntKind.i64))
            (Ty.pair (Ty.sl (Ty.pair Ty.str (Ty.pair (Ty.sl (Ty.int IntKind.i64)) (Ty.pair Ty.bool Ty.unit)))) Ty.unit)))
          (Ty.pair (Ty.sl (Ty.sl (Ty.pair (Ty.int IntKind.i64) (Ty.pair (Ty.int IntKind.i64) (Ty.pair Ty.str Ty.unit))))) Ty.unit)) r,CapV.rptr (Ty.sl (Ty.pair (Ty.int IntKind.i64) (Ty.pair (Ty.int IntKind.i64) (Ty.pair Ty.str Ty.unit)))) key]) [CapV.val (Ty.sl (Ty.pair (Ty.int IntKind.i64) (Ty.pair (Ty.int IntKind.i64) (Ty.pair Ty.str Ty.unit)))) x] Ty.bool=(q78 D x r key).bind fun q=>some q.1.1:=by kernel_rfl
theorem qbxq {X:Ext} (hX:XOk X) {n:Nat} (hn:W+6≤n) (r:Rel) (hr:RelSm r) (key:Row):q5b (DD X n) r key=some ((match q4c r key with | some j=>(j:Int) | none=>-1,()),()):=by
 obtain ⟨n,rfl⟩:∃ k,n=k+1:=⟨n - 1,by omega⟩
 have hM:=qc0
 have hd:=ql
 have h2:=hr.rows
 have hk:=hr.sch.key
 rw[qbpt hX]
 simp only[q5f,qbbw]
 rw[qbqh hX (n:=n) (by omega) _ (by omega) _ (qbn6 r key) (fun i hi=>by
  obtain ⟨n,rfl⟩:∃ k,n=k+2:=⟨n - 2,by omega⟩
  rw[qbup,show n+2 - 1=n+1 from rfl,qbla hX]
  simp only[q1g,q8n]
  have l1:=qpz (r.2.1.getD i []) r.1.2.1
  rw[q07 hX (by omega) r.1 _ (hr.row _ (qeq hi)) hk,qg]
  dsimp only
  rw[qbrm hX (by omega) _ _ (by omega),qg]
  rfl),qg]
 rfl
theorem qbwq {X:Ext} (hX:XOk X) {n:Nat} (hn:W+6≤n) (r:Rel) (hr:RelSm r) (key:Row):q58 (DD X n) r key=some ((match q4c r key with | some j=>(j:Int) | none=>-1,()),()):=by
 obtain ⟨n,rfl⟩:∃ k,n=k+1:=⟨n - 1,by omega⟩
 have hM:=qc0
 have hW:=qbn
 have h2:=hr.rows
 have hk:=hr.sch.key
 rw[qbpx hX]
 simp only[q5s,q59,q0s]
 refine Eq.trans (q2a (L:=fun m i=>qln (DD X n) n _ _ m key (i:Int) r) (N:=r.2.1.length) (P:=qbn6 r key)
  (A:=fun j=>some (((j:Int),()),())) (B:=some ((-1,()),())) (fun m i hi=>?_) (m:=n) (by omega)) ?_
 ·simp only[qln,q2k]
  by_cases h:i<r.2.1.length
  ·have l1:=qpz (r.2.1.getD i []) r.1.2.1
   rw[qp (by exact_mod_cast h),ix h,br_t,Int.toNat_natCast,q06 hX (by omega) r.1 _ (hr.row _ (qeq h)) hk,qg]
   dsimp only
   rw[qbm0 hX (by omega) _ _ (by omega),qg,qr (by omega),if_pos h]
   rfl
  ·rw[qo (by exact_mod_cast h),if_neg h];rfl
 ·unfold q4c
  cases qbw (qbn6 r key) 0 r.2.1.length<;>rfl
theorem qbs9 {X:Ext} (hX:XOk X) {n:Nat} (hn:1≤n) (a:Row) (ha:a.length≤qbm):qem (DD X n) a=some ((a,()),()):=by
 obtain ⟨n,rfl⟩:∃ k,n=k+1:=⟨n - 1,by omega⟩
 rw[qsm hX]
 simp only[qer,qi4]
 have hc:decide (0+a.length≤qbm)=true:=decide_eq_true (by omega)
 rw[hc,br_t,List.nil_append]
 cases a with
 | nil=>simp[qbpc,both]
 | cons x a=>rw[qo (by simp)]
def lookup (r:Rel) (key:Row):Row×Bool:=match q4c r key with | some j=>if q4k r=true then (r.2.1.getD j [],true) else ([],false) | none=>([],false)
end Go.G

namespace Go.G
set_option maxRecDepth 100000
open Go Go.V Go.Proofs
theorem qbfo {X:Ext} (hX:XOk X) {n:Nat} (hn:1≤n) (a:List Int) (ha:a.length≤qbm):qix (DD X n) a=some ((a,()),()):=by
 obtain ⟨n,rfl⟩:∃ k,n=k+1:=⟨n - 1,by omega⟩
 rw[q7b hX]
 simp only[qnb,qu0]
 have hc:decide (0+a.length≤qbm)=true:=decide_eq_true (by omega)
 rw[hc,br_t,List.nil_append]
 cases a with
 | nil=>simp[qbpc,both]
 | cons x a=>rw[qo (by simp)]
theorem qbq3 {X:Ext} (hX:XOk X) {n:Nat} (hn:1≤n) (a:List Col) (ha:a.length≤qbm):qfv (DD X n) a=some ((a,()),()):=by
 obtain ⟨n,rfl⟩:∃ k,n=k+1:=⟨n - 1,by omega⟩
 rw[qvi hX]
 simp only[qfr,qkq]
 have hc:decide (0+a.length≤qbm)=true:=decide_eq_true (by omega)
 rw[hc,br_t,List.nil_append]
 cases a with
 | nil=>simp[qbpc,both]
 | cons x a=>rw[qo (by simp)]
theorem qbtb {X:Ext} (hX:XOk X) (N n:Nat) (hN:1≤N) (K:qcc→qcc→Option ((qcc×Unit)×Unit)) (xs:List qdl) (hx:xs.length≤M) (hc:∀ x∈xs,x.2.1.length≤M) (z:qcc) (c:List Col) (k:List Int):∀ (m i:Nat) (acc:List qdl),i≤xs.length→xs.length - i<m→acc.length≤i→
  qf0 (DD X N) n K m xs xs.length (i:Int) z (c,k,acc,())=K z (c,k,acc++xs.drop i,())
 | 0,_,_,_,h,_=>by omega
 | m+1,i,acc,hi,hf,ha=>by
  have hM:=qc0
  have hb:=qdo
  simp only[qf0,qrj]
  by_cases h:i<xs.length
  ·rw[qp (by exact_mod_cast h),ix h,br_t,Int.toNat_natCast,qr (by omega),q0 h,qbj h]
   have:=hc _ (List.getElem_mem h)
   rw[qbfo hX hN _ (by omega),qg,qp (by omega)]
   refine Eq.trans (qbtb hX N n hN K xs hx hc z c k m (i+1) _ (by omega) (by omega) (by simp;omega)) ?_
   rw[List.append_assoc];rfl
  ·rw[qo (by exact_mod_cast h),qbb h,List.append_nil]
theorem qbg7 {X:Ext} (hX:XOk X) {n:Nat} (hn:W+3≤n) (s:qcc) (hs:SchSm s):qud (DD X n) s=some ((s,()),()):=by
 obtain ⟨n,rfl⟩:∃ k,n=k+1:=⟨n - 1,by omega⟩
 have hM:=qc0
 have hb:=qdo
 have hW:=qbn
 have h1:=hs.cols
 have h2:=hs.key
 have h3:=hs.ixs
 rw[qbfi hX]
 simp only[qts,qt0,qqa]
 rw[qbq3 hX (by omega) _ (by omega),qg,qbfo hX (by omega) _ (by omega),qg]
 dsimp only
 refine Eq.trans (qbtb hX n n (by omega) _ s.2.2.1 h3 hs.ixc _ s.1 s.2.1 n 0 [] (by omega) (by omega) (by simp)) ?_
 rfl
theorem qbi9 {X:Ext} (D:Den ctx) (n:Nat) (K:qcc→qcc→Option ((qcc×Unit)×Unit)) (s:qcc) (hx:s.2.2.1.length≤M) (hc:∀ x∈s.2.2.1,x.2.1.length≤M) (z:qcc) (c:List Col) (k:List Int):∀ (m i:Nat) (acc:List qdl),i≤s.2.2.1.length→s.2.2.1.length - i<m→acc.length≤i→
  qjm D n K m (i:Int) s z (c,k,acc,())=K z (c,k,acc++s.2.2.1.drop i,())
 | 0,_,_,_,h,_=>by omega
 | m+1,i,acc,hi,hf,ha=>by
  have hM:=qc0
  have hb:=qdo
  simp only[qjm,qwz]
  by_cases h:i<s.2.2.1.length
  ·have:=hc _ (List.getElem_mem h)
   rw[qp (by exact_mod_cast h),ix h,br_t,Int.toNat_natCast,qr (by omega),q0 h,qbj h,qp (by omega),qp (by omega)]
   refine Eq.trans (qbi9 (X:=X) D n K s hx hc z c k m (i+1) _ (by omega) (by omega) (by simp;omega)) ?_
   rw[List.append_assoc];rfl
  ·rw[qo (by exact_mod_cast h),qbb h,List.append_nil]
theorem qbg8 {X:Ext} (hX:XOk X) {n:Nat} (hn:W+3≤n) (s:qcc) (hs:SchSm s):qz8 (DD X n) s=some ((s,()),()):=by
 obtain ⟨n,rfl⟩:∃ k,n=k+1:=⟨n - 1,by omega⟩
 have hM:=qc0
 have hb:=qdo
 have hW:=qbn
 have h1:=hs.cols
 have h2:=hs.key
 have h3:=hs.ixs
 rw[qbk7 hX]
 simp only[qzs,q0r,qvl]
 rw[qp (by omega),qp (by omega)]
 refine Eq.trans (qbi9 (X:=X) (DD X n) n _ s h3 hs.ixc _ ([]++s.1) ([]++s.2.1) n 0 [] (by omega) (by omega) (by simp)) ?_
 rfl
end Go.G

namespace Go.G
set_option maxRecDepth 100000
open Go Go.V Go.Proofs
theorem qbu0 (D:Den ctx) (n:Nat) (K:List Row→Option ((List Row×Unit)×Unit)) (a:List Row) (ha:a.length≤M) (hr:∀ x∈a,x.length≤M):∀ (m i:Nat) (acc:List Row),i≤a.length→a.length - i<m→acc.length≤i→
  qjc D n K m a (i:Int) acc=K (acc++a.drop i)
 | 0,_,_,_,h,_=>by omega
 | m+1,i,acc,hi,hf,hl=>by
  have hM:=qc0
  have hb:=qdo
  simp only[qjc,qw4]
  by_cases h:i<a.length
  ·have:=hr _ (List.getElem_mem h)
   rw[qp (by exact_mod_cast h),ix h,br_t,Int.toNat_natCast,qbj h,qp (by omega),qp (by omega),qr (by omega),q0 h]
   refine Eq.trans (qbu0 D n K a ha hr m (i+1) _ (by omega) (by omega) (by simp;omega)) ?_
   rw[List.append_assoc];rfl
  ·rw[qo (by exact_mod_cast h),qbb h,List.append_nil]
theorem qbc8 {X:Ext} (hX:XOk X) {n:Nat} (hn:W+1≤n) (a:List Row) (ha:a.length≤M) (hr:∀ x∈a,x.length≤M):qog (DD X n) a=some ((a,()),()):=by
 obtain ⟨n,rfl⟩:∃ k,n=k+1:=⟨n - 1,by omega⟩
 have hM:=qc0
 have hW:=qbn
 rw[qbmo hX]
 simp only[q02,q1f,qwb]
 refine Eq.trans (qbu0 (DD X n) n _ a ha hr n 0 [] (by omega) (by omega) (by simp)) ?_
 rfl
theorem qbpp {X:Ext} (hX:XOk X) (N n:Nat) (hN:1≤N) (K:List Row→Option ((List Row×Unit)×Unit)) (a:List Row) (ha:a.length≤M) (hr:∀ x∈a,x.length≤M):∀ (m i:Nat) (acc:List Row),i≤a.length→a.length - i<m→acc.length≤i→
  qf7 (DD X N) n K m a (a.length:Int) (i:Int) acc=K (acc++a.drop i)
 | 0,_,_,_,h,_=>by omega
 | m+1,i,acc,hi,hf,hl=>by
  have hM:=qc0
  have hb:=qdo
  simp only[qf7,qr7]
  by_cases h:i<a.length
  ·have:=hr _ (List.getElem_mem h)
   rw[qp (by exact_mod_cast h),ix h,br_t,Int.toNat_natCast,qbj h,qbs9 hX hN _ (by omega),qg,qp (by omega),qr (by omega),q0 h]
   refine Eq.trans (qbpp hX N n hN K a ha hr m (i+1) _ (by omega) (by omega) (by simp;omega)) ?_
   rw[List.append_assoc];rfl
  ·rw[qo (by exact_mod_cast h),qbb h,List.append_nil]
theorem qbp5 {X:Ext} (hX:XOk X) {n:Nat} (hn:W+2≤n) (a:List Row) (ha:a.length≤M) (hr:∀ x∈a,x.length≤M):qtx (DD X n) a=some ((a,()),()):=by
 obtain ⟨n,rfl⟩:∃ k,n=k+1:=⟨n - 1,by omega⟩
 have hM:=qc0
 have hW:=qbn
 rw[qbfm hX]
 simp only[qtn,qtf,qqj]
 refine Eq.trans (qbpp hX n n (by omega) _ a ha hr n 0 [] (by omega) (by omega) (by simp)) ?_
 rfl
theorem qbuw {X:Ext} (hX:XOk X) {n:Nat} (hn:W+4≤n) (r:Rel) (hr:RelSm r):q0z (DD X n) r=some ((r,()),()):=by
 obtain ⟨n,rfl⟩:∃ k,n=k+1:=⟨n - 1,by omega⟩
 rw[qbl3 hX]
 simp only[qzu,q7x]
 rw[qbg8 hX (by omega) _ hr.sch,qg,qbc8 hX (by omega) _ hr.rows hr.row,qg]
theorem qblf {X:Ext} (hX:XOk X) {n:Nat} (hn:W+4≤n) (r:Rel) (hr:RelSm r):qqq (DD X n) r=some ((r,()),()):=by
 obtain ⟨n,rfl⟩:∃ k,n=k+1:=⟨n - 1,by omega⟩
 rw[q98 hX]
 simp only[qp4,qzf]
 rw[qbg7 hX (by omega) _ hr.sch,qg,qbp5 hX (by omega) _ hr.rows hr.row,qg]
def qbyf (r:Rel) (row:Row) (j:Int):Bool:=q9 (fun k=>!decide ((k:Int)=j)&&q1l r.1 (r.2.1.getD k []) row) 0 r.2.1.length
end Go.G

namespace Go.G
set_option maxRecDepth 100000
open Go Go.V Go.Proofs
def qbuh (r:Rel) (key:Row):Nat:=match qbw (fun i=>!tlt (qbo (r.2.1.getD i []) r.1.2.1) key) 0 r.2.1.length with | some j=>j | none=>r.2.1.length
def qiq (r:Rel) (key:Row):Rel×Int:=
 if q4k r=true then
  match q4c r key with
  | some j=>((r.1,r.2.1.take j++r.2.1.drop (j+1),()),0)
  | none=>(r,4)
 else (r,1)
theorem qboz {X:Ext} (hX:XOk X) {n:Nat} (hn:W+9≤n) (r:Rel) (hr:RelSm r) (key:Row):q22 (DD X n) r key=some (((qiq r key).1,(qiq r key).2,()),()):=by
 obtain ⟨n,rfl⟩:∃ k,n=k+1:=⟨n - 1,by omega⟩
 have hM:=qc0
 have hW:=qbn
 have hb:=qdo
 have h2:=hr.rows
 rw[qbn3 hX]
 simp only[q2s,q92]
 rw[qbuw hX (by omega) r hr,qg,qbqr hX (by omega) r hr,qg,qbwq hX (by omega) r hr,qg]
 unfold qiq
 cases q4k r
 ·rfl
 ·rw[if_pos rfl,Bool.not_true,br_f]
  cases hkey:q4c r key with
  | none=>rfl
  | some j=>
   have hj:=qbgb hkey
   dsimp only
   have w1:IntKind.wrap IntKind.i64 ((j:Int)+1)=((j+1:Nat):Int):=qr (by omega)
   have c1:(decide ((0:Nat)≤0)&&decide ((0:Int)≤(j:Int))&&decide ((j:Int)≤(r.2.1.length:Int)))=true:=by
    rw[decide_eq_true (by omega),decide_eq_true (by omega),decide_eq_true (by omega)];rfl
   have c2:(decide ((0:Int)≤((j+1:Nat):Int))&&decide (((j+1:Nat):Int)≤(r.2.1.length:Int))&&decide ((r.2.1.length:Int)≤(r.2.1.length:Int)))=true:=by
    rw[decide_eq_true (by omega),decide_eq_true (by omega),decide_eq_true (by omega)];rfl
   have t1:List.drop (Int.toNat 0) (List.take j r.2.1)=r.2.1.take j:=rfl
   rw[qo (show ¬ (j:Int)<0 by omega),c1,br_t,w1,c2,Int.toNat_natCast,Int.toNat_natCast,Int.toNat_natCast,t1,List.take_length,qbc8 hX (by omega) _ (by rw[List.length_take];omega) (fun x hx=>hr.row x (List.mem_of_mem_take hx)),qg]
   dsimp only
   rw[br_t,qbc8 hX (by omega) _ (by rw[List.length_drop];omega) (fun x hx=>hr.row x (List.mem_of_mem_drop hx)),qg]
   dsimp only
   rw[qp (by simp only[List.length_take,List.length_drop];omega)]
end Go.G

namespace Go.G
set_option maxRecDepth 100000
open Go Go.V Go.Proofs
def put (r:Rel) (row:Row):Rel:=(r.1,r.2.1.take (qbuh r (qbo row r.1.2.1))++[row]++r.2.1.drop (qbuh r (qbo row r.1.2.1)),())
theorem qbos {rows:List Row} {j:Nat} {row:Row} (hj:j<rows.length) (i:Nat):(rows.set j row).getD i []=if i=j then row else rows.getD i []:=by
 by_cases e:i=j
 ·subst e
  rw[if_pos rfl,qbj (by rw[List.length_set];exact hj),List.getElem_set_self]
 ·rw[if_neg e]
  simp only[List.getD,List.getElem?_set]
  rw[if_neg (fun k=>e k.symm)]
end Go.G

namespace Go.V
open Go
theorem El.take {h:Array Obj} {Pr:BS} {e:Ty} {mi:Mk} {xs:List e.den} {cells:List qe} {Fs:Nat→BS} (k:El h Pr e mi xs cells Fs) (n:Nat) (hn:n≤xs.length) (hl:cells.length=xs.length * e.width):El h Pr e mi (xs.take n) (cells.take (n * e.width)) Fs:=by
 refine ⟨fun i hi=>?_,k.dis⟩
 rw[List.length_take] at hi
 have hin:i<n:=by omega
 have h1:(xs.take n).getD i e.zero=xs.getD i e.zero:=by
  simp only[List.getD,List.getElem?_take]
  rw[if_pos hin]
 have h2:((cells.take (n * e.width)).drop (i * e.width)).take e.width=(cells.drop (i * e.width)).take e.width:=by
  rw[List.drop_take,List.take_take]
  congr 1
  have:(i+1) * e.width≤n * e.width:=Nat.mul_le_mul_right _ hin
  rw[Nat.succ_mul] at this
  omega
 rw[h1,h2]
 exact k.rep i (by omega)
theorem El.drop {h:Array Obj} {Pr:BS} {e:Ty} {mi:Mk} {xs:List e.den} {cells:List qe} {Fs:Nat→BS} (k:El h Pr e mi xs cells Fs) (n:Nat) (hn:n≤xs.length):El h Pr e mi (xs.drop n) (cells.drop (n * e.width)) (fun i=>Fs (n+i)):=by
 refine ⟨fun i hi=>?_,fun i j hij=>k.dis _ _ (by omega)⟩
 rw[List.length_drop] at hi
 have h1:(xs.drop n).getD i e.zero=xs.getD (n+i) e.zero:=by
  simp only[List.getD,List.getElem?_drop]
 have h2:((cells.drop (n * e.width)).drop (i * e.width)).take e.width=(cells.drop ((n+i) * e.width)).take e.width:=by
  rw[List.drop_drop,Nat.add_mul]
 rw[h1,h2]
 exact k.rep (n+i) (by omega)
def upTo (n:Nat) (Fs:Nat→BS) (i:Nat):BS:=if i<n then Fs i else Nil
theorem q5u (n:Nat) (Fs:Nat→BS) (i:Nat):Sub (upTo n Fs i) (Fs i):=by
 unfold upTo
 split
 ·exact Sub.refl _
 ·exact Sub.nil _
theorem El.upTo {h:Array Obj} {Pr:BS} {e:Ty} {mi:Mk} {xs:List e.den} {cells:List qe} {Fs:Nat→BS} (k:El h Pr e mi xs cells Fs):El h Pr e mi xs cells (upTo xs.length Fs):=by
 refine ⟨fun i hi=>?_,fun i j hij=>(k.dis i j hij).mono (q5u _ _ _) (q5u _ _ _)⟩
 have:Go.V.upTo xs.length Fs i=Fs i:=if_pos hi
 rw[this]
 exact k.rep i hi
theorem El.cut {h:Array Obj} {Pr:BS} {e:Ty} {mi:Mk} {xs:List e.den} {cells:List qe} {Fs:Nat→BS} (k:El h Pr e mi xs cells Fs) (i j:Nat) (hij:i≤j) (hj:j≤xs.length) (hl:cells.length=xs.length * e.width) :
  ∃ FF:Nat→BS,El h Pr e mi (xs.take i++xs.drop j) (cells.take (i * e.width)++cells.drop (j * e.width)) FF∧∀ a b,FF a b→∃ c,Fs c b:=by
 have k1:=(k.take i (by omega) hl).upTo
 have k2:=k.drop j hj
 have hlen:(xs.take i).length=i:=by rw[List.length_take];omega
 rw[hlen] at k1
 have hiw:i * e.width≤cells.length:=by rw[hl];exact Nat.mul_le_mul_right _ (by omega)
 have hjw:j * e.width≤cells.length:=by rw[hl];exact Nat.mul_le_mul_right _ hj
 refine ⟨_,El.append k1 k2 (by rw[List.length_take,hlen];omega) (by rw[List.length_drop,List.length_drop,hl,Nat.sub_mul]) (fun a b=>?_),?_⟩
 ·unfold Go.V.upTo
  split
  ·exact k.dis _ _ (by omega)
  ·exact Dis.nil _
 ·intro a b hb
  split at hb
  ·exact ⟨_,q5u _ _ _ b hb⟩
  ·exact ⟨_,hb⟩
theorem El.insert {h:Array Obj} {Pr:BS} {e:Ty} {mi:Mk} {xs ys:List e.den} {c1 c2:List qe} {F1 F2:Nat→BS} (k1:El h Pr e mi xs c1 F1) (k2:El h Pr e mi ys c2 F2) (i:Nat) (hi:i≤xs.length)
  (hl1:c1.length=xs.length * e.width) (hl2:c2.length=ys.length * e.width) (hd:∀ i j,Dis (F1 i) (F2 j)) :
  ∃ FF:Nat→BS,El h Pr e mi (xs.take i++ys++xs.drop i) (c1.take (i * e.width)++c2++c1.drop (i * e.width)) FF∧∀ a b,FF a b→(∃ c,F1 c b)∨∃ c,F2 c b:=by
 have a1:=(k1.take i hi hl1).upTo
 have a3:=k1.drop i hi
 have hlen:(xs.take i).length=i:=by rw[List.length_take];omega
 rw[hlen] at a1
 have hiw:i * e.width≤c1.length:=by rw[hl1];exact Nat.mul_le_mul_right _ hi
 have a12:=El.append a1 k2 (by rw[List.length_take,hlen];omega) hl2 (fun a b=>(hd a b).mono (q5u _ _ _) (Sub.refl _))
 refine ⟨_,El.append a12 a3 (by rw[List.length_append,List.length_append,List.length_take,hlen,hl2,Nat.add_mul];omega) (by rw[List.length_drop,List.length_drop,hl1,Nat.sub_mul]) (fun a b=>?_),?_⟩
 ·skip
  split
  ·unfold Go.V.upTo
   split
   ·exact k1.dis _ _ (by omega)
   ·exact Dis.nil _
  ·exact fun z h1 h2=>hd (i+b) _ z h2 h1
 ·intro a b hb
  split at hb
  ·split at hb
   ·exact .inl ⟨_,q5u _ _ _ b hb⟩
   ·exact .inr ⟨_,hb⟩
  ·exact .inl ⟨_,hb⟩
theorem qbrz {w w2:World} {Pr:BS} {Fs:Nat→BS} {ks:List PK} {a:PDen ks} {vs:List qe} (pre:Pre w.heap Pr Fs ks a vs) {e:Ty} {mi:Mk} {zs:List e.den} {v:qe} {G:BS}
  (rep:Rep w2.heap Pr (.sl e) (.own 0 mi) zs [v] G) (hG:∀ z,G z→May w.heap.size Fs z) (hGP:Dis G Pr) (hGl:∀ z,G z→z<w2.heap.size) (hsz:w.heap.size≤w2.heap.size)
  (o:ODen ks) (out:qez w2.heap Pr (fun _=>Nil) 0 ks o vs) (fr:WFr (May w.heap.size Fs) w w2) :
  Pst w w2 Pr Fs ks [.val (.sl e) (.own 0 mi)] (zs,()) o vs v Pr (fun i=>if i=0 then G else Nil) (fun _=>Nil) [v] where
 res:=⟨v,[],rfl,⟨[v],rep,rfl⟩,rfl⟩
 val:=rfl
 out:=out
 pr:=Sub.refl _
 prL:=fun b hb=>.inl hb
 gL:=fun i b hb=>by
  split at hb
  ·exact hG b hb
  ·exact hb.elim
 oL:=fun _ _ hb=>hb.elim
 gdis:=fun i j hij=>by
  split
  ·split
   ·omega
   ·exact fun _ _ h=>h.elim
  ·exact Dis.nil _
 odis:=fun _ _ _=>Dis.nil _
 go:=fun _ _=>fun _ _ h=>h.elim
 gp:=fun i=>by
  split
  ·exact hGP
  ·exact Dis.nil _
 op:=fun _=>Dis.nil _
 glim:=fun i b hb=>by
  split at hb
  ·exact hGl b hb
  ·exact hb.elim
 olim:=fun _ _ hb=>hb.elim
 plim:=fun b hb=>Nat.lt_of_lt_of_le (pre.limPr b hb) hsz
 fr:=fr
end Go.V

namespace Go.V
set_option maxRecDepth 100000
set_option maxHeartbeats 4000000
open Go Go.Proofs Go.RowKit Go.Lib
theorem qbih:Tryz.f88.ntmps=95:=by kernel_rfl
theorem qbr1 (a1:Option Addr) (n c m:Nat) (a2:Option Addr) (c2:Nat) (w w3:World) (v3:qe) (hm:0<m) (hc:n≤c) (h1:(∃ b,a1=some ⟨b,0,none⟩)∨(n=0∧c=0))
  (hr:∀ ty,(Builtin.append_ #[29,29] ty #[.slice a1 n c,.slice a2 m c2]).run Tryz.prog w=.ok v3 w3) :
  Calls Tryz.prog 88 #[.slice a1 n c,.int .i64 n,.slice a2 m c2] w fun e w'=>e=.returned v3∧w'=w3:=by
 have mx:=q39
 have u67:Tryz.prog.underlying 29=some (.slice 32):=by kernel_rfl
 have v67:=run_underlying u67
 have hz1:¬ ((m:Int)=0):=by omega
 rcases h1 with ⟨b,rfl⟩ | ⟨rfl,rfl⟩
 ·go_enter Tryz.func88,qbih
  go_wp2_with (at_builtin;refine Lib.wpList_append_run _ rfl _ _ _ _ rfl _ _ rfl rfl _ _ (hr _) ?_)
  all_goals (try (go_ret;exact ⟨rfl,rfl⟩))
 ·cases a1 with
  | none=>
   go_enter Tryz.func88,qbih
   go_wp2_with (at_builtin;refine Lib.wpList_append_run _ rfl _ _ _ _ rfl _ _ rfl rfl _ _ (hr _) ?_)
   all_goals (try (go_ret;exact ⟨rfl,rfl⟩))
  | some a0=>
   go_enter Tryz.func88,qbih
   go_wp2_with (at_builtin;refine Lib.wpList_append_run _ rfl _ _ _ _ rfl _ _ rfl rfl _ _ (hr _) ?_)
   all_goals (try (go_ret;exact ⟨rfl,rfl⟩))
end Go.V

namespace Go.V
set_option maxRecDepth 100000
set_option maxHeartbeats 4000000
open Go Go.Proofs Go.RowKit Go.Lib
theorem qbva (b n c i m:Nat) (a2:Addr) (c2 B G:Nat) (w w1 w2 w3:World) (r2 r3:qe) (hi:i<n) (hm:0<m) (hnc:n≤c) (hroom:c<n+m) (hG:n+m≤G) (hs63:n+m≤9223372036854775807)
  (hA:∀ ty,(Builtin.append_ #[29,3] ty #[.slice (some ⟨b,0,none⟩) i c,.int .i64 ((n:Int)+(m:Int) - (i:Int))]).run Tryz.prog w=.ok (.slice (some ⟨B,0,none⟩) (n+m) G) w1)
  (hB:∀ ty,(Builtin.copy_ #[29,29] ty #[.slice (some ⟨B,i,none⟩) (n+m - i) (G - i),.slice (some a2) m c2]).run Tryz.prog w1=.ok r2 w2)
  (hC:∀ ty,(Builtin.copy_ #[29,29] ty #[.slice (some ⟨B,i+m,none⟩) (n+m - (i+m)) (G - (i+m)),.slice (some ⟨b,i,none⟩) (n - i) (c - i)]).run Tryz.prog w2.drew=.ok r3 w3) :
  Calls Tryz.prog 88 #[.slice (some ⟨b,0,none⟩) n c,.int .i64 i,.slice (some a2) m c2] w fun e w'=>e=.returned (.slice (some ⟨B,0,none⟩) (n+m) G)∧w'=w3:=by
 have mx:=q39
 have u67:Tryz.prog.underlying 29=some (.slice 32):=by kernel_rfl
 have u3:Tryz.prog.underlying 3=some (.int .i64):=by kernel_rfl
 have v67:=run_underlying u67
 have v3:=run_underlying u3
 have s38:(Tryz.prog.info? 32).map (·.size)=some 1:=by kernel_rfl
 obtain ⟨i0,hi0⟩:∃ i0,Tryz.prog.info? 32=some i0:=by cases h:Tryz.prog.info? 32 with | none=>rw[h] at s38;cases s38 | some x=>exact ⟨x,rfl⟩
 have hs0:i0.size=1:=by rw[hi0] at s38;simpa using s38
 have hz1:¬ ((m:Int)=0):=by omega
 have hz2:¬ ((i:Int)=(n:Int)):=by omega
 have hz3:(c:Int)<(n:Int)+(m:Int):=by omega
 have hw1:IntKind.i64.wrap ((i:Int)+(m:Int))=(i:Int)+(m:Int):=by rw[IntKind.wrap_i64];omega
 have hb1:(0:Int)≤(i:Int)+(m:Int):=by omega
 have hin:i≤n:=by omega
 have htn:((i:Int)+(m:Int)).toNat=i+m:=by omega
 have hb3:(i:Int)≤(n:Int):=by omega
 have hGi:¬ (G=i):=by omega
 have hGim:¬ (G=i+m):=by omega
 have hci:¬ (c=i):=by omega
 go_enter Tryz.func88,qbih
 go_wp2_with (first
  | (at_builtin;refine Lib.wpList_append_run _ rfl _ _ _ _ rfl _ _ rfl rfl _ _ (hA _) ?_)
  | (at_builtin;refine wpList_copy_runI _ rfl _ _ 29 29 rfl _ _ rfl rfl (hB _) ?_))
 go_region_law_o (refine step_copy_runI rfl _ _ 29 29 rfl (.slice (some ⟨B,i+m,none⟩) (n+m - (i+m)) (G - (i+m))) (.slice (some ⟨b,i,none⟩) (n - i) (c - i)) (by simp[Act.eval,Act.put]) (by simp[Act.eval,Act.put]) (hC _) ?_)
 go_wp2
 go_ret
 exact ⟨rfl,rfl⟩
theorem qbt3 (b n c i m:Nat) (a2:Addr) (c2:Nat) (w w1 w2:World) (r1 r2:qe) (hi:i<n) (hm:0<m) (hroom:n+m≤c) (hs63:n+m≤9223372036854775807)
  (hov:∀ lb cb,(callFunc 154 #[.slice (some a2) m c2,.slice (some ⟨b,i+m,none⟩) lb cb]).run Tryz.prog w=.ok (.value (.bool false)) w)
  (hB:∀ ty dc sc,(Builtin.copy_ #[29,29] ty #[.slice (some ⟨b,i+m,none⟩) (n+m - (i+m)) dc,.slice (some ⟨b,i,none⟩) (n+m - i) sc]).run Tryz.prog w.drew=.ok r1 w1)
  (hC:∀ ty dc,(Builtin.copy_ #[29,29] ty #[.slice (some ⟨b,i,none⟩) (n+m - i) dc,.slice (some a2) m c2]).run Tryz.prog w1=.ok r2 w2) :
  Calls Tryz.prog 88 #[.slice (some ⟨b,0,none⟩) n c,.int .i64 i,.slice (some a2) m c2] w fun e w'=>e=.returned (.slice (some ⟨b,0,none⟩) (n+m) c)∧w'=w2:=by
 have mx:=q39
 have u67:Tryz.prog.underlying 29=some (.slice 32):=by kernel_rfl
 have u3:Tryz.prog.underlying 3=some (.int .i64):=by kernel_rfl
 have v67:=run_underlying u67
 have v3:=run_underlying u3
 have s38:(Tryz.prog.info? 32).map (·.size)=some 1:=by kernel_rfl
 obtain ⟨i0,hi0⟩:∃ i0,Tryz.prog.info? 32=some i0:=by cases h:Tryz.prog.info? 32 with | none=>rw[h] at s38;cases s38 | some x=>exact ⟨x,rfl⟩
 have hs0:i0.size=1:=by rw[hi0] at s38;simpa using s38
 have hz1:¬ ((m:Int)=0):=by omega
 have hz2:¬ ((i:Int)=(n:Int)):=by omega
 have hw1:IntKind.i64.wrap ((i:Int)+(m:Int))=(i:Int)+(m:Int):=by rw[IntKind.wrap_i64];omega
 have hb1:(0:Int)≤(i:Int)+(m:Int):=by omega
 have hin:i≤n:=by omega
 have htn:((i:Int)+(m:Int)).toNat=i+m:=by omega
 have hb2:¬ (c=i+m):=by omega
 have hb3:(i:Int)≤(n:Int)+(m:Int):=by omega
 have hb4:¬ (c=i):=by omega
 go_enter Tryz.func88,qbih
 go_wp2_with (simp only[hov])
 go_region_law_o (refine step_copy_runI rfl _ _ 29 29 rfl _ _ (by simp[Act.eval,Act.put]) (by simp[Act.eval,Act.put]) (hB _ _ _) ?_)
 go_wp2_with (at_builtin;refine wpList_copy_runI _ rfl _ _ 29 29 rfl _ _ rfl rfl (hC _ _) ?_)
 go_ret
 exact ⟨rfl,rfl⟩
end Go.V

namespace Go.V
set_option maxRecDepth 100000
set_option maxHeartbeats 4000000
open Go Go.Proofs Go.RowKit Go.Lib
theorem qbyp:Tryz.f95.ntmps=33:=by kernel_rfl
theorem qbg4 {P:Program} {ops:Array Oper} {o:Oper} {a:Act} {w:World} {K:Act→World→Prop} {Q:Exit→Act→World→Prop} {E:Prop}
  (hg:o.guard=none) (d x:Operand) (dT sT:TypeId) (hop:o.op=Op.call { callee:=Callee.builtin Builtin.append,args:=#[d,x],argTypes:=#[dT,sT] })
  (v u:qe) (hd:a.eval d=v) (hx:a.eval x=u) {v':qe} {w':World} (hr:(Builtin.append_ #[dT,sT] o.type #[v,u]).run P w=.ok v' w') (hK:K (a.put o.dst v') w') :
  if Region.wanted o (yielded ops a.tmps)=true then Oper.wp P o a w K Q else E:=by
 have hw:Region.wanted o (yielded ops a.tmps)=true:=by simp[Region.wanted,hg]
 rw[if_pos hw]
 exact Lib.wp_append_run w d x dT sT hop v u hd hx v' w' hr hK
theorem qbvw (b n c i j:Nat) (w w1 w2:World) (r2:qe) (hij:i<j) (hj:j≤n) (hnc:n≤c) (hn63:n≤9223372036854775807)
  (hA:∀ ty a,(a=(if c=j then some (⟨b,0,none⟩:Addr) else some ⟨b,j,none⟩))→(Builtin.append_ #[29,29] ty #[.slice (some ⟨b,0,none⟩) i c,.slice a (n - j) (c - j)]).run Tryz.prog w.drew=.ok (.slice (some ⟨b,0,none⟩) (i+(n - j)) c) w1)
  (hC:∀ ty,(Builtin.clear_ #[29] ty #[.slice (some ⟨b,i+(n - j),none⟩) (n - (i+(n - j))) (c - (i+(n - j)))]).run Tryz.prog w1=.ok r2 w2) :
  Calls Tryz.prog 95 #[.slice (some ⟨b,0,none⟩) n c,.int .i64 i,.int .i64 j] w fun e w'=>e=.returned (.slice (some ⟨b,0,none⟩) (i+(n - j)) c)∧w'=w2:=by
 have mx:=q39
 have u67:Tryz.prog.underlying 29=some (.slice 32):=by kernel_rfl
 have u3:Tryz.prog.underlying 3=some (.int .i64):=by kernel_rfl
 have v67:=run_underlying u67
 have v3:=run_underlying u3
 have s38:(Tryz.prog.info? 32).map (·.size)=some 1:=by kernel_rfl
 obtain ⟨i0,hi0⟩:∃ i0,Tryz.prog.info? 32=some i0:=by cases h:Tryz.prog.info? 32 with | none=>rw[h] at s38;cases s38 | some x=>exact ⟨x,rfl⟩
 have hs0:i0.size=1:=by rw[hi0] at s38;simpa using s38
 have hz2:¬ ((i:Int)=(j:Int)):=by omega
 have hij':i≤j:=by omega
 have hic:i≤c:=by omega
 have hjc:j≤c:=by omega
 have hin:i≤n:=by omega
 have hk1:i+(n - j)≤n:=by omega
 have hk2:i+(n - j)≤c:=by omega
 have hk3:¬ (c=i+(n - j)):=by omega
 obtain ⟨A,hAe⟩:∃ A:Option Addr,A=(if c=j then some (⟨b,0,none⟩:Addr) else some ⟨b,j,none⟩):=⟨_,rfl⟩
 go_enter Tryz.func95,qbyp
 go_wp2_with fail
 go_region_law_o (refine qbg4 rfl (.tmp 22) (.tmp 25) 29 29 rfl _ _ (by simp[Act.eval,Act.put]) (by simp[Act.eval,Act.put]) (hA _ _ rfl) ?_)
 all_goals (go_wp2_with (simp only[hC]))
 all_goals (try (go_ret;exact ⟨rfl,rfl⟩))
end Go.V

namespace Go.V
set_option maxRecDepth 100000
open Go Go.Proofs Go.RowKit
abbrev TVal:Ty:=.pair (.int .i64) (.pair (.int .i64) (.pair .str .unit))
abbrev TRow:Ty:=.sl TVal
abbrev SigD:Sig:=⟨[.own (.sl TRow) (Mk.top (.sl TRow)),.val (.int .i64),.val (.int .i64)],[.val (.sl TRow) (Mk.top (.sl TRow))]⟩
theorem sigD:ctx.sig 95=SigD:=by kernel_rfl
def delD (xs:List TRow.den) (i j:Int):Option (List TRow.den):=if 0≤i∧i<j∧j≤xs.length∧xs.length≤qbm then some (xs.take i.toNat++xs.drop j.toNat) else none
theorem qbx4:qbiv Tryz.prog SigD 95 fun a=>(delD a.1 a.2.1 a.2.2.1).map fun r=>((r,()),()):=by
 intro a r h w Pr Fs vs pre
 obtain ⟨xs,i,j,⟨⟩⟩:=a
 change List TRow.den at xs
 change Int at i
 change Int at j
 obtain ⟨v1,vs1,rfl,⟨c1,rep1,rfl⟩,v2,vs2,rfl,⟨c2,r2,rfl⟩,v3,vs3,rfl,⟨c3,r3,rfl⟩,k3⟩:=pre.rel
 obtain rfl:vs3=[]:=k3
 simp only[Rep] at r2 r3
 subst r2
 subst r3
 dsimp only at h
 unfold delD at h
 split at h
 ·rename_i hc
  obtain ⟨h0,hij,hj,hbd⟩:=hc
  replace hbd:xs.length≤274877906944:=hbd
  replace h0:0≤i:=h0
  replace hij:i<j:=hij
  replace hj:j≤xs.length:=hj
  simp only[Option.map_some,Option.some.injEq] at h
  subst h
  obtain ⟨i,rfl⟩:=Int.eq_ofNat_of_zero_le h0
  obtain ⟨j,rfl⟩:=Int.eq_ofNat_of_zero_le (show 0≤j by omega)
  obtain ⟨ad,cap,cells,F,rfl,hl,hlc,hsrc,el,hF,hown⟩:=qm0 (by simp[Mk.top]) (by simp[Mk.top]) rep1
  rcases hown 0 _ rfl with hc0 | ⟨b,cs,rfl,hbF,hbo,hcapb,hFb,hcells⟩
  ·replace hlc:xs.length≤cap:=hlc
   omega
  ·have hw1:TRow.width=1:=rfl
   replace hlc:xs.length≤cap:=hlc
   replace hl:cells.length=xs.length:=by rw[hl,hw1,Nat.mul_one]
   replace hcapb:cap≤cs.size:=by rw[hw1,Nat.mul_one] at hcapb;exact hcapb
   replace hcells:cells=sub cs 0 xs.length:=by rw[hcells,hw1,Nat.mul_one]
   have hij2:i<j:=by omega
   have hj2:j≤xs.length:=by omega
   have u67:Tryz.prog.underlying 29=some (.slice 32):=by kernel_rfl
   have s38:(Tryz.prog.info? 32).map (·.size)=some 1:=by kernel_rfl
   obtain ⟨i0,hi0⟩:∃ i0,Tryz.prog.info? 32=some i0:=by cases h:Tryz.prog.info? 32 with | none=>rw[h] at s38;cases s38 | some x=>exact ⟨x,rfl⟩
   have hs0:i0.size=1:=by rw[hi0] at s38;simpa using s38
   have hcd:cells.drop j=sub cs j (xs.length - j):=by
    rw[hcells]
    simp only[sub,List.drop_zero,List.drop_take]
   have hdl:(cells.drop j).length=xs.length - j:=by rw[List.length_drop,hl]
   have hone:∀ u∈cells.drop j,u.oneCell'=true:=by
    intro u hu
    obtain ⟨k,hk,rfl⟩:=List.getElem_of_mem hu
    rw[hdl] at hk
    have hk2:j+k<xs.length:=by omega
    have r:=el.rep (j+k) hk2
    refine Rep.one _ r _ ?_
    rw[hw1,Nat.mul_one,List.mem_iff_getElem?]
    refine ⟨0,?_⟩
    rw[List.getElem?_take,if_pos (by omega),List.getElem?_drop,Nat.add_zero,List.getElem_drop,List.getElem?_eq_getElem]
   have hA:∀ ty a,(a=(if cap=j then some (⟨b,0,none⟩:Addr) else some ⟨b,j,none⟩))→(Builtin.append_ #[29,29] ty #[.slice (some ⟨b,0,none⟩) i cap,.slice a (xs.length - j) (cap - j)]).run Tryz.prog w.drew=.ok (.slice (some ⟨b,0,none⟩) (i+(xs.length - j)) cap) (w.drew.setCells b i (cells.drop j)):=by
    intro ty a ha
    refine qks (P:=Tryz.prog) w.drew (ty:=ty) rfl rfl u67 u67 hi0 (news:=cells.drop j) ?_ (by omega) (fun ad e=>?_) (fun e=>by simp at e)
    ·rw[hs0]
     refine qfx (by rw[hdl,Nat.mul_one]) ?_
     by_cases h0:xs.length - j=0
     ·exact .inl ⟨h0,List.length_eq_zero_iff.1 (by rw[hdl,h0])⟩
     ·refine .inr ⟨b,j,by rw[ha,if_neg (by omega)],?_⟩
      rw[hcd]
      exact qc5 (qbv hbo.blk (by omega))
    ·simp only[Option.some.injEq] at e
     subst e
     rw[Addr.add_mid,Nat.zero_add,hs0,Nat.mul_one]
     have th:=qd6 (w:=w) (o:=i) (n:=(cells.drop j).length) hbo (by rw[hdl];omega)
     have:=run_storeCells_cells (P:=Tryz.prog) b i (cells.drop j) 0 w.drew (fun t ht=>by simpa using (th t ht).1) (fun t ht=>by simpa using (th t ht).2) hone
     simpa using this
   obtain ⟨ty,lo,hi,he,hfz⟩:=hbo
   have hfit:i+(cells.drop j).length≤cs.size:=by rw[hdl];omega
   obtain ⟨cs1,hcs1,hcs1l⟩:=qc8 (cells.drop j) i w.drew cs he hfit
   have hsz1:cs1.size=cs.size:=by rw[←Array.length_toList,hcs1l,qch (by simpa using hfit),Array.length_toList]
   have hob1:qbi (w.drew.setCells b i (cells.drop j)).heap b cs1:=⟨ty,lo,hi,hcs1,fun t ht=>hfz t (by omega)⟩
   let zs:List qe:=List.replicate (xs.length - (i+(xs.length - j))) (.slice none 0 0)
   have hzl:zs.length=xs.length - (i+(xs.length - j)):=List.length_replicate
   have hfit2:i+(xs.length - j)+zs.length≤cs1.size:=by rw[hzl];omega
   have th1:=qd6 (w:=w.drew.setCells b i (cells.drop j)) (o:=i+(xs.length - j)) (n:=zs.length) hob1 hfit2
   have hC:∀ ty,(Builtin.clear_ #[29] ty #[.slice (some ⟨b,i+(xs.length - j),none⟩) (xs.length - (i+(xs.length - j))) (cap - (i+(xs.length - j)))]).run Tryz.prog (w.drew.setCells b i (cells.drop j))=.ok (.tuple #[]) ((w.drew.setCells b i (cells.drop j)).setCells b (i+(xs.length - j)) zs):=fun ty=>
    Lib.run_clear_slice _ 29 32 ty (.slice none 0 0) u67 (fun w=>by kernel_rfl) rfl rfl b _ _ _ (by omega) (fun t ht=>(th1 t (by rw[hzl];exact ht)).1) (fun t ht=>(th1 t (by rw[hzl];exact ht)).2)
   obtain ⟨cs2,hcs2,hcs2l⟩:=qc8 zs (i+(xs.length - j)) _ cs1 hcs1 hfit2
   have hsz2:cs2.size=cs1.size:=by rw[←Array.length_toList,hcs2l,qch (by simpa using hfit2),Array.length_toList]
   have hob2:qbi ((w.drew.setCells b i (cells.drop j)).setCells b (i+(xs.length - j)) zs).heap b cs2:=⟨ty,lo,hi,hcs2,fun t ht=>hfz t (by omega)⟩
   have hother:∀ b',b'≠b→((w.drew.setCells b i (cells.drop j)).setCells b (i+(xs.length - j)) zs).heap[b']? = w.heap[b']?:=fun b' hb'=>(qbk zs _ _ b' hb').trans (qbk (cells.drop j) _ w.drew b' hb')
   have hPb:¬ Pr b:=fun hb=>pre.prot 0 b hbF hb
   obtain ⟨FF,elc,hFF⟩:=el.cut i j (by omega) hj2 (by rw[hw1,Nat.mul_one];exact hl)
   have hFFb:∀ a,¬ FF a b:=fun a hb=>by obtain ⟨c,hc⟩:=hFF a b hb;exact hFb c hc
   have el2:=elc.mono (h':=((w.drew.setCells b i (cells.drop j)).setCells b (i+(xs.length - j)) zs).heap) (Sub.refl _) (fun b' hb'=>hother b' (fun e0=>hPb (e0 ▸ hb'))) (fun a b' hb'=>hother b' (fun e0=>hFFb a (e0 ▸ hb')))
   have hlen:(xs.take i++xs.drop j).length=i+(xs.length - j):=by rw[List.length_append,List.length_take,List.length_drop];omega
   have htake:cs2.toList.take (i+(xs.length - j))=cells.take (i * TRow.width)++cells.drop (j * TRow.width):=by
    have h7:cs.toList.length=cs.size:=Array.length_toList
    rw[hcs2l,hw1,Nat.mul_one,Nat.mul_one]
    have e1:cs1.toList.take (i+(xs.length - j))=cells.take i++cells.drop j:=by
     rw[hcs1l]
     simp only[repl]
     rw[List.take_append_of_le_length (by rw[List.length_append,List.length_take,hdl];omega),List.take_of_length_le (by rw[List.length_append,List.length_take,hdl];omega)]
     congr 1
     rw[hcells]
     simp only[sub,List.drop_zero,List.take_take]
     congr 1;omega
    rw[←e1]
    simp only[repl]
    have h8:cs1.toList.length=cs1.size:=Array.length_toList
    rw[List.append_assoc,List.take_append_of_le_length (by rw[List.length_take];omega),List.take_take,Nat.min_self]
   have rep2:=el2.row hob2 (cap:=cap) (by rw[hw1,Nat.mul_one];omega) (by rw[hlen];omega) (fun t ht=>qp2 htake (by rw[hw1,Nat.mul_one];rw[hlen] at ht;omega)) hFFb 0
   rw[hlen] at rep2
   have hrest1:=qcg (b:=b) (cells.drop j) i w.drew
   have hrest2:=qcg (b:=b) zs (i+(xs.length - j)) (w.drew.setCells b i (cells.drop j))
   have hsize:((w.drew.setCells b i (cells.drop j)).setCells b (i+(xs.length - j)) zs).heap.size=w.heap.size:=by rw[qbc,qbc];rfl
   have hGF:∀ z,(z=b∨∃ t,FF t z)→Fs 0 z:=by
    rintro z (rfl | ⟨t,ht⟩)
    ·exact hbF
    ·obtain ⟨c,hc⟩:=hFF t z ht;exact hF c z hc
   refine (qbvw b xs.length cap i j w _ _ _ hij2 hj2 hlc (by omega) hA hC).mono ?_
   rintro e w' ⟨rfl,rfl⟩
   exact ⟨_,Pr,_,_,_,rfl,qbrz pre rep2 (fun z hz=>.inr ⟨0,hGF z hz⟩) (fun z hz hp=>pre.prot 0 z (hGF z hz) hp) (fun z hz=>by rw[hsize];exact pre.lim 0 z (hGF z hz)) (by rw[hsize];exact Nat.le_refl _) () ⟨_,_,rfl,_,_,rfl,_,_,rfl,rfl⟩
    ⟨hrest2.1.trans hrest1.1,hrest2.2.1.trans hrest1.2.1,hrest2.2.2.trans hrest1.2.2,by rw[hsize];exact Nat.le_refl _,fun b' _ hb'=>hother b' (fun e0=>hb' (e0 ▸ .inr ⟨0,hbF⟩))⟩⟩
 ·simp at h
end Go.V

namespace Go.V
set_option maxRecDepth 100000
open Go Go.Proofs Go.RowKit
abbrev SigI:Sig:=⟨[.own (.sl TRow) (Mk.top (.sl TRow)),.val (.int .i64),.own (.sl TRow) (Mk.top (.sl TRow))],[.val (.sl TRow) (Mk.top (.sl TRow))]⟩
theorem sigI:ctx.sig 88=SigI:=by kernel_rfl
def insD (xs:List TRow.den) (i:Int) (ys:List TRow.den):Option (List TRow.den):=if 0≤i∧i≤xs.length∧0<ys.length∧xs.length+ys.length≤qbm then some (xs.take i.toNat++ys++xs.drop i.toNat) else none
theorem qwt {w w2:World} {Pr:BS} {Fs:Nat→BS} {ks:List PK} {a:PDen ks} {vs:List qe} (pre:Pre w.heap Pr Fs ks a vs) {e:Ty} {mi:Mk} {zs:List e.den} {cells:List qe} {FF:Nat→BS} {B cap:Nat} {cs:Array qe}
  (el:El w.heap Pr e mi zs cells FF) (hFF:∀ t b,FF t b→∃ k,Fs k b) (hob:qbi w2.heap B cs) (hcap:cap * e.width≤cs.size) (hl:zs.length≤cap) (htake:cs.toList.take (zs.length * e.width)=cells)
  (hB:B=w.heap.size∨(∃ k,Fs k B)) (hFB:∀ t,¬ FF t B) (hother:∀ b',b'<w.heap.size→b'≠B→w2.heap[b']? = w.heap[b']?) (hsz:w.heap.size≤w2.heap.size) (hBl:B<w2.heap.size)
  (h1:w2.os=w.os) (h2:w2.tape=w.tape) (h3:w2.output=w.output) (o:ODen ks) (out:qez w2.heap Pr (fun _=>Nil) 0 ks o vs) :
  ∃ val Pr' Gs Os us,(qe.slice (some ⟨B,0,none⟩) zs.length cap)=val∧Pst w w2 Pr Fs ks [.val (.sl e) (.own 0 mi)] (zs,()) o vs val Pr' Gs Os us:=by
 have hFl:∀ t b,FF t b→b<w.heap.size:=fun t b hb=>by obtain ⟨k,hk⟩:=hFF t b hb;exact pre.lim k b hk
 have hPB:¬ Pr B:=fun hb=>by
  rcases hB with rfl | ⟨k,hk⟩
  ·exact Nat.lt_irrefl _ (pre.limPr _ hb)
  ·exact pre.prot k B hk hb
 have el2:=el.mono (h':=w2.heap) (Sub.refl _) (fun b' hb'=>hother b' (pre.limPr b' hb') (fun e0=>hPB (e0 ▸ hb'))) (fun t b' hb'=>hother b' (hFl t b' hb') (fun e0=>hFB t (e0 ▸ hb')))
 have rep:=el2.row hob (cap:=cap) hcap hl (fun t ht=>qp2 htake (by
  have:=Nat.mul_le_mul_right e.width (show t+1≤zs.length by exact ht)
  rw[Nat.succ_mul] at this;exact this)) hFB 0
 have hG:∀ z,(z=B∨∃ t,FF t z)→May w.heap.size Fs z:=by
  rintro z (rfl | ⟨t,ht⟩)
  ·rcases hB with e0 | hk
   ·exact .inl (by omega)
   ·exact .inr hk
  ·exact .inr (hFF t z ht)
 refine ⟨_,Pr,_,_,_,rfl,qbrz pre rep hG (fun z hz hp=>?_) (fun z hz=>?_) hsz o out ⟨h1,h2,h3,hsz,fun b' hb1 hb'=>hother b' hb1 (fun e0=>hb' ?_)⟩⟩
 ·rcases hz with rfl | ⟨t,ht⟩
  ·exact hPB hp
  ·obtain ⟨k,hk⟩:=hFF t z ht;exact pre.prot k z hk hp
 ·rcases hz with rfl | ⟨t,ht⟩
  ·exact hBl
  ·exact Nat.lt_of_lt_of_le (hFl t z ht) hsz
 ·subst e0
  exact hG b' (.inl rfl)
theorem El.one {h:Array Obj} {Pr:BS} {mi:Mk} {xs:List TRow.den} {cells:List qe} {F:Nat→BS} (el:El h Pr TRow mi xs cells F) (hl:cells.length=xs.length):∀ u∈cells,u.oneCell'=true:=by
 intro u hu
 obtain ⟨k,hk,rfl⟩:=List.getElem_of_mem hu
 have hk2:k<xs.length:=by omega
 have r:=el.rep k hk2
 have hw1:TRow.width=1:=rfl
 refine Rep.one _ r _ ?_
 rw[hw1,Nat.mul_one,List.mem_iff_getElem?]
 refine ⟨0,?_⟩
 rw[List.getElem?_take,if_pos (by omega),List.getElem?_drop,Nat.add_zero,List.getElem?_eq_getElem]
theorem qbwi {l D C:List qe} {i m:Nat} (hC:C.length=m) (hl:i+m+D.length≤l.length):(repl (repl l (i+m) D) i C).take (i+m+D.length)=l.take i++C++D:=by
 have hA:(l.take (i+m)).length=i+m:=by rw[List.length_take];omega
 have e1:(repl l (i+m) D).take i=l.take i:=by
  simp only[repl]
  rw[List.append_assoc,List.take_append_of_le_length (by omega),List.take_take]
  congr 1;omega
 have e2:(repl l (i+m) D).drop (i+m)=D++l.drop (i+m+D.length):=by
  simp only[repl]
  rw[List.append_assoc,List.drop_append_of_le_length (by omega),List.drop_eq_nil_of_le (by omega),List.nil_append]
 have e3:repl (repl l (i+m) D) i C=(l.take i++C++D)++l.drop (i+m+D.length):=by
  show (repl l (i+m) D).take i++C++(repl l (i+m) D).drop (i+C.length)=_
  rw[e1,hC,e2];simp only[List.append_assoc]
 rw[e3,List.take_append_of_le_length (by simp only[List.length_append,List.length_take];omega),List.take_of_length_le (by simp only[List.length_append,List.length_take];omega)]
theorem qbwd {l D C:List qe} {i m:Nat} (hC:C.length=m) (hl:i+m+D.length≤l.length):(repl (repl l i C) (i+m) D).take (i+m+D.length)=l.take i++C++D:=by
 have hA:(l.take i++C).length=i+m:=by rw[List.length_append,List.length_take];omega
 have e1:(repl l i C).take (i+m)=l.take i++C:=by
  show (l.take i++C++l.drop (i+C.length)).take (i+m)=_
  rw[List.take_append_of_le_length (by omega),List.take_of_length_le (by omega)]
 show ((repl l i C).take (i+m)++D++(repl l i C).drop (i+m+D.length)).take (i+m+D.length)=_
 rw[e1,List.take_append_of_le_length (by rw[List.length_append];omega),List.take_of_length_le (by rw[List.length_append];omega)]
theorem qbyc:qbiv Tryz.prog SigI 88 fun a=>(insD a.1 a.2.1 a.2.2.1).map fun r=>((r,()),()):=by
 intro a r h w Pr Fs vs pre
 obtain ⟨xs,i,ys,⟨⟩⟩:=a
 change List TRow.den at xs
 change Int at i
 change List TRow.den at ys
 obtain ⟨v1,vs1,rfl,⟨c1,rep1,rfl⟩,v2,vs2,rfl,⟨c2,r2,rfl⟩,v3,vs3,rfl,⟨c3,rep3,rfl⟩,k3⟩:=pre.rel
 obtain rfl:vs3=[]:=k3
 simp only[Rep] at r2
 subst r2
 dsimp only at h
 unfold insD at h
 split at h
 ·rename_i hc
  obtain ⟨h0,hi,hm,hbd⟩:=hc
  replace h0:0≤i:=h0
  replace hi:i≤xs.length:=hi
  replace hm:0<ys.length:=hm
  replace hbd:xs.length+ys.length≤274877906944:=hbd
  simp only[Option.map_some,Option.some.injEq] at h
  subst h
  obtain ⟨i,rfl⟩:=Int.eq_ofNat_of_zero_le h0
  have hi2:i≤xs.length:=by omega
  obtain ⟨ad1,cap1,cells1,F1,rfl,hl1,hlc1,hsrc1,el1,hF1,hown1⟩:=qm0 (by simp[Mk.top]) (by simp[Mk.top]) rep1
  obtain ⟨ad2,cap2,cells2,F2,rfl,hl2,hlc2,hsrc2,el2,hF2,hown2⟩:=qm0 (by simp[Mk.top]) (by simp[Mk.top]) rep3
  have hw1:TRow.width=1:=rfl
  replace hlc1:xs.length≤cap1:=hlc1
  replace hlc2:ys.length≤cap2:=hlc2
  have hl1':cells1.length=xs.length:=by rw[hl1,hw1,Nat.mul_one]
  have hl2':cells2.length=ys.length:=by rw[hl2,hw1,Nat.mul_one]
  rcases hown2 0 _ rfl with hc0 | ⟨b2,cs2,rfl,hbF2,hbo2,hcapb2,hFb2,hcells2⟩
  ·exact absurd hc0 (by omega)
  replace hcapb2:cap2≤cs2.size:=by rw[hw1,Nat.mul_one] at hcapb2;exact hcapb2
  replace hcells2:cells2=sub cs2 0 ys.length:=by rw[hcells2,hw1,Nat.mul_one]
  have hd12:∀ p q,Dis (F1 p) (F2 q):=fun p q=>(pre.dis 0 2 (by decide)).mono (hF1 p) (hF2 q)
  obtain ⟨FF,elz,hFF⟩:=El.insert el1 el2 i hi2 (by rw[hl1]) (by rw[hl2]) hd12
  rw[hw1,Nat.mul_one] at elz
  have hFs:∀ t b,FF t b→∃ k,Fs k b:=fun t b hb=>by
   rcases hFF t b hb with ⟨c,hc⟩ | ⟨c,hc⟩
   ·exact ⟨0,hF1 c b hc⟩
   ·exact ⟨2,hF2 c b hc⟩
  have hlz:(xs.take i++ys++xs.drop i).length=xs.length+ys.length:=by simp only[List.length_append,List.length_take,List.length_drop];omega
  have hone1:=el1.one hl1'
  have hone2:=el2.one hl2'
  have u67:Tryz.prog.underlying 29=some (.slice 32):=by kernel_rfl
  have u3:Tryz.prog.underlying 3=some (.int .i64):=by kernel_rfl
  obtain ⟨i0,hi0,hs0,hz0,hb0⟩:∃ i0,Tryz.prog.info? 32=some i0∧i0.size=1∧i0.zero=some (.slice none 0 0)∧i0.bytes=24:=by
   have k:((Tryz.prog.info? 32).map fun x=>(x.size,x.zero,x.bytes))=some (1,some (.slice none 0 0),24):=by kernel_rfl
   cases h:Tryz.prog.info? 32 with
   | none=>rw[h] at k;cases k
   | some x=>
    rw[h] at k
    simp only[Option.map_some,Option.some.injEq,Prod.mk.injEq] at k
    exact ⟨x,rfl,k.1,k.2.1,k.2.2⟩
  have hn2:(Builtin.firstCells i0.size ys.length (.slice (some ⟨b2,0,none⟩) ys.length cap2)).run Tryz.prog w=.ok cells2.toArray w:=by
   rw[hs0]
   exact qfx (by rw[hl2',Nat.mul_one]) (.inr ⟨b2,0,rfl,by rw[hcells2];exact qbv hbo2.blk (by omega)⟩)
  have ht0:cells1.take xs.length=cells1:=List.take_of_length_le (by omega)
  have hd0:cells1.drop xs.length=[]:=List.drop_eq_nil_of_le (by omega)
  have houts:∀ (h:Array Obj) (v1 v2 v3:qe),qez h Pr (fun _=>Nil) 0 SigI.params () [v1,v2,v3]:=fun h v1 v2 v3=>⟨_,_,rfl,_,_,rfl,_,_,rfl,rfl⟩
  by_cases hend:i=xs.length
  ·subst hend
   rw[ht0,hd0,List.append_nil] at elz
   by_cases hroom:xs.length+ys.length≤cap1
   ·rcases hown1 0 _ rfl with hc0 | ⟨b1,cs1,rfl,hbF1,hbo1,hcapb1,hFb1,hcells1⟩
    ·exact absurd hc0 (by omega)
    replace hcapb1:cap1≤cs1.size:=by rw[hw1,Nat.mul_one] at hcapb1;exact hcapb1
    replace hcells1:cells1=sub cs1 0 xs.length:=by rw[hcells1,hw1,Nat.mul_one]
    have hfit:xs.length+cells2.length≤cs1.size:=by omega
    have hr:∀ ty,(Builtin.append_ #[29,29] ty #[.slice (some ⟨b1,0,none⟩) xs.length cap1,.slice (some ⟨b2,0,none⟩) ys.length cap2]).run Tryz.prog w=.ok (.slice (some ⟨b1,0,none⟩) (xs.length+ys.length) cap1) (w.setCells b1 xs.length cells2):=fun ty=>
     qks (P:=Tryz.prog) w (ty:=ty) rfl rfl u67 u67 hi0 hn2 hroom (fun ad e=>by
      simp only[Option.some.injEq] at e
      subst e
      rw[Addr.add_mid,Nat.zero_add,hs0,Nat.mul_one]
      have th:=qd6 (w:=w) (o:=xs.length) (n:=cells2.length) hbo1 hfit
      have:=run_storeCells_cells (P:=Tryz.prog) b1 xs.length cells2 0 w (fun t ht=>by simpa using (th t ht).1) (fun t ht=>by simpa using (th t ht).2) hone2
      simpa using this) (fun e=>by simp at e)
    obtain ⟨ty,lo,hi',he,hfz⟩:=hbo1
    obtain ⟨cs3,hcs3,hcs3l⟩:=qc8 cells2 xs.length w cs1 he hfit
    have hsz3:cs3.size=cs1.size:=by rw[←Array.length_toList,hcs3l,qch (by simpa using hfit),Array.length_toList]
    have hob3:qbi (w.setCells b1 xs.length cells2).heap b1 cs3:=⟨ty,lo,hi',hcs3,fun t ht=>hfz t (by omega)⟩
    have h7:cs1.toList.length=cs1.size:=Array.length_toList
    have htake:cs3.toList.take ((xs.take xs.length++ys++xs.drop xs.length).length * TRow.width)=cells1++cells2:=by
     rw[hw1,Nat.mul_one,hlz,hcs3l,hcells1]
     simp only[repl,sub,List.drop_zero]
     rw[List.take_append_of_le_length (by rw[List.length_append,List.length_take,hl2'];omega),List.take_of_length_le (by rw[List.length_append,List.length_take,hl2'];omega)]
    have hrest:=qcg (b:=b1) cells2 xs.length w
    have hFBb:∀ t,¬ FF t b1:=fun t hb=>by
     rcases hFF t b1 hb with ⟨c,hc⟩ | ⟨c,hc⟩
     ·exact hFb1 c hc
     ·exact pre.dis 0 2 (by decide) b1 hbF1 (hF2 c b1 hc)
    refine (qbr1 (some ⟨b1,0,none⟩) xs.length cap1 ys.length (some ⟨b2,0,none⟩) cap2 w _ _ hm hlc1 (.inl ⟨b1,rfl⟩) hr).mono ?_
    rintro e w' ⟨rfl,rfl⟩
    obtain ⟨val,Pr',Gs,Os,us,hv,hp⟩:=qwt pre elz hFs hob3 (cap:=cap1) (by rw[hw1,Nat.mul_one];omega) (by rw[hlz];exact hroom) htake (.inr ⟨0,hbF1⟩) hFBb (fun b' _ hb'=>qbk cells2 _ w b' hb') (by rw[qbc];exact Nat.le_refl _) (by rw[qbc];exact pre.lim 0 b1 hbF1) hrest.1 hrest.2.1 hrest.2.2 () (houts _ _ _ _)
    exact ⟨val,Pr',Gs,Os,us,by rw[←hv,hlz],hp⟩
   ·have hg:cap1<xs.length+ys.length:=by omega
    have hn2d:(Builtin.firstCells i0.size ys.length (.slice (some ⟨b2,0,none⟩) ys.length cap2)).run Tryz.prog w.drew=.ok cells2.toArray w.drew:=by
     rw[hs0]
     exact qfx (by rw[hl2',Nat.mul_one]) (.inr ⟨b2,0,rfl,qc5 (by rw[hcells2];exact qbv hbo2.blk (by omega))⟩)
    have hn1d:(Builtin.firstCells i0.size xs.length (.slice ad1 xs.length cap1)).run Tryz.prog w.drew=.ok cells1.toArray w.drew:=by
     rw[hs0]
     refine qfx (by rw[hl1',Nat.mul_one]) ?_
     rcases hsrc1 with ⟨h1,h2⟩ | ⟨b,o,cs,h1,h2,h3,h4⟩
     ·exact .inl ⟨h1,h2⟩
     ·exact .inr ⟨b,o,h1,qc5 (h4 ▸ qbv h2 h3)⟩
    have hfit:Builtin.nextslicecap (xs.length+ys.length) cap1 * i0.bytes≤281474976710656:=by
     have:=Room.nextslicecap_le' (need:=xs.length+ys.length) (old:=cap1) hg
     rw[hb0];omega
    have hr:=fun ty=>qyq (P:=Tryz.prog) w (ats:=#[29,29]) (ty:=ty) rfl rfl u67 u67 hi0 hz0 hn2d hn1d hg (by omega) hfit
    have hge:=grownCap_ge w (xs.length+ys.length) cap1 32
    generalize grownCap w (xs.length+ys.length) cap1 32=cap' at hr hge
    have hzs:(qe.slice none 0 0).cells.size=1:=rfl
    have hcss:(cells1.toArray++cells2.toArray++Builtin.zeroCells (qe.slice none 0 0).cells (cap' - (xs.length+ys.length))).size=cap':=by
     simp only[Array.size_append,List.size_toArray,size_zeroCells,hzs,hl1',hl2'];omega
    have htk:(cells1.toArray++cells2.toArray++Builtin.zeroCells (qe.slice none 0 0).cells (cap' - (xs.length+ys.length))).toList.take (xs.length+ys.length)=cells1++cells2:=by
     simp only[Array.toList_append,List.append_assoc]
     rw[←List.append_assoc,List.take_append_of_le_length (by rw[List.length_append];omega),List.take_of_length_le (by rw[List.length_append];omega)]
    generalize cells1.toArray++cells2.toArray++Builtin.zeroCells (qe.slice none 0 0).cells (cap' - (xs.length+ys.length))=cs at hr hcss htk
    have h1a:(∃ b,ad1=some ⟨b,0,none⟩)∨(xs.length=0∧cap1=0):=by
     rcases hown1 0 _ rfl with hc0 | ⟨b1,cs1,rfl,_⟩
     ·exact .inr ⟨by omega,hc0⟩
     ·exact .inl ⟨b1,rfl⟩
    refine (qbr1 ad1 xs.length cap1 ys.length (some ⟨b2,0,none⟩) cap2 w _ _ hm hlc1 h1a hr).mono ?_
    rintro e w' ⟨rfl,rfl⟩
    obtain ⟨val,Pr',Gs,Os,us,hv,hp⟩:=qwt (w2:=w.drew.alloc (.cells cs 32)) pre elz hFs (B:=w.heap.size) (cs:=cs) qbi.new (cap:=cap') (by rw[hw1,Nat.mul_one,hcss];exact Nat.le_refl _) (by rw[hlz];exact hge) (by rw[hw1,Nat.mul_one,hlz];exact htk) (.inl rfl)
     (fun t hb=>by obtain ⟨k,hk⟩:=hFs t _ hb;exact Nat.lt_irrefl _ (pre.lim k _ hk)) (fun b' hb1 _=>qgt b' hb1) (by show w.heap.size≤(w.heap.push _).size;simp) (by show w.heap.size<(w.heap.push _).size;simp) rfl rfl rfl () (houts _ _ _ _)
    exact ⟨val,Pr',Gs,Os,us,by rw[←hv,hlz],hp⟩
  ·have hlt:i<xs.length:=by omega
   rcases hown1 0 _ rfl with hc0 | ⟨b1,cs1,rfl,hbF1,hbo1,hcapb1,hFb1,hcells1⟩
   ·exact absurd hc0 (by omega)
   replace hcapb1:cap1≤cs1.size:=by rw[hw1,Nat.mul_one] at hcapb1;exact hcapb1
   replace hcells1:cells1=sub cs1 0 xs.length:=by rw[hcells1,hw1,Nat.mul_one]
   have hb12:b2≠b1:=fun e=>pre.dis 0 2 (by decide) b1 hbF1 (e ▸ hbF2)
   have hcd:cells1.drop i=sub cs1 i (xs.length - i):=by
    rw[hcells1]
    simp only[sub,List.drop_zero,List.drop_take]
   have hct:cells1.take i=cs1.toList.take i:=by
    rw[hcells1]
    simp only[sub,List.drop_zero,List.take_take]
    congr 1;omega
   have hdl:(cells1.drop i).length=xs.length - i:=by rw[List.length_drop,hl1']
   have honed:∀ u∈cells1.drop i,u.oneCell'=true:=fun u hu=>hone1 u (List.mem_of_mem_drop hu)
   have hFBb:∀ t,¬ FF t b1:=fun t hb=>by
    rcases hFF t b1 hb with ⟨c,hc⟩ | ⟨c,hc⟩
    ·exact hFb1 c hc
    ·exact pre.dis 0 2 (by decide) b1 hbF1 (hF2 c b1 hc)
   have hsz38:(Tryz.prog.info? 32).map (·.size)=some 1:=by rw[hi0];simp[hs0]
   have hel:cells1.take i++cells2++cells1.drop i=(cells1.take i++cells2++cells1.drop i):=rfl
   by_cases hroom:xs.length+ys.length≤cap1
   ·have hov:∀ lb cb,(callFunc 154 #[.slice (some ⟨b2,0,none⟩) ys.length cap2,.slice (some ⟨b1,i+ys.length,none⟩) lb cb]).run Tryz.prog w=.ok (.value (.bool false)) w:=by
     intro lb cb
     obtain ⟨e2,lo2,hi2,he2,hf2⟩:=hbo2
     obtain ⟨e1,lo1,hi1,he1,hf1⟩:=hbo1
     have hnf:∀ k,k≤cs2.size→w.frozen? ⟨b2,k,none⟩=false:=fun k hk=>by
      have:=hf2 k hk
      simp only[World.frozen?,he2]
      simpa using this
     rw[run_callFunc_extern (P:=Tryz.prog) (f:=154) (fn:=Tryz.f154) Tryz.func154 (by kernel_rfl) (by kernel_rfl) (by kernel_rfl) (e:=Extern.SlicesOverlaps.overlaps #[29,29] #[4]) (by kernel_rfl),
      Lib.run_overlaps_apart w 29 4 32 u67 1 (fun w=>by simp[sizeOf,typeInfo,hi0,hs0]) ⟨b2,0,none⟩ ⟨b1,i+ys.length,none⟩ ys.length cap2 lb cb hb12 e2 e1 cs2.size cs1.size (by simp[World.shape?,he2]) (by simp[World.shape?,he1]) (by omega) (hnf 0 (by omega)) (hnf _ (Nat.le_refl _))]
     rfl
    have hfitA:i+ys.length+(cells1.drop i).length≤cs1.size:=by rw[hdl];omega
    have thA:=qd6 (w:=w) (o:=i+ys.length) (n:=(cells1.drop i).length) hbo1 hfitA
    have hB:∀ ty dc sc,(Builtin.copy_ #[29,29] ty #[.slice (some ⟨b1,i+ys.length,none⟩) (xs.length+ys.length - (i+ys.length)) dc,.slice (some ⟨b1,i,none⟩) (xs.length+ys.length - i) sc]).run Tryz.prog w.drew=.ok (goInt (cells1.drop i).length) (w.drew.setCells b1 (i+ys.length) (cells1.drop i)):=fun ty dc sc=>
     run_copy_cells w.drew 29 29 ty 32 b1 (i+ys.length) _ dc ⟨b1,i,none⟩ _ sc (cells1.drop i) u67 hsz38 (by rw[hdl];simp only[Nat.min_def];split<;>omega)
      (fun k v hk=>by rw[Addr.add_mid];exact qc5 (w:=w) (b:=b1) (o:=i) (cs:=cells1.drop i) (by rw[hcd];exact qbv hbo1.blk (by omega)) k v hk) (fun k hk=>(thA k hk).1) (fun k hk=>(thA k hk).2) honed
    have hbo1':=hbo1
    obtain ⟨ty,lo,hi',he,hfz⟩:=hbo1
    obtain ⟨cs3,hcs3,hcs3l⟩:=qc8 (cells1.drop i) (i+ys.length) w.drew cs1 he hfitA
    have hsz3:cs3.size=cs1.size:=by rw[←Array.length_toList,hcs3l,qch (by simpa using hfitA),Array.length_toList]
    have hob3:qbi (w.drew.setCells b1 (i+ys.length) (cells1.drop i)).heap b1 cs3:=⟨ty,lo,hi',hcs3,fun t ht=>hfz t (by omega)⟩
    have hfitB:i+cells2.length≤cs3.size:=by omega
    have thB:=qd6 (w:=w.drew.setCells b1 (i+ys.length) (cells1.drop i)) (o:=i) (n:=cells2.length) hob3 hfitB
    have hr2:(w.drew.setCells b1 (i+ys.length) (cells1.drop i)).rangeAt b2 0 cells2:=by
     rw[hcells2]
     exact qbv (Blk.congr hbo2.blk (qbk (cells1.drop i) _ w.drew b2 hb12)) (by omega)
    have hC:∀ ty dc,(Builtin.copy_ #[29,29] ty #[.slice (some ⟨b1,i,none⟩) (xs.length+ys.length - i) dc,.slice (some ⟨b2,0,none⟩) ys.length cap2]).run Tryz.prog (w.drew.setCells b1 (i+ys.length) (cells1.drop i))=.ok (goInt cells2.length) ((w.drew.setCells b1 (i+ys.length) (cells1.drop i)).setCells b1 i cells2):=fun ty dc=>
     run_copy_cells _ 29 29 ty 32 b1 i _ dc ⟨b2,0,none⟩ _ cap2 cells2 u67 hsz38 (by rw[hl2'];simp only[Nat.min_def];split<;>omega)
      (fun k v hk=>by rw[Addr.add_mid];exact hr2 k v hk) (fun k hk=>(thB k hk).1) (fun k hk=>(thB k hk).2) hone2
    obtain ⟨cs4,hcs4,hcs4l⟩:=qc8 cells2 i _ cs3 hcs3 hfitB
    have hsz4:cs4.size=cs3.size:=by rw[←Array.length_toList,hcs4l,qch (by simpa using hfitB),Array.length_toList]
    have hob4:qbi ((w.drew.setCells b1 (i+ys.length) (cells1.drop i)).setCells b1 i cells2).heap b1 cs4:=⟨ty,lo,hi',hcs4,fun t ht=>hfz t (by omega)⟩
    have h7:cs1.toList.length=cs1.size:=Array.length_toList
    have htake:cs4.toList.take ((xs.take i++ys++xs.drop i).length * TRow.width)=cells1.take i++cells2++cells1.drop i:=by
     have e:=qbwi (l:=cs1.toList) (D:=cells1.drop i) (C:=cells2) (i:=i) (m:=ys.length) hl2' (by rw[h7];exact hfitA)
     rw[hw1,Nat.mul_one,hlz,hcs4l,hcs3l,hct]
     rw[show xs.length+ys.length=i+ys.length+(cells1.drop i).length by rw[hdl];omega]
     exact e
    have hrest1:=qcg (b:=b1) (cells1.drop i) (i+ys.length) w.drew
    have hrest2:=qcg (b:=b1) cells2 i (w.drew.setCells b1 (i+ys.length) (cells1.drop i))
    have hsize:((w.drew.setCells b1 (i+ys.length) (cells1.drop i)).setCells b1 i cells2).heap.size=w.heap.size:=by rw[qbc,qbc];rfl
    refine (qbt3 b1 xs.length cap1 i ys.length ⟨b2,0,none⟩ cap2 w _ _ _ _ hlt hm hroom (by omega) hov hB hC).mono ?_
    rintro e w' ⟨rfl,rfl⟩
    obtain ⟨val,Pr',Gs,Os,us,hv,hp⟩:=qwt pre elz hFs hob4 (cap:=cap1) (by rw[hw1,Nat.mul_one];omega) (by rw[hlz];exact hroom) htake (.inr ⟨0,hbF1⟩) hFBb
     (fun b' _ hb'=>(qbk cells2 _ _ b' hb').trans (qbk (cells1.drop i) _ w.drew b' hb')) (by rw[hsize];exact Nat.le_refl _) (by rw[hsize];exact pre.lim 0 b1 hbF1) (hrest2.1.trans hrest1.1) (hrest2.2.1.trans hrest1.2.1) (hrest2.2.2.trans hrest1.2.2) () (houts _ _ _ _)
    exact ⟨val,Pr',Gs,Os,us,by rw[←hv,hlz],hp⟩
   ·have hg:cap1<xs.length+ys.length:=by omega
    obtain ⟨K,hK⟩:∃ K,K=xs.length+ys.length - i:=⟨_,rfl⟩
    have hKi:i+K=xs.length+ys.length:=by omega
    have hn1d:(Builtin.firstCells i0.size i (.slice (some ⟨b1,0,none⟩) i cap1)).run Tryz.prog w.drew=.ok (cells1.take i).toArray w.drew:=by
     rw[hs0]
     refine qfx (by rw[List.length_take,hl1',Nat.mul_one];omega) (.inr ⟨b1,0,rfl,qc5 ?_⟩)
     have e:cells1.take i=sub cs1 0 i:=by rw[hct];simp only[sub,List.drop_zero]
     rw[e];exact qbv hbo1.blk (by omega)
    have hfit:Builtin.nextslicecap (i+K) cap1 * i0.bytes≤281474976710656:=by
     have:=Room.nextslicecap_le' (need:=i+K) (old:=cap1) (by omega)
     rw[hb0];omega
    have hr:=fun ty=>Lib.run_append_grow_zeros (P:=Tryz.prog) w 29 3 ty 32 i0 _ .i64 .i64 u67 u3 hi0 hz0 (some ⟨b1,0,none⟩) i cap1 (cells1.take i) hn1d K (by omega) (by omega) (by omega) (by omega) (by rw[hb0];omega) hfit
    have hge:=grownCap_ge w (i+K) cap1 32
    generalize grownCap w (i+K) cap1 32=cap' at hr hge
    have hzs:(qe.slice none 0 0).cells.size=1:=rfl
    have hcss:((cells1.take i).toArray++Builtin.zeroCells (qe.slice none 0 0).cells K++Builtin.zeroCells (qe.slice none 0 0).cells (cap' - (i+K))).size=cap':=by
     simp only[Array.size_append,List.size_toArray,size_zeroCells,hzs,List.length_take,hl1'];omega
    have htk:((cells1.take i).toArray++Builtin.zeroCells (qe.slice none 0 0).cells K++Builtin.zeroCells (qe.slice none 0 0).cells (cap' - (i+K))).toList.take i=cells1.take i:=by
     simp only[Array.toList_append,List.append_assoc]
     rw[List.take_append_of_le_length (by rw[List.length_take,hl1'];omega),List.take_of_length_le (by rw[List.length_take,hl1'];omega)]
    generalize (cells1.take i).toArray++Builtin.zeroCells (qe.slice none 0 0).cells K++Builtin.zeroCells (qe.slice none 0 0).cells (cap' - (i+K))=cs0 at hr hcss htk
    rw[hKi] at hr hge
    have hKI:((K:Nat):Int)=(xs.length:Int)+(ys.length:Int) - (i:Int):=by omega
    rw[hKI] at hr
    have hob0:qbi (w.drew.alloc (.cells cs0 32)).heap w.heap.size cs0:=qbi.new
    have hb1lt:=pre.lim 0 b1 hbF1
    have hb2lt:=pre.lim 2 b2 hbF2
    have hb1B:b1≠w.heap.size:=by omega
    have hb2B:b2≠w.heap.size:=by omega
    have hold:∀ b',b'<w.heap.size→(w.drew.alloc (.cells cs0 32)).heap[b']? = w.heap[b']?:=fun b' hb'=>qgt b' hb'
    have hfitA:i+cells2.length≤cs0.size:=by omega
    have thA:=qd6 (w:=w.drew.alloc (.cells cs0 32)) (o:=i) (n:=cells2.length) hob0 hfitA
    have hr2:(w.drew.alloc (.cells cs0 32)).rangeAt b2 0 cells2:=by
     rw[hcells2]
     exact qbv (Blk.congr hbo2.blk (hold b2 hb2lt)) (by omega)
    have hB:∀ ty,(Builtin.copy_ #[29,29] ty #[.slice (some ⟨w.heap.size,i,none⟩) (xs.length+ys.length - i) (cap' - i),.slice (some ⟨b2,0,none⟩) ys.length cap2]).run Tryz.prog (w.drew.alloc (.cells cs0 32))=.ok (goInt cells2.length) ((w.drew.alloc (.cells cs0 32)).setCells w.heap.size i cells2):=fun ty=>
     run_copy_cells _ 29 29 ty 32 w.heap.size i _ _ ⟨b2,0,none⟩ _ cap2 cells2 u67 hsz38 (by rw[hl2'];simp only[Nat.min_def];split<;>omega)
      (fun k v hk=>by rw[Addr.add_mid];exact hr2 k v hk) (fun k hk=>(thA k hk).1) (fun k hk=>(thA k hk).2) hone2
    obtain ⟨ty,lo,hi',he,hfz⟩:=hob0
    obtain ⟨cs3,hcs3,hcs3l⟩:=qc8 cells2 i (w.drew.alloc (.cells cs0 32)) cs0 he hfitA
    have h7:cs0.toList.length=cs0.size:=Array.length_toList
    have hsz3:cs3.size=cs0.size:=by rw[←Array.length_toList,hcs3l,qch (by simpa using hfitA),Array.length_toList]
    have hob3:qbi ((w.drew.alloc (.cells cs0 32)).setCells w.heap.size i cells2).drew.heap w.heap.size cs3:=⟨ty,lo,hi',hcs3,fun t ht=>hfz t (by omega)⟩
    have hfitB:i+ys.length+(cells1.drop i).length≤cs3.size:=by rw[hdl];omega
    have thB:=qd6 (w:=((w.drew.alloc (.cells cs0 32)).setCells w.heap.size i cells2).drew) (o:=i+ys.length) (n:=(cells1.drop i).length) hob3 hfitB
    have hr1:((w.drew.alloc (.cells cs0 32)).setCells w.heap.size i cells2).drew.rangeAt b1 i (cells1.drop i):=by
     rw[hcd]
     exact qc5 (qbv (Blk.congr hbo1.blk ((qbk cells2 _ _ b1 hb1B).trans (hold b1 hb1lt))) (by omega))
    have hC:∀ ty,(Builtin.copy_ #[29,29] ty #[.slice (some ⟨w.heap.size,i+ys.length,none⟩) (xs.length+ys.length - (i+ys.length)) (cap' - (i+ys.length)),.slice (some ⟨b1,i,none⟩) (xs.length - i) (cap1 - i)]).run Tryz.prog ((w.drew.alloc (.cells cs0 32)).setCells w.heap.size i cells2).drew=.ok (goInt (cells1.drop i).length) (((w.drew.alloc (.cells cs0 32)).setCells w.heap.size i cells2).drew.setCells w.heap.size (i+ys.length) (cells1.drop i)):=fun ty=>
     run_copy_cells _ 29 29 ty 32 w.heap.size (i+ys.length) _ _ ⟨b1,i,none⟩ _ _ (cells1.drop i) u67 hsz38 (by rw[hdl];simp only[Nat.min_def];split<;>omega)
      (fun k v hk=>by rw[Addr.add_mid];exact hr1 k v hk) (fun k hk=>(thB k hk).1) (fun k hk=>(thB k hk).2) honed
    obtain ⟨cs4,hcs4,hcs4l⟩:=qc8 (cells1.drop i) (i+ys.length) ((w.drew.alloc (.cells cs0 32)).setCells w.heap.size i cells2).drew cs3 hcs3 hfitB
    have hsz4:cs4.size=cs3.size:=by rw[←Array.length_toList,hcs4l,qch (by simpa using hfitB),Array.length_toList]
    have hob4:qbi (((w.drew.alloc (.cells cs0 32)).setCells w.heap.size i cells2).drew.setCells w.heap.size (i+ys.length) (cells1.drop i)).heap w.heap.size cs4:=⟨ty,lo,hi',hcs4,fun t ht=>hfz t (by omega)⟩
    have htake:cs4.toList.take ((xs.take i++ys++xs.drop i).length * TRow.width)=cells1.take i++cells2++cells1.drop i:=by
     have e:=qbwd (l:=cs0.toList) (D:=cells1.drop i) (C:=cells2) (i:=i) (m:=ys.length) hl2' (by rw[h7];omega)
     rw[hw1,Nat.mul_one,hlz,hcs4l,hcs3l,←htk]
     rw[show xs.length+ys.length=i+ys.length+(cells1.drop i).length by rw[hdl];omega]
     exact e
    have hrest1:=qcg (b:=w.heap.size) cells2 i (w.drew.alloc (.cells cs0 32))
    have hrest2:=qcg (b:=w.heap.size) (cells1.drop i) (i+ys.length) ((w.drew.alloc (.cells cs0 32)).setCells w.heap.size i cells2).drew
    have hsize:(((w.drew.alloc (.cells cs0 32)).setCells w.heap.size i cells2).drew.setCells w.heap.size (i+ys.length) (cells1.drop i)).heap.size=w.heap.size+1:=by
     rw[qbc]
     show ((w.drew.alloc (.cells cs0 32)).setCells w.heap.size i cells2).heap.size=_
     rw[qbc];show (w.heap.push _).size=_;simp
    refine (qbva b1 xs.length cap1 i ys.length ⟨b2,0,none⟩ cap2 w.heap.size cap' w _ _ _ _ _ hlt hm hlc1 hg hge (by omega) hr hB hC).mono ?_
    rintro e w' ⟨rfl,rfl⟩
    obtain ⟨val,Pr',Gs,Os,us,hv,hp⟩:=qwt pre elz hFs hob4 (cap:=cap') (by rw[hw1,Nat.mul_one];omega) (by rw[hlz];exact hge) htake (.inl rfl)
     (fun t hb=>by obtain ⟨k,hk⟩:=hFs t _ hb;exact Nat.lt_irrefl _ (pre.lim k _ hk))
     (fun b' hb1 hb'=>(qbk (cells1.drop i) _ _ b' hb').trans ((qbk cells2 _ _ b' hb').trans (hold b' hb1))) (by rw[hsize];omega) (by rw[hsize];omega) (hrest2.1.trans hrest1.1) (hrest2.2.1.trans hrest1.2.1) (hrest2.2.2.trans hrest1.2.2) () (houts _ _ _ _)
    exact ⟨val,Pr',Gs,Os,us,by rw[←hv,hlz],hp⟩
 ·simp at h
end Go.V

namespace Go.V
set_option maxRecDepth 100000
set_option maxHeartbeats 4000000
open Go Go.Proofs Go.RowKit Go.Lib
theorem nt2:Tryz.f93.ntmps=95:=by kernel_rfl
theorem qbql (a1:Option Addr) (n c m:Nat) (a2:Option Addr) (c2:Nat) (w w3:World) (v3:qe) (hm:0<m) (hc:n≤c) (h1:(∃ b,a1=some ⟨b,0,none⟩)∨(n=0∧c=0))
  (hr:∀ ty,(Builtin.append_ #[35,35] ty #[.slice a1 n c,.slice a2 m c2]).run Tryz.prog w=.ok v3 w3) :
  Calls Tryz.prog 93 #[.slice a1 n c,.int .i64 n,.slice a2 m c2] w fun e w'=>e=.returned v3∧w'=w3:=by
 have mx:=q39
 have uT:Tryz.prog.underlying 35=some (.slice 42):=by kernel_rfl
 have u3:Tryz.prog.underlying 3=some (.int .i64):=by kernel_rfl
 have vT:=run_underlying uT
 have v3:=run_underlying u3
 have sE:(Tryz.prog.info? 42).map (·.size)=some 2:=by kernel_rfl
 obtain ⟨i0,hi0⟩:∃ i0,Tryz.prog.info? 42=some i0:=by cases h:Tryz.prog.info? 42 with | none=>rw[h] at sE;cases sE | some x=>exact ⟨x,rfl⟩
 have hs0:i0.size=2:=by rw[hi0] at sE;simpa using sE
 have hz1:¬ ((m:Int)=0):=by omega
 rcases h1 with ⟨b,rfl⟩ | ⟨rfl,rfl⟩
 ·go_enter Tryz.func93,nt2
  go_wp2_with (at_builtin;refine Lib.wpList_append_run _ rfl _ _ _ _ rfl _ _ rfl rfl _ _ (hr _) ?_)
  all_goals (try (go_ret;exact ⟨rfl,rfl⟩))
 ·cases a1 with
  | none=>
   go_enter Tryz.func93,nt2
   go_wp2_with (at_builtin;refine Lib.wpList_append_run _ rfl _ _ _ _ rfl _ _ rfl rfl _ _ (hr _) ?_)
   all_goals (try (go_ret;exact ⟨rfl,rfl⟩))
  | some a0=>
   go_enter Tryz.func93,nt2
   go_wp2_with (at_builtin;refine Lib.wpList_append_run _ rfl _ _ _ _ rfl _ _ rfl rfl _ _ (hr _) ?_)
   all_goals (try (go_ret;exact ⟨rfl,rfl⟩))
theorem qbt5 (b n c i m:Nat) (a2:Addr) (c2 B G:Nat) (w w1 w2 w3:World) (r2 r3:qe) (hi:i<n) (hm:0<m) (hnc:n≤c) (hroom:c<n+m) (hG:n+m≤G) (hs63:n+m≤9223372036854775807)
  (hA:∀ ty,(Builtin.append_ #[35,3] ty #[.slice (some ⟨b,0,none⟩) i c,.int .i64 ((n:Int)+(m:Int) - (i:Int))]).run Tryz.prog w=.ok (.slice (some ⟨B,0,none⟩) (n+m) G) w1)
  (hB:∀ ty,(Builtin.copy_ #[35,35] ty #[.slice (some ⟨B,i * 2,none⟩) (n+m - i) (G - i),.slice (some a2) m c2]).run Tryz.prog w1=.ok r2 w2)
  (hC:∀ ty,(Builtin.copy_ #[35,35] ty #[.slice (some ⟨B,(i+m) * 2,none⟩) (n+m - (i+m)) (G - (i+m)),.slice (some ⟨b,i * 2,none⟩) (n - i) (c - i)]).run Tryz.prog w2.drew=.ok r3 w3) :
  Calls Tryz.prog 93 #[.slice (some ⟨b,0,none⟩) n c,.int .i64 i,.slice (some a2) m c2] w fun e w'=>e=.returned (.slice (some ⟨B,0,none⟩) (n+m) G)∧w'=w3:=by
 have mx:=q39
 have uT:Tryz.prog.underlying 35=some (.slice 42):=by kernel_rfl
 have u3:Tryz.prog.underlying 3=some (.int .i64):=by kernel_rfl
 have vT:=run_underlying uT
 have v3:=run_underlying u3
 have sE:(Tryz.prog.info? 42).map (·.size)=some 2:=by kernel_rfl
 obtain ⟨i0,hi0⟩:∃ i0,Tryz.prog.info? 42=some i0:=by cases h:Tryz.prog.info? 42 with | none=>rw[h] at sE;cases sE | some x=>exact ⟨x,rfl⟩
 have hs0:i0.size=2:=by rw[hi0] at sE;simpa using sE
 have hz1:¬ ((m:Int)=0):=by omega
 have hz2:¬ ((i:Int)=(n:Int)):=by omega
 have hz3:(c:Int)<(n:Int)+(m:Int):=by omega
 have hw1:IntKind.i64.wrap ((i:Int)+(m:Int))=(i:Int)+(m:Int):=by rw[IntKind.wrap_i64];omega
 have hb1:(0:Int)≤(i:Int)+(m:Int):=by omega
 have hin:i≤n:=by omega
 have htn:((i:Int)+(m:Int)).toNat=i+m:=by omega
 have hb3:(i:Int)≤(n:Int):=by omega
 have hGi:¬ (G=i):=by omega
 have hGim:¬ (G=i+m):=by omega
 have hci:¬ (c=i):=by omega
 go_enter Tryz.func93,nt2
 go_wp2_with (first
  | (at_builtin;refine Lib.wpList_append_run _ rfl _ _ _ _ rfl _ _ rfl rfl _ _ (hA _) ?_)
  | (at_builtin;refine wpList_copy_runI _ rfl _ _ 35 35 rfl _ _ rfl rfl (hB _) ?_))
 go_region_law_o (refine step_copy_runI rfl _ _ 35 35 rfl (.slice (some ⟨B,(i+m) * 2,none⟩) (n+m - (i+m)) (G - (i+m))) (.slice (some ⟨b,i * 2,none⟩) (n - i) (c - i)) (by simp[Act.eval,Act.put]) (by simp[Act.eval,Act.put]) (hC _) ?_)
 go_wp2
 go_ret
 exact ⟨rfl,rfl⟩
theorem qbsq (b n c i m:Nat) (a2:Addr) (c2:Nat) (w w1 w2:World) (r1 r2:qe) (hi:i<n) (hm:0<m) (hroom:n+m≤c) (hs63:n+m≤9223372036854775807)
  (hov:∀ lb cb,(callFunc 156 #[.slice (some a2) m c2,.slice (some ⟨b,(i+m) * 2,none⟩) lb cb]).run Tryz.prog w=.ok (.value (.bool false)) w)
  (hB:∀ ty dc sc,(Builtin.copy_ #[35,35] ty #[.slice (some ⟨b,(i+m) * 2,none⟩) (n+m - (i+m)) dc,.slice (some ⟨b,i * 2,none⟩) (n+m - i) sc]).run Tryz.prog w.drew=.ok r1 w1)
  (hC:∀ ty dc,(Builtin.copy_ #[35,35] ty #[.slice (some ⟨b,i * 2,none⟩) (n+m - i) dc,.slice (some a2) m c2]).run Tryz.prog w1=.ok r2 w2) :
  Calls Tryz.prog 93 #[.slice (some ⟨b,0,none⟩) n c,.int .i64 i,.slice (some a2) m c2] w fun e w'=>e=.returned (.slice (some ⟨b,0,none⟩) (n+m) c)∧w'=w2:=by
 have mx:=q39
 have uT:Tryz.prog.underlying 35=some (.slice 42):=by kernel_rfl
 have u3:Tryz.prog.underlying 3=some (.int .i64):=by kernel_rfl
 have vT:=run_underlying uT
 have v3:=run_underlying u3
 have sE:(Tryz.prog.info? 42).map (·.size)=some 2:=by kernel_rfl
 obtain ⟨i0,hi0⟩:∃ i0,Tryz.prog.info? 42=some i0:=by cases h:Tryz.prog.info? 42 with | none=>rw[h] at sE;cases sE | some x=>exact ⟨x,rfl⟩
 have hs0:i0.size=2:=by rw[hi0] at sE;simpa using sE
 have hz1:¬ ((m:Int)=0):=by omega
 have hz2:¬ ((i:Int)=(n:Int)):=by omega
 have hw1:IntKind.i64.wrap ((i:Int)+(m:Int))=(i:Int)+(m:Int):=by rw[IntKind.wrap_i64];omega
 have hb1:(0:Int)≤(i:Int)+(m:Int):=by omega
 have hin:i≤n:=by omega
 have htn:((i:Int)+(m:Int)).toNat=i+m:=by omega
 have hb2:¬ (c=i+m):=by omega
 have hb3:(i:Int)≤(n:Int)+(m:Int):=by omega
 have hb4:¬ (c=i):=by omega
 go_enter Tryz.func93,nt2
 go_wp2_with (simp only[hov])
 go_region_law_o (refine step_copy_runI rfl _ _ 35 35 rfl _ _ (by simp[Act.eval,Act.put]) (by simp[Act.eval,Act.put]) (hB _ _ _) ?_)
 go_wp2_with (at_builtin;refine wpList_copy_runI _ rfl _ _ 35 35 rfl _ _ rfl rfl (hC _ _) ?_)
 go_ret
 exact ⟨rfl,rfl⟩
end Go.V


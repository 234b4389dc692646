import Derived.WalkKit
import Derived.Lib.Walk
import Derived.Lib.SliceRun
import Derived.Lib.JoinLaws
import Derived.Lib.AppendZeros
import Derived.Lib.Overlaps
import Derived.Laws.Externs
import Derived.Laws.IdiomCopy
import Derived.Lib.AppendZerosOnto
import Derived.Shelf.Spec.SlicesInsert
import Derived.Test.YtfafjngknkbngaaGreatAPFnExactInsert1
set_option linter.unusedVariables false
set_option linter.unusedSimpArgs false
set_option linter.unusedSectionVars false
namespace Go.G
open Go Go.V
theorem br_t {R:Type} {a b:Option R}:br true a b=a:=rfl
theorem br_f {R:Type} {a b:Option R}:br false a b=b:=rfl
theorem qn {R:Type} {a b:Option R} {p:Prop} [Decidable p] (h:p):br (decide p) a b=a:=by simp[br,h]
theorem qo {R:Type} {a b:Option R} {p:Prop} [Decidable p] (h:¬ p):br (decide p) a b=b:=by simp[br,h]
theorem qf {α R:Type} {a:α} {f:α→Option R}:qi (some a) f=f a:=rfl
theorem qbra {R:Type} {c:Bool} {a b:Option R}:br c a b=if c=true then a else b:=by cases c<;>rfl
theorem qbv5 (x:Int):IntKind.wrap IntKind.i64 x=if x % 18446744073709551616≥9223372036854775808 then x % 18446744073709551616 - 18446744073709551616 else x % 18446744073709551616:=by
 by_cases h:x % 18446744073709551616≥9223372036854775808<;>simp[IntKind.wrap,IntKind.signed,IntKind.bits,h]
theorem qcc {x:Int} (h1 : -9223372036854775808≤x) (h2:x≤9223372036854775807):IntKind.wrap IntKind.i64 x=x:=by
 rw[qbv5]
 split<;>omega
def W:Nat:=9223372036854775808
theorem qbo:W=9223372036854775808:=rfl
theorem qj:maxLen=9223372036854775807:=rfl
theorem qdi:qbl=274877906944:=rfl
theorem ix {α:Type} {l:List α} {i:Nat} (h:i<l.length):(decide (0≤(i:Int))&&decide ((i:Int)<(l.length:Int)))=true:=by
 simp only[Bool.and_eq_true,decide_eq_true_eq];omega
theorem ixn {α:Type} {l:List α} {i:Int} (h0:0≤i) (h:i<l.length):(decide (0≤i)&&decide (i<(l.length:Int)))=true:=by
 simp only[Bool.and_eq_true,decide_eq_true_eq];omega
theorem qp {i:Nat} (h:i<9223372036854775807):IntKind.wrap IntKind.i64 ((i:Int)+1)=((i+1:Nat):Int):=by
 rw[qcc]<;>omega
theorem q7 {α:Type} {l:List α} {i:Nat} {d:α} (h:i<l.length):l.getD i d=l[i]:=by
 simp[List.getD,h]
theorem q0 {α:Type} {l:List α} {i:Nat} (h:i<l.length):l.drop i=l[i]::l.drop (i+1):=List.drop_eq_getElem_cons h
theorem qbb {α:Type} {l:List α} {i:Nat} (h:¬ i<l.length):l.drop i=[]:=List.drop_eq_nil_of_le (by omega)
def tot:(t:Ty)→t.den→Nat
 | .unit,_=>0
 | .int _,_=>0
 | .bool,_=>0
 | .str,s=>s.size
 | .sl t,xs=>xs.length+(xs.map (tot t)).sum
 | .pair a b,x=>tot a x.1+tot b x.2
def left (t:Ty) (a:t.den) (k:Int):Int:=if (tot t a:Int)≤k then k - tot t a else -1
theorem qi8 {α:Type} {f:α→Nat} {l:List α} {i:Nat} (h:i<l.length):((l.drop i).map f).sum=f l[i]+((l.drop (i+1)).map f).sum:=by
 rw[q0 h,List.map_cons,List.sum_cons]
theorem q5d {t:Ty}:∀ {xs:List t.den} {x:t.den},x∈xs→tot t x+xs.length≤tot (.sl t) xs
 | y::xs,x,h=>by
  simp only[tot,List.length_cons,List.map_cons,List.sum_cons]
  rcases List.mem_cons.1 h with rfl | h
  ·have:xs.length≤xs.length+(xs.map (tot t)).sum:=by omega
   omega
  ·have:=q5d h
   simp only[tot] at this
   omega
theorem qf9 {a b:ByteArray}:List.beq a.toList b.toList=decide (a=b):=by
 have h1:List.beq a.toList b.toList=decide (a.toList=b.toList):=by
  have:(a.toList == b.toList)=decide (a.toList=b.toList):=by
   by_cases h:a.toList=b.toList<;>simp[h]
  exact this
 rw[h1]
 by_cases h:a=b
 ·simp[h]
 ·have:a.toList≠b.toList:=fun e=>h (by
   have h2:a.data.toList=b.data.toList:=by
    have:=e
    simpa [ByteArray.toList_eq] using this
   cases a;cases b
   simp only[ByteArray.mk.injEq]
   exact Array.toList_inj.1 h2)
  simp[h,this]
end Go.G

namespace Go.G
open Go Go.V
abbrev qdb:Ty:=.sl (.int .i64)
theorem q59 (a:List Int):tot qdb a=a.length:=by
 have:∀ l:List Int,(l.map fun _=>0).sum=0:=by
  intro l;induction l with
  | nil=>rfl
  | cons x l ih=>simp[ih]
 have e:(a.map (tot (.int .i64)))=a.map fun _=>0:=by
  apply List.map_congr_left;intro x _;simp only[tot]
 show a.length+(a.map (tot (.int .i64))).sum=a.length
 rw[e,this];omega
theorem qnp {α:Type} {l:List α} {i:Nat} {x:α} (h:i<l.length):(l.set i x).take (i+1)=l.take i++[x]:=by
 rw[List.take_add_one,List.take_set_of_le (Nat.le_refl _)]
 simp[List.getElem?_set,h]
theorem qbqe (D:Den ctx) (n:Nat) (K0:Bool→Option ((Bool×Unit)×Unit)) (K1:Option ((Bool×Unit)×Unit)):∀ (m i:Nat) (a b:List Int),a.length=b.length→a.length≤maxLen→i≤a.length→a.length - i<m→
  qko D n K0 K1 m a b i=if a.drop i=b.drop i then K1 else K0 false
 | 0,_,_,_,_,_,_,h=>by omega
 | m+1,i,a,b,hl,hm,hi,hk=>by
  simp only[qko,q1h]
  rw[qj] at hm
  by_cases h:i<a.length
  ·rw[qn (by exact_mod_cast h),ix h,br_t,ix (hl ▸ h),br_t,qp (by omega),Int.toNat_natCast,q7 h,q7 (hl ▸ h),q0 h,q0 (hl ▸ h:i<b.length)]
   by_cases e:a[i]=b[i]'(hl ▸ h)
   ·rw[e]
    simp only[bne_self_eq_false,br_f,List.cons.injEq,true_and]
    exact qbqe D n K0 K1 m (i+1) a b hl (by rw[qj];omega) (by omega) (by omega)
   ·have:(a[i] != b[i]'(hl ▸ h))=true:=by simp[e]
    rw[this,br_t];simp only[List.cons.injEq,e,false_and,if_false]
  ·rw[qo (by exact_mod_cast h),qbb h,qbb (hl ▸ h)];rfl
theorem qbrx {X:Ext} (hX:XOk X) {n:Nat} (hn:W+1≤n) (a b:List Int) (hb:b.length≤maxLen):qvo (DD X n) a b=some ((decide (a=b),()),()):=by
 obtain ⟨n,rfl⟩:∃ k,n=k+1:=⟨n - 1,by omega⟩
 rw[qbpj hX]
 simp only[q3l,q3a,qyc]
 by_cases h:a.length=b.length
 ·have e:((a.length:Int) != (b.length:Int))=false:=by simp[h]
  rw[e,br_f]
  have:=qbqe (DD X n) n (fun v=>qo5 (DD X n) n v) (qpk (DD X n) n) n 0 a b h (by omega) (by omega) (by have:=qbo;have:=qj;omega)
  rw[show ((0:Nat):Int)=0 from rfl] at this
  rw[this]
  simp only[List.drop_zero,qo5,qpk]
  by_cases h:a=b<;>simp[h]
 ·have e:((a.length:Int) != (b.length:Int))=true:=by simp;omega
  have:a≠b:=fun h2=>h (by rw[h2])
  rw[e,br_t];simp[this]
theorem qbqm (D:Den ctx) (n:Nat) (K:List Int→Option ((List Int×Unit)×Unit)):∀ (m i:Nat) (a c:List Int),a.length=c.length→a.length≤maxLen→i≤a.length→a.length - i<m→
  qkq D n K m a i c=K (c.take i++a.drop i)
 | 0,_,_,_,_,_,_,h=>by omega
 | m+1,i,a,c,hl,hm,hi,hk=>by
  simp only[qkq,q02]
  rw[qj] at hm
  by_cases h:i<a.length
  ·rw[qn (by exact_mod_cast h),ix h,br_t,ix (hl ▸ h),br_t,qp (by omega),Int.toNat_natCast,q7 h,qbqm D n K m (i+1) a _ (by simp[hl]) (by rw[qj];omega) (by omega) (by omega)]
   congr 1
   rw[q0 h,qnp (hl ▸ h),List.append_assoc];rfl
  ·rw[qo (by exact_mod_cast h),qbb h,List.take_of_length_le (by omega),List.append_nil]
theorem q8r {a:Nat} (h:a≤qbl):(decide (0≤(a:Int))&&decide ((a:Int)≤(a:Int))&&decide ((a:Int)≤((qbl:Nat):Int)))=true:=by
 simp only[Bool.and_eq_true,decide_eq_true_eq];omega
theorem qbrn {X:Ext} (hX:XOk X) {n:Nat} (hn:W+1≤n) (a:List Int) (ha:a.length≤qbl):qvp (DD X n) a=some ((a,()),()):=by
 obtain ⟨n,rfl⟩:∃ k,n=k+1:=⟨n - 1,by omega⟩
 rw[qbpf hX]
 simp only[q3t,q3s,qzp]
 rw[q8r ha,br_t]
 have h1:=qdi
 have:=qbqm (DD X n) n (fun v=>qo1 (DD X n) n v) n 0 a (List.replicate (Int.toNat (a.length:Int)) 0) (by simp) (by rw[qj];omega) (by omega) (by have:=qbo;omega)
 rw[show ((0:Nat):Int)=0 from rfl] at this
 rw[this]
 simp only[List.take_zero,List.drop_zero,List.nil_append,qo1]
theorem qbrj {X:Ext} (hX:XOk X) {n:Nat} (hn:W+1≤n) (a:List Int) (k:Int) (ha:a.length≤maxLen) (hk:0≤k∧k≤maxLen):qvm (DD X n) a k=some ((left qdb a k,()),()):=by
 obtain ⟨n,rfl⟩:∃ k,n=k+1:=⟨n - 1,by omega⟩
 rw[qj] at ha hk
 rw[qbo3 hX]
 simp only[q3h,qbav,left,q59]
 rw[qcc (by omega) (by omega)]
 by_cases h:k - (a.length:Int)<0
 ·rw[qn h,if_neg (by omega)]
 ·rw[qo h,if_pos (by omega)]
def qfv:Int→List Int→List Int
 | _,[]=>[]
 | k,_::l=>k::qfv (k+1) l
theorem qbcl:∀ (l:List Int) (k:Int),(qfv k l).length=l.length
 | [],_=>rfl
 | _::l,k=>by simp[qfv,qbcl l]
theorem qbjz (D:Den ctx) (n:Nat) (K:Int→List Int→Option ((Int×Unit)×List Int×Unit)):∀ (m i:Nat) (k:Int) (a:List Int),a.length≤maxLen→i≤a.length→a.length - i<m→0≤k→k+(a.length - i)≤maxLen→
  qh0 D n K m k i a=K (k+(a.length - i)) (a.take i++qfv k (a.drop i))
 | 0,_,_,_,_,_,h,_,_=>by omega
 | m+1,i,k,a,hm,hi,hf,hk,hkl=>by
  simp only[qh0,qwo]
  have hd:=qj
  by_cases h:i<a.length
  ·rw[qn (by exact_mod_cast h),ix h,br_t,qp (by omega),qcc (by omega) (by omega),Int.toNat_natCast]
   rw[qbjz D n K m (i+1) (k+1) _ (by simpa using hm) (by simp;omega) (by simp;omega) (by omega) (by simp only[List.length_set];omega),qnp h,q0 h,List.drop_set_of_lt (by omega)]
   simp only[List.length_set,List.append_assoc,qfv,List.singleton_append]
   congr 1
   omega
  ·rw[qo (by exact_mod_cast h),qbb h,List.take_of_length_le (by omega)]
   simp only[qfv,List.append_nil]
   congr 1
   omega
theorem qbuc {X:Ext} (hX:XOk X) {n:Nat} (hn:W+1≤n) (a:List Int) (k:Int) (hk:0≤k) (h:k+a.length≤maxLen):qmg (DD X n) a k=some ((k+a.length,()),(qfv k a,())):=by
 obtain ⟨n,rfl⟩:∃ k,n=k+1:=⟨n - 1,by omega⟩
 have hd:=qj
 rw[qbl3 hX]
 simp only[qyj,qxj,qt2]
 have:=qbjz (DD X n) n (fun v w=>qmj (DD X n) n v w) n 0 k a (by omega) (by omega) (by have:=qbo;omega) hk (by omega)
 rw[show ((0:Nat):Int)=0 from rfl] at this
 rw[this]
 simp only[List.take_zero,List.drop_zero,List.nil_append,qmj,Int.sub_zero]
theorem qbka (D:Den ctx) (n:Nat) (K0:Int→Int→Option ((Int×Unit)×Unit)) (K1:Int→Option ((Int×Unit)×Unit)):∀ (m i:Nat) (k k0:Int) (a l:List Int),a.length≤maxLen→i≤a.length→a.length - i<m→0≤k→k+(a.length - i)≤maxLen→
  a.drop i=qfv k l→qhy D n K0 K1 m a k i=K1 (k+(a.length - i))
 | 0,_,_,_,_,_,_,_,h,_,_,_=>by omega
 | m+1,i,k,k0,a,l,hm,hi,hf,hk,hkl,hl=>by
  simp only[qhy,qvw]
  have hd:=qj
  by_cases h:i<a.length
  ·rw[qn (by exact_mod_cast h),ix h,br_t,qp (by omega),qcc (by omega) (by omega),Int.toNat_natCast,q7 h]
   rw[q0 h] at hl
   cases l with
   | nil=>simp[qfv] at hl;omega
   | cons x l=>
    simp only[qfv,List.cons.injEq] at hl
    rw[hl.1,bne_self_eq_false,br_f]
    rw[qbka D n K0 K1 m (i+1) (k+1) k0 a l hm (by omega) (by omega) (by omega) (by omega) hl.2]
    congr 1
    omega
  ·rw[qo (by exact_mod_cast h)]
   congr 1
   omega
theorem qbud {X:Ext} (hX:XOk X) {n:Nat} (hn:W+1≤n) (a:List Int) (k:Int) (hk:0≤k) (h:k+a.length≤maxLen):qne (DD X n) (qfv k a) k=some ((k+a.length,()),()):=by
 obtain ⟨n,rfl⟩:∃ k,n=k+1:=⟨n - 1,by omega⟩
 have hd:=qj
 rw[qbi9 hX]
 simp only[qy3,qzm,quw]
 have hml:=qbcl a k
 have:=qbka (DD X n) n (fun v w=>qsr (DD X n) n v w) (fun v=>qnc (DD X n) n v) n 0 k k (qfv k a) a (by omega) (by omega) (by have:=qbo;omega) hk (by omega) (by simp)
 rw[show ((0:Nat):Int)=0 from rfl] at this
 rw[this]
 simp only[qnc,Int.sub_zero,hml]
def qbdb (x:Int):ByteArray:=ByteArray.mk (List.toArray (List.map (fun n↦UInt8.ofNat (Int.toNat n)) [IntKind.wrap IntKind.u8 (IntKind.wrap IntKind.i64 (48+Int.tmod x 10))]))
def qte:Nat→Int→ByteArray→ByteArray
 | 0,_,s=>s
 | f+1,x,s=>if x>0 then qte f (Int.tdiv x 10) (ByteArray.append (qbdb x) s) else s
def q4z (k:Int):ByteArray:=if k≤0 then ByteArray.mk #[UInt8.ofNat 109,UInt8.ofNat 48] else ByteArray.append (ByteArray.mk #[UInt8.ofNat 109]) (qte 19 k (ByteArray.mk #[]))
theorem qbhb (a b:ByteArray):(ByteArray.append a b).size=a.size+b.size:=ByteArray.size_append
theorem q75 (x:Int):(qbdb x).size=1:=rfl
theorem qbb1:∀ (f:Nat) (x:Int) (s:ByteArray),(qte f x s).size≤s.size+f
 | 0,_,s=>by simp[qte]
 | f+1,x,s=>by
  simp only[qte]
  split
  ·have:=qbb1 f (Int.tdiv x 10) (ByteArray.append (qbdb x) s)
   rw[qbhb,q75] at this
   omega
  ·omega
theorem qbl6 (D:Den ctx) (n:Nat) (K:ByteArray→Option ((ByteArray×Unit)×Unit)):∀ (f m:Nat) (x:Int) (s:ByteArray),f<m→0≤x→x<10 ^ f→x≤maxLen→s.size+f≤2 ^ 47→qfz D n K m x s=K (qte f x s)
 | f,0,_,_,h,_,_,_,_=>by omega
 | 0,m+1,x,s,_,h0,hx,_,_=>by
  simp only[qfz,qpw,qte]
  rw[qo (by simp at hx;omega)]
 | f+1,m+1,x,s,hf,h0,hx,hm,hs=>by
  simp only[qfz,qpw,qte]
  have hd:=qj
  by_cases h:x>0
  ·rw[qn h,if_pos h,qn (by show (qbdb x).size+s.size≤Nat.pow 2 47;rw[q75];show 1+s.size≤2 ^ 47;omega)]
   have e:Int.tdiv x 10=x / 10:=Int.tdiv_eq_ediv_of_nonneg h0
   rw[qcc (by rw[e];omega) (by rw[e];omega)]
   refine qbl6 D n K f m _ _ (by omega) (by rw[e];omega) ?_ (by rw[e];omega) ?_
   ·rw[e]
    have:(10:Int) ^ (f+1)=10 ^ f * 10:=Int.pow_succ ..
    omega
   ·show (ByteArray.append (qbdb x) s).size+f≤2 ^ 47
    rw[qbhb,q75];omega
  ·rw[qo h,if_neg h]
theorem qtk {X:Ext} (hX:XOk X) {n:Nat} (hn:W+1≤n) (k:Int) (hk:k≤maxLen):qe3 (DD X n) k=some ((q4z k,()),()):=by
 obtain ⟨n,rfl⟩:∃ k,n=k+1:=⟨n - 1,by omega⟩
 have hd:=qj
 rw[qbjj hX]
 simp only[qx2,qy0,qul,q4z]
 by_cases h:k≤0
 ·rw[qn h,if_pos h]
 ·rw[qo h,if_neg h,qbl6 (DD X n) n _ 19 n k _ (by have:=qbo;omega) (by omega) (by omega) hk (by show 0+19≤2 ^ 47;decide)]
  simp only[qs5]
  have h1:=qbb1 19 k (ByteArray.mk #[])
  have h2:(ByteArray.mk #[]).size=0:=rfl
  rw[qn]
  show 1+(qte 19 k (ByteArray.mk #[])).size≤2 ^ 47
  omega
end Go.G

namespace Go.G
open Go Go.V
def mkL {α:Type} (f:Int→α→Int×α):Int→List α→Int×List α
 | k,[]=>(k,[])
 | k,x::l=>((mkL f (f k x).1 l).1,(f k x).2::(mkL f (f k x).1 l).2)
def mkT:(t:Ty)→Int→t.den→Int×t.den
 | .unit,k,x=>(k,x)
 | .int _,k,_=>(k+1,k)
 | .bool,k,_=>(k+1,decide (Int.tmod k 3=0))
 | .str,k,_=>(k+1,q4z k)
 | .sl t,k,xs=>mkL (mkT t) k xs
 | .pair a b,k,x=>((mkT b (mkT a k x.1).1 x.2).1,((mkT a k x.1).2,(mkT b (mkT a k x.1).1 x.2).2))
def cnt:(t:Ty)→t.den→Nat
 | .unit,_=>0
 | .int _,_=>1
 | .bool,_=>1
 | .str,_=>1
 | .sl t,xs=>(xs.map (cnt t)).sum
 | .pair a b,x=>cnt a x.1+cnt b x.2
theorem qbs7 {t:Ty} (h:∀ k x,(mkT t k x).1=k+cnt t x):∀ (k:Int) (xs:List t.den),(mkL (mkT t) k xs).1=k+((xs.map (cnt t)).sum:Nat)
 | k,[]=>by simp[mkL]
 | k,x::l=>by
  simp only[mkL,qbs7 h,h,List.map_cons,List.sum_cons]
  omega
theorem qde:∀ (t:Ty) (k:Int) (x:t.den),(mkT t k x).1=k+cnt t x
 | .unit,k,x=>by simp[mkT,cnt]
 | .int _,k,_=>by simp[mkT,cnt]
 | .bool,k,_=>by simp[mkT,cnt]
 | .str,k,_=>by simp[mkT,cnt]
 | .sl t,k,xs=>by simp only[mkT,cnt];exact qbs7 (qde t) k xs
 | .pair a b,k,x=>by simp only[mkT,cnt,qde a,qde b];omega
theorem q5b {α:Type} {f:Int→α→Int×α}:∀ (k:Int) (xs:List α),(mkL f k xs).2.length=xs.length
 | _,[]=>rfl
 | k,x::l=>by simp[mkL,q5b]
theorem qoq {t:Ty} (a:List t.den):tot (.sl t) a=a.length+(a.map (tot t)).sum:=rfl
theorem qbve {t:Ty} (a:List t.den):cnt (.sl t) a=(a.map (cnt t)).sum:=rfl
theorem qdw {t:Ty} {a:t.den} {k:Int} (h:(tot t a:Int)≤k):left t a k=k - tot t a:=if_pos h
theorem qeb {t:Ty} {a:t.den} {k:Int} (h:¬ (tot t a:Int)≤k):left t a k = -1:=if_neg h
theorem qfl {t:Ty} {a:t.den} {k:Int} (h:¬ left t a k<0) (hk:0≤k):left t a k=k - tot t a∧(tot t a:Int)≤k:=by
 unfold left at h ⊢
 split at h
 ·rename_i h1;rw[if_pos h1];exact ⟨rfl,h1⟩
 ·omega
theorem q3m {α:Type} {l:List α} {i:Nat} {x d:α} (h:i<l.length):(l.set i x).getD i d=x:=by
 simp[List.getD,h]
theorem q2a:∀ (k:Int) (a:List Int),mkT qdb k a=(k+a.length,qfv k a)
 | k,[]=>by simp[mkT,mkL,qfv]
 | k,x::a=>by
  have:=q2a (k+1) a
  simp only[mkT] at this
  simp only[mkT,mkL,qfv,this,List.length_cons]
  congr 1
  omega
theorem qbqp (a:List Int):cnt qdb a=a.length:=by
 have h1:=qde qdb 0 a
 rw[q2a] at h1
 simp only at h1
 omega
theorem qbjp {X:Ext} (hX:XOk X) {n:Nat} (hn:W+1≤n) (a:List Int) (k:Int) (hk:0≤k) (h:k+cnt qdb a≤maxLen):qmg (DD X n) a k=some (((mkT qdb k a).1,()),((mkT qdb k a).2,())):=by
 rw[q2a];rw[qbqp] at h;exact qbuc hX hn a k hk h
theorem qbjl {X:Ext} (hX:XOk X) {n:Nat} (hn:W+1≤n) (a:List Int) (k:Int) (hk:0≤k) (h:k+cnt qdb a≤maxLen):qne (DD X n) (mkT qdb k a).2 k=some (((mkT qdb k a).1,()),()):=by
 rw[q2a];rw[qbqp] at h;exact qbud hX hn a k hk h
theorem qbqs {R:Type} {t t2:Ty} {m m':Mk} {l:List AV} {r:Nat} {p:Path} {s:Nat} {v:AV} {a b:Option R} (h:l=[.brw r p s,v]):br (qg8 [.mutv t m m',.val t2] l) a b=a:=by
 subst h
 simp[qg8,qcj,qjb,br]
end Go.G

namespace Go.G
open Go Go.V
def Fit (b:Nat):(t:Ty)→t.den→Prop
 | .sl t,xs=>xs.length≤b∧∀ x∈xs,Fit b t x
 | .pair s t,x=>Fit b s x.1∧Fit b t x.2
 | _,_=>True
theorem Fit.mono {b c:Nat} (h:b≤c):∀ {t:Ty} {x:t.den},Fit b t x→Fit c t x
 | .unit,_,_=>trivial
 | .int _,_,_=>trivial
 | .bool,_,_=>trivial
 | .str,_,_=>trivial
 | .sl t,xs,f=>⟨Nat.le_trans f.1 h,fun x hx=>(f.2 x hx).mono h⟩
 | .pair s t,x,f=>⟨f.1.mono h,f.2.mono h⟩
theorem qtq {b:Nat}:∀ {t:Ty} {x:t.den},tot t x≤b→Fit b t x
 | .unit,_,_=>trivial
 | .int _,_,_=>trivial
 | .bool,_,_=>trivial
 | .str,_,_=>trivial
 | .sl t,xs,f=>by
  have h:=qoq (t:=t) xs
  refine ⟨by omega,fun x hx=>qtq ?_⟩
  have:=q5d (t:=t) hx
  omega
 | .pair s t,x,f=>by
  have h:tot (.pair s t) x=tot s x.1+tot t x.2:=rfl
  exact ⟨qtq (by omega),qtq (by omega)⟩
def qiz:Ty→Nat
 | .unit=>0
 | .int _=>1
 | .bool=>1
 | .str=>1
 | .sl t=>qiz t
 | .pair a b=>qiz a+qiz b
theorem qbdt:∀ (t:Ty) (x:t.den),cnt t x≤qiz t * (1+tot t x)
 | .unit,_=>by simp[cnt]
 | .int _,_=>by simp[cnt,qiz,tot]
 | .bool,_=>by simp[cnt,qiz,tot]
 | .str,x=>by simp only[cnt,qiz];omega
 | .sl t,xs=>by
  rw[qbve,qoq]
  simp only[qiz]
  have key:∀ xs:List t.den,(xs.map (cnt t)).sum≤qiz t * (xs.length+(xs.map (tot t)).sum):=by
   intro xs
   induction xs with
   | nil=>simp
   | cons x l ih=>
    have h:=qbdt t x
    simp only[List.map_cons,List.sum_cons,List.length_cons]
    have e:qiz t * (l.length+1+(tot t x+(l.map (tot t)).sum))=qiz t * (1+tot t x)+qiz t * (l.length+(l.map (tot t)).sum):=by
     rw[←Nat.mul_add];congr 1;omega
    omega
  have:=key xs
  have e:qiz t * (1+(xs.length+(xs.map (tot t)).sum))=qiz t+qiz t * (xs.length+(xs.map (tot t)).sum):=by
   rw[Nat.mul_add];omega
  omega
 | .pair a b,x=>by
  have h1:=qbdt a x.1
  have h2:=qbdt b x.2
  have e1:cnt (.pair a b) x=cnt a x.1+cnt b x.2:=rfl
  have e2:tot (.pair a b) x=tot a x.1+tot b x.2:=rfl
  rw[e1,e2]
  simp only[qiz]
  have h3:qiz a * (1+tot a x.1)≤qiz a * (1+(tot a x.1+tot b x.2)):=Nat.mul_le_mul_left _ (by omega)
  have h4:qiz b * (1+tot b x.2)≤qiz b * (1+(tot a x.1+tot b x.2)):=Nat.mul_le_mul_left _ (by omega)
  rw[Nat.add_mul]
  omega
end Go.G

namespace Go.G
open Go Go.V
abbrev qt:Ty:=.pair (.int .i64) (.pair (.int .i64) (.pair (.str) (.unit)))
abbrev Value:=Int×Int×ByteArray×Unit
theorem qbwb {X:Ext} (hX:XOk X) {n:Nat} (hn:W+2≤n) (a b:Value) (hb:Fit maxLen qt b):qtb (DD X n) a b=some ((decide (a=b),()),()):=by
 obtain ⟨n,rfl⟩:∃ k,n=k+1:=⟨n - 1,by omega⟩
 rw[qbnr hX]
 obtain ⟨a0,a1,a2,⟨⟩⟩:=a
 obtain ⟨b0,b1,b2,⟨⟩⟩:=b
 simp only[Fit] at hb
 have ne:∀ x y:Int,(x != y)=!decide (x=y):=fun x y=>by by_cases h:x=y<;>simp[h]
 simp only[q1k,q8k,qf9,ne]
 by_cases h0:a0=b0<;>by_cases h1:a1=b1<;>by_cases h2:a2=b2<;>simp[h0,h1,h2,br]
theorem qbj4 (D:Den ctx) (n:Nat) (K0:Bool→Option ((Bool×Unit)×Unit)) (K1:Option ((Bool×Unit)×Unit)):∀ (m i:Nat) (a b:List Value),(∀ x y,y∈b→qtb D x y=some ((decide (x=y),()),()))→
  a.length=b.length→a.length≤maxLen→i≤a.length→a.length - i<m→qir D n K0 K1 m a b i=if a.drop i=b.drop i then K1 else K0 false
 | 0,_,_,_,_,_,_,_,h=>by omega
 | m+1,i,a,b,he,hl,hm,hi,hk=>by
  simp only[qir,qwk]
  have hd:=qj
  by_cases h:i<a.length
  ·rw[qn (by exact_mod_cast h),ix h,br_t,ix (hl ▸ h),br_t,qp (by omega),Int.toNat_natCast,q7 h,q7 (hl ▸ h),he _ _ (List.getElem_mem _),qf,q0 h,q0 (hl ▸ h:i<b.length)]
   by_cases e:a[i]=b[i]'(hl ▸ h)
   ·simp only[e,decide_true,Bool.not_true,br_f,List.cons.injEq,true_and]
    exact qbj4 D n K0 K1 m (i+1) a b he hl hm (by omega) (by omega)
   ·simp only[e,decide_false,Bool.not_false,br_t,List.cons.injEq,false_and,if_false]
  ·rw[qo (by exact_mod_cast h),qbb h,qbb (hl ▸ h)];rfl
theorem qbkw {X:Ext} (hX:XOk X) {n:Nat} (hn:W+3≤n) (a b:List Value) (hb:Fit maxLen (.sl qt) b):qmm (DD X n) a b=some ((decide (a=b),()),()):=by
 obtain ⟨n,rfl⟩:∃ k,n=k+1:=⟨n - 1,by omega⟩
 have hb1:b.length≤maxLen:=hb.1
 rw[qbma hX]
 simp only[qyu,qxx,qt3]
 by_cases h:a.length=b.length
 ·have e:((a.length:Int) != (b.length:Int))=false:=by simp[h]
  rw[e,br_f]
  have:=qbj4 (DD X n) n (fun v=>qnh (DD X n) n v) (qng (DD X n) n) n 0 a b (fun x y hy=>qbwb hX (by omega) x y (hb.2 y hy)) h (by omega) (by omega) (by have:=qbo;have:=qj;omega)
  rw[show ((0:Nat):Int)=0 from rfl] at this
  rw[this]
  simp only[List.drop_zero,qnh,qng]
  by_cases h:a=b<;>simp[h]
 ·have e:((a.length:Int) != (b.length:Int))=true:=by simp;omega
  have:a≠b:=fun h2=>h (by rw[h2])
  rw[e,br_t];simp[this]
theorem qbwf {X:Ext} (hX:XOk X) {n:Nat} (hn:W+2≤n) (a:Value) (ha:Fit qbl qt a):qth (DD X n) a=some ((a,()),()):=by
 obtain ⟨n,rfl⟩:∃ k,n=k+1:=⟨n - 1,by omega⟩
 rw[qbm7 hX]
 rfl
theorem qbln (D:Den ctx) (n:Nat) (K:List Value→Option ((List Value×Unit)×Unit)):∀ (m i:Nat) (a c:List Value),(∀ x∈a,qth D x=some ((x,()),()))→a.length=c.length→a.length≤maxLen→i≤a.length→a.length - i<m→
  qie D n K m a i c=K (c.take i++a.drop i)
 | 0,_,_,_,_,_,_,_,h=>by omega
 | m+1,i,a,c,he,hl,hm,hi,hk=>by
  simp only[qie,qwl]
  have hd:=qj
  by_cases h:i<a.length
  ·rw[qn (by exact_mod_cast h),ix h,br_t,Int.toNat_natCast,q7 h,he _ (List.getElem_mem _),qf,ix (hl ▸ h),br_t,qp (by omega)]
   have e:=qbln D n K m (i+1) a (c.set i a[i]) he (by simp[hl]) hm (by omega) (by omega)
   rw[q0 h]
   refine Eq.trans e ?_
   rw[qnp (hl ▸ h),List.append_assoc];rfl
  ·rw[qo (by exact_mod_cast h),qbb h,List.take_of_length_le (by omega),List.append_nil]
theorem qbkf {X:Ext} (hX:XOk X) {n:Nat} (hn:W+3≤n) (a:List Value) (ha:Fit qbl (.sl qt) a):qe6 (DD X n) a=some ((a,()),()):=by
 obtain ⟨n,rfl⟩:∃ k,n=k+1:=⟨n - 1,by omega⟩
 have ha1:a.length≤qbl:=ha.1
 rw[qbld hX]
 simp only[qze,qy8,qu7]
 rw[q8r ha1,br_t]
 have h1:=qdi
 have:=qbln (DD X n) n (fun v=>qmt (DD X n) n v) n 0 a (List.replicate (Int.toNat (a.length:Int)) (0,(0,(ByteArray.empty,())))) (fun x hx=>qbwf hX (by omega) x (ha.2 x hx)) (by simp) (by rw[qj];omega) (by omega) (by have:=qbo;omega)
 rw[show ((0:Nat):Int)=0 from rfl] at this
 rw[this]
 simp only[List.take_zero,List.drop_zero,List.nil_append,qmt]
theorem qbvb {X:Ext} (hX:XOk X) {n:Nat} (hn:W+2≤n) (a:Value) (k:Int) (ha:Wf qt a) (hk:0≤k∧k≤maxLen):qtn (DD X n) a k=some ((left qt a k,()),()):=by
 obtain ⟨n,rfl⟩:∃ k,n=k+1:=⟨n - 1,by omega⟩
 have hd:=qj
 simp only[Wf] at ha
 have w1:a.2.2.1.size≤maxLen:=ha.2.2.1
 have ht:tot qt a=0+(0+(a.2.2.1.size+(0))):=rfl
 rw[qbni hX]
 simp only[q0v,q8f]
 rw[qcc (by omega) (by omega)]
 by_cases h:k - (a.2.2.1.size:Int)<0
 ·rw[qn h,qeb (by omega)]
 ·rw[qo h,qdw (by omega)]
  try (congr 3<;>omega)
theorem qbly (D:Den ctx) (n:Nat) (K0:Int→Int→Option ((Int×Unit)×Unit)) (K1:Int→Option ((Int×Unit)×Unit)) (hK:∀ k,K1 k=some ((k,()),())) (hK0:∀ k,K0 k (-1)=some ((-1,()),())):∀ (m i:Nat) (k:Int) (a:List Value),
  (∀ x∈a,∀ k:Int,0≤k→k≤maxLen→qtn D x k=some ((left qt x k,()),()))→a.length≤maxLen→i≤a.length→a.length - i<m→0≤k→k≤maxLen→
  qig D n K0 K1 m a k i=some ((if (((a.drop i).map (tot qt)).sum:Int)≤k then k - ((a.drop i).map (tot qt)).sum else -1,()),())
 | 0,_,_,_,_,_,_,h,_,_=>by omega
 | m+1,i,k,a,he,hm,hi,hf,h0,h1=>by
  simp only[qig,qvz]
  have hd:=qj
  by_cases h:i<a.length
  ·rw[qn (by exact_mod_cast h),ix h,br_t,Int.toNat_natCast,q7 h,he _ (List.getElem_mem _) k h0 h1,qf,qp (by omega),qi8 h]
   by_cases h2:left qt a[i] k<0
   ·rw[qn h2,hK0,if_neg]
    intro h3
    rw[qdw (by omega)] at h2
    omega
   ·obtain ⟨e1,e2⟩:=qfl h2 h0
    rw[qo h2,e1];dsimp only
    rw[qbly D n K0 K1 hK hK0 m (i+1) _ a he hm (by omega) (by omega) (by omega) (by omega)]
    congr 3
    push_cast
    split<;>split<;>omega
  ·rw[qo (by exact_mod_cast h),qbb h,hK]
   simp[h0]
theorem qbk8 {X:Ext} (hX:XOk X) {n:Nat} (hn:W+3≤n) (a:List Value) (k:Int) (ha:Wf (.sl qt) a) (hk:0≤k∧k≤maxLen):qmn (DD X n) a k=some ((left (.sl qt) a k,()),()):=by
 obtain ⟨n,rfl⟩:∃ k,n=k+1:=⟨n - 1,by omega⟩
 have hd:=qj
 have w1:a.length≤maxLen:=ha.1
 have hts:=qoq (t:=qt) a
 rw[qblg hX]
 simp only[qxn,qyb,qvb]
 rw[qcc (by omega) (by omega)]
 by_cases h:k - (a.length:Int)<0
 ·rw[qn h,qeb (by omega)]
 ·rw[qo h]
  have:=qbly (DD X n) n (fun v w=>qsg (DD X n) n v w) (fun v=>qso (DD X n) n v) (fun _=>rfl) (fun _=>rfl) n 0 (k - a.length) a
   (fun x hx k h0 h1=>qbvb hX (by omega) x k (ha.2 x hx) ⟨h0,h1⟩) w1 (by omega) (by have:=qbo;omega) (by omega) (by omega)
  rw[show ((0:Nat):Int)=0 from rfl] at this
  rw[this,List.drop_zero]
  by_cases h2:(tot (.sl qt) a:Int)≤k
  ·rw[qdw h2,if_pos (by omega)];congr 3;omega
  ·rw[qeb h2,if_neg (by omega)]
theorem qbeg {X:Ext} (hX:XOk X) (N n:Nat) (hN:W+1≤N) (K:Int→List Value→Option ((Int×Unit)×List Value×Unit)):∀ (m i:Nat) (k:Int) (a:List Value),a.length≤maxLen→i≤a.length→a.length - i<m→0≤k→k+((a.drop i).map (cnt qt)).sum≤maxLen→
  qge (DD X N) n K m k i a=K (mkL (mkT qt) k (a.drop i)).1 (a.take i++(mkL (mkT qt) k (a.drop i)).2)
 | 0,_,_,_,_,_,h,_,_=>by omega
 | m+1,i,k,a,hm,hi,hf,hk,hkl=>by
  simp only[qge,qs7]
  have hd:=qj
  by_cases h:i<a.length
  ·rw[qi8 h] at hkl
   have hc:cnt qt a[i]=1+1+1:=by first | rfl | (simp only[cnt];omega)
   have t2:=qtk hX hN (k+1+1) (by omega)
   have w0:IntKind.wrap IntKind.i64 (k+1)=k+1:=qcc (by omega) (by omega)
   have w1:IntKind.wrap IntKind.i64 (k+1+1)=k+1+1:=qcc (by omega) (by omega)
   have w2:IntKind.wrap IntKind.i64 (k+1+1+1)=k+1+1+1:=qcc (by omega) (by omega)
   have wi:IntKind.wrap IntKind.i64 ((i:Int)+1)=((i+1:Nat):Int):=qp (by omega)
   rw[qn (by exact_mod_cast h)]
   simp only[ix h,br_t,t2,w0,w1,w2,wi,qf,List.length_set,Int.toNat_natCast,q3m h,q7 h,List.set_set]
   have e:=qbeg hX N n hN K m (i+1) (k+1+1+1) (a.set i (k,k+1,q4z (k+1+1),())) (by simpa using hm) (by simp;omega) (by simp;omega) (by omega) (by rw[List.drop_set_of_lt (by omega)];omega)
   refine Eq.trans e ?_
   rw[qnp h,q0 h,List.drop_set_of_lt (by omega),List.append_assoc]
   rfl
  ·rw[qo (by exact_mod_cast h),qbb h,List.take_of_length_le (by omega)]
   simp only[mkL,List.append_nil]
theorem qbd6 {X:Ext} (hX:XOk X) {n:Nat} (hn:W+2≤n) (a:List Value) (k:Int) (ha:a.length≤maxLen) (hk:0≤k) (h:k+cnt (.sl qt) a≤maxLen) :
  qoc (DD X n) a k=some (((mkT (.sl qt) k a).1,()),((mkT (.sl qt) k a).2,())):=by
 obtain ⟨n,rfl⟩:∃ k,n=k+1:=⟨n - 1,by omega⟩
 have hd:=qj
 rw[qbfk hX]
 simp only[qtu,qt5,qqo]
 have:=qbeg hX n n (by omega) (fun v w=>qj3 (DD X n) n v w) n 0 k a ha (by omega) (by have:=qbo;omega) hk (by rw[List.drop_zero];exact h)
 rw[show ((0:Nat):Int)=0 from rfl] at this
 rw[this]
 simp only[List.take_zero,List.drop_zero,List.nil_append,qj3,mkT]
theorem qbci {X:Ext} (hX:XOk X) (N n:Nat) (hN:W+1≤N) (K0:Int→Int→Option ((Int×Unit)×Unit)) (K1:Int→Option ((Int×Unit)×Unit)):∀ (m i:Nat) (k:Int) (a l:List Value),a.length≤maxLen→i≤a.length→a.length - i<m→0≤k→k+(l.map (cnt qt)).sum≤maxLen→
  a.drop i=(mkL (mkT qt) k l).2→qf5 (DD X N) n K0 K1 m a k i=K1 (mkL (mkT qt) k l).1
 | 0,_,_,_,_,_,_,h,_,_,_=>by omega
 | m+1,i,k,a,l,hm,hi,hf,hk,hkl,hl=>by
  simp only[qf5,qs0]
  have hd:=qj
  by_cases h:i<a.length
  ·rw[q0 h] at hl
   cases l with
   | nil=>simp[mkL] at hl;omega
   | cons x l=>
    simp only[mkL,List.cons.injEq] at hl
    obtain ⟨hx,hl⟩:=hl
    simp only[List.map_cons,List.sum_cons] at hkl
    have hc:cnt qt x=1+1+1:=by first | rfl | (simp only[cnt];omega)
    have t2:=qtk hX hN (k+1+1) (by omega)
    have w0:IntKind.wrap IntKind.i64 (k+1)=k+1:=qcc (by omega) (by omega)
    have w1:IntKind.wrap IntKind.i64 (k+1+1)=k+1+1:=qcc (by omega) (by omega)
    have w2:IntKind.wrap IntKind.i64 (k+1+1+1)=k+1+1+1:=qcc (by omega) (by omega)
    have hx0:a[i].1=k:=by rw[hx];rfl
    have hx1:a[i].2.1=k+1:=by rw[hx];rfl
    have hx2:a[i].2.2.1=q4z (k+1+1):=by rw[hx];rfl
    have wi:IntKind.wrap IntKind.i64 ((i:Int)+1)=((i+1:Nat):Int):=qp (by omega)
    rw[qn (by exact_mod_cast h)]
    simp only[ix h,br_t,Int.toNat_natCast,q7 h,hx0,hx1,hx2,t2,w0,w1,w2,wi,qf,qf9,decide_true,Bool.not_true,br_f,bne_self_eq_false]
    exact qbci hX N n hN K0 K1 m (i+1) (mkT qt k x).1 a l hm (by omega) (by omega) (by rw[qde];omega) (by rw[qde];omega) hl
  ·rw[qo (by exact_mod_cast h)]
   rw[qbb h] at hl
   cases l with
   | nil=>rfl
   | cons x l=>simp[mkL] at hl
theorem qbqo {X:Ext} (hX:XOk X) {n:Nat} (hn:W+2≤n) (a:List Value) (k:Int) (ha:a.length≤maxLen) (hk:0≤k) (h:k+cnt (.sl qt) a≤maxLen) :
  qtw (DD X n) (mkT (.sl qt) k a).2 k=some (((mkT (.sl qt) k a).1,()),()):=by
 obtain ⟨n,rfl⟩:∃ k,n=k+1:=⟨n - 1,by omega⟩
 have hd:=qj
 rw[qbf5 hX]
 simp only[qt0,qtv,qqy]
 have hml:(mkT (.sl qt) k a).2.length=a.length:=q5b k a
 have:=qbci hX n n (by omega) (fun v w=>qpg (DD X n) n v w) (fun v=>qj0 (DD X n) n v) n 0 k (mkT (.sl qt) k a).2 a (by omega) (by omega) (by have:=qbo;omega) hk h (by simp[mkT])
 rw[show ((0:Nat):Int)=0 from rfl] at this
 rw[this]
 simp only[qj0,mkT]
abbrev ColT:Ty:=.pair (.str) (.pair (.int .i64) (.pair (.bool) (.unit)))
abbrev Col:=ByteArray×Int×Bool×Unit
theorem qbye {X:Ext} (hX:XOk X) {n:Nat} (hn:W+2≤n) (a b:Col) (hb:Fit maxLen ColT b):qzs (DD X n) a b=some ((decide (a=b),()),()):=by
 obtain ⟨n,rfl⟩:∃ k,n=k+1:=⟨n - 1,by omega⟩
 rw[qbrq hX]
 obtain ⟨a0,a1,a2,⟨⟩⟩:=a
 obtain ⟨b0,b1,b2,⟨⟩⟩:=b
 simp only[Fit] at hb
 have ne:∀ x y:Int,(x != y)=!decide (x=y):=fun x y=>by by_cases h:x=y<;>simp[h]
 simp only[q5x,qbc7,qf9,ne]
 by_cases h0:a0=b0<;>by_cases h1:a1=b1<;>by_cases h2:a2=b2<;>simp[h0,h1,h2,br]
theorem qbrd (D:Den ctx) (n:Nat) (K0:Bool→Option ((Bool×Unit)×Unit)) (K1:Option ((Bool×Unit)×Unit)):∀ (m i:Nat) (a b:List Col),(∀ x y,y∈b→qzs D x y=some ((decide (x=y),()),()))→
  a.length=b.length→a.length≤maxLen→i≤a.length→a.length - i<m→qkp D n K0 K1 m a b i=if a.drop i=b.drop i then K1 else K0 false
 | 0,_,_,_,_,_,_,_,h=>by omega
 | m+1,i,a,b,he,hl,hm,hi,hk=>by
  simp only[qkp,q1g]
  have hd:=qj
  by_cases h:i<a.length
  ·rw[qn (by exact_mod_cast h),ix h,br_t,ix (hl ▸ h),br_t,qp (by omega),Int.toNat_natCast,q7 h,q7 (hl ▸ h),he _ _ (List.getElem_mem _),qf,q0 h,q0 (hl ▸ h:i<b.length)]
   by_cases e:a[i]=b[i]'(hl ▸ h)
   ·simp only[e,decide_true,Bool.not_true,br_f,List.cons.injEq,true_and]
    exact qbrd D n K0 K1 m (i+1) a b he hl hm (by omega) (by omega)
   ·simp only[e,decide_false,Bool.not_false,br_t,List.cons.injEq,false_and,if_false]
  ·rw[qo (by exact_mod_cast h),qbb h,qbb (hl ▸ h)];rfl
theorem qbxi {X:Ext} (hX:XOk X) {n:Nat} (hn:W+3≤n) (a b:List Col) (hb:Fit maxLen (.sl ColT) b):q25 (DD X n) a b=some ((decide (a=b),()),()):=by
 obtain ⟨n,rfl⟩:∃ k,n=k+1:=⟨n - 1,by omega⟩
 have hb1:b.length≤maxLen:=hb.1
 rw[qbpc hX]
 simp only[q29,q3b,qx5]
 by_cases h:a.length=b.length
 ·have e:((a.length:Int) != (b.length:Int))=false:=by simp[h]
  rw[e,br_f]
  have:=qbrd (DD X n) n (fun v=>qpv (DD X n) n v) (qpx (DD X n) n) n 0 a b (fun x y hy=>qbye hX (by omega) x y (hb.2 y hy)) h (by omega) (by omega) (by have:=qbo;have:=qj;omega)
  rw[show ((0:Nat):Int)=0 from rfl] at this
  rw[this]
  simp only[List.drop_zero,qpv,qpx]
  by_cases h:a=b<;>simp[h]
 ·have e:((a.length:Int) != (b.length:Int))=true:=by simp;omega
  have:a≠b:=fun h2=>h (by rw[h2])
  rw[e,br_t];simp[this]
theorem qbyd {X:Ext} (hX:XOk X) {n:Nat} (hn:W+2≤n) (a:Col) (ha:Fit qbl ColT a):qyr (DD X n) a=some ((a,()),()):=by
 obtain ⟨n,rfl⟩:∃ k,n=k+1:=⟨n - 1,by omega⟩
 rw[qbqn hX]
 rfl
theorem qbp1 (D:Den ctx) (n:Nat) (K:List Col→Option ((List Col×Unit)×Unit)):∀ (m i:Nat) (a c:List Col),(∀ x∈a,qyr D x=some ((x,()),()))→a.length=c.length→a.length≤maxLen→i≤a.length→a.length - i<m→
  qki D n K m a i c=K (c.take i++a.drop i)
 | 0,_,_,_,_,_,_,_,h=>by omega
 | m+1,i,a,c,he,hl,hm,hi,hk=>by
  simp only[qki,q0j]
  have hd:=qj
  by_cases h:i<a.length
  ·rw[qn (by exact_mod_cast h),ix h,br_t,Int.toNat_natCast,q7 h,he _ (List.getElem_mem _),qf,ix (hl ▸ h),br_t,qp (by omega)]
   have e:=qbp1 D n K m (i+1) a (c.set i a[i]) he (by simp[hl]) hm (by omega) (by omega)
   rw[q0 h]
   refine Eq.trans e ?_
   rw[qnp (hl ▸ h),List.append_assoc];rfl
  ·rw[qo (by exact_mod_cast h),qbb h,List.take_of_length_le (by omega),List.append_nil]
theorem qbxa {X:Ext} (hX:XOk X) {n:Nat} (hn:W+3≤n) (a:List Col) (ha:Fit qbl (.sl ColT) a):q3u (DD X n) a=some ((a,()),()):=by
 obtain ⟨n,rfl⟩:∃ k,n=k+1:=⟨n - 1,by omega⟩
 have ha1:a.length≤qbl:=ha.1
 rw[qbo1 hX]
 simp only[q3q,q27,qxv]
 rw[q8r ha1,br_t]
 have h1:=qdi
 have:=qbp1 (DD X n) n (fun v=>qpa (DD X n) n v) n 0 a (List.replicate (Int.toNat (a.length:Int)) (ByteArray.empty,(0,(false,())))) (fun x hx=>qbyd hX (by omega) x (ha.2 x hx)) (by simp) (by rw[qj];omega) (by omega) (by have:=qbo;omega)
 rw[show ((0:Nat):Int)=0 from rfl] at this
 rw[this]
 simp only[List.take_zero,List.drop_zero,List.nil_append,qpa]
theorem qby7 {X:Ext} (hX:XOk X) {n:Nat} (hn:W+2≤n) (a:Col) (k:Int) (ha:Wf ColT a) (hk:0≤k∧k≤maxLen):qyg (DD X n) a k=some ((left ColT a k,()),()):=by
 obtain ⟨n,rfl⟩:∃ k,n=k+1:=⟨n - 1,by omega⟩
 have hd:=qj
 simp only[Wf] at ha
 have w1:a.1.size≤maxLen:=ha.1
 have ht:tot ColT a=a.1.size+(0+(0+(0))):=rfl
 rw[qbqx hX]
 simp only[q54,qbc9]
 rw[qcc (by omega) (by omega)]
 by_cases h:k - (a.1.size:Int)<0
 ·rw[qn h,qeb (by omega)]
 ·rw[qo h,qdw (by omega)]
  try (congr 3<;>omega)
theorem qbpv (D:Den ctx) (n:Nat) (K0:Int→Int→Option ((Int×Unit)×Unit)) (K1:Int→Option ((Int×Unit)×Unit)) (hK:∀ k,K1 k=some ((k,()),())) (hK0:∀ k,K0 k (-1)=some ((-1,()),())):∀ (m i:Nat) (k:Int) (a:List Col),
  (∀ x∈a,∀ k:Int,0≤k→k≤maxLen→qyg D x k=some ((left ColT x k,()),()))→a.length≤maxLen→i≤a.length→a.length - i<m→0≤k→k≤maxLen→
  qkr D n K0 K1 m a k i=some ((if (((a.drop i).map (tot ColT)).sum:Int)≤k then k - ((a.drop i).map (tot ColT)).sum else -1,()),())
 | 0,_,_,_,_,_,_,h,_,_=>by omega
 | m+1,i,k,a,he,hm,hi,hf,h0,h1=>by
  simp only[qkr,q15]
  have hd:=qj
  by_cases h:i<a.length
  ·rw[qn (by exact_mod_cast h),ix h,br_t,Int.toNat_natCast,q7 h,he _ (List.getElem_mem _) k h0 h1,qf,qp (by omega),qi8 h]
   by_cases h2:left ColT a[i] k<0
   ·rw[qn h2,hK0,if_neg]
    intro h3
    rw[qdw (by omega)] at h2
    omega
   ·obtain ⟨e1,e2⟩:=qfl h2 h0
    rw[qo h2,e1];dsimp only
    rw[qbpv D n K0 K1 hK hK0 m (i+1) _ a he hm (by omega) (by omega) (by omega) (by omega)]
    congr 3
    push_cast
    split<;>split<;>omega
  ·rw[qo (by exact_mod_cast h),qbb h,hK]
   simp[h0]
theorem qbxg {X:Ext} (hX:XOk X) {n:Nat} (hn:W+3≤n) (a:List Col) (k:Int) (ha:Wf (.sl ColT) a) (hk:0≤k∧k≤maxLen):q3f (DD X n) a k=some ((left (.sl ColT) a k,()),()):=by
 obtain ⟨n,rfl⟩:∃ k,n=k+1:=⟨n - 1,by omega⟩
 have hd:=qj
 have w1:a.length≤maxLen:=ha.1
 have hts:=qoq (t:=ColT) a
 rw[qboz hX]
 simp only[q3p,q3y,qy5]
 rw[qcc (by omega) (by omega)]
 by_cases h:k - (a.length:Int)<0
 ·rw[qn h,qeb (by omega)]
 ·rw[qo h]
  have:=qbpv (DD X n) n (fun v w=>qwq (DD X n) n v w) (fun v=>qwn (DD X n) n v) (fun _=>rfl) (fun _=>rfl) n 0 (k - a.length) a
   (fun x hx k h0 h1=>qby7 hX (by omega) x k (ha.2 x hx) ⟨h0,h1⟩) w1 (by omega) (by have:=qbo;omega) (by omega) (by omega)
  rw[show ((0:Nat):Int)=0 from rfl] at this
  rw[this,List.drop_zero]
  by_cases h2:(tot (.sl ColT) a:Int)≤k
  ·rw[qdw h2,if_pos (by omega)];congr 3;omega
  ·rw[qeb h2,if_neg (by omega)]
theorem qbk3 {X:Ext} (hX:XOk X) (N n:Nat) (hN:W+1≤N) (K:Int→List Col→Option ((Int×Unit)×List Col×Unit)):∀ (m i:Nat) (k:Int) (a:List Col),a.length≤maxLen→i≤a.length→a.length - i<m→0≤k→k+((a.drop i).map (cnt ColT)).sum≤maxLen→
  qh7 (DD X N) n K m k i a=K (mkL (mkT ColT) k (a.drop i)).1 (a.take i++(mkL (mkT ColT) k (a.drop i)).2)
 | 0,_,_,_,_,_,h,_,_=>by omega
 | m+1,i,k,a,hm,hi,hf,hk,hkl=>by
  simp only[qh7,qv1]
  have hd:=qj
  by_cases h:i<a.length
  ·rw[qi8 h] at hkl
   have hc:cnt ColT a[i]=1+1+1:=by first | rfl | (simp only[cnt];omega)
   have t0:=qtk hX hN (k) (by omega)
   have w0:IntKind.wrap IntKind.i64 (k+1)=k+1:=qcc (by omega) (by omega)
   have w1:IntKind.wrap IntKind.i64 (k+1+1)=k+1+1:=qcc (by omega) (by omega)
   have w2:IntKind.wrap IntKind.i64 (k+1+1+1)=k+1+1+1:=qcc (by omega) (by omega)
   have wi:IntKind.wrap IntKind.i64 ((i:Int)+1)=((i+1:Nat):Int):=qp (by omega)
   rw[qn (by exact_mod_cast h)]
   simp only[ix h,br_t,t0,w0,w1,w2,wi,qf,List.length_set,Int.toNat_natCast,q3m h,q7 h,List.set_set]
   have e:=qbk3 hX N n hN K m (i+1) (k+1+1+1) (a.set i (q4z (k),k+1,decide (Int.tmod (k+1+1) 3=0),())) (by simpa using hm) (by simp;omega) (by simp;omega) (by omega) (by rw[List.drop_set_of_lt (by omega)];omega)
   refine Eq.trans e ?_
   rw[qnp h,q0 h,List.drop_set_of_lt (by omega),List.append_assoc]
   rfl
  ·rw[qo (by exact_mod_cast h),qbb h,List.take_of_length_le (by omega)]
   simp only[mkL,List.append_nil]
theorem qbtt {X:Ext} (hX:XOk X) {n:Nat} (hn:W+2≤n) (a:List Col) (k:Int) (ha:a.length≤maxLen) (hk:0≤k) (h:k+cnt (.sl ColT) a≤maxLen) :
  qzo (DD X n) a k=some (((mkT (.sl ColT) k a).1,()),((mkT (.sl ColT) k a).2,())):=by
 obtain ⟨n,rfl⟩:∃ k,n=k+1:=⟨n - 1,by omega⟩
 have hd:=qj
 rw[qbkg hX]
 simp only[qx4,qyn,qu8]
 have:=qbk3 hX n n (by omega) (fun v w=>qnb (DD X n) n v w) n 0 k a ha (by omega) (by have:=qbo;omega) hk (by rw[List.drop_zero];exact h)
 rw[show ((0:Nat):Int)=0 from rfl] at this
 rw[this]
 simp only[List.take_zero,List.drop_zero,List.nil_append,qnb,mkT]
theorem qbkr {X:Ext} (hX:XOk X) (N n:Nat) (hN:W+1≤N) (K0:Int→Int→Option ((Int×Unit)×Unit)) (K1:Int→Option ((Int×Unit)×Unit)):∀ (m i:Nat) (k:Int) (a l:List Col),a.length≤maxLen→i≤a.length→a.length - i<m→0≤k→k+(l.map (cnt ColT)).sum≤maxLen→
  a.drop i=(mkL (mkT ColT) k l).2→qhz (DD X N) n K0 K1 m a k i=K1 (mkL (mkT ColT) k l).1
 | 0,_,_,_,_,_,_,h,_,_,_=>by omega
 | m+1,i,k,a,l,hm,hi,hf,hk,hkl,hl=>by
  simp only[qhz,qw1]
  have hd:=qj
  by_cases h:i<a.length
  ·rw[q0 h] at hl
   cases l with
   | nil=>simp[mkL] at hl;omega
   | cons x l=>
    simp only[mkL,List.cons.injEq] at hl
    obtain ⟨hx,hl⟩:=hl
    simp only[List.map_cons,List.sum_cons] at hkl
    have hc:cnt ColT x=1+1+1:=by first | rfl | (simp only[cnt];omega)
    have t0:=qtk hX hN (k) (by omega)
    have w0:IntKind.wrap IntKind.i64 (k+1)=k+1:=qcc (by omega) (by omega)
    have w1:IntKind.wrap IntKind.i64 (k+1+1)=k+1+1:=qcc (by omega) (by omega)
    have w2:IntKind.wrap IntKind.i64 (k+1+1+1)=k+1+1+1:=qcc (by omega) (by omega)
    have hx0:a[i].1=q4z (k):=by rw[hx];rfl
    have hx1:a[i].2.1=k+1:=by rw[hx];rfl
    have hx2:a[i].2.2.1=decide (Int.tmod (k+1+1) 3=0):=by rw[hx];rfl
    have wi:IntKind.wrap IntKind.i64 ((i:Int)+1)=((i+1:Nat):Int):=qp (by omega)
    rw[qn (by exact_mod_cast h)]
    simp only[ix h,br_t,Int.toNat_natCast,q7 h,hx0,hx1,hx2,t0,w0,w1,w2,wi,qf,qf9,decide_true,Bool.not_true,br_f,bne_self_eq_false]
    exact qbkr hX N n hN K0 K1 m (i+1) (mkT ColT k x).1 a l hm (by omega) (by omega) (by rw[qde];omega) (by rw[qde];omega) hl
  ·rw[qo (by exact_mod_cast h)]
   rw[qbb h] at hl
   cases l with
   | nil=>rfl
   | cons x l=>simp[mkL] at hl
theorem qbtp {X:Ext} (hX:XOk X) {n:Nat} (hn:W+2≤n) (a:List Col) (k:Int) (ha:a.length≤maxLen) (hk:0≤k) (h:k+cnt (.sl ColT) a≤maxLen) :
  qxt (DD X n) (mkT (.sl ColT) k a).2 k=some (((mkT (.sl ColT) k a).1,()),()):=by
 obtain ⟨n,rfl⟩:∃ k,n=k+1:=⟨n - 1,by omega⟩
 have hd:=qj
 rw[qbi8 hX]
 simp only[qzf,qx6,qug]
 have hml:(mkT (.sl ColT) k a).2.length=a.length:=q5b k a
 have:=qbkr hX n n (by omega) (fun v w=>qsy (DD X n) n v w) (fun v=>ql8 (DD X n) n v) n 0 k (mkT (.sl ColT) k a).2 a (by omega) (by omega) (by have:=qbo;omega) hk h (by simp[mkT])
 rw[show ((0:Nat):Int)=0 from rfl] at this
 rw[this]
 simp only[ql8,mkT]
abbrev qbz:Ty:=.pair (.str) (.pair (.sl (.int .i64)) (.pair (.bool) (.unit)))
abbrev qdn:=ByteArray×List Int×Bool×Unit
theorem qbur {X:Ext} (hX:XOk X) {n:Nat} (hn:W+2≤n) (a b:qdn) (hb:Fit maxLen qbz b):qtj (DD X n) a b=some ((decide (a=b),()),()):=by
 obtain ⟨n,rfl⟩:∃ k,n=k+1:=⟨n - 1,by omega⟩
 rw[qbnt hX]
 obtain ⟨a0,a1,a2,⟨⟩⟩:=a
 obtain ⟨b0,b1,b2,⟨⟩⟩:=b
 simp only[Fit] at hb
 have ne:∀ x y:Int,(x != y)=!decide (x=y):=fun x y=>by by_cases h:x=y<;>simp[h]
 simp only[q14,q8w,qf9,ne]
 rw[qbrx hX (by omega) _ _ (hb.2.1.1),qf]
 by_cases h0:a0=b0<;>by_cases h1:a1=b1<;>by_cases h2:a2=b2<;>simp[h0,h1,h2,br]
theorem qbi1 (D:Den ctx) (n:Nat) (K0:Bool→Option ((Bool×Unit)×Unit)) (K1:Option ((Bool×Unit)×Unit)):∀ (m i:Nat) (a b:List qdn),(∀ x y,y∈b→qtj D x y=some ((decide (x=y),()),()))→
  a.length=b.length→a.length≤maxLen→i≤a.length→a.length - i<m→qh2 D n K0 K1 m a b i=if a.drop i=b.drop i then K1 else K0 false
 | 0,_,_,_,_,_,_,_,h=>by omega
 | m+1,i,a,b,he,hl,hm,hi,hk=>by
  simp only[qh2,qwf]
  have hd:=qj
  by_cases h:i<a.length
  ·rw[qn (by exact_mod_cast h),ix h,br_t,ix (hl ▸ h),br_t,qp (by omega),Int.toNat_natCast,q7 h,q7 (hl ▸ h),he _ _ (List.getElem_mem _),qf,q0 h,q0 (hl ▸ h:i<b.length)]
   by_cases e:a[i]=b[i]'(hl ▸ h)
   ·simp only[e,decide_true,Bool.not_true,br_f,List.cons.injEq,true_and]
    exact qbi1 D n K0 K1 m (i+1) a b he hl hm (by omega) (by omega)
   ·simp only[e,decide_false,Bool.not_false,br_t,List.cons.injEq,false_and,if_false]
  ·rw[qo (by exact_mod_cast h),qbb h,qbb (hl ▸ h)];rfl
theorem qbtr {X:Ext} (hX:XOk X) {n:Nat} (hn:W+3≤n) (a b:List qdn) (hb:Fit maxLen (.sl qbz) b):qxo (DD X n) a b=some ((decide (a=b),()),()):=by
 obtain ⟨n,rfl⟩:∃ k,n=k+1:=⟨n - 1,by omega⟩
 have hb1:b.length≤maxLen:=hb.1
 rw[qbko hX]
 simp only[qzl,qyp,qt9]
 by_cases h:a.length=b.length
 ·have e:((a.length:Int) != (b.length:Int))=false:=by simp[h]
  rw[e,br_f]
  have:=qbi1 (DD X n) n (fun v=>qma (DD X n) n v) (qm0 (DD X n) n) n 0 a b (fun x y hy=>qbur hX (by omega) x y (hb.2 y hy)) h (by omega) (by omega) (by have:=qbo;have:=qj;omega)
  rw[show ((0:Nat):Int)=0 from rfl] at this
  rw[this]
  simp only[List.drop_zero,qma,qm0]
  by_cases h:a=b<;>simp[h]
 ·have e:((a.length:Int) != (b.length:Int))=true:=by simp;omega
  have:a≠b:=fun h2=>h (by rw[h2])
  rw[e,br_t];simp[this]
theorem qbv8 {X:Ext} (hX:XOk X) {n:Nat} (hn:W+2≤n) (a:qdn) (ha:Fit qbl qbz a):qtf (DD X n) a=some ((a,()),()):=by
 obtain ⟨n,rfl⟩:∃ k,n=k+1:=⟨n - 1,by omega⟩
 rw[qbn3 hX]
 simp only[Fit] at ha
 simp only[q04,q9e]
 rw[qbrn hX (by omega) _ ha.2.1.1,qf]
theorem qbja (D:Den ctx) (n:Nat) (K:List qdn→Option ((List qdn×Unit)×Unit)):∀ (m i:Nat) (a c:List qdn),(∀ x∈a,qtf D x=some ((x,()),()))→a.length=c.length→a.length≤maxLen→i≤a.length→a.length - i<m→
  qin D n K m a i c=K (c.take i++a.drop i)
 | 0,_,_,_,_,_,_,_,h=>by omega
 | m+1,i,a,c,he,hl,hm,hi,hk=>by
  simp only[qin,qvy]
  have hd:=qj
  by_cases h:i<a.length
  ·rw[qn (by exact_mod_cast h),ix h,br_t,Int.toNat_natCast,q7 h,he _ (List.getElem_mem _),qf,ix (hl ▸ h),br_t,qp (by omega)]
   have e:=qbja D n K m (i+1) a (c.set i a[i]) he (by simp[hl]) hm (by omega) (by omega)
   rw[q0 h]
   refine Eq.trans e ?_
   rw[qnp (hl ▸ h),List.append_assoc];rfl
  ·rw[qo (by exact_mod_cast h),qbb h,List.take_of_length_le (by omega),List.append_nil]
theorem qbtv {X:Ext} (hX:XOk X) {n:Nat} (hn:W+3≤n) (a:List qdn) (ha:Fit qbl (.sl qbz) a):qx0 (DD X n) a=some ((a,()),()):=by
 obtain ⟨n,rfl⟩:∃ k,n=k+1:=⟨n - 1,by omega⟩
 have ha1:a.length≤qbl:=ha.1
 rw[qbjq hX]
 simp only[qyx,qxq,qu9]
 rw[q8r ha1,br_t]
 have h1:=qdi
 have:=qbja (DD X n) n (fun v=>qmp (DD X n) n v) n 0 a (List.replicate (Int.toNat (a.length:Int)) (ByteArray.empty,([],(false,())))) (fun x hx=>qbv8 hX (by omega) x (ha.2 x hx)) (by simp) (by rw[qj];omega) (by omega) (by have:=qbo;omega)
 rw[show ((0:Nat):Int)=0 from rfl] at this
 rw[this]
 simp only[List.take_zero,List.drop_zero,List.nil_append,qmp]
theorem qbvr {X:Ext} (hX:XOk X) {n:Nat} (hn:W+2≤n) (a:qdn) (k:Int) (ha:Wf qbz a) (hk:0≤k∧k≤maxLen):qts (DD X n) a k=some ((left qbz a k,()),()):=by
 obtain ⟨n,rfl⟩:∃ k,n=k+1:=⟨n - 1,by omega⟩
 have hd:=qj
 simp only[Wf] at ha
 have w1:a.1.size≤maxLen:=ha.1
 have ht:tot qbz a=a.1.size+(tot qdb a.2.1+(0+(0))):=rfl
 rw[q59] at ht
 rw[qbm6 hX]
 simp only[q0w,q82]
 rw[qcc (by omega) (by omega)]
 by_cases h:k - (a.1.size:Int)<0
 ·rw[qn h,qeb (by omega)]
 ·have w2:a.2.1.length≤maxLen:=ha.2.1.1
  rw[qo h,qbrj hX (by omega) _ _ w2 (by omega),qf]
  have e2:=q59 a.2.1
  by_cases h2:(tot qdb a.2.1:Int)≤k - a.1.size
  ·rw[qdw h2];dsimp only
   rw[qo (by omega),qdw (by omega)]
   congr 3;omega
  ·rw[qeb h2];dsimp only
   rw[qn (by omega),qeb (by omega)]
theorem qbj5 (D:Den ctx) (n:Nat) (K0:Int→Int→Option ((Int×Unit)×Unit)) (K1:Int→Option ((Int×Unit)×Unit)) (hK:∀ k,K1 k=some ((k,()),())) (hK0:∀ k,K0 k (-1)=some ((-1,()),())):∀ (m i:Nat) (k:Int) (a:List qdn),
  (∀ x∈a,∀ k:Int,0≤k→k≤maxLen→qts D x k=some ((left qbz x k,()),()))→a.length≤maxLen→i≤a.length→a.length - i<m→0≤k→k≤maxLen→
  qh5 D n K0 K1 m a k i=some ((if (((a.drop i).map (tot qbz)).sum:Int)≤k then k - ((a.drop i).map (tot qbz)).sum else -1,()),())
 | 0,_,_,_,_,_,_,h,_,_=>by omega
 | m+1,i,k,a,he,hm,hi,hf,h0,h1=>by
  simp only[qh5,qvx]
  have hd:=qj
  by_cases h:i<a.length
  ·rw[qn (by exact_mod_cast h),ix h,br_t,Int.toNat_natCast,q7 h,he _ (List.getElem_mem _) k h0 h1,qf,qp (by omega),qi8 h]
   by_cases h2:left qbz a[i] k<0
   ·rw[qn h2,hK0,if_neg]
    intro h3
    rw[qdw (by omega)] at h2
    omega
   ·obtain ⟨e1,e2⟩:=qfl h2 h0
    rw[qo h2,e1];dsimp only
    rw[qbj5 D n K0 K1 hK hK0 m (i+1) _ a he hm (by omega) (by omega) (by omega) (by omega)]
    congr 3
    push_cast
    split<;>split<;>omega
  ·rw[qo (by exact_mod_cast h),qbb h,hK]
   simp[h0]
theorem qbty {X:Ext} (hX:XOk X) {n:Nat} (hn:W+3≤n) (a:List qdn) (k:Int) (ha:Wf (.sl qbz) a) (hk:0≤k∧k≤maxLen):qzd (DD X n) a k=some ((left (.sl qbz) a k,()),()):=by
 obtain ⟨n,rfl⟩:∃ k,n=k+1:=⟨n - 1,by omega⟩
 have hd:=qj
 have w1:a.length≤maxLen:=ha.1
 have hts:=qoq (t:=qbz) a
 rw[qbkc hX]
 simp only[qy7,qx8,quh]
 rw[qcc (by omega) (by omega)]
 by_cases h:k - (a.length:Int)<0
 ·rw[qn h,qeb (by omega)]
 ·rw[qo h]
  have:=qbj5 (DD X n) n (fun v w=>qse (DD X n) n v w) (fun v=>qsq (DD X n) n v) (fun _=>rfl) (fun _=>rfl) n 0 (k - a.length) a
   (fun x hx k h0 h1=>qbvr hX (by omega) x k (ha.2 x hx) ⟨h0,h1⟩) w1 (by omega) (by have:=qbo;omega) (by omega) (by omega)
  rw[show ((0:Nat):Int)=0 from rfl] at this
  rw[this,List.drop_zero]
  by_cases h2:(tot (.sl qbz) a:Int)≤k
  ·rw[qdw h2,if_pos (by omega)];congr 3;omega
  ·rw[qeb h2,if_neg (by omega)]
theorem qbcv {X:Ext} (hX:XOk X) (N n:Nat) (hN:W+1≤N) (K:Int→List qdn→Option ((Int×Unit)×List qdn×Unit)):∀ (m i:Nat) (k:Int) (a:List qdn),a.length≤maxLen→i≤a.length→a.length - i<m→0≤k→k+((a.drop i).map (cnt qbz)).sum≤maxLen→
  qgi (DD X N) n K m k i a=K (mkL (mkT qbz) k (a.drop i)).1 (a.take i++(mkL (mkT qbz) k (a.drop i)).2)
 | 0,_,_,_,_,_,h,_,_=>by omega
 | m+1,i,k,a,hm,hi,hf,hk,hkl=>by
  simp only[qgi,qsh]
  have hd:=qj
  by_cases h:i<a.length
  ·rw[qi8 h] at hkl
   have hc:cnt qbz a[i]=1+cnt qdb a[i].2.1+1:=by first | rfl | (simp only[cnt];omega)
   have t0:=qtk hX hN (k) (by omega)
   have hc1:=qde qdb (k+1) a[i].2.1
   have t1:=qbjp hX hN a[i].2.1 (k+1) (by omega) (by omega)
   have w0:IntKind.wrap IntKind.i64 (k+1)=k+1:=qcc (by omega) (by omega)
   have w1:IntKind.wrap IntKind.i64 ((mkT qdb (k+1) a[i].2.1).1+1)=(mkT qdb (k+1) a[i].2.1).1+1:=qcc (by omega) (by omega)
   have wi:IntKind.wrap IntKind.i64 ((i:Int)+1)=((i+1:Nat):Int):=qp (by omega)
   rw[qn (by exact_mod_cast h)]
   simp only[ix h,br_t,t0,t1,w0,w1,wi,qf,List.length_set,Int.toNat_natCast,q3m h,q7 h,List.set_set]
   refine Eq.trans (qbqs rfl) ?_
   have e:=qbcv hX N n hN K m (i+1) ((mkT qdb (k+1) a[i].2.1).1+1) (a.set i (q4z (k),(mkT qdb (k+1) a[i].2.1).2,decide (Int.tmod ((mkT qdb (k+1) a[i].2.1).1) 3=0),())) (by simpa using hm) (by simp;omega) (by simp;omega) (by omega) (by rw[List.drop_set_of_lt (by omega)];omega)
   refine Eq.trans e ?_
   rw[qnp h,q0 h,List.drop_set_of_lt (by omega),List.append_assoc]
   rfl
  ·rw[qo (by exact_mod_cast h),qbb h,List.take_of_length_le (by omega)]
   simp only[mkL,List.append_nil]
theorem qbqr {X:Ext} (hX:XOk X) {n:Nat} (hn:W+2≤n) (a:List qdn) (k:Int) (ha:a.length≤maxLen) (hk:0≤k) (h:k+cnt (.sl qbz) a≤maxLen) :
  que (DD X n) a k=some (((mkT (.sl qbz) k a).1,()),((mkT (.sl qbz) k a).2,())):=by
 obtain ⟨n,rfl⟩:∃ k,n=k+1:=⟨n - 1,by omega⟩
 have hd:=qj
 rw[qbe4 hX]
 simp only[qum,qvc,qq4]
 have:=qbcv hX n n (by omega) (fun v w=>qjz (DD X n) n v w) n 0 k a ha (by omega) (by have:=qbo;omega) hk (by rw[List.drop_zero];exact h)
 rw[show ((0:Nat):Int)=0 from rfl] at this
 rw[this]
 simp only[List.take_zero,List.drop_zero,List.nil_append,qjz,mkT]
theorem qbcs {X:Ext} (hX:XOk X) (N n:Nat) (hN:W+1≤N) (K0:Int→Int→Option ((Int×Unit)×Unit)) (K1:Int→Option ((Int×Unit)×Unit)):∀ (m i:Nat) (k:Int) (a l:List qdn),a.length≤maxLen→i≤a.length→a.length - i<m→0≤k→k+(l.map (cnt qbz)).sum≤maxLen→
  a.drop i=(mkL (mkT qbz) k l).2→qgj (DD X N) n K0 K1 m a k i=K1 (mkL (mkT qbz) k l).1
 | 0,_,_,_,_,_,_,h,_,_,_=>by omega
 | m+1,i,k,a,l,hm,hi,hf,hk,hkl,hl=>by
  simp only[qgj,qs2]
  have hd:=qj
  by_cases h:i<a.length
  ·rw[q0 h] at hl
   cases l with
   | nil=>simp[mkL] at hl;omega
   | cons x l=>
    simp only[mkL,List.cons.injEq] at hl
    obtain ⟨hx,hl⟩:=hl
    simp only[List.map_cons,List.sum_cons] at hkl
    have hc:cnt qbz x=1+cnt qdb x.2.1+1:=by first | rfl | (simp only[cnt];omega)
    have t0:=qtk hX hN (k) (by omega)
    have hc1:=qde qdb (k+1) x.2.1
    have t1:=qbjl hX hN x.2.1 (k+1) (by omega) (by omega)
    have w0:IntKind.wrap IntKind.i64 (k+1)=k+1:=qcc (by omega) (by omega)
    have w1:IntKind.wrap IntKind.i64 ((mkT qdb (k+1) x.2.1).1+1)=(mkT qdb (k+1) x.2.1).1+1:=qcc (by omega) (by omega)
    have hx0:a[i].1=q4z (k):=by rw[hx];rfl
    have hx1:a[i].2.1=(mkT qdb (k+1) x.2.1).2:=by rw[hx];rfl
    have hx2:a[i].2.2.1=decide (Int.tmod ((mkT qdb (k+1) x.2.1).1) 3=0):=by rw[hx];rfl
    have wi:IntKind.wrap IntKind.i64 ((i:Int)+1)=((i+1:Nat):Int):=qp (by omega)
    rw[qn (by exact_mod_cast h)]
    simp only[ix h,br_t,Int.toNat_natCast,q7 h,hx0,hx1,hx2,t0,t1,w0,w1,wi,qf,qf9,decide_true,Bool.not_true,br_f,bne_self_eq_false]
    rw[qo (by omega)]
    exact qbcs hX N n hN K0 K1 m (i+1) (mkT qbz k x).1 a l hm (by omega) (by omega) (by rw[qde];omega) (by rw[qde];omega) hl
  ·rw[qo (by exact_mod_cast h)]
   rw[qbb h] at hl
   cases l with
   | nil=>rfl
   | cons x l=>simp[mkL] at hl
theorem qbrm {X:Ext} (hX:XOk X) {n:Nat} (hn:W+2≤n) (a:List qdn) (k:Int) (ha:a.length≤maxLen) (hk:0≤k) (h:k+cnt (.sl qbz) a≤maxLen) :
  quj (DD X n) (mkT (.sl qbz) k a).2 k=some (((mkT (.sl qbz) k a).1,()),()):=by
 obtain ⟨n,rfl⟩:∃ k,n=k+1:=⟨n - 1,by omega⟩
 have hd:=qj
 rw[qbgj hX]
 simp only[quq,quk,qq3]
 have hml:(mkT (.sl qbz) k a).2.length=a.length:=q5b k a
 have:=qbcs hX n n (by omega) (fun v w=>qo6 (DD X n) n v w) (fun v=>qj6 (DD X n) n v) n 0 k (mkT (.sl qbz) k a).2 a (by omega) (by omega) (by have:=qbo;omega) hk h (by simp[mkT])
 rw[show ((0:Nat):Int)=0 from rfl] at this
 rw[this]
 simp only[qj6,mkT]
end Go.G

namespace Go.G
open Go Go.V Go.Proofs
def qz (P:Nat→Bool):Nat→Nat→Bool
 | _,0=>false
 | i,k+1=>P i||qz P (i+1) k
theorem q2c {P:Nat→Bool}:∀ {k i:Nat},qz P i k=true↔∃ j,i≤j∧j<i+k∧P j=true
 | 0,i=>by simp[qz];intro j h1 h2;omega
 | k+1,i=>by
  simp only[qz,Bool.or_eq_true,q2c (k:=k) (i:=i+1)]
  constructor
  ·rintro (h | ⟨j,h1,h2,h3⟩)
   ·exact ⟨i,Nat.le_refl _,by omega,h⟩
   ·exact ⟨j,by omega,by omega,h3⟩
  ·rintro ⟨j,h1,h2,h3⟩
   rcases Nat.eq_or_lt_of_le h1 with rfl | h1
   ·exact .inl h3
   ·exact .inr ⟨j,by omega,by omega,h3⟩
theorem qez {P:Nat→Bool} {k i:Nat}:qz P i k=false↔∀ j,i≤j→j<i+k→P j=false:=by
 rw[←Bool.not_eq_true,q2c]
 constructor
 ·intro h j h1 h2
  cases hp:P j with
  | false=>rfl
  | true=>exact absurd ⟨j,h1,h2,hp⟩ h
 ·rintro h ⟨j,h1,h2,h3⟩
  rw[h j h1 h2] at h3;exact Bool.noConfusion h3
theorem qvv {P Q:Nat→Bool}:∀ {k i:Nat},(∀ j,i≤j→j<i+k→P j=Q j)→qz P i k=qz Q i k
 | 0,_,_=>rfl
 | k+1,i,h=>by
  simp only[qz]
  rw[h i (Nat.le_refl _) (by omega),qvv fun j h1 h2=>h j (by omega) (by omega)]
theorem scan {R:Type} {L:Nat→Nat→Option R} {N:Nat} {P:Nat→Bool} {A B:Option R}
  (hs:∀ m i,i≤N→L (m+1) i=if i<N then br (P i) A (L m (i+1)) else B):∀ m i,i≤N→N - i<m→L m i=br (qz P i (N - i)) A B
 | 0,_,_,h=>by omega
 | m+1,i,hi,hm=>by
  rw[hs m i hi]
  by_cases h:i<N
  ·rw[if_pos h]
   obtain ⟨k,hk⟩:∃ k,N - i=k+1:=⟨N - i - 1,by omega⟩
   rw[hk,scan hs m (i+1) (by omega) (by omega)]
   have:N - (i+1)=k:=by omega
   rw[this]
   show br (P i) A (br (qz P (i+1) k) A B)=br (P i||qz P (i+1) k) A B
   cases P i<;>rfl
  ·rw[if_neg h]
   have:N - i=0:=by omega
   rw[this];rfl
theorem qjc {R:Type} {L:Nat→Nat→Option R} {N:Nat} {P:Nat→Bool} {A B:Option R}
  (hs:∀ m i,i≤N→L (m+1) i=if i<N then br (P i) A (L m (i+1)) else B) {m:Nat} (hm:N<m):L m 0=br (qz P 0 N) A B:=by
 have:=scan hs m 0 (by omega) (by omega)
 rwa [Nat.sub_zero] at this
def qbc (P:Nat→Bool):Nat→Nat→Option Nat
 | _,0=>none
 | i,k+1=>if P i=true then some i else qbc P (i+1) k
theorem qou {P:Nat→Bool}:∀ {k i j:Nat},qbc P i k=some j→i≤j∧j<i+k∧P j=true∧∀ l,i≤l→l<j→P l=false
 | 0,i,j,h=>by simp[qbc] at h
 | k+1,i,j,h=>by
  simp only[qbc] at h
  split at h
  ·rename_i hp
   simp only[Option.some.injEq] at h
   subst h
   exact ⟨Nat.le_refl _,by omega,hp,fun l h1 h2=>by omega⟩
  ·rename_i hp
   obtain ⟨h1,h2,h3,h4⟩:=qou h
   refine ⟨by omega,by omega,h3,fun l h5 h6=>?_⟩
   rcases Nat.eq_or_lt_of_le h5 with rfl | h5
   ·simpa using hp
   ·exact h4 l h5 h6
theorem qtd {P:Nat→Bool}:∀ {k i:Nat},qbc P i k=none→∀ j,i≤j→j<i+k→P j=false
 | 0,i,_,j,h1,h2=>by omega
 | k+1,i,h,j,h1,h2=>by
  simp only[qbc] at h
  split at h
  ·simp at h
  ·rename_i hp
   rcases Nat.eq_or_lt_of_le h1 with rfl | h1
   ·simpa using hp
   ·exact qtd h j (by omega) (by omega)
theorem q6v {P Q:Nat→Bool}:∀ {k i:Nat},(∀ j,i≤j→j<i+k→P j=Q j)→qbc P i k=qbc Q i k
 | 0,_,_=>rfl
 | k+1,i,h=>by
  simp only[qbc]
  rw[h i (Nat.le_refl _) (by omega),q6v fun j h1 h2=>h j (by omega) (by omega)]
theorem qbx5 {R:Type} {L:Nat→Nat→Option R} {N:Nat} {P:Nat→Bool} {A:Nat→Option R} {B:Option R}
  (hs:∀ m i,i≤N→L (m+1) i=if i<N then br (P i) (A i) (L m (i+1)) else B):∀ m i,i≤N→N - i<m→L m i=match qbc P i (N - i) with | some j=>A j | none=>B
 | 0,_,_,h=>by omega
 | m+1,i,hi,hm=>by
  rw[hs m i hi]
  by_cases h:i<N
  ·rw[if_pos h]
   obtain ⟨k,hk⟩:∃ k,N - i=k+1:=⟨N - i - 1,by omega⟩
   rw[hk]
   simp only[qbc]
   by_cases hp:P i=true
   ·rw[if_pos hp,hp];rfl
   ·rw[if_neg hp,qbx5 hs m (i+1) (by omega) (by omega)]
    simp only[Bool.not_eq_true] at hp
    have:N - (i+1)=k:=by omega
    rw[this,hp];rfl
  ·rw[if_neg h]
   have:N - i=0:=by omega
   rw[this];rfl
theorem qyk {R:Type} {L:Nat→Nat→Option R} {N:Nat} {P:Nat→Bool} {A:Nat→Option R} {B:Option R}
  (hs:∀ m i,i≤N→L (m+1) i=if i<N then br (P i) (A i) (L m (i+1)) else B) {m:Nat} (hm:N<m):L m 0=match qbc P 0 N with | some j=>A j | none=>B:=by
 have:=qbx5 hs m 0 (by omega) (by omega)
 rwa [Nat.sub_zero] at this
theorem qjs (a b:Bool):(bif a then b else false)=(a&&b):=by cases a<;>rfl
theorem qbtd (a b:Bool):(bif a then true else b)=(a||b):=by cases a<;>rfl
def inR (x a b:Int):Bool:=decide (a≤x)&&decide (x≤b)
theorem q2r {X:Ext} (hX:XOk X) {n:Nat} (hn:1≤n) (x a b:Int):qgq (DD X n) x a b=some ((inR x a b,()),()):=by
 obtain ⟨n,rfl⟩:∃ k,n=k+1:=⟨n - 1,by omega⟩
 rw[qbsu hX]
 simp only[q72,qbg3,qjs,inR]
theorem q2o {X:Ext} (hX:XOk X) {n:Nat} (hn:1≤n) (x a b:Int):qgp (DD X n) x a b=some ((inR x a b,()),()):=by
 obtain ⟨n,rfl⟩:∃ k,n=k+1:=⟨n - 1,by omega⟩
 rw[qbsv hX]
 simp only[q7y,qbgq,qjs,inR]
def qhu (s:ByteArray) (i:Nat):Int:=((s.data.getD i (UInt8.ofNat 0)).toNat:Int)
def qvk (s:ByteArray):Bool:=!(qz (fun i=>decide (qhu s i<97)||decide (qhu s i>122)) 0 s.size)&&inR s.size 1 12
theorem ixs {s:ByteArray} {i:Nat} (h:i<s.size):(decide (0≤(i:Int))&&decide ((i:Int)<(s.size:Int)))=true:=by
 simp only[Bool.and_eq_true,decide_eq_true_eq];omega
theorem qbdo {X:Ext} (hX:XOk X) {n:Nat} (hn:W+2≤n) (s:ByteArray) (hs:s.size≤maxLen):qo0 (DD X n) s=some ((qvk s,()),()):=by
 obtain ⟨n,rfl⟩:∃ k,n=k+1:=⟨n - 1,by omega⟩
 have hd:=qj
 have hW:=qbo
 rw[qbh2 hX]
 simp only[qwt,qv3,qr8]
 refine Eq.trans (qjc (L:=fun m i=>qg3 (DD X n) n _ _ m s s.size (i:Int)) (N:=s.size) (P:=fun i=>decide (qhu s i<97)||decide (qhu s i>122))
  (A:=some ((false,()),())) (B:=some ((inR s.size 1 12,()),())) (fun m i hi=>?_) (m:=n) (by omega)) ?_
 ·simp only[qg3,qu1]
  by_cases h:i<s.size
  ·rw[qn (by exact_mod_cast h),ixs h,br_t,br_t,Int.toNat_natCast,qp (by omega),if_pos h]
   change br (decide (qhu s i<97)) _ (br (decide (qhu s i>122)) _ _)=_
   by_cases h1:qhu s i<97
   ·rw[qn h1,decide_eq_true h1];rfl
   ·rw[qo h1,decide_eq_false h1]
    by_cases h2:qhu s i>122
    ·rw[qn h2,decide_eq_true h2];rfl
    ·rw[qo h2,decide_eq_false h2];rfl
  ·rw[qo (by exact_mod_cast h),if_neg h]
   simp only[qqt,q2r hX (show 1≤n by omega),qf]
 ·unfold qvk
  cases qz (fun i=>decide (qhu s i<97)||decide (qhu s i>122)) 0 s.size<;>rfl
theorem qbdj {X:Ext} (hX:XOk X) {n:Nat} (hn:W+2≤n) (s:ByteArray) (hs:s.size≤maxLen):qpp (DD X n) s=some ((qvk s,()),()):=by
 obtain ⟨n,rfl⟩:∃ k,n=k+1:=⟨n - 1,by omega⟩
 have hd:=qj
 have hW:=qbo
 rw[qbh5 hX]
 simp only[qwu,qwa,qsa]
 refine Eq.trans (qjc (L:=fun m i=>qhg (DD X n) n _ _ m s (i:Int)) (N:=s.size) (P:=fun i=>decide (qhu s i<97)||decide (qhu s i>122))
  (A:=some ((false,()),())) (B:=some ((inR s.size 1 12,()),())) (fun m i hi=>?_) (m:=n) (by omega)) ?_
 ·simp only[qhg,qtz]
  by_cases h:i<s.size
  ·rw[qn (by exact_mod_cast h),ixs h,br_t,br_t,Int.toNat_natCast,qp (by omega),if_pos h]
   change br (decide (qhu s i<97)) _ (br (decide (qhu s i>122)) _ _)=_
   by_cases h1:qhu s i<97
   ·rw[qn h1,decide_eq_true h1];rfl
   ·rw[qo h1,decide_eq_false h1]
    by_cases h2:qhu s i>122
    ·rw[qn h2,decide_eq_true h2];rfl
    ·rw[qo h2,decide_eq_false h2];rfl
  ·rw[qo (by exact_mod_cast h),if_neg h]
   simp only[qqn,q2o hX (show 1≤n by omega),qf]
 ·unfold qvk
  cases qz (fun i=>decide (qhu s i<97)||decide (qhu s i>122)) 0 s.size<;>rfl
def has (l:List Int) (x:Int):Bool:=qz (fun j=>decide (x=l.getD j 0)) 0 l.length
theorem qbuf {X:Ext} (hX:XOk X) {n:Nat} (hn:W+2≤n) (l:List Int) (x:Int) (hl:l.length≤maxLen):qkf (DD X n) l x=some ((has l x,()),()):=by
 obtain ⟨n,rfl⟩:∃ k,n=k+2:=⟨n - 2,by omega⟩
 have hd:=qj
 have hW:=qbo
 rw[q42 hX]
 simp only[qj4,qrj]
 have e:qnj (DD X (n+1)) l x=some ((match qbc (fun j=>decide (x=l.getD j 0)) 0 l.length with | some j=>(j:Int) | none=>-1,()),()):=by
  rw[q7z hX]
  simp only[qnl,qnn,qk1]
  refine Eq.trans (qyk (L:=fun m i=>qds (DD X n) n _ _ m l x l.length (i:Int)) (N:=l.length) (P:=fun j=>decide (x=l.getD j 0))
   (A:=fun j=>some (((j:Int),()),())) (B:=some ((-1,()),())) (fun m i hi=>?_) (m:=n) (by omega)) ?_
  ·simp only[qds,qlo]
   by_cases h:i<l.length
   ·rw[qn (by exact_mod_cast h),ix h,br_t,Int.toNat_natCast,qp (by omega),if_pos h];rfl
   ·rw[qo (by exact_mod_cast h),if_neg h];rfl
  ·cases qbc (fun j=>decide (x=l.getD j 0)) 0 l.length<;>rfl
 rw[e,qf]
 congr 3
 unfold has
 cases hf:qbc (fun j=>decide (x=l.getD j 0)) 0 l.length with
 | none=>
  have:=qtd hf
  rw[qez.2 this];rfl
 | some j=>
  obtain ⟨h1,h2,h3,_⟩:=qou hf
  rw[q2c.2 ⟨j,h1,h2,h3⟩]
  simp
def qe2 (n:Nat) (l:List Int) (most:Int):Bool:=!(qz (fun i=>!inR (l.getD i 0) 0 ((n:Int) - 1)||has (l.take i) (l.getD i 0)) 0 l.length)&&inR l.length 1 most
theorem q79 {X:Ext} (hX:XOk X) {n:Nat} (hn:W+3≤n) (s:List Col×List Int×List qdn×Unit) (l:List Int) (most:Int) (hc:s.1.length≤maxLen) (hl:l.length≤maxLen) :
  qrn (DD X n) s l most=some ((qe2 s.1.length l most,()),()):=by
 obtain ⟨n,rfl⟩:∃ k,n=k+1:=⟨n - 1,by omega⟩
 have hd:=qj
 have hW:=qbo
 rw[qbj7 hX]
 simp only[qyh,qy1,qt8]
 refine Eq.trans (qjc (L:=fun m i=>qic (DD X n) n _ _ m l most l l.length (i:Int) s) (N:=l.length) (P:=fun i=>!inR (l.getD i 0) 0 ((s.1.length:Int) - 1)||has (l.take i) (l.getD i 0))
  (A:=some ((false,()),())) (B:=some ((inR l.length 1 most,()),())) (fun m i hi=>?_) (m:=n) (by omega)) ?_
 ·simp only[qic,qv4]
  by_cases h:i<l.length
  ·have hc1:(decide ((0:Nat)≤0)&&decide ((0:Int)≤(i:Int))&&decide ((i:Int)≤(l.length:Int)))=true:=by
    rw[decide_eq_true (by omega),decide_eq_true (by omega),decide_eq_true (by omega)];rfl
   rw[qn (by exact_mod_cast h),ix h,br_t,q2r hX (show 1≤n by omega),qf,hc1,br_t,Int.toNat_natCast,qp (by omega),if_pos h,qcc (by omega) (by omega)]
   have ht:(List.drop (Int.toNat 0) (List.take i l))=l.take i:=rfl
   rw[ht,qbuf hX (by omega) _ _ (by rw[List.length_take];omega),qf]
   dsimp only
   cases inR (l.getD i 0) 0 ((s.1.length:Int) - 1)
   ·rfl
   ·cases has (l.take i) (l.getD i 0)<;>rfl
  ·rw[qo (by exact_mod_cast h),if_neg h]
   simp only[qr6,q2r hX (show 1≤n by omega),qf]
 ·unfold qe2
  cases qz (fun i=>!inR (l.getD i 0) 0 ((s.1.length:Int) - 1)||has (l.take i) (l.getD i 0)) 0 l.length<;>rfl
theorem qbw2 {l:List Int} {i:Nat} (hi:i≤l.length) (x:Int):has (l.take i) x=qz (fun k=>decide (l.getD k 0=x)) 0 i:=by
 unfold has
 rw[List.length_take,Nat.min_eq_left hi]
 refine qvv fun j _ h=>?_
 have e:(l.take i).getD j 0=l.getD j 0:=by
  simp only[List.getD,List.getElem?_take]
  rw[if_pos (by omega)]
 rw[e]
 by_cases h:x=l.getD j 0
 ·rw[decide_eq_true h,decide_eq_true h.symm]
 ·rw[decide_eq_false h,decide_eq_false fun k=>h k.symm]
theorem q9b {X:Ext} (hX:XOk X) {n:Nat} (hn:W+3≤n) (s:List Col×List Int×List qdn×Unit) (l:List Int) (most:Int) (hc:s.1.length≤maxLen) (hl:l.length≤maxLen) :
  qox (DD X n) s l most=some ((qe2 s.1.length l most,()),()):=by
 obtain ⟨n,rfl⟩:∃ k,n=k+1:=⟨n - 1,by omega⟩
 have hd:=qj
 have hW:=qbo
 rw[qbhl hX]
 simp only[qv0,qwi,qs9]
 refine Eq.trans (qjc (L:=fun m i=>qd6 (DD X n) n _ _ m l most (i:Int) s) (N:=l.length) (P:=fun i=>!inR (l.getD i 0) 0 ((s.1.length:Int) - 1)||has (l.take i) (l.getD i 0))
  (A:=some ((false,()),())) (B:=some ((inR l.length 1 most,()),())) (fun m i hi=>?_) (m:=n) (by omega)) ?_
 ·simp only[qd6,qva]
  by_cases h:i<l.length
  ·rw[qn (by exact_mod_cast h),ix h,br_t,q2o hX (show 1≤n by omega),qf,Int.toNat_natCast,if_pos h,qcc (by omega) (by omega)]
   dsimp only
   cases hin:inR (l.getD i 0) 0 ((s.1.length:Int) - 1)
   ·rfl
   ·rw[Bool.not_true,br_f,Bool.false_or,qbw2 (by omega)]
    simp only[qs4]
    refine Eq.trans (qjc (L:=fun q k=>qgz (DD X n) n _ _ q l most (i:Int) (k:Int) s) (N:=i) (P:=fun k=>decide (l.getD k 0=l.getD i 0))
     (A:=some ((false,()),())) (B:=qd6 (DD X n) n (fun v0_0 v0_1 v0_2=>qqw (DD X n) n v0_0 v0_1 v0_2) (fun v1_0 v1_1=>qla (DD X n) n v1_0 v1_1) m l most ((i+1:Nat):Int) s) (fun q k hk=>?_) (m:=n) (by omega)) rfl
    simp only[qgz,qt1]
    by_cases h2:k<i
    ·rw[qn (by exact_mod_cast h2),ix (i:=k) (by omega),br_t,ix h,br_t,Int.toNat_natCast,Int.toNat_natCast,qp (by omega),if_pos h2];rfl
    ·rw[qo (by exact_mod_cast h2),if_neg h2]
     simp only[qqp]
     rw[qp (by omega)]
  ·rw[qo (by exact_mod_cast h),if_neg h]
   simp only[qla,q2o hX (show 1≤n by omega),qf]
 ·unfold qe2
  cases qz (fun i=>!inR (l.getD i 0) 0 ((s.1.length:Int) - 1)||has (l.take i) (l.getD i 0)) 0 l.length<;>rfl
end Go.G

namespace Go.G
set_option maxRecDepth 100000
open Go Go.V Go.Proofs
theorem q6x (P:Nat→Bool) (n:Nat):decide ((match qbc P 0 n with | some j=>(j:Int) | none=>-1)≥0)=qz P 0 n:=by
 cases hf:qbc P 0 n with
 | none=>rw[qez.2 (qtd hf)];rfl
 | some j=>
  obtain ⟨h1,h2,h3,_⟩:=qou hf
  rw[q2c.2 ⟨j,h1,h2,h3⟩]
  simp
theorem qbxh {X:Ext} (hX:XOk X) {n:Nat} (hn:W+1≤n) (l:List (Col)) (hl:l.length≤maxLen) (c:Clo) (P:Nat→Bool)
  (hP:∀ i,i<l.length→qcd ctx (DD X (n - 1)) c [CapV.val (Ty.pair Ty.str (Ty.pair (Ty.int IntKind.i64) (Ty.pair Ty.bool Ty.unit))) (l.getD i (ByteArray.empty,0,false,()))] Ty.bool=some (P i)) :
  qes (DD X n) l c=some ((match qbc P 0 l.length with | some j=>(j:Int) | none=>-1,()),()):=by
 obtain ⟨n,rfl⟩:∃ k,n=k+1:=⟨n - 1,by omega⟩
 have hd:=qj
 have hW:=qbo
 rw[qr7 hX]
 simp only[qew,qet,qed]
 refine Eq.trans (qyk (L:=fun m i=>qb2 (DD X n) n c _ _ m l l.length (i:Int)) (N:=l.length) (P:=P)
  (A:=fun j=>some (((j:Int),()),())) (B:=some ((-1,()),())) (fun m i hi=>?_) (m:=n) (by omega)) ?_
 ·simp only[qb2,qeg]
  by_cases h:i<l.length
  ·have hp:qcd ctx (DD X n) c [CapV.val (Ty.pair Ty.str (Ty.pair (Ty.int IntKind.i64) (Ty.pair Ty.bool Ty.unit))) (l.getD i (ByteArray.empty,0,false,()))] Ty.bool=some (P i):=hP i h
   rw[qn (by exact_mod_cast h),ix h,br_t,Int.toNat_natCast,hp,qf,qp (by omega),if_pos h];rfl
  ·rw[qo (by exact_mod_cast h),if_neg h];rfl
 ·cases qbc P 0 l.length<;>rfl
theorem qbtu {X:Ext} (hX:XOk X) {n:Nat} (hn:W+1≤n) (l:List (qdn)) (hl:l.length≤maxLen) (c:Clo) (P:Nat→Bool)
  (hP:∀ i,i<l.length→qcd ctx (DD X (n - 1)) c [CapV.val (Ty.pair Ty.str (Ty.pair (Ty.sl (Ty.int IntKind.i64)) (Ty.pair Ty.bool Ty.unit))) (l.getD i (ByteArray.empty,[],false,()))] Ty.bool=some (P i)) :
  qdv (DD X n) l c=some ((match qbc P 0 l.length with | some j=>(j:Int) | none=>-1,()),()):=by
 obtain ⟨n,rfl⟩:∃ k,n=k+1:=⟨n - 1,by omega⟩
 have hd:=qj
 have hW:=qbo
 rw[qpl hX]
 simp only[qdu,qd0,qdm]
 refine Eq.trans (qyk (L:=fun m i=>qbq (DD X n) n c _ _ m l l.length (i:Int)) (N:=l.length) (P:=P)
  (A:=fun j=>some (((j:Int),()),())) (B:=some ((-1,()),())) (fun m i hi=>?_) (m:=n) (by omega)) ?_
 ·simp only[qbq,qdo]
  by_cases h:i<l.length
  ·have hp:qcd ctx (DD X n) c [CapV.val (Ty.pair Ty.str (Ty.pair (Ty.sl (Ty.int IntKind.i64)) (Ty.pair Ty.bool Ty.unit))) (l.getD i (ByteArray.empty,[],false,()))] Ty.bool=some (P i):=hP i h
   rw[qn (by exact_mod_cast h),ix h,br_t,Int.toNat_natCast,hp,qf,qp (by omega),if_pos h];rfl
  ·rw[qo (by exact_mod_cast h),if_neg h];rfl
 ·cases qbc P 0 l.length<;>rfl
theorem qbxf {X:Ext} (hX:XOk X) {n:Nat} (hn:W+1≤n) (l:List (Int)) (hl:l.length≤maxLen) (c:Clo) (P:Nat→Bool)
  (hP:∀ i,i<l.length→qcd ctx (DD X (n - 1)) c [CapV.val (Ty.int IntKind.i64) (l.getD i 0)] Ty.bool=some (P i)) :
  qjv (DD X n) l c=some ((match qbc P 0 l.length with | some j=>(j:Int) | none=>-1,()),()):=by
 obtain ⟨n,rfl⟩:∃ k,n=k+1:=⟨n - 1,by omega⟩
 have hd:=qj
 have hW:=qbo
 rw[q3z hX]
 simp only[qju,qjt,qh1]
 refine Eq.trans (qyk (L:=fun m i=>qc7 (DD X n) n c _ _ m l l.length (i:Int)) (N:=l.length) (P:=P)
  (A:=fun j=>some (((j:Int),()),())) (B:=some ((-1,()),())) (fun m i hi=>?_) (m:=n) (by omega)) ?_
 ·simp only[qc7,qi5]
  by_cases h:i<l.length
  ·have hp:qcd ctx (DD X n) c [CapV.val (Ty.int IntKind.i64) (l.getD i 0)] Ty.bool=some (P i):=hP i h
   rw[qn (by exact_mod_cast h),ix h,br_t,Int.toNat_natCast,hp,qf,qp (by omega),if_pos h];rfl
  ·rw[qo (by exact_mod_cast h),if_neg h];rfl
 ·cases qbc P 0 l.length<;>rfl
theorem qbid {X:Ext} (hX:XOk X) {n:Nat} (hn:W+1≤n) (l:List (List Value)) (hl:l.length≤maxLen) (c:Clo) (P:Nat→Bool)
  (hP:∀ i,i<l.length→qcd ctx (DD X (n - 1)) c [CapV.val (Ty.sl (Ty.pair (Ty.int IntKind.i64) (Ty.pair (Ty.int IntKind.i64) (Ty.pair Ty.str Ty.unit)))) (l.getD i [])] Ty.bool=some (P i)) :
  qce (DD X n) l c=some ((match qbc P 0 l.length with | some j=>(j:Int) | none=>-1,()),()):=by
 obtain ⟨n,rfl⟩:∃ k,n=k+1:=⟨n - 1,by omega⟩
 have hd:=qj
 have hW:=qbo
 rw[qo7 hX]
 simp only[qdz,qdy,qdl]
 refine Eq.trans (qyk (L:=fun m i=>qbr (DD X n) n c _ _ m l l.length (i:Int)) (N:=l.length) (P:=P)
  (A:=fun j=>some (((j:Int),()),())) (B:=some ((-1,()),())) (fun m i hi=>?_) (m:=n) (by omega)) ?_
 ·simp only[qbr,qdp]
  by_cases h:i<l.length
  ·have hp:qcd ctx (DD X n) c [CapV.val (Ty.sl (Ty.pair (Ty.int IntKind.i64) (Ty.pair (Ty.int IntKind.i64) (Ty.pair Ty.str Ty.unit)))) (l.getD i [])] Ty.bool=some (P i):=hP i h
   rw[qn (by exact_mod_cast h),ix h,br_t,Int.toNat_natCast,hp,qf,qp (by omega),if_pos h];rfl
  ·rw[qo (by exact_mod_cast h),if_neg h];rfl
 ·cases qbc P 0 l.length<;>rfl
theorem qbgy {X:Ext} (hX:XOk X) {n:Nat} (hn:W+2≤n) (l:List (qdn)) (hl:l.length≤maxLen) (c:Clo) (P:Nat→Bool)
  (hP:∀ i,i<l.length→qcd ctx (DD X (n - 2)) c [CapV.val (Ty.pair Ty.str (Ty.pair (Ty.sl (Ty.int IntKind.i64)) (Ty.pair Ty.bool Ty.unit))) (l.getD i (ByteArray.empty,[],false,()))] Ty.bool=some (P i)) :
  qcp (DD X n) l c=some ((qz P 0 l.length,()),()):=by
 obtain ⟨n,rfl⟩:∃ k,n=k+1:=⟨n - 1,by omega⟩
 rw[qn1 hX]
 simp only[qdg,qfr]
 rw[qbtu hX (n:=n) (by omega) l hl c P (fun i h=>hP i h),qf]
 congr 3
 exact q6x P l.length
theorem qbv1 {X:Ext} (hX:XOk X) {n:Nat} (hn:W+2≤n) (l:List (Int)) (hl:l.length≤maxLen) (c:Clo) (P:Nat→Bool)
  (hP:∀ i,i<l.length→qcd ctx (DD X (n - 2)) c [CapV.val (Ty.int IntKind.i64) (l.getD i 0)] Ty.bool=some (P i)) :
  qhq (DD X n) l c=some ((qz P 0 l.length,()),()):=by
 obtain ⟨n,rfl⟩:∃ k,n=k+1:=⟨n - 1,by omega⟩
 rw[qzx hX]
 simp only[qhr,qnq]
 rw[qbxf hX (n:=n) (by omega) l hl c P (fun i h=>hP i h),qf]
 congr 3
 exact q6x P l.length
theorem qbn6 {X:Ext} (hX:XOk X) {n:Nat} (hn:W+2≤n) (l:List (List Value)) (hl:l.length≤maxLen) (c:Clo) (P:Nat→Bool)
  (hP:∀ i,i<l.length→qcd ctx (DD X (n - 2)) c [CapV.val (Ty.sl (Ty.pair (Ty.int IntKind.i64) (Ty.pair (Ty.int IntKind.i64) (Ty.pair Ty.str Ty.unit)))) (l.getD i [])] Ty.bool=some (P i)) :
  qbn (DD X n) l c=some ((qz P 0 l.length,()),()):=by
 obtain ⟨n,rfl⟩:∃ k,n=k+1:=⟨n - 1,by omega⟩
 rw[qnw hX]
 simp only[qdh,qfs]
 rw[qbid hX (n:=n) (by omega) l hl c P (fun i h=>hP i h),qf]
 congr 3
 exact q6x P l.length
end Go.G

namespace Go.G
set_option maxRecDepth 100000
open Go Go.V Go.Proofs
abbrev qck:Ty:=.pair (.sl ColT) (.pair (.sl (.int .i64)) (.pair (.sl qbz) .unit))
abbrev qb7:=List Col×List Int×List qdn×Unit
def M:Nat:=4194304
theorem qcv:M=4194304:=rfl
structure SchSm (s:qb7):Prop where
 cols:s.1.length≤M
 names:∀ c∈s.1,c.1.size≤M
 key:s.2.1.length≤M
 ixs:s.2.2.1.length≤M
 ixn:∀ x∈s.2.2.1,x.1.size≤M
 ixc:∀ x∈s.2.2.1,x.2.1.length≤M
abbrev cd:Col:=(ByteArray.empty,0,false,())
abbrev xd:qdn:=(ByteArray.empty,[],false,())
theorem qc5 {α:Type} {l:List α} {i:Nat} {d:α} (h:i<l.length):l.getD i d∈l:=by rw[q7 h];exact List.getElem_mem _
def qbpm (cs:List Col) (name:ByteArray):Int:=match qbc (fun i=>decide ((cs.getD i cd).1=name)) 0 cs.length with | some j=>(j:Int) | none=>-1
theorem qbvd (D:Den ctx) (name:ByteArray) (x:Col):qcd ctx D (Clo.mk 196 [CapV.rptr Ty.str name]) [CapV.val (Ty.pair Ty.str (Ty.pair (Ty.int IntKind.i64) (Ty.pair Ty.bool Ty.unit))) x] Ty.bool=(q89 D x name).bind fun r=>some r.1.1:=by kernel_rfl
theorem qbr8 {X:Ext} (hX:XOk X) {n:Nat} (hn:W+3≤n) (s:qb7) (hs:SchSm s) (name:ByteArray):q5r (DD X n) s name=some ((qbpm s.1 name,()),()):=by
 obtain ⟨n,rfl⟩:∃ k,n=k+1:=⟨n - 1,by omega⟩
 have hd:=qj
 have hM:=qcv
 have:=hs.cols
 rw[qbqb hX]
 simp only[q5v,qbdw]
 rw[qbxh hX (n:=n) (by omega) s.1 (by omega) _ (fun i=>decide ((s.1.getD i cd).1=name)) (fun i h=>by
  obtain ⟨n,rfl⟩:∃ k,n=k+2:=⟨n - 2,by omega⟩
  rw[qbvd]
  rw[show n+2 - 1=n+1 from rfl,qbm9 hX]
  simp only[q1e,q9h,Option.bind_some,qf9]),qf]
 rfl
theorem qbsh {X:Ext} (hX:XOk X) {n:Nat} (hn:W+1≤n) (s:qb7) (hs:SchSm s) (name:ByteArray):q6a (DD X n) s name=some ((qbpm s.1 name,()),()):=by
 obtain ⟨n,rfl⟩:∃ k,n=k+1:=⟨n - 1,by omega⟩
 have hd:=qj
 have hW:=qbo
 have hM:=qcv
 have:=hs.cols
 rw[qbr2 hX]
 simp only[q6n,q6f,q1i]
 refine Eq.trans (qyk (L:=fun m i=>qlx (DD X n) n _ _ m name (i:Int) s) (N:=s.1.length) (P:=fun i=>decide ((s.1.getD i cd).1=name))
  (A:=fun j=>some (((j:Int),()),())) (B:=some ((-1,()),())) (fun m i hi=>?_) (m:=n) (by omega)) ?_
 ·simp only[qlx,q24]
  by_cases h:i<s.1.length
  ·rw[qn (by exact_mod_cast h),ix h,br_t,Int.toNat_natCast,qp (by omega),if_pos h,qf9];rfl
  ·rw[qo (by exact_mod_cast h),if_neg h];rfl
 ·unfold qbpm
  cases qbc (fun i=>decide ((s.1.getD i cd).1=name)) 0 s.1.length<;>rfl
def q6s (cs:List Col) (i:Nat):Bool:=!qvk (cs.getD i cd).1||(!inR (cs.getD i cd).2.1 1 3||!decide (qbpm cs (cs.getD i cd).1=(i:Int)))
def qvs (nc:Nat) (xs:List qdn) (i:Nat):Bool:=!qvk (xs.getD i xd).1||(!qe2 nc (xs.getD i xd).2.1 3||qz (fun k=>decide ((xs.getD k xd).1=(xs.getD i xd).1)) 0 i)
def q5a (cs:List Col) (key:List Int):Bool:=qz (fun j=>(cs.getD (key.getD j 0).toNat cd).2.2.1) 0 key.length
def qky (s:qb7):Bool:=
 !qz (q6s s.1) 0 s.1.length&&(!qz (qvs s.1.length s.2.2.1) 0 s.2.2.1.length&&(inR s.1.length 1 5&&(qe2 s.1.length s.2.1 4&&(!q5a s.1 s.2.1&&decide ((s.2.2.1.length:Int)≤3)))))
theorem qbod {n:Nat} {l:List Int} {most:Int} (h:qe2 n l most=true) {j:Nat} (hj:j<l.length):0≤l.getD j 0∧l.getD j 0<n:=by
 simp only[qe2,Bool.and_eq_true,Bool.not_eq_true'] at h
 have:=qez.1 h.1 j (by omega) (by omega)
 simp only[Bool.or_eq_false_iff,Bool.not_eq_false',inR,Bool.and_eq_true,decide_eq_true_eq] at this
 omega
theorem qxd (a b:Int):(a != b)=!decide (a=b):=by by_cases h:a=b<;>simp[h]
theorem qbul (D:Den ctx) (y x:qdn):qcd ctx D (Clo.mk 149 [CapV.rptr (Ty.pair Ty.str (Ty.pair (Ty.sl (Ty.int IntKind.i64)) (Ty.pair Ty.bool Ty.unit))) y]) [CapV.val (Ty.pair Ty.str (Ty.pair (Ty.sl (Ty.int IntKind.i64)) (Ty.pair Ty.bool Ty.unit))) x] Ty.bool=(q32 D x y).bind fun r=>some r.1.1:=by kernel_rfl
theorem qbsa (D:Den ctx) (s:qb7) (x:Int):qcd ctx D (Clo.mk 151 [CapV.rptr (Ty.pair (Ty.sl (Ty.pair Ty.str (Ty.pair (Ty.int IntKind.i64) (Ty.pair Ty.bool Ty.unit)))) (Ty.pair (Ty.sl (Ty.int IntKind.i64)) (Ty.pair (Ty.sl (Ty.pair Ty.str (Ty.pair (Ty.sl (Ty.int IntKind.i64)) (Ty.pair Ty.bool Ty.unit)))) Ty.unit))) s]) [CapV.val (Ty.int IntKind.i64) x] Ty.bool=(q37 D x s).bind fun r=>some r.1.1:=by kernel_rfl
theorem q8c {X:Ext} (hX:XOk X) {n:Nat} (hn:W+5≤n) (s:qb7) (hs:SchSm s):qrf (DD X n) s=some ((qky s,()),()):=by
 obtain ⟨n,rfl⟩:∃ k,n=k+1:=⟨n - 1,by omega⟩
 have hd:=qj
 have hW:=qbo
 have hM:=qcv
 have h1:=hs.cols
 have h2:=hs.ixs
 have h3:=hs.key
 rw[qbk5 hX]
 simp only[qyz,qzk,qu3]
 refine Eq.trans (qjc (L:=fun m i=>qia (DD X n) n _ _ m s.1 s.1.length (i:Int) s) (N:=s.1.length) (P:=q6s s.1)
  (A:=some ((false,()),())) (B:=br (qz (qvs s.1.length s.2.2.1) 0 s.2.2.1.length) (some ((false,()),())) (some ((inR s.1.length 1 5&&(qe2 s.1.length s.2.1 4&&(!q5a s.1 s.2.1&&decide ((s.2.2.1.length:Int)≤3))),()),()))) (fun m i hi=>?_) (m:=n) (by omega)) ?_
 ·simp only[qia,qwb]
  by_cases h:i<s.1.length
  ·have hsz:=hs.names _ (qc5 (d:=cd) h)
   rw[qn (by exact_mod_cast h),ix h,br_t,Int.toNat_natCast,qbdo hX (by omega) _ (Nat.le_trans hsz (by omega)),qf,q2r hX (by omega),qf,qbr8 hX (by omega) s hs,qf,qp (by omega),if_pos h,qxd]
   dsimp only[q6s]
   cases qvk (s.1.getD i cd).1
   ·rfl
   ·cases inR (s.1.getD i cd).2.1 1 3
    ·rfl
    ·rw[Bool.not_true,br_f,br_f,Bool.false_or,Bool.false_or];rfl
  ·rw[qo (by exact_mod_cast h),if_neg h]
   simp only[qsv,quu]
   refine (qjc (L:=fun m i=>qib (DD X n) n _ _ m s.2.2.1 s.2.2.1.length (i:Int) s) (N:=s.2.2.1.length) (P:=qvs s.1.length s.2.2.1)
    (A:=some ((false,()),())) (B:=some ((inR s.1.length 1 5&&(qe2 s.1.length s.2.1 4&&(!q5a s.1 s.2.1&&decide ((s.2.2.1.length:Int)≤3))),()),())) (fun m i hi=>?_) (m:=n) (by omega))
   simp only[qib,qv9]
   by_cases h:i<s.2.2.1.length
   ·have hm:=qc5 (d:=xd) h
    have hsz:=hs.ixn _ hm
    have hsl:=hs.ixc _ hm
    have hc1:(decide ((0:Nat)≤0)&&decide ((0:Int)≤(i:Int))&&decide ((i:Int)≤(s.2.2.1.length:Int)))=true:=by
     rw[decide_eq_true (by omega),decide_eq_true (by omega),decide_eq_true (by omega)];rfl
    have hlen:(s.2.2.1.take i).length=i:=by rw[List.length_take];omega
    rw[qn (by exact_mod_cast h),ix h,br_t,Int.toNat_natCast,qbdo hX (by omega) _ (Nat.le_trans hsz (by omega)),qf,q79 hX (by omega) s _ _ (by omega) (Nat.le_trans hsl (by omega)),qf,hc1,br_t,qp (by omega),if_pos h]
    have ht:(List.drop (Int.toNat 0) (List.take i s.2.2.1))=s.2.2.1.take i:=rfl
    rw[ht,qbgy hX (n:=n) (by omega) _ (by omega) _ (fun k=>decide ((s.2.2.1.getD k xd).1=(s.2.2.1.getD i xd).1)) (fun k hk=>by
     rw[hlen] at hk
     obtain ⟨n,rfl⟩:∃ k,n=k+3:=⟨n - 3,by omega⟩
     rw[qbul,show n+3 - 2=n+1 from rfl,qbf3 hX]
     have e:(s.2.2.1.take i).getD k xd=s.2.2.1.getD k xd:=by
      simp only[List.getD,List.getElem?_take]
      rw[if_pos hk]
     simp only[quf,q4v,Option.bind_some,qf9,e]),qf,hlen]
    dsimp only[qvs]
    cases qvk (s.2.2.1.getD i xd).1
    ·rfl
    ·cases qe2 s.1.length (s.2.2.1.getD i xd).2.1 3
     ·rfl
     ·rw[Bool.not_true,br_f,br_f,Bool.false_or,Bool.false_or];rfl
   ·rw[qo (by exact_mod_cast h),if_neg h]
    simp only[qs8]
    rw[q2r hX (by omega),qf,q79 hX (by omega) s _ _ (by omega) (by omega),qf]
    dsimp only
    cases inR s.1.length 1 5
    ·rfl
    ·rw[br_t,Bool.true_and]
     cases hp:qe2 s.1.length s.2.1 4
     ·rfl
     ·rw[br_t,Bool.true_and,qbv1 hX (n:=n) (by omega) s.2.1 (by omega) _ (fun j=>(s.1.getD (s.2.1.getD j 0).toNat cd).2.2.1) (fun k hk=>by
       obtain ⟨n,rfl⟩:∃ k,n=k+3:=⟨n - 3,by omega⟩
       obtain ⟨p1,p2⟩:=qbod hp hk
       rw[qbsa,show n+3 - 2=n+1 from rfl,qbfg hX]
       simp only[quc,q4y]
       rw[ixn p1 p2,br_t];rfl),qf,qjs]
      rfl
 ·unfold qky
  cases qz (q6s s.1) 0 s.1.length
  ·cases qz (qvs s.1.length s.2.2.1) 0 s.2.2.1.length<;>rfl
  ·rfl
theorem qbpl {X:Ext} (hX:XOk X) {n:Nat} (hn:W+4≤n) (s:qb7) (hs:SchSm s):qur (DD X n) s=some ((!qz (qvs s.1.length s.2.2.1) 0 s.2.2.1.length&&decide ((s.2.2.1.length:Int)≤3),()),()):=by
 obtain ⟨n,rfl⟩:∃ k,n=k+1:=⟨n - 1,by omega⟩
 have hd:=qj
 have hW:=qbo
 have hM:=qcv
 have h1:=hs.cols
 have h2:=hs.ixs
 rw[qbfz hX]
 simp only[qu0,quz,qq0]
 refine Eq.trans (qjc (L:=fun m i=>qdr (DD X n) n _ _ m (i:Int) s) (N:=s.2.2.1.length) (P:=qvs s.1.length s.2.2.1)
  (A:=some ((false,()),())) (B:=some ((decide ((s.2.2.1.length:Int)≤3),()),())) (fun m i hi=>?_) (m:=n) (by omega)) ?_
 ·simp only[qdr,qs3]
  by_cases h:i<s.2.2.1.length
  ·have hm:=qc5 (d:=xd) h
   have hsz:=hs.ixn _ hm
   have hsl:=hs.ixc _ hm
   rw[qn (by exact_mod_cast h),ix h,br_t,Int.toNat_natCast,qbdj hX (by omega) _ (Nat.le_trans hsz (by omega)),qf,q9b hX (by omega) s _ _ (by omega) (Nat.le_trans hsl (by omega)),qf,if_pos h]
   dsimp only[qvs]
   cases qvk (s.2.2.1.getD i xd).1
   ·rfl
   ·cases qe2 s.1.length (s.2.2.1.getD i xd).2.1 3
    ·rfl
    ·rw[Bool.not_true,br_f,br_f,Bool.false_or,Bool.false_or]
     simp only[qqr]
     refine Eq.trans (qjc (L:=fun q k=>qf7 (DD X n) n _ _ q (i:Int) (k:Int) s (s.2.2.1.getD i xd)) (N:=i) (P:=fun k=>decide ((s.2.2.1.getD k xd).1=(s.2.2.1.getD i xd).1))
      (A:=some ((false,()),())) (B:=qdr (DD X n) n (fun v0_0 v0_1=>qps (DD X n) n v0_0 v0_1) (fun v1_0=>qpb (DD X n) n v1_0) m ((i+1:Nat):Int) s) (fun q k hk=>?_) (m:=n) (by omega)) rfl
     simp only[qf7,qsw]
     by_cases h2:k<i
     ·rw[qn (by exact_mod_cast h2),ix (i:=k) (by omega),br_t,Int.toNat_natCast,qp (by omega),if_pos h2,qf9];rfl
     ·rw[qo (by exact_mod_cast h2),if_neg h2]
      simp only[qo2]
      rw[qp (by omega)]
  ·rw[qo (by exact_mod_cast h),if_neg h];rfl
 ·cases qz (qvs s.1.length s.2.2.1) 0 s.2.2.1.length<;>rfl
theorem q8o {X:Ext} (hX:XOk X) {n:Nat} (hn:W+5≤n) (s:qb7) (hs:SchSm s):qrl (DD X n) s=some ((qky s,()),()):=by
 obtain ⟨n,rfl⟩:∃ k,n=k+1:=⟨n - 1,by omega⟩
 have hd:=qj
 have hW:=qbo
 have hM:=qcv
 have h1:=hs.cols
 have h2:=hs.ixs
 have h3:=hs.key
 rw[qbmb hX]
 simp only[qxs,qye,qve]
 refine Eq.trans (qjc (L:=fun m i=>qiu (DD X n) n _ _ m (i:Int) s) (N:=s.1.length) (P:=q6s s.1)
  (A:=some ((false,()),())) (B:=some ((inR s.1.length 1 5&&(qe2 s.1.length s.2.1 4&&((!qz (qvs s.1.length s.2.2.1) 0 s.2.2.1.length&&decide ((s.2.2.1.length:Int)≤3))&&!q5a s.1 s.2.1)),()),())) (fun m i hi=>?_) (m:=n) (by omega)) ?_
 ·simp only[qiu,qwe]
  by_cases h:i<s.1.length
  ·have hsz:=hs.names _ (qc5 (d:=cd) h)
   rw[qn (by exact_mod_cast h),ix h,br_t,br_t,br_t,Int.toNat_natCast,qbdj hX (by omega) _ (Nat.le_trans hsz (by omega)),qf,q2o hX (by omega),qf,qbsh hX (by omega) s hs,qf,qp (by omega),if_pos h,qxd]
   dsimp only[q6s]
   cases qvk (s.1.getD i cd).1
   ·rfl
   ·cases inR (s.1.getD i cd).2.1 1 3
    ·rfl
    ·rw[Bool.not_true,br_f,br_f,Bool.false_or,Bool.false_or];rfl
  ·rw[qo (by exact_mod_cast h),if_neg h]
   simp only[qsx,qty]
   rw[q2o hX (by omega),qf,q9b hX (by omega) s _ _ (by omega) (by omega),qf,qbpl hX (by omega) s hs,qf]
   dsimp only
   cases inR s.1.length 1 5
   ·rfl
   ·cases hp:qe2 s.1.length s.2.1 4
    ·rfl
    ·cases (!qz (qvs s.1.length s.2.2.1) 0 s.2.2.1.length&&decide ((s.2.2.1.length:Int)≤3))
     ·rfl
     ·simp only[Bool.not_true,br_f,Bool.true_and]
      refine Eq.trans (qjc (L:=fun m i=>qip (DD X n) n _ _ m (i:Int) s) (N:=s.2.1.length) (P:=fun j=>(s.1.getD (s.2.1.getD j 0).toNat cd).2.2.1)
       (A:=some ((false,()),())) (B:=some ((true,()),())) (fun m i hi=>?_) (m:=n) (by omega)) ?_
      ·simp only[qip,qws]
       by_cases h:i<s.2.1.length
       ·obtain ⟨p1,p2⟩:=qbod hp h
        rw[qn (by exact_mod_cast h),ix h,br_t,Int.toNat_natCast,ixn p1 p2,br_t,qp (by omega),if_pos h];rfl
       ·rw[qo (by exact_mod_cast h),if_neg h];rfl
      ·unfold q5a
       cases qz (fun j=>(s.1.getD (s.2.1.getD j 0).toNat cd).2.2.1) 0 s.2.1.length<;>rfl
 ·unfold qky
  cases qz (q6s s.1) 0 s.1.length<;>cases qz (qvs s.1.length s.2.2.1) 0 s.2.2.1.length<;>cases inR s.1.length 1 5<;>cases qe2 s.1.length s.2.1 4<;>cases q5a s.1 s.2.1<;>simp[br]
end Go.G

namespace Go.G
open Go Go.V Go.Proofs
instance decCols:DecidableEq (List Col):=inferInstance
instance decIxs:DecidableEq (List qdn):=inferInstance
instance decSchema:DecidableEq qb7:=fun a b=>@instDecidableEqProd _ _ decCols (@instDecidableEqProd _ _ inferInstance (@instDecidableEqProd _ _ decIxs inferInstance)) a b
theorem qbkl (a:qb7):tot qck a=tot (.sl ColT) a.1+(tot qdb a.2.1+(tot (.sl qbz) a.2.2.1+0)):=rfl
theorem qbyf (a:Col):tot ColT a=a.1.size:=rfl
theorem qbn8 (a:qdn):tot qbz a=a.1.size+a.2.1.length:=by
 have h:tot qbz a=a.1.size+(tot qdb a.2.1+(0+0)):=rfl
 rw[h,q59];omega
theorem qbxs {s:qb7} (h:tot qck s≤M):SchSm s:=by
 rw[qbkl,q59] at h
 have h1:=qoq (t:=ColT) s.1
 have h2:=qoq (t:=qbz) s.2.2.1
 refine ⟨by omega,fun c hc=>?_,by omega,by omega,fun x hx=>?_,fun x hx=>?_⟩
 ·have:=q5d (t:=ColT) hc
  rw[qbyf] at this;omega
 ·have:=q5d (t:=qbz) hx
  rw[qbn8] at this;omega
 ·have:=q5d (t:=qbz) hx
  rw[qbn8] at this;omega
theorem qbub {X:Ext} (hX:XOk X) {n:Nat} (hn:W+4≤n) (a:qb7) (ha:Fit qbl qck a):qy6 (DD X n) a=some ((a,()),()):=by
 obtain ⟨n,rfl⟩:∃ k,n=k+1:=⟨n - 1,by omega⟩
 rw[qbkj hX]
 simp only[qya,q7p]
 rw[qbxa hX (by omega) _ ha.1,qf,qbrn hX (by omega) _ ha.2.1.1,qf,qbtv hX (by omega) _ ha.2.2.1,qf]
theorem qbt5 {X:Ext} (hX:XOk X) {n:Nat} (hn:W+4≤n) (a b:qb7) (hb:Fit maxLen qck b):qy9 (DD X n) a b=some ((decide (a=b),()),()):=by
 obtain ⟨n,rfl⟩:∃ k,n=k+1:=⟨n - 1,by omega⟩
 rw[qbi6 hX]
 simp only[qzr,q63]
 rw[qbxi hX (by omega) _ _ hb.1,qf,qbrx hX (by omega) _ _ hb.2.1.1,qf,qbtr hX (by omega) _ _ hb.2.2.1,qf]
 obtain ⟨a1,a2,a3,⟨⟩⟩:=a
 obtain ⟨b1,b2,b3,⟨⟩⟩:=b
 by_cases h1:a1=b1<;>by_cases h2:a2=b2<;>by_cases h3:a3=b3<;>simp[h1,h2,h3,br]
theorem qbuk {X:Ext} (hX:XOk X) {n:Nat} (hn:W+4≤n) (a:qb7) (k:Int) (ha:Wf qck a) (hk:0≤k∧k≤maxLen):qyv (DD X n) a k=some ((left qck a k,()),()):=by
 obtain ⟨n,rfl⟩:∃ k,n=k+1:=⟨n - 1,by omega⟩
 have hd:=qj
 have ht:=qbkl a
 rw[qbks hX]
 simp only[qys,q7f]
 rw[qbxg hX (by omega) _ _ ha.1 hk,qf];dsimp only
 by_cases h:left (.sl ColT) a.1 k<0
 ·rw[qn h,qeb]
  intro h3
  rw[qdw (by omega)] at h
  omega
 ·obtain ⟨e1,e2⟩:=qfl h hk.1
  rw[qo h,e1,qbrj hX (by omega) _ _ ha.2.1.1 (by omega),qf];dsimp only
  by_cases h:left qdb a.2.1 (k - tot (.sl ColT) a.1)<0
  ·rw[qn h,qeb]
   intro h3
   rw[qdw (by omega)] at h
   omega
  ·obtain ⟨e3,e4⟩:=qfl h (by omega)
   rw[qo h,e3,qbty hX (by omega) _ _ ha.2.2.1 (by omega),qf];dsimp only
   by_cases h:left (.sl qbz) a.2.2.1 (k - tot (.sl ColT) a.1 - tot qdb a.2.1)<0
   ·rw[qn h,qeb]
    intro h3
    rw[qdw (by omega)] at h
    omega
   ·obtain ⟨e5,e6⟩:=qfl h (by omega)
    rw[qo h,e5,qdw (by omega)]
    congr 3;omega
theorem qbp6 {X:Ext} (hX:XOk X) {n:Nat} (hn:W+3≤n) (a:qb7) (k:Int) (ha:Fit maxLen qck a) (hk:0≤k) (h:k+cnt qck a≤maxLen) :
  qud (DD X n) a k=some (((mkT qck k a).1,()),((mkT qck k a).2,())):=by
 obtain ⟨n,rfl⟩:∃ k,n=k+1:=⟨n - 1,by omega⟩
 have hc:cnt qck a=cnt (.sl ColT) a.1+(cnt qdb a.2.1+(cnt (.sl qbz) a.2.2.1+0)):=rfl
 have h1:=qde (.sl ColT) k a.1
 have h2:=qde qdb (mkT (.sl ColT) k a.1).1 a.2.1
 rw[qbgb hX]
 simp only[qua,q4p]
 rw[qbtt hX (by omega) _ _ ha.1.1 hk (by omega),qf];dsimp only
 rw[qbjp hX (by omega) _ _ (by omega) (by omega),qf];dsimp only
 rw[qbqr hX (by omega) _ _ ha.2.2.1.1 (by omega) (by omega),qf]
 rfl
theorem qbq1 {X:Ext} (hX:XOk X) {n:Nat} (hn:W+3≤n) (a:qb7) (k:Int) (ha:Fit maxLen qck a) (hk:0≤k) (h:k+cnt qck a≤maxLen) :
  qn6 (DD X n) (mkT qck k a).2 k=some (((mkT qck k a).1,()),()):=by
 obtain ⟨n,rfl⟩:∃ k,n=k+1:=⟨n - 1,by omega⟩
 have hc:cnt qck a=cnt (.sl ColT) a.1+(cnt qdb a.2.1+(cnt (.sl qbz) a.2.2.1+0)):=rfl
 have h1:=qde (.sl ColT) k a.1
 have h2:=qde qdb (mkT (.sl ColT) k a.1).1 a.2.1
 have h3:=qde (.sl qbz) (mkT qdb (mkT (.sl ColT) k a.1).1 a.2.1).1 a.2.2.1
 rw[qbgm hX]
 simp only[qun,q4g,mkT]
 have e1:=qbtp hX (n:=n) (by omega) a.1 k ha.1.1 hk (by omega)
 have e2:=qbjl hX (n:=n) (by omega) a.2.1 (mkT (.sl ColT) k a.1).1 (by omega) (by omega)
 have e3:=qbrm hX (n:=n) (by omega) a.2.2.1 (mkT qdb (mkT (.sl ColT) k a.1).1 a.2.1).1 ha.2.2.1.1 (by omega) (by omega)
 simp only[mkT] at e1 e2 e3 h1 h2 h3
 rw[e1,qf];dsimp only
 rw[qo (by omega),e2,qf];dsimp only
 rw[qo (by omega),e3,qf];dsimp only
 rw[qo (by omega)]
theorem fitB {t:Ty} {a:t.den} (h:(tot t a:Int)≤1048576):Fit qbl t a:=qtq (by have:=qdi;omega)
theorem fitM {t:Ty} {a:t.den} (h:(tot t a:Int)≤1048576):Fit maxLen t a:=qtq (by have:=qj;omega)
end Go.G

namespace Go.G
set_option maxRecDepth 100000
open Go Go.V Go.Proofs
abbrev vd:Value:=(0,0,ByteArray.empty,())
abbrev Row:=List Value
def qs (row:Row) (cols:List Int):Row:=(cols.filter fun c=>inR c 0 ((row.length:Int) - 1)).map fun c=>row.getD c.toNat vd
theorem qkh (row:Row) (cols:List Int):(qs row cols).length≤cols.length:=by
 unfold qs;rw[List.length_map];exact List.length_filter_le _ _
theorem qbd3 (row:Row) (c:Int) (cols:List Int):qs row (c::cols)=if inR c 0 ((row.length:Int) - 1)=true then row.getD c.toNat vd::qs row cols else qs row cols:=by
 unfold qs
 rw[List.filter_cons]
 split<;>simp
theorem qbpw {c:Int} {n:Nat} (h:inR c 0 ((n:Int) - 1)=true):0≤c∧c<n:=by
 simp only[inR,Bool.and_eq_true,decide_eq_true_eq] at h;omega
theorem q3d {X:Ext} (hX:XOk X) (N n:Nat) (hN:1≤N) (K:Row→Option ((Row×Unit)×Unit)) (row:Row) (hr:row.length≤M) (cols:List Int) (hc:cols.length≤M):∀ (m i:Nat) (acc:Row),i≤cols.length→cols.length - i<m→acc.length≤i→
  qjo (DD X N) n K m row cols cols.length (i:Int) acc=K (acc++qs row (cols.drop i))
 | 0,_,_,_,h,_=>by omega
 | m+1,i,acc,hi,hf,ha=>by
  simp only[qjo,qyd]
  have hM:=qcv
  have hb:=qdi
  by_cases h:i<cols.length
  ·rw[qn (by exact_mod_cast h),ix h,br_t,Int.toNat_natCast,qcc (by omega) (by omega),q2r hX hN,qf,qp (by omega),q0 h,qbd3,q7 h]
   dsimp only
   by_cases hin:inR cols[i] 0 ((row.length:Int) - 1)=true
   ·obtain ⟨p1,p2⟩:=qbpw hin
    rw[hin,br_t,ixn p1 p2,br_t,qn (by omega),if_pos rfl]
    refine Eq.trans (q3d hX N n hN K row hr cols hc m (i+1) _ (by omega) (by omega) (by simp;omega)) ?_
    rw[List.append_assoc];rfl
   ·rw[Bool.not_eq_true] at hin
    rw[hin,br_f,if_neg Bool.noConfusion]
    exact q3d hX N n hN K row hr cols hc m (i+1) acc (by omega) (by omega) (by omega)
  ·rw[qo (by exact_mod_cast h),qbb h]
   simp[qs]
theorem q31 {X:Ext} (hX:XOk X) (N n:Nat) (hN:1≤N) (K:Row→Option ((Row×Unit)×Unit)) (row:Row) (hr:row.length≤M) (cols:List Int) (hc:cols.length≤M):∀ (m i:Nat) (acc:Row),i≤cols.length→cols.length - i<m→acc.length≤i→
  qjk (DD X N) n K m row cols (i:Int) acc=K (acc++qs row (cols.drop i))
 | 0,_,_,_,h,_=>by omega
 | m+1,i,acc,hi,hf,ha=>by
  simp only[qjk,qxr]
  have hM:=qcv
  have hb:=qdi
  by_cases h:i<cols.length
  ·rw[qn (by exact_mod_cast h),ix h,br_t,Int.toNat_natCast,qcc (by omega) (by omega),q2o hX hN,qf,qp (by omega),q0 h,qbd3,q7 h]
   dsimp only
   by_cases hin:inR cols[i] 0 ((row.length:Int) - 1)=true
   ·obtain ⟨p1,p2⟩:=qbpw hin
    rw[hin,br_t,br_t,ixn p1 p2,br_t,qn (by omega),if_pos rfl]
    refine Eq.trans (q31 hX N n hN K row hr cols hc m (i+1) _ (by omega) (by omega) (by simp;omega)) ?_
    rw[List.append_assoc];rfl
   ·rw[Bool.not_eq_true] at hin
    rw[hin,br_f,if_neg Bool.noConfusion]
    exact q31 hX N n hN K row hr cols hc m (i+1) acc (by omega) (by omega) (by omega)
  ·rw[qo (by exact_mod_cast h),qbb h]
   simp[qs]
theorem q3w {X:Ext} (hX:XOk X) {n:Nat} (hn:W+1≤n) (row:Row) (hr:row.length≤M) (cols:List Int) (hc:cols.length≤M):qoo (DD X n) row cols=some ((qs row cols,()),()):=by
 obtain ⟨n,rfl⟩:∃ k,n=k+1:=⟨n - 1,by omega⟩
 have hW:=qbo
 have hM:=qcv
 rw[qbng hX]
 simp only[q03,q0i,qwx]
 refine Eq.trans (q3d hX n n (by omega) _ row hr cols hc n 0 [] (by omega) (by omega) (by simp)) ?_
 rfl
theorem q3x {X:Ext} (hX:XOk X) {n:Nat} (hn:W+1≤n) (row:Row) (hr:row.length≤M) (cols:List Int) (hc:cols.length≤M):qor (DD X n) row cols=some ((qs row cols,()),()):=by
 obtain ⟨n,rfl⟩:∃ k,n=k+1:=⟨n - 1,by omega⟩
 have hW:=qbo
 have hM:=qcv
 rw[qbmt hX]
 simp only[q0u,q06,qwc]
 refine Eq.trans (q31 hX n n (by omega) _ row hr cols hc n 0 [] (by omega) (by omega) (by simp)) ?_
 rfl
theorem qon {X:Ext} (hX:XOk X) {n:Nat} (hn:W+2≤n) (s:qb7) (row:Row) (hr:row.length≤M) (hc:s.2.1.length≤M):qgy (DD X n) s row=some ((qs row s.2.1,()),()):=by
 obtain ⟨n,rfl⟩:∃ k,n=k+1:=⟨n - 1,by omega⟩
 rw[qbl4 hX]
 simp only[qzt,q69]
 rw[q3w hX (by omega) row hr _ hc,qf]
theorem qkn {X:Ext} (hX:XOk X) {n:Nat} (hn:W+2≤n) (s:qb7) (row:Row) (hr:row.length≤M) (hc:s.2.1.length≤M):qe5 (DD X n) s row=some ((qs row s.2.1,()),()):=by
 obtain ⟨n,rfl⟩:∃ k,n=k+1:=⟨n - 1,by omega⟩
 rw[qbkk hX]
 simp only[qyq,q61]
 rw[q3x hX (by omega) row hr _ hc,qf]
def q8d (v:Value):Bool:=decide (v.2.2.1=ByteArray.mk #[])
def ql3 (v:Value):Bool:=
 bif decide (v.1=0) then decide (v.2.1=0)&&q8d v else
 bif decide (v.1=1) then inR v.2.1 0 1&&q8d v else
 bif decide (v.1=2) then inR v.2.1 (-1000000000000) 1000000000000&&q8d v else
 bif decide (v.1=3) then decide (v.2.1=0)&&decide ((v.2.2.1.size:Int)≤20) else false
theorem qbpb {X:Ext} (hX:XOk X) {n:Nat} (hn:2≤n) (v:Value):q1n (DD X n) v=some ((ql3 v,()),()):=by
 obtain ⟨n,rfl⟩:∃ k,n=k+1:=⟨n - 1,by omega⟩
 rw[qbmr hX]
 simp only[q1p,q86]
 rw[q2r hX (by omega),q2r hX (by omega)]
 simp only[qf,qjs,qf9]
 unfold ql3 q8d
 cases decide (v.1=0)<;>cases decide (v.1=1)<;>cases decide (v.1=2)<;>cases decide (v.1=3)<;>rfl
theorem qbph {X:Ext} (hX:XOk X) {n:Nat} (hn:2≤n) (v:Value):q0k (DD X n) v=some ((ql3 v,()),()):=by
 obtain ⟨n,rfl⟩:∃ k,n=k+1:=⟨n - 1,by omega⟩
 rw[qbmv hX]
 simp only[q0p,q8g]
 rw[q2o hX (by omega),q2o hX (by omega)]
 simp only[qf,qjs,qf9]
 unfold ql3 q8d
 cases decide (v.1=0)<;>cases decide (v.1=1)<;>cases decide (v.1=2)<;>cases decide (v.1=3)<;>rfl
def q5u (cs:List Col) (row:Row) (i:Nat):Bool:=!ql3 (row.getD i vd)||(!decide ((row.getD i vd).1=(cs.getD i cd).2.1)&&!(decide ((row.getD i vd).1=0)&&(cs.getD i cd).2.2.1))
def qq6 (s:qb7) (row:Row):Bool:=qky s&&(decide (row.length=s.1.length)&&!qz (q5u s.1 row) 0 row.length)
theorem qbm4 (a b:Nat):((a:Int) != (b:Int))=!decide (a=b):=by
 by_cases h:a=b
 ·simp[h]
 ·have:¬ (a:Int)=(b:Int):=by omega
  rw[qxd,decide_eq_false this,decide_eq_false h]
theorem qbg1 {X:Ext} (hX:XOk X) {n:Nat} (hn:W+6≤n) (s:qb7) (hs:SchSm s) (row:Row) (hr:row.length≤M):qyo (DD X n) s row=some ((qq6 s row,()),()):=by
 obtain ⟨n,rfl⟩:∃ k,n=k+1:=⟨n - 1,by omega⟩
 have hW:=qbo
 have hM:=qcv
 rw[qbqq hX]
 simp only[q5q,q5l,q0q]
 rw[q8c hX (by omega) s hs,qf,qbm4]
 dsimp only
 unfold qq6
 cases qky s
 ·rfl
 ·by_cases hl:row.length=s.1.length
  ·rw[decide_eq_true hl]
   refine Eq.trans (qjc (L:=fun m i=>ql0 (DD X n) n _ _ m row row.length (i:Int) s) (N:=row.length) (P:=q5u s.1 row)
    (A:=some ((false,()),())) (B:=some ((true,()),())) (fun m i hi=>?_) (m:=n) (by omega)) ?_
   ·simp only[ql0,q3o]
    by_cases h:i<row.length
    ·rw[qn (by exact_mod_cast h),ix h,br_t,ix (i:=i) (hl ▸ h),br_t,Int.toNat_natCast,qbpb hX (by omega),qf,qp (by omega),if_pos h,qxd,qjs,qjs,qbtd]
     rfl
    ·rw[qo (by exact_mod_cast h),if_neg h];rfl
   ·cases qz (q5u s.1 row) 0 row.length<;>rfl
  ·rw[decide_eq_false hl];rfl
theorem qbgu {X:Ext} (hX:XOk X) {n:Nat} (hn:W+6≤n) (s:qb7) (hs:SchSm s) (row:Row) (hr:row.length≤M):qxk (DD X n) s row=some ((qq6 s row,()),()):=by
 obtain ⟨n,rfl⟩:∃ k,n=k+1:=⟨n - 1,by omega⟩
 have hW:=qbo
 have hM:=qcv
 rw[qbq7 hX]
 simp only[q5p,q6c,q0n]
 rw[q8o hX (by omega) s hs,qf,qbm4]
 dsimp only
 unfold qq6
 cases qky s
 ·rfl
 ·by_cases hl:row.length=s.1.length
  ·rw[decide_eq_true hl]
   refine Eq.trans (qjc (L:=fun m i=>qlz (DD X n) n _ _ m row (i:Int) s) (N:=row.length) (P:=q5u s.1 row)
    (A:=some ((false,()),())) (B:=some ((true,()),())) (fun m i hi=>?_) (m:=n) (by omega)) ?_
   ·simp only[qlz,q3c]
    by_cases h:i<row.length
    ·rw[qn (by exact_mod_cast h),ix h,br_t,br_t,ix (i:=i) (hl ▸ h),br_t,br_t,br_t,Int.toNat_natCast,qbph hX (by omega),qf,qp (by omega),if_pos h,qxd]
     dsimp only[q5u]
     cases ql3 (row.getD i vd)
     ·rfl
     ·cases decide ((row.getD i vd).1=(s.1.getD i cd).2.1)
      ·cases (s.1.getD i cd).2.2.1
       ·cases decide ((row.getD i vd).1=0)<;>rfl
       ·cases decide ((row.getD i vd).1=0)<;>rfl
      ·rfl
    ·rw[qo (by exact_mod_cast h),if_neg h];rfl
   ·cases qz (q5u s.1 row) 0 row.length<;>rfl
  ·rw[decide_eq_false hl];rfl
theorem qblu:∀ (a:List Value),cnt (.sl qt) a=3 * a.length
 | []=>rfl
 | x::a=>by
  have:=qblu a
  rw[qbve] at this ⊢
  rw[List.map_cons,List.sum_cons,this,List.length_cons]
  have:cnt qt x=3:=rfl
  omega
theorem qbs9 {b:Nat} {a:Row} (h:a.length≤b):Fit b (.sl qt) a:=⟨h,fun _ _=>⟨trivial,trivial,trivial,trivial⟩⟩
theorem qbtf {t:Ty} {k:Int} (hk:0≤k) (a:t.den):¬ (mkT t k a).1<0:=by rw[qde];omega
theorem qbb7 (a b:Value):qrt (Ty.pair (Ty.int IntKind.i64) (Ty.pair (Ty.int IntKind.i64) (Ty.pair Ty.str Ty.unit))) a b=decide (a=b):=by
 obtain ⟨a1,a2,a3,⟨⟩⟩:=a
 obtain ⟨b1,b2,b3,⟨⟩⟩:=b
 have e:∀ x y:ByteArray,(x.toList == y.toList)=decide (x=y):=fun x y=>qf9
 have e2:∀ x y:Int,(x == y)=decide (x=y):=fun x y=>by by_cases h:x=y<;>simp[h]
 simp only[qrt,e,e2]
 by_cases h1:a1=b1<;>by_cases h2:a2=b2<;>by_cases h3:a3=b3<;>simp[h1,h2,h3]
end Go.G

namespace Go.G
set_option maxRecDepth 100000
open Go Go.V Go.Proofs
structure XC (X:Ext):Prop where
 ok:XOk X
 cmp:∀ n a b,q4s (DD X (n+1)) a b=some ((scmp a b,()),())
theorem qbae:∀ (a b:List UInt8),(Lib.compareBytes a b<0↔Op.bytesLess a b=true)∧(Lib.compareBytes a b=0↔a=b)
 | [],[]=>by simp[Lib.compareBytes,Op.bytesLess]
 | [],_::_=>by simp[Lib.compareBytes,Op.bytesLess]
 | _::_,[]=>by simp[Lib.compareBytes,Op.bytesLess]
 | x::a,y::b=>by
  obtain ⟨h1,h2⟩:=qbae a b
  simp only[Lib.compareBytes,Op.bytesLess]
  by_cases hxy:x<y
  ·have hne:x≠y:=fun e=>by subst e;exact absurd hxy (UInt8.lt_irrefl x)
   simp[hxy,hne]
  ·by_cases hyx:y<x
   ·have hne:x≠y:=fun e=>by subst e;exact absurd hyx (UInt8.lt_irrefl x)
    simp[hxy,hyx,hne]
   ·have e:x=y:=UInt8.le_antisymm (UInt8.not_lt.1 hyx) (UInt8.not_lt.1 hxy)
    subst e
    simp[hxy,h1,h2]
theorem qby3 (a b:ByteArray):scmp a b<0↔Op.bytesLess a.toList b.toList=true:=by
 unfold scmp
 rw[(qbae _ _).1,ByteArray.toList_eq,ByteArray.toList_eq]
theorem qbzc (a b:ByteArray):scmp a b=0↔a=b:=by
 unfold scmp
 rw[(qbae _ _).2]
 constructor
 ·intro h;cases a;cases b;simp only[ByteArray.mk.injEq];exact Array.toList_inj.1 h
 ·rintro rfl;rfl
def byv (a b:Value):Int:=bif decide (a.1<b.1)||(decide (a.1=b.1)&&decide (a.2.1<b.2.1)) then -1 else bif decide (a.1>b.1)||decide (a.2.1>b.2.1) then 1 else scmp a.2.2.1 b.2.2.1
def vlt (a b:Value):Bool:=bif !decide (a.1=b.1) then decide (a.1<b.1) else bif !decide (a.2.1=b.2.1) then decide (a.2.1<b.2.1) else Op.bytesLess a.2.2.1.toList b.2.2.1.toList
theorem qbux (a b:Value):(byv a b<0↔vlt a b=true)∧(byv a b=0↔a=b):=by
 obtain ⟨a1,a2,a3,⟨⟩⟩:=a
 obtain ⟨b1,b2,b3,⟨⟩⟩:=b
 have h1:=qby3 a3 b3
 have h2:=qbzc a3 b3
 simp only[byv,vlt]
 by_cases k1:a1<b1
 ·have:¬ a1=b1:=by omega
  simp[k1,this]
 ·by_cases k2:a1=b1
  ·subst k2
   by_cases k3:a2<b2
   ·have:¬ a2=b2:=by omega
    simp[k3,this]
   ·by_cases k4:a2=b2
    ·subst k4
     simp[h1,h2]
    ·have:a2>b2:=by omega
     simp[k3,k4,this]
  ·have:a1>b1:=by omega
   simp[k1,k2,this]
theorem qbvl {X:Ext} (hX:XC X) {n:Nat} (hn:2≤n) (a b:Value):q09 (DD X n) a b=some ((byv a b,()),()):=by
 obtain ⟨n,rfl⟩:∃ k,n=k+2:=⟨n - 2,by omega⟩
 rw[qbmj hX.ok]
 simp only[q1a,q9d]
 rw[hX.cmp]
 simp only[qf,qjs,qbtd]
 unfold byv
 cases (decide (a.1<b.1)||(decide (a.1=b.1)&&decide (a.2.1<b.2.1)))<;>cases (decide (a.1>b.1)||decide (a.2.1>b.2.1))<;>rfl
theorem qbsg (D:Den ctx) (x y:Value):qcd ctx D (Clo.mk 141 []) [CapV.val (Ty.pair (Ty.int IntKind.i64) (Ty.pair (Ty.int IntKind.i64) (Ty.pair Ty.str Ty.unit))) x,CapV.val (Ty.pair (Ty.int IntKind.i64) (Ty.pair (Ty.int IntKind.i64) (Ty.pair Ty.str Ty.unit))) y] (Ty.int IntKind.i64)=(q09 D x y).bind fun r=>some r.1.1:=by kernel_rfl
def tcmp:Row→Row→Int
 | [],[]=>0
 | [],_::_=>-1
 | _::_,[]=>1
 | x::a,y::b=>if byv x y=0 then tcmp a b else byv x y
def tlt:Row→Row→Bool
 | [],[]=>false
 | [],_::_=>true
 | _::_,[]=>false
 | x::a,y::b=>if x=y then tlt a b else vlt x y
theorem qbtc:∀ (a b:Row),(decide (tcmp a b<0))=tlt a b
 | [],[]=>rfl
 | [],_::_=>rfl
 | _::_,[]=>rfl
 | x::a,y::b=>by
  obtain ⟨h1,h2⟩:=qbux x y
  simp only[tcmp,tlt]
  by_cases e:x=y
  ·simp only[if_pos (h2.2 e),if_pos e];exact qbtc a b
  ·simp only[if_neg (fun k=>e (h2.1 k)),if_neg e]
   by_cases k:byv x y<0
   ·rw[decide_eq_true k,h1.1 k]
   ·rw[decide_eq_false k]
    cases hv:vlt x y
    ·rfl
    ·exact absurd (h1.2 hv) k
theorem qboc {X:Ext} (hX:XC X) (N n:Nat) (hN:2≤N) (a b:Row) (ha:a.length≤M):∀ (m i:Nat),i≤a.length→i≤b.length→a.length - i<m→
  qx (DD X N) n (Clo.mk 141 []) (fun v w u=>qbw (DD X N) n (Clo.mk 141 []) v w u) (fun v w=>qbi (DD X N) n (Clo.mk 141 []) v w) m a b a a.length (i:Int)=some ((tcmp (a.drop i) (b.drop i),()),())
 | 0,_,_,_,h=>by omega
 | m+1,i,hi,hj,hf=>by
  have hM:=qcv
  simp only[qx,qb0]
  by_cases h:i<a.length
  ·rw[qn (by exact_mod_cast h),ix h,br_t,q0 h]
   by_cases h2:i<b.length
   ·rw[qo (by omega),ix h2,br_t,qbsg,Int.toNat_natCast,qbvl hX hN,q0 h2,Option.bind_some,qf,qp (by omega),q7 h,q7 h2,qxd]
    simp only[tcmp]
    by_cases e:byv a[i] b[i]=0
    ·rw[decide_eq_true e,if_pos e,Bool.not_true,br_f]
     exact qboc hX N n hN a b ha m (i+1) (by omega) (by omega) (by omega)
    ·rw[decide_eq_false e,if_neg e,Bool.not_false,br_t];rfl
   ·rw[qn (by omega),qbb h2];rfl
  ·rw[qo (by exact_mod_cast h),qbb h]
   simp only[qbi]
   by_cases h2:i<b.length
   ·rw[qn (by omega),q0 h2];rfl
   ·rw[qo (by omega),qbb h2];rfl
theorem q64 {X:Ext} (hX:XC X) {n:Nat} (hn:W+3≤n) (a b:Row) (ha:a.length≤M):qpo (DD X n) a b=some ((tlt a b,()),()):=by
 obtain ⟨n,rfl⟩:∃ k,n=k+2:=⟨n - 2,by omega⟩
 have hW:=qbo
 have hM:=qcv
 rw[qbh6 hX.ok]
 simp only[qwd,q6u]
 have e:qca (DD X (n+1)) a b (Clo.mk 141 [])=some ((tcmp a b,()),()):=by
  rw[qf0 hX.ok]
  simp only[qb8,qb9,qbx]
  exact qboc hX n n (by omega) a b ha n 0 (by omega) (by omega) (by omega)
 rw[e,qf]
 dsimp only
 rw[qbtc]
theorem qbgw {X:Ext} (hX:XOk X) {n:Nat} (hn:1≤n) (a b:Value):qpi (DD X n) a b=some ((decide (a=b),()),()):=by
 obtain ⟨n,rfl⟩:∃ k,n=k+1:=⟨n - 1,by omega⟩
 rw[qbhw hX]
 simp only[qw8,q6o,qbb7]
theorem qbsl {X:Ext} (hX:XOk X) {n:Nat} (hn:1≤n) (a b:Value):qwy (DD X n) a b=some ((vlt a b,()),()):=by
 obtain ⟨n,rfl⟩:∃ k,n=k+1:=⟨n - 1,by omega⟩
 rw[qbic hX]
 simp only[qwz,q52,qxd]
 unfold vlt
 cases decide (a.1=b.1)<;>cases decide (a.2.1=b.2.1)<;>rfl
theorem qbje {X:Ext} (hX:XOk X) (N n:Nat) (hN:1≤N) (a b:Row) (ha:a.length≤M):∀ (m i:Nat),i≤a.length→i≤b.length→a.length - i<m→
  qhd (DD X N) n (fun v w u=>qqs (DD X N) n v w u) (fun v w=>qhv (DD X N) n v w) m a b (i:Int)=some ((tlt (a.drop i) (b.drop i),()),())
 | 0,_,_,_,h=>by omega
 | m+1,i,hi,hj,hf=>by
  have hM:=qcv
  simp only[qhd,qus,qjs]
  by_cases h:i<a.length
  ·by_cases h2:i<b.length
   ·rw[decide_eq_true (show (i:Int)<a.length by omega),decide_eq_true (show (i:Int)<b.length by omega)]
    have c0:decide ((0:Int)≤(i:Int))=true:=decide_eq_true (by omega)
    rw[c0,Bool.true_and,br_t,br_t,br_t,qbgw hX hN,qf,Int.toNat_natCast,qp (by omega),q0 h,q0 h2,q7 h,q7 h2]
    simp only[tlt]
    by_cases e:a[i]=b[i]
    ·rw[decide_eq_true e,if_pos e,Bool.not_true,br_f]
     exact qbje hX N n hN a b ha m (i+1) (by omega) (by omega) (by omega)
    ·rw[decide_eq_false e,if_neg e,Bool.not_false,br_t,br_t,br_t,qbsl hX hN,qf];rfl
   ·rw[decide_eq_true (show (i:Int)<a.length by omega),decide_eq_false (show ¬ (i:Int)<b.length by omega),q0 h,qbb h2]
    simp only[Bool.and_false,br_f,qhv,tlt]
    rw[decide_eq_false (by omega)]
  ·rw[decide_eq_false (show ¬ (i:Int)<a.length by omega),qbb h]
   simp only[Bool.false_and,br_f,qhv]
   by_cases h2:i<b.length
   ·rw[decide_eq_true (by omega),q0 h2];rfl
   ·rw[decide_eq_false (by omega),qbb h2];rfl
theorem q7c {X:Ext} (hX:XOk X) {n:Nat} (hn:W+1≤n) (a b:Row) (ha:a.length≤M):qoy (DD X n) a b=some ((tlt a b,()),()):=by
 obtain ⟨n,rfl⟩:∃ k,n=k+1:=⟨n - 1,by omega⟩
 have hW:=qbo
 have hM:=qcv
 rw[qbip hX]
 simp only[qwr,qwm,qsc]
 exact qbje hX n n (by omega) a b ha n 0 (by omega) (by omega) (by omega)
theorem qbv6 {X:Ext} (hX:XOk X) (N n:Nat) (hN:1≤N) (a b:Row) (ha:a.length≤M):∀ (m i:Nat),i≤a.length→i≤b.length→a.length - i<m→
  qjj (DD X N) n (fun v w u=>qut (DD X N) n v w u) (fun v w=>qjx (DD X N) n v w) m a b (i:Int)=some ((decide (a.drop i=b.drop i),()),())
 | 0,_,_,_,h=>by omega
 | m+1,i,hi,hj,hf=>by
  have hM:=qcv
  simp only[qjj,qzh,qjs]
  by_cases h:i<a.length
  ·by_cases h2:i<b.length
   ·rw[decide_eq_true (show (i:Int)<a.length by omega),decide_eq_true (show (i:Int)<b.length by omega)]
    have c0:decide ((0:Int)≤(i:Int))=true:=decide_eq_true (by omega)
    rw[c0,Bool.true_and,br_t,br_t,br_t,qbgw hX hN,qf,Int.toNat_natCast,qp (by omega),q0 h,q0 h2,q7 h,q7 h2]
    by_cases e:a[i]=b[i]
    ·rw[decide_eq_true e,Bool.not_true,br_f]
     refine Eq.trans (qbv6 hX N n hN a b ha m (i+1) (by omega) (by omega) (by omega)) ?_
     simp only[e,List.cons.injEq,true_and]
    ·rw[decide_eq_false e,Bool.not_false,br_t]
     simp only[e,List.cons.injEq,false_and,decide_false];rfl
   ·rw[decide_eq_true (show (i:Int)<a.length by omega),decide_eq_false (show ¬ (i:Int)<b.length by omega),q0 h,qbb h2]
    simp only[Bool.and_false,br_f,qjx]
    rw[decide_eq_false (by omega)];simp[h]
  ·rw[decide_eq_false (show ¬ (i:Int)<a.length by omega),qbb h]
   simp only[Bool.false_and,br_f,qjx]
   by_cases h2:i<b.length
   ·rw[decide_eq_false (by omega),q0 h2];simp[h2]
   ·rw[decide_eq_true (by omega),qbb h2];simp
theorem qbog {X:Ext} (hX:XOk X) {n:Nat} (hn:W+1≤n) (a b:Row) (ha:a.length≤M):qtc (DD X n) a b=some ((decide (a=b),()),()):=by
 obtain ⟨n,rfl⟩:∃ k,n=k+1:=⟨n - 1,by omega⟩
 have hW:=qbo
 have hM:=qcv
 rw[qbmm hX]
 simp only[q0z,q0y,qw4]
 exact qbv6 hX n n (by omega) a b ha n 0 (by omega) (by omega) (by omega)
theorem qbww {a b:Row} (hl:a.length=b.length):qz (fun i=>!decide (a.getD i vd=b.getD i vd)) 0 a.length=!decide (a=b):=by
 by_cases e:a=b
 ·rw[decide_eq_true e,qez.2 (fun j _ _=>by rw[e];simp)];rfl
 ·rw[decide_eq_false e]
  show _=true
  rw[←Bool.not_eq_false]
  intro hf
  apply e
  apply List.ext_getElem hl
  intro i h1 h2
  have:=qez.1 hf i (by omega) (by omega)
  rw[q7 h1,q7 h2] at this
  simpa using this
theorem qbsz {X:Ext} (hX:XOk X) {n:Nat} (hn:W+1≤n) (a b:Row) (ha:a.length≤M):qdc (DD X n) a b=some ((decide (a=b),()),()):=by
 obtain ⟨n,rfl⟩:∃ k,n=k+1:=⟨n - 1,by omega⟩
 have hM:=qcv
 have hW:=qbo
 rw[qsj hX]
 simp only[qeq,qev,qea]
 rw[qbm4]
 by_cases hl:a.length=b.length
 ·rw[decide_eq_true hl,Bool.not_true,br_f]
  refine Eq.trans (qjc (L:=fun m i=>qb5 (DD X n) n _ _ m a b a.length (i:Int)) (N:=a.length) (P:=fun i=>!decide (a.getD i vd=b.getD i vd))
   (A:=some ((false,()),())) (B:=some ((true,()),())) (fun m i hi=>?_) (m:=n) (by omega)) ?_
  ·simp only[qb5,qei]
   by_cases h:i<a.length
   ·rw[qn (by exact_mod_cast h),ix h,br_t,ix (hl ▸ h),br_t,Int.toNat_natCast,qbb7,qp (by omega),if_pos h];rfl
   ·rw[qo (by exact_mod_cast h),if_neg h];rfl
  ·rw[qbww hl]
   cases decide (a=b)<;>rfl
 ·have:¬ a=b:=fun e=>hl (by rw[e])
  rw[decide_eq_false hl,decide_eq_false this];rfl
def hasV (l:Row) (x:Value):Bool:=qz (fun j=>decide (x=l.getD j vd)) 0 l.length
theorem qbsw {X:Ext} (hX:XOk X) {n:Nat} (hn:W+2≤n) (l:Row) (x:Value) (hl:l.length≤M):qd5 (DD X n) l x=some ((hasV l x,()),()):=by
 obtain ⟨n,rfl⟩:∃ k,n=k+2:=⟨n - 2,by omega⟩
 have hM:=qcv
 have hW:=qbo
 rw[qqd hX]
 simp only[qd4,qhj]
 have e:qer (DD X (n+1)) l x=some ((match qbc (fun j=>decide (x=l.getD j vd)) 0 l.length with | some j=>(j:Int) | none=>-1,()),()):=by
  rw[qr3 hX]
  simp only[qex,qeo,qd9]
  refine Eq.trans (qyk (L:=fun m i=>qb4 (DD X n) n _ _ m l l.length (i:Int) x) (N:=l.length) (P:=fun j=>decide (x=l.getD j vd))
   (A:=fun j=>some (((j:Int),()),())) (B:=some ((-1,()),())) (fun m i hi=>?_) (m:=n) (by omega)) ?_
  ·simp only[qb4,qeh]
   by_cases h:i<l.length
   ·rw[qn (by exact_mod_cast h),ix h,br_t,Int.toNat_natCast,qp (by omega),if_pos h,qbb7];rfl
   ·rw[qo (by exact_mod_cast h),if_neg h];rfl
  ·cases qbc (fun j=>decide (x=l.getD j vd)) 0 l.length<;>rfl
 rw[e,qf]
 congr 3
 exact q6x _ _
def q78 (l:Row):Bool:=qz (fun j=>decide ((l.getD j vd).1=0)) 0 l.length
theorem qbu0 {X:Ext} (hX:XOk X) {n:Nat} (hn:W+1≤n) (l:Row) (hl:l.length≤M):q08 (DD X n) l=some ((q78 l,()),()):=by
 obtain ⟨n,rfl⟩:∃ k,n=k+1:=⟨n - 1,by omega⟩
 have hM:=qcv
 have hW:=qbo
 rw[qbmy hX]
 simp only[q1w,q0h,qv8]
 refine Eq.trans (qjc (L:=fun m i=>qjm (DD X n) n _ _ m l (i:Int)) (N:=l.length) (P:=fun j=>decide ((l.getD j vd).1=0))
  (A:=some ((true,()),())) (B:=some ((false,()),())) (fun m i hi=>?_) (m:=n) (by omega)) ?_
 ·simp only[qjm,qxm]
  by_cases h:i<l.length
  ·rw[qn (by exact_mod_cast h),ix h,br_t,Int.toNat_natCast,qp (by omega),if_pos h];rfl
  ·rw[qo (by exact_mod_cast h),if_neg h];rfl
 ·unfold q78
  cases qz (fun j=>decide ((l.getD j vd).1=0)) 0 l.length<;>rfl
theorem qbzf {v:Value} (h:ql3 v=true):decide (vd=v)=decide (v.1=0):=by
 obtain ⟨v1,v2,v3,⟨⟩⟩:=v
 by_cases h0:v1=0
 ·subst h0
  simp only[ql3,q8d,decide_true,cond_true,Bool.and_eq_true,decide_eq_true_eq] at h
  obtain ⟨rfl,rfl⟩:=h
  rfl
 ·have:¬ vd=(v1,v2,v3,()):=fun e=>h0 (by rw[←(Prod.mk.inj e).1])
  rw[decide_eq_false this,decide_eq_false h0]
theorem qbvu {l:Row} (h:∀ v∈l,ql3 v=true):hasV l vd=q78 l:=
 qvv fun j _ hj=>qbzf (h _ (qc5 (by omega)))
theorem qbr3 {row:Row} {cols:List Int}:∀ v∈qs row cols,v∈row:=by
 intro v hv
 unfold qs at hv
 obtain ⟨c,hc,rfl⟩:=List.mem_map.1 hv
 have:=qbpw (List.mem_filter.1 hc).2
 exact qc5 (by omega)
def q0l (xs:List qdn) (a b:Row) (i:Nat):Bool:=(xs.getD i xd).2.2.1&&(decide (qs a (xs.getD i xd).2.1=qs b (xs.getD i xd).2.1)&&!q78 (qs a (xs.getD i xd).2.1))
def qoa (s:qb7) (a b:Row):Bool:=qz (q0l s.2.2.1 a b) 0 s.2.2.1.length
theorem q41 (s:qb7) (a b:Row):qoa s a b=qoa s b a:=by
 refine qvv fun j _ _=>?_
 unfold q0l
 by_cases e:qs a (s.2.2.1.getD j xd).2.1=qs b (s.2.2.1.getD j xd).2.1
 ·rw[decide_eq_true e,decide_eq_true e.symm,e]
 ·rw[decide_eq_false e,decide_eq_false fun k=>e k.symm];simp
theorem qbu9 (D:Den ctx) (a b:Row) (x:qdn):qcd ctx D (Clo.mk 143 [CapV.rptr (Ty.sl (Ty.pair (Ty.int IntKind.i64) (Ty.pair (Ty.int IntKind.i64) (Ty.pair Ty.str Ty.unit)))) a,CapV.rptr (Ty.sl (Ty.pair (Ty.int IntKind.i64) (Ty.pair (Ty.int IntKind.i64) (Ty.pair Ty.str Ty.unit)))) b]) [CapV.val (Ty.pair Ty.str (Ty.pair (Ty.sl (Ty.int IntKind.i64)) (Ty.pair Ty.bool Ty.unit))) x] Ty.bool=(q8z D x a b).bind fun r=>some r.1.1:=by kernel_rfl
theorem qbgx {X:Ext} (hX:XOk X) {n:Nat} (hn:W+6≤n) (s:qb7) (hs:SchSm s) (a b:Row) (ha:a.length≤M) (hb:b.length≤M) (hv:∀ v∈a,ql3 v=true):qzb (DD X n) s a b=some ((qoa s a b,()),()):=by
 obtain ⟨n,rfl⟩:∃ k,n=k+1:=⟨n - 1,by omega⟩
 have hM:=qcv
 have hd:=qj
 have h2:=hs.ixs
 rw[qbpy hX]
 simp only[q5t,qbdu]
 rw[qbgy hX (n:=n) (by omega) _ (by omega) _ (q0l s.2.2.1 a b) (fun i hi=>by
  have hc:=hs.ixc _ (qc5 (d:=xd) hi)
  obtain ⟨n,rfl⟩:∃ k,n=k+3:=⟨n - 3,by omega⟩
  rw[qbu9,show n+3 - 2=n+1 from rfl,qbnj hX]
  simp only[q11,q9g]
  have p1:=q3w hX (n:=n) (by omega) a ha (s.2.2.1.getD i xd).2.1 hc
  have p2:=q3w hX (n:=n) (by omega) b hb (s.2.2.1.getD i xd).2.1 hc
  have l1:=qkh a (s.2.2.1.getD i xd).2.1
  have p3:=qbsw hX (n:=n) (by omega) (qs a (s.2.2.1.getD i xd).2.1) vd (by omega)
  have p4:=qbsz hX (n:=n) (by omega) (qs a (s.2.2.1.getD i xd).2.1) (qs b (s.2.2.1.getD i xd).2.1) (by omega)
  rw[p1,qf]
  dsimp only
  rw[p2,p3]
  simp only[qf]
  rw[p4,qf,qbvu (fun v h=>hv v (qbr3 v h))]
  unfold q0l
  cases (s.2.2.1.getD i xd).2.2.1
  ·rfl
  ·cases q78 (qs a (s.2.2.1.getD i xd).2.1)<;>simp[br]),qf]
 rfl
theorem qbgr {X:Ext} (hX:XOk X) {n:Nat} (hn:W+3≤n) (s:qb7) (hs:SchSm s) (a b:Row) (ha:a.length≤M) (hb:b.length≤M):qri (DD X n) s a b=some ((qoa s a b,()),()):=by
 obtain ⟨n,rfl⟩:∃ k,n=k+1:=⟨n - 1,by omega⟩
 have hM:=qcv
 have hW:=qbo
 have h2:=hs.ixs
 rw[qbjv hX]
 simp only[qxw,qy4,qt4]
 refine Eq.trans (qjc (L:=fun m i=>qh4 (DD X n) n _ _ m a b (i:Int) s) (N:=s.2.2.1.length) (P:=q0l s.2.2.1 a b)
  (A:=some ((true,()),())) (B:=some ((false,()),())) (fun m i hi=>?_) (m:=n) (by omega)) ?_
 ·simp only[qh4,qv5]
  by_cases h:i<s.2.2.1.length
  ·have hc:=hs.ixc _ (qc5 (d:=xd) h)
   have p1:=q3x hX (n:=n) (by omega) a ha (s.2.2.1.getD i xd).2.1 hc
   have p2:=q3x hX (n:=n) (by omega) b hb (s.2.2.1.getD i xd).2.1 hc
   have l1:=qkh a (s.2.2.1.getD i xd).2.1
   have p3:=qbu0 hX (n:=n) (by omega) (qs a (s.2.2.1.getD i xd).2.1) (by omega)
   have p4:=qbog hX (n:=n) (by omega) (qs a (s.2.2.1.getD i xd).2.1) (qs b (s.2.2.1.getD i xd).2.1) (by omega)
   rw[qn (by exact_mod_cast h),ix h,br_t,Int.toNat_natCast,p1,qf]
   dsimp only
   rw[p2,qf]
   dsimp only
   rw[p3,p4,qp (by omega),if_pos h]
   simp only[qf]
   unfold q0l
   cases (s.2.2.1.getD i xd).2.2.1
   ·rfl
   ·cases decide (qs a (s.2.2.1.getD i xd).2.1=qs b (s.2.2.1.getD i xd).2.1)
    ·rfl
    ·cases q78 (qs a (s.2.2.1.getD i xd).2.1)<;>rfl
  ·rw[qo (by exact_mod_cast h),if_neg h];rfl
 ·unfold qoa
  cases qz (q0l s.2.2.1 a b) 0 s.2.2.1.length<;>rfl
end Go.G

namespace Go.G
set_option maxRecDepth 100000
open Go Go.V Go.Proofs
abbrev Rel:=qb7×List Row×Unit
abbrev RelT:Ty:=.pair qck (.pair (.sl (Ty.sl qt)) .unit)
theorem qbg6 (D:Den ctx) (n:Nat) (K0:Bool→Option ((Bool×Unit)×Unit)) (K1:Option ((Bool×Unit)×Unit)):∀ (m i:Nat) (a b:List Row),(∀ x y,y∈b→qmm D x y=some ((decide (x=y),()),()))→
  a.length=b.length→a.length≤maxLen→i≤a.length→a.length - i<m→qg9 D n K0 K1 m a b i=if a.drop i=b.drop i then K1 else K0 false
 | 0,_,_,_,_,_,_,_,h=>by omega
 | m+1,i,a,b,he,hl,hm,hi,hk=>by
  simp only[qg9,qu5]
  have hd:=qj
  by_cases h:i<a.length
  ·rw[qn (by exact_mod_cast h),ix h,br_t,ix (hl ▸ h),br_t,qp (by omega),Int.toNat_natCast,q7 h,q7 (hl ▸ h),he _ _ (List.getElem_mem _),qf,q0 h,q0 (hl ▸ h:i<b.length)]
   by_cases e:a[i]=b[i]'(hl ▸ h)
   ·simp only[e,decide_true,Bool.not_true,br_f,List.cons.injEq,true_and]
    exact qbg6 D n K0 K1 m (i+1) a b he hl hm (by omega) (by omega)
   ·simp only[e,decide_false,Bool.not_false,br_t,List.cons.injEq,false_and,if_false]
  ·rw[qo (by exact_mod_cast h),qbb h,qbb (hl ▸ h)];rfl
theorem qbsj {X:Ext} (hX:XOk X) {n:Nat} (hn:W+4≤n) (a b:List Row) (hb:Fit maxLen (.sl (Ty.sl qt)) b):qwh (DD X n) a b=some ((decide (a=b),()),()):=by
 obtain ⟨n,rfl⟩:∃ k,n=k+1:=⟨n - 1,by omega⟩
 have hb1:b.length≤maxLen:=hb.1
 rw[qbis hX]
 simp only[qxb,qw2,qst]
 by_cases h:a.length=b.length
 ·have e:((a.length:Int) != (b.length:Int))=false:=by simp[h]
  rw[e,br_f]
  have:=qbg6 (DD X n) n (fun v=>qli (DD X n) n v) (qlm (DD X n) n) n 0 a b (fun x y hy=>qbkw hX (by omega) x y (hb.2 y hy)) h (by omega) (by omega) (by have:=qbo;have:=qj;omega)
  rw[show ((0:Nat):Int)=0 from rfl] at this
  rw[this]
  simp only[List.drop_zero,qli,qlm]
  by_cases h:a=b<;>simp[h]
 ·have e:((a.length:Int) != (b.length:Int))=true:=by simp;omega
  have:a≠b:=fun h2=>h (by rw[h2])
  rw[e,br_t];simp[this]
theorem qbgs (D:Den ctx) (n:Nat) (K:List Row→Option ((List Row×Unit)×Unit)):∀ (m i:Nat) (a c:List Row),(∀ x∈a,qe6 D x=some ((x,()),()))→a.length=c.length→a.length≤maxLen→i≤a.length→a.length - i<m→
  qhc D n K m a i c=K (c.take i++a.drop i)
 | 0,_,_,_,_,_,_,_,h=>by omega
 | m+1,i,a,c,he,hl,hm,hi,hk=>by
  simp only[qhc,qu4]
  have hd:=qj
  by_cases h:i<a.length
  ·rw[qn (by exact_mod_cast h),ix h,br_t,Int.toNat_natCast,q7 h,he _ (List.getElem_mem _),qf,ix (hl ▸ h),br_t,qp (by omega)]
   have e:=qbgs D n K m (i+1) a (c.set i a[i]) he (by simp[hl]) hm (by omega) (by omega)
   rw[q0 h]
   refine Eq.trans e ?_
   rw[qnp (hl ▸ h),List.append_assoc];rfl
  ·rw[qo (by exact_mod_cast h),qbb h,List.take_of_length_le (by omega),List.append_nil]
theorem qbsk {X:Ext} (hX:XOk X) {n:Nat} (hn:W+4≤n) (a:List Row) (ha:Fit qbl (.sl (Ty.sl qt)) a):qw7 (DD X n) a=some ((a,()),()):=by
 obtain ⟨n,rfl⟩:∃ k,n=k+1:=⟨n - 1,by omega⟩
 have ha1:a.length≤qbl:=ha.1
 rw[qbh1 hX]
 simp only[qw5,qw0,qr0]
 rw[q8r ha1,br_t]
 have h1:=qdi
 have:=qbgs (DD X n) n (fun v=>qlk (DD X n) n v) n 0 a (List.replicate (Int.toNat (a.length:Int)) []) (fun x hx=>qbkf hX (by omega) x (ha.2 x hx)) (by simp) (by rw[qj];omega) (by omega) (by have:=qbo;omega)
 rw[show ((0:Nat):Int)=0 from rfl] at this
 rw[this]
 simp only[List.take_zero,List.drop_zero,List.nil_append,qlk]
theorem qbgn (D:Den ctx) (n:Nat) (K0:Int→Int→Option ((Int×Unit)×Unit)) (K1:Int→Option ((Int×Unit)×Unit)) (hK:∀ k,K1 k=some ((k,()),())) (hK0:∀ k,K0 k (-1)=some ((-1,()),())):∀ (m i:Nat) (k:Int) (a:List Row),
  (∀ x∈a,∀ k:Int,0≤k→k≤maxLen→qmn D x k=some ((left (Ty.sl qt) x k,()),()))→a.length≤maxLen→i≤a.length→a.length - i<m→0≤k→k≤maxLen→
  qg0 D n K0 K1 m a k i=some ((if (((a.drop i).map (tot (Ty.sl qt))).sum:Int)≤k then k - ((a.drop i).map (tot (Ty.sl qt))).sum else -1,()),())
 | 0,_,_,_,_,_,_,h,_,_=>by omega
 | m+1,i,k,a,he,hm,hi,hf,h0,h1=>by
  simp only[qg0,qu6]
  have hd:=qj
  by_cases h:i<a.length
  ·rw[qn (by exact_mod_cast h),ix h,br_t,Int.toNat_natCast,q7 h,he _ (List.getElem_mem _) k h0 h1,qf,qp (by omega),qi8 h]
   by_cases h2:left (Ty.sl qt) a[i] k<0
   ·rw[qn h2,hK0,if_neg]
    intro h3
    rw[qdw (by omega)] at h2
    omega
   ·obtain ⟨e1,e2⟩:=qfl h2 h0
    rw[qo h2,e1];dsimp only
    rw[qbgn D n K0 K1 hK hK0 m (i+1) _ a he hm (by omega) (by omega) (by omega) (by omega)]
    congr 3
    push_cast
    split<;>split<;>omega
  ·rw[qo (by exact_mod_cast h),qbb h,hK]
   simp[h0]
theorem qbsn {X:Ext} (hX:XOk X) {n:Nat} (hn:W+4≤n) (a:List Row) (k:Int) (ha:Wf (.sl (Ty.sl qt)) a) (hk:0≤k∧k≤maxLen):qwj (DD X n) a k=some ((left (.sl (Ty.sl qt)) a k,()),()):=by
 obtain ⟨n,rfl⟩:∃ k,n=k+1:=⟨n - 1,by omega⟩
 have hd:=qj
 have w1:a.length≤maxLen:=ha.1
 have hts:=qoq (t:=(Ty.sl qt)) a
 rw[qbir hX]
 simp only[qw6,qwg,qr4]
 rw[qcc (by omega) (by omega)]
 by_cases h:k - (a.length:Int)<0
 ·rw[qn h,qeb (by omega)]
 ·rw[qo h]
  have:=qbgn (DD X n) n (fun v w=>qqv (DD X n) n v w) (fun v=>qqm (DD X n) n v) (fun _=>rfl) (fun _=>rfl) n 0 (k - a.length) a
   (fun x hx k h0 h1=>qbk8 hX (by omega) x k (ha.2 x hx) ⟨h0,h1⟩) w1 (by omega) (by have:=qbo;omega) (by omega) (by omega)
  rw[show ((0:Nat):Int)=0 from rfl] at this
  rw[this,List.drop_zero]
  by_cases h2:(tot (.sl (Ty.sl qt)) a:Int)≤k
  ·rw[qdw h2,if_pos (by omega)];congr 3;omega
  ·rw[qeb h2,if_neg (by omega)]
theorem qbp0 {X:Ext} (hX:XOk X) (N n:Nat) (hN:W+2≤N) (K:Int→List Row→Option ((Int×Unit)×List Row×Unit)):∀ (m i:Nat) (k:Int) (a:List Row),a.length≤maxLen→(∀ x∈a,x.length≤maxLen)→i≤a.length→a.length - i<m→0≤k→k+((a.drop i).map (cnt (Ty.sl qt))).sum≤maxLen→
  qfb (DD X N) n K m k i a=K (mkL (mkT (Ty.sl qt)) k (a.drop i)).1 (a.take i++(mkL (mkT (Ty.sl qt)) k (a.drop i)).2)
 | 0,_,_,_,_,_,_,h,_,_=>by omega
 | m+1,i,k,a,hm,hmm,hi,hf,hk,hkl=>by
  simp only[qfb,qqq]
  have hd:=qj
  by_cases h:i<a.length
  ·rw[qi8 h] at hkl
   have hc1:=qde (Ty.sl qt) k a[i]
   have t1:=qbd6 hX hN a[i] k (hmm _ (List.getElem_mem h)) hk (by omega)
   have wi:IntKind.wrap IntKind.i64 ((i:Int)+1)=((i+1:Nat):Int):=qp (by omega)
   rw[qn (by exact_mod_cast h)]
   simp only[ix h,br_t,wi,qf,List.length_set,Int.toNat_natCast,q7 h,t1]
   refine Eq.trans (qbqs rfl) ?_
   have hml:(mkT (Ty.sl qt) k a[i]).2.length=a[i].length:=q5b k a[i]
   have e:=qbp0 hX N n hN K m (i+1) (mkT (Ty.sl qt) k a[i]).1 (a.set i (mkT (Ty.sl qt) k a[i]).2) (by simpa using hm) (fun x hx=>by
    rcases List.mem_or_eq_of_mem_set hx with hx | rfl
    ·exact hmm x hx
    ·rw[hml];exact hmm _ (List.getElem_mem h)) (by simp;omega) (by simp;omega) (by omega) (by rw[List.drop_set_of_lt (by omega)];omega)
   refine Eq.trans e ?_
   rw[qnp h,q0 h,List.drop_set_of_lt (by omega),List.append_assoc]
   rfl
  ·rw[qo (by exact_mod_cast h),qbb h,List.take_of_length_le (by omega)]
   simp only[mkL,List.append_nil]
theorem qbo7 {X:Ext} (hX:XOk X) {n:Nat} (hn:W+3≤n) (a:List Row) (k:Int) (ha:a.length≤maxLen) (hr:∀ x∈a,x.length≤maxLen) (hk:0≤k) (h:k+cnt (.sl (Ty.sl qt)) a≤maxLen) :
  qsb (DD X n) a k=some (((mkT (.sl (Ty.sl qt)) k a).1,()),((mkT (.sl (Ty.sl qt)) k a).2,())):=by
 obtain ⟨n,rfl⟩:∃ k,n=k+1:=⟨n - 1,by omega⟩
 have hd:=qj
 rw[qbdn hX]
 simp only[qta,qsf,qpn]
 have:=qbp0 hX n n (by omega) (fun v w=>qjh (DD X n) n v w) n 0 k a ha hr (by omega) (by have:=qbo;omega) hk (by rw[List.drop_zero];exact h)
 rw[show ((0:Nat):Int)=0 from rfl] at this
 rw[this]
 simp only[List.take_zero,List.drop_zero,List.nil_append,qjh,mkT]
theorem qbrg {X:Ext} (hX:XOk X) (N n:Nat) (hN:W+2≤N) (K0:Int→Int→Option ((Int×Unit)×Unit)) (K1:Int→Option ((Int×Unit)×Unit)):∀ (m i:Nat) (k:Int) (a l:List Row),a.length≤maxLen→(∀ x∈l,x.length≤maxLen)→i≤a.length→a.length - i<m→0≤k→k+(l.map (cnt (Ty.sl qt))).sum≤maxLen→
  a.drop i=(mkL (mkT (Ty.sl qt)) k l).2→qfa (DD X N) n K0 K1 m a k i=K1 (mkL (mkT (Ty.sl qt)) k l).1
 | 0,_,_,_,_,_,_,_,h,_,_,_=>by omega
 | m+1,i,k,a,l,hm,hmm,hi,hf,hk,hkl,hl=>by
  simp only[qfa,qq1]
  have hd:=qj
  by_cases h:i<a.length
  ·rw[q0 h] at hl
   cases l with
   | nil=>simp[mkL] at hl;omega
   | cons x l=>
    simp only[mkL,List.cons.injEq] at hl
    obtain ⟨hx,hl⟩:=hl
    simp only[List.map_cons,List.sum_cons] at hkl
    have hc1:=qde (Ty.sl qt) k x
    have t1:=qbqo hX hN x k (hmm _ (List.mem_cons_self ..)) hk (by omega)
    have wi:IntKind.wrap IntKind.i64 ((i:Int)+1)=((i+1:Nat):Int):=qp (by omega)
    rw[qn (by exact_mod_cast h)]
    simp only[ix h,br_t,Int.toNat_natCast,q7 h,hx,t1,wi,qf]
    rw[qo (by omega)]
    exact qbrg hX N n hN K0 K1 m (i+1) (mkT (Ty.sl qt) k x).1 a l hm (fun y hy=>hmm y (List.mem_cons_of_mem _ hy)) (by omega) (by omega) (by omega) (by omega) hl
  ·rw[qo (by exact_mod_cast h)]
   rw[qbb h] at hl
   cases l with
   | nil=>rfl
   | cons x l=>simp[mkL] at hl
theorem qbpk {X:Ext} (hX:XOk X) {n:Nat} (hn:W+3≤n) (a:List Row) (k:Int) (ha:a.length≤maxLen) (hr:∀ x∈a,x.length≤maxLen) (hk:0≤k) (h:k+cnt (.sl (Ty.sl qt)) a≤maxLen) :
  qmv (DD X n) (mkT (.sl (Ty.sl qt)) k a).2 k=some (((mkT (.sl (Ty.sl qt)) k a).1,()),()):=by
 obtain ⟨n,rfl⟩:∃ k,n=k+1:=⟨n - 1,by omega⟩
 have hd:=qj
 rw[qbcg hX]
 simp only[qrx,qs1,qo9]
 have hml:(mkT (.sl (Ty.sl qt)) k a).2.length=a.length:=q5b k a
 have:=qbrg hX n n (by omega) (fun v w=>qog (DD X n) n v w) (fun v=>qjd (DD X n) n v) n 0 k (mkT (.sl (Ty.sl qt)) k a).2 a (by omega) hr (by omega) (by have:=qbo;omega) hk h (by simp[mkT])
 rw[show ((0:Nat):Int)=0 from rfl] at this
 rw[this]
 simp only[qjd,mkT]
instance decRows:DecidableEq (List Row):=inferInstance
instance decRel:DecidableEq Rel:=fun a b=>@instDecidableEqProd _ _ decSchema (@instDecidableEqProd _ _ decRows inferInstance) a b
theorem qbev (a:Rel):tot RelT a=tot qck a.1+(tot (.sl (Ty.sl qt)) a.2.1+0):=rfl
theorem qbze {X:Ext} (hX:XOk X) {n:Nat} (hn:W+5≤n) (a:Rel) (ha:Fit qbl RelT a):qhe (DD X n) a=some ((a,()),()):=by
 obtain ⟨n,rfl⟩:∃ k,n=k+1:=⟨n - 1,by omega⟩
 rw[qbe7 hX]
 simp only[qtx,q4r]
 rw[qbub hX (by omega) _ ha.1,qf,qbsk hX (by omega) _ ha.2.1,qf]
theorem qbs3 {X:Ext} (hX:XOk X) {n:Nat} (hn:W+5≤n) (a b:Rel) (hb:Fit maxLen RelT b):qhb (DD X n) a b=some ((decide (a=b),()),()):=by
 obtain ⟨n,rfl⟩:∃ k,n=k+1:=⟨n - 1,by omega⟩
 rw[qbgi hX]
 simp only[qui,q4o]
 rw[qbt5 hX (by omega) _ _ hb.1,qf,qbsj hX (by omega) _ _ hb.2.1,qf]
 obtain ⟨a1,a2,⟨⟩⟩:=a
 obtain ⟨b1,b2,⟨⟩⟩:=b
 by_cases h1:a1=b1<;>by_cases h2:a2=b2<;>simp[h1,h2,br]
theorem qbzg {X:Ext} (hX:XOk X) {n:Nat} (hn:W+5≤n) (a:Rel) (k:Int) (ha:Wf RelT a) (hk:0≤k∧k≤maxLen):qu2 (DD X n) a k=some ((left RelT a k,()),()):=by
 obtain ⟨n,rfl⟩:∃ k,n=k+1:=⟨n - 1,by omega⟩
 have hd:=qj
 have ht:=qbev a
 rw[qbgc hX]
 simp only[qux,q38]
 rw[qbuk hX (by omega) _ _ ha.1 hk,qf];dsimp only
 by_cases h:left qck a.1 k<0
 ·rw[qn h,qeb]
  intro h3
  rw[qdw (by omega)] at h
  omega
 ·obtain ⟨e1,e2⟩:=qfl h hk.1
  rw[qo h,e1,qbsn hX (by omega) _ _ ha.2.1 (by omega),qf];dsimp only
  by_cases h:left (.sl (Ty.sl qt)) a.2.1 (k - tot qck a.1)<0
  ·rw[qn h,qeb]
   intro h3
   rw[qdw (by omega)] at h
   omega
  ·obtain ⟨e3,e4⟩:=qfl h (by omega)
   rw[qo h,e3,qdw (by omega)]
   congr 3;omega
theorem qboq {X:Ext} (hX:XOk X) {n:Nat} (hn:W+4≤n) (a:Rel) (k:Int) (ha:Fit maxLen RelT a) (hk:0≤k) (h:k+cnt RelT a≤maxLen) :
  qk7 (DD X n) a k=some (((mkT RelT k a).1,()),((mkT RelT k a).2,())):=by
 obtain ⟨n,rfl⟩:∃ k,n=k+1:=⟨n - 1,by omega⟩
 have hc:cnt RelT a=cnt qck a.1+(cnt (.sl (Ty.sl qt)) a.2.1+0):=rfl
 have h1:=qde qck k a.1
 rw[qbbz hX]
 simp only[qq5,q0c]
 rw[qbp6 hX (by omega) _ _ ha.1 hk (by omega),qf];dsimp only
 rw[qbo7 hX (by omega) _ _ ha.2.1.1 (fun x hx=>(ha.2.1.2 x hx).1) (by omega) (by omega),qf]
 rfl
theorem qbvz {X:Ext} (hX:XOk X) {n:Nat} (hn:W+4≤n) (a:Rel) (k:Int) (ha:Fit maxLen RelT a) (hk:0≤k) (h:k+cnt RelT a≤maxLen) :
  qk9 (DD X n) (mkT RelT k a).2 k=some (((mkT RelT k a).1,()),()):=by
 obtain ⟨n,rfl⟩:∃ k,n=k+1:=⟨n - 1,by omega⟩
 have hc:cnt RelT a=cnt qck a.1+(cnt (.sl (Ty.sl qt)) a.2.1+0):=rfl
 have h1:=qde qck k a.1
 have h2:=qde (.sl (Ty.sl qt)) (mkT qck k a.1).1 a.2.1
 rw[qbay hX]
 simp only[qql,q0b]
 have e1:=qbq1 hX (n:=n) (by omega) a.1 k ha.1 hk (by omega)
 have e2:=qbpk hX (n:=n) (by omega) a.2.1 (mkT qck k a.1).1 ha.2.1.1 (fun x hx=>(ha.2.1.2 x hx).1) (by omega) (by omega)
 show qi (qn6 (DD X n) (mkT qck k a.1).2 k) _=_
 rw[e1,qf];dsimp only
 rw[qo (by omega)]
 show qi (qmv (DD X n) (mkT (.sl (Ty.sl qt)) (mkT qck k a.1).1 a.2.1).2 (mkT qck k a.1).1) _=_
 rw[e2,qf];dsimp only
 rw[qo (by omega)]
 rfl
structure RelSm (r:Rel):Prop where
 sch:SchSm r.1
 rows:r.2.1.length≤M
 row:∀ x∈r.2.1,x.length≤M
theorem qbw6 {r:Rel} (h:tot RelT r≤M):RelSm r:=by
 rw[qbev] at h
 have h1:=qoq (t:=(Ty.sl qt)) r.2.1
 refine ⟨qbxs (by omega),by omega,fun x hx=>?_⟩
 have:=q5d (t:=(Ty.sl qt)) hx
 have h2:=qoq (t:=qt) x
 have:x.length≤tot (Ty.sl qt) x:=by show x.length≤tot (.sl qt) x;omega
 omega
end Go.G

namespace Go.G
set_option maxRecDepth 100000
open Go Go.V Go.Proofs
theorem qbk1 {s:qb7} {row:Row} (h:qq6 s row=true):∀ v∈row,ql3 v=true:=by
 intro v hv
 obtain ⟨i,hi,rfl⟩:=List.mem_iff_getElem.1 hv
 simp only[qq6,Bool.and_eq_true,Bool.not_eq_true',decide_eq_true_eq] at h
 have k:=qez.1 h.2.2 i (by omega) (by omega)
 simp only[q5u,Bool.or_eq_false_iff,Bool.not_eq_false'] at k
 rw[←q7 (d:=vd) hi];exact k.1
def qov (s:qb7) (rows:List Row) (i:Nat):Bool:=
 !qq6 s (rows.getD i [])||((decide (0<i)&&!tlt (qs (rows.getD (i - 1) []) s.2.1) (qs (rows.getD i []) s.2.1))||qz (fun k=>qoa s (rows.getD i []) (rows.getD k [])) 0 i)
def qyl (r:Rel):Bool:=!qz (qov r.1 r.2.1) 0 r.2.1.length&&(qky r.1&&decide ((r.2.1.length:Int)≤12))
theorem qbyz (D:Den ctx) (r:Rel) (row x:Row):qcd ctx D (Clo.mk 80 [CapV.rptr (Ty.pair
          (Ty.pair (Ty.sl (Ty.pair Ty.str (Ty.pair (Ty.int IntKind.i64) (Ty.pair Ty.bool Ty.unit))))
           (Ty.pair (Ty.sl (Ty.int IntKind.i64))
            (Ty.pair (Ty.sl (Ty.pair Ty.str (Ty.pair (Ty.sl (Ty.int IntKind.i64)) (Ty.pair Ty.bool Ty.unit)))) Ty.unit)))
          (Ty.pair (Ty.sl (Ty.sl (Ty.pair (Ty.int IntKind.i64) (Ty.pair (Ty.int IntKind.i64) (Ty.pair Ty.str Ty.unit))))) Ty.unit)) r,CapV.rptr (Ty.sl (Ty.pair (Ty.int IntKind.i64) (Ty.pair (Ty.int IntKind.i64) (Ty.pair Ty.str Ty.unit)))) row]) [CapV.val (Ty.sl (Ty.pair (Ty.int IntKind.i64) (Ty.pair (Ty.int IntKind.i64) (Ty.pair Ty.str Ty.unit)))) x] Ty.bool=(q8q D x r row).bind fun q=>some q.1.1:=by kernel_rfl
theorem qbuy {α:Type} {l:List α} {i j:Nat} {d:α} (h:j<i):(l.take i).getD j d=l.getD j d:=by
 simp only[List.getD,List.getElem?_take]
 rw[if_pos h]
theorem qbr6 {X:Ext} (hX:XOk X) {n:Nat} (hn:W+9≤n) (r:Rel) (hr:RelSm r) (i:Nat) (hi:i<r.2.1.length) (hv:∀ v∈r.2.1.getD i [],ql3 v=true) :
  qbn (DD X n) (List.drop (Int.toNat 0) (List.take i r.2.1)) (Clo.mk 80 [CapV.rptr (Ty.pair
          (Ty.pair (Ty.sl (Ty.pair Ty.str (Ty.pair (Ty.int IntKind.i64) (Ty.pair Ty.bool Ty.unit))))
           (Ty.pair (Ty.sl (Ty.int IntKind.i64))
            (Ty.pair (Ty.sl (Ty.pair Ty.str (Ty.pair (Ty.sl (Ty.int IntKind.i64)) (Ty.pair Ty.bool Ty.unit)))) Ty.unit)))
          (Ty.pair (Ty.sl (Ty.sl (Ty.pair (Ty.int IntKind.i64) (Ty.pair (Ty.int IntKind.i64) (Ty.pair Ty.str Ty.unit))))) Ty.unit)) r,CapV.rptr (Ty.sl (Ty.pair (Ty.int IntKind.i64) (Ty.pair (Ty.int IntKind.i64) (Ty.pair Ty.str Ty.unit)))) (r.2.1.getD i [])])
   = some ((qz (fun k=>qoa r.1 (r.2.1.getD i []) (r.2.1.getD k [])) 0 i,()),()):=by
 have hM:=qcv
 have hd:=qj
 have h2:=hr.rows
 have hl:(List.drop (Int.toNat 0) (List.take i r.2.1)).length=i:=by
  show (List.take i r.2.1).length=i
  rw[List.length_take];omega
 have e:=qbn6 hX (n:=n) (by omega) (List.drop (Int.toNat 0) (List.take i r.2.1)) (by rw[hl];omega) (Clo.mk 80 [CapV.rptr (Ty.pair
          (Ty.pair (Ty.sl (Ty.pair Ty.str (Ty.pair (Ty.int IntKind.i64) (Ty.pair Ty.bool Ty.unit))))
           (Ty.pair (Ty.sl (Ty.int IntKind.i64))
            (Ty.pair (Ty.sl (Ty.pair Ty.str (Ty.pair (Ty.sl (Ty.int IntKind.i64)) (Ty.pair Ty.bool Ty.unit)))) Ty.unit)))
          (Ty.pair (Ty.sl (Ty.sl (Ty.pair (Ty.int IntKind.i64) (Ty.pair (Ty.int IntKind.i64) (Ty.pair Ty.str Ty.unit))))) Ty.unit)) r,CapV.rptr (Ty.sl (Ty.pair (Ty.int IntKind.i64) (Ty.pair (Ty.int IntKind.i64) (Ty.pair Ty.str Ty.unit)))) (r.2.1.getD i [])])
  (fun k=>qoa r.1 (r.2.1.getD i []) (r.2.1.getD k [])) (fun k hk=>by
   rw[hl] at hk
   obtain ⟨n,rfl⟩:∃ k,n=k+3:=⟨n - 3,by omega⟩
   rw[qbyz,show n+3 - 2=n+1 from rfl,qbmz hX]
   simp only[q1l,q8u]
   have hg:(List.drop (Int.toNat 0) (List.take i r.2.1)).getD k []=r.2.1.getD k []:=qbuy hk
   rw[hg,qbgx hX (by omega) r.1 hr.sch _ _ (hr.row _ (qc5 hi)) (hr.row _ (qc5 (by omega))) hv,qf]
   rfl)
 rw[hl] at e
 exact e
theorem qbsc {X:Ext} (hX:XC X) {n:Nat} (hn:W+10≤n) (r:Rel) (hr:RelSm r):q6j (DD X n) r=some ((qyl r,()),()):=by
 obtain ⟨n,rfl⟩:∃ k,n=k+1:=⟨n - 1,by omega⟩
 have hW:=qbo
 have hM:=qcv
 have h2:=hr.rows
 have hk:=hr.sch.key
 rw[qbrk hX.ok]
 simp only[q6q,q58,q0s]
 refine Eq.trans (qjc (L:=fun m i=>qlq (DD X n) n _ _ m r.2.1 r.2.1.length (i:Int) r) (N:=r.2.1.length) (P:=qov r.1 r.2.1)
  (A:=some ((false,()),())) (B:=some ((qky r.1&&decide ((r.2.1.length:Int)≤12),()),())) (fun m i hi=>?_) (m:=n) (by omega)) ?_
 ·simp only[qlq,q3v]
  by_cases h:i<r.2.1.length
  ·have hc1:(decide ((0:Nat)≤0)&&decide ((0:Int)≤(i:Int))&&decide ((i:Int)≤(r.2.1.length:Int)))=true:=by
    rw[decide_eq_true (by omega),decide_eq_true (by omega),decide_eq_true (by omega)];rfl
   have hri:=hr.row _ (qc5 (d:=[]) h)
   rw[qn (by exact_mod_cast h),ix h,br_t,Int.toNat_natCast,qbg1 hX.ok (n:=n) (by omega) r.1 hr.sch _ hri,qf,qp (by omega),if_pos h,hc1]
   dsimp only
   unfold qov
   cases hok:qq6 r.1 (r.2.1.getD i [])
   ·rfl
   ·have ec:=qbr6 hX.ok (n:=n) (by omega) r hr i h (qbk1 hok)
    rw[Bool.not_true,br_f,br_t,ec,qf,Bool.false_or]
    dsimp only
    by_cases h0:0<i
    ·have w1:IntKind.wrap IntKind.i64 ((i:Int) - 1)=((i - 1:Nat):Int):=by rw[qcc (by omega) (by omega)];omega
     have hrj:=hr.row _ (qc5 (d:=[]) (show i - 1<r.2.1.length by omega))
     have l1:=qkh (r.2.1.getD (i - 1) []) r.1.2.1
     rw[qn (by omega),w1,ix (i:=i - 1) (by omega),br_t,Int.toNat_natCast,qon hX.ok (by omega) r.1 _ hrj hk,qf]
     dsimp only
     rw[qon hX.ok (by omega) r.1 _ hri hk,qf]
     dsimp only
     rw[q64 hX (by omega) _ _ (by omega),qf,decide_eq_true h0]
     dsimp only
     cases tlt (qs (r.2.1.getD (i - 1) []) r.1.2.1) (qs (r.2.1.getD i []) r.1.2.1)<;>rfl
    ·rw[qo (by omega),decide_eq_false h0];rfl
  ·rw[qo (by exact_mod_cast h),if_neg h]
   simp only[qx9]
   rw[q8c hX.ok (by omega) r.1 hr.sch,qf,qjs]
 ·unfold qyl
  cases qz (qov r.1 r.2.1) 0 r.2.1.length<;>rfl
theorem qbr9 {X:Ext} (hX:XOk X) {n:Nat} (hn:W+8≤n) (r:Rel) (hr:RelSm r):q6b (DD X n) r=some ((qyl r,()),()):=by
 obtain ⟨n,rfl⟩:∃ k,n=k+1:=⟨n - 1,by omega⟩
 have hW:=qbo
 have hM:=qcv
 have h2:=hr.rows
 have hk:=hr.sch.key
 rw[qbqg hX]
 simp only[q5w,q6h,q1u]
 refine Eq.trans (qjc (L:=fun m i=>qey (DD X n) n _ _ m (i:Int) r) (N:=r.2.1.length) (P:=qov r.1 r.2.1)
  (A:=some ((false,()),())) (B:=some ((qky r.1&&decide ((r.2.1.length:Int)≤12),()),())) (fun m i hi=>?_) (m:=n) (by omega)) ?_
 ·simp only[qey,q3e,q0o]
  by_cases h:i<r.2.1.length
  ·have hri:=hr.row _ (qc5 (d:=[]) h)
   have el:=qjc (L:=fun q k=>qlr (DD X n) n (fun v0_0 v0_1 v0_2=>qzi (DD X n) n (qey (DD X n) n (fun v0_0 v0_1=>qgw (DD X n) n v0_0 v0_1) (fun v1_0=>qe4 (DD X n) n v1_0) m) (fun v0_0 v0_1=>qgw (DD X n) n v0_0 v0_1) (fun v1_0=>qe4 (DD X n) n v1_0) v0_0 v0_1 v0_2)
      (fun v1_0 v1_1=>qrb (DD X n) n (qey (DD X n) n (fun v0_0 v0_1=>qgw (DD X n) n v0_0 v0_1) (fun v1_0=>qe4 (DD X n) n v1_0) m) (fun v0_0 v0_1=>qgw (DD X n) n v0_0 v0_1) (fun v1_0=>qe4 (DD X n) n v1_0) v1_0 v1_1) q (i:Int) (k:Int) r)
     (N:=i) (P:=fun k=>qoa r.1 (r.2.1.getD i []) (r.2.1.getD k []))
     (A:=some ((false,()),())) (B:=qey (DD X n) n (fun v0_0 v0_1=>qgw (DD X n) n v0_0 v0_1) (fun v1_0=>qe4 (DD X n) n v1_0) m ((i+1:Nat):Int) r) (fun q k hk2=>by
    simp only[qlr,q3r]
    by_cases h3:k<i
    ·rw[qn (by exact_mod_cast h3),ix (i:=k) (by omega),br_t,ix h,br_t,Int.toNat_natCast,Int.toNat_natCast,qbgr hX (by omega) r.1 hr.sch _ _ (hr.row _ (qc5 (by omega))) hri,qf,qp (by omega),if_pos h3,q41]
     rfl
    ·rw[qo (by exact_mod_cast h3),if_neg h3]
     simp only[qrb]
     rw[qp (by omega)]) (m:=n) (by omega)
   simp only[Int.natCast_zero] at el
   rw[qn (by exact_mod_cast h),ix h,br_t,Int.toNat_natCast,qbgu hX (n:=n) (by omega) r.1 hr.sch _ hri,qf,if_pos h]
   dsimp only
   unfold qov
   cases hok:qq6 r.1 (r.2.1.getD i [])
   ·rfl
   ·rw[Bool.not_true,br_f,Bool.false_or]
    by_cases h0:0<i
    ·have w1:IntKind.wrap IntKind.i64 ((i:Int) - 1)=((i - 1:Nat):Int):=by rw[qcc (by omega) (by omega)];omega
     have hrj:=hr.row _ (qc5 (d:=[]) (show i - 1<r.2.1.length by omega))
     have l1:=qkh (r.2.1.getD (i - 1) []) r.1.2.1
     rw[qn (by omega),w1,ix (i:=i - 1) (by omega),br_t,Int.toNat_natCast,qkn hX (by omega) r.1 _ hrj hk,qf]
     dsimp only
     rw[br_t,qkn hX (by omega) r.1 _ hri hk,qf]
     dsimp only
     rw[q7c hX (by omega) _ _ (by omega),qf,decide_eq_true h0]
     dsimp only
     cases tlt (qs (r.2.1.getD (i - 1) []) r.1.2.1) (qs (r.2.1.getD i []) r.1.2.1)
     ·rfl
     ·exact el
    ·rw[qo (by omega),decide_eq_false h0];exact el
  ·rw[qo (by exact_mod_cast h),if_neg h]
   simp only[qe4]
   rw[q8o hX (by omega) r.1 hr.sch,qf,qjs]
 ·unfold qyl
  cases qz (qov r.1 r.2.1) 0 r.2.1.length<;>rfl
def qbj8 (r:Rel) (key:Row) (i:Nat):Bool:=decide (qs (r.2.1.getD i []) r.1.2.1=key)
def q46 (r:Rel) (key:Row):Option Nat:=qbc (qbj8 r key) 0 r.2.1.length
theorem qbwg (D:Den ctx) (r:Rel) (key x:Row):qcd ctx D (Clo.mk 153 [CapV.rptr (Ty.pair
          (Ty.pair (Ty.sl (Ty.pair Ty.str (Ty.pair (Ty.int IntKind.i64) (Ty.pair Ty.bool Ty.unit))))
           (Ty.pair (Ty.sl (Ty.int IntKind.i64))
            (Ty.pair (Ty.sl (Ty.pair Ty.str (Ty.pair (Ty.sl (Ty.int IntKind.i64)) (Ty.pair Ty.bool Ty.unit)))) Ty.unit)))
          (Ty.pair (Ty.sl (Ty.sl (Ty.pair (Ty.int IntKind.i64) (Ty.pair (Ty.int IntKind.i64) (Ty.pair Ty.str Ty.unit))))) Ty.unit)) r,CapV.rptr (Ty.sl (Ty.pair (Ty.int IntKind.i64) (Ty.pair (Ty.int IntKind.i64) (Ty.pair Ty.str Ty.unit)))) key]) [CapV.val (Ty.sl (Ty.pair (Ty.int IntKind.i64) (Ty.pair (Ty.int IntKind.i64) (Ty.pair Ty.str Ty.unit)))) x] Ty.bool=(q8x D x r key).bind fun q=>some q.1.1:=by kernel_rfl
theorem qbx9 {X:Ext} (hX:XOk X) {n:Nat} (hn:W+6≤n) (r:Rel) (hr:RelSm r) (key:Row):q5z (DD X n) r key=some ((match q46 r key with | some j=>(j:Int) | none=>-1,()),()):=by
 obtain ⟨n,rfl⟩:∃ k,n=k+1:=⟨n - 1,by omega⟩
 have hM:=qcv
 have hd:=qj
 have h2:=hr.rows
 have hk:=hr.sch.key
 rw[qbrr hX]
 simp only[q56,qbch]
 rw[qbid hX (n:=n) (by omega) _ (by omega) _ (qbj8 r key) (fun i hi=>by
  obtain ⟨n,rfl⟩:∃ k,n=k+2:=⟨n - 2,by omega⟩
  rw[qbwg,show n+2 - 1=n+1 from rfl,qbnz hX]
  simp only[q10,q85]
  have l1:=qkh (r.2.1.getD i []) r.1.2.1
  rw[qon hX (by omega) r.1 _ (hr.row _ (qc5 hi)) hk,qf]
  dsimp only
  rw[qbsz hX (by omega) _ _ (by omega),qf]
  rfl),qf]
 rfl
theorem qbyq {X:Ext} (hX:XOk X) {n:Nat} (hn:W+6≤n) (r:Rel) (hr:RelSm r) (key:Row):q6e (DD X n) r key=some ((match q46 r key with | some j=>(j:Int) | none=>-1,()),()):=by
 obtain ⟨n,rfl⟩:∃ k,n=k+1:=⟨n - 1,by omega⟩
 have hM:=qcv
 have hW:=qbo
 have h2:=hr.rows
 have hk:=hr.sch.key
 rw[qbp7 hX]
 simp only[q51,q6r,q1q]
 refine Eq.trans (qyk (L:=fun m i=>ql1 (DD X n) n _ _ m key (i:Int) r) (N:=r.2.1.length) (P:=qbj8 r key)
  (A:=fun j=>some (((j:Int),()),())) (B:=some ((-1,()),())) (fun m i hi=>?_) (m:=n) (by omega)) ?_
 ·simp only[ql1,q28]
  by_cases h:i<r.2.1.length
  ·have l1:=qkh (r.2.1.getD i []) r.1.2.1
   rw[qn (by exact_mod_cast h),ix h,br_t,Int.toNat_natCast,qkn hX (by omega) r.1 _ (hr.row _ (qc5 h)) hk,qf]
   dsimp only
   rw[qbog hX (by omega) _ _ (by omega),qf,qp (by omega),if_pos h]
   rfl
  ·rw[qo (by exact_mod_cast h),if_neg h];rfl
 ·unfold q46
  cases qbc (qbj8 r key) 0 r.2.1.length<;>rfl
theorem qbaa {X:Ext} (hX:XOk X) {n:Nat} (hn:1≤n) (a:Row) (ha:a.length≤qbl):qcl (DD X n) a=some ((a,()),()):=by
 obtain ⟨n,rfl⟩:∃ k,n=k+1:=⟨n - 1,by omega⟩
 rw[qs6 hX]
 simp only[qeu,qi6]
 have hc:decide (0+a.length≤qbl)=true:=decide_eq_true (by omega)
 rw[hc,br_t,List.nil_append]
 cases a with
 | nil=>simp[qbra,both]
 | cons x a=>rw[qo (by simp)]
def lookup (r:Rel) (key:Row):Row×Bool:=match q46 r key with | some j=>if qyl r=true then (r.2.1.getD j [],true) else ([],false) | none=>([],false)
end Go.G

namespace Go.G
set_option maxRecDepth 100000
open Go Go.V Go.Proofs
theorem qbgo {X:Ext} (hX:XOk X) {n:Nat} (hn:1≤n) (a:List Int) (ha:a.length≤qbl):qiy (DD X n) a=some ((a,()),()):=by
 obtain ⟨n,rfl⟩:∃ k,n=k+1:=⟨n - 1,by omega⟩
 rw[q70 hX]
 simp only[qno,qvh]
 have hc:decide (0+a.length≤qbl)=true:=decide_eq_true (by omega)
 rw[hc,br_t,List.nil_append]
 cases a with
 | nil=>simp[qbra,both]
 | cons x a=>rw[qo (by simp)]
theorem qbso {X:Ext} (hX:XOk X) {n:Nat} (hn:1≤n) (a:List Col) (ha:a.length≤qbl):qfx (DD X n) a=some ((a,()),()):=by
 obtain ⟨n,rfl⟩:∃ k,n=k+1:=⟨n - 1,by omega⟩
 rw[qv7 hX]
 simp only[qfw,qk0]
 have hc:decide (0+a.length≤qbl)=true:=decide_eq_true (by omega)
 rw[hc,br_t,List.nil_append]
 cases a with
 | nil=>simp[qbra,both]
 | cons x a=>rw[qo (by simp)]
theorem qbuw {X:Ext} (hX:XOk X) (N n:Nat) (hN:1≤N) (K:qb7→qb7→Option ((qb7×Unit)×Unit)) (xs:List qdn) (hx:xs.length≤M) (hc:∀ x∈xs,x.2.1.length≤M) (z:qb7) (c:List Col) (k:List Int):∀ (m i:Nat) (acc:List qdn),i≤xs.length→xs.length - i<m→acc.length≤i→
  qga (DD X N) n K m xs xs.length (i:Int) z (c,k,acc,())=K z (c,k,acc++xs.drop i,())
 | 0,_,_,_,h,_=>by omega
 | m+1,i,acc,hi,hf,ha=>by
  have hM:=qcv
  have hb:=qdi
  simp only[qga,qrv]
  by_cases h:i<xs.length
  ·rw[qn (by exact_mod_cast h),ix h,br_t,Int.toNat_natCast,qp (by omega),q0 h,q7 h]
   have:=hc _ (List.getElem_mem h)
   rw[qbgo hX hN _ (by omega),qf,qn (by omega)]
   refine Eq.trans (qbuw hX N n hN K xs hx hc z c k m (i+1) _ (by omega) (by omega) (by simp;omega)) ?_
   rw[List.append_assoc];rfl
  ·rw[qo (by exact_mod_cast h),qbb h,List.append_nil]
theorem qbht {X:Ext} (hX:XOk X) {n:Nat} (hn:W+3≤n) (s:qb7) (hs:SchSm s):qt6 (DD X n) s=some ((s,()),()):=by
 obtain ⟨n,rfl⟩:∃ k,n=k+1:=⟨n - 1,by omega⟩
 have hM:=qcv
 have hb:=qdi
 have hW:=qbo
 have h1:=hs.cols
 have h2:=hs.key
 have h3:=hs.ixs
 rw[qbfp hX]
 simp only[qup,quy,qq2]
 rw[qbso hX (by omega) _ (by omega),qf,qbgo hX (by omega) _ (by omega),qf]
 dsimp only
 refine Eq.trans (qbuw hX n n (by omega) _ s.2.2.1 h3 hs.ixc _ s.1 s.2.1 n 0 [] (by omega) (by omega) (by simp)) ?_
 rfl
theorem qblb {X:Ext} (D:Den ctx) (n:Nat) (K:qb7→qb7→Option ((qb7×Unit)×Unit)) (s:qb7) (hx:s.2.2.1.length≤M) (hc:∀ x∈s.2.2.1,x.2.1.length≤M) (z:qb7) (c:List Col) (k:List Int):∀ (m i:Nat) (acc:List qdn),i≤s.2.2.1.length→s.2.2.1.length - i<m→acc.length≤i→
  qji D n K m (i:Int) s z (c,k,acc,())=K z (c,k,acc++s.2.2.1.drop i,())
 | 0,_,_,_,h,_=>by omega
 | m+1,i,acc,hi,hf,ha=>by
  have hM:=qcv
  have hb:=qdi
  simp only[qji,qyt]
  by_cases h:i<s.2.2.1.length
  ·have:=hc _ (List.getElem_mem h)
   rw[qn (by exact_mod_cast h),ix h,br_t,Int.toNat_natCast,qp (by omega),q0 h,q7 h,qn (by omega),qn (by omega)]
   refine Eq.trans (qblb (X:=X) D n K s hx hc z c k m (i+1) _ (by omega) (by omega) (by simp;omega)) ?_
   rw[List.append_assoc];rfl
  ·rw[qo (by exact_mod_cast h),qbb h,List.append_nil]
theorem qbh9 {X:Ext} (hX:XOk X) {n:Nat} (hn:W+3≤n) (s:qb7) (hs:SchSm s):q1y (DD X n) s=some ((s,()),()):=by
 obtain ⟨n,rfl⟩:∃ k,n=k+1:=⟨n - 1,by omega⟩
 have hM:=qcv
 have hb:=qdi
 have hW:=qbo
 have h1:=hs.cols
 have h2:=hs.key
 have h3:=hs.ixs
 rw[qbnx hX]
 simp only[q13,q1f,qv6]
 rw[qn (by omega),qn (by omega)]
 refine Eq.trans (qblb (X:=X) (DD X n) n _ s h3 hs.ixc _ ([]++s.1) ([]++s.2.1) n 0 [] (by omega) (by omega) (by simp)) ?_
 rfl
end Go.G

namespace Go.G
set_option maxRecDepth 100000
open Go Go.V Go.Proofs
theorem qbu6 (D:Den ctx) (n:Nat) (K:List Row→Option ((List Row×Unit)×Unit)) (a:List Row) (ha:a.length≤M) (hr:∀ x∈a,x.length≤M):∀ (m i:Nat) (acc:List Row),i≤a.length→a.length - i<m→acc.length≤i→
  qjg D n K m a (i:Int) acc=K (acc++a.drop i)
 | 0,_,_,_,h,_=>by omega
 | m+1,i,acc,hi,hf,hl=>by
  have hM:=qcv
  have hb:=qdi
  simp only[qjg,qzu]
  by_cases h:i<a.length
  ·have:=hr _ (List.getElem_mem h)
   rw[qn (by exact_mod_cast h),ix h,br_t,Int.toNat_natCast,q7 h,qn (by omega),qn (by omega),qp (by omega),q0 h]
   refine Eq.trans (qbu6 D n K a ha hr m (i+1) _ (by omega) (by omega) (by simp;omega)) ?_
   rw[List.append_assoc];rfl
  ·rw[qo (by exact_mod_cast h),qbb h,List.append_nil]
theorem qbb5 {X:Ext} (hX:XOk X) {n:Nat} (hn:W+1≤n) (a:List Row) (ha:a.length≤M) (hr:∀ x∈a,x.length≤M):qof (DD X n) a=some ((a,()),()):=by
 obtain ⟨n,rfl⟩:∃ k,n=k+1:=⟨n - 1,by omega⟩
 have hM:=qcv
 have hW:=qbo
 rw[qbmn hX]
 simp only[q1z,q0t,qxa]
 refine Eq.trans (qbu6 (DD X n) n _ a ha hr n 0 [] (by omega) (by omega) (by simp)) ?_
 rfl
theorem qbrs {X:Ext} (hX:XOk X) (N n:Nat) (hN:1≤N) (K:List Row→Option ((List Row×Unit)×Unit)) (a:List Row) (ha:a.length≤M) (hr:∀ x∈a,x.length≤M):∀ (m i:Nat) (acc:List Row),i≤a.length→a.length - i<m→acc.length≤i→
  qf2 (DD X N) n K m a (a.length:Int) (i:Int) acc=K (acc++a.drop i)
 | 0,_,_,_,h,_=>by omega
 | m+1,i,acc,hi,hf,hl=>by
  have hM:=qcv
  have hb:=qdi
  simp only[qf2,qr9]
  by_cases h:i<a.length
  ·have:=hr _ (List.getElem_mem h)
   rw[qn (by exact_mod_cast h),ix h,br_t,Int.toNat_natCast,q7 h,qbaa hX hN _ (by omega),qf,qn (by omega),qp (by omega),q0 h]
   refine Eq.trans (qbrs hX N n hN K a ha hr m (i+1) _ (by omega) (by omega) (by simp;omega)) ?_
   rw[List.append_assoc];rfl
  ·rw[qo (by exact_mod_cast h),qbb h,List.append_nil]
theorem qbqz {X:Ext} (hX:XOk X) {n:Nat} (hn:W+2≤n) (a:List Row) (ha:a.length≤M) (hr:∀ x∈a,x.length≤M):qvd (DD X n) a=some ((a,()),()):=by
 obtain ⟨n,rfl⟩:∃ k,n=k+1:=⟨n - 1,by omega⟩
 have hM:=qcv
 have hW:=qbo
 rw[qbfe hX]
 simp only[qub,qt7,qqi]
 refine Eq.trans (qbrs hX n n (by omega) _ a ha hr n 0 [] (by omega) (by omega) (by simp)) ?_
 rfl
theorem qbu2 {X:Ext} (hX:XOk X) {n:Nat} (hn:W+4≤n) (r:Rel) (hr:RelSm r):q1m (DD X n) r=some ((r,()),()):=by
 obtain ⟨n,rfl⟩:∃ k,n=k+1:=⟨n - 1,by omega⟩
 rw[qbmh hX]
 simp only[q00,q8n]
 rw[qbh9 hX (by omega) _ hr.sch,qf,qbb5 hX (by omega) _ hr.rows hr.row,qf]
theorem qbmg {X:Ext} (hX:XOk X) {n:Nat} (hn:W+4≤n) (r:Rel) (hr:RelSm r):qqk (DD X n) r=some ((r,()),()):=by
 obtain ⟨n,rfl⟩:∃ k,n=k+1:=⟨n - 1,by omega⟩
 rw[qbbj hX]
 simp only[qqu,qz7]
 rw[qbht hX (by omega) _ hr.sch,qf,qbqz hX (by omega) _ hr.rows hr.row,qf]
def others (r:Rel) (row:Row) (j:Int):Bool:=qz (fun k=>!decide ((k:Int)=j)&&qoa r.1 (r.2.1.getD k []) row) 0 r.2.1.length
theorem qbsd {X:Ext} (hX:XOk X) {n:Nat} (hn:W+4≤n) (r:Rel) (hr:RelSm r) (row:Row) (hw:row.length≤M) (j:Int):qww (DD X n) r row j=some ((others r row j,()),()):=by
 obtain ⟨n,rfl⟩:∃ k,n=k+1:=⟨n - 1,by omega⟩
 have hM:=qcv
 have hW:=qbo
 have h2:=hr.rows
 rw[qbhq hX]
 simp only[qw9,qwv,qsp]
 refine Eq.trans (qjc (L:=fun m i=>qhf (DD X n) n _ _ m row j (i:Int) r) (N:=r.2.1.length) (P:=fun k=>!decide ((k:Int)=j)&&qoa r.1 (r.2.1.getD k []) row)
  (A:=some ((true,()),())) (B:=some ((false,()),())) (fun m i hi=>?_) (m:=n) (by omega)) ?_
 ·simp only[qhf,quv]
  by_cases h:i<r.2.1.length
  ·rw[qn (by exact_mod_cast h),ix h,br_t,Int.toNat_natCast,qbgr hX (by omega) r.1 hr.sch _ _ (hr.row _ (qc5 h)) hw,qf,qp (by omega),if_pos h,qxd]
   cases decide ((i:Int)=j)<;>rfl
  ·rw[qo (by exact_mod_cast h),if_neg h];rfl
 ·unfold others
  cases qz (fun k=>!decide ((k:Int)=j)&&qoa r.1 (r.2.1.getD k []) row) 0 r.2.1.length<;>rfl
end Go.G

namespace Go.G
set_option maxRecDepth 100000
open Go Go.V Go.Proofs
def qos (r:Rel) (key:Row):Nat:=match qbc (fun i=>!tlt (qs (r.2.1.getD i []) r.1.2.1) key) 0 r.2.1.length with | some j=>j | none=>r.2.1.length
theorem qbow (r:Rel) (key:Row):qos r key≤r.2.1.length:=by
 unfold qos
 split
 ·rename_i j h
  have:=qou h;omega
 ·exact Nat.le_refl _
def qcw (r:Rel) (row:Row):Rel×Int:=
 if qyl r=true∧qq6 r.1 row=true then
  match q46 r (qs row r.1.2.1) with
  | some j=>(r,2)
  | none=>if others r row (-1)=true then (r,3) else if (r.2.1.length:Int)≥12 then (r,5) else
   ((r.1,r.2.1.take (qos r (qs row r.1.2.1))++[row]++r.2.1.drop (qos r (qs row r.1.2.1)),()),0)
 else (r,1)
theorem qbxz {X:Ext} (hX:XOk X) (N n:Nat) (hN:W+1≤N) (r:Rel) (hr:RelSm r) (row:Row) (hw:row.length≤M) (z:Rel) (p:Nat) (hp:p≤r.2.1.length) :
  qih (DD X N) n row (p:Int) r z r=some (((r.1,r.2.1.take p++[row]++r.2.1.drop p,()),0,()),()):=by
 have hM:=qcv
 have hb:=qdi
 have h2:=hr.rows
 have c1:(decide ((0:Nat)≤0)&&decide ((0:Int)≤(p:Int))&&decide ((p:Int)≤(r.2.1.length:Int)))=true:=by
  rw[decide_eq_true (by omega),decide_eq_true (by omega),decide_eq_true (by omega)];rfl
 have c2:(decide ((0:Int)≤(p:Int))&&decide ((p:Int)≤(r.2.1.length:Int))&&decide ((r.2.1.length:Int)≤(r.2.1.length:Int)))=true:=by
  rw[decide_eq_true (by omega),decide_eq_true (by omega),decide_eq_true (by omega)];rfl
 have t1:List.drop (Int.toNat 0) (List.take p r.2.1)=r.2.1.take p:=rfl
 simp only[qih]
 rw[c1,br_t,c2,Int.toNat_natCast,Int.toNat_natCast,t1,List.take_length,qbb5 hX hN _ (by rw[List.length_take];omega) (fun x hx=>hr.row x (List.mem_of_mem_take hx)),qf]
 dsimp only
 rw[qn (by omega),qn (by rw[List.length_take];omega),br_t,qbb5 hX hN _ (by rw[List.length_drop];omega) (fun x hx=>hr.row x (List.mem_of_mem_drop hx)),qf]
 dsimp only
 rw[qn (by simp only[List.length_append,List.length_take,List.length_drop,List.length_cons,List.length_nil];omega)]
 rfl
theorem qbr0 {X:Ext} (hX:XOk X) {n:Nat} (hn:W+9≤n) (r:Rel) (hr:RelSm r) (row:Row) (hw:row.length≤M):q3i (DD X n) r row=some (((qcw r row).1,(qcw r row).2,()),()):=by
 obtain ⟨n,rfl⟩:∃ k,n=k+1:=⟨n - 1,by omega⟩
 have hM:=qcv
 have hW:=qbo
 have hb:=qdi
 have h2:=hr.rows
 have hk:=hr.sch.key
 rw[qbpi hX]
 simp only[q30,q3k,qzg]
 rw[qbu2 hX (by omega) r hr,qf,qbr9 hX (by omega) r hr,qf,qbgu hX (by omega) r.1 hr.sch row hw,qf,qkn hX (by omega) r.1 row hw hk,qf]
 dsimp only
 rw[qbyq hX (by omega) r hr,qf]
 dsimp only
 rw[qbsd hX (by omega) r hr row hw,qf]
 unfold qcw
 cases qyl r
 ·rfl
 ·cases qq6 r.1 row
  ·rfl
  ·rw[if_pos ⟨rfl,rfl⟩,Bool.not_true,br_f,br_f]
   cases hkey:q46 r (qs row r.1.2.1) with
   | some j=>
    dsimp only
    rw[qn (show (j:Int)≥0 by omega)]
   | none=>
    dsimp only
    rw[qo (by decide)]
    cases others r row (-1)
    ·rw[br_f,if_neg Bool.noConfusion]
     by_cases h12:(r.2.1.length:Int)≥12
     ·rw[qn h12,if_pos h12]
     ·rw[qo h12,if_neg h12]
      refine Eq.trans (qyk (L:=fun m i=>qkj (DD X n) n _ m row (i:Int) r (([],[],[],()),[],()) r) (N:=r.2.1.length) (P:=fun i=>!tlt (qs (r.2.1.getD i []) r.1.2.1) (qs row r.1.2.1))
       (A:=fun j=>qih (DD X n) n row (j:Int) r (([],[],[],()),[],()) r) (B:=qih (DD X n) n row (r.2.1.length:Int) r (([],[],[],()),[],()) r) (fun m i hi=>?_) (m:=n) (by omega)) ?_
      ·simp only[qkj,q07]
       by_cases h:i<r.2.1.length
       ·have l1:=qkh (r.2.1.getD i []) r.1.2.1
        rw[qn (by exact_mod_cast h),ix h,br_t,Int.toNat_natCast,qkn hX (by omega) r.1 _ (hr.row _ (qc5 h)) hk,qf,qkn hX (by omega) r.1 row hw hk,qf]
        dsimp only
        rw[q7c hX (by omega) _ _ (by omega),qf,qp (by omega),if_pos h]
        dsimp only
        cases tlt (qs (r.2.1.getD i []) r.1.2.1) (qs row r.1.2.1)<;>rfl
       ·have hin:i=r.2.1.length:=by omega
        rw[qo (by exact_mod_cast h),if_neg h,hin]
      ·unfold qos
       cases hf:qbc (fun i=>!tlt (qs (r.2.1.getD i []) r.1.2.1) (qs row r.1.2.1)) 0 r.2.1.length with
       | none=>exact qbxz hX n n (by omega) r hr row hw _ _ (Nat.le_refl _)
       | some j=>
        have:=qou hf
        exact qbxz hX n n (by omega) r hr row hw _ j (by omega)
    ·rfl
end Go.G

namespace Go.G
set_option maxRecDepth 100000
open Go Go.V Go.Proofs
theorem qbsx:∀ (x y:List UInt8),Op.bytesLess x y=decide (x<y)
 | [],[]=>by simp[Op.bytesLess]
 | _::_,[]=>by simp[Op.bytesLess]
 | [],_::_=>by simp[Op.bytesLess]
 | a::x,b::y=>by
  rw[Op.bytesLess,qbsx x y]
  simp only[List.cons_lt_cons_iff]
  by_cases h1:a<b<;>by_cases h2:a=b<;>by_cases h3:x<y<;>simp[h1,h2,h3]
theorem qbv7 {a b:ByteArray} (h:a.toList=b.toList):a=b:=by
 have h2:a.data.toList=b.data.toList:=by simpa [ByteArray.toList_eq] using h
 cases a;cases b
 simp only[ByteArray.mk.injEq]
 exact Array.toList_inj.1 h2
theorem qben (a b:Value):vlt a b=true↔a.1<b.1∨(a.1=b.1∧(a.2.1<b.2.1∨(a.2.1=b.2.1∧a.2.2.1.toList<b.2.2.1.toList))):=by
 simp only[vlt,qbsx]
 by_cases h1:a.1=b.1
 ·by_cases h2:a.2.1=b.2.1
  ·rw[decide_eq_true h1,decide_eq_true h2];simp[h1,h2]
  ·rw[decide_eq_true h1,decide_eq_false h2];simp[h1,h2]
 ·rw[decide_eq_false h1];simp[h1]
theorem qbt2 (a:Value):¬ vlt a a=true:=by
 rw[qben]
 rintro (h | ⟨_,h | ⟨_,h⟩⟩)
 ·omega
 ·omega
 ·exact List.lt_irrefl _ h
theorem qbvt {a b c:Value} (h:vlt a b=true) (k:vlt b c=true):vlt a c=true:=by
 rw[qben] at *
 rcases h with h | ⟨h,h2⟩
 ·rcases k with k | ⟨k,_⟩
  ·exact .inl (by omega)
  ·exact .inl (by omega)
 ·rcases k with k | ⟨k,k2⟩
  ·exact .inl (by omega)
  ·refine .inr ⟨by omega,?_⟩
   rcases h2 with h2 | ⟨h2,h3⟩
   ·rcases k2 with k2 | ⟨k2,_⟩
    ·exact .inl (by omega)
    ·exact .inl (by omega)
   ·rcases k2 with k2 | ⟨k2,k3⟩
    ·exact .inl (by omega)
    ·exact .inr ⟨by omega,List.lt_trans h3 k3⟩
theorem qbv9 (a b:Value):vlt a b=true∨a=b∨vlt b a=true:=by
 rw[qben,qben]
 obtain ⟨a1,a2,a3,⟨⟩⟩:=a
 obtain ⟨b1,b2,b3,⟨⟩⟩:=b
 dsimp only
 by_cases h1:a1<b1
 ·exact .inl (.inl h1)
 ·by_cases h2:b1<a1
  ·exact .inr (.inr (.inl h2))
  ·have e1:a1=b1:=by omega
   by_cases h3:a2<b2
   ·exact .inl (.inr ⟨e1,.inl h3⟩)
   ·by_cases h4:b2<a2
    ·exact .inr (.inr (.inr ⟨e1.symm,.inl h4⟩))
    ·have e2:a2=b2:=by omega
     by_cases h5:a3.toList<b3.toList
     ·exact .inl (.inr ⟨e1,.inr ⟨e2,h5⟩⟩)
     ·by_cases h6:b3.toList<a3.toList
      ·exact .inr (.inr (.inr ⟨e1.symm,.inr ⟨e2.symm,h6⟩⟩))
      ·have e3:a3=b3:=qbv7 (List.le_antisymm (List.not_lt.1 h6) (List.not_lt.1 h5))
       subst e1;subst e2;subst e3
       exact .inr (.inl rfl)
theorem qbjo:∀ (a:Row),tlt a a=false
 | []=>rfl
 | x::a=>by
  show (if x=x then tlt a a else vlt x x)=false
  rw[if_pos rfl];exact qbjo a
theorem qbcy:∀ {a b c:Row},tlt a b=true→tlt b c=true→tlt a c=true
 | [],[],_,h,_=>by simp[tlt] at h
 | [],_::_,[],_,k=>by simp[tlt] at k
 | [],_::_,_::_,_,_=>rfl
 | _::_,[],_,h,_=>by simp[tlt] at h
 | _::_,_::_,[],_,k=>by simp[tlt] at k
 | x::a,y::b,z::c,h,k=>by
  simp only[tlt] at *
  by_cases e1:x=y
  ·subst e1
   rw[if_pos rfl] at h
   by_cases e2:x=z
   ·rw[if_pos e2] at k ⊢;exact qbcy h k
   ·rw[if_neg e2] at k ⊢;exact k
  ·rw[if_neg e1] at h
   by_cases e2:y=z
   ·subst e2;rw[if_neg e1];exact h
   ·rw[if_neg e2] at k
    have:=qbvt h k
    rw[if_neg (fun e=>qbt2 x (by rw[←e] at this;exact this))]
    exact this
theorem qbom:∀ (a b:Row),tlt a b=true∨a=b∨tlt b a=true
 | [],[]=>.inr (.inl rfl)
 | [],_::_=>.inl rfl
 | _::_,[]=>.inr (.inr rfl)
 | x::a,y::b=>by
  simp only[tlt]
  by_cases e:x=y
  ·subst e
   rw[if_pos rfl,if_pos rfl]
   rcases qbom a b with h | h | h
   ·exact .inl h
   ·exact .inr (.inl (by rw[h]))
   ·exact .inr (.inr h)
  ·rw[if_neg e,if_neg (fun k=>e k.symm)]
   rcases qbv9 x y with h | h | h
   ·exact .inl h
   ·exact absurd h e
   ·exact .inr (.inr h)
theorem qbol {a b:Row} (h:tlt a b=true):tlt b a=false:=by
 cases k:tlt b a
 ·rfl
 ·have:=qbcy h k
  rw[qbjo] at this;cases this
def qbzz (s:qb7) (a b:Row):Prop:=tlt (qs a s.2.1) (qs b s.2.1)=true∧qoa s a b=false
theorem qbu5 (r:Rel):qyl r=true↔qky r.1=true∧r.2.1.length≤12∧(∀ x∈r.2.1,qq6 r.1 x=true)∧r.2.1.Pairwise (qbzz r.1):=by
 simp only[qyl,Bool.and_eq_true,Bool.not_eq_true',decide_eq_true_eq]
 constructor
 ·rintro ⟨h1,h2,h3⟩
  have hb:∀ i,i<r.2.1.length→qov r.1 r.2.1 i=false:=fun i hi=>qez.1 h1 i (by omega) (by omega)
  refine ⟨h2,by omega,fun x hx=>?_,?_⟩
  ·obtain ⟨i,hi,rfl⟩:=List.mem_iff_getElem.1 hx
   have:=hb i hi
   simp only[qov,Bool.or_eq_false_iff,Bool.not_eq_false'] at this
   rw[←q7 (d:=[]) hi];exact this.1
  ·have hk:∀ d i,i+d+1<r.2.1.length→tlt (qs (r.2.1.getD i []) r.1.2.1) (qs (r.2.1.getD (i+d+1) []) r.1.2.1)=true:=by
    intro d
    induction d with
    | zero=>
     intro i hi
     have:=hb (i+1) (by omega)
     simp only[qov,Bool.or_eq_false_iff,Bool.not_eq_false',Bool.and_eq_false_iff,decide_eq_false_iff_not,Nat.add_sub_cancel] at this
     exact this.2.1.resolve_left (by omega)
    | succ d ih=>
     intro i hi
     have h4:=ih i (by omega)
     have:=hb (i+d+2) (by omega)
     simp only[qov,Bool.or_eq_false_iff,Bool.not_eq_false',Bool.and_eq_false_iff,decide_eq_false_iff_not] at this
     have h5:=this.2.1.resolve_left (by omega)
     exact qbcy h4 h5
   refine List.pairwise_iff_getElem.2 fun i j hi hj hij=>⟨?_,?_⟩
   ·obtain ⟨d,rfl⟩:∃ d,j=i+d+1:=⟨j - i - 1,by omega⟩
    have:=hk d i hj
    rw[q7 hi,q7 hj] at this
    exact this
   ·have:=hb j hj
    simp only[qov,Bool.or_eq_false_iff] at this
    have:=qez.1 this.2.2 i (by omega) (by omega)
    rw[q7 hi,q7 hj,q41] at this
    exact this
 ·rintro ⟨h1,h2,h3,h4⟩
  have hp:=List.pairwise_iff_getElem.1 h4
  refine ⟨qez.2 fun i _ hi=>?_,h1,by omega⟩
  have hi:i<r.2.1.length:=by omega
  simp only[qov,Bool.or_eq_false_iff,Bool.not_eq_false']
  refine ⟨h3 _ (qc5 hi),?_,qez.2 fun k _ hk=>?_⟩
  ·by_cases h0:0<i
   ·have hi1:i - 1<r.2.1.length:=by omega
    rw[decide_eq_true h0,Bool.true_and,q7 hi,q7 hi1,(hp (i - 1) i hi1 hi (by omega)).1];rfl
   ·rw[decide_eq_false h0,Bool.false_and]
  ·have hk2:k<r.2.1.length:=by omega
   rw[q7 hi,q7 hk2,q41]
   exact (hp k i hk2 hi (by omega)).2
theorem qbtw {r:Rel} {key:Row} (h:q46 r key=none):∀ x∈r.2.1,qs x r.1.2.1≠key:=by
 intro x hx e
 obtain ⟨i,hi,rfl⟩:=List.mem_iff_getElem.1 hx
 have:=qtd h i (by omega) (by omega)
 simp only[qbj8,decide_eq_false_iff_not] at this
 rw[q7 hi] at this
 exact this e
def put (r:Rel) (row:Row):Rel:=(r.1,r.2.1.take (qos r (qs row r.1.2.1))++[row]++r.2.1.drop (qos r (qs row r.1.2.1)),())
theorem qbpu {rows:List Row} {j:Nat} {row:Row} (hj:j<rows.length) (i:Nat):(rows.set j row).getD i []=if i=j then row else rows.getD i []:=by
 by_cases e:i=j
 ·subst e
  rw[if_pos rfl,q7 (by rw[List.length_set];exact hj),List.getElem_set_self]
 ·rw[if_neg e]
  simp only[List.getD,List.getElem?_set]
  rw[if_neg (fun k=>e k.symm)]
end Go.G

namespace Go.V
open Go
theorem El.take {h:Array Obj} {Pr:BS} {e:Ty} {mi:Mk} {xs:List e.den} {cells:List Value} {Fs:Nat→BS} (k:El h Pr e mi xs cells Fs) (n:Nat) (hn:n≤xs.length) (hl:cells.length=xs.length * e.width):El h Pr e mi (xs.take n) (cells.take (n * e.width)) Fs:=by
 refine ⟨fun i hi=>?_,k.dis⟩
 rw[List.length_take] at hi
 have hin:i<n:=by omega
 have h1:(xs.take n).getD i e.zero=xs.getD i e.zero:=by
  simp only[List.getD,List.getElem?_take]
  rw[if_pos hin]
 have h2:((cells.take (n * e.width)).drop (i * e.width)).take e.width=(cells.drop (i * e.width)).take e.width:=by
  rw[List.drop_take,List.take_take]
  congr 1
  have:(i+1) * e.width≤n * e.width:=Nat.mul_le_mul_right _ hin
  rw[Nat.succ_mul] at this
  omega
 rw[h1,h2]
 exact k.rep i (by omega)
theorem El.drop {h:Array Obj} {Pr:BS} {e:Ty} {mi:Mk} {xs:List e.den} {cells:List Value} {Fs:Nat→BS} (k:El h Pr e mi xs cells Fs) (n:Nat) (hn:n≤xs.length):El h Pr e mi (xs.drop n) (cells.drop (n * e.width)) (fun i=>Fs (n+i)):=by
 refine ⟨fun i hi=>?_,fun i j hij=>k.dis _ _ (by omega)⟩
 rw[List.length_drop] at hi
 have h1:(xs.drop n).getD i e.zero=xs.getD (n+i) e.zero:=by
  simp only[List.getD,List.getElem?_drop]
 have h2:((cells.drop (n * e.width)).drop (i * e.width)).take e.width=(cells.drop ((n+i) * e.width)).take e.width:=by
  rw[List.drop_drop,Nat.add_mul]
 rw[h1,h2]
 exact k.rep (n+i) (by omega)
def upTo (n:Nat) (Fs:Nat→BS) (i:Nat):BS:=if i<n then Fs i else Nil
theorem q6d (n:Nat) (Fs:Nat→BS) (i:Nat):Sub (upTo n Fs i) (Fs i):=by
 unfold upTo
 split
 ·exact Sub.refl _
 ·exact Sub.nil _
theorem El.upTo {h:Array Obj} {Pr:BS} {e:Ty} {mi:Mk} {xs:List e.den} {cells:List Value} {Fs:Nat→BS} (k:El h Pr e mi xs cells Fs):El h Pr e mi xs cells (upTo xs.length Fs):=by
 refine ⟨fun i hi=>?_,fun i j hij=>(k.dis i j hij).mono (q6d _ _ _) (q6d _ _ _)⟩
 have:Go.V.upTo xs.length Fs i=Fs i:=if_pos hi
 rw[this]
 exact k.rep i hi
theorem El.cut {h:Array Obj} {Pr:BS} {e:Ty} {mi:Mk} {xs:List e.den} {cells:List Value} {Fs:Nat→BS} (k:El h Pr e mi xs cells Fs) (i j:Nat) (hij:i≤j) (hj:j≤xs.length) (hl:cells.length=xs.length * e.width) :
  ∃ FF:Nat→BS,El h Pr e mi (xs.take i++xs.drop j) (cells.take (i * e.width)++cells.drop (j * e.width)) FF∧∀ a b,FF a b→∃ c,Fs c b:=by
 have k1:=(k.take i (by omega) hl).upTo
 have k2:=k.drop j hj
 have hlen:(xs.take i).length=i:=by rw[List.length_take];omega
 rw[hlen] at k1
 have hiw:i * e.width≤cells.length:=by rw[hl];exact Nat.mul_le_mul_right _ (by omega)
 have hjw:j * e.width≤cells.length:=by rw[hl];exact Nat.mul_le_mul_right _ hj
 refine ⟨_,El.append k1 k2 (by rw[List.length_take,hlen];omega) (by rw[List.length_drop,List.length_drop,hl,Nat.sub_mul]) (fun a b=>?_),?_⟩
 ·unfold Go.V.upTo
  split
  ·exact k.dis _ _ (by omega)
  ·exact Dis.nil _
 ·intro a b hb
  split at hb
  ·exact ⟨_,q6d _ _ _ b hb⟩
  ·exact ⟨_,hb⟩
theorem El.insert {h:Array Obj} {Pr:BS} {e:Ty} {mi:Mk} {xs ys:List e.den} {c1 c2:List Value} {F1 F2:Nat→BS} (k1:El h Pr e mi xs c1 F1) (k2:El h Pr e mi ys c2 F2) (i:Nat) (hi:i≤xs.length)
  (hl1:c1.length=xs.length * e.width) (hl2:c2.length=ys.length * e.width) (hd:∀ i j,Dis (F1 i) (F2 j)) :
  ∃ FF:Nat→BS,El h Pr e mi (xs.take i++ys++xs.drop i) (c1.take (i * e.width)++c2++c1.drop (i * e.width)) FF∧∀ a b,FF a b→(∃ c,F1 c b)∨∃ c,F2 c b:=by
 have a1:=(k1.take i hi hl1).upTo
 have a3:=k1.drop i hi
 have hlen:(xs.take i).length=i:=by rw[List.length_take];omega
 rw[hlen] at a1
 have hiw:i * e.width≤c1.length:=by rw[hl1];exact Nat.mul_le_mul_right _ hi
 have a12:=El.append a1 k2 (by rw[List.length_take,hlen];omega) hl2 (fun a b=>(hd a b).mono (q6d _ _ _) (Sub.refl _))
 refine ⟨_,El.append a12 a3 (by rw[List.length_append,List.length_append,List.length_take,hlen,hl2,Nat.add_mul];omega) (by rw[List.length_drop,List.length_drop,hl1,Nat.sub_mul]) (fun a b=>?_),?_⟩
 ·skip
  split
  ·unfold Go.V.upTo
   split
   ·exact k1.dis _ _ (by omega)
   ·exact Dis.nil _
  ·exact fun z h1 h2=>hd (i+b) _ z h2 h1
 ·intro a b hb
  split at hb
  ·split at hb
   ·exact .inl ⟨_,q6d _ _ _ b hb⟩
   ·exact .inr ⟨_,hb⟩
  ·exact .inl ⟨_,hb⟩
theorem qbtg {w w2:World} {Pr:BS} {Fs:Nat→BS} {ks:List PK} {a:PDen ks} {vs:List Value} (pre:Pre w.heap Pr Fs ks a vs) {e:Ty} {mi:Mk} {zs:List e.den} {v:Value} {G:BS}
  (rep:Rep w2.heap Pr (.sl e) (.own 0 mi) zs [v] G) (hG:∀ z,G z→May w.heap.size Fs z) (hGP:Dis G Pr) (hGl:∀ z,G z→z<w2.heap.size) (hsz:w.heap.size≤w2.heap.size)
  (o:ODen ks) (out:qe0 w2.heap Pr (fun _=>Nil) 0 ks o vs) (fr:WFr (May w.heap.size Fs) w w2) :
  Pst w w2 Pr Fs ks [.val (.sl e) (.own 0 mi)] (zs,()) o vs v Pr (fun i=>if i=0 then G else Nil) (fun _=>Nil) [v] where
 res:=⟨v,[],rfl,⟨[v],rep,rfl⟩,rfl⟩
 val:=rfl
 out:=out
 pr:=Sub.refl _
 prL:=fun b hb=>.inl hb
 gL:=fun i b hb=>by
  split at hb
  ·exact hG b hb
  ·exact hb.elim
 oL:=fun _ _ hb=>hb.elim
 gdis:=fun i j hij=>by
  split
  ·split
   ·omega
   ·exact fun _ _ h=>h.elim
  ·exact Dis.nil _
 odis:=fun _ _ _=>Dis.nil _
 go:=fun _ _=>fun _ _ h=>h.elim
 gp:=fun i=>by
  split
  ·exact hGP
  ·exact Dis.nil _
 op:=fun _=>Dis.nil _
 glim:=fun i b hb=>by
  split at hb
  ·exact hGl b hb
  ·exact hb.elim
 olim:=fun _ _ hb=>hb.elim
 plim:=fun b hb=>Nat.lt_of_lt_of_le (pre.limPr b hb) hsz
 fr:=fr
end Go.V

namespace Go.V
set_option maxRecDepth 100000
set_option maxHeartbeats 4000000
open Go Go.Proofs Go.RowKit Go.Lib
theorem qbj3:Tryz.f88.ntmps=95:=by kernel_rfl
theorem qbte (a1:Option Addr) (n c m:Nat) (a2:Option Addr) (c2:Nat) (w w3:World) (v3:Value) (hm:0<m) (hc:n≤c) (h1:(∃ b,a1=some ⟨b,0,none⟩)∨(n=0∧c=0))
  (hr:∀ ty,(Builtin.append_ #[29,29] ty #[.slice a1 n c,.slice a2 m c2]).run Tryz.prog w=.ok v3 w3) :
  Calls Tryz.prog 88 #[.slice a1 n c,.int .i64 n,.slice a2 m c2] w fun e w'=>e=.returned v3∧w'=w3:=by
 have mx:=mixed
 have u67:Tryz.prog.underlying 29=some (.slice 32):=by kernel_rfl
 have v67:=run_underlying u67
 have hz1:¬ ((m:Int)=0):=by omega
 rcases h1 with ⟨b,rfl⟩ | ⟨rfl,rfl⟩
 ·go_enter Tryz.func88,qbj3
  go_wp2_with (at_builtin;refine Lib.wpList_append_run _ rfl _ _ _ _ rfl _ _ rfl rfl _ _ (hr _) ?_)
  all_goals (try (go_ret;exact ⟨rfl,rfl⟩))
 ·cases a1 with
  | none=>
   go_enter Tryz.func88,qbj3
   go_wp2_with (at_builtin;refine Lib.wpList_append_run _ rfl _ _ _ _ rfl _ _ rfl rfl _ _ (hr _) ?_)
   all_goals (try (go_ret;exact ⟨rfl,rfl⟩))
  | some a0=>
   go_enter Tryz.func88,qbj3
   go_wp2_with (at_builtin;refine Lib.wpList_append_run _ rfl _ _ _ _ rfl _ _ rfl rfl _ _ (hr _) ?_)
   all_goals (try (go_ret;exact ⟨rfl,rfl⟩))
end Go.V

namespace Go.V
set_option maxRecDepth 100000
set_option maxHeartbeats 4000000
open Go Go.Proofs Go.RowKit Go.Lib
theorem qbwn (b n c i m:Nat) (a2:Addr) (c2 B G:Nat) (w w1 w2 w3:World) (r2 r3:Value) (hi:i<n) (hm:0<m) (hnc:n≤c) (hroom:c<n+m) (hG:n+m≤G) (hs63:n+m≤9223372036854775807)
  (hA:∀ ty,(Builtin.append_ #[29,3] ty #[.slice (some ⟨b,0,none⟩) i c,.int .i64 ((n:Int)+(m:Int) - (i:Int))]).run Tryz.prog w=.ok (.slice (some ⟨B,0,none⟩) (n+m) G) w1)
  (hB:∀ ty,(Builtin.copy_ #[29,29] ty #[.slice (some ⟨B,i,none⟩) (n+m - i) (G - i),.slice (some a2) m c2]).run Tryz.prog w1=.ok r2 w2)
  (hC:∀ ty,(Builtin.copy_ #[29,29] ty #[.slice (some ⟨B,i+m,none⟩) (n+m - (i+m)) (G - (i+m)),.slice (some ⟨b,i,none⟩) (n - i) (c - i)]).run Tryz.prog w2.drew=.ok r3 w3) :
  Calls Tryz.prog 88 #[.slice (some ⟨b,0,none⟩) n c,.int .i64 i,.slice (some a2) m c2] w fun e w'=>e=.returned (.slice (some ⟨B,0,none⟩) (n+m) G)∧w'=w3:=by
 have mx:=mixed
 have u67:Tryz.prog.underlying 29=some (.slice 32):=by kernel_rfl
 have u3:Tryz.prog.underlying 3=some (.int .i64):=by kernel_rfl
 have v67:=run_underlying u67
 have v3:=run_underlying u3
 have s38:(Tryz.prog.info? 32).map (·.size)=some 1:=by kernel_rfl
 obtain ⟨i0,hi0⟩:∃ i0,Tryz.prog.info? 32=some i0:=by cases h:Tryz.prog.info? 32 with | none=>rw[h] at s38;cases s38 | some x=>exact ⟨x,rfl⟩
 have hs0:i0.size=1:=by rw[hi0] at s38;simpa using s38
 have hz1:¬ ((m:Int)=0):=by omega
 have hz2:¬ ((i:Int)=(n:Int)):=by omega
 have hz3:(c:Int)<(n:Int)+(m:Int):=by omega
 have hw1:IntKind.i64.wrap ((i:Int)+(m:Int))=(i:Int)+(m:Int):=by rw[IntKind.wrap_i64];omega
 have hb1:(0:Int)≤(i:Int)+(m:Int):=by omega
 have hin:i≤n:=by omega
 have htn:((i:Int)+(m:Int)).toNat=i+m:=by omega
 have hb3:(i:Int)≤(n:Int):=by omega
 have hGi:¬ (G=i):=by omega
 have hGim:¬ (G=i+m):=by omega
 have hci:¬ (c=i):=by omega
 go_enter Tryz.func88,qbj3
 go_wp2_with (first
  | (at_builtin;refine Lib.wpList_append_run _ rfl _ _ _ _ rfl _ _ rfl rfl _ _ (hA _) ?_)
  | (at_builtin;refine wpList_copy_runI _ rfl _ _ 29 29 rfl _ _ rfl rfl (hB _) ?_))
 go_region_law_o (refine step_copy_runI rfl _ _ 29 29 rfl (.slice (some ⟨B,i+m,none⟩) (n+m - (i+m)) (G - (i+m))) (.slice (some ⟨b,i,none⟩) (n - i) (c - i)) (by simp[Act.eval,Act.put]) (by simp[Act.eval,Act.put]) (hC _) ?_)
 go_wp2
 go_ret
 exact ⟨rfl,rfl⟩
theorem qbu8 (b n c i m:Nat) (a2:Addr) (c2:Nat) (w w1 w2:World) (r1 r2:Value) (hi:i<n) (hm:0<m) (hroom:n+m≤c) (hs63:n+m≤9223372036854775807)
  (hov:∀ lb cb,(callFunc 154 #[.slice (some a2) m c2,.slice (some ⟨b,i+m,none⟩) lb cb]).run Tryz.prog w=.ok (.value (.bool false)) w)
  (hB:∀ ty dc sc,(Builtin.copy_ #[29,29] ty #[.slice (some ⟨b,i+m,none⟩) (n+m - (i+m)) dc,.slice (some ⟨b,i,none⟩) (n+m - i) sc]).run Tryz.prog w.drew=.ok r1 w1)
  (hC:∀ ty dc,(Builtin.copy_ #[29,29] ty #[.slice (some ⟨b,i,none⟩) (n+m - i) dc,.slice (some a2) m c2]).run Tryz.prog w1=.ok r2 w2) :
  Calls Tryz.prog 88 #[.slice (some ⟨b,0,none⟩) n c,.int .i64 i,.slice (some a2) m c2] w fun e w'=>e=.returned (.slice (some ⟨b,0,none⟩) (n+m) c)∧w'=w2:=by
 have mx:=mixed
 have u67:Tryz.prog.underlying 29=some (.slice 32):=by kernel_rfl
 have u3:Tryz.prog.underlying 3=some (.int .i64):=by kernel_rfl
 have v67:=run_underlying u67
 have v3:=run_underlying u3
 have s38:(Tryz.prog.info? 32).map (·.size)=some 1:=by kernel_rfl
 obtain ⟨i0,hi0⟩:∃ i0,Tryz.prog.info? 32=some i0:=by cases h:Tryz.prog.info? 32 with | none=>rw[h] at s38;cases s38 | some x=>exact ⟨x,rfl⟩
 have hs0:i0.size=1:=by rw[hi0] at s38;simpa using s38
 have hz1:¬ ((m:Int)=0):=by omega
 have hz2:¬ ((i:Int)=(n:Int)):=by omega
 have hw1:IntKind.i64.wrap ((i:Int)+(m:Int))=(i:Int)+(m:Int):=by rw[IntKind.wrap_i64];omega
 have hb1:(0:Int)≤(i:Int)+(m:Int):=by omega
 have hin:i≤n:=by omega
 have htn:((i:Int)+(m:Int)).toNat=i+m:=by omega
 have hb2:¬ (c=i+m):=by omega
 have hb3:(i:Int)≤(n:Int)+(m:Int):=by omega
 have hb4:¬ (c=i):=by omega
 go_enter Tryz.func88,qbj3
 go_wp2_with (simp only[hov])
 go_region_law_o (refine step_copy_runI rfl _ _ 29 29 rfl _ _ (by simp[Act.eval,Act.put]) (by simp[Act.eval,Act.put]) (hB _ _ _) ?_)
 go_wp2_with (at_builtin;refine wpList_copy_runI _ rfl _ _ 29 29 rfl _ _ rfl rfl (hC _ _) ?_)
 go_ret
 exact ⟨rfl,rfl⟩
end Go.V

namespace Go.V
set_option maxRecDepth 100000
set_option maxHeartbeats 4000000
open Go Go.Proofs Go.RowKit Go.Lib
theorem qbz1:Tryz.f95.ntmps=33:=by kernel_rfl
theorem qbhj {P:Program} {ops:Array Oper} {o:Oper} {a:Act} {w:World} {K:Act→World→Prop} {Q:Exit→Act→World→Prop} {E:Prop}
  (hg:o.guard=none) (d x:Operand) (dT sT:TypeId) (hop:o.op=Op.call { callee:=Callee.builtin Builtin.append,args:=#[d,x],argTypes:=#[dT,sT] })
  (v u:Value) (hd:a.eval d=v) (hx:a.eval x=u) {v':Value} {w':World} (hr:(Builtin.append_ #[dT,sT] o.type #[v,u]).run P w=.ok v' w') (hK:K (a.put o.dst v') w') :
  if Region.wanted o (yielded ops a.tmps)=true then Oper.wp P o a w K Q else E:=by
 have hw:Region.wanted o (yielded ops a.tmps)=true:=by simp[Region.wanted,hg]
 rw[if_pos hw]
 exact Lib.wp_append_run w d x dT sT hop v u hd hx v' w' hr hK
theorem qbwv (b n c i j:Nat) (w w1 w2:World) (r2:Value) (hij:i<j) (hj:j≤n) (hnc:n≤c) (hn63:n≤9223372036854775807)
  (hA:∀ ty a,(a=(if c=j then some (⟨b,0,none⟩:Addr) else some ⟨b,j,none⟩))→(Builtin.append_ #[29,29] ty #[.slice (some ⟨b,0,none⟩) i c,.slice a (n - j) (c - j)]).run Tryz.prog w.drew=.ok (.slice (some ⟨b,0,none⟩) (i+(n - j)) c) w1)
  (hC:∀ ty,(Builtin.clear_ #[29] ty #[.slice (some ⟨b,i+(n - j),none⟩) (n - (i+(n - j))) (c - (i+(n - j)))]).run Tryz.prog w1=.ok r2 w2) :
  Calls Tryz.prog 95 #[.slice (some ⟨b,0,none⟩) n c,.int .i64 i,.int .i64 j] w fun e w'=>e=.returned (.slice (some ⟨b,0,none⟩) (i+(n - j)) c)∧w'=w2:=by
 have mx:=mixed
 have u67:Tryz.prog.underlying 29=some (.slice 32):=by kernel_rfl
 have u3:Tryz.prog.underlying 3=some (.int .i64):=by kernel_rfl
 have v67:=run_underlying u67
 have v3:=run_underlying u3
 have s38:(Tryz.prog.info? 32).map (·.size)=some 1:=by kernel_rfl
 obtain ⟨i0,hi0⟩:∃ i0,Tryz.prog.info? 32=some i0:=by cases h:Tryz.prog.info? 32 with | none=>rw[h] at s38;cases s38 | some x=>exact ⟨x,rfl⟩
 have hs0:i0.size=1:=by rw[hi0] at s38;simpa using s38
 have hz2:¬ ((i:Int)=(j:Int)):=by omega
 have hij':i≤j:=by omega
 have hic:i≤c:=by omega
 have hjc:j≤c:=by omega
 have hin:i≤n:=by omega
 have hk1:i+(n - j)≤n:=by omega
 have hk2:i+(n - j)≤c:=by omega
 have hk3:¬ (c=i+(n - j)):=by omega
 obtain ⟨A,hAe⟩:∃ A:Option Addr,A=(if c=j then some (⟨b,0,none⟩:Addr) else some ⟨b,j,none⟩):=⟨_,rfl⟩
 go_enter Tryz.func95,qbz1
 go_wp2_with fail
 go_region_law_o (refine qbhj rfl (.tmp 22) (.tmp 25) 29 29 rfl _ _ (by simp[Act.eval,Act.put]) (by simp[Act.eval,Act.put]) (hA _ _ rfl) ?_)
 all_goals (go_wp2_with (simp only[hC]))
 all_goals (try (go_ret;exact ⟨rfl,rfl⟩))
end Go.V

namespace Go.V
set_option maxRecDepth 100000
open Go Go.Proofs Go.RowKit
abbrev TVal:Ty:=.pair (.int .i64) (.pair (.int .i64) (.pair .str .unit))
abbrev TRow:Ty:=.sl TVal
abbrev SigD:Sig:=⟨[.own (.sl TRow) (Mk.top (.sl TRow)),.val (.int .i64),.val (.int .i64)],[.val (.sl TRow) (Mk.top (.sl TRow))]⟩
theorem sigD:ctx.sig 95=SigD:=by kernel_rfl
def delD (xs:List TRow.den) (i j:Int):Option (List TRow.den):=if 0≤i∧i<j∧j≤xs.length∧xs.length≤qbl then some (xs.take i.toNat++xs.drop j.toNat) else none
theorem qbzq:qbme Tryz.prog SigD 95 fun a=>(delD a.1 a.2.1 a.2.2.1).map fun r=>((r,()),()):=by
 intro a r h w Pr Fs vs pre
 obtain ⟨xs,i,j,⟨⟩⟩:=a
 change List TRow.den at xs
 change Int at i
 change Int at j
 obtain ⟨v1,vs1,rfl,⟨c1,rep1,rfl⟩,v2,vs2,rfl,⟨c2,r2,rfl⟩,v3,vs3,rfl,⟨c3,r3,rfl⟩,k3⟩:=pre.rel
 obtain rfl:vs3=[]:=k3
 simp only[Rep] at r2 r3
 subst r2
 subst r3
 dsimp only at h
 unfold delD at h
 split at h
 ·rename_i hc
  obtain ⟨h0,hij,hj,hbd⟩:=hc
  replace hbd:xs.length≤274877906944:=hbd
  replace h0:0≤i:=h0
  replace hij:i<j:=hij
  replace hj:j≤xs.length:=hj
  simp only[Option.map_some,Option.some.injEq] at h
  subst h
  obtain ⟨i,rfl⟩:=Int.eq_ofNat_of_zero_le h0
  obtain ⟨j,rfl⟩:=Int.eq_ofNat_of_zero_le (show 0≤j by omega)
  obtain ⟨ad,cap,cells,F,rfl,hl,hlc,hsrc,el,hF,hown⟩:=qm9 (by simp[Mk.top]) (by simp[Mk.top]) rep1
  rcases hown 0 _ rfl with hc0 | ⟨b,cs,rfl,hbF,hbo,hcapb,hFb,hcells⟩
  ·replace hlc:xs.length≤cap:=hlc
   omega
  ·have hw1:TRow.width=1:=rfl
   replace hlc:xs.length≤cap:=hlc
   replace hl:cells.length=xs.length:=by rw[hl,hw1,Nat.mul_one]
   replace hcapb:cap≤cs.size:=by rw[hw1,Nat.mul_one] at hcapb;exact hcapb
   replace hcells:cells=sub cs 0 xs.length:=by rw[hcells,hw1,Nat.mul_one]
   have hij2:i<j:=by omega
   have hj2:j≤xs.length:=by omega
   have u67:Tryz.prog.underlying 29=some (.slice 32):=by kernel_rfl
   have s38:(Tryz.prog.info? 32).map (·.size)=some 1:=by kernel_rfl
   obtain ⟨i0,hi0⟩:∃ i0,Tryz.prog.info? 32=some i0:=by cases h:Tryz.prog.info? 32 with | none=>rw[h] at s38;cases s38 | some x=>exact ⟨x,rfl⟩
   have hs0:i0.size=1:=by rw[hi0] at s38;simpa using s38
   have hcd:cells.drop j=sub cs j (xs.length - j):=by
    rw[hcells]
    simp only[sub,List.drop_zero,List.drop_take]
   have hdl:(cells.drop j).length=xs.length - j:=by rw[List.length_drop,hl]
   have hone:∀ u∈cells.drop j,u.oneCell'=true:=by
    intro u hu
    obtain ⟨k,hk,rfl⟩:=List.getElem_of_mem hu
    rw[hdl] at hk
    have hk2:j+k<xs.length:=by omega
    have r:=el.rep (j+k) hk2
    refine Rep.one _ r _ ?_
    rw[hw1,Nat.mul_one,List.mem_iff_getElem?]
    refine ⟨0,?_⟩
    rw[List.getElem?_take,if_pos (by omega),List.getElem?_drop,Nat.add_zero,List.getElem_drop,List.getElem?_eq_getElem]
   have hA:∀ ty a,(a=(if cap=j then some (⟨b,0,none⟩:Addr) else some ⟨b,j,none⟩))→(Builtin.append_ #[29,29] ty #[.slice (some ⟨b,0,none⟩) i cap,.slice a (xs.length - j) (cap - j)]).run Tryz.prog w.drew=.ok (.slice (some ⟨b,0,none⟩) (i+(xs.length - j)) cap) (w.drew.setCells b i (cells.drop j)):=by
    intro ty a ha
    refine qkz (P:=Tryz.prog) w.drew (ty:=ty) rfl rfl u67 u67 hi0 (news:=cells.drop j) ?_ (by omega) (fun ad e=>?_) (fun e=>by simp at e)
    ·rw[hs0]
     refine qft (by rw[hdl,Nat.mul_one]) ?_
     by_cases h0:xs.length - j=0
     ·exact .inl ⟨h0,List.length_eq_zero_iff.1 (by rw[hdl,h0])⟩
     ·refine .inr ⟨b,j,by rw[ha,if_neg (by omega)],?_⟩
      rw[hcd]
      exact qc6 (qbv hbo.blk (by omega))
    ·simp only[Option.some.injEq] at e
     subst e
     rw[Addr.add_mid,Nat.zero_add,hs0,Nat.mul_one]
     have th:=qd7 (w:=w) (o:=i) (n:=(cells.drop j).length) hbo (by rw[hdl];omega)
     have:=run_storeCells_cells (P:=Tryz.prog) b i (cells.drop j) 0 w.drew (fun t ht=>by simpa using (th t ht).1) (fun t ht=>by simpa using (th t ht).2) hone
     simpa using this
   obtain ⟨ty,lo,hi,he,hfz⟩:=hbo
   have hfit:i+(cells.drop j).length≤cs.size:=by rw[hdl];omega
   obtain ⟨cs1,hcs1,hcs1l⟩:=qc9 (cells.drop j) i w.drew cs he hfit
   have hsz1:cs1.size=cs.size:=by rw[←Array.length_toList,hcs1l,qch (by simpa using hfit),Array.length_toList]
   have hob1:qbj (w.drew.setCells b i (cells.drop j)).heap b cs1:=⟨ty,lo,hi,hcs1,fun t ht=>hfz t (by omega)⟩
   let zs:List Value:=List.replicate (xs.length - (i+(xs.length - j))) (.slice none 0 0)
   have hzl:zs.length=xs.length - (i+(xs.length - j)):=List.length_replicate
   have hfit2:i+(xs.length - j)+zs.length≤cs1.size:=by rw[hzl];omega
   have th1:=qd7 (w:=w.drew.setCells b i (cells.drop j)) (o:=i+(xs.length - j)) (n:=zs.length) hob1 hfit2
   have hC:∀ ty,(Builtin.clear_ #[29] ty #[.slice (some ⟨b,i+(xs.length - j),none⟩) (xs.length - (i+(xs.length - j))) (cap - (i+(xs.length - j)))]).run Tryz.prog (w.drew.setCells b i (cells.drop j))=.ok (.tuple #[]) ((w.drew.setCells b i (cells.drop j)).setCells b (i+(xs.length - j)) zs):=fun ty=>
    Lib.run_clear_slice _ 29 32 ty (.slice none 0 0) u67 (fun w=>by kernel_rfl) rfl rfl b _ _ _ (by omega) (fun t ht=>(th1 t (by rw[hzl];exact ht)).1) (fun t ht=>(th1 t (by rw[hzl];exact ht)).2)
   obtain ⟨cs2,hcs2,hcs2l⟩:=qc9 zs (i+(xs.length - j)) _ cs1 hcs1 hfit2
   have hsz2:cs2.size=cs1.size:=by rw[←Array.length_toList,hcs2l,qch (by simpa using hfit2),Array.length_toList]
   have hob2:qbj ((w.drew.setCells b i (cells.drop j)).setCells b (i+(xs.length - j)) zs).heap b cs2:=⟨ty,lo,hi,hcs2,fun t ht=>hfz t (by omega)⟩
   have hother:∀ b',b'≠b→((w.drew.setCells b i (cells.drop j)).setCells b (i+(xs.length - j)) zs).heap[b']? = w.heap[b']?:=fun b' hb'=>(qbk zs _ _ b' hb').trans (qbk (cells.drop j) _ w.drew b' hb')
   have hPb:¬ Pr b:=fun hb=>pre.prot 0 b hbF hb
   obtain ⟨FF,elc,hFF⟩:=el.cut i j (by omega) hj2 (by rw[hw1,Nat.mul_one];exact hl)
   have hFFb:∀ a,¬ FF a b:=fun a hb=>by obtain ⟨c,hc⟩:=hFF a b hb;exact hFb c hc
   have el2:=elc.mono (h':=((w.drew.setCells b i (cells.drop j)).setCells b (i+(xs.length - j)) zs).heap) (Sub.refl _) (fun b' hb'=>hother b' (fun e0=>hPb (e0 ▸ hb'))) (fun a b' hb'=>hother b' (fun e0=>hFFb a (e0 ▸ hb')))
   have hlen:(xs.take i++xs.drop j).length=i+(xs.length - j):=by rw[List.length_append,List.length_take,List.length_drop];omega
   have htake:cs2.toList.take (i+(xs.length - j))=cells.take (i * TRow.width)++cells.drop (j * TRow.width):=by
    have h7:cs.toList.length=cs.size:=Array.length_toList
    rw[hcs2l,hw1,Nat.mul_one,Nat.mul_one]
    have e1:cs1.toList.take (i+(xs.length - j))=cells.take i++cells.drop j:=by
     rw[hcs1l]
     simp only[repl]
     rw[List.take_append_of_le_length (by rw[List.length_append,List.length_take,hdl];omega),List.take_of_length_le (by rw[List.length_append,List.length_take,hdl];omega)]
     congr 1
     rw[hcells]
     simp only[sub,List.drop_zero,List.take_take]
     congr 1;omega
    rw[←e1]
    simp only[repl]
    have h8:cs1.toList.length=cs1.size:=Array.length_toList
    rw[List.append_assoc,List.take_append_of_le_length (by rw[List.length_take];omega),List.take_take,Nat.min_self]
   have rep2:=el2.row hob2 (cap:=cap) (by rw[hw1,Nat.mul_one];omega) (by rw[hlen];omega) (fun t ht=>qqh htake (by rw[hw1,Nat.mul_one];rw[hlen] at ht;omega)) hFFb 0
   rw[hlen] at rep2
   have hrest1:=qcg (b:=b) (cells.drop j) i w.drew
   have hrest2:=qcg (b:=b) zs (i+(xs.length - j)) (w.drew.setCells b i (cells.drop j))
   have hsize:((w.drew.setCells b i (cells.drop j)).setCells b (i+(xs.length - j)) zs).heap.size=w.heap.size:=by rw[qbd,qbd];rfl
   have hGF:∀ z,(z=b∨∃ t,FF t z)→Fs 0 z:=by
    rintro z (rfl | ⟨t,ht⟩)
    ·exact hbF
    ·obtain ⟨c,hc⟩:=hFF t z ht;exact hF c z hc
   refine (qbwv b xs.length cap i j w _ _ _ hij2 hj2 hlc (by omega) hA hC).mono ?_
   rintro e w' ⟨rfl,rfl⟩
   exact ⟨_,Pr,_,_,_,rfl,qbtg pre rep2 (fun z hz=>.inr ⟨0,hGF z hz⟩) (fun z hz hp=>pre.prot 0 z (hGF z hz) hp) (fun z hz=>by rw[hsize];exact pre.lim 0 z (hGF z hz)) (by rw[hsize];exact Nat.le_refl _) () ⟨_,_,rfl,_,_,rfl,_,_,rfl,rfl⟩
    ⟨hrest2.1.trans hrest1.1,hrest2.2.1.trans hrest1.2.1,hrest2.2.2.trans hrest1.2.2,by rw[hsize];exact Nat.le_refl _,fun b' _ hb'=>hother b' (fun e0=>hb' (e0 ▸ .inr ⟨0,hbF⟩))⟩⟩
 ·simp at h
end Go.V

namespace Go.V
set_option maxRecDepth 100000
open Go Go.Proofs Go.RowKit
abbrev SigI:Sig:=⟨[.own (.sl TRow) (Mk.top (.sl TRow)),.val (.int .i64),.own (.sl TRow) (Mk.top (.sl TRow))],[.val (.sl TRow) (Mk.top (.sl TRow))]⟩
theorem sigI:ctx.sig 88=SigI:=by kernel_rfl
def insD (xs:List TRow.den) (i:Int) (ys:List TRow.den):Option (List TRow.den):=if 0≤i∧i≤xs.length∧0<ys.length∧xs.length+ys.length≤qbl then some (xs.take i.toNat++ys++xs.drop i.toNat) else none
theorem qxf {w w2:World} {Pr:BS} {Fs:Nat→BS} {ks:List PK} {a:PDen ks} {vs:List Value} (pre:Pre w.heap Pr Fs ks a vs) {e:Ty} {mi:Mk} {zs:List e.den} {cells:List Value} {FF:Nat→BS} {B cap:Nat} {cs:Array Value}
  (el:El w.heap Pr e mi zs cells FF) (hFF:∀ t b,FF t b→∃ k,Fs k b) (hob:qbj w2.heap B cs) (hcap:cap * e.width≤cs.size) (hl:zs.length≤cap) (htake:cs.toList.take (zs.length * e.width)=cells)
  (hB:B=w.heap.size∨(∃ k,Fs k B)) (hFB:∀ t,¬ FF t B) (hother:∀ b',b'<w.heap.size→b'≠B→w2.heap[b']? = w.heap[b']?) (hsz:w.heap.size≤w2.heap.size) (hBl:B<w2.heap.size)
  (h1:w2.os=w.os) (h2:w2.tape=w.tape) (h3:w2.output=w.output) (o:ODen ks) (out:qe0 w2.heap Pr (fun _=>Nil) 0 ks o vs) :
  ∃ val Pr' Gs Os us,(Value.slice (some ⟨B,0,none⟩) zs.length cap)=val∧Pst w w2 Pr Fs ks [.val (.sl e) (.own 0 mi)] (zs,()) o vs val Pr' Gs Os us:=by
 have hFl:∀ t b,FF t b→b<w.heap.size:=fun t b hb=>by obtain ⟨k,hk⟩:=hFF t b hb;exact pre.lim k b hk
 have hPB:¬ Pr B:=fun hb=>by
  rcases hB with rfl | ⟨k,hk⟩
  ·exact Nat.lt_irrefl _ (pre.limPr _ hb)
  ·exact pre.prot k B hk hb
 have el2:=el.mono (h':=w2.heap) (Sub.refl _) (fun b' hb'=>hother b' (pre.limPr b' hb') (fun e0=>hPB (e0 ▸ hb'))) (fun t b' hb'=>hother b' (hFl t b' hb') (fun e0=>hFB t (e0 ▸ hb')))
 have rep:=el2.row hob (cap:=cap) hcap hl (fun t ht=>qqh htake (by
  have:=Nat.mul_le_mul_right e.width (show t+1≤zs.length by exact ht)
  rw[Nat.succ_mul] at this;exact this)) hFB 0
 have hG:∀ z,(z=B∨∃ t,FF t z)→May w.heap.size Fs z:=by
  rintro z (rfl | ⟨t,ht⟩)
  ·rcases hB with e0 | hk
   ·exact .inl (by omega)
   ·exact .inr hk
  ·exact .inr (hFF t z ht)
 refine ⟨_,Pr,_,_,_,rfl,qbtg pre rep hG (fun z hz hp=>?_) (fun z hz=>?_) hsz o out ⟨h1,h2,h3,hsz,fun b' hb1 hb'=>hother b' hb1 (fun e0=>hb' ?_)⟩⟩
 ·rcases hz with rfl | ⟨t,ht⟩
  ·exact hPB hp
  ·obtain ⟨k,hk⟩:=hFF t z ht;exact pre.prot k z hk hp
 ·rcases hz with rfl | ⟨t,ht⟩
  ·exact hBl
  ·exact Nat.lt_of_lt_of_le (hFl t z ht) hsz
 ·subst e0
  exact hG b' (.inl rfl)
theorem El.one {h:Array Obj} {Pr:BS} {mi:Mk} {xs:List TRow.den} {cells:List Value} {F:Nat→BS} (el:El h Pr TRow mi xs cells F) (hl:cells.length=xs.length):∀ u∈cells,u.oneCell'=true:=by
 intro u hu
 obtain ⟨k,hk,rfl⟩:=List.getElem_of_mem hu
 have hk2:k<xs.length:=by omega
 have r:=el.rep k hk2
 have hw1:TRow.width=1:=rfl
 refine Rep.one _ r _ ?_
 rw[hw1,Nat.mul_one,List.mem_iff_getElem?]
 refine ⟨0,?_⟩
 rw[List.getElem?_take,if_pos (by omega),List.getElem?_drop,Nat.add_zero,List.getElem?_eq_getElem]
theorem qbx3 {l D C:List Value} {i m:Nat} (hC:C.length=m) (hl:i+m+D.length≤l.length):(repl (repl l (i+m) D) i C).take (i+m+D.length)=l.take i++C++D:=by
 have hA:(l.take (i+m)).length=i+m:=by rw[List.length_take];omega
 have e1:(repl l (i+m) D).take i=l.take i:=by
  simp only[repl]
  rw[List.append_assoc,List.take_append_of_le_length (by omega),List.take_take]
  congr 1;omega
 have e2:(repl l (i+m) D).drop (i+m)=D++l.drop (i+m+D.length):=by
  simp only[repl]
  rw[List.append_assoc,List.drop_append_of_le_length (by omega),List.drop_eq_nil_of_le (by omega),List.nil_append]
 have e3:repl (repl l (i+m) D) i C=(l.take i++C++D)++l.drop (i+m+D.length):=by
  show (repl l (i+m) D).take i++C++(repl l (i+m) D).drop (i+C.length)=_
  rw[e1,hC,e2];simp only[List.append_assoc]
 rw[e3,List.take_append_of_le_length (by simp only[List.length_append,List.length_take];omega),List.take_of_length_le (by simp only[List.length_append,List.length_take];omega)]
theorem qbxy {l D C:List Value} {i m:Nat} (hC:C.length=m) (hl:i+m+D.length≤l.length):(repl (repl l i C) (i+m) D).take (i+m+D.length)=l.take i++C++D:=by
 have hA:(l.take i++C).length=i+m:=by rw[List.length_append,List.length_take];omega
 have e1:(repl l i C).take (i+m)=l.take i++C:=by
  show (l.take i++C++l.drop (i+C.length)).take (i+m)=_
  rw[List.take_append_of_le_length (by omega),List.take_of_length_le (by omega)]
 show ((repl l i C).take (i+m)++D++(repl l i C).drop (i+m+D.length)).take (i+m+D.length)=_
 rw[e1,List.take_append_of_le_length (by rw[List.length_append];omega),List.take_of_length_le (by rw[List.length_append];omega)]
theorem qbzk:qbme Tryz.prog SigI 88 fun a=>(insD a.1 a.2.1 a.2.2.1).map fun r=>((r,()),()):=by
 intro a r h w Pr Fs vs pre
 obtain ⟨xs,i,ys,⟨⟩⟩:=a
 change List TRow.den at xs
 change Int at i
 change List TRow.den at ys
 obtain ⟨v1,vs1,rfl,⟨c1,rep1,rfl⟩,v2,vs2,rfl,⟨c2,r2,rfl⟩,v3,vs3,rfl,⟨c3,rep3,rfl⟩,k3⟩:=pre.rel
 obtain rfl:vs3=[]:=k3
 simp only[Rep] at r2
 subst r2
 dsimp only at h
 unfold insD at h
 split at h
 ·rename_i hc
  obtain ⟨h0,hi,hm,hbd⟩:=hc
  replace h0:0≤i:=h0
  replace hi:i≤xs.length:=hi
  replace hm:0<ys.length:=hm
  replace hbd:xs.length+ys.length≤274877906944:=hbd
  simp only[Option.map_some,Option.some.injEq] at h
  subst h
  obtain ⟨i,rfl⟩:=Int.eq_ofNat_of_zero_le h0
  have hi2:i≤xs.length:=by omega
  obtain ⟨ad1,cap1,cells1,F1,rfl,hl1,hlc1,hsrc1,el1,hF1,hown1⟩:=qm9 (by simp[Mk.top]) (by simp[Mk.top]) rep1
  obtain ⟨ad2,cap2,cells2,F2,rfl,hl2,hlc2,hsrc2,el2,hF2,hown2⟩:=qm9 (by simp[Mk.top]) (by simp[Mk.top]) rep3
  have hw1:TRow.width=1:=rfl
  replace hlc1:xs.length≤cap1:=hlc1
  replace hlc2:ys.length≤cap2:=hlc2
  have hl1':cells1.length=xs.length:=by rw[hl1,hw1,Nat.mul_one]
  have hl2':cells2.length=ys.length:=by rw[hl2,hw1,Nat.mul_one]
  rcases hown2 0 _ rfl with hc0 | ⟨b2,cs2,rfl,hbF2,hbo2,hcapb2,hFb2,hcells2⟩
  ·exact absurd hc0 (by omega)
  replace hcapb2:cap2≤cs2.size:=by rw[hw1,Nat.mul_one] at hcapb2;exact hcapb2
  replace hcells2:cells2=sub cs2 0 ys.length:=by rw[hcells2,hw1,Nat.mul_one]
  have hd12:∀ p q,Dis (F1 p) (F2 q):=fun p q=>(pre.dis 0 2 (by decide)).mono (hF1 p) (hF2 q)
  obtain ⟨FF,elz,hFF⟩:=El.insert el1 el2 i hi2 (by rw[hl1]) (by rw[hl2]) hd12
  rw[hw1,Nat.mul_one] at elz
  have hFs:∀ t b,FF t b→∃ k,Fs k b:=fun t b hb=>by
   rcases hFF t b hb with ⟨c,hc⟩ | ⟨c,hc⟩
   ·exact ⟨0,hF1 c b hc⟩
   ·exact ⟨2,hF2 c b hc⟩
  have hlz:(xs.take i++ys++xs.drop i).length=xs.length+ys.length:=by simp only[List.length_append,List.length_take,List.length_drop];omega
  have hone1:=el1.one hl1'
  have hone2:=el2.one hl2'
  have u67:Tryz.prog.underlying 29=some (.slice 32):=by kernel_rfl
  have u3:Tryz.prog.underlying 3=some (.int .i64):=by kernel_rfl
  obtain ⟨i0,hi0,hs0,hz0,hb0⟩:∃ i0,Tryz.prog.info? 32=some i0∧i0.size=1∧i0.zero=some (.slice none 0 0)∧i0.bytes=24:=by
   have k:((Tryz.prog.info? 32).map fun x=>(x.size,x.zero,x.bytes))=some (1,some (.slice none 0 0),24):=by kernel_rfl
   cases h:Tryz.prog.info? 32 with
   | none=>rw[h] at k;cases k
   | some x=>
    rw[h] at k
    simp only[Option.map_some,Option.some.injEq,Prod.mk.injEq] at k
    exact ⟨x,rfl,k.1,k.2.1,k.2.2⟩
  have hn2:(Builtin.firstCells i0.size ys.length (.slice (some ⟨b2,0,none⟩) ys.length cap2)).run Tryz.prog w=.ok cells2.toArray w:=by
   rw[hs0]
   exact qft (by rw[hl2',Nat.mul_one]) (.inr ⟨b2,0,rfl,by rw[hcells2];exact qbv hbo2.blk (by omega)⟩)
  have ht0:cells1.take xs.length=cells1:=List.take_of_length_le (by omega)
  have hd0:cells1.drop xs.length=[]:=List.drop_eq_nil_of_le (by omega)
  have houts:∀ (h:Array Obj) (v1 v2 v3:Value),qe0 h Pr (fun _=>Nil) 0 SigI.params () [v1,v2,v3]:=fun h v1 v2 v3=>⟨_,_,rfl,_,_,rfl,_,_,rfl,rfl⟩
  by_cases hend:i=xs.length
  ·subst hend
   rw[ht0,hd0,List.append_nil] at elz
   by_cases hroom:xs.length+ys.length≤cap1
   ·rcases hown1 0 _ rfl with hc0 | ⟨b1,cs1,rfl,hbF1,hbo1,hcapb1,hFb1,hcells1⟩
    ·exact absurd hc0 (by omega)
    replace hcapb1:cap1≤cs1.size:=by rw[hw1,Nat.mul_one] at hcapb1;exact hcapb1
    replace hcells1:cells1=sub cs1 0 xs.length:=by rw[hcells1,hw1,Nat.mul_one]
    have hfit:xs.length+cells2.length≤cs1.size:=by omega
    have hr:∀ ty,(Builtin.append_ #[29,29] ty #[.slice (some ⟨b1,0,none⟩) xs.length cap1,.slice (some ⟨b2,0,none⟩) ys.length cap2]).run Tryz.prog w=.ok (.slice (some ⟨b1,0,none⟩) (xs.length+ys.length) cap1) (w.setCells b1 xs.length cells2):=fun ty=>
     qkz (P:=Tryz.prog) w (ty:=ty) rfl rfl u67 u67 hi0 hn2 hroom (fun ad e=>by
      simp only[Option.some.injEq] at e
      subst e
      rw[Addr.add_mid,Nat.zero_add,hs0,Nat.mul_one]
      have th:=qd7 (w:=w) (o:=xs.length) (n:=cells2.length) hbo1 hfit
      have:=run_storeCells_cells (P:=Tryz.prog) b1 xs.length cells2 0 w (fun t ht=>by simpa using (th t ht).1) (fun t ht=>by simpa using (th t ht).2) hone2
      simpa using this) (fun e=>by simp at e)
    obtain ⟨ty,lo,hi',he,hfz⟩:=hbo1
    obtain ⟨cs3,hcs3,hcs3l⟩:=qc9 cells2 xs.length w cs1 he hfit
    have hsz3:cs3.size=cs1.size:=by rw[←Array.length_toList,hcs3l,qch (by simpa using hfit),Array.length_toList]
    have hob3:qbj (w.setCells b1 xs.length cells2).heap b1 cs3:=⟨ty,lo,hi',hcs3,fun t ht=>hfz t (by omega)⟩
    have h7:cs1.toList.length=cs1.size:=Array.length_toList
    have htake:cs3.toList.take ((xs.take xs.length++ys++xs.drop xs.length).length * TRow.width)=cells1++cells2:=by
     rw[hw1,Nat.mul_one,hlz,hcs3l,hcells1]
     simp only[repl,sub,List.drop_zero]
     rw[List.take_append_of_le_length (by rw[List.length_append,List.length_take,hl2'];omega),List.take_of_length_le (by rw[List.length_append,List.length_take,hl2'];omega)]
    have hrest:=qcg (b:=b1) cells2 xs.length w
    have hFBb:∀ t,¬ FF t b1:=fun t hb=>by
     rcases hFF t b1 hb with ⟨c,hc⟩ | ⟨c,hc⟩
     ·exact hFb1 c hc
     ·exact pre.dis 0 2 (by decide) b1 hbF1 (hF2 c b1 hc)
    refine (qbte (some ⟨b1,0,none⟩) xs.length cap1 ys.length (some ⟨b2,0,none⟩) cap2 w _ _ hm hlc1 (.inl ⟨b1,rfl⟩) hr).mono ?_
    rintro e w' ⟨rfl,rfl⟩
    obtain ⟨val,Pr',Gs,Os,us,hv,hp⟩:=qxf pre elz hFs hob3 (cap:=cap1) (by rw[hw1,Nat.mul_one];omega) (by rw[hlz];exact hroom) htake (.inr ⟨0,hbF1⟩) hFBb (fun b' _ hb'=>qbk cells2 _ w b' hb') (by rw[qbd];exact Nat.le_refl _) (by rw[qbd];exact pre.lim 0 b1 hbF1) hrest.1 hrest.2.1 hrest.2.2 () (houts _ _ _ _)
    exact ⟨val,Pr',Gs,Os,us,by rw[←hv,hlz],hp⟩
   ·have hg:cap1<xs.length+ys.length:=by omega
    have hn2d:(Builtin.firstCells i0.size ys.length (.slice (some ⟨b2,0,none⟩) ys.length cap2)).run Tryz.prog w.drew=.ok cells2.toArray w.drew:=by
     rw[hs0]
     exact qft (by rw[hl2',Nat.mul_one]) (.inr ⟨b2,0,rfl,qc6 (by rw[hcells2];exact qbv hbo2.blk (by omega))⟩)
    have hn1d:(Builtin.firstCells i0.size xs.length (.slice ad1 xs.length cap1)).run Tryz.prog w.drew=.ok cells1.toArray w.drew:=by
     rw[hs0]
     refine qft (by rw[hl1',Nat.mul_one]) ?_
     rcases hsrc1 with ⟨h1,h2⟩ | ⟨b,o,cs,h1,h2,h3,h4⟩
     ·exact .inl ⟨h1,h2⟩
     ·exact .inr ⟨b,o,h1,qc6 (h4 ▸ qbv h2 h3)⟩
    have hfit:Builtin.nextslicecap (xs.length+ys.length) cap1 * i0.bytes≤281474976710656:=by
     have:=Room.nextslicecap_le' (need:=xs.length+ys.length) (old:=cap1) hg
     rw[hb0];omega
    have hr:=fun ty=>qzn (P:=Tryz.prog) w (ats:=#[29,29]) (ty:=ty) rfl rfl u67 u67 hi0 hz0 hn2d hn1d hg (by omega) hfit
    have hge:=grownCap_ge w (xs.length+ys.length) cap1 32
    generalize grownCap w (xs.length+ys.length) cap1 32=cap' at hr hge
    have hzs:(Value.slice none 0 0).cells.size=1:=rfl
    have hcss:(cells1.toArray++cells2.toArray++Builtin.zeroCells (Value.slice none 0 0).cells (cap' - (xs.length+ys.length))).size=cap':=by
     simp only[Array.size_append,List.size_toArray,size_zeroCells,hzs,hl1',hl2'];omega
    have htk:(cells1.toArray++cells2.toArray++Builtin.zeroCells (Value.slice none 0 0).cells (cap' - (xs.length+ys.length))).toList.take (xs.length+ys.length)=cells1++cells2:=by
     simp only[Array.toList_append,List.append_assoc]
     rw[←List.append_assoc,List.take_append_of_le_length (by rw[List.length_append];omega),List.take_of_length_le (by rw[List.length_append];omega)]
    generalize cells1.toArray++cells2.toArray++Builtin.zeroCells (Value.slice none 0 0).cells (cap' - (xs.length+ys.length))=cs at hr hcss htk
    have h1a:(∃ b,ad1=some ⟨b,0,none⟩)∨(xs.length=0∧cap1=0):=by
     rcases hown1 0 _ rfl with hc0 | ⟨b1,cs1,rfl,_⟩
     ·exact .inr ⟨by omega,hc0⟩
     ·exact .inl ⟨b1,rfl⟩
    refine (qbte ad1 xs.length cap1 ys.length (some ⟨b2,0,none⟩) cap2 w _ _ hm hlc1 h1a hr).mono ?_
    rintro e w' ⟨rfl,rfl⟩
    obtain ⟨val,Pr',Gs,Os,us,hv,hp⟩:=qxf (w2:=w.drew.alloc (.cells cs 32)) pre elz hFs (B:=w.heap.size) (cs:=cs) qbj.new (cap:=cap') (by rw[hw1,Nat.mul_one,hcss];exact Nat.le_refl _) (by rw[hlz];exact hge) (by rw[hw1,Nat.mul_one,hlz];exact htk) (.inl rfl)
     (fun t hb=>by obtain ⟨k,hk⟩:=hFs t _ hb;exact Nat.lt_irrefl _ (pre.lim k _ hk)) (fun b' hb1 _=>qgv b' hb1) (by show w.heap.size≤(w.heap.push _).size;simp) (by show w.heap.size<(w.heap.push _).size;simp) rfl rfl rfl () (houts _ _ _ _)
    exact ⟨val,Pr',Gs,Os,us,by rw[←hv,hlz],hp⟩
  ·have hlt:i<xs.length:=by omega
   rcases hown1 0 _ rfl with hc0 | ⟨b1,cs1,rfl,hbF1,hbo1,hcapb1,hFb1,hcells1⟩
   ·exact absurd hc0 (by omega)
   replace hcapb1:cap1≤cs1.size:=by rw[hw1,Nat.mul_one] at hcapb1;exact hcapb1
   replace hcells1:cells1=sub cs1 0 xs.length:=by rw[hcells1,hw1,Nat.mul_one]
   have hb12:b2≠b1:=fun e=>pre.dis 0 2 (by decide) b1 hbF1 (e ▸ hbF2)
   have hcd:cells1.drop i=sub cs1 i (xs.length - i):=by
    rw[hcells1]
    simp only[sub,List.drop_zero,List.drop_take]
   have hct:cells1.take i=cs1.toList.take i:=by
    rw[hcells1]
    simp only[sub,List.drop_zero,List.take_take]
    congr 1;omega
   have hdl:(cells1.drop i).length=xs.length - i:=by rw[List.length_drop,hl1']
   have honed:∀ u∈cells1.drop i,u.oneCell'=true:=fun u hu=>hone1 u (List.mem_of_mem_drop hu)
   have hFBb:∀ t,¬ FF t b1:=fun t hb=>by
    rcases hFF t b1 hb with ⟨c,hc⟩ | ⟨c,hc⟩
    ·exact hFb1 c hc
    ·exact pre.dis 0 2 (by decide) b1 hbF1 (hF2 c b1 hc)
   have hsz38:(Tryz.prog.info? 32).map (·.size)=some 1:=by rw[hi0];simp[hs0]
   have hel:cells1.take i++cells2++cells1.drop i=(cells1.take i++cells2++cells1.drop i):=rfl
   by_cases hroom:xs.length+ys.length≤cap1
   ·have hov:∀ lb cb,(callFunc 154 #[.slice (some ⟨b2,0,none⟩) ys.length cap2,.slice (some ⟨b1,i+ys.length,none⟩) lb cb]).run Tryz.prog w=.ok (.value (.bool false)) w:=by
     intro lb cb
     obtain ⟨e2,lo2,hi2,he2,hf2⟩:=hbo2
     obtain ⟨e1,lo1,hi1,he1,hf1⟩:=hbo1
     have hnf:∀ k,k≤cs2.size→w.frozen? ⟨b2,k,none⟩=false:=fun k hk=>by
      have:=hf2 k hk
      simp only[World.frozen?,he2]
      simpa using this
     rw[run_callFunc_extern (P:=Tryz.prog) (f:=154) (fn:=Tryz.f154) Tryz.func154 (by kernel_rfl) (by kernel_rfl) (by kernel_rfl) (e:=Extern.SlicesOverlaps.overlaps #[29,29] #[4]) (by kernel_rfl),
      Lib.run_overlaps_apart w 29 4 32 u67 1 (fun w=>by simp[sizeOf,typeInfo,hi0,hs0]) ⟨b2,0,none⟩ ⟨b1,i+ys.length,none⟩ ys.length cap2 lb cb hb12 e2 e1 cs2.size cs1.size (by simp[World.shape?,he2]) (by simp[World.shape?,he1]) (by omega) (hnf 0 (by omega)) (hnf _ (Nat.le_refl _))]
     rfl
    have hfitA:i+ys.length+(cells1.drop i).length≤cs1.size:=by rw[hdl];omega
    have thA:=qd7 (w:=w) (o:=i+ys.length) (n:=(cells1.drop i).length) hbo1 hfitA
    have hB:∀ ty dc sc,(Builtin.copy_ #[29,29] ty #[.slice (some ⟨b1,i+ys.length,none⟩) (xs.length+ys.length - (i+ys.length)) dc,.slice (some ⟨b1,i,none⟩) (xs.length+ys.length - i) sc]).run Tryz.prog w.drew=.ok (goInt (cells1.drop i).length) (w.drew.setCells b1 (i+ys.length) (cells1.drop i)):=fun ty dc sc=>
     run_copy_cells w.drew 29 29 ty 32 b1 (i+ys.length) _ dc ⟨b1,i,none⟩ _ sc (cells1.drop i) u67 hsz38 (by rw[hdl];simp only[Nat.min_def];split<;>omega)
      (fun k v hk=>by rw[Addr.add_mid];exact qc6 (w:=w) (b:=b1) (o:=i) (cs:=cells1.drop i) (by rw[hcd];exact qbv hbo1.blk (by omega)) k v hk) (fun k hk=>(thA k hk).1) (fun k hk=>(thA k hk).2) honed
    have hbo1':=hbo1
    obtain ⟨ty,lo,hi',he,hfz⟩:=hbo1
    obtain ⟨cs3,hcs3,hcs3l⟩:=qc9 (cells1.drop i) (i+ys.length) w.drew cs1 he hfitA
    have hsz3:cs3.size=cs1.size:=by rw[←Array.length_toList,hcs3l,qch (by simpa using hfitA),Array.length_toList]
    have hob3:qbj (w.drew.setCells b1 (i+ys.length) (cells1.drop i)).heap b1 cs3:=⟨ty,lo,hi',hcs3,fun t ht=>hfz t (by omega)⟩
    have hfitB:i+cells2.length≤cs3.size:=by omega
    have thB:=qd7 (w:=w.drew.setCells b1 (i+ys.length) (cells1.drop i)) (o:=i) (n:=cells2.length) hob3 hfitB
    have hr2:(w.drew.setCells b1 (i+ys.length) (cells1.drop i)).rangeAt b2 0 cells2:=by
     rw[hcells2]
     exact qbv (Blk.congr hbo2.blk (qbk (cells1.drop i) _ w.drew b2 hb12)) (by omega)
    have hC:∀ ty dc,(Builtin.copy_ #[29,29] ty #[.slice (some ⟨b1,i,none⟩) (xs.length+ys.length - i) dc,.slice (some ⟨b2,0,none⟩) ys.length cap2]).run Tryz.prog (w.drew.setCells b1 (i+ys.length) (cells1.drop i))=.ok (goInt cells2.length) ((w.drew.setCells b1 (i+ys.length) (cells1.drop i)).setCells b1 i cells2):=fun ty dc=>
     run_copy_cells _ 29 29 ty 32 b1 i _ dc ⟨b2,0,none⟩ _ cap2 cells2 u67 hsz38 (by rw[hl2'];simp only[Nat.min_def];split<;>omega)
      (fun k v hk=>by rw[Addr.add_mid];exact hr2 k v hk) (fun k hk=>(thB k hk).1) (fun k hk=>(thB k hk).2) hone2
    obtain ⟨cs4,hcs4,hcs4l⟩:=qc9 cells2 i _ cs3 hcs3 hfitB
    have hsz4:cs4.size=cs3.size:=by rw[←Array.length_toList,hcs4l,qch (by simpa using hfitB),Array.length_toList]
    have hob4:qbj ((w.drew.setCells b1 (i+ys.length) (cells1.drop i)).setCells b1 i cells2).heap b1 cs4:=⟨ty,lo,hi',hcs4,fun t ht=>hfz t (by omega)⟩
    have h7:cs1.toList.length=cs1.size:=Array.length_toList
    have htake:cs4.toList.take ((xs.take i++ys++xs.drop i).length * TRow.width)=cells1.take i++cells2++cells1.drop i:=by
     have e:=qbx3 (l:=cs1.toList) (D:=cells1.drop i) (C:=cells2) (i:=i) (m:=ys.length) hl2' (by rw[h7];exact hfitA)
     rw[hw1,Nat.mul_one,hlz,hcs4l,hcs3l,hct]
     rw[show xs.length+ys.length=i+ys.length+(cells1.drop i).length by rw[hdl];omega]
     exact e
    have hrest1:=qcg (b:=b1) (cells1.drop i) (i+ys.length) w.drew
    have hrest2:=qcg (b:=b1) cells2 i (w.drew.setCells b1 (i+ys.length) (cells1.drop i))
    have hsize:((w.drew.setCells b1 (i+ys.length) (cells1.drop i)).setCells b1 i cells2).heap.size=w.heap.size:=by rw[qbd,qbd];rfl
    refine (qbu8 b1 xs.length cap1 i ys.length ⟨b2,0,none⟩ cap2 w _ _ _ _ hlt hm hroom (by omega) hov hB hC).mono ?_
    rintro e w' ⟨rfl,rfl⟩
    obtain ⟨val,Pr',Gs,Os,us,hv,hp⟩:=qxf pre elz hFs hob4 (cap:=cap1) (by rw[hw1,Nat.mul_one];omega) (by rw[hlz];exact hroom) htake (.inr ⟨0,hbF1⟩) hFBb
     (fun b' _ hb'=>(qbk cells2 _ _ b' hb').trans (qbk (cells1.drop i) _ w.drew b' hb')) (by rw[hsize];exact Nat.le_refl _) (by rw[hsize];exact pre.lim 0 b1 hbF1) (hrest2.1.trans hrest1.1) (hrest2.2.1.trans hrest1.2.1) (hrest2.2.2.trans hrest1.2.2) () (houts _ _ _ _)
    exact ⟨val,Pr',Gs,Os,us,by rw[←hv,hlz],hp⟩
   ·have hg:cap1<xs.length+ys.length:=by omega
    obtain ⟨K,hK⟩:∃ K,K=xs.length+ys.length - i:=⟨_,rfl⟩
    have hKi:i+K=xs.length+ys.length:=by omega
    have hn1d:(Builtin.firstCells i0.size i (.slice (some ⟨b1,0,none⟩) i cap1)).run Tryz.prog w.drew=.ok (cells1.take i).toArray w.drew:=by
     rw[hs0]
     refine qft (by rw[List.length_take,hl1',Nat.mul_one];omega) (.inr ⟨b1,0,rfl,qc6 ?_⟩)
     have e:cells1.take i=sub cs1 0 i:=by rw[hct];simp only[sub,List.drop_zero]
     rw[e];exact qbv hbo1.blk (by omega)
    have hfit:Builtin.nextslicecap (i+K) cap1 * i0.bytes≤281474976710656:=by
     have:=Room.nextslicecap_le' (need:=i+K) (old:=cap1) (by omega)
     rw[hb0];omega
    have hr:=fun ty=>Lib.run_append_grow_zeros (P:=Tryz.prog) w 29 3 ty 32 i0 _ .i64 .i64 u67 u3 hi0 hz0 (some ⟨b1,0,none⟩) i cap1 (cells1.take i) hn1d K (by omega) (by omega) (by omega) (by omega) (by rw[hb0];omega) hfit
    have hge:=grownCap_ge w (i+K) cap1 32
    generalize grownCap w (i+K) cap1 32=cap' at hr hge
    have hzs:(Value.slice none 0 0).cells.size=1:=rfl
    have hcss:((cells1.take i).toArray++Builtin.zeroCells (Value.slice none 0 0).cells K++Builtin.zeroCells (Value.slice none 0 0).cells (cap' - (i+K))).size=cap':=by
     simp only[Array.size_append,List.size_toArray,size_zeroCells,hzs,List.length_take,hl1'];omega
    have htk:((cells1.take i).toArray++Builtin.zeroCells (Value.slice none 0 0).cells K++Builtin.zeroCells (Value.slice none 0 0).cells (cap' - (i+K))).toList.take i=cells1.take i:=by
     simp only[Array.toList_append,List.append_assoc]
     rw[List.take_append_of_le_length (by rw[List.length_take,hl1'];omega),List.take_of_length_le (by rw[List.length_take,hl1'];omega)]
    generalize (cells1.take i).toArray++Builtin.zeroCells (Value.slice none 0 0).cells K++Builtin.zeroCells (Value.slice none 0 0).cells (cap' - (i+K))=cs0 at hr hcss htk
    rw[hKi] at hr hge
    have hKI:((K:Nat):Int)=(xs.length:Int)+(ys.length:Int) - (i:Int):=by omega
    rw[hKI] at hr
    have hob0:qbj (w.drew.alloc (.cells cs0 32)).heap w.heap.size cs0:=qbj.new
    have hb1lt:=pre.lim 0 b1 hbF1
    have hb2lt:=pre.lim 2 b2 hbF2
    have hb1B:b1≠w.heap.size:=by omega
    have hb2B:b2≠w.heap.size:=by omega
    have hold:∀ b',b'<w.heap.size→(w.drew.alloc (.cells cs0 32)).heap[b']? = w.heap[b']?:=fun b' hb'=>qgv b' hb'
    have hfitA:i+cells2.length≤cs0.size:=by omega
    have thA:=qd7 (w:=w.drew.alloc (.cells cs0 32)) (o:=i) (n:=cells2.length) hob0 hfitA
    have hr2:(w.drew.alloc (.cells cs0 32)).rangeAt b2 0 cells2:=by
     rw[hcells2]
     exact qbv (Blk.congr hbo2.blk (hold b2 hb2lt)) (by omega)
    have hB:∀ ty,(Builtin.copy_ #[29,29] ty #[.slice (some ⟨w.heap.size,i,none⟩) (xs.length+ys.length - i) (cap' - i),.slice (some ⟨b2,0,none⟩) ys.length cap2]).run Tryz.prog (w.drew.alloc (.cells cs0 32))=.ok (goInt cells2.length) ((w.drew.alloc (.cells cs0 32)).setCells w.heap.size i cells2):=fun ty=>
     run_copy_cells _ 29 29 ty 32 w.heap.size i _ _ ⟨b2,0,none⟩ _ cap2 cells2 u67 hsz38 (by rw[hl2'];simp only[Nat.min_def];split<;>omega)
      (fun k v hk=>by rw[Addr.add_mid];exact hr2 k v hk) (fun k hk=>(thA k hk).1) (fun k hk=>(thA k hk).2) hone2
    obtain ⟨ty,lo,hi',he,hfz⟩:=hob0
    obtain ⟨cs3,hcs3,hcs3l⟩:=qc9 cells2 i (w.drew.alloc (.cells cs0 32)) cs0 he hfitA
    have h7:cs0.toList.length=cs0.size:=Array.length_toList
    have hsz3:cs3.size=cs0.size:=by rw[←Array.length_toList,hcs3l,qch (by simpa using hfitA),Array.length_toList]
    have hob3:qbj ((w.drew.alloc (.cells cs0 32)).setCells w.heap.size i cells2).drew.heap w.heap.size cs3:=⟨ty,lo,hi',hcs3,fun t ht=>hfz t (by omega)⟩
    have hfitB:i+ys.length+(cells1.drop i).length≤cs3.size:=by rw[hdl];omega
    have thB:=qd7 (w:=((w.drew.alloc (.cells cs0 32)).setCells w.heap.size i cells2).drew) (o:=i+ys.length) (n:=(cells1.drop i).length) hob3 hfitB
    have hr1:((w.drew.alloc (.cells cs0 32)).setCells w.heap.size i cells2).drew.rangeAt b1 i (cells1.drop i):=by
     rw[hcd]
     exact qc6 (qbv (Blk.congr hbo1.blk ((qbk cells2 _ _ b1 hb1B).trans (hold b1 hb1lt))) (by omega))
    have hC:∀ ty,(Builtin.copy_ #[29,29] ty #[.slice (some ⟨w.heap.size,i+ys.length,none⟩) (xs.length+ys.length - (i+ys.length)) (cap' - (i+ys.length)),.slice (some ⟨b1,i,none⟩) (xs.length - i) (cap1 - i)]).run Tryz.prog ((w.drew.alloc (.cells cs0 32)).setCells w.heap.size i cells2).drew=.ok (goInt (cells1.drop i).length) (((w.drew.alloc (.cells cs0 32)).setCells w.heap.size i cells2).drew.setCells w.heap.size (i+ys.length) (cells1.drop i)):=fun ty=>
     run_copy_cells _ 29 29 ty 32 w.heap.size (i+ys.length) _ _ ⟨b1,i,none⟩ _ _ (cells1.drop i) u67 hsz38 (by rw[hdl];simp only[Nat.min_def];split<;>omega)
      (fun k v hk=>by rw[Addr.add_mid];exact hr1 k v hk) (fun k hk=>(thB k hk).1) (fun k hk=>(thB k hk).2) honed
    obtain ⟨cs4,hcs4,hcs4l⟩:=qc9 (cells1.drop i) (i+ys.length) ((w.drew.alloc (.cells cs0 32)).setCells w.heap.size i cells2).drew cs3 hcs3 hfitB
    have hsz4:cs4.size=cs3.size:=by rw[←Array.length_toList,hcs4l,qch (by simpa using hfitB),Array.length_toList]
    have hob4:qbj (((w.drew.alloc (.cells cs0 32)).setCells w.heap.size i cells2).drew.setCells w.heap.size (i+ys.length) (cells1.drop i)).heap w.heap.size cs4:=⟨ty,lo,hi',hcs4,fun t ht=>hfz t (by omega)⟩
    have htake:cs4.toList.take ((xs.take i++ys++xs.drop i).length * TRow.width)=cells1.take i++cells2++cells1.drop i:=by
     have e:=qbxy (l:=cs0.toList) (D:=cells1.drop i) (C:=cells2) (i:=i) (m:=ys.length) hl2' (by rw[h7];omega)
     rw[hw1,Nat.mul_one,hlz,hcs4l,hcs3l,←htk]
     rw[show xs.length+ys.length=i+ys.length+(cells1.drop i).length by rw[hdl];omega]
     exact e
    have hrest1:=qcg (b:=w.heap.size) cells2 i (w.drew.alloc (.cells cs0 32))
    have hrest2:=qcg (b:=w.heap.size) (cells1.drop i) (i+ys.length) ((w.drew.alloc (.cells cs0 32)).setCells w.heap.size i cells2).drew
    have hsize:(((w.drew.alloc (.cells cs0 32)).setCells w.heap.size i cells2).drew.setCells w.heap.size (i+ys.length) (cells1.drop i)).heap.size=w.heap.size+1:=by
     rw[qbd]
     show ((w.drew.alloc (.cells cs0 32)).setCells w.heap.size i cells2).heap.size=_
     rw[qbd];show (w.heap.push _).size=_;simp
    refine (qbwn b1 xs.length cap1 i ys.length ⟨b2,0,none⟩ cap2 w.heap.size cap' w _ _ _ _ _ hlt hm hlc1 hg hge (by omega) hr hB hC).mono ?_
    rintro e w' ⟨rfl,rfl⟩
    obtain ⟨val,Pr',Gs,Os,us,hv,hp⟩:=qxf pre elz hFs hob4 (cap:=cap') (by rw[hw1,Nat.mul_one];omega) (by rw[hlz];exact hge) htake (.inl rfl)
     (fun t hb=>by obtain ⟨k,hk⟩:=hFs t _ hb;exact Nat.lt_irrefl _ (pre.lim k _ hk))
     (fun b' hb1 hb'=>(qbk (cells1.drop i) _ _ b' hb').trans ((qbk cells2 _ _ b' hb').trans (hold b' hb1))) (by rw[hsize];omega) (by rw[hsize];omega) (hrest2.1.trans hrest1.1) (hrest2.2.1.trans hrest1.2.1) (hrest2.2.2.trans hrest1.2.2) () (houts _ _ _ _)
    exact ⟨val,Pr',Gs,Os,us,by rw[←hv,hlz],hp⟩
 ·simp at h
end Go.V


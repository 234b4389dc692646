import Derived.WalkKit
import Derived.Lib.Walk
import Derived.Lib.SliceRun
import Derived.Lib.JoinLaws
import Derived.Lib.AppendZeros
import Derived.Lib.Overlaps
import Derived.Laws.Externs
import Derived.Laws.IdiomCopy
import Derived.Lib.AppendZerosOnto
import Derived.Shelf.Spec.SlicesInsert
import Derived.Test.YtfafjngknkbngaaGreatAPFnExactRemove1
set_option linter.unusedVariables false
set_option linter.unusedSimpArgs false
set_option linter.unusedSectionVars false
namespace Go.G
open Go Go.V
theorem br_t {R:Type} {a b:Option R}:br true a b=a:=rfl
theorem br_f {R:Type} {a b:Option R}:br false a b=b:=rfl
theorem qo {R:Type} {a b:Option R} {p:Prop} [Decidable p] (h:p):br (decide p) a b=a:=by simp[br,h]
theorem qn {R:Type} {a b:Option R} {p:Prop} [Decidable p] (h:¬ p):br (decide p) a b=b:=by simp[br,h]
theorem qf {α R:Type} {a:α} {f:α→Option R}:qi (some a) f=f a:=rfl
theorem qbqh {R:Type} {c:Bool} {a b:Option R}:br c a b=if c=true then a else b:=by cases c<;>rfl
theorem qbuh (x:Int):IntKind.wrap IntKind.i64 x=if x % 18446744073709551616≥9223372036854775808 then x % 18446744073709551616 - 18446744073709551616 else x % 18446744073709551616:=by
 by_cases h:x % 18446744073709551616≥9223372036854775808<;>simp[IntKind.wrap,IntKind.signed,IntKind.bits,h]
theorem qcc {x:Int} (h1 : -9223372036854775808≤x) (h2:x≤9223372036854775807):IntKind.wrap IntKind.i64 x=x:=by
 rw[qbuh]
 split<;>omega
def W:Nat:=9223372036854775808
theorem qbl:W=9223372036854775808:=rfl
theorem qk:maxLen=9223372036854775807:=rfl
theorem qdm:qbk=274877906944:=rfl
theorem ix {α:Type} {l:List α} {i:Nat} (h:i<l.length):(decide (0≤(i:Int))&&decide ((i:Int)<(l.length:Int)))=true:=by
 simp only[Bool.and_eq_true,decide_eq_true_eq];omega
theorem ixn {α:Type} {l:List α} {i:Int} (h0:0≤i) (h:i<l.length):(decide (0≤i)&&decide (i<(l.length:Int)))=true:=by
 simp only[Bool.and_eq_true,decide_eq_true_eq];omega
theorem qp {i:Nat} (h:i<9223372036854775807):IntKind.wrap IntKind.i64 ((i:Int)+1)=((i+1:Nat):Int):=by
 rw[qcc]<;>omega
theorem qbi {α:Type} {l:List α} {i:Nat} {d:α} (h:i<l.length):l.getD i d=l[i]:=by
 simp[List.getD,h]
theorem qy {α:Type} {l:List α} {i:Nat} (h:i<l.length):l.drop i=l[i]::l.drop (i+1):=List.drop_eq_getElem_cons h
theorem q9 {α:Type} {l:List α} {i:Nat} (h:¬ i<l.length):l.drop i=[]:=List.drop_eq_nil_of_le (by omega)
def tot:(t:Ty)→t.den→Nat
 | .unit,_=>0
 | .int _,_=>0
 | .bool,_=>0
 | .str,s=>s.size
 | .sl t,xs=>xs.length+(xs.map (tot t)).sum
 | .pair a b,x=>tot a x.1+tot b x.2
def left (t:Ty) (a:t.den) (k:Int):Int:=if (tot t a:Int)≤k then k - tot t a else -1
theorem qi1 {α:Type} {f:α→Nat} {l:List α} {i:Nat} (h:i<l.length):((l.drop i).map f).sum=f l[i]+((l.drop (i+1)).map f).sum:=by
 rw[qy h,List.map_cons,List.sum_cons]
theorem q4n {t:Ty}:∀ {xs:List t.den} {x:t.den},x∈xs→tot t x+xs.length≤tot (.sl t) xs
 | y::xs,x,h=>by
  simp only[tot,List.length_cons,List.map_cons,List.sum_cons]
  rcases List.mem_cons.1 h with rfl | h
  ·have:xs.length≤xs.length+(xs.map (tot t)).sum:=by omega
   omega
  ·have:=q4n h
   simp only[tot] at this
   omega
theorem qf8 {a b:ByteArray}:List.beq a.toList b.toList=decide (a=b):=by
 have h1:List.beq a.toList b.toList=decide (a.toList=b.toList):=by
  have:(a.toList == b.toList)=decide (a.toList=b.toList):=by
   by_cases h:a.toList=b.toList<;>simp[h]
  exact this
 rw[h1]
 by_cases h:a=b
 ·simp[h]
 ·have:a.toList≠b.toList:=fun e=>h (by
   have h2:a.data.toList=b.data.toList:=by
    have:=e
    simpa [ByteArray.toList_eq] using this
   cases a;cases b
   simp only[ByteArray.mk.injEq]
   exact Array.toList_inj.1 h2)
  simp[h,this]
end Go.G

namespace Go.G
open Go Go.V
abbrev qc8:Ty:=.sl (.int .i64)
theorem q5b (a:List Int):tot qc8 a=a.length:=by
 have:∀ l:List Int,(l.map fun _=>0).sum=0:=by
  intro l;induction l with
  | nil=>rfl
  | cons x l ih=>simp[ih]
 have e:(a.map (tot (.int .i64)))=a.map fun _=>0:=by
  apply List.map_congr_left;intro x _;simp only[tot]
 show a.length+(a.map (tot (.int .i64))).sum=a.length
 rw[e,this];omega
theorem qnd {α:Type} {l:List α} {i:Nat} {x:α} (h:i<l.length):(l.set i x).take (i+1)=l.take i++[x]:=by
 rw[List.take_add_one,List.take_set_of_le (Nat.le_refl _)]
 simp[List.getElem?_set,h]
theorem qbou (D:Den ctx) (n:Nat) (K0:Bool→Option ((Bool×Unit)×Unit)) (K1:Option ((Bool×Unit)×Unit)):∀ (m i:Nat) (a b:List Int),a.length=b.length→a.length≤maxLen→i≤a.length→a.length - i<m→
  qkg D n K0 K1 m a b i=if a.drop i=b.drop i then K1 else K0 false
 | 0,_,_,_,_,_,_,h=>by omega
 | m+1,i,a,b,hl,hm,hi,hk=>by
  simp only[qkg,q0a]
  rw[qk] at hm
  by_cases h:i<a.length
  ·rw[qo (by exact_mod_cast h),ix h,br_t,ix (hl ▸ h),br_t,qp (by omega),Int.toNat_natCast,qbi h,qbi (hl ▸ h),qy h,qy (hl ▸ h:i<b.length)]
   by_cases e:a[i]=b[i]'(hl ▸ h)
   ·rw[e]
    simp only[bne_self_eq_false,br_f,List.cons.injEq,true_and]
    exact qbou D n K0 K1 m (i+1) a b hl (by rw[qk];omega) (by omega) (by omega)
   ·have:(a[i] != b[i]'(hl ▸ h))=true:=by simp[e]
    rw[this,br_t];simp only[List.cons.injEq,e,false_and,if_false]
  ·rw[qn (by exact_mod_cast h),q9 h,q9 (hl ▸ h)];rfl
theorem qbpl {X:Ext} (hX:XOk X) {n:Nat} (hn:W+1≤n) (a b:List Int) (hb:b.length≤maxLen):qu7 (DD X n) a b=some ((decide (a=b),()),()):=by
 obtain ⟨n,rfl⟩:∃ k,n=k+1:=⟨n - 1,by omega⟩
 rw[qbns hX]
 simp only[q2k,q2p,qyv]
 by_cases h:a.length=b.length
 ·have e:((a.length:Int) != (b.length:Int))=false:=by simp[h]
  rw[e,br_f]
  have:=qbou (DD X n) n (fun v=>qo4 (DD X n) n v) (qo5 (DD X n) n) n 0 a b h (by omega) (by omega) (by have:=qbl;have:=qk;omega)
  rw[show ((0:Nat):Int)=0 from rfl] at this
  rw[this]
  simp only[List.drop_zero,qo4,qo5]
  by_cases h:a=b<;>simp[h]
 ·have e:((a.length:Int) != (b.length:Int))=true:=by simp;omega
  have:a≠b:=fun h2=>h (by rw[h2])
  rw[e,br_t];simp[this]
theorem qbqk (D:Den ctx) (n:Nat) (K:List Int→Option ((List Int×Unit)×Unit)):∀ (m i:Nat) (a c:List Int),a.length=c.length→a.length≤maxLen→i≤a.length→a.length - i<m→
  qkd D n K m a i c=K (c.take i++a.drop i)
 | 0,_,_,_,_,_,_,h=>by omega
 | m+1,i,a,c,hl,hm,hi,hk=>by
  simp only[qkd,q0z]
  rw[qk] at hm
  by_cases h:i<a.length
  ·rw[qo (by exact_mod_cast h),ix h,br_t,ix (hl ▸ h),br_t,qp (by omega),Int.toNat_natCast,qbi h,qbqk D n K m (i+1) a _ (by simp[hl]) (by rw[qk];omega) (by omega) (by omega)]
   congr 1
   rw[qy h,qnd (hl ▸ h),List.append_assoc];rfl
  ·rw[qn (by exact_mod_cast h),q9 h,List.take_of_length_le (by omega),List.append_nil]
theorem q7o {a:Nat} (h:a≤qbk):(decide (0≤(a:Int))&&decide ((a:Int)≤(a:Int))&&decide ((a:Int)≤((qbk:Nat):Int)))=true:=by
 simp only[Bool.and_eq_true,decide_eq_true_eq];omega
theorem qboi {X:Ext} (hX:XOk X) {n:Nat} (hn:W+1≤n) (a:List Int) (ha:a.length≤qbk):qu4 (DD X n) a=some ((a,()),()):=by
 obtain ⟨n,rfl⟩:∃ k,n=k+1:=⟨n - 1,by omega⟩
 rw[qbnp hX]
 simp only[q2w,q2i,qwx]
 rw[q7o ha,br_t]
 have h1:=qdm
 have:=qbqk (DD X n) n (fun v=>qo3 (DD X n) n v) n 0 a (List.replicate (Int.toNat (a.length:Int)) 0) (by simp) (by rw[qk];omega) (by omega) (by have:=qbl;omega)
 rw[show ((0:Nat):Int)=0 from rfl] at this
 rw[this]
 simp only[List.take_zero,List.drop_zero,List.nil_append,qo3]
theorem qbon {X:Ext} (hX:XOk X) {n:Nat} (hn:W+1≤n) (a:List Int) (k:Int) (ha:a.length≤maxLen) (hk:0≤k∧k≤maxLen):qu3 (DD X n) a k=some ((left qc8 a k,()),()):=by
 obtain ⟨n,rfl⟩:∃ k,n=k+1:=⟨n - 1,by omega⟩
 rw[qk] at ha hk
 rw[qbnu hX]
 simp only[q26,q9w,left,q5b]
 rw[qcc (by omega) (by omega)]
 by_cases h:k - (a.length:Int)<0
 ·rw[qo h,if_neg (by omega)]
 ·rw[qn h,if_pos (by omega)]
def qfp:Int→List Int→List Int
 | _,[]=>[]
 | k,_::l=>k::qfp (k+1) l
theorem qbb5:∀ (l:List Int) (k:Int),(qfp k l).length=l.length
 | [],_=>rfl
 | _::l,k=>by simp[qfp,qbb5 l]
theorem qbiz (D:Den ctx) (n:Nat) (K:Int→List Int→Option ((Int×Unit)×List Int×Unit)):∀ (m i:Nat) (k:Int) (a:List Int),a.length≤maxLen→i≤a.length→a.length - i<m→0≤k→k+(a.length - i)≤maxLen→
  qij D n K m k i a=K (k+(a.length - i)) (a.take i++qfp k (a.drop i))
 | 0,_,_,_,_,_,h,_,_=>by omega
 | m+1,i,k,a,hm,hi,hf,hk,hkl=>by
  simp only[qij,qvr]
  have hd:=qk
  by_cases h:i<a.length
  ·rw[qo (by exact_mod_cast h),ix h,br_t,qp (by omega),qcc (by omega) (by omega),Int.toNat_natCast]
   rw[qbiz D n K m (i+1) (k+1) _ (by simpa using hm) (by simp;omega) (by simp;omega) (by omega) (by simp only[List.length_set];omega),qnd h,qy h,List.drop_set_of_lt (by omega)]
   simp only[List.length_set,List.append_assoc,qfp,List.singleton_append]
   congr 1
   omega
  ·rw[qn (by exact_mod_cast h),q9 h,List.take_of_length_le (by omega)]
   simp only[qfp,List.append_nil]
   congr 1
   omega
theorem qbsn {X:Ext} (hX:XOk X) {n:Nat} (hn:W+1≤n) (a:List Int) (k:Int) (hk:0≤k) (h:k+a.length≤maxLen):qml (DD X n) a k=some ((k+a.length,()),(qfp k a,())):=by
 obtain ⟨n,rfl⟩:∃ k,n=k+1:=⟨n - 1,by omega⟩
 have hd:=qk
 rw[qbjo hX]
 simp only[qxt,qyh,qur]
 have:=qbiz (DD X n) n (fun v w=>qmx (DD X n) n v w) n 0 k a (by omega) (by omega) (by have:=qbl;omega) hk (by omega)
 rw[show ((0:Nat):Int)=0 from rfl] at this
 rw[this]
 simp only[List.take_zero,List.drop_zero,List.nil_append,qmx,Int.sub_zero]
theorem qbi3 (D:Den ctx) (n:Nat) (K0:Int→Int→Option ((Int×Unit)×Unit)) (K1:Int→Option ((Int×Unit)×Unit)):∀ (m i:Nat) (k k0:Int) (a l:List Int),a.length≤maxLen→i≤a.length→a.length - i<m→0≤k→k+(a.length - i)≤maxLen→
  a.drop i=qfp k l→qhs D n K0 K1 m a k i=K1 (k+(a.length - i))
 | 0,_,_,_,_,_,_,_,h,_,_,_=>by omega
 | m+1,i,k,k0,a,l,hm,hi,hf,hk,hkl,hl=>by
  simp only[qhs,qv3]
  have hd:=qk
  by_cases h:i<a.length
  ·rw[qo (by exact_mod_cast h),ix h,br_t,qp (by omega),qcc (by omega) (by omega),Int.toNat_natCast,qbi h]
   rw[qy h] at hl
   cases l with
   | nil=>simp[qfp] at hl;omega
   | cons x l=>
    simp only[qfp,List.cons.injEq] at hl
    rw[hl.1,bne_self_eq_false,br_f]
    rw[qbi3 D n K0 K1 m (i+1) (k+1) k0 a l hm (by omega) (by omega) (by omega) (by omega) hl.2]
    congr 1
    omega
  ·rw[qn (by exact_mod_cast h)]
   congr 1
   omega
theorem qbsh {X:Ext} (hX:XOk X) {n:Nat} (hn:W+1≤n) (a:List Int) (k:Int) (hk:0≤k) (h:k+a.length≤maxLen):qm0 (DD X n) (qfp k a) k=some ((k+a.length,()),()):=by
 obtain ⟨n,rfl⟩:∃ k,n=k+1:=⟨n - 1,by omega⟩
 have hd:=qk
 rw[qbkm hX]
 simp only[qxk,qxb,qti]
 have hml:=qbb5 a k
 have:=qbi3 (DD X n) n (fun v w=>qrs (DD X n) n v w) (fun v=>qmv (DD X n) n v) n 0 k k (qfp k a) a (by omega) (by omega) (by have:=qbl;omega) hk (by omega) (by simp)
 rw[show ((0:Nat):Int)=0 from rfl] at this
 rw[this]
 simp only[qmv,Int.sub_zero,hml]
def qbcu (x:Int):ByteArray:=ByteArray.mk (List.toArray (List.map (fun n↦UInt8.ofNat (Int.toNat n)) [IntKind.wrap IntKind.u8 (IntKind.wrap IntKind.i64 (48+Int.tmod x 10))]))
def qsv:Nat→Int→ByteArray→ByteArray
 | 0,_,s=>s
 | f+1,x,s=>if x>0 then qsv f (Int.tdiv x 10) (ByteArray.append (qbcu x) s) else s
def q4e (k:Int):ByteArray:=if k≤0 then ByteArray.mk #[UInt8.ofNat 109,UInt8.ofNat 48] else ByteArray.append (ByteArray.mk #[UInt8.ofNat 109]) (qsv 19 k (ByteArray.mk #[]))
theorem qbfm (a b:ByteArray):(ByteArray.append a b).size=a.size+b.size:=ByteArray.size_append
theorem q66 (x:Int):(qbcu x).size=1:=rfl
theorem qbcr:∀ (f:Nat) (x:Int) (s:ByteArray),(qsv f x s).size≤s.size+f
 | 0,_,s=>by simp[qsv]
 | f+1,x,s=>by
  simp only[qsv]
  split
  ·have:=qbcr f (Int.tdiv x 10) (ByteArray.append (qbcu x) s)
   rw[qbfm,q66] at this
   omega
  ·omega
theorem qbib (D:Den ctx) (n:Nat) (K:ByteArray→Option ((ByteArray×Unit)×Unit)):∀ (f m:Nat) (x:Int) (s:ByteArray),f<m→0≤x→x<10 ^ f→x≤maxLen→s.size+f≤2 ^ 47→qft D n K m x s=K (qsv f x s)
 | f,0,_,_,h,_,_,_,_=>by omega
 | 0,m+1,x,s,_,h0,hx,_,_=>by
  simp only[qft,qpd,qsv]
  rw[qn (by simp at hx;omega)]
 | f+1,m+1,x,s,hf,h0,hx,hm,hs=>by
  simp only[qft,qpd,qsv]
  have hd:=qk
  by_cases h:x>0
  ·rw[qo h,if_pos h,qo (by show (qbcu x).size+s.size≤Nat.pow 2 47;rw[q66];show 1+s.size≤2 ^ 47;omega)]
   have e:Int.tdiv x 10=x / 10:=Int.tdiv_eq_ediv_of_nonneg h0
   rw[qcc (by rw[e];omega) (by rw[e];omega)]
   refine qbib D n K f m _ _ (by omega) (by rw[e];omega) ?_ (by rw[e];omega) ?_
   ·rw[e]
    have:(10:Int) ^ (f+1)=10 ^ f * 10:=Int.pow_succ ..
    omega
   ·show (ByteArray.append (qbcu x) s).size+f≤2 ^ 47
    rw[qbfm,q66];omega
  ·rw[qn h,if_neg h]
theorem qs3 {X:Ext} (hX:XOk X) {n:Nat} (hn:W+1≤n) (k:Int) (hk:k≤maxLen):qe1 (DD X n) k=some ((q4e k,()),()):=by
 obtain ⟨n,rfl⟩:∃ k,n=k+1:=⟨n - 1,by omega⟩
 have hd:=qk
 rw[qbhy hX]
 simp only[qxi,qxl,qub,q4e]
 by_cases h:k≤0
 ·rw[qo h,if_pos h]
 ·rw[qn h,if_neg h,qbib (DD X n) n _ 19 n k _ (by have:=qbl;omega) (by omega) (by omega) hk (by show 0+19≤2 ^ 47;decide)]
  simp only[qrm]
  have h1:=qbcr 19 k (ByteArray.mk #[])
  have h2:(ByteArray.mk #[]).size=0:=rfl
  rw[qo]
  show 1+(qsv 19 k (ByteArray.mk #[])).size≤2 ^ 47
  omega
end Go.G

namespace Go.G
open Go Go.V
def mkL {α:Type} (f:Int→α→Int×α):Int→List α→Int×List α
 | k,[]=>(k,[])
 | k,x::l=>((mkL f (f k x).1 l).1,(f k x).2::(mkL f (f k x).1 l).2)
def mkT:(t:Ty)→Int→t.den→Int×t.den
 | .unit,k,x=>(k,x)
 | .int _,k,_=>(k+1,k)
 | .bool,k,_=>(k+1,decide (Int.tmod k 3=0))
 | .str,k,_=>(k+1,q4e k)
 | .sl t,k,xs=>mkL (mkT t) k xs
 | .pair a b,k,x=>((mkT b (mkT a k x.1).1 x.2).1,((mkT a k x.1).2,(mkT b (mkT a k x.1).1 x.2).2))
def cnt:(t:Ty)→t.den→Nat
 | .unit,_=>0
 | .int _,_=>1
 | .bool,_=>1
 | .str,_=>1
 | .sl t,xs=>(xs.map (cnt t)).sum
 | .pair a b,x=>cnt a x.1+cnt b x.2
theorem qbrq {t:Ty} (h:∀ k x,(mkT t k x).1=k+cnt t x):∀ (k:Int) (xs:List t.den),(mkL (mkT t) k xs).1=k+((xs.map (cnt t)).sum:Nat)
 | k,[]=>by simp[mkL]
 | k,x::l=>by
  simp only[mkL,qbrq h,h,List.map_cons,List.sum_cons]
  omega
theorem qdb:∀ (t:Ty) (k:Int) (x:t.den),(mkT t k x).1=k+cnt t x
 | .unit,k,x=>by simp[mkT,cnt]
 | .int _,k,_=>by simp[mkT,cnt]
 | .bool,k,_=>by simp[mkT,cnt]
 | .str,k,_=>by simp[mkT,cnt]
 | .sl t,k,xs=>by simp only[mkT,cnt];exact qbrq (qdb t) k xs
 | .pair a b,k,x=>by simp only[mkT,cnt,qdb a,qdb b];omega
theorem q4l {α:Type} {f:Int→α→Int×α}:∀ (k:Int) (xs:List α),(mkL f k xs).2.length=xs.length
 | _,[]=>rfl
 | k,x::l=>by simp[mkL,q4l]
theorem qoc {t:Ty} (a:List t.den):tot (.sl t) a=a.length+(a.map (tot t)).sum:=rfl
theorem qbuv {t:Ty} (a:List t.den):cnt (.sl t) a=(a.map (cnt t)).sum:=rfl
theorem qdy {t:Ty} {a:t.den} {k:Int} (h:(tot t a:Int)≤k):left t a k=k - tot t a:=if_pos h
theorem qd7 {t:Ty} {a:t.den} {k:Int} (h:¬ (tot t a:Int)≤k):left t a k = -1:=if_neg h
theorem qfe {t:Ty} {a:t.den} {k:Int} (h:¬ left t a k<0) (hk:0≤k):left t a k=k - tot t a∧(tot t a:Int)≤k:=by
 unfold left at h ⊢
 split at h
 ·rename_i h1;rw[if_pos h1];exact ⟨rfl,h1⟩
 ·omega
theorem q2e {α:Type} {l:List α} {i:Nat} {x d:α} (h:i<l.length):(l.set i x).getD i d=x:=by
 simp[List.getD,h]
theorem q1l:∀ (k:Int) (a:List Int),mkT qc8 k a=(k+a.length,qfp k a)
 | k,[]=>by simp[mkT,mkL,qfp]
 | k,x::a=>by
  have:=q1l (k+1) a
  simp only[mkT] at this
  simp only[mkT,mkL,qfp,this,List.length_cons]
  congr 1
  omega
theorem qbpr (a:List Int):cnt qc8 a=a.length:=by
 have h1:=qdb qc8 0 a
 rw[q1l] at h1
 simp only at h1
 omega
theorem qbkl {X:Ext} (hX:XOk X) {n:Nat} (hn:W+1≤n) (a:List Int) (k:Int) (hk:0≤k) (h:k+cnt qc8 a≤maxLen):qml (DD X n) a k=some (((mkT qc8 k a).1,()),((mkT qc8 k a).2,())):=by
 rw[q1l];rw[qbpr] at h;exact qbsn hX hn a k hk h
theorem qbja {X:Ext} (hX:XOk X) {n:Nat} (hn:W+1≤n) (a:List Int) (k:Int) (hk:0≤k) (h:k+cnt qc8 a≤maxLen):qm0 (DD X n) (mkT qc8 k a).2 k=some (((mkT qc8 k a).1,()),()):=by
 rw[q1l];rw[qbpr] at h;exact qbsh hX hn a k hk h
theorem qbqc {R:Type} {t t2:Ty} {m m':Mk} {l:List AV} {r:Nat} {p:Path} {s:Nat} {v:AV} {a b:Option R} (h:l=[.brw r p s,v]):br (qg1 [.mutv t m m',.val t2] l) a b=a:=by
 subst h
 simp[qg1,qci,qjg,br]
end Go.G

namespace Go.G
open Go Go.V
def Fit (b:Nat):(t:Ty)→t.den→Prop
 | .sl t,xs=>xs.length≤b∧∀ x∈xs,Fit b t x
 | .pair s t,x=>Fit b s x.1∧Fit b t x.2
 | _,_=>True
theorem Fit.mono {b c:Nat} (h:b≤c):∀ {t:Ty} {x:t.den},Fit b t x→Fit c t x
 | .unit,_,_=>trivial
 | .int _,_,_=>trivial
 | .bool,_,_=>trivial
 | .str,_,_=>trivial
 | .sl t,xs,f=>⟨Nat.le_trans f.1 h,fun x hx=>(f.2 x hx).mono h⟩
 | .pair s t,x,f=>⟨f.1.mono h,f.2.mono h⟩
theorem qsx {b:Nat}:∀ {t:Ty} {x:t.den},tot t x≤b→Fit b t x
 | .unit,_,_=>trivial
 | .int _,_,_=>trivial
 | .bool,_,_=>trivial
 | .str,_,_=>trivial
 | .sl t,xs,f=>by
  have h:=qoc (t:=t) xs
  refine ⟨by omega,fun x hx=>qsx ?_⟩
  have:=q4n (t:=t) hx
  omega
 | .pair s t,x,f=>by
  have h:tot (.pair s t) x=tot s x.1+tot t x.2:=rfl
  exact ⟨qsx (by omega),qsx (by omega)⟩
def qir:Ty→Nat
 | .unit=>0
 | .int _=>1
 | .bool=>1
 | .str=>1
 | .sl t=>qir t
 | .pair a b=>qir a+qir b
theorem qbbt:∀ (t:Ty) (x:t.den),cnt t x≤qir t * (1+tot t x)
 | .unit,_=>by simp[cnt]
 | .int _,_=>by simp[cnt,qir,tot]
 | .bool,_=>by simp[cnt,qir,tot]
 | .str,x=>by simp only[cnt,qir];omega
 | .sl t,xs=>by
  rw[qbuv,qoc]
  simp only[qir]
  have key:∀ xs:List t.den,(xs.map (cnt t)).sum≤qir t * (xs.length+(xs.map (tot t)).sum):=by
   intro xs
   induction xs with
   | nil=>simp
   | cons x l ih=>
    have h:=qbbt t x
    simp only[List.map_cons,List.sum_cons,List.length_cons]
    have e:qir t * (l.length+1+(tot t x+(l.map (tot t)).sum))=qir t * (1+tot t x)+qir t * (l.length+(l.map (tot t)).sum):=by
     rw[←Nat.mul_add];congr 1;omega
    omega
  have:=key xs
  have e:qir t * (1+(xs.length+(xs.map (tot t)).sum))=qir t+qir t * (xs.length+(xs.map (tot t)).sum):=by
   rw[Nat.mul_add];omega
  omega
 | .pair a b,x=>by
  have h1:=qbbt a x.1
  have h2:=qbbt b x.2
  have e1:cnt (.pair a b) x=cnt a x.1+cnt b x.2:=rfl
  have e2:tot (.pair a b) x=tot a x.1+tot b x.2:=rfl
  rw[e1,e2]
  simp only[qir]
  have h3:qir a * (1+tot a x.1)≤qir a * (1+(tot a x.1+tot b x.2)):=Nat.mul_le_mul_left _ (by omega)
  have h4:qir b * (1+tot b x.2)≤qir b * (1+(tot a x.1+tot b x.2)):=Nat.mul_le_mul_left _ (by omega)
  rw[Nat.add_mul]
  omega
end Go.G

namespace Go.G
open Go Go.V
abbrev qt:Ty:=.pair (.int .i64) (.pair (.int .i64) (.pair (.str) (.unit)))
abbrev Value:=Int×Int×ByteArray×Unit
theorem qbui {X:Ext} (hX:XOk X) {n:Nat} (hn:W+2≤n) (a b:Value) (hb:Fit maxLen qt b):qs4 (DD X n) a b=some ((decide (a=b),()),()):=by
 obtain ⟨n,rfl⟩:∃ k,n=k+1:=⟨n - 1,by omega⟩
 rw[qblr hX]
 obtain ⟨a0,a1,a2,⟨⟩⟩:=a
 obtain ⟨b0,b1,b2,⟨⟩⟩:=b
 simp only[Fit] at hb
 have ne:∀ x y:Int,(x != y)=!decide (x=y):=fun x y=>by by_cases h:x=y<;>simp[h]
 simp only[q0f,q8g,qf8,ne]
 by_cases h0:a0=b0<;>by_cases h1:a1=b1<;>by_cases h2:a2=b2<;>simp[h0,h1,h2,br]
theorem qbh6 (D:Den ctx) (n:Nat) (K0:Bool→Option ((Bool×Unit)×Unit)) (K1:Option ((Bool×Unit)×Unit)):∀ (m i:Nat) (a b:List Value),(∀ x y,y∈b→qs4 D x y=some ((decide (x=y),()),()))→
  a.length=b.length→a.length≤maxLen→i≤a.length→a.length - i<m→qh1 D n K0 K1 m a b i=if a.drop i=b.drop i then K1 else K0 false
 | 0,_,_,_,_,_,_,_,h=>by omega
 | m+1,i,a,b,he,hl,hm,hi,hk=>by
  simp only[qh1,qvl]
  have hd:=qk
  by_cases h:i<a.length
  ·rw[qo (by exact_mod_cast h),ix h,br_t,ix (hl ▸ h),br_t,qp (by omega),Int.toNat_natCast,qbi h,qbi (hl ▸ h),he _ _ (List.getElem_mem _),qf,qy h,qy (hl ▸ h:i<b.length)]
   by_cases e:a[i]=b[i]'(hl ▸ h)
   ·simp only[e,decide_true,Bool.not_true,br_f,List.cons.injEq,true_and]
    exact qbh6 D n K0 K1 m (i+1) a b he hl hm (by omega) (by omega)
   ·simp only[e,decide_false,Bool.not_false,br_t,List.cons.injEq,false_and,if_false]
  ·rw[qn (by exact_mod_cast h),q9 h,q9 (hl ▸ h)];rfl
theorem qbjc {X:Ext} (hX:XOk X) {n:Nat} (hn:W+3≤n) (a b:List Value) (hb:Fit maxLen (.sl qt) b):qm8 (DD X n) a b=some ((decide (a=b),()),()):=by
 obtain ⟨n,rfl⟩:∃ k,n=k+1:=⟨n - 1,by omega⟩
 have hb1:b.length≤maxLen:=hb.1
 rw[qbis hX]
 simp only[qxx,qw1,qtx]
 by_cases h:a.length=b.length
 ·have e:((a.length:Int) != (b.length:Int))=false:=by simp[h]
  rw[e,br_f]
  have:=qbh6 (DD X n) n (fun v=>qlu (DD X n) n v) (qmq (DD X n) n) n 0 a b (fun x y hy=>qbui hX (by omega) x y (hb.2 y hy)) h (by omega) (by omega) (by have:=qbl;have:=qk;omega)
  rw[show ((0:Nat):Int)=0 from rfl] at this
  rw[this]
  simp only[List.drop_zero,qlu,qmq]
  by_cases h:a=b<;>simp[h]
 ·have e:((a.length:Int) != (b.length:Int))=true:=by simp;omega
  have:a≠b:=fun h2=>h (by rw[h2])
  rw[e,br_t];simp[this]
theorem qbtb {X:Ext} (hX:XOk X) {n:Nat} (hn:W+2≤n) (a:Value) (ha:Fit qbk qt a):qst (DD X n) a=some ((a,()),()):=by
 obtain ⟨n,rfl⟩:∃ k,n=k+1:=⟨n - 1,by omega⟩
 rw[qbl9 hX]
 rfl
theorem qbhx (D:Den ctx) (n:Nat) (K:List Value→Option ((List Value×Unit)×Unit)):∀ (m i:Nat) (a c:List Value),(∀ x∈a,qst D x=some ((x,()),()))→a.length=c.length→a.length≤maxLen→i≤a.length→a.length - i<m→
  qh6 D n K m a i c=K (c.take i++a.drop i)
 | 0,_,_,_,_,_,_,_,h=>by omega
 | m+1,i,a,c,he,hl,hm,hi,hk=>by
  simp only[qh6,qv2]
  have hd:=qk
  by_cases h:i<a.length
  ·rw[qo (by exact_mod_cast h),ix h,br_t,Int.toNat_natCast,qbi h,he _ (List.getElem_mem _),qf,ix (hl ▸ h),br_t,qp (by omega)]
   have e:=qbhx D n K m (i+1) a (c.set i a[i]) he (by simp[hl]) hm (by omega) (by omega)
   rw[qy h]
   refine Eq.trans e ?_
   rw[qnd (hl ▸ h),List.append_assoc];rfl
  ·rw[qn (by exact_mod_cast h),q9 h,List.take_of_length_le (by omega),List.append_nil]
theorem qbj6 {X:Ext} (hX:XOk X) {n:Nat} (hn:W+3≤n) (a:List Value) (ha:Fit qbk (.sl qt) a):qe2 (DD X n) a=some ((a,()),()):=by
 obtain ⟨n,rfl⟩:∃ k,n=k+1:=⟨n - 1,by omega⟩
 have ha1:a.length≤qbk:=ha.1
 rw[qbjd hX]
 simp only[qxd,qw2,qt0]
 rw[q7o ha1,br_t]
 have h1:=qdm
 have:=qbhx (DD X n) n (fun v=>qmh (DD X n) n v) n 0 a (List.replicate (Int.toNat (a.length:Int)) (0,(0,(ByteArray.empty,())))) (fun x hx=>qbtb hX (by omega) x (ha.2 x hx)) (by simp) (by rw[qk];omega) (by omega) (by have:=qbl;omega)
 rw[show ((0:Nat):Int)=0 from rfl] at this
 rw[this]
 simp only[List.take_zero,List.drop_zero,List.nil_append,qmh]
theorem qbtw {X:Ext} (hX:XOk X) {n:Nat} (hn:W+2≤n) (a:Value) (k:Int) (ha:Wf qt a) (hk:0≤k∧k≤maxLen):qs6 (DD X n) a k=some ((left qt a k,()),()):=by
 obtain ⟨n,rfl⟩:∃ k,n=k+1:=⟨n - 1,by omega⟩
 have hd:=qk
 simp only[Wf] at ha
 have w1:a.2.2.1.size≤maxLen:=ha.2.2.1
 have ht:tot qt a=0+(0+(a.2.2.1.size+(0))):=rfl
 rw[qbmh hX]
 simp only[qz1,q71]
 rw[qcc (by omega) (by omega)]
 by_cases h:k - (a.2.2.1.size:Int)<0
 ·rw[qo h,qd7 (by omega)]
 ·rw[qn h,qdy (by omega)]
  try (congr 3<;>omega)
theorem qbi7 (D:Den ctx) (n:Nat) (K0:Int→Int→Option ((Int×Unit)×Unit)) (K1:Int→Option ((Int×Unit)×Unit)) (hK:∀ k,K1 k=some ((k,()),())) (hK0:∀ k,K0 k (-1)=some ((-1,()),())):∀ (m i:Nat) (k:Int) (a:List Value),
  (∀ x∈a,∀ k:Int,0≤k→k≤maxLen→qs6 D x k=some ((left qt x k,()),()))→a.length≤maxLen→i≤a.length→a.length - i<m→0≤k→k≤maxLen→
  qil D n K0 K1 m a k i=some ((if (((a.drop i).map (tot qt)).sum:Int)≤k then k - ((a.drop i).map (tot qt)).sum else -1,()),())
 | 0,_,_,_,_,_,_,h,_,_=>by omega
 | m+1,i,k,a,he,hm,hi,hf,h0,h1=>by
  simp only[qil,qvs]
  have hd:=qk
  by_cases h:i<a.length
  ·rw[qo (by exact_mod_cast h),ix h,br_t,Int.toNat_natCast,qbi h,he _ (List.getElem_mem _) k h0 h1,qf,qp (by omega),qi1 h]
   by_cases h2:left qt a[i] k<0
   ·rw[qo h2,hK0,if_neg]
    intro h3
    rw[qdy (by omega)] at h2
    omega
   ·obtain ⟨e1,e2⟩:=qfe h2 h0
    rw[qn h2,e1];dsimp only
    rw[qbi7 D n K0 K1 hK hK0 m (i+1) _ a he hm (by omega) (by omega) (by omega) (by omega)]
    congr 3
    push_cast
    split<;>split<;>omega
  ·rw[qn (by exact_mod_cast h),q9 h,hK]
   simp[h0]
theorem qbh7 {X:Ext} (hX:XOk X) {n:Nat} (hn:W+3≤n) (a:List Value) (k:Int) (ha:Wf (.sl qt) a) (hk:0≤k∧k≤maxLen):ql5 (DD X n) a k=some ((left (.sl qt) a k,()),()):=by
 obtain ⟨n,rfl⟩:∃ k,n=k+1:=⟨n - 1,by omega⟩
 have hd:=qk
 have w1:a.length≤maxLen:=ha.1
 have hts:=qoc (t:=qt) a
 rw[qbju hX]
 simp only[qw0,qwz,qtc]
 rw[qcc (by omega) (by omega)]
 by_cases h:k - (a.length:Int)<0
 ·rw[qo h,qd7 (by omega)]
 ·rw[qn h]
  have:=qbi7 (DD X n) n (fun v w=>qrj (DD X n) n v w) (fun v=>qr0 (DD X n) n v) (fun _=>rfl) (fun _=>rfl) n 0 (k - a.length) a
   (fun x hx k h0 h1=>qbtw hX (by omega) x k (ha.2 x hx) ⟨h0,h1⟩) w1 (by omega) (by have:=qbl;omega) (by omega) (by omega)
  rw[show ((0:Nat):Int)=0 from rfl] at this
  rw[this,List.drop_zero]
  by_cases h2:(tot (.sl qt) a:Int)≤k
  ·rw[qdy h2,if_pos (by omega)];congr 3;omega
  ·rw[qd7 h2,if_neg (by omega)]
theorem qbdd {X:Ext} (hX:XOk X) (N n:Nat) (hN:W+1≤N) (K:Int→List Value→Option ((Int×Unit)×List Value×Unit)):∀ (m i:Nat) (k:Int) (a:List Value),a.length≤maxLen→i≤a.length→a.length - i<m→0≤k→k+((a.drop i).map (cnt qt)).sum≤maxLen→
  qgg (DD X N) n K m k i a=K (mkL (mkT qt) k (a.drop i)).1 (a.take i++(mkL (mkT qt) k (a.drop i)).2)
 | 0,_,_,_,_,_,h,_,_=>by omega
 | m+1,i,k,a,hm,hi,hf,hk,hkl=>by
  simp only[qgg,qsa]
  have hd:=qk
  by_cases h:i<a.length
  ·rw[qi1 h] at hkl
   have hc:cnt qt a[i]=1+1+1:=by first | rfl | (simp only[cnt];omega)
   have t2:=qs3 hX hN (k+1+1) (by omega)
   have w0:IntKind.wrap IntKind.i64 (k+1)=k+1:=qcc (by omega) (by omega)
   have w1:IntKind.wrap IntKind.i64 (k+1+1)=k+1+1:=qcc (by omega) (by omega)
   have w2:IntKind.wrap IntKind.i64 (k+1+1+1)=k+1+1+1:=qcc (by omega) (by omega)
   have wi:IntKind.wrap IntKind.i64 ((i:Int)+1)=((i+1:Nat):Int):=qp (by omega)
   rw[qo (by exact_mod_cast h)]
   simp only[ix h,br_t,t2,w0,w1,w2,wi,qf,List.length_set,Int.toNat_natCast,q2e h,qbi h,List.set_set]
   have e:=qbdd hX N n hN K m (i+1) (k+1+1+1) (a.set i (k,k+1,q4e (k+1+1),())) (by simpa using hm) (by simp;omega) (by simp;omega) (by omega) (by rw[List.drop_set_of_lt (by omega)];omega)
   refine Eq.trans e ?_
   rw[qnd h,qy h,List.drop_set_of_lt (by omega),List.append_assoc]
   rfl
  ·rw[qn (by exact_mod_cast h),q9 h,List.take_of_length_le (by omega)]
   simp only[mkL,List.append_nil]
theorem qbcy {X:Ext} (hX:XOk X) {n:Nat} (hn:W+2≤n) (a:List Value) (k:Int) (ha:a.length≤maxLen) (hk:0≤k) (h:k+cnt (.sl qt) a≤maxLen) :
  qn1 (DD X n) a k=some (((mkT (.sl qt) k a).1,()),((mkT (.sl qt) k a).2,())):=by
 obtain ⟨n,rfl⟩:∃ k,n=k+1:=⟨n - 1,by omega⟩
 have hd:=qk
 rw[qbev hX]
 simp only[quq,qut,qqi]
 have:=qbdd hX n n (by omega) (fun v w=>qjt (DD X n) n v w) n 0 k a ha (by omega) (by have:=qbl;omega) hk (by rw[List.drop_zero];exact h)
 rw[show ((0:Nat):Int)=0 from rfl] at this
 rw[this]
 simp only[List.take_zero,List.drop_zero,List.nil_append,qjt,mkT]
theorem qbb1 {X:Ext} (hX:XOk X) (N n:Nat) (hN:W+1≤N) (K0:Int→Int→Option ((Int×Unit)×Unit)) (K1:Int→Option ((Int×Unit)×Unit)):∀ (m i:Nat) (k:Int) (a l:List Value),a.length≤maxLen→i≤a.length→a.length - i<m→0≤k→k+(l.map (cnt qt)).sum≤maxLen→
  a.drop i=(mkL (mkT qt) k l).2→qfx (DD X N) n K0 K1 m a k i=K1 (mkL (mkT qt) k l).1
 | 0,_,_,_,_,_,_,h,_,_,_=>by omega
 | m+1,i,k,a,l,hm,hi,hf,hk,hkl,hl=>by
  simp only[qfx,qrw]
  have hd:=qk
  by_cases h:i<a.length
  ·rw[qy h] at hl
   cases l with
   | nil=>simp[mkL] at hl;omega
   | cons x l=>
    simp only[mkL,List.cons.injEq] at hl
    obtain ⟨hx,hl⟩:=hl
    simp only[List.map_cons,List.sum_cons] at hkl
    have hc:cnt qt x=1+1+1:=by first | rfl | (simp only[cnt];omega)
    have t2:=qs3 hX hN (k+1+1) (by omega)
    have w0:IntKind.wrap IntKind.i64 (k+1)=k+1:=qcc (by omega) (by omega)
    have w1:IntKind.wrap IntKind.i64 (k+1+1)=k+1+1:=qcc (by omega) (by omega)
    have w2:IntKind.wrap IntKind.i64 (k+1+1+1)=k+1+1+1:=qcc (by omega) (by omega)
    have hx0:a[i].1=k:=by rw[hx];rfl
    have hx1:a[i].2.1=k+1:=by rw[hx];rfl
    have hx2:a[i].2.2.1=q4e (k+1+1):=by rw[hx];rfl
    have wi:IntKind.wrap IntKind.i64 ((i:Int)+1)=((i+1:Nat):Int):=qp (by omega)
    rw[qo (by exact_mod_cast h)]
    simp only[ix h,br_t,Int.toNat_natCast,qbi h,hx0,hx1,hx2,t2,w0,w1,w2,wi,qf,qf8,decide_true,Bool.not_true,br_f,bne_self_eq_false]
    exact qbb1 hX N n hN K0 K1 m (i+1) (mkT qt k x).1 a l hm (by omega) (by omega) (by rw[qdb];omega) (by rw[qdb];omega) hl
  ·rw[qn (by exact_mod_cast h)]
   rw[q9 h] at hl
   cases l with
   | nil=>rfl
   | cons x l=>simp[mkL] at hl
theorem qbqi {X:Ext} (hX:XOk X) {n:Nat} (hn:W+2≤n) (a:List Value) (k:Int) (ha:a.length≤maxLen) (hk:0≤k) (h:k+cnt (.sl qt) a≤maxLen) :
  qtb (DD X n) (mkT (.sl qt) k a).2 k=some (((mkT (.sl qt) k a).1,()),()):=by
 obtain ⟨n,rfl⟩:∃ k,n=k+1:=⟨n - 1,by omega⟩
 have hd:=qk
 rw[qbd9 hX]
 simp only[qus,qt5,qqg]
 have hml:(mkT (.sl qt) k a).2.length=a.length:=q4l k a
 have:=qbb1 hX n n (by omega) (fun v w=>qos (DD X n) n v w) (fun v=>qj3 (DD X n) n v) n 0 k (mkT (.sl qt) k a).2 a (by omega) (by omega) (by have:=qbl;omega) hk h (by simp[mkT])
 rw[show ((0:Nat):Int)=0 from rfl] at this
 rw[this]
 simp only[qj3,mkT]
abbrev ColT:Ty:=.pair (.str) (.pair (.int .i64) (.pair (.bool) (.unit)))
abbrev Col:=ByteArray×Int×Bool×Unit
theorem qbxe {X:Ext} (hX:XOk X) {n:Nat} (hn:W+2≤n) (a b:Col) (hb:Fit maxLen ColT b):qyw (DD X n) a b=some ((decide (a=b),()),()):=by
 obtain ⟨n,rfl⟩:∃ k,n=k+1:=⟨n - 1,by omega⟩
 rw[qbod hX]
 obtain ⟨a0,a1,a2,⟨⟩⟩:=a
 obtain ⟨b0,b1,b2,⟨⟩⟩:=b
 simp only[Fit] at hb
 have ne:∀ x y:Int,(x != y)=!decide (x=y):=fun x y=>by by_cases h:x=y<;>simp[h]
 simp only[q5e,qbcl,qf8,ne]
 by_cases h0:a0=b0<;>by_cases h1:a1=b1<;>by_cases h2:a2=b2<;>simp[h0,h1,h2,br]
theorem qbqe (D:Den ctx) (n:Nat) (K0:Bool→Option ((Bool×Unit)×Unit)) (K1:Option ((Bool×Unit)×Unit)):∀ (m i:Nat) (a b:List Col),(∀ x y,y∈b→qyw D x y=some ((decide (x=y),()),()))→
  a.length=b.length→a.length≤maxLen→i≤a.length→a.length - i<m→qkn D n K0 K1 m a b i=if a.drop i=b.drop i then K1 else K0 false
 | 0,_,_,_,_,_,_,_,h=>by omega
 | m+1,i,a,b,he,hl,hm,hi,hk=>by
  simp only[qkn,qz4]
  have hd:=qk
  by_cases h:i<a.length
  ·rw[qo (by exact_mod_cast h),ix h,br_t,ix (hl ▸ h),br_t,qp (by omega),Int.toNat_natCast,qbi h,qbi (hl ▸ h),he _ _ (List.getElem_mem _),qf,qy h,qy (hl ▸ h:i<b.length)]
   by_cases e:a[i]=b[i]'(hl ▸ h)
   ·simp only[e,decide_true,Bool.not_true,br_f,List.cons.injEq,true_and]
    exact qbqe D n K0 K1 m (i+1) a b he hl hm (by omega) (by omega)
   ·simp only[e,decide_false,Bool.not_false,br_t,List.cons.injEq,false_and,if_false]
  ·rw[qn (by exact_mod_cast h),q9 h,q9 (hl ▸ h)];rfl
theorem qbvk {X:Ext} (hX:XOk X) {n:Nat} (hn:W+3≤n) (a b:List Col) (hb:Fit maxLen (.sl ColT) b):q2r (DD X n) a b=some ((decide (a=b),()),()):=by
 obtain ⟨n,rfl⟩:∃ k,n=k+1:=⟨n - 1,by omega⟩
 have hb1:b.length≤maxLen:=hb.1
 rw[qbnh hX]
 simp only[q2q,q2f,qxj]
 by_cases h:a.length=b.length
 ·have e:((a.length:Int) != (b.length:Int))=false:=by simp[h]
  rw[e,br_f]
  have:=qbqe (DD X n) n (fun v=>qom (DD X n) n v) (qon (DD X n) n) n 0 a b (fun x y hy=>qbxe hX (by omega) x y (hb.2 y hy)) h (by omega) (by omega) (by have:=qbl;have:=qk;omega)
  rw[show ((0:Nat):Int)=0 from rfl] at this
  rw[this]
  simp only[List.drop_zero,qom,qon]
  by_cases h:a=b<;>simp[h]
 ·have e:((a.length:Int) != (b.length:Int))=true:=by simp;omega
  have:a≠b:=fun h2=>h (by rw[h2])
  rw[e,br_t];simp[this]
theorem qbwy {X:Ext} (hX:XOk X) {n:Nat} (hn:W+2≤n) (a:Col) (ha:Fit qbk ColT a):qxw (DD X n) a=some ((a,()),()):=by
 obtain ⟨n,rfl⟩:∃ k,n=k+1:=⟨n - 1,by omega⟩
 rw[qbpn hX]
 rfl
theorem qbo7 (D:Den ctx) (n:Nat) (K:List Col→Option ((List Col×Unit)×Unit)):∀ (m i:Nat) (a c:List Col),(∀ x∈a,qxw D x=some ((x,()),()))→a.length=c.length→a.length≤maxLen→i≤a.length→a.length - i<m→
  qki D n K m a i c=K (c.take i++a.drop i)
 | 0,_,_,_,_,_,_,_,h=>by omega
 | m+1,i,a,c,he,hl,hm,hi,hk=>by
  simp only[qki,q0o]
  have hd:=qk
  by_cases h:i<a.length
  ·rw[qo (by exact_mod_cast h),ix h,br_t,Int.toNat_natCast,qbi h,he _ (List.getElem_mem _),qf,ix (hl ▸ h),br_t,qp (by omega)]
   have e:=qbo7 D n K m (i+1) a (c.set i a[i]) he (by simp[hl]) hm (by omega) (by omega)
   rw[qy h]
   refine Eq.trans e ?_
   rw[qnd (hl ▸ h),List.append_assoc];rfl
  ·rw[qn (by exact_mod_cast h),q9 h,List.take_of_length_le (by omega),List.append_nil]
theorem qbv6 {X:Ext} (hX:XOk X) {n:Nat} (hn:W+3≤n) (a:List Col) (ha:Fit qbk (.sl ColT) a):q2t (DD X n) a=some ((a,()),()):=by
 obtain ⟨n,rfl⟩:∃ k,n=k+1:=⟨n - 1,by omega⟩
 have ha1:a.length≤qbk:=ha.1
 rw[qbnv hX]
 simp only[q29,q2m,qxp]
 rw[q7o ha1,br_t]
 have h1:=qdm
 have:=qbo7 (DD X n) n (fun v=>qor (DD X n) n v) n 0 a (List.replicate (Int.toNat (a.length:Int)) (ByteArray.empty,(0,(false,())))) (fun x hx=>qbwy hX (by omega) x (ha.2 x hx)) (by simp) (by rw[qk];omega) (by omega) (by have:=qbl;omega)
 rw[show ((0:Nat):Int)=0 from rfl] at this
 rw[this]
 simp only[List.take_zero,List.drop_zero,List.nil_append,qor]
theorem qbxj {X:Ext} (hX:XOk X) {n:Nat} (hn:W+2≤n) (a:Col) (k:Int) (ha:Wf ColT a) (hk:0≤k∧k≤maxLen):qya (DD X n) a k=some ((left ColT a k,()),()):=by
 obtain ⟨n,rfl⟩:∃ k,n=k+1:=⟨n - 1,by omega⟩
 have hd:=qk
 simp only[Wf] at ha
 have w1:a.1.size≤maxLen:=ha.1
 have ht:tot ColT a=a.1.size+(0+(0+(0))):=rfl
 rw[qbp5 hX]
 simp only[q41,qbct]
 rw[qcc (by omega) (by omega)]
 by_cases h:k - (a.1.size:Int)<0
 ·rw[qo h,qd7 (by omega)]
 ·rw[qn h,qdy (by omega)]
  try (congr 3<;>omega)
theorem qboa (D:Den ctx) (n:Nat) (K0:Int→Int→Option ((Int×Unit)×Unit)) (K1:Int→Option ((Int×Unit)×Unit)) (hK:∀ k,K1 k=some ((k,()),())) (hK0:∀ k,K0 k (-1)=some ((-1,()),())):∀ (m i:Nat) (k:Int) (a:List Col),
  (∀ x∈a,∀ k:Int,0≤k→k≤maxLen→qya D x k=some ((left ColT x k,()),()))→a.length≤maxLen→i≤a.length→a.length - i<m→0≤k→k≤maxLen→
  qkk D n K0 K1 m a k i=some ((if (((a.drop i).map (tot ColT)).sum:Int)≤k then k - ((a.drop i).map (tot ColT)).sum else -1,()),())
 | 0,_,_,_,_,_,_,h,_,_=>by omega
 | m+1,i,k,a,he,hm,hi,hf,h0,h1=>by
  simp only[qkk,qz5]
  have hd:=qk
  by_cases h:i<a.length
  ·rw[qo (by exact_mod_cast h),ix h,br_t,Int.toNat_natCast,qbi h,he _ (List.getElem_mem _) k h0 h1,qf,qp (by omega),qi1 h]
   by_cases h2:left ColT a[i] k<0
   ·rw[qo h2,hK0,if_neg]
    intro h3
    rw[qdy (by omega)] at h2
    omega
   ·obtain ⟨e1,e2⟩:=qfe h2 h0
    rw[qn h2,e1];dsimp only
    rw[qboa D n K0 K1 hK hK0 m (i+1) _ a he hm (by omega) (by omega) (by omega) (by omega)]
    congr 3
    push_cast
    split<;>split<;>omega
  ·rw[qn (by exact_mod_cast h),q9 h,hK]
   simp[h0]
theorem qbvw {X:Ext} (hX:XOk X) {n:Nat} (hn:W+3≤n) (a:List Col) (k:Int) (ha:Wf (.sl ColT) a) (hk:0≤k∧k≤maxLen):q2g (DD X n) a k=some ((left (.sl ColT) a k,()),()):=by
 obtain ⟨n,rfl⟩:∃ k,n=k+1:=⟨n - 1,by omega⟩
 have hd:=qk
 have w1:a.length≤maxLen:=ha.1
 have hts:=qoc (t:=ColT) a
 rw[qbni hX]
 simp only[q2o,q21,qyg]
 rw[qcc (by omega) (by omega)]
 by_cases h:k - (a.length:Int)<0
 ·rw[qo h,qd7 (by omega)]
 ·rw[qn h]
  have:=qboa (DD X n) n (fun v w=>qv1 (DD X n) n v w) (fun v=>qwq (DD X n) n v) (fun _=>rfl) (fun _=>rfl) n 0 (k - a.length) a
   (fun x hx k h0 h1=>qbxj hX (by omega) x k (ha.2 x hx) ⟨h0,h1⟩) w1 (by omega) (by have:=qbl;omega) (by omega) (by omega)
  rw[show ((0:Nat):Int)=0 from rfl] at this
  rw[this,List.drop_zero]
  by_cases h2:(tot (.sl ColT) a:Int)≤k
  ·rw[qdy h2,if_pos (by omega)];congr 3;omega
  ·rw[qd7 h2,if_neg (by omega)]
theorem qbh8 {X:Ext} (hX:XOk X) (N n:Nat) (hN:W+1≤N) (K:Int→List Col→Option ((Int×Unit)×List Col×Unit)):∀ (m i:Nat) (k:Int) (a:List Col),a.length≤maxLen→i≤a.length→a.length - i<m→0≤k→k+((a.drop i).map (cnt ColT)).sum≤maxLen→
  qib (DD X N) n K m k i a=K (mkL (mkT ColT) k (a.drop i)).1 (a.take i++(mkL (mkT ColT) k (a.drop i)).2)
 | 0,_,_,_,_,_,h,_,_=>by omega
 | m+1,i,k,a,hm,hi,hf,hk,hkl=>by
  simp only[qib,qv6]
  have hd:=qk
  by_cases h:i<a.length
  ·rw[qi1 h] at hkl
   have hc:cnt ColT a[i]=1+1+1:=by first | rfl | (simp only[cnt];omega)
   have t0:=qs3 hX hN (k) (by omega)
   have w0:IntKind.wrap IntKind.i64 (k+1)=k+1:=qcc (by omega) (by omega)
   have w1:IntKind.wrap IntKind.i64 (k+1+1)=k+1+1:=qcc (by omega) (by omega)
   have w2:IntKind.wrap IntKind.i64 (k+1+1+1)=k+1+1+1:=qcc (by omega) (by omega)
   have wi:IntKind.wrap IntKind.i64 ((i:Int)+1)=((i+1:Nat):Int):=qp (by omega)
   rw[qo (by exact_mod_cast h)]
   simp only[ix h,br_t,t0,w0,w1,w2,wi,qf,List.length_set,Int.toNat_natCast,q2e h,qbi h,List.set_set]
   have e:=qbh8 hX N n hN K m (i+1) (k+1+1+1) (a.set i (q4e (k),k+1,decide (Int.tmod (k+1+1) 3=0),())) (by simpa using hm) (by simp;omega) (by simp;omega) (by omega) (by rw[List.drop_set_of_lt (by omega)];omega)
   refine Eq.trans e ?_
   rw[qnd h,qy h,List.drop_set_of_lt (by omega),List.append_assoc]
   rfl
  ·rw[qn (by exact_mod_cast h),q9 h,List.take_of_length_le (by omega)]
   simp only[mkL,List.append_nil]
theorem qbsg {X:Ext} (hX:XOk X) {n:Nat} (hn:W+2≤n) (a:List Col) (k:Int) (ha:a.length≤maxLen) (hk:0≤k) (h:k+cnt (.sl ColT) a≤maxLen) :
  qyt (DD X n) a k=some (((mkT (.sl ColT) k a).1,()),((mkT (.sl ColT) k a).2,())):=by
 obtain ⟨n,rfl⟩:∃ k,n=k+1:=⟨n - 1,by omega⟩
 have hd:=qk
 rw[qbj8 hX]
 simp only[qyn,qy0,qtt]
 have:=qbh8 hX n n (by omega) (fun v w=>qmr (DD X n) n v w) n 0 k a ha (by omega) (by have:=qbl;omega) hk (by rw[List.drop_zero];exact h)
 rw[show ((0:Nat):Int)=0 from rfl] at this
 rw[this]
 simp only[List.take_zero,List.drop_zero,List.nil_append,qmr,mkT]
theorem qbh4 {X:Ext} (hX:XOk X) (N n:Nat) (hN:W+1≤N) (K0:Int→Int→Option ((Int×Unit)×Unit)) (K1:Int→Option ((Int×Unit)×Unit)):∀ (m i:Nat) (k:Int) (a l:List Col),a.length≤maxLen→i≤a.length→a.length - i<m→0≤k→k+(l.map (cnt ColT)).sum≤maxLen→
  a.drop i=(mkL (mkT ColT) k l).2→qhu (DD X N) n K0 K1 m a k i=K1 (mkL (mkT ColT) k l).1
 | 0,_,_,_,_,_,_,h,_,_,_=>by omega
 | m+1,i,k,a,l,hm,hi,hf,hk,hkl,hl=>by
  simp only[qhu,qvk]
  have hd:=qk
  by_cases h:i<a.length
  ·rw[qy h] at hl
   cases l with
   | nil=>simp[mkL] at hl;omega
   | cons x l=>
    simp only[mkL,List.cons.injEq] at hl
    obtain ⟨hx,hl⟩:=hl
    simp only[List.map_cons,List.sum_cons] at hkl
    have hc:cnt ColT x=1+1+1:=by first | rfl | (simp only[cnt];omega)
    have t0:=qs3 hX hN (k) (by omega)
    have w0:IntKind.wrap IntKind.i64 (k+1)=k+1:=qcc (by omega) (by omega)
    have w1:IntKind.wrap IntKind.i64 (k+1+1)=k+1+1:=qcc (by omega) (by omega)
    have w2:IntKind.wrap IntKind.i64 (k+1+1+1)=k+1+1+1:=qcc (by omega) (by omega)
    have hx0:a[i].1=q4e (k):=by rw[hx];rfl
    have hx1:a[i].2.1=k+1:=by rw[hx];rfl
    have hx2:a[i].2.2.1=decide (Int.tmod (k+1+1) 3=0):=by rw[hx];rfl
    have wi:IntKind.wrap IntKind.i64 ((i:Int)+1)=((i+1:Nat):Int):=qp (by omega)
    rw[qo (by exact_mod_cast h)]
    simp only[ix h,br_t,Int.toNat_natCast,qbi h,hx0,hx1,hx2,t0,w0,w1,w2,wi,qf,qf8,decide_true,Bool.not_true,br_f,bne_self_eq_false]
    exact qbh4 hX N n hN K0 K1 m (i+1) (mkT ColT k x).1 a l hm (by omega) (by omega) (by rw[qdb];omega) (by rw[qdb];omega) hl
  ·rw[qn (by exact_mod_cast h)]
   rw[q9 h] at hl
   cases l with
   | nil=>rfl
   | cons x l=>simp[mkL] at hl
theorem qbs5 {X:Ext} (hX:XOk X) {n:Nat} (hn:W+2≤n) (a:List Col) (k:Int) (ha:a.length≤maxLen) (hk:0≤k) (h:k+cnt (.sl ColT) a≤maxLen) :
  qxs (DD X n) (mkT (.sl ColT) k a).2 k=some (((mkT (.sl ColT) k a).1,()),()):=by
 obtain ⟨n,rfl⟩:∃ k,n=k+1:=⟨n - 1,by omega⟩
 have hd:=qk
 rw[qbit hX]
 simp only[qxg,qxf,qud]
 have hml:(mkT (.sl ColT) k a).2.length=a.length:=q4l k a
 have:=qbh4 hX n n (by omega) (fun v w=>qsq (DD X n) n v w) (fun v=>qmo (DD X n) n v) n 0 k (mkT (.sl ColT) k a).2 a (by omega) (by omega) (by have:=qbl;omega) hk h (by simp[mkT])
 rw[show ((0:Nat):Int)=0 from rfl] at this
 rw[this]
 simp only[qmo,mkT]
abbrev qbw:Ty:=.pair (.str) (.pair (.sl (.int .i64)) (.pair (.bool) (.unit)))
abbrev qdj:=ByteArray×List Int×Bool×Unit
theorem qbut {X:Ext} (hX:XOk X) {n:Nat} (hn:W+2≤n) (a b:qdj) (hb:Fit maxLen qbw b):qs8 (DD X n) a b=some ((decide (a=b),()),()):=by
 obtain ⟨n,rfl⟩:∃ k,n=k+1:=⟨n - 1,by omega⟩
 rw[qbla hX]
 obtain ⟨a0,a1,a2,⟨⟩⟩:=a
 obtain ⟨b0,b1,b2,⟨⟩⟩:=b
 simp only[Fit] at hb
 have ne:∀ x y:Int,(x != y)=!decide (x=y):=fun x y=>by by_cases h:x=y<;>simp[h]
 simp only[q0g,q8j,qf8,ne]
 rw[qbpl hX (by omega) _ _ (hb.2.1.1),qf]
 by_cases h0:a0=b0<;>by_cases h1:a1=b1<;>by_cases h2:a2=b2<;>simp[h0,h1,h2,br]
theorem qbkf (D:Den ctx) (n:Nat) (K0:Bool→Option ((Bool×Unit)×Unit)) (K1:Option ((Bool×Unit)×Unit)):∀ (m i:Nat) (a b:List qdj),(∀ x y,y∈b→qs8 D x y=some ((decide (x=y),()),()))→
  a.length=b.length→a.length≤maxLen→i≤a.length→a.length - i<m→qh4 D n K0 K1 m a b i=if a.drop i=b.drop i then K1 else K0 false
 | 0,_,_,_,_,_,_,_,h=>by omega
 | m+1,i,a,b,he,hl,hm,hi,hk=>by
  simp only[qh4,qwi]
  have hd:=qk
  by_cases h:i<a.length
  ·rw[qo (by exact_mod_cast h),ix h,br_t,ix (hl ▸ h),br_t,qp (by omega),Int.toNat_natCast,qbi h,qbi (hl ▸ h),he _ _ (List.getElem_mem _),qf,qy h,qy (hl ▸ h:i<b.length)]
   by_cases e:a[i]=b[i]'(hl ▸ h)
   ·simp only[e,decide_true,Bool.not_true,br_f,List.cons.injEq,true_and]
    exact qbkf D n K0 K1 m (i+1) a b he hl hm (by omega) (by omega)
   ·simp only[e,decide_false,Bool.not_false,br_t,List.cons.injEq,false_and,if_false]
  ·rw[qn (by exact_mod_cast h),q9 h,q9 (hl ▸ h)];rfl
theorem qbsk {X:Ext} (hX:XOk X) {n:Nat} (hn:W+3≤n) (a b:List qdj) (hb:Fit maxLen (.sl qbw) b):qyj (DD X n) a b=some ((decide (a=b),()),()):=by
 obtain ⟨n,rfl⟩:∃ k,n=k+1:=⟨n - 1,by omega⟩
 have hb1:b.length≤maxLen:=hb.1
 rw[qbku hX]
 simp only[qxa,qx0,qun]
 by_cases h:a.length=b.length
 ·have e:((a.length:Int) != (b.length:Int))=false:=by simp[h]
  rw[e,br_f]
  have:=qbkf (DD X n) n (fun v=>qmm (DD X n) n v) (qlz (DD X n) n) n 0 a b (fun x y hy=>qbut hX (by omega) x y (hb.2 y hy)) h (by omega) (by omega) (by have:=qbl;have:=qk;omega)
  rw[show ((0:Nat):Int)=0 from rfl] at this
  rw[this]
  simp only[List.drop_zero,qmm,qlz]
  by_cases h:a=b<;>simp[h]
 ·have e:((a.length:Int) != (b.length:Int))=true:=by simp;omega
  have:a≠b:=fun h2=>h (by rw[h2])
  rw[e,br_t];simp[this]
theorem qbun {X:Ext} (hX:XOk X) {n:Nat} (hn:W+2≤n) (a:qdj) (ha:Fit qbk qbw a):qs7 (DD X n) a=some ((a,()),()):=by
 obtain ⟨n,rfl⟩:∃ k,n=k+1:=⟨n - 1,by omega⟩
 rw[qblu hX]
 simp only[Fit] at ha
 simp only[qzy,q75]
 rw[qboi hX (by omega) _ ha.2.1.1,qf]
theorem qbjb (D:Den ctx) (n:Nat) (K:List qdj→Option ((List qdj×Unit)×Unit)):∀ (m i:Nat) (a c:List qdj),(∀ x∈a,qs7 D x=some ((x,()),()))→a.length=c.length→a.length≤maxLen→i≤a.length→a.length - i<m→
  qhz D n K m a i c=K (c.take i++a.drop i)
 | 0,_,_,_,_,_,_,_,h=>by omega
 | m+1,i,a,c,he,hl,hm,hi,hk=>by
  simp only[qhz,qwe]
  have hd:=qk
  by_cases h:i<a.length
  ·rw[qo (by exact_mod_cast h),ix h,br_t,Int.toNat_natCast,qbi h,he _ (List.getElem_mem _),qf,ix (hl ▸ h),br_t,qp (by omega)]
   have e:=qbjb D n K m (i+1) a (c.set i a[i]) he (by simp[hl]) hm (by omega) (by omega)
   rw[qy h]
   refine Eq.trans e ?_
   rw[qnd (hl ▸ h),List.append_assoc];rfl
  ·rw[qn (by exact_mod_cast h),q9 h,List.take_of_length_le (by omega),List.append_nil]
theorem qbsc {X:Ext} (hX:XOk X) {n:Nat} (hn:W+3≤n) (a:List qdj) (ha:Fit qbk (.sl qbw) a):qyi (DD X n) a=some ((a,()),()):=by
 obtain ⟨n,rfl⟩:∃ k,n=k+1:=⟨n - 1,by omega⟩
 have ha1:a.length≤qbk:=ha.1
 rw[qbjh hX]
 simp only[qyf,qwy,qtj]
 rw[q7o ha1,br_t]
 have h1:=qdm
 have:=qbjb (DD X n) n (fun v=>qms (DD X n) n v) n 0 a (List.replicate (Int.toNat (a.length:Int)) (ByteArray.empty,([],(false,())))) (fun x hx=>qbun hX (by omega) x (ha.2 x hx)) (by simp) (by rw[qk];omega) (by omega) (by have:=qbl;omega)
 rw[show ((0:Nat):Int)=0 from rfl] at this
 rw[this]
 simp only[List.take_zero,List.drop_zero,List.nil_append,qms]
theorem qbul {X:Ext} (hX:XOk X) {n:Nat} (hn:W+2≤n) (a:qdj) (k:Int) (ha:Wf qbw a) (hk:0≤k∧k≤maxLen):qs2 (DD X n) a k=some ((left qbw a k,()),()):=by
 obtain ⟨n,rfl⟩:∃ k,n=k+1:=⟨n - 1,by omega⟩
 have hd:=qk
 simp only[Wf] at ha
 have w1:a.1.size≤maxLen:=ha.1
 have ht:tot qbw a=a.1.size+(tot qc8 a.2.1+(0+(0))):=rfl
 rw[q5b] at ht
 rw[qbl3 hX]
 simp only[q06,q8e]
 rw[qcc (by omega) (by omega)]
 by_cases h:k - (a.1.size:Int)<0
 ·rw[qo h,qd7 (by omega)]
 ·have w2:a.2.1.length≤maxLen:=ha.2.1.1
  rw[qn h,qbon hX (by omega) _ _ w2 (by omega),qf]
  have e2:=q5b a.2.1
  by_cases h2:(tot qc8 a.2.1:Int)≤k - a.1.size
  ·rw[qdy h2];dsimp only
   rw[qn (by omega),qdy (by omega)]
   congr 3;omega
  ·rw[qd7 h2];dsimp only
   rw[qo (by omega),qd7 (by omega)]
theorem qbj5 (D:Den ctx) (n:Nat) (K0:Int→Int→Option ((Int×Unit)×Unit)) (K1:Int→Option ((Int×Unit)×Unit)) (hK:∀ k,K1 k=some ((k,()),())) (hK0:∀ k,K0 k (-1)=some ((-1,()),())):∀ (m i:Nat) (k:Int) (a:List qdj),
  (∀ x∈a,∀ k:Int,0≤k→k≤maxLen→qs2 D x k=some ((left qbw x k,()),()))→a.length≤maxLen→i≤a.length→a.length - i<m→0≤k→k≤maxLen→
  qif D n K0 K1 m a k i=some ((if (((a.drop i).map (tot qbw)).sum:Int)≤k then k - ((a.drop i).map (tot qbw)).sum else -1,()),())
 | 0,_,_,_,_,_,_,h,_,_=>by omega
 | m+1,i,k,a,he,hm,hi,hf,h0,h1=>by
  simp only[qif,qwh]
  have hd:=qk
  by_cases h:i<a.length
  ·rw[qo (by exact_mod_cast h),ix h,br_t,Int.toNat_natCast,qbi h,he _ (List.getElem_mem _) k h0 h1,qf,qp (by omega),qi1 h]
   by_cases h2:left qbw a[i] k<0
   ·rw[qo h2,hK0,if_neg]
    intro h3
    rw[qdy (by omega)] at h2
    omega
   ·obtain ⟨e1,e2⟩:=qfe h2 h0
    rw[qn h2,e1];dsimp only
    rw[qbj5 D n K0 K1 hK hK0 m (i+1) _ a he hm (by omega) (by omega) (by omega) (by omega)]
    congr 3
    push_cast
    split<;>split<;>omega
  ·rw[qn (by exact_mod_cast h),q9 h,hK]
   simp[h0]
theorem qbsd {X:Ext} (hX:XOk X) {n:Nat} (hn:W+3≤n) (a:List qdj) (k:Int) (ha:Wf (.sl qbw) a) (hk:0≤k∧k≤maxLen):qyl (DD X n) a k=some ((left (.sl qbw) a k,()),()):=by
 obtain ⟨n,rfl⟩:∃ k,n=k+1:=⟨n - 1,by omega⟩
 have hd:=qk
 have w1:a.length≤maxLen:=ha.1
 have hts:=qoc (t:=qbw) a
 rw[qbjx hX]
 simp only[qyx,qxu,qtz]
 rw[qcc (by omega) (by omega)]
 by_cases h:k - (a.length:Int)<0
 ·rw[qo h,qd7 (by omega)]
 ·rw[qn h]
  have:=qbj5 (DD X n) n (fun v w=>qsj (DD X n) n v w) (fun v=>qr6 (DD X n) n v) (fun _=>rfl) (fun _=>rfl) n 0 (k - a.length) a
   (fun x hx k h0 h1=>qbul hX (by omega) x k (ha.2 x hx) ⟨h0,h1⟩) w1 (by omega) (by have:=qbl;omega) (by omega) (by omega)
  rw[show ((0:Nat):Int)=0 from rfl] at this
  rw[this,List.drop_zero]
  by_cases h2:(tot (.sl qbw) a:Int)≤k
  ·rw[qdy h2,if_pos (by omega)];congr 3;omega
  ·rw[qd7 h2,if_neg (by omega)]
theorem qbbo {X:Ext} (hX:XOk X) (N n:Nat) (hN:W+1≤N) (K:Int→List qdj→Option ((Int×Unit)×List qdj×Unit)):∀ (m i:Nat) (k:Int) (a:List qdj),a.length≤maxLen→i≤a.length→a.length - i<m→0≤k→k+((a.drop i).map (cnt qbw)).sum≤maxLen→
  qf0 (DD X N) n K m k i a=K (mkL (mkT qbw) k (a.drop i)).1 (a.take i++(mkL (mkT qbw) k (a.drop i)).2)
 | 0,_,_,_,_,_,h,_,_=>by omega
 | m+1,i,k,a,hm,hi,hf,hk,hkl=>by
  simp only[qf0,qrl]
  have hd:=qk
  by_cases h:i<a.length
  ·rw[qi1 h] at hkl
   have hc:cnt qbw a[i]=1+cnt qc8 a[i].2.1+1:=by first | rfl | (simp only[cnt];omega)
   have t0:=qs3 hX hN (k) (by omega)
   have hc1:=qdb qc8 (k+1) a[i].2.1
   have t1:=qbkl hX hN a[i].2.1 (k+1) (by omega) (by omega)
   have w0:IntKind.wrap IntKind.i64 (k+1)=k+1:=qcc (by omega) (by omega)
   have w1:IntKind.wrap IntKind.i64 ((mkT qc8 (k+1) a[i].2.1).1+1)=(mkT qc8 (k+1) a[i].2.1).1+1:=qcc (by omega) (by omega)
   have wi:IntKind.wrap IntKind.i64 ((i:Int)+1)=((i+1:Nat):Int):=qp (by omega)
   rw[qo (by exact_mod_cast h)]
   simp only[ix h,br_t,t0,t1,w0,w1,wi,qf,List.length_set,Int.toNat_natCast,q2e h,qbi h,List.set_set]
   refine Eq.trans (qbqc rfl) ?_
   have e:=qbbo hX N n hN K m (i+1) ((mkT qc8 (k+1) a[i].2.1).1+1) (a.set i (q4e (k),(mkT qc8 (k+1) a[i].2.1).2,decide (Int.tmod ((mkT qc8 (k+1) a[i].2.1).1) 3=0),())) (by simpa using hm) (by simp;omega) (by simp;omega) (by omega) (by rw[List.drop_set_of_lt (by omega)];omega)
   refine Eq.trans e ?_
   rw[qnd h,qy h,List.drop_set_of_lt (by omega),List.append_assoc]
   rfl
  ·rw[qn (by exact_mod_cast h),q9 h,List.take_of_length_le (by omega)]
   simp only[mkL,List.append_nil]
theorem qbo1 {X:Ext} (hX:XOk X) {n:Nat} (hn:W+2≤n) (a:List qdj) (k:Int) (ha:a.length≤maxLen) (hk:0≤k) (h:k+cnt (.sl qbw) a≤maxLen) :
  qul (DD X n) a k=some (((mkT (.sl qbw) k a).1,()),((mkT (.sl qbw) k a).2,())):=by
 obtain ⟨n,rfl⟩:∃ k,n=k+1:=⟨n - 1,by omega⟩
 have hd:=qk
 rw[qbeb hX]
 simp only[qtu,qum,qqj]
 have:=qbbo hX n n (by omega) (fun v w=>qjy (DD X n) n v w) n 0 k a ha (by omega) (by have:=qbl;omega) hk (by rw[List.drop_zero];exact h)
 rw[show ((0:Nat):Int)=0 from rfl] at this
 rw[this]
 simp only[List.take_zero,List.drop_zero,List.nil_append,qjy,mkT]
theorem qbcp {X:Ext} (hX:XOk X) (N n:Nat) (hN:W+1≤N) (K0:Int→Int→Option ((Int×Unit)×Unit)) (K1:Int→Option ((Int×Unit)×Unit)):∀ (m i:Nat) (k:Int) (a l:List qdj),a.length≤maxLen→i≤a.length→a.length - i<m→0≤k→k+(l.map (cnt qbw)).sum≤maxLen→
  a.drop i=(mkL (mkT qbw) k l).2→qgb (DD X N) n K0 K1 m a k i=K1 (mkL (mkT qbw) k l).1
 | 0,_,_,_,_,_,_,h,_,_,_=>by omega
 | m+1,i,k,a,l,hm,hi,hf,hk,hkl,hl=>by
  simp only[qgb,qr5]
  have hd:=qk
  by_cases h:i<a.length
  ·rw[qy h] at hl
   cases l with
   | nil=>simp[mkL] at hl;omega
   | cons x l=>
    simp only[mkL,List.cons.injEq] at hl
    obtain ⟨hx,hl⟩:=hl
    simp only[List.map_cons,List.sum_cons] at hkl
    have hc:cnt qbw x=1+cnt qc8 x.2.1+1:=by first | rfl | (simp only[cnt];omega)
    have t0:=qs3 hX hN (k) (by omega)
    have hc1:=qdb qc8 (k+1) x.2.1
    have t1:=qbja hX hN x.2.1 (k+1) (by omega) (by omega)
    have w0:IntKind.wrap IntKind.i64 (k+1)=k+1:=qcc (by omega) (by omega)
    have w1:IntKind.wrap IntKind.i64 ((mkT qc8 (k+1) x.2.1).1+1)=(mkT qc8 (k+1) x.2.1).1+1:=qcc (by omega) (by omega)
    have hx0:a[i].1=q4e (k):=by rw[hx];rfl
    have hx1:a[i].2.1=(mkT qc8 (k+1) x.2.1).2:=by rw[hx];rfl
    have hx2:a[i].2.2.1=decide (Int.tmod ((mkT qc8 (k+1) x.2.1).1) 3=0):=by rw[hx];rfl
    have wi:IntKind.wrap IntKind.i64 ((i:Int)+1)=((i+1:Nat):Int):=qp (by omega)
    rw[qo (by exact_mod_cast h)]
    simp only[ix h,br_t,Int.toNat_natCast,qbi h,hx0,hx1,hx2,t0,t1,w0,w1,wi,qf,qf8,decide_true,Bool.not_true,br_f,bne_self_eq_false]
    rw[qn (by omega)]
    exact qbcp hX N n hN K0 K1 m (i+1) (mkT qbw k x).1 a l hm (by omega) (by omega) (by rw[qdb];omega) (by rw[qdb];omega) hl
  ·rw[qn (by exact_mod_cast h)]
   rw[q9 h] at hl
   cases l with
   | nil=>rfl
   | cons x l=>simp[mkL] at hl
theorem qbpp {X:Ext} (hX:XOk X) {n:Nat} (hn:W+2≤n) (a:List qdj) (k:Int) (ha:a.length≤maxLen) (hk:0≤k) (h:k+cnt (.sl qbw) a≤maxLen) :
  que (DD X n) (mkT (.sl qbw) k a).2 k=some (((mkT (.sl qbw) k a).1,()),()):=by
 obtain ⟨n,rfl⟩:∃ k,n=k+1:=⟨n - 1,by omega⟩
 have hd:=qk
 rw[qbd6 hX]
 simp only[qt1,quf,qqm]
 have hml:(mkT (.sl qbw) k a).2.length=a.length:=q4l k a
 have:=qbcp hX n n (by omega) (fun v w=>qpe (DD X n) n v w) (fun v=>qj1 (DD X n) n v) n 0 k (mkT (.sl qbw) k a).2 a (by omega) (by omega) (by have:=qbl;omega) hk h (by simp[mkT])
 rw[show ((0:Nat):Int)=0 from rfl] at this
 rw[this]
 simp only[qj1,mkT]
end Go.G

namespace Go.G
open Go Go.V Go.Proofs
def q7 (P:Nat→Bool):Nat→Nat→Bool
 | _,0=>false
 | i,k+1=>P i||q7 P (i+1) k
theorem q1i {P:Nat→Bool}:∀ {k i:Nat},q7 P i k=true↔∃ j,i≤j∧j<i+k∧P j=true
 | 0,i=>by simp[q7];intro j h1 h2;omega
 | k+1,i=>by
  simp only[q7,Bool.or_eq_true,q1i (k:=k) (i:=i+1)]
  constructor
  ·rintro (h | ⟨j,h1,h2,h3⟩)
   ·exact ⟨i,Nat.le_refl _,by omega,h⟩
   ·exact ⟨j,by omega,by omega,h3⟩
  ·rintro ⟨j,h1,h2,h3⟩
   rcases Nat.eq_or_lt_of_le h1 with rfl | h1
   ·exact .inl h3
   ·exact .inr ⟨j,by omega,by omega,h3⟩
theorem qlm {P:Nat→Bool} {k i:Nat}:q7 P i k=false↔∀ j,i≤j→j<i+k→P j=false:=by
 rw[←Bool.not_eq_true,q1i]
 constructor
 ·intro h j h1 h2
  cases hp:P j with
  | false=>rfl
  | true=>exact absurd ⟨j,h1,h2,hp⟩ h
 ·rintro h ⟨j,h1,h2,h3⟩
  rw[h j h1 h2] at h3;exact Bool.noConfusion h3
theorem qu9 {P Q:Nat→Bool}:∀ {k i:Nat},(∀ j,i≤j→j<i+k→P j=Q j)→q7 P i k=q7 Q i k
 | 0,_,_=>rfl
 | k+1,i,h=>by
  simp only[q7]
  rw[h i (Nat.le_refl _) (by omega),qu9 fun j h1 h2=>h j (by omega) (by omega)]
theorem scan {R:Type} {L:Nat→Nat→Option R} {N:Nat} {P:Nat→Bool} {A B:Option R}
  (hs:∀ m i,i≤N→L (m+1) i=if i<N then br (P i) A (L m (i+1)) else B):∀ m i,i≤N→N - i<m→L m i=br (q7 P i (N - i)) A B
 | 0,_,_,h=>by omega
 | m+1,i,hi,hm=>by
  rw[hs m i hi]
  by_cases h:i<N
  ·rw[if_pos h]
   obtain ⟨k,hk⟩:∃ k,N - i=k+1:=⟨N - i - 1,by omega⟩
   rw[hk,scan hs m (i+1) (by omega) (by omega)]
   have:N - (i+1)=k:=by omega
   rw[this]
   show br (P i) A (br (q7 P (i+1) k) A B)=br (P i||q7 P (i+1) k) A B
   cases P i<;>rfl
  ·rw[if_neg h]
   have:N - i=0:=by omega
   rw[this];rfl
theorem qjw {R:Type} {L:Nat→Nat→Option R} {N:Nat} {P:Nat→Bool} {A B:Option R}
  (hs:∀ m i,i≤N→L (m+1) i=if i<N then br (P i) A (L m (i+1)) else B) {m:Nat} (hm:N<m):L m 0=br (q7 P 0 N) A B:=by
 have:=scan hs m 0 (by omega) (by omega)
 rwa [Nat.sub_zero] at this
def qbu (P:Nat→Bool):Nat→Nat→Option Nat
 | _,0=>none
 | i,k+1=>if P i=true then some i else qbu P (i+1) k
theorem qss {P:Nat→Bool}:∀ {k i j:Nat},qbu P i k=some j→i≤j∧j<i+k∧P j=true∧∀ l,i≤l→l<j→P l=false
 | 0,i,j,h=>by simp[qbu] at h
 | k+1,i,j,h=>by
  simp only[qbu] at h
  split at h
  ·rename_i hp
   simp only[Option.some.injEq] at h
   subst h
   exact ⟨Nat.le_refl _,by omega,hp,fun l h1 h2=>by omega⟩
  ·rename_i hp
   obtain ⟨h1,h2,h3,h4⟩:=qss h
   refine ⟨by omega,by omega,h3,fun l h5 h6=>?_⟩
   rcases Nat.eq_or_lt_of_le h5 with rfl | h5
   ·simpa using hp
   ·exact h4 l h5 h6
theorem q0e {P:Nat→Bool}:∀ {k i:Nat},qbu P i k=none→∀ j,i≤j→j<i+k→P j=false
 | 0,i,_,j,h1,h2=>by omega
 | k+1,i,h,j,h1,h2=>by
  simp only[qbu] at h
  split at h
  ·simp at h
  ·rename_i hp
   rcases Nat.eq_or_lt_of_le h1 with rfl | h1
   ·simpa using hp
   ·exact q0e h j (by omega) (by omega)
theorem qbwd {R:Type} {L:Nat→Nat→Option R} {N:Nat} {P:Nat→Bool} {A:Nat→Option R} {B:Option R}
  (hs:∀ m i,i≤N→L (m+1) i=if i<N then br (P i) (A i) (L m (i+1)) else B):∀ m i,i≤N→N - i<m→L m i=match qbu P i (N - i) with | some j=>A j | none=>B
 | 0,_,_,h=>by omega
 | m+1,i,hi,hm=>by
  rw[hs m i hi]
  by_cases h:i<N
  ·rw[if_pos h]
   obtain ⟨k,hk⟩:∃ k,N - i=k+1:=⟨N - i - 1,by omega⟩
   rw[hk]
   simp only[qbu]
   by_cases hp:P i=true
   ·rw[if_pos hp,hp];rfl
   ·rw[if_neg hp,qbwd hs m (i+1) (by omega) (by omega)]
    simp only[Bool.not_eq_true] at hp
    have:N - (i+1)=k:=by omega
    rw[this,hp];rfl
  ·rw[if_neg h]
   have:N - i=0:=by omega
   rw[this];rfl
theorem q1m {R:Type} {L:Nat→Nat→Option R} {N:Nat} {P:Nat→Bool} {A:Nat→Option R} {B:Option R}
  (hs:∀ m i,i≤N→L (m+1) i=if i<N then br (P i) (A i) (L m (i+1)) else B) {m:Nat} (hm:N<m):L m 0=match qbu P 0 N with | some j=>A j | none=>B:=by
 have:=qbwd hs m 0 (by omega) (by omega)
 rwa [Nat.sub_zero] at this
theorem qjl (a b:Bool):(bif a then b else false)=(a&&b):=by cases a<;>rfl
theorem qbrs (a b:Bool):(bif a then true else b)=(a||b):=by cases a<;>rfl
def inR (x a b:Int):Bool:=decide (a≤x)&&decide (x≤b)
theorem q1n {X:Ext} (hX:XOk X) {n:Nat} (hn:1≤n) (x a b:Int):qgm (DD X n) x a b=some ((inR x a b,()),()):=by
 obtain ⟨n,rfl⟩:∃ k,n=k+1:=⟨n - 1,by omega⟩
 rw[qbqv hX]
 simp only[q62,qbf4,qjl,inR]
theorem q1v {X:Ext} (hX:XOk X) {n:Nat} (hn:1≤n) (x a b:Int):qgl (DD X n) x a b=some ((inR x a b,()),()):=by
 obtain ⟨n,rfl⟩:∃ k,n=k+1:=⟨n - 1,by omega⟩
 rw[qbq4 hX]
 simp only[q63,qbfx,qjl,inR]
def qhq (s:ByteArray) (i:Nat):Int:=((s.data.getD i (UInt8.ofNat 0)).toNat:Int)
def quw (s:ByteArray):Bool:=!(q7 (fun i=>decide (qhq s i<97)||decide (qhq s i>122)) 0 s.size)&&inR s.size 1 12
theorem ixs {s:ByteArray} {i:Nat} (h:i<s.size):(decide (0≤(i:Int))&&decide ((i:Int)<(s.size:Int)))=true:=by
 simp only[Bool.and_eq_true,decide_eq_true_eq];omega
theorem qbb7 {X:Ext} (hX:XOk X) {n:Nat} (hn:W+2≤n) (s:ByteArray) (hs:s.size≤maxLen):qpc (DD X n) s=some ((quw s,()),()):=by
 obtain ⟨n,rfl⟩:∃ k,n=k+1:=⟨n - 1,by omega⟩
 have hd:=qk
 have hW:=qbl
 rw[qbgs hX]
 simp only[qvg,qvo,qrk]
 refine Eq.trans (qjw (L:=fun m i=>qha (DD X n) n _ _ m s s.size (i:Int)) (N:=s.size) (P:=fun i=>decide (qhq s i<97)||decide (qhq s i>122))
  (A:=some ((false,()),())) (B:=some ((inR s.size 1 12,()),())) (fun m i hi=>?_) (m:=n) (by omega)) ?_
 ·simp only[qha,qtd]
  by_cases h:i<s.size
  ·rw[qo (by exact_mod_cast h),ixs h,br_t,br_t,Int.toNat_natCast,qp (by omega),if_pos h]
   change br (decide (qhq s i<97)) _ (br (decide (qhq s i>122)) _ _)=_
   by_cases h1:qhq s i<97
   ·rw[qo h1,decide_eq_true h1];rfl
   ·rw[qn h1,decide_eq_false h1]
    by_cases h2:qhq s i>122
    ·rw[qo h2,decide_eq_true h2];rfl
    ·rw[qn h2,decide_eq_false h2];rfl
  ·rw[qn (by exact_mod_cast h),if_neg h]
   simp only[qql,q1n hX (show 1≤n by omega),qf]
 ·unfold quw
  cases q7 (fun i=>decide (qhq s i<97)||decide (qhq s i>122)) 0 s.size<;>rfl
theorem qba2 {X:Ext} (hX:XOk X) {n:Nat} (hn:W+2≤n) (s:ByteArray) (hs:s.size≤maxLen):qop (DD X n) s=some ((quw s,()),()):=by
 obtain ⟨n,rfl⟩:∃ k,n=k+1:=⟨n - 1,by omega⟩
 have hd:=qk
 have hW:=qbl
 rw[qbgl hX]
 simp only[qwd,qv5,qsk]
 refine Eq.trans (qjw (L:=fun m i=>qgy (DD X n) n _ _ m s (i:Int)) (N:=s.size) (P:=fun i=>decide (qhq s i<97)||decide (qhq s i>122))
  (A:=some ((false,()),())) (B:=some ((inR s.size 1 12,()),())) (fun m i hi=>?_) (m:=n) (by omega)) ?_
 ·simp only[qgy,qth]
  by_cases h:i<s.size
  ·rw[qo (by exact_mod_cast h),ixs h,br_t,br_t,Int.toNat_natCast,qp (by omega),if_pos h]
   change br (decide (qhq s i<97)) _ (br (decide (qhq s i>122)) _ _)=_
   by_cases h1:qhq s i<97
   ·rw[qo h1,decide_eq_true h1];rfl
   ·rw[qn h1,decide_eq_false h1]
    by_cases h2:qhq s i>122
    ·rw[qo h2,decide_eq_true h2];rfl
    ·rw[qn h2,decide_eq_false h2];rfl
  ·rw[qn (by exact_mod_cast h),if_neg h]
   simp only[qqc,q1v hX (show 1≤n by omega),qf]
 ·unfold quw
  cases q7 (fun i=>decide (qhq s i<97)||decide (qhq s i>122)) 0 s.size<;>rfl
def has (l:List Int) (x:Int):Bool:=q7 (fun j=>decide (x=l.getD j 0)) 0 l.length
theorem qbs2 {X:Ext} (hX:XOk X) {n:Nat} (hn:W+2≤n) (l:List Int) (x:Int) (hl:l.length≤maxLen):qjv (DD X n) l x=some ((has l x,()),()):=by
 obtain ⟨n,rfl⟩:∃ k,n=k+2:=⟨n - 2,by omega⟩
 have hd:=qk
 have hW:=qbl
 rw[q4h hX]
 simp only[qj8,qqu]
 have e:qna (DD X (n+1)) l x=some ((match qbu (fun j=>decide (x=l.getD j 0)) 0 l.length with | some j=>(j:Int) | none=>-1,()),()):=by
  rw[q64 hX]
  simp only[qnf,qnc,qko]
  refine Eq.trans (q1m (L:=fun m i=>qdq (DD X n) n _ _ m l x l.length (i:Int)) (N:=l.length) (P:=fun j=>decide (x=l.getD j 0))
   (A:=fun j=>some (((j:Int),()),())) (B:=some ((-1,()),())) (fun m i hi=>?_) (m:=n) (by omega)) ?_
  ·simp only[qdq,qlb]
   by_cases h:i<l.length
   ·rw[qo (by exact_mod_cast h),ix h,br_t,Int.toNat_natCast,qp (by omega),if_pos h];rfl
   ·rw[qn (by exact_mod_cast h),if_neg h];rfl
  ·cases qbu (fun j=>decide (x=l.getD j 0)) 0 l.length<;>rfl
 rw[e,qf]
 congr 3
 unfold has
 cases hf:qbu (fun j=>decide (x=l.getD j 0)) 0 l.length with
 | none=>
  have:=q0e hf
  rw[qlm.2 this];rfl
 | some j=>
  obtain ⟨h1,h2,h3,_⟩:=qss hf
  rw[q1i.2 ⟨j,h1,h2,h3⟩]
  simp
def qez (n:Nat) (l:List Int) (most:Int):Bool:=!(q7 (fun i=>!inR (l.getD i 0) 0 ((n:Int) - 1)||has (l.take i) (l.getD i 0)) 0 l.length)&&inR l.length 1 most
theorem q7e {X:Ext} (hX:XOk X) {n:Nat} (hn:W+3≤n) (s:List Col×List Int×List qdj×Unit) (l:List Int) (most:Int) (hc:s.1.length≤maxLen) (hl:l.length≤maxLen) :
  qqv (DD X n) s l most=some ((qez s.1.length l most,()),()):=by
 obtain ⟨n,rfl⟩:∃ k,n=k+1:=⟨n - 1,by omega⟩
 have hd:=qk
 have hW:=qbl
 rw[qbiw hX]
 simp only[qx5,qyr,qtq]
 refine Eq.trans (qjw (L:=fun m i=>qh3 (DD X n) n _ _ m l most l l.length (i:Int) s) (N:=l.length) (P:=fun i=>!inR (l.getD i 0) 0 ((s.1.length:Int) - 1)||has (l.take i) (l.getD i 0))
  (A:=some ((false,()),())) (B:=some ((inR l.length 1 most,()),())) (fun m i hi=>?_) (m:=n) (by omega)) ?_
 ·simp only[qh3,qwb]
  by_cases h:i<l.length
  ·have hc1:(decide ((0:Nat)≤0)&&decide ((0:Int)≤(i:Int))&&decide ((i:Int)≤(l.length:Int)))=true:=by
    rw[decide_eq_true (by omega),decide_eq_true (by omega),decide_eq_true (by omega)];rfl
   rw[qo (by exact_mod_cast h),ix h,br_t,q1n hX (show 1≤n by omega),qf,hc1,br_t,Int.toNat_natCast,qp (by omega),if_pos h,qcc (by omega) (by omega)]
   have ht:(List.drop (Int.toNat 0) (List.take i l))=l.take i:=rfl
   rw[ht,qbs2 hX (by omega) _ _ (by rw[List.length_take];omega),qf]
   dsimp only
   cases inR (l.getD i 0) 0 ((s.1.length:Int) - 1)
   ·rfl
   ·cases has (l.take i) (l.getD i 0)<;>rfl
  ·rw[qn (by exact_mod_cast h),if_neg h]
   simp only[qr2,q1n hX (show 1≤n by omega),qf]
 ·unfold qez
  cases q7 (fun i=>!inR (l.getD i 0) 0 ((s.1.length:Int) - 1)||has (l.take i) (l.getD i 0)) 0 l.length<;>rfl
theorem qbvq {l:List Int} {i:Nat} (hi:i≤l.length) (x:Int):has (l.take i) x=q7 (fun k=>decide (l.getD k 0=x)) 0 i:=by
 unfold has
 rw[List.length_take,Nat.min_eq_left hi]
 refine qu9 fun j _ h=>?_
 have e:(l.take i).getD j 0=l.getD j 0:=by
  simp only[List.getD,List.getElem?_take]
  rw[if_pos (by omega)]
 rw[e]
 by_cases h:x=l.getD j 0
 ·rw[decide_eq_true h,decide_eq_true h.symm]
 ·rw[decide_eq_false h,decide_eq_false fun k=>h k.symm]
theorem q7r {X:Ext} (hX:XOk X) {n:Nat} (hn:W+3≤n) (s:List Col×List Int×List qdj×Unit) (l:List Int) (most:Int) (hc:s.1.length≤maxLen) (hl:l.length≤maxLen) :
  qoq (DD X n) s l most=some ((qez s.1.length l most,()),()):=by
 obtain ⟨n,rfl⟩:∃ k,n=k+1:=⟨n - 1,by omega⟩
 have hd:=qk
 have hW:=qbl
 rw[qbgz hX]
 simp only[qwn,qve,qrz]
 refine Eq.trans (qjw (L:=fun m i=>qd4 (DD X n) n _ _ m l most (i:Int) s) (N:=l.length) (P:=fun i=>!inR (l.getD i 0) 0 ((s.1.length:Int) - 1)||has (l.take i) (l.getD i 0))
  (A:=some ((false,()),())) (B:=some ((inR l.length 1 most,()),())) (fun m i hi=>?_) (m:=n) (by omega)) ?_
 ·simp only[qd4,qto]
  by_cases h:i<l.length
  ·rw[qo (by exact_mod_cast h),ix h,br_t,q1v hX (show 1≤n by omega),qf,Int.toNat_natCast,if_pos h,qcc (by omega) (by omega)]
   dsimp only
   cases hin:inR (l.getD i 0) 0 ((s.1.length:Int) - 1)
   ·rfl
   ·rw[Bool.not_true,br_f,Bool.false_or,qbvq (by omega)]
    simp only[qrd]
    refine Eq.trans (qjw (L:=fun q k=>qg9 (DD X n) n _ _ q l most (i:Int) (k:Int) s) (N:=i) (P:=fun k=>decide (l.getD k 0=l.getD i 0))
     (A:=some ((false,()),())) (B:=qd4 (DD X n) n (fun v0_0 v0_1 v0_2=>qqe (DD X n) n v0_0 v0_1 v0_2) (fun v1_0 v1_1=>qku (DD X n) n v1_0 v1_1) m l most ((i+1:Nat):Int) s) (fun q k hk=>?_) (m:=n) (by omega)) rfl
    simp only[qg9,qua]
    by_cases h2:k<i
    ·rw[qo (by exact_mod_cast h2),ix (i:=k) (by omega),br_t,ix h,br_t,Int.toNat_natCast,Int.toNat_natCast,qp (by omega),if_pos h2];rfl
    ·rw[qn (by exact_mod_cast h2),if_neg h2]
     simp only[qqo]
     rw[qp (by omega)]
  ·rw[qn (by exact_mod_cast h),if_neg h]
   simp only[qku,q1v hX (show 1≤n by omega),qf]
 ·unfold qez
  cases q7 (fun i=>!inR (l.getD i 0) 0 ((s.1.length:Int) - 1)||has (l.take i) (l.getD i 0)) 0 l.length<;>rfl
end Go.G

namespace Go.G
set_option maxRecDepth 100000
open Go Go.V Go.Proofs
theorem q6v (P:Nat→Bool) (n:Nat):decide ((match qbu P 0 n with | some j=>(j:Int) | none=>-1)≥0)=q7 P 0 n:=by
 cases hf:qbu P 0 n with
 | none=>rw[qlm.2 (q0e hf)];rfl
 | some j=>
  obtain ⟨h1,h2,h3,_⟩:=qss hf
  rw[q1i.2 ⟨j,h1,h2,h3⟩]
  simp
theorem qbv5 {X:Ext} (hX:XOk X) {n:Nat} (hn:W+1≤n) (l:List (Col)) (hl:l.length≤maxLen) (c:Clo) (P:Nat→Bool)
  (hP:∀ i,i<l.length→qch ctx (DD X (n - 1)) c [CapV.val (Ty.pair Ty.str (Ty.pair (Ty.int IntKind.i64) (Ty.pair Ty.bool Ty.unit))) (l.getD i (ByteArray.empty,0,false,()))] Ty.bool=some (P i)) :
  qeo (DD X n) l c=some ((match qbu P 0 l.length with | some j=>(j:Int) | none=>-1,()),()):=by
 obtain ⟨n,rfl⟩:∃ k,n=k+1:=⟨n - 1,by omega⟩
 have hd:=qk
 have hW:=qbl
 rw[qsg hX]
 simp only[qen,qel,qd9]
 refine Eq.trans (q1m (L:=fun m i=>qb0 (DD X n) n c _ _ m l l.length (i:Int)) (N:=l.length) (P:=P)
  (A:=fun j=>some (((j:Int),()),())) (B:=some ((-1,()),())) (fun m i hi=>?_) (m:=n) (by omega)) ?_
 ·simp only[qb0,qee]
  by_cases h:i<l.length
  ·have hp:qch ctx (DD X n) c [CapV.val (Ty.pair Ty.str (Ty.pair (Ty.int IntKind.i64) (Ty.pair Ty.bool Ty.unit))) (l.getD i (ByteArray.empty,0,false,()))] Ty.bool=some (P i):=hP i h
   rw[qo (by exact_mod_cast h),ix h,br_t,Int.toNat_natCast,hp,qf,qp (by omega),if_pos h];rfl
  ·rw[qn (by exact_mod_cast h),if_neg h];rfl
 ·cases qbu P 0 l.length<;>rfl
theorem qbs6 {X:Ext} (hX:XOk X) {n:Nat} (hn:W+1≤n) (l:List (qdj)) (hl:l.length≤maxLen) (c:Clo) (P:Nat→Bool)
  (hP:∀ i,i<l.length→qch ctx (DD X (n - 1)) c [CapV.val (Ty.pair Ty.str (Ty.pair (Ty.sl (Ty.int IntKind.i64)) (Ty.pair Ty.bool Ty.unit))) (l.getD i (ByteArray.empty,[],false,()))] Ty.bool=some (P i)) :
  qdt (DD X n) l c=some ((match qbu P 0 l.length with | some j=>(j:Int) | none=>-1,()),()):=by
 obtain ⟨n,rfl⟩:∃ k,n=k+1:=⟨n - 1,by omega⟩
 have hd:=qk
 have hW:=qbl
 rw[qo2 hX]
 simp only[qd0,qdw,qdh]
 refine Eq.trans (q1m (L:=fun m i=>qbo (DD X n) n c _ _ m l l.length (i:Int)) (N:=l.length) (P:=P)
  (A:=fun j=>some (((j:Int),()),())) (B:=some ((-1,()),())) (fun m i hi=>?_) (m:=n) (by omega)) ?_
 ·simp only[qbo,qdk]
  by_cases h:i<l.length
  ·have hp:qch ctx (DD X n) c [CapV.val (Ty.pair Ty.str (Ty.pair (Ty.sl (Ty.int IntKind.i64)) (Ty.pair Ty.bool Ty.unit))) (l.getD i (ByteArray.empty,[],false,()))] Ty.bool=some (P i):=hP i h
   rw[qo (by exact_mod_cast h),ix h,br_t,Int.toNat_natCast,hp,qf,qp (by omega),if_pos h];rfl
  ·rw[qn (by exact_mod_cast h),if_neg h];rfl
 ·cases qbu P 0 l.length<;>rfl
theorem qbvz {X:Ext} (hX:XOk X) {n:Nat} (hn:W+1≤n) (l:List (Int)) (hl:l.length≤maxLen) (c:Clo) (P:Nat→Bool)
  (hP:∀ i,i<l.length→qch ctx (DD X (n - 1)) c [CapV.val (Ty.int IntKind.i64) (l.getD i 0)] Ty.bool=some (P i)) :
  qjp (DD X n) l c=some ((match qbu P 0 l.length with | some j=>(j:Int) | none=>-1,()),()):=by
 obtain ⟨n,rfl⟩:∃ k,n=k+1:=⟨n - 1,by omega⟩
 have hd:=qk
 have hW:=qbl
 rw[q20 hX]
 simp only[qjo,qjm,qhv]
 refine Eq.trans (q1m (L:=fun m i=>qc5 (DD X n) n c _ _ m l l.length (i:Int)) (N:=l.length) (P:=P)
  (A:=fun j=>some (((j:Int),()),())) (B:=some ((-1,()),())) (fun m i hi=>?_) (m:=n) (by omega)) ?_
 ·simp only[qc5,qi0]
  by_cases h:i<l.length
  ·have hp:qch ctx (DD X n) c [CapV.val (Ty.int IntKind.i64) (l.getD i 0)] Ty.bool=some (P i):=hP i h
   rw[qo (by exact_mod_cast h),ix h,br_t,Int.toNat_natCast,hp,qf,qp (by omega),if_pos h];rfl
  ·rw[qn (by exact_mod_cast h),if_neg h];rfl
 ·cases qbu P 0 l.length<;>rfl
theorem qbp8 {X:Ext} (hX:XOk X) {n:Nat} (hn:W+1≤n) (l:List (List Value)) (hl:l.length≤maxLen) (c:Clo) (P:Nat→Bool)
  (hP:∀ i,i<l.length→qch ctx (DD X (n - 1)) c [CapV.val (Ty.sl (Ty.pair (Ty.int IntKind.i64) (Ty.pair (Ty.int IntKind.i64) (Ty.pair Ty.str Ty.unit)))) (l.getD i [])] Ty.bool=some (P i)) :
  qct (DD X n) l c=some ((match qbu P 0 l.length with | some j=>(j:Int) | none=>-1,()),()):=by
 obtain ⟨n,rfl⟩:∃ k,n=k+1:=⟨n - 1,by omega⟩
 have hd:=qk
 have hW:=qbl
 rw[qoz hX]
 simp only[qdv,qdx,qdg]
 refine Eq.trans (q1m (L:=fun m i=>qbp (DD X n) n c _ _ m l l.length (i:Int)) (N:=l.length) (P:=P)
  (A:=fun j=>some (((j:Int),()),())) (B:=some ((-1,()),())) (fun m i hi=>?_) (m:=n) (by omega)) ?_
 ·simp only[qbp,qdl]
  by_cases h:i<l.length
  ·have hp:qch ctx (DD X n) c [CapV.val (Ty.sl (Ty.pair (Ty.int IntKind.i64) (Ty.pair (Ty.int IntKind.i64) (Ty.pair Ty.str Ty.unit)))) (l.getD i [])] Ty.bool=some (P i):=hP i h
   rw[qo (by exact_mod_cast h),ix h,br_t,Int.toNat_natCast,hp,qf,qp (by omega),if_pos h];rfl
  ·rw[qn (by exact_mod_cast h),if_neg h];rfl
 ·cases qbu P 0 l.length<;>rfl
theorem qbfq {X:Ext} (hX:XOk X) {n:Nat} (hn:W+2≤n) (l:List (qdj)) (hl:l.length≤maxLen) (c:Clo) (P:Nat→Bool)
  (hP:∀ i,i<l.length→qch ctx (DD X (n - 2)) c [CapV.val (Ty.pair Ty.str (Ty.pair (Ty.sl (Ty.int IntKind.i64)) (Ty.pair Ty.bool Ty.unit))) (l.getD i (ByteArray.empty,[],false,()))] Ty.bool=some (P i)) :
  qcp (DD X n) l c=some ((q7 P 0 l.length,()),()):=by
 obtain ⟨n,rfl⟩:∃ k,n=k+1:=⟨n - 1,by omega⟩
 rw[qnr hX]
 simp only[qde,qfk]
 rw[qbs6 hX (n:=n) (by omega) l hl c P (fun i h=>hP i h),qf]
 congr 3
 exact q6v P l.length
theorem qbum {X:Ext} (hX:XOk X) {n:Nat} (hn:W+2≤n) (l:List (Int)) (hl:l.length≤maxLen) (c:Clo) (P:Nat→Bool)
  (hP:∀ i,i<l.length→qch ctx (DD X (n - 2)) c [CapV.val (Ty.int IntKind.i64) (l.getD i 0)] Ty.bool=some (P i)) :
  qhj (DD X n) l c=some ((q7 P 0 l.length,()),()):=by
 obtain ⟨n,rfl⟩:∃ k,n=k+1:=⟨n - 1,by omega⟩
 rw[qy3 hX]
 simp only[qhk,qni]
 rw[qbvz hX (n:=n) (by omega) l hl c P (fun i h=>hP i h),qf]
 congr 3
 exact q6v P l.length
theorem qbtm {X:Ext} (hX:XOk X) {n:Nat} (hn:W+2≤n) (l:List (List Value)) (hl:l.length≤maxLen) (c:Clo) (P:Nat→Bool)
  (hP:∀ i,i<l.length→qch ctx (DD X (n - 2)) c [CapV.val (Ty.sl (Ty.pair (Ty.int IntKind.i64) (Ty.pair (Ty.int IntKind.i64) (Ty.pair Ty.str Ty.unit)))) (l.getD i [])] Ty.bool=some (P i)) :
  qb6 (DD X n) l c=some ((q7 P 0 l.length,()),()):=by
 obtain ⟨n,rfl⟩:∃ k,n=k+1:=⟨n - 1,by omega⟩
 rw[qnk hX]
 simp only[qdd,qfn]
 rw[qbp8 hX (n:=n) (by omega) l hl c P (fun i h=>hP i h),qf]
 congr 3
 exact q6v P l.length
end Go.G

namespace Go.G
set_option maxRecDepth 100000
open Go Go.V Go.Proofs
abbrev qcj:Ty:=.pair (.sl ColT) (.pair (.sl (.int .i64)) (.pair (.sl qbw) .unit))
abbrev qca:=List Col×List Int×List qdj×Unit
def M:Nat:=4194304
theorem qc1:M=4194304:=rfl
structure SchSm (s:qca):Prop where
 cols:s.1.length≤M
 names:∀ c∈s.1,c.1.size≤M
 key:s.2.1.length≤M
 ixs:s.2.2.1.length≤M
 ixn:∀ x∈s.2.2.1,x.1.size≤M
 ixc:∀ x∈s.2.2.1,x.2.1.length≤M
abbrev cd:Col:=(ByteArray.empty,0,false,())
abbrev xd:qdj:=(ByteArray.empty,[],false,())
theorem qev {α:Type} {l:List α} {i:Nat} {d:α} (h:i<l.length):l.getD i d∈l:=by rw[qbi h];exact List.getElem_mem _
def qbn3 (cs:List Col) (name:ByteArray):Int:=match qbu (fun i=>decide ((cs.getD i cd).1=name)) 0 cs.length with | some j=>(j:Int) | none=>-1
theorem qbuq (D:Den ctx) (name:ByteArray) (x:Col):qch ctx D (Clo.mk 196 [CapV.rptr Ty.str name]) [CapV.val (Ty.pair Ty.str (Ty.pair (Ty.int IntKind.i64) (Ty.pair Ty.bool Ty.unit))) x] Ty.bool=(q7p D x name).bind fun r=>some r.1.1:=by kernel_rfl
theorem qbrg {X:Ext} (hX:XOk X) {n:Nat} (hn:W+3≤n) (s:qca) (hs:SchSm s) (name:ByteArray):q5k (DD X n) s name=some ((qbn3 s.1 name,()),()):=by
 obtain ⟨n,rfl⟩:∃ k,n=k+1:=⟨n - 1,by omega⟩
 have hd:=qk
 have hM:=qc1
 have:=hs.cols
 rw[qbqa hX]
 simp only[q52,qbc5]
 rw[qbv5 hX (n:=n) (by omega) s.1 (by omega) _ (fun i=>decide ((s.1.getD i cd).1=name)) (fun i h=>by
  obtain ⟨n,rfl⟩:∃ k,n=k+2:=⟨n - 2,by omega⟩
  rw[qbuq]
  rw[show n+2 - 1=n+1 from rfl,qblz hX]
  simp only[qzw,q7u,Option.bind_some,qf8]),qf]
 rfl
theorem qbqx {X:Ext} (hX:XOk X) {n:Nat} (hn:W+1≤n) (s:qca) (hs:SchSm s) (name:ByteArray):q57 (DD X n) s name=some ((qbn3 s.1 name,()),()):=by
 obtain ⟨n,rfl⟩:∃ k,n=k+1:=⟨n - 1,by omega⟩
 have hd:=qk
 have hW:=qbl
 have hM:=qc1
 have:=hs.cols
 rw[qbpv hX]
 simp only[q4t,q5s,q0w]
 refine Eq.trans (q1m (L:=fun m i=>qlf (DD X n) n _ _ m name (i:Int) s) (N:=s.1.length) (P:=fun i=>decide ((s.1.getD i cd).1=name))
  (A:=fun j=>some (((j:Int),()),())) (B:=some ((-1,()),())) (fun m i hi=>?_) (m:=n) (by omega)) ?_
 ·simp only[qlf,q2u]
  by_cases h:i<s.1.length
  ·rw[qo (by exact_mod_cast h),ix h,br_t,Int.toNat_natCast,qp (by omega),if_pos h,qf8];rfl
  ·rw[qn (by exact_mod_cast h),if_neg h];rfl
 ·unfold qbn3
  cases qbu (fun i=>decide ((s.1.getD i cd).1=name)) 0 s.1.length<;>rfl
def q5h (cs:List Col) (i:Nat):Bool:=!quw (cs.getD i cd).1||(!inR (cs.getD i cd).2.1 1 3||!decide (qbn3 cs (cs.getD i cd).1=(i:Int)))
def qu8 (nc:Nat) (xs:List qdj) (i:Nat):Bool:=!quw (xs.getD i xd).1||(!qez nc (xs.getD i xd).2.1 3||q7 (fun k=>decide ((xs.getD k xd).1=(xs.getD i xd).1)) 0 i)
def q4j (cs:List Col) (key:List Int):Bool:=q7 (fun j=>(cs.getD (key.getD j 0).toNat cd).2.2.1) 0 key.length
def qne (s:qca):Bool:=
 !q7 (q5h s.1) 0 s.1.length&&(!q7 (qu8 s.1.length s.2.2.1) 0 s.2.2.1.length&&(inR s.1.length 1 5&&(qez s.1.length s.2.1 4&&(!q4j s.1 s.2.1&&decide ((s.2.2.1.length:Int)≤3)))))
theorem qbm5 {n:Nat} {l:List Int} {most:Int} (h:qez n l most=true) {j:Nat} (hj:j<l.length):0≤l.getD j 0∧l.getD j 0<n:=by
 simp only[qez,Bool.and_eq_true,Bool.not_eq_true'] at h
 have:=qlm.1 h.1 j (by omega) (by omega)
 simp only[Bool.or_eq_false_iff,Bool.not_eq_false',inR,Bool.and_eq_true,decide_eq_true_eq] at this
 omega
theorem qz8 (a b:Int):(a != b)=!decide (a=b):=by by_cases h:a=b<;>simp[h]
theorem qbs4 (D:Den ctx) (y x:qdj):qch ctx D (Clo.mk 149 [CapV.rptr (Ty.pair Ty.str (Ty.pair (Ty.sl (Ty.int IntKind.i64)) (Ty.pair Ty.bool Ty.unit))) y]) [CapV.val (Ty.pair Ty.str (Ty.pair (Ty.sl (Ty.int IntKind.i64)) (Ty.pair Ty.bool Ty.unit))) x] Ty.bool=(q36 D x y).bind fun r=>some r.1.1:=by kernel_rfl
theorem qbqo (D:Den ctx) (s:qca) (x:Int):qch ctx D (Clo.mk 151 [CapV.rptr (Ty.pair (Ty.sl (Ty.pair Ty.str (Ty.pair (Ty.int IntKind.i64) (Ty.pair Ty.bool Ty.unit)))) (Ty.pair (Ty.sl (Ty.int IntKind.i64)) (Ty.pair (Ty.sl (Ty.pair Ty.str (Ty.pair (Ty.sl (Ty.int IntKind.i64)) (Ty.pair Ty.bool Ty.unit)))) Ty.unit))) s]) [CapV.val (Ty.int IntKind.i64) x] Ty.bool=(q3p D x s).bind fun r=>some r.1.1:=by kernel_rfl
theorem q7l {X:Ext} (hX:XOk X) {n:Nat} (hn:W+5≤n) (s:qca) (hs:SchSm s):qq9 (DD X n) s=some ((qne s,()),()):=by
 obtain ⟨n,rfl⟩:∃ k,n=k+1:=⟨n - 1,by omega⟩
 have hd:=qk
 have hW:=qbl
 have hM:=qc1
 have h1:=hs.cols
 have h2:=hs.ixs
 have h3:=hs.key
 rw[qbi8 hX]
 simp only[qym,qx6,quk]
 refine Eq.trans (qjw (L:=fun m i=>qh8 (DD X n) n _ _ m s.1 s.1.length (i:Int) s) (N:=s.1.length) (P:=q5h s.1)
  (A:=some ((false,()),())) (B:=br (q7 (qu8 s.1.length s.2.2.1) 0 s.2.2.1.length) (some ((false,()),())) (some ((inR s.1.length 1 5&&(qez s.1.length s.2.1 4&&(!q4j s.1 s.2.1&&decide ((s.2.2.1.length:Int)≤3))),()),()))) (fun m i hi=>?_) (m:=n) (by omega)) ?_
 ·simp only[qh8,qvy]
  by_cases h:i<s.1.length
  ·have hsz:=hs.names _ (qev (d:=cd) h)
   rw[qo (by exact_mod_cast h),ix h,br_t,Int.toNat_natCast,qbb7 hX (by omega) _ (Nat.le_trans hsz (by omega)),qf,q1n hX (by omega),qf,qbrg hX (by omega) s hs,qf,qp (by omega),if_pos h,qz8]
   dsimp only[q5h]
   cases quw (s.1.getD i cd).1
   ·rfl
   ·cases inR (s.1.getD i cd).2.1 1 3
    ·rfl
    ·rw[Bool.not_true,br_f,br_f,Bool.false_or,Bool.false_or];rfl
  ·rw[qn (by exact_mod_cast h),if_neg h]
   simp only[qsb,qtr]
   refine (qjw (L:=fun m i=>qh9 (DD X n) n _ _ m s.2.2.1 s.2.2.1.length (i:Int) s) (N:=s.2.2.1.length) (P:=qu8 s.1.length s.2.2.1)
    (A:=some ((false,()),())) (B:=some ((inR s.1.length 1 5&&(qez s.1.length s.2.1 4&&(!q4j s.1 s.2.1&&decide ((s.2.2.1.length:Int)≤3))),()),())) (fun m i hi=>?_) (m:=n) (by omega))
   simp only[qh9,qv7]
   by_cases h:i<s.2.2.1.length
   ·have hm:=qev (d:=xd) h
    have hsz:=hs.ixn _ hm
    have hsl:=hs.ixc _ hm
    have hc1:(decide ((0:Nat)≤0)&&decide ((0:Int)≤(i:Int))&&decide ((i:Int)≤(s.2.2.1.length:Int)))=true:=by
     rw[decide_eq_true (by omega),decide_eq_true (by omega),decide_eq_true (by omega)];rfl
    have hlen:(s.2.2.1.take i).length=i:=by rw[List.length_take];omega
    rw[qo (by exact_mod_cast h),ix h,br_t,Int.toNat_natCast,qbb7 hX (by omega) _ (Nat.le_trans hsz (by omega)),qf,q7e hX (by omega) s _ _ (by omega) (Nat.le_trans hsl (by omega)),qf,hc1,br_t,qp (by omega),if_pos h]
    have ht:(List.drop (Int.toNat 0) (List.take i s.2.2.1))=s.2.2.1.take i:=rfl
    rw[ht,qbfq hX (n:=n) (by omega) _ (by omega) _ (fun k=>decide ((s.2.2.1.getD k xd).1=(s.2.2.1.getD i xd).1)) (fun k hk=>by
     rw[hlen] at hk
     obtain ⟨n,rfl⟩:∃ k,n=k+3:=⟨n - 3,by omega⟩
     rw[qbs4,show n+3 - 2=n+1 from rfl,qbej hX]
     have e:(s.2.2.1.take i).getD k xd=s.2.2.1.getD k xd:=by
      simp only[List.getD,List.getElem?_take]
      rw[if_pos hk]
     simp only[quj,q3n,Option.bind_some,qf8,e]),qf,hlen]
    dsimp only[qu8]
    cases quw (s.2.2.1.getD i xd).1
    ·rfl
    ·cases qez s.1.length (s.2.2.1.getD i xd).2.1 3
     ·rfl
     ·rw[Bool.not_true,br_f,br_f,Bool.false_or,Bool.false_or];rfl
   ·rw[qn (by exact_mod_cast h),if_neg h]
    simp only[qrf]
    rw[q1n hX (by omega),qf,q7e hX (by omega) s _ _ (by omega) (by omega),qf]
    dsimp only
    cases inR s.1.length 1 5
    ·rfl
    ·rw[br_t,Bool.true_and]
     cases hp:qez s.1.length s.2.1 4
     ·rfl
     ·rw[br_t,Bool.true_and,qbum hX (n:=n) (by omega) s.2.1 (by omega) _ (fun j=>(s.1.getD (s.2.1.getD j 0).toNat cd).2.2.1) (fun k hk=>by
       obtain ⟨n,rfl⟩:∃ k,n=k+3:=⟨n - 3,by omega⟩
       obtain ⟨p1,p2⟩:=qbm5 hp hk
       rw[qbqo,show n+3 - 2=n+1 from rfl,qbe2 hX]
       simp only[quh,q3c]
       rw[ixn p1 p2,br_t];rfl),qf,qjl]
      rfl
 ·unfold qne
  cases q7 (q5h s.1) 0 s.1.length
  ·cases q7 (qu8 s.1.length s.2.2.1) 0 s.2.2.1.length<;>rfl
  ·rfl
theorem qbnn {X:Ext} (hX:XOk X) {n:Nat} (hn:W+4≤n) (s:qca) (hs:SchSm s):qty (DD X n) s=some ((!q7 (qu8 s.1.length s.2.2.1) 0 s.2.2.1.length&&decide ((s.2.2.1.length:Int)≤3),()),()):=by
 obtain ⟨n,rfl⟩:∃ k,n=k+1:=⟨n - 1,by omega⟩
 have hd:=qk
 have hW:=qbl
 have hM:=qc1
 have h1:=hs.cols
 have h2:=hs.ixs
 rw[qbe4 hX]
 simp only[qup,qt7,qp3]
 refine Eq.trans (qjw (L:=fun m i=>qdn (DD X n) n _ _ m (i:Int) s) (N:=s.2.2.1.length) (P:=qu8 s.1.length s.2.2.1)
  (A:=some ((false,()),())) (B:=some ((decide ((s.2.2.1.length:Int)≤3),()),())) (fun m i hi=>?_) (m:=n) (by omega)) ?_
 ·simp only[qdn,qsr]
  by_cases h:i<s.2.2.1.length
  ·have hm:=qev (d:=xd) h
   have hsz:=hs.ixn _ hm
   have hsl:=hs.ixc _ hm
   rw[qo (by exact_mod_cast h),ix h,br_t,Int.toNat_natCast,qba2 hX (by omega) _ (Nat.le_trans hsz (by omega)),qf,q7r hX (by omega) s _ _ (by omega) (Nat.le_trans hsl (by omega)),qf,if_pos h]
   dsimp only[qu8]
   cases quw (s.2.2.1.getD i xd).1
   ·rfl
   ·cases qez s.1.length (s.2.2.1.getD i xd).2.1 3
    ·rfl
    ·rw[Bool.not_true,br_f,br_f,Bool.false_or,Bool.false_or]
     simp only[qp7]
     refine Eq.trans (qjw (L:=fun q k=>qf4 (DD X n) n _ _ q (i:Int) (k:Int) s (s.2.2.1.getD i xd)) (N:=i) (P:=fun k=>decide ((s.2.2.1.getD k xd).1=(s.2.2.1.getD i xd).1))
      (A:=some ((false,()),())) (B:=qdn (DD X n) n (fun v0_0 v0_1=>qph (DD X n) n v0_0 v0_1) (fun v1_0=>qox (DD X n) n v1_0) m ((i+1:Nat):Int) s) (fun q k hk=>?_) (m:=n) (by omega)) rfl
     simp only[qf4,qsf]
     by_cases h2:k<i
     ·rw[qo (by exact_mod_cast h2),ix (i:=k) (by omega),br_t,Int.toNat_natCast,qp (by omega),if_pos h2,qf8];rfl
     ·rw[qn (by exact_mod_cast h2),if_neg h2]
      simp only[qo8]
      rw[qp (by omega)]
  ·rw[qn (by exact_mod_cast h),if_neg h];rfl
 ·cases q7 (qu8 s.1.length s.2.2.1) 0 s.2.2.1.length<;>rfl
theorem q7z {X:Ext} (hX:XOk X) {n:Nat} (hn:W+5≤n) (s:qca) (hs:SchSm s):qqy (DD X n) s=some ((qne s,()),()):=by
 obtain ⟨n,rfl⟩:∃ k,n=k+1:=⟨n - 1,by omega⟩
 have hd:=qk
 have hW:=qbl
 have hM:=qc1
 have h1:=hs.cols
 have h2:=hs.ixs
 have h3:=hs.key
 rw[qbjr hX]
 simp only[qxy,qw4,qt2]
 refine Eq.trans (qjw (L:=fun m i=>qht (DD X n) n _ _ m (i:Int) s) (N:=s.1.length) (P:=q5h s.1)
  (A:=some ((false,()),())) (B:=some ((inR s.1.length 1 5&&(qez s.1.length s.2.1 4&&((!q7 (qu8 s.1.length s.2.2.1) 0 s.2.2.1.length&&decide ((s.2.2.1.length:Int)≤3))&&!q4j s.1 s.2.1)),()),())) (fun m i hi=>?_) (m:=n) (by omega)) ?_
 ·simp only[qht,qvd]
  by_cases h:i<s.1.length
  ·have hsz:=hs.names _ (qev (d:=cd) h)
   rw[qo (by exact_mod_cast h),ix h,br_t,br_t,br_t,Int.toNat_natCast,qba2 hX (by omega) _ (Nat.le_trans hsz (by omega)),qf,q1v hX (by omega),qf,qbqx hX (by omega) s hs,qf,qp (by omega),if_pos h,qz8]
   dsimp only[q5h]
   cases quw (s.1.getD i cd).1
   ·rfl
   ·cases inR (s.1.getD i cd).2.1 1 3
    ·rfl
    ·rw[Bool.not_true,br_f,br_f,Bool.false_or,Bool.false_or];rfl
  ·rw[qn (by exact_mod_cast h),if_neg h]
   simp only[qry,qui]
   rw[q1v hX (by omega),qf,q7r hX (by omega) s _ _ (by omega) (by omega),qf,qbnn hX (by omega) s hs,qf]
   dsimp only
   cases inR s.1.length 1 5
   ·rfl
   ·cases hp:qez s.1.length s.2.1 4
    ·rfl
    ·cases (!q7 (qu8 s.1.length s.2.2.1) 0 s.2.2.1.length&&decide ((s.2.2.1.length:Int)≤3))
     ·rfl
     ·simp only[Bool.not_true,br_f,Bool.true_and]
      refine Eq.trans (qjw (L:=fun m i=>qh2 (DD X n) n _ _ m (i:Int) s) (N:=s.2.1.length) (P:=fun j=>(s.1.getD (s.2.1.getD j 0).toNat cd).2.2.1)
       (A:=some ((false,()),())) (B:=some ((true,()),())) (fun m i hi=>?_) (m:=n) (by omega)) ?_
      ·simp only[qh2,qvj]
       by_cases h:i<s.2.1.length
       ·obtain ⟨p1,p2⟩:=qbm5 hp h
        rw[qo (by exact_mod_cast h),ix h,br_t,Int.toNat_natCast,ixn p1 p2,br_t,qp (by omega),if_pos h];rfl
       ·rw[qn (by exact_mod_cast h),if_neg h];rfl
      ·unfold q4j
       cases q7 (fun j=>(s.1.getD (s.2.1.getD j 0).toNat cd).2.2.1) 0 s.2.1.length<;>rfl
 ·unfold qne
  cases q7 (q5h s.1) 0 s.1.length<;>cases q7 (qu8 s.1.length s.2.2.1) 0 s.2.2.1.length<;>cases inR s.1.length 1 5<;>cases qez s.1.length s.2.1 4<;>cases q4j s.1 s.2.1<;>simp[br]
end Go.G

namespace Go.G
open Go Go.V Go.Proofs
instance decCols:DecidableEq (List Col):=inferInstance
instance decIxs:DecidableEq (List qdj):=inferInstance
instance decSchema:DecidableEq qca:=fun a b=>@instDecidableEqProd _ _ decCols (@instDecidableEqProd _ _ inferInstance (@instDecidableEqProd _ _ decIxs inferInstance)) a b
theorem qbj4 (a:qca):tot qcj a=tot (.sl ColT) a.1+(tot qc8 a.2.1+(tot (.sl qbw) a.2.2.1+0)):=rfl
theorem qbwl (a:Col):tot ColT a=a.1.size:=rfl
theorem qbnc (a:qdj):tot qbw a=a.1.size+a.2.1.length:=by
 have h:tot qbw a=a.1.size+(tot qc8 a.2.1+(0+0)):=rfl
 rw[h,q5b];omega
theorem qbv2 {s:qca} (h:tot qcj s≤M):SchSm s:=by
 rw[qbj4,q5b] at h
 have h1:=qoc (t:=ColT) s.1
 have h2:=qoc (t:=qbw) s.2.2.1
 refine ⟨by omega,fun c hc=>?_,by omega,by omega,fun x hx=>?_,fun x hx=>?_⟩
 ·have:=q4n (t:=ColT) hc
  rw[qbwl] at this;omega
 ·have:=q4n (t:=qbw) hx
  rw[qbnc] at this;omega
 ·have:=q4n (t:=qbw) hx
  rw[qbnc] at this;omega
theorem qbsx {X:Ext} (hX:XOk X) {n:Nat} (hn:W+4≤n) (a:qca) (ha:Fit qbk qcj a):qw8 (DD X n) a=some ((a,()),()):=by
 obtain ⟨n,rfl⟩:∃ k,n=k+1:=⟨n - 1,by omega⟩
 rw[qbi9 hX]
 simp only[qx7,q6a]
 rw[qbv6 hX (by omega) _ ha.1,qf,qboi hX (by omega) _ ha.2.1.1,qf,qbsc hX (by omega) _ ha.2.2.1,qf]
theorem qbs0 {X:Ext} (hX:XOk X) {n:Nat} (hn:W+4≤n) (a b:qca) (hb:Fit maxLen qcj b):qxq (DD X n) a b=some ((decide (a=b),()),()):=by
 obtain ⟨n,rfl⟩:∃ k,n=k+1:=⟨n - 1,by omega⟩
 rw[qbil hX]
 simp only[qyo,q6r]
 rw[qbvk hX (by omega) _ _ hb.1,qf,qbpl hX (by omega) _ _ hb.2.1.1,qf,qbsk hX (by omega) _ _ hb.2.2.1,qf]
 obtain ⟨a1,a2,a3,⟨⟩⟩:=a
 obtain ⟨b1,b2,b3,⟨⟩⟩:=b
 by_cases h1:a1=b1<;>by_cases h2:a2=b2<;>by_cases h3:a3=b3<;>simp[h1,h2,h3,br]
theorem qbr9 {X:Ext} (hX:XOk X) {n:Nat} (hn:W+4≤n) (a:qca) (k:Int) (ha:Wf qcj a) (hk:0≤k∧k≤maxLen):qyq (DD X n) a k=some ((left qcj a k,()),()):=by
 obtain ⟨n,rfl⟩:∃ k,n=k+1:=⟨n - 1,by omega⟩
 have hd:=qk
 have ht:=qbj4 a
 rw[qbio hX]
 simp only[qww,q6y]
 rw[qbvw hX (by omega) _ _ ha.1 hk,qf];dsimp only
 by_cases h:left (.sl ColT) a.1 k<0
 ·rw[qo h,qd7]
  intro h3
  rw[qdy (by omega)] at h
  omega
 ·obtain ⟨e1,e2⟩:=qfe h hk.1
  rw[qn h,e1,qbon hX (by omega) _ _ ha.2.1.1 (by omega),qf];dsimp only
  by_cases h:left qc8 a.2.1 (k - tot (.sl ColT) a.1)<0
  ·rw[qo h,qd7]
   intro h3
   rw[qdy (by omega)] at h
   omega
  ·obtain ⟨e3,e4⟩:=qfe h (by omega)
   rw[qn h,e3,qbsd hX (by omega) _ _ ha.2.2.1 (by omega),qf];dsimp only
   by_cases h:left (.sl qbw) a.2.2.1 (k - tot (.sl ColT) a.1 - tot qc8 a.2.1)<0
   ·rw[qo h,qd7]
    intro h3
    rw[qdy (by omega)] at h
    omega
   ·obtain ⟨e5,e6⟩:=qfe h (by omega)
    rw[qn h,e5,qdy (by omega)]
    congr 3;omega
theorem qbob {X:Ext} (hX:XOk X) {n:Nat} (hn:W+3≤n) (a:qca) (k:Int) (ha:Fit maxLen qcj a) (hk:0≤k) (h:k+cnt qcj a≤maxLen) :
  quu (DD X n) a k=some (((mkT qcj k a).1,()),((mkT qcj k a).2,())):=by
 obtain ⟨n,rfl⟩:∃ k,n=k+1:=⟨n - 1,by omega⟩
 have hc:cnt qcj a=cnt (.sl ColT) a.1+(cnt qc8 a.2.1+(cnt (.sl qbw) a.2.2.1+0)):=rfl
 have h1:=qdb (.sl ColT) k a.1
 have h2:=qdb qc8 (mkT (.sl ColT) k a.1).1 a.2.1
 rw[qbe5 hX]
 simp only[qtf,q3m]
 rw[qbsg hX (by omega) _ _ ha.1.1 hk (by omega),qf];dsimp only
 rw[qbkl hX (by omega) _ _ (by omega) (by omega),qf];dsimp only
 rw[qbo1 hX (by omega) _ _ ha.2.2.1.1 (by omega) (by omega),qf]
 rfl
theorem qbqd {X:Ext} (hX:XOk X) {n:Nat} (hn:W+3≤n) (a:qca) (k:Int) (ha:Fit maxLen qcj a) (hk:0≤k) (h:k+cnt qcj a≤maxLen) :
  qn3 (DD X n) (mkT qcj k a).2 k=some (((mkT qcj k a).1,()),()):=by
 obtain ⟨n,rfl⟩:∃ k,n=k+1:=⟨n - 1,by omega⟩
 have hc:cnt qcj a=cnt (.sl ColT) a.1+(cnt qc8 a.2.1+(cnt (.sl qbw) a.2.2.1+0)):=rfl
 have h1:=qdb (.sl ColT) k a.1
 have h2:=qdb qc8 (mkT (.sl ColT) k a.1).1 a.2.1
 have h3:=qdb (.sl qbw) (mkT qc8 (mkT (.sl ColT) k a.1).1 a.2.1).1 a.2.2.1
 rw[qbes hX]
 simp only[qt9,q31,mkT]
 have e1:=qbs5 hX (n:=n) (by omega) a.1 k ha.1.1 hk (by omega)
 have e2:=qbja hX (n:=n) (by omega) a.2.1 (mkT (.sl ColT) k a.1).1 (by omega) (by omega)
 have e3:=qbpp hX (n:=n) (by omega) a.2.2.1 (mkT qc8 (mkT (.sl ColT) k a.1).1 a.2.1).1 ha.2.2.1.1 (by omega) (by omega)
 simp only[mkT] at e1 e2 e3 h1 h2 h3
 rw[e1,qf];dsimp only
 rw[qn (by omega),e2,qf];dsimp only
 rw[qn (by omega),e3,qf];dsimp only
 rw[qn (by omega)]
theorem fitB {t:Ty} {a:t.den} (h:(tot t a:Int)≤1048576):Fit qbk t a:=qsx (by have:=qdm;omega)
theorem fitM {t:Ty} {a:t.den} (h:(tot t a:Int)≤1048576):Fit maxLen t a:=qsx (by have:=qk;omega)
end Go.G

namespace Go.G
set_option maxRecDepth 100000
open Go Go.V Go.Proofs
abbrev vd:Value:=(0,0,ByteArray.empty,())
abbrev Row:=List Value
def qbm (row:Row) (cols:List Int):Row:=(cols.filter fun c=>inR c 0 ((row.length:Int) - 1)).map fun c=>row.getD c.toNat vd
theorem qp0 (row:Row) (cols:List Int):(qbm row cols).length≤cols.length:=by
 unfold qbm;rw[List.length_map];exact List.length_filter_le _ _
theorem qbbw (row:Row) (c:Int) (cols:List Int):qbm row (c::cols)=if inR c 0 ((row.length:Int) - 1)=true then row.getD c.toNat vd::qbm row cols else qbm row cols:=by
 unfold qbm
 rw[List.filter_cons]
 split<;>simp
theorem qbos {c:Int} {n:Nat} (h:inR c 0 ((n:Int) - 1)=true):0≤c∧c<n:=by
 simp only[inR,Bool.and_eq_true,decide_eq_true_eq] at h;omega
theorem q2x {X:Ext} (hX:XOk X) (N n:Nat) (hN:1≤N) (K:Row→Option ((Row×Unit)×Unit)) (row:Row) (hr:row.length≤M) (cols:List Int) (hc:cols.length≤M):∀ (m i:Nat) (acc:Row),i≤cols.length→cols.length - i<m→acc.length≤i→
  qja (DD X N) n K m row cols cols.length (i:Int) acc=K (acc++qbm row (cols.drop i))
 | 0,_,_,_,h,_=>by omega
 | m+1,i,acc,hi,hf,ha=>by
  simp only[qja,qx2]
  have hM:=qc1
  have hb:=qdm
  by_cases h:i<cols.length
  ·rw[qo (by exact_mod_cast h),ix h,br_t,Int.toNat_natCast,qcc (by omega) (by omega),q1n hX hN,qf,qp (by omega),qy h,qbbw,qbi h]
   dsimp only
   by_cases hin:inR cols[i] 0 ((row.length:Int) - 1)=true
   ·obtain ⟨p1,p2⟩:=qbos hin
    rw[hin,br_t,ixn p1 p2,br_t,qo (by omega),if_pos rfl]
    refine Eq.trans (q2x hX N n hN K row hr cols hc m (i+1) _ (by omega) (by omega) (by simp;omega)) ?_
    rw[List.append_assoc];rfl
   ·rw[Bool.not_eq_true] at hin
    rw[hin,br_f,if_neg Bool.noConfusion]
    exact q2x hX N n hN K row hr cols hc m (i+1) acc (by omega) (by omega) (by omega)
  ·rw[qn (by exact_mod_cast h),q9 h]
   simp[qbm]
theorem q25 {X:Ext} (hX:XOk X) (N n:Nat) (hN:1≤N) (K:Row→Option ((Row×Unit)×Unit)) (row:Row) (hr:row.length≤M) (cols:List Int) (hc:cols.length≤M):∀ (m i:Nat) (acc:Row),i≤cols.length→cols.length - i<m→acc.length≤i→
  qi5 (DD X N) n K m row cols (i:Int) acc=K (acc++qbm row (cols.drop i))
 | 0,_,_,_,h,_=>by omega
 | m+1,i,acc,hi,hf,ha=>by
  simp only[qi5,qx8]
  have hM:=qc1
  have hb:=qdm
  by_cases h:i<cols.length
  ·rw[qo (by exact_mod_cast h),ix h,br_t,Int.toNat_natCast,qcc (by omega) (by omega),q1v hX hN,qf,qp (by omega),qy h,qbbw,qbi h]
   dsimp only
   by_cases hin:inR cols[i] 0 ((row.length:Int) - 1)=true
   ·obtain ⟨p1,p2⟩:=qbos hin
    rw[hin,br_t,br_t,ixn p1 p2,br_t,qo (by omega),if_pos rfl]
    refine Eq.trans (q25 hX N n hN K row hr cols hc m (i+1) _ (by omega) (by omega) (by simp;omega)) ?_
    rw[List.append_assoc];rfl
   ·rw[Bool.not_eq_true] at hin
    rw[hin,br_f,if_neg Bool.noConfusion]
    exact q25 hX N n hN K row hr cols hc m (i+1) acc (by omega) (by omega) (by omega)
  ·rw[qn (by exact_mod_cast h),q9 h]
   simp[qbm]
theorem q28 {X:Ext} (hX:XOk X) {n:Nat} (hn:W+1≤n) (row:Row) (hr:row.length≤M) (cols:List Int) (hc:cols.length≤M):qof (DD X n) row cols=some ((qbm row cols,()),()):=by
 obtain ⟨n,rfl⟩:∃ k,n=k+1:=⟨n - 1,by omega⟩
 have hW:=qbl
 have hM:=qc1
 rw[qbl4 hX]
 simp only[q0r,qz6,qvc]
 refine Eq.trans (q2x hX n n (by omega) _ row hr cols hc n 0 [] (by omega) (by omega) (by simp)) ?_
 rfl
theorem q23 {X:Ext} (hX:XOk X) {n:Nat} (hn:W+1≤n) (row:Row) (hr:row.length≤M) (cols:List Int) (hc:cols.length≤M):qn7 (DD X n) row cols=some ((qbm row cols,()),()):=by
 obtain ⟨n,rfl⟩:∃ k,n=k+1:=⟨n - 1,by omega⟩
 have hW:=qbl
 have hM:=qc1
 rw[qblq hX]
 simp only[q04,q0x,qv0]
 refine Eq.trans (q25 hX n n (by omega) _ row hr cols hc n 0 [] (by omega) (by omega) (by simp)) ?_
 rfl
theorem qzt {X:Ext} (hX:XOk X) {n:Nat} (hn:W+2≤n) (s:qca) (row:Row) (hr:row.length≤M) (hc:s.2.1.length≤M):ql9 (DD X n) s row=some ((qbm row s.2.1,()),()):=by
 obtain ⟨n,rfl⟩:∃ k,n=k+1:=⟨n - 1,by omega⟩
 rw[qbkb hX]
 simp only[qx3,q6u]
 rw[q28 hX (by omega) row hr _ hc,qf]
theorem q0y {X:Ext} (hX:XOk X) {n:Nat} (hn:W+2≤n) (s:qca) (row:Row) (hr:row.length≤M) (hc:s.2.1.length≤M):qmy (DD X n) s row=some ((qbm row s.2.1,()),()):=by
 obtain ⟨n,rfl⟩:∃ k,n=k+1:=⟨n - 1,by omega⟩
 rw[qbkz hX]
 simp only[qxz,q6z]
 rw[q23 hX (by omega) row hr _ hc,qf]
def q7n (v:Value):Bool:=decide (v.2.2.1=ByteArray.mk #[])
def qlp (v:Value):Bool:=
 bif decide (v.1=0) then decide (v.2.1=0)&&q7n v else
 bif decide (v.1=1) then inR v.2.1 0 1&&q7n v else
 bif decide (v.1=2) then inR v.2.1 (-1000000000000) 1000000000000&&q7n v else
 bif decide (v.1=3) then decide (v.2.1=0)&&decide ((v.2.2.1.size:Int)≤20) else false
theorem qbnx {X:Ext} (hX:XOk X) {n:Nat} (hn:2≤n) (v:Value):qzu (DD X n) v=some ((qlp v,()),()):=by
 obtain ⟨n,rfl⟩:∃ k,n=k+1:=⟨n - 1,by omega⟩
 rw[qbmn hX]
 simp only[q0q,q8k]
 rw[q1n hX (by omega),q1n hX (by omega)]
 simp only[qf,qjl,qf8]
 unfold qlp q7n
 cases decide (v.1=0)<;>cases decide (v.1=1)<;>cases decide (v.1=2)<;>cases decide (v.1=3)<;>rfl
theorem qbn2 {X:Ext} (hX:XOk X) {n:Nat} (hn:2≤n) (v:Value):q0s (DD X n) v=some ((qlp v,()),()):=by
 obtain ⟨n,rfl⟩:∃ k,n=k+1:=⟨n - 1,by omega⟩
 rw[qbmc hX]
 simp only[q07,q8b]
 rw[q1v hX (by omega),q1v hX (by omega)]
 simp only[qf,qjl,qf8]
 unfold qlp q7n
 cases decide (v.1=0)<;>cases decide (v.1=1)<;>cases decide (v.1=2)<;>cases decide (v.1=3)<;>rfl
def q5m (cs:List Col) (row:Row) (i:Nat):Bool:=!qlp (row.getD i vd)||(!decide ((row.getD i vd).1=(cs.getD i cd).2.1)&&!(decide ((row.getD i vd).1=0)&&(cs.getD i cd).2.2.1))
def q4f (s:qca) (row:Row):Bool:=qne s&&(decide (row.length=s.1.length)&&!q7 (q5m s.1 row) 0 row.length)
theorem qbmk (a b:Nat):((a:Int) != (b:Int))=!decide (a=b):=by
 by_cases h:a=b
 ·simp[h]
 ·have:¬ (a:Int)=(b:Int):=by omega
  rw[qz8,decide_eq_false this,decide_eq_false h]
theorem qbra {X:Ext} (hX:XOk X) {n:Nat} (hn:W+6≤n) (s:qca) (hs:SchSm s) (row:Row) (hr:row.length≤M):q5v (DD X n) s row=some ((q4f s row,()),()):=by
 obtain ⟨n,rfl⟩:∃ k,n=k+1:=⟨n - 1,by omega⟩
 have hW:=qbl
 have hM:=qc1
 rw[qbpq hX]
 simp only[q5p,q43,q09]
 rw[q7l hX (by omega) s hs,qf,qbmk]
 dsimp only
 unfold q4f
 cases qne s
 ·rfl
 ·by_cases hl:row.length=s.1.length
  ·rw[decide_eq_true hl]
   refine Eq.trans (qjw (L:=fun m i=>qlj (DD X n) n _ _ m row row.length (i:Int) s) (N:=row.length) (P:=q5m s.1 row)
    (A:=some ((false,()),())) (B:=some ((true,()),())) (fun m i hi=>?_) (m:=n) (by omega)) ?_
   ·simp only[qlj,q24]
    by_cases h:i<row.length
    ·rw[qo (by exact_mod_cast h),ix h,br_t,ix (i:=i) (hl ▸ h),br_t,Int.toNat_natCast,qbnx hX (by omega),qf,qp (by omega),if_pos h,qz8,qjl,qjl,qbrs]
     rfl
    ·rw[qn (by exact_mod_cast h),if_neg h];rfl
   ·cases q7 (q5m s.1 row) 0 row.length<;>rfl
  ·rw[decide_eq_false hl];rfl
theorem qbq6 {X:Ext} (hX:XOk X) {n:Nat} (hn:W+6≤n) (s:qca) (hs:SchSm s) (row:Row) (hr:row.length≤M):q5i (DD X n) s row=some ((q4f s row,()),()):=by
 obtain ⟨n,rfl⟩:∃ k,n=k+1:=⟨n - 1,by omega⟩
 have hW:=qbl
 have hM:=qc1
 rw[qbps hX]
 simp only[q5r,q5j,q1c]
 rw[q7z hX (by omega) s hs,qf,qbmk]
 dsimp only
 unfold q4f
 cases qne s
 ·rfl
 ·by_cases hl:row.length=s.1.length
  ·rw[decide_eq_true hl]
   refine Eq.trans (qjw (L:=fun m i=>qld (DD X n) n _ _ m row (i:Int) s) (N:=row.length) (P:=q5m s.1 row)
    (A:=some ((false,()),())) (B:=some ((true,()),())) (fun m i hi=>?_) (m:=n) (by omega)) ?_
   ·simp only[qld,q2y]
    by_cases h:i<row.length
    ·rw[qo (by exact_mod_cast h),ix h,br_t,br_t,ix (i:=i) (hl ▸ h),br_t,br_t,br_t,Int.toNat_natCast,qbn2 hX (by omega),qf,qp (by omega),if_pos h,qz8]
     dsimp only[q5m]
     cases qlp (row.getD i vd)
     ·rfl
     ·cases decide ((row.getD i vd).1=(s.1.getD i cd).2.1)
      ·cases (s.1.getD i cd).2.2.1
       ·cases decide ((row.getD i vd).1=0)<;>rfl
       ·cases decide ((row.getD i vd).1=0)<;>rfl
      ·rfl
    ·rw[qn (by exact_mod_cast h),if_neg h];rfl
   ·cases q7 (q5m s.1 row) 0 row.length<;>rfl
  ·rw[decide_eq_false hl];rfl
theorem qbjk:∀ (a:List Value),cnt (.sl qt) a=3 * a.length
 | []=>rfl
 | x::a=>by
  have:=qbjk a
  rw[qbuv] at this ⊢
  rw[List.map_cons,List.sum_cons,this,List.length_cons]
  have:cnt qt x=3:=rfl
  omega
theorem qbrk {b:Nat} {a:Row} (h:a.length≤b):Fit b (.sl qt) a:=⟨h,fun _ _=>⟨trivial,trivial,trivial,trivial⟩⟩
theorem qbrw {t:Ty} {k:Int} (hk:0≤k) (a:t.den):¬ (mkT t k a).1<0:=by rw[qdb];omega
theorem qbcv (a b:Value):qrb (Ty.pair (Ty.int IntKind.i64) (Ty.pair (Ty.int IntKind.i64) (Ty.pair Ty.str Ty.unit))) a b=decide (a=b):=by
 obtain ⟨a1,a2,a3,⟨⟩⟩:=a
 obtain ⟨b1,b2,b3,⟨⟩⟩:=b
 have e:∀ x y:ByteArray,(x.toList == y.toList)=decide (x=y):=fun x y=>qf8
 have e2:∀ x y:Int,(x == y)=decide (x=y):=fun x y=>by by_cases h:x=y<;>simp[h]
 simp only[qrb,e,e2]
 by_cases h1:a1=b1<;>by_cases h2:a2=b2<;>by_cases h3:a3=b3<;>simp[h1,h2,h3]
end Go.G

namespace Go.G
set_option maxRecDepth 100000
open Go Go.V Go.Proofs
structure XC (X:Ext):Prop where
 ok:XOk X
 cmp:∀ n a b,q3b (DD X (n+1)) a b=some ((scmp a b,()),())
theorem q9t:∀ (a b:List UInt8),(Lib.compareBytes a b<0↔Op.bytesLess a b=true)∧(Lib.compareBytes a b=0↔a=b)
 | [],[]=>by simp[Lib.compareBytes,Op.bytesLess]
 | [],_::_=>by simp[Lib.compareBytes,Op.bytesLess]
 | _::_,[]=>by simp[Lib.compareBytes,Op.bytesLess]
 | x::a,y::b=>by
  obtain ⟨h1,h2⟩:=q9t a b
  simp only[Lib.compareBytes,Op.bytesLess]
  by_cases hxy:x<y
  ·have hne:x≠y:=fun e=>by subst e;exact absurd hxy (UInt8.lt_irrefl x)
   simp[hxy,hne]
  ·by_cases hyx:y<x
   ·have hne:x≠y:=fun e=>by subst e;exact absurd hyx (UInt8.lt_irrefl x)
    simp[hxy,hyx,hne]
   ·have e:x=y:=UInt8.le_antisymm (UInt8.not_lt.1 hyx) (UInt8.not_lt.1 hxy)
    subst e
    simp[hxy,h1,h2]
theorem qbwr (a b:ByteArray):scmp a b<0↔Op.bytesLess a.toList b.toList=true:=by
 unfold scmp
 rw[(q9t _ _).1,ByteArray.toList_eq,ByteArray.toList_eq]
theorem qbwm (a b:ByteArray):scmp a b=0↔a=b:=by
 unfold scmp
 rw[(q9t _ _).2]
 constructor
 ·intro h;cases a;cases b;simp only[ByteArray.mk.injEq];exact Array.toList_inj.1 h
 ·rintro rfl;rfl
def byv (a b:Value):Int:=bif decide (a.1<b.1)||(decide (a.1=b.1)&&decide (a.2.1<b.2.1)) then -1 else bif decide (a.1>b.1)||decide (a.2.1>b.2.1) then 1 else scmp a.2.2.1 b.2.2.1
def vlt (a b:Value):Bool:=bif !decide (a.1=b.1) then decide (a.1<b.1) else bif !decide (a.2.1=b.2.1) then decide (a.2.1<b.2.1) else Op.bytesLess a.2.2.1.toList b.2.2.1.toList
theorem qbuw (a b:Value):(byv a b<0↔vlt a b=true)∧(byv a b=0↔a=b):=by
 obtain ⟨a1,a2,a3,⟨⟩⟩:=a
 obtain ⟨b1,b2,b3,⟨⟩⟩:=b
 have h1:=qbwr a3 b3
 have h2:=qbwm a3 b3
 simp only[byv,vlt]
 by_cases k1:a1<b1
 ·have:¬ a1=b1:=by omega
  simp[k1,this]
 ·by_cases k2:a1=b1
  ·subst k2
   by_cases k3:a2<b2
   ·have:¬ a2=b2:=by omega
    simp[k3,this]
   ·by_cases k4:a2=b2
    ·subst k4
     simp[h1,h2]
    ·have:a2>b2:=by omega
     simp[k3,k4,this]
  ·have:a1>b1:=by omega
   simp[k1,k2,this]
theorem qbuc {X:Ext} (hX:XC X) {n:Nat} (hn:2≤n) (a b:Value):q1d (DD X n) a b=some ((byv a b,()),()):=by
 obtain ⟨n,rfl⟩:∃ k,n=k+2:=⟨n - 2,by omega⟩
 rw[qblx hX.ok]
 simp only[qzm,q7v]
 rw[hX.cmp]
 simp only[qf,qjl,qbrs]
 unfold byv
 cases (decide (a.1<b.1)||(decide (a.1=b.1)&&decide (a.2.1<b.2.1)))<;>cases (decide (a.1>b.1)||decide (a.2.1>b.2.1))<;>rfl
theorem qbqt (D:Den ctx) (x y:Value):qch ctx D (Clo.mk 141 []) [CapV.val (Ty.pair (Ty.int IntKind.i64) (Ty.pair (Ty.int IntKind.i64) (Ty.pair Ty.str Ty.unit))) x,CapV.val (Ty.pair (Ty.int IntKind.i64) (Ty.pair (Ty.int IntKind.i64) (Ty.pair Ty.str Ty.unit))) y] (Ty.int IntKind.i64)=(q1d D x y).bind fun r=>some r.1.1:=by kernel_rfl
def tcmp:Row→Row→Int
 | [],[]=>0
 | [],_::_=>-1
 | _::_,[]=>1
 | x::a,y::b=>if byv x y=0 then tcmp a b else byv x y
def tlt:Row→Row→Bool
 | [],[]=>false
 | [],_::_=>true
 | _::_,[]=>false
 | x::a,y::b=>if x=y then tlt a b else vlt x y
theorem qbr4:∀ (a b:Row),(decide (tcmp a b<0))=tlt a b
 | [],[]=>rfl
 | [],_::_=>rfl
 | _::_,[]=>rfl
 | x::a,y::b=>by
  obtain ⟨h1,h2⟩:=qbuw x y
  simp only[tcmp,tlt]
  by_cases e:x=y
  ·simp only[if_pos (h2.2 e),if_pos e];exact qbr4 a b
  ·simp only[if_neg (fun k=>e (h2.1 k)),if_neg e]
   by_cases k:byv x y<0
   ·rw[decide_eq_true k,h1.1 k]
   ·rw[decide_eq_false k]
    cases hv:vlt x y
    ·rfl
    ·exact absurd (h1.2 hv) k
theorem qbnf {X:Ext} (hX:XC X) (N n:Nat) (hN:2≤N) (a b:Row) (ha:a.length≤M):∀ (m i:Nat),i≤a.length→i≤b.length→a.length - i<m→
  qv (DD X N) n (Clo.mk 141 []) (fun v w u=>qbv (DD X N) n (Clo.mk 141 []) v w u) (fun v w=>qbd (DD X N) n (Clo.mk 141 []) v w) m a b a a.length (i:Int)=some ((tcmp (a.drop i) (b.drop i),()),())
 | 0,_,_,_,h=>by omega
 | m+1,i,hi,hj,hf=>by
  have hM:=qc1
  simp only[qv,qbz]
  by_cases h:i<a.length
  ·rw[qo (by exact_mod_cast h),ix h,br_t,qy h]
   by_cases h2:i<b.length
   ·rw[qn (by omega),ix h2,br_t,qbqt,Int.toNat_natCast,qbuc hX hN,qy h2,Option.bind_some,qf,qp (by omega),qbi h,qbi h2,qz8]
    simp only[tcmp]
    by_cases e:byv a[i] b[i]=0
    ·rw[decide_eq_true e,if_pos e,Bool.not_true,br_f]
     exact qbnf hX N n hN a b ha m (i+1) (by omega) (by omega) (by omega)
    ·rw[decide_eq_false e,if_neg e,Bool.not_false,br_t];rfl
   ·rw[qo (by omega),q9 h2];rfl
  ·rw[qn (by exact_mod_cast h),q9 h]
   simp only[qbd]
   by_cases h2:i<b.length
   ·rw[qo (by omega),qy h2];rfl
   ·rw[qn (by omega),q9 h2];rfl
theorem qbif {X:Ext} (hX:XC X) {n:Nat} (hn:W+3≤n) (a b:Row) (ha:a.length≤M):qvh (DD X n) a b=some ((tlt a b,()),()):=by
 obtain ⟨n,rfl⟩:∃ k,n=k+2:=⟨n - 2,by omega⟩
 have hW:=qbl
 have hM:=qc1
 rw[qbho hX.ok]
 simp only[qwc,q40]
 have e:qb8 (DD X (n+1)) a b (Clo.mk 141 [])=some ((tcmp a b,()),()):=by
  rw[qfv hX.ok]
  simp only[qb7,qb9,qbx]
  exact qbnf hX n n (by omega) a b ha n 0 (by omega) (by omega) (by omega)
 rw[e,qf]
 dsimp only
 rw[qbr4]
theorem qbfv {X:Ext} (hX:XOk X) {n:Nat} (hn:1≤n) (a b:Value):qoj (DD X n) a b=some ((decide (a=b),()),()):=by
 obtain ⟨n,rfl⟩:∃ k,n=k+1:=⟨n - 1,by omega⟩
 rw[qbhl hX]
 simp only[qv8,q4z,qbcv]
theorem qbqu {X:Ext} (hX:XOk X) {n:Nat} (hn:1≤n) (a b:Value):qvv (DD X n) a b=some ((vlt a b,()),()):=by
 obtain ⟨n,rfl⟩:∃ k,n=k+1:=⟨n - 1,by omega⟩
 rw[qbge hX]
 simp only[qvf,q5n,qz8]
 unfold vlt
 cases decide (a.1=b.1)<;>cases decide (a.2.1=b.2.1)<;>rfl
theorem qbj9 {X:Ext} (hX:XOk X) (N n:Nat) (hN:1≤N) (a b:Row) (ha:a.length≤M):∀ (m i:Nat),i≤a.length→i≤b.length→a.length - i<m→
  qg2 (DD X N) n (fun v w u=>qp2 (DD X N) n v w u) (fun v w=>qhp (DD X N) n v w) m a b (i:Int)=some ((tlt (a.drop i) (b.drop i),()),())
 | 0,_,_,_,h=>by omega
 | m+1,i,hi,hj,hf=>by
  have hM:=qc1
  simp only[qg2,qtg,qjl]
  by_cases h:i<a.length
  ·by_cases h2:i<b.length
   ·rw[decide_eq_true (show (i:Int)<a.length by omega),decide_eq_true (show (i:Int)<b.length by omega)]
    have c0:decide ((0:Int)≤(i:Int))=true:=decide_eq_true (by omega)
    rw[c0,Bool.true_and,br_t,br_t,br_t,qbfv hX hN,qf,Int.toNat_natCast,qp (by omega),qy h,qy h2,qbi h,qbi h2]
    simp only[tlt]
    by_cases e:a[i]=b[i]
    ·rw[decide_eq_true e,if_pos e,Bool.not_true,br_f]
     exact qbj9 hX N n hN a b ha m (i+1) (by omega) (by omega) (by omega)
    ·rw[decide_eq_false e,if_neg e,Bool.not_false,br_t,br_t,br_t,qbqu hX hN,qf];rfl
   ·rw[decide_eq_true (show (i:Int)<a.length by omega),decide_eq_false (show ¬ (i:Int)<b.length by omega),qy h,q9 h2]
    simp only[Bool.and_false,br_f,qhp,tlt]
    rw[decide_eq_false (by omega)]
  ·rw[decide_eq_false (show ¬ (i:Int)<a.length by omega),q9 h]
   simp only[Bool.false_and,br_f,qhp]
   by_cases h2:i<b.length
   ·rw[decide_eq_true (by omega),qy h2];rfl
   ·rw[decide_eq_false (by omega),q9 h2];rfl
theorem qbkk {X:Ext} (hX:XOk X) {n:Nat} (hn:W+1≤n) (a b:Row) (ha:a.length≤M):qvz (DD X n) a b=some ((tlt a b,()),()):=by
 obtain ⟨n,rfl⟩:∃ k,n=k+1:=⟨n - 1,by omega⟩
 have hW:=qbl
 have hM:=qc1
 rw[qbhk hX]
 simp only[qwl,qwj,qr8]
 exact qbj9 hX n n (by omega) a b ha n 0 (by omega) (by omega) (by omega)
theorem qbup {X:Ext} (hX:XOk X) (N n:Nat) (hN:1≤N) (a b:Row) (ha:a.length≤M):∀ (m i:Nat),i≤a.length→i≤b.length→a.length - i<m→
  qjk (DD X N) n (fun v w u=>qt8 (DD X N) n v w u) (fun v w=>qjr (DD X N) n v w) m a b (i:Int)=some ((decide (a.drop i=b.drop i),()),())
 | 0,_,_,_,h=>by omega
 | m+1,i,hi,hj,hf=>by
  have hM:=qc1
  simp only[qjk,qye,qjl]
  by_cases h:i<a.length
  ·by_cases h2:i<b.length
   ·rw[decide_eq_true (show (i:Int)<a.length by omega),decide_eq_true (show (i:Int)<b.length by omega)]
    have c0:decide ((0:Int)≤(i:Int))=true:=decide_eq_true (by omega)
    rw[c0,Bool.true_and,br_t,br_t,br_t,qbfv hX hN,qf,Int.toNat_natCast,qp (by omega),qy h,qy h2,qbi h,qbi h2]
    by_cases e:a[i]=b[i]
    ·rw[decide_eq_true e,Bool.not_true,br_f]
     refine Eq.trans (qbup hX N n hN a b ha m (i+1) (by omega) (by omega) (by omega)) ?_
     simp only[e,List.cons.injEq,true_and]
    ·rw[decide_eq_false e,Bool.not_false,br_t]
     simp only[e,List.cons.injEq,false_and,decide_false];rfl
   ·rw[decide_eq_true (show (i:Int)<a.length by omega),decide_eq_false (show ¬ (i:Int)<b.length by omega),qy h,q9 h2]
    simp only[Bool.and_false,br_f,qjr]
    rw[decide_eq_false (by omega)];simp[h]
  ·rw[decide_eq_false (show ¬ (i:Int)<a.length by omega),q9 h]
   simp only[Bool.false_and,br_f,qjr]
   by_cases h2:i<b.length
   ·rw[decide_eq_false (by omega),qy h2];simp[h2]
   ·rw[decide_eq_true (by omega),q9 h2];simp
theorem qbm9 {X:Ext} (hX:XOk X) {n:Nat} (hn:W+1≤n) (a b:Row) (ha:a.length≤M):qs5 (DD X n) a b=some ((decide (a=b),()),()):=by
 obtain ⟨n,rfl⟩:∃ k,n=k+1:=⟨n - 1,by omega⟩
 have hW:=qbl
 have hM:=qc1
 rw[qbl0 hX]
 simp only[qz9,qz3,qvt]
 exact qbup hX n n (by omega) a b ha n 0 (by omega) (by omega) (by omega)
theorem qbvh {a b:Row} (hl:a.length=b.length):q7 (fun i=>!decide (a.getD i vd=b.getD i vd)) 0 a.length=!decide (a=b):=by
 by_cases e:a=b
 ·rw[decide_eq_true e,qlm.2 (fun j _ _=>by rw[e];simp)];rfl
 ·rw[decide_eq_false e]
  show _=true
  rw[←Bool.not_eq_false]
  intro hf
  apply e
  apply List.ext_getElem hl
  intro i h1 h2
  have:=qlm.1 hf i (by omega) (by omega)
  rw[qbi h1,qbi h2] at this
  simpa using this
theorem qbru {X:Ext} (hX:XOk X) {n:Nat} (hn:W+1≤n) (a b:Row) (ha:a.length≤M):qda (DD X n) a b=some ((decide (a=b),()),()):=by
 obtain ⟨n,rfl⟩:∃ k,n=k+1:=⟨n - 1,by omega⟩
 have hM:=qc1
 have hW:=qbl
 rw[qrx hX]
 simp only[qeq,qem,qd6]
 rw[qbmk]
 by_cases hl:a.length=b.length
 ·rw[decide_eq_true hl,Bool.not_true,br_f]
  refine Eq.trans (qjw (L:=fun m i=>qb2 (DD X n) n _ _ m a b a.length (i:Int)) (N:=a.length) (P:=fun i=>!decide (a.getD i vd=b.getD i vd))
   (A:=some ((false,()),())) (B:=some ((true,()),())) (fun m i hi=>?_) (m:=n) (by omega)) ?_
  ·simp only[qb2,qed]
   by_cases h:i<a.length
   ·rw[qo (by exact_mod_cast h),ix h,br_t,ix (hl ▸ h),br_t,Int.toNat_natCast,qbcv,qp (by omega),if_pos h];rfl
   ·rw[qn (by exact_mod_cast h),if_neg h];rfl
  ·rw[qbvh hl]
   cases decide (a=b)<;>rfl
 ·have:¬ a=b:=fun e=>hl (by rw[e])
  rw[decide_eq_false hl,decide_eq_false this];rfl
def hasV (l:Row) (x:Value):Bool:=q7 (fun j=>decide (x=l.getD j vd)) 0 l.length
theorem qbre {X:Ext} (hX:XOk X) {n:Nat} (hn:W+2≤n) (l:Row) (x:Value) (hl:l.length≤M):qd1 (DD X n) l x=some ((hasV l x,()),()):=by
 obtain ⟨n,rfl⟩:∃ k,n=k+2:=⟨n - 2,by omega⟩
 have hM:=qc1
 have hW:=qbl
 rw[qpm hX]
 simp only[qd2,qhe]
 have e:qet (DD X (n+1)) l x=some ((match qbu (fun j=>decide (x=l.getD j vd)) 0 l.length with | some j=>(j:Int) | none=>-1,()),()):=by
  rw[qrg hX]
  simp only[qek,qeu,qd5]
  refine Eq.trans (q1m (L:=fun m i=>qb3 (DD X n) n _ _ m l l.length (i:Int) x) (N:=l.length) (P:=fun j=>decide (x=l.getD j vd))
   (A:=fun j=>some (((j:Int),()),())) (B:=some ((-1,()),())) (fun m i hi=>?_) (m:=n) (by omega)) ?_
  ·simp only[qb3,qef]
   by_cases h:i<l.length
   ·rw[qo (by exact_mod_cast h),ix h,br_t,Int.toNat_natCast,qp (by omega),if_pos h,qbcv];rfl
   ·rw[qn (by exact_mod_cast h),if_neg h];rfl
  ·cases qbu (fun j=>decide (x=l.getD j vd)) 0 l.length<;>rfl
 rw[e,qf]
 congr 3
 exact q6v _ _
def q8m (l:Row):Bool:=q7 (fun j=>decide ((l.getD j vd).1=0)) 0 l.length
theorem qbt6 {X:Ext} (hX:XOk X) {n:Nat} (hn:W+1≤n) (l:Row) (hl:l.length≤M):q0c (DD X n) l=some ((q8m l,()),()):=by
 obtain ⟨n,rfl⟩:∃ k,n=k+1:=⟨n - 1,by omega⟩
 have hM:=qc1
 have hW:=qbl
 rw[qbk3 hX]
 simp only[q05,qz0,qwa]
 refine Eq.trans (qjw (L:=fun m i=>qi4 (DD X n) n _ _ m l (i:Int)) (N:=l.length) (P:=fun j=>decide ((l.getD j vd).1=0))
  (A:=some ((true,()),())) (B:=some ((false,()),())) (fun m i hi=>?_) (m:=n) (by omega)) ?_
 ·simp only[qi4,qw6]
  by_cases h:i<l.length
  ·rw[qo (by exact_mod_cast h),ix h,br_t,Int.toNat_natCast,qp (by omega),if_pos h];rfl
  ·rw[qn (by exact_mod_cast h),if_neg h];rfl
 ·unfold q8m
  cases q7 (fun j=>decide ((l.getD j vd).1=0)) 0 l.length<;>rfl
theorem qbxl {v:Value} (h:qlp v=true):decide (vd=v)=decide (v.1=0):=by
 obtain ⟨v1,v2,v3,⟨⟩⟩:=v
 by_cases h0:v1=0
 ·subst h0
  simp only[qlp,q7n,decide_true,cond_true,Bool.and_eq_true,decide_eq_true_eq] at h
  obtain ⟨rfl,rfl⟩:=h
  rfl
 ·have:¬ vd=(v1,v2,v3,()):=fun e=>h0 (by rw[←(Prod.mk.inj e).1])
  rw[decide_eq_false this,decide_eq_false h0]
theorem qbtn {l:Row} (h:∀ v∈l,qlp v=true):hasV l vd=q8m l:=
 qu9 fun j _ hj=>qbxl (h _ (qev (by omega)))
theorem qbq8 {row:Row} {cols:List Int}:∀ v∈qbm row cols,v∈row:=by
 intro v hv
 unfold qbm at hv
 obtain ⟨c,hc,rfl⟩:=List.mem_map.1 hv
 have:=qbos (List.mem_filter.1 hc).2
 exact qev (by omega)
def qzq (xs:List qdj) (a b:Row) (i:Nat):Bool:=(xs.getD i xd).2.2.1&&(decide (qbm a (xs.getD i xd).2.1=qbm b (xs.getD i xd).2.1)&&!q8m (qbm a (xs.getD i xd).2.1))
def q1j (s:qca) (a b:Row):Bool:=q7 (qzq s.2.2.1 a b) 0 s.2.2.1.length
theorem qbs1 (s:qca) (a b:Row):q1j s a b=q1j s b a:=by
 refine qu9 fun j _ _=>?_
 unfold qzq
 by_cases e:qbm a (s.2.2.1.getD j xd).2.1=qbm b (s.2.2.1.getD j xd).2.1
 ·rw[decide_eq_true e,decide_eq_true e.symm,e]
 ·rw[decide_eq_false e,decide_eq_false fun k=>e k.symm];simp
theorem qbud (D:Den ctx) (a b:Row) (x:qdj):qch ctx D (Clo.mk 143 [CapV.rptr (Ty.sl (Ty.pair (Ty.int IntKind.i64) (Ty.pair (Ty.int IntKind.i64) (Ty.pair Ty.str Ty.unit)))) a,CapV.rptr (Ty.sl (Ty.pair (Ty.int IntKind.i64) (Ty.pair (Ty.int IntKind.i64) (Ty.pair Ty.str Ty.unit)))) b]) [CapV.val (Ty.pair Ty.str (Ty.pair (Ty.sl (Ty.int IntKind.i64)) (Ty.pair Ty.bool Ty.unit))) x] Ty.bool=(q7w D x a b).bind fun r=>some r.1.1:=by kernel_rfl
theorem qbrc {X:Ext} (hX:XOk X) {n:Nat} (hn:W+6≤n) (s:qca) (hs:SchSm s) (a b:Row) (ha:a.length≤M) (hb:b.length≤M) (hv:∀ v∈a,qlp v=true):q4u (DD X n) s a b=some ((q1j s a b,()),()):=by
 obtain ⟨n,rfl⟩:∃ k,n=k+1:=⟨n - 1,by omega⟩
 have hM:=qc1
 have hd:=qk
 have h2:=hs.ixs
 rw[qbo2 hX]
 simp only[q45,qbb2]
 rw[qbfq hX (n:=n) (by omega) _ (by omega) _ (qzq s.2.2.1 a b) (fun i hi=>by
  have hc:=hs.ixc _ (qev (d:=xd) hi)
  obtain ⟨n,rfl⟩:∃ k,n=k+3:=⟨n - 3,by omega⟩
  rw[qbud,show n+3 - 2=n+1 from rfl,qbk4 hX]
  simp only[q0m,q76]
  have p1:=q28 hX (n:=n) (by omega) a ha (s.2.2.1.getD i xd).2.1 hc
  have p2:=q28 hX (n:=n) (by omega) b hb (s.2.2.1.getD i xd).2.1 hc
  have l1:=qp0 a (s.2.2.1.getD i xd).2.1
  have p3:=qbre hX (n:=n) (by omega) (qbm a (s.2.2.1.getD i xd).2.1) vd (by omega)
  have p4:=qbru hX (n:=n) (by omega) (qbm a (s.2.2.1.getD i xd).2.1) (qbm b (s.2.2.1.getD i xd).2.1) (by omega)
  rw[p1,qf]
  dsimp only
  rw[p2,p3]
  simp only[qf]
  rw[p4,qf,qbtn (fun v h=>hv v (qbq8 v h))]
  unfold qzq
  cases (s.2.2.1.getD i xd).2.2.1
  ·rfl
  ·cases q8m (qbm a (s.2.2.1.getD i xd).2.1)<;>simp[br]),qf]
 rfl
theorem qbq5 {X:Ext} (hX:XOk X) {n:Nat} (hn:W+3≤n) (s:qca) (hs:SchSm s) (a b:Row) (ha:a.length≤M) (hb:b.length≤M):qw3 (DD X n) s a b=some ((q1j s a b,()),()):=by
 obtain ⟨n,rfl⟩:∃ k,n=k+1:=⟨n - 1,by omega⟩
 have hM:=qc1
 have hW:=qbl
 have h2:=hs.ixs
 rw[qbh5 hX]
 simp only[qx9,qxv,qtp]
 refine Eq.trans (qjw (L:=fun m i=>qh7 (DD X n) n _ _ m a b (i:Int) s) (N:=s.2.2.1.length) (P:=qzq s.2.2.1 a b)
  (A:=some ((true,()),())) (B:=some ((false,()),())) (fun m i hi=>?_) (m:=n) (by omega)) ?_
 ·simp only[qh7,qvx]
  by_cases h:i<s.2.2.1.length
  ·have hc:=hs.ixc _ (qev (d:=xd) h)
   have p1:=q23 hX (n:=n) (by omega) a ha (s.2.2.1.getD i xd).2.1 hc
   have p2:=q23 hX (n:=n) (by omega) b hb (s.2.2.1.getD i xd).2.1 hc
   have l1:=qp0 a (s.2.2.1.getD i xd).2.1
   have p3:=qbt6 hX (n:=n) (by omega) (qbm a (s.2.2.1.getD i xd).2.1) (by omega)
   have p4:=qbm9 hX (n:=n) (by omega) (qbm a (s.2.2.1.getD i xd).2.1) (qbm b (s.2.2.1.getD i xd).2.1) (by omega)
   rw[qo (by exact_mod_cast h),ix h,br_t,Int.toNat_natCast,p1,qf]
   dsimp only
   rw[p2,qf]
   dsimp only
   rw[p3,p4,qp (by omega),if_pos h]
   simp only[qf]
   unfold qzq
   cases (s.2.2.1.getD i xd).2.2.1
   ·rfl
   ·cases decide (qbm a (s.2.2.1.getD i xd).2.1=qbm b (s.2.2.1.getD i xd).2.1)
    ·rfl
    ·cases q8m (qbm a (s.2.2.1.getD i xd).2.1)<;>rfl
  ·rw[qn (by exact_mod_cast h),if_neg h];rfl
 ·unfold q1j
  cases q7 (qzq s.2.2.1 a b) 0 s.2.2.1.length<;>rfl
end Go.G

namespace Go.G
set_option maxRecDepth 100000
open Go Go.V Go.Proofs
abbrev Rel:=qca×List Row×Unit
abbrev RelT:Ty:=.pair qcj (.pair (.sl (Ty.sl qt)) .unit)
theorem qbfz (D:Den ctx) (n:Nat) (K0:Bool→Option ((Bool×Unit)×Unit)) (K1:Option ((Bool×Unit)×Unit)):∀ (m i:Nat) (a b:List Row),(∀ x y,y∈b→qm8 D x y=some ((decide (x=y),()),()))→
  a.length=b.length→a.length≤maxLen→i≤a.length→a.length - i<m→qg8 D n K0 K1 m a b i=if a.drop i=b.drop i then K1 else K0 false
 | 0,_,_,_,_,_,_,_,h=>by omega
 | m+1,i,a,b,he,hl,hm,hi,hk=>by
  simp only[qg8,qtv]
  have hd:=qk
  by_cases h:i<a.length
  ·rw[qo (by exact_mod_cast h),ix h,br_t,ix (hl ▸ h),br_t,qp (by omega),Int.toNat_natCast,qbi h,qbi (hl ▸ h),he _ _ (List.getElem_mem _),qf,qy h,qy (hl ▸ h:i<b.length)]
   by_cases e:a[i]=b[i]'(hl ▸ h)
   ·simp only[e,decide_true,Bool.not_true,br_f,List.cons.injEq,true_and]
    exact qbfz D n K0 K1 m (i+1) a b he hl hm (by omega) (by omega)
   ·simp only[e,decide_false,Bool.not_false,br_t,List.cons.injEq,false_and,if_false]
  ·rw[qn (by exact_mod_cast h),q9 h,q9 (hl ▸ h)];rfl
theorem qbqy {X:Ext} (hX:XOk X) {n:Nat} (hn:W+4≤n) (a b:List Row) (hb:Fit maxLen (.sl (Ty.sl qt)) b):qv9 (DD X n) a b=some ((decide (a=b),()),()):=by
 obtain ⟨n,rfl⟩:∃ k,n=k+1:=⟨n - 1,by omega⟩
 have hb1:b.length≤maxLen:=hb.1
 rw[qbhm hX]
 simp only[qwk,qwm,qre]
 by_cases h:a.length=b.length
 ·have e:((a.length:Int) != (b.length:Int))=false:=by simp[h]
  rw[e,br_f]
  have:=qbfz (DD X n) n (fun v=>qkx (DD X n) n v) (qk5 (DD X n) n) n 0 a b (fun x y hy=>qbjc hX (by omega) x y (hb.2 y hy)) h (by omega) (by omega) (by have:=qbl;have:=qk;omega)
  rw[show ((0:Nat):Int)=0 from rfl] at this
  rw[this]
  simp only[List.drop_zero,qkx,qk5]
  by_cases h:a=b<;>simp[h]
 ·have e:((a.length:Int) != (b.length:Int))=true:=by simp;omega
  have:a≠b:=fun h2=>h (by rw[h2])
  rw[e,br_t];simp[this]
theorem qbfp (D:Den ctx) (n:Nat) (K:List Row→Option ((List Row×Unit)×Unit)):∀ (m i:Nat) (a c:List Row),(∀ x∈a,qe2 D x=some ((x,()),()))→a.length=c.length→a.length≤maxLen→i≤a.length→a.length - i<m→
  qhb D n K m a i c=K (c.take i++a.drop i)
 | 0,_,_,_,_,_,_,_,h=>by omega
 | m+1,i,a,c,he,hl,hm,hi,hk=>by
  simp only[qhb,quc]
  have hd:=qk
  by_cases h:i<a.length
  ·rw[qo (by exact_mod_cast h),ix h,br_t,Int.toNat_natCast,qbi h,he _ (List.getElem_mem _),qf,ix (hl ▸ h),br_t,qp (by omega)]
   have e:=qbfp D n K m (i+1) a (c.set i a[i]) he (by simp[hl]) hm (by omega) (by omega)
   rw[qy h]
   refine Eq.trans e ?_
   rw[qnd (hl ▸ h),List.append_assoc];rfl
  ·rw[qn (by exact_mod_cast h),q9 h,List.take_of_length_le (by omega),List.append_nil]
theorem qbq7 {X:Ext} (hX:XOk X) {n:Nat} (hn:W+4≤n) (a:List Row) (ha:Fit qbk (.sl (Ty.sl qt)) a):qwf (DD X n) a=some ((a,()),()):=by
 obtain ⟨n,rfl⟩:∃ k,n=k+1:=⟨n - 1,by omega⟩
 have ha1:a.length≤qbk:=ha.1
 rw[qbg5 hX]
 simp only[qv4,qvn,qrv]
 rw[q7o ha1,br_t]
 have h1:=qdm
 have:=qbfp (DD X n) n (fun v=>qkw (DD X n) n v) n 0 a (List.replicate (Int.toNat (a.length:Int)) []) (fun x hx=>qbj6 hX (by omega) x (ha.2 x hx)) (by simp) (by rw[qk];omega) (by omega) (by have:=qbl;omega)
 rw[show ((0:Nat):Int)=0 from rfl] at this
 rw[this]
 simp only[List.take_zero,List.drop_zero,List.nil_append,qkw]
theorem qbf1 (D:Den ctx) (n:Nat) (K0:Int→Int→Option ((Int×Unit)×Unit)) (K1:Int→Option ((Int×Unit)×Unit)) (hK:∀ k,K1 k=some ((k,()),())) (hK0:∀ k,K0 k (-1)=some ((-1,()),())):∀ (m i:Nat) (k:Int) (a:List Row),
  (∀ x∈a,∀ k:Int,0≤k→k≤maxLen→ql5 D x k=some ((left (Ty.sl qt) x k,()),()))→a.length≤maxLen→i≤a.length→a.length - i<m→0≤k→k≤maxLen→
  qgz D n K0 K1 m a k i=some ((if (((a.drop i).map (tot (Ty.sl qt))).sum:Int)≤k then k - ((a.drop i).map (tot (Ty.sl qt))).sum else -1,()),())
 | 0,_,_,_,_,_,_,h,_,_=>by omega
 | m+1,i,k,a,he,hm,hi,hf,h0,h1=>by
  simp only[qgz,qtl]
  have hd:=qk
  by_cases h:i<a.length
  ·rw[qo (by exact_mod_cast h),ix h,br_t,Int.toNat_natCast,qbi h,he _ (List.getElem_mem _) k h0 h1,qf,qp (by omega),qi1 h]
   by_cases h2:left (Ty.sl qt) a[i] k<0
   ·rw[qo h2,hK0,if_neg]
    intro h3
    rw[qdy (by omega)] at h2
    omega
   ·obtain ⟨e1,e2⟩:=qfe h2 h0
    rw[qn h2,e1];dsimp only
    rw[qbf1 D n K0 K1 hK hK0 m (i+1) _ a he hm (by omega) (by omega) (by omega) (by omega)]
    congr 3
    push_cast
    split<;>split<;>omega
  ·rw[qn (by exact_mod_cast h),q9 h,hK]
   simp[h0]
theorem qbq1 {X:Ext} (hX:XOk X) {n:Nat} (hn:W+4≤n) (a:List Row) (k:Int) (ha:Wf (.sl (Ty.sl qt)) a) (hk:0≤k∧k≤maxLen):qvw (DD X n) a k=some ((left (.sl (Ty.sl qt)) a k,()),()):=by
 obtain ⟨n,rfl⟩:∃ k,n=k+1:=⟨n - 1,by omega⟩
 have hd:=qk
 have w1:a.length≤maxLen:=ha.1
 have hts:=qoc (t:=(Ty.sl qt)) a
 rw[qbhf hX]
 simp only[qvp,qwo,qrq]
 rw[qcc (by omega) (by omega)]
 by_cases h:k - (a.length:Int)<0
 ·rw[qo h,qd7 (by omega)]
 ·rw[qn h]
  have:=qbf1 (DD X n) n (fun v w=>qqp (DD X n) n v w) (fun v=>qqa (DD X n) n v) (fun _=>rfl) (fun _=>rfl) n 0 (k - a.length) a
   (fun x hx k h0 h1=>qbh7 hX (by omega) x k (ha.2 x hx) ⟨h0,h1⟩) w1 (by omega) (by have:=qbl;omega) (by omega) (by omega)
  rw[show ((0:Nat):Int)=0 from rfl] at this
  rw[this,List.drop_zero]
  by_cases h2:(tot (.sl (Ty.sl qt)) a:Int)≤k
  ·rw[qdy h2,if_pos (by omega)];congr 3;omega
  ·rw[qd7 h2,if_neg (by omega)]
theorem qbpc {X:Ext} (hX:XOk X) (N n:Nat) (hN:W+2≤N) (K:Int→List Row→Option ((Int×Unit)×List Row×Unit)):∀ (m i:Nat) (k:Int) (a:List Row),a.length≤maxLen→(∀ x∈a,x.length≤maxLen)→i≤a.length→a.length - i<m→0≤k→k+((a.drop i).map (cnt (Ty.sl qt))).sum≤maxLen→
  qfa (DD X N) n K m k i a=K (mkL (mkT (Ty.sl qt)) k (a.drop i)).1 (a.take i++(mkL (mkT (Ty.sl qt)) k (a.drop i)).2)
 | 0,_,_,_,_,_,_,h,_,_=>by omega
 | m+1,i,k,a,hm,hmm,hi,hf,hk,hkl=>by
  simp only[qfa,qqn]
  have hd:=qk
  by_cases h:i<a.length
  ·rw[qi1 h] at hkl
   have hc1:=qdb (Ty.sl qt) k a[i]
   have t1:=qbcy hX hN a[i] k (hmm _ (List.getElem_mem h)) hk (by omega)
   have wi:IntKind.wrap IntKind.i64 ((i:Int)+1)=((i+1:Nat):Int):=qp (by omega)
   rw[qo (by exact_mod_cast h)]
   simp only[ix h,br_t,wi,qf,List.length_set,Int.toNat_natCast,qbi h,t1]
   refine Eq.trans (qbqc rfl) ?_
   have hml:(mkT (Ty.sl qt) k a[i]).2.length=a[i].length:=q4l k a[i]
   have e:=qbpc hX N n hN K m (i+1) (mkT (Ty.sl qt) k a[i]).1 (a.set i (mkT (Ty.sl qt) k a[i]).2) (by simpa using hm) (fun x hx=>by
    rcases List.mem_or_eq_of_mem_set hx with hx | rfl
    ·exact hmm x hx
    ·rw[hml];exact hmm _ (List.getElem_mem h)) (by simp;omega) (by simp;omega) (by omega) (by rw[List.drop_set_of_lt (by omega)];omega)
   refine Eq.trans e ?_
   rw[qnd h,qy h,List.drop_set_of_lt (by omega),List.append_assoc]
   rfl
  ·rw[qn (by exact_mod_cast h),q9 h,List.take_of_length_le (by omega)]
   simp only[mkL,List.append_nil]
theorem qbn1 {X:Ext} (hX:XOk X) {n:Nat} (hn:W+3≤n) (a:List Row) (k:Int) (ha:a.length≤maxLen) (hr:∀ x∈a,x.length≤maxLen) (hk:0≤k) (h:k+cnt (.sl (Ty.sl qt)) a≤maxLen) :
  qrt (DD X n) a k=some (((mkT (.sl (Ty.sl qt)) k a).1,()),((mkT (.sl (Ty.sl qt)) k a).2,())):=by
 obtain ⟨n,rfl⟩:∃ k,n=k+1:=⟨n - 1,by omega⟩
 have hd:=qk
 rw[qbb4 hX]
 simp only[qse,qr4,qpa]
 have:=qbpc hX n n (by omega) (fun v w=>qjj (DD X n) n v w) n 0 k a ha hr (by omega) (by have:=qbl;omega) hk (by rw[List.drop_zero];exact h)
 rw[show ((0:Nat):Int)=0 from rfl] at this
 rw[this]
 simp only[List.take_zero,List.drop_zero,List.nil_append,qjj,mkT]
theorem qbok {X:Ext} (hX:XOk X) (N n:Nat) (hN:W+2≤N) (K0:Int→Int→Option ((Int×Unit)×Unit)) (K1:Int→Option ((Int×Unit)×Unit)):∀ (m i:Nat) (k:Int) (a l:List Row),a.length≤maxLen→(∀ x∈l,x.length≤maxLen)→i≤a.length→a.length - i<m→0≤k→k+(l.map (cnt (Ty.sl qt))).sum≤maxLen→
  a.drop i=(mkL (mkT (Ty.sl qt)) k l).2→qe8 (DD X N) n K0 K1 m a k i=K1 (mkL (mkT (Ty.sl qt)) k l).1
 | 0,_,_,_,_,_,_,_,h,_,_,_=>by omega
 | m+1,i,k,a,l,hm,hmm,hi,hf,hk,hkl,hl=>by
  simp only[qe8,qqb]
  have hd:=qk
  by_cases h:i<a.length
  ·rw[qy h] at hl
   cases l with
   | nil=>simp[mkL] at hl;omega
   | cons x l=>
    simp only[mkL,List.cons.injEq] at hl
    obtain ⟨hx,hl⟩:=hl
    simp only[List.map_cons,List.sum_cons] at hkl
    have hc1:=qdb (Ty.sl qt) k x
    have t1:=qbqi hX hN x k (hmm _ (List.mem_cons_self ..)) hk (by omega)
    have wi:IntKind.wrap IntKind.i64 ((i:Int)+1)=((i+1:Nat):Int):=qp (by omega)
    rw[qo (by exact_mod_cast h)]
    simp only[ix h,br_t,Int.toNat_natCast,qbi h,hx,t1,wi,qf]
    rw[qn (by omega)]
    exact qbok hX N n hN K0 K1 m (i+1) (mkT (Ty.sl qt) k x).1 a l hm (fun y hy=>hmm y (List.mem_cons_of_mem _ hy)) (by omega) (by omega) (by omega) (by omega) hl
  ·rw[qn (by exact_mod_cast h)]
   rw[q9 h] at hl
   cases l with
   | nil=>rfl
   | cons x l=>simp[mkL] at hl
theorem qbnq {X:Ext} (hX:XOk X) {n:Nat} (hn:W+3≤n) (a:List Row) (k:Int) (ha:a.length≤maxLen) (hr:∀ x∈a,x.length≤maxLen) (hk:0≤k) (h:k+cnt (.sl (Ty.sl qt)) a≤maxLen) :
  qly (DD X n) (mkT (.sl (Ty.sl qt)) k a).2 k=some (((mkT (.sl (Ty.sl qt)) k a).1,()),()):=by
 obtain ⟨n,rfl⟩:∃ k,n=k+1:=⟨n - 1,by omega⟩
 have hd:=qk
 rw[qbde hX]
 simp only[qrr,qri,qo7]
 have hml:(mkT (.sl (Ty.sl qt)) k a).2.length=a.length:=q4l k a
 have:=qbok hX n n (by omega) (fun v w=>qoa (DD X n) n v w) (fun v=>qji (DD X n) n v) n 0 k (mkT (.sl (Ty.sl qt)) k a).2 a (by omega) hr (by omega) (by have:=qbl;omega) hk h (by simp[mkT])
 rw[show ((0:Nat):Int)=0 from rfl] at this
 rw[this]
 simp only[qji,mkT]
instance decRows:DecidableEq (List Row):=inferInstance
instance decRel:DecidableEq Rel:=fun a b=>@instDecidableEqProd _ _ decSchema (@instDecidableEqProd _ _ decRows inferInstance) a b
theorem qbdr (a:Rel):tot RelT a=tot qcj a.1+(tot (.sl (Ty.sl qt)) a.2.1+0):=rfl
theorem qbw1 {X:Ext} (hX:XOk X) {n:Nat} (hn:W+5≤n) (a:Rel) (ha:Fit qbk RelT a):qg6 (DD X n) a=some ((a,()),()):=by
 obtain ⟨n,rfl⟩:∃ k,n=k+1:=⟨n - 1,by omega⟩
 rw[qbdz hX]
 simp only[qtw,q3h]
 rw[qbsx hX (by omega) _ ha.1,qf,qbq7 hX (by omega) _ ha.2.1,qf]
theorem qbr3 {X:Ext} (hX:XOk X) {n:Nat} (hn:W+5≤n) (a b:Rel) (hb:Fit maxLen RelT b):qgx (DD X n) a b=some ((decide (a=b),()),()):=by
 obtain ⟨n,rfl⟩:∃ k,n=k+1:=⟨n - 1,by omega⟩
 rw[qbfi hX]
 simp only[qtn,q3l]
 rw[qbs0 hX (by omega) _ _ hb.1,qf,qbqy hX (by omega) _ _ hb.2.1,qf]
 obtain ⟨a1,a2,⟨⟩⟩:=a
 obtain ⟨b1,b2,⟨⟩⟩:=b
 by_cases h1:a1=b1<;>by_cases h2:a2=b2<;>simp[h1,h2,br]
theorem qbxh {X:Ext} (hX:XOk X) {n:Nat} (hn:W+5≤n) (a:Rel) (k:Int) (ha:Wf RelT a) (hk:0≤k∧k≤maxLen):qt6 (DD X n) a k=some ((left RelT a k,()),()):=by
 obtain ⟨n,rfl⟩:∃ k,n=k+1:=⟨n - 1,by omega⟩
 have hd:=qk
 have ht:=qbdr a
 rw[qbfg hX]
 simp only[qtk,q30]
 rw[qbr9 hX (by omega) _ _ ha.1 hk,qf];dsimp only
 by_cases h:left qcj a.1 k<0
 ·rw[qo h,qd7]
  intro h3
  rw[qdy (by omega)] at h
  omega
 ·obtain ⟨e1,e2⟩:=qfe h hk.1
  rw[qn h,e1,qbq1 hX (by omega) _ _ ha.2.1 (by omega),qf];dsimp only
  by_cases h:left (.sl (Ty.sl qt)) a.2.1 (k - tot qcj a.1)<0
  ·rw[qo h,qd7]
   intro h3
   rw[qdy (by omega)] at h
   omega
  ·obtain ⟨e3,e4⟩:=qfe h (by omega)
   rw[qn h,e3,qdy (by omega)]
   congr 3;omega
theorem qbm2 {X:Ext} (hX:XOk X) {n:Nat} (hn:W+4≤n) (a:Rel) (k:Int) (ha:Fit maxLen RelT a) (hk:0≤k) (h:k+cnt RelT a≤maxLen) :
  qk9 (DD X n) a k=some (((mkT RelT k a).1,()),((mkT RelT k a).2,())):=by
 obtain ⟨n,rfl⟩:∃ k,n=k+1:=⟨n - 1,by omega⟩
 have hc:cnt RelT a=cnt qcj a.1+(cnt (.sl (Ty.sl qt)) a.2.1+0):=rfl
 have h1:=qdb qcj k a.1
 rw[qbat hX]
 simp only[qp6,qzh]
 rw[qbob hX (by omega) _ _ ha.1 hk (by omega),qf];dsimp only
 rw[qbn1 hX (by omega) _ _ ha.2.1.1 (fun x hx=>(ha.2.1.2 x hx).1) (by omega) (by omega),qf]
 rfl
theorem qbux {X:Ext} (hX:XOk X) {n:Nat} (hn:W+4≤n) (a:Rel) (k:Int) (ha:Fit maxLen RelT a) (hk:0≤k) (h:k+cnt RelT a≤maxLen) :
  qkz (DD X n) (mkT RelT k a).2 k=some (((mkT RelT k a).1,()),()):=by
 obtain ⟨n,rfl⟩:∃ k,n=k+1:=⟨n - 1,by omega⟩
 have hc:cnt RelT a=cnt qcj a.1+(cnt (.sl (Ty.sl qt)) a.2.1+0):=rfl
 have h1:=qdb qcj k a.1
 have h2:=qdb (.sl (Ty.sl qt)) (mkT qcj k a.1).1 a.2.1
 rw[qba1 hX]
 simp only[qp9,qzc]
 have e1:=qbqd hX (n:=n) (by omega) a.1 k ha.1 hk (by omega)
 have e2:=qbnq hX (n:=n) (by omega) a.2.1 (mkT qcj k a.1).1 ha.2.1.1 (fun x hx=>(ha.2.1.2 x hx).1) (by omega) (by omega)
 show qi (qn3 (DD X n) (mkT qcj k a.1).2 k) _=_
 rw[e1,qf];dsimp only
 rw[qn (by omega)]
 show qi (qly (DD X n) (mkT (.sl (Ty.sl qt)) (mkT qcj k a.1).1 a.2.1).2 (mkT qcj k a.1).1) _=_
 rw[e2,qf];dsimp only
 rw[qn (by omega)]
 rfl
structure RelSm (r:Rel):Prop where
 sch:SchSm r.1
 rows:r.2.1.length≤M
 row:∀ x∈r.2.1,x.length≤M
theorem qbvx {r:Rel} (h:tot RelT r≤M):RelSm r:=by
 rw[qbdr] at h
 have h1:=qoc (t:=(Ty.sl qt)) r.2.1
 refine ⟨qbv2 (by omega),by omega,fun x hx=>?_⟩
 have:=q4n (t:=(Ty.sl qt)) hx
 have h2:=qoc (t:=qt) x
 have:x.length≤tot (Ty.sl qt) x:=by show x.length≤tot (.sl qt) x;omega
 omega
end Go.G

namespace Go.G
set_option maxRecDepth 100000
open Go Go.V Go.Proofs
theorem qbsb {s:qca} {row:Row} (h:q4f s row=true):∀ v∈row,qlp v=true:=by
 intro v hv
 obtain ⟨i,hi,rfl⟩:=List.mem_iff_getElem.1 hv
 simp only[q4f,Bool.and_eq_true,Bool.not_eq_true',decide_eq_true_eq] at h
 have k:=qlm.1 h.2.2 i (by omega) (by omega)
 simp only[q5m,Bool.or_eq_false_iff,Bool.not_eq_false'] at k
 rw[←qbi (d:=vd) hi];exact k.1
def q5t (s:qca) (rows:List Row) (i:Nat):Bool:=
 !q4f s (rows.getD i [])||((decide (0<i)&&!tlt (qbm (rows.getD (i - 1) []) s.2.1) (qbm (rows.getD i []) s.2.1))||q7 (fun k=>q1j s (rows.getD i []) (rows.getD k [])) 0 i)
def q4c (r:Rel):Bool:=!q7 (q5t r.1 r.2.1) 0 r.2.1.length&&(qne r.1&&decide ((r.2.1.length:Int)≤12))
theorem qbxi (D:Den ctx) (r:Rel) (row x:Row):qch ctx D (Clo.mk 80 [CapV.rptr (Ty.pair
          (Ty.pair (Ty.sl (Ty.pair Ty.str (Ty.pair (Ty.int IntKind.i64) (Ty.pair Ty.bool Ty.unit))))
           (Ty.pair (Ty.sl (Ty.int IntKind.i64))
            (Ty.pair (Ty.sl (Ty.pair Ty.str (Ty.pair (Ty.sl (Ty.int IntKind.i64)) (Ty.pair Ty.bool Ty.unit)))) Ty.unit)))
          (Ty.pair (Ty.sl (Ty.sl (Ty.pair (Ty.int IntKind.i64) (Ty.pair (Ty.int IntKind.i64) (Ty.pair Ty.str Ty.unit))))) Ty.unit)) r,CapV.rptr (Ty.sl (Ty.pair (Ty.int IntKind.i64) (Ty.pair (Ty.int IntKind.i64) (Ty.pair Ty.str Ty.unit)))) row]) [CapV.val (Ty.sl (Ty.pair (Ty.int IntKind.i64) (Ty.pair (Ty.int IntKind.i64) (Ty.pair Ty.str Ty.unit)))) x] Ty.bool=(q79 D x r row).bind fun q=>some q.1.1:=by kernel_rfl
theorem qbtd {α:Type} {l:List α} {i j:Nat} {d:α} (h:j<i):(l.take i).getD j d=l.getD j d:=by
 simp only[List.getD,List.getElem?_take]
 rw[if_pos h]
theorem qbrh {X:Ext} (hX:XOk X) {n:Nat} (hn:W+9≤n) (r:Rel) (hr:RelSm r) (i:Nat) (hi:i<r.2.1.length) (hv:∀ v∈r.2.1.getD i [],qlp v=true) :
  qb6 (DD X n) (List.drop (Int.toNat 0) (List.take i r.2.1)) (Clo.mk 80 [CapV.rptr (Ty.pair
          (Ty.pair (Ty.sl (Ty.pair Ty.str (Ty.pair (Ty.int IntKind.i64) (Ty.pair Ty.bool Ty.unit))))
           (Ty.pair (Ty.sl (Ty.int IntKind.i64))
            (Ty.pair (Ty.sl (Ty.pair Ty.str (Ty.pair (Ty.sl (Ty.int IntKind.i64)) (Ty.pair Ty.bool Ty.unit)))) Ty.unit)))
          (Ty.pair (Ty.sl (Ty.sl (Ty.pair (Ty.int IntKind.i64) (Ty.pair (Ty.int IntKind.i64) (Ty.pair Ty.str Ty.unit))))) Ty.unit)) r,CapV.rptr (Ty.sl (Ty.pair (Ty.int IntKind.i64) (Ty.pair (Ty.int IntKind.i64) (Ty.pair Ty.str Ty.unit)))) (r.2.1.getD i [])])
   = some ((q7 (fun k=>q1j r.1 (r.2.1.getD i []) (r.2.1.getD k [])) 0 i,()),()):=by
 have hM:=qc1
 have hd:=qk
 have h2:=hr.rows
 have hl:(List.drop (Int.toNat 0) (List.take i r.2.1)).length=i:=by
  show (List.take i r.2.1).length=i
  rw[List.length_take];omega
 have e:=qbtm hX (n:=n) (by omega) (List.drop (Int.toNat 0) (List.take i r.2.1)) (by rw[hl];omega) (Clo.mk 80 [CapV.rptr (Ty.pair
          (Ty.pair (Ty.sl (Ty.pair Ty.str (Ty.pair (Ty.int IntKind.i64) (Ty.pair Ty.bool Ty.unit))))
           (Ty.pair (Ty.sl (Ty.int IntKind.i64))
            (Ty.pair (Ty.sl (Ty.pair Ty.str (Ty.pair (Ty.sl (Ty.int IntKind.i64)) (Ty.pair Ty.bool Ty.unit)))) Ty.unit)))
          (Ty.pair (Ty.sl (Ty.sl (Ty.pair (Ty.int IntKind.i64) (Ty.pair (Ty.int IntKind.i64) (Ty.pair Ty.str Ty.unit))))) Ty.unit)) r,CapV.rptr (Ty.sl (Ty.pair (Ty.int IntKind.i64) (Ty.pair (Ty.int IntKind.i64) (Ty.pair Ty.str Ty.unit)))) (r.2.1.getD i [])])
  (fun k=>q1j r.1 (r.2.1.getD i []) (r.2.1.getD k [])) (fun k hk=>by
   rw[hl] at hk
   obtain ⟨n,rfl⟩:∃ k,n=k+3:=⟨n - 3,by omega⟩
   rw[qbxi,show n+3 - 2=n+1 from rfl,qbmi hX]
   simp only[q0t,q8c]
   have hg:(List.drop (Int.toNat 0) (List.take i r.2.1)).getD k []=r.2.1.getD k []:=qbtd hk
   rw[hg,qbrc hX (by omega) r.1 hr.sch _ _ (hr.row _ (qev hi)) (hr.row _ (qev (by omega))) hv,qf]
   rfl)
 rw[hl] at e
 exact e
theorem qbrb {X:Ext} (hX:XC X) {n:Nat} (hn:W+10≤n) (r:Rel) (hr:RelSm r):q5a (DD X n) r=some ((q4c r,()),()):=by
 obtain ⟨n,rfl⟩:∃ k,n=k+1:=⟨n - 1,by omega⟩
 have hW:=qbl
 have hM:=qc1
 have h2:=hr.rows
 have hk:=hr.sch.key
 rw[qbo0 hX.ok]
 simp only[q51,q42,qzr]
 refine Eq.trans (qjw (L:=fun m i=>qlq (DD X n) n _ _ m r.2.1 r.2.1.length (i:Int) r) (N:=r.2.1.length) (P:=q5t r.1 r.2.1)
  (A:=some ((false,()),())) (B:=some ((qne r.1&&decide ((r.2.1.length:Int)≤12),()),())) (fun m i hi=>?_) (m:=n) (by omega)) ?_
 ·simp only[qlq,q27]
  by_cases h:i<r.2.1.length
  ·have hc1:(decide ((0:Nat)≤0)&&decide ((0:Int)≤(i:Int))&&decide ((i:Int)≤(r.2.1.length:Int)))=true:=by
    rw[decide_eq_true (by omega),decide_eq_true (by omega),decide_eq_true (by omega)];rfl
   have hri:=hr.row _ (qev (d:=[]) h)
   rw[qo (by exact_mod_cast h),ix h,br_t,Int.toNat_natCast,qbra hX.ok (n:=n) (by omega) r.1 hr.sch _ hri,qf,qp (by omega),if_pos h,hc1]
   dsimp only
   unfold q5t
   cases hok:q4f r.1 (r.2.1.getD i [])
   ·rfl
   ·have ec:=qbrh hX.ok (n:=n) (by omega) r hr i h (qbsb hok)
    rw[Bool.not_true,br_f,br_t,ec,qf,Bool.false_or]
    dsimp only
    by_cases h0:0<i
    ·have w1:IntKind.wrap IntKind.i64 ((i:Int) - 1)=((i - 1:Nat):Int):=by rw[qcc (by omega) (by omega)];omega
     have hrj:=hr.row _ (qev (d:=[]) (show i - 1<r.2.1.length by omega))
     have l1:=qp0 (r.2.1.getD (i - 1) []) r.1.2.1
     rw[qo (by omega),w1,ix (i:=i - 1) (by omega),br_t,Int.toNat_natCast,qzt hX.ok (by omega) r.1 _ hrj hk,qf]
     dsimp only
     rw[qzt hX.ok (by omega) r.1 _ hri hk,qf]
     dsimp only
     rw[qbif hX (by omega) _ _ (by omega),qf,decide_eq_true h0]
     dsimp only
     cases tlt (qbm (r.2.1.getD (i - 1) []) r.1.2.1) (qbm (r.2.1.getD i []) r.1.2.1)<;>rfl
    ·rw[qn (by omega),decide_eq_false h0];rfl
  ·rw[qn (by exact_mod_cast h),if_neg h]
   simp only[qyb]
   rw[q7l hX.ok (by omega) r.1 hr.sch,qf,qjl]
 ·unfold q4c
  cases q7 (q5t r.1 r.2.1) 0 r.2.1.length<;>rfl
theorem qbqw {X:Ext} (hX:XOk X) {n:Nat} (hn:W+8≤n) (r:Rel) (hr:RelSm r):q5x (DD X n) r=some ((q4c r,()),()):=by
 obtain ⟨n,rfl⟩:∃ k,n=k+1:=⟨n - 1,by omega⟩
 have hW:=qbl
 have hM:=qc1
 have h2:=hr.rows
 have hk:=hr.sch.key
 rw[qbo5 hX]
 simp only[q5f,q55,q0d]
 refine Eq.trans (qjw (L:=fun m i=>qew (DD X n) n _ _ m (i:Int) r) (N:=r.2.1.length) (P:=q5t r.1 r.2.1)
  (A:=some ((false,()),())) (B:=some ((qne r.1&&decide ((r.2.1.length:Int)≤12),()),())) (fun m i hi=>?_) (m:=n) (by omega)) ?_
 ·simp only[qew,q2s,q02]
  by_cases h:i<r.2.1.length
  ·have hri:=hr.row _ (qev (d:=[]) h)
   have el:=qjw (L:=fun q k=>qli (DD X n) n (fun v0_0 v0_1 v0_2=>qw5 (DD X n) n (qew (DD X n) n (fun v0_0 v0_1=>qgr (DD X n) n v0_0 v0_1) (fun v1_0=>qe0 (DD X n) n v1_0) m) (fun v0_0 v0_1=>qgr (DD X n) n v0_0 v0_1) (fun v1_0=>qe0 (DD X n) n v1_0) v0_0 v0_1 v0_2)
      (fun v1_0 v1_1=>qqq (DD X n) n (qew (DD X n) n (fun v0_0 v0_1=>qgr (DD X n) n v0_0 v0_1) (fun v1_0=>qe0 (DD X n) n v1_0) m) (fun v0_0 v0_1=>qgr (DD X n) n v0_0 v0_1) (fun v1_0=>qe0 (DD X n) n v1_0) v1_0 v1_1) q (i:Int) (k:Int) r)
     (N:=i) (P:=fun k=>q1j r.1 (r.2.1.getD i []) (r.2.1.getD k []))
     (A:=some ((false,()),())) (B:=qew (DD X n) n (fun v0_0 v0_1=>qgr (DD X n) n v0_0 v0_1) (fun v1_0=>qe0 (DD X n) n v1_0) m ((i+1:Nat):Int) r) (fun q k hk2=>by
    simp only[qli,q2c]
    by_cases h3:k<i
    ·rw[qo (by exact_mod_cast h3),ix (i:=k) (by omega),br_t,ix h,br_t,Int.toNat_natCast,Int.toNat_natCast,qbq5 hX (by omega) r.1 hr.sch _ _ (hr.row _ (qev (by omega))) hri,qf,qp (by omega),if_pos h3,qbs1]
     rfl
    ·rw[qn (by exact_mod_cast h3),if_neg h3]
     simp only[qqq]
     rw[qp (by omega)]) (m:=n) (by omega)
   simp only[Int.natCast_zero] at el
   rw[qo (by exact_mod_cast h),ix h,br_t,Int.toNat_natCast,qbq6 hX (n:=n) (by omega) r.1 hr.sch _ hri,qf,if_pos h]
   dsimp only
   unfold q5t
   cases hok:q4f r.1 (r.2.1.getD i [])
   ·rfl
   ·rw[Bool.not_true,br_f,Bool.false_or]
    by_cases h0:0<i
    ·have w1:IntKind.wrap IntKind.i64 ((i:Int) - 1)=((i - 1:Nat):Int):=by rw[qcc (by omega) (by omega)];omega
     have hrj:=hr.row _ (qev (d:=[]) (show i - 1<r.2.1.length by omega))
     have l1:=qp0 (r.2.1.getD (i - 1) []) r.1.2.1
     rw[qo (by omega),w1,ix (i:=i - 1) (by omega),br_t,Int.toNat_natCast,q0y hX (by omega) r.1 _ hrj hk,qf]
     dsimp only
     rw[br_t,q0y hX (by omega) r.1 _ hri hk,qf]
     dsimp only
     rw[qbkk hX (by omega) _ _ (by omega),qf,decide_eq_true h0]
     dsimp only
     cases tlt (qbm (r.2.1.getD (i - 1) []) r.1.2.1) (qbm (r.2.1.getD i []) r.1.2.1)
     ·rfl
     ·exact el
    ·rw[qn (by omega),decide_eq_false h0];exact el
  ·rw[qn (by exact_mod_cast h),if_neg h]
   simp only[qe0]
   rw[q7z hX (by omega) r.1 hr.sch,qf,qjl]
 ·unfold q4c
  cases q7 (q5t r.1 r.2.1) 0 r.2.1.length<;>rfl
def qbn8 (r:Rel) (key:Row) (i:Nat):Bool:=decide (qbm (r.2.1.getD i []) r.1.2.1=key)
def q38 (r:Rel) (key:Row):Option Nat:=qbu (qbn8 r key) 0 r.2.1.length
theorem qbha {r:Rel} {key:Row} {j:Nat} (h:q38 r key=some j):j<r.2.1.length:=by
 have:=qss h;omega
theorem qbth (D:Den ctx) (r:Rel) (key x:Row):qch ctx D (Clo.mk 153 [CapV.rptr (Ty.pair
          (Ty.pair (Ty.sl (Ty.pair Ty.str (Ty.pair (Ty.int IntKind.i64) (Ty.pair Ty.bool Ty.unit))))
           (Ty.pair (Ty.sl (Ty.int IntKind.i64))
            (Ty.pair (Ty.sl (Ty.pair Ty.str (Ty.pair (Ty.sl (Ty.int IntKind.i64)) (Ty.pair Ty.bool Ty.unit)))) Ty.unit)))
          (Ty.pair (Ty.sl (Ty.sl (Ty.pair (Ty.int IntKind.i64) (Ty.pair (Ty.int IntKind.i64) (Ty.pair Ty.str Ty.unit))))) Ty.unit)) r,CapV.rptr (Ty.sl (Ty.pair (Ty.int IntKind.i64) (Ty.pair (Ty.int IntKind.i64) (Ty.pair Ty.str Ty.unit)))) key]) [CapV.val (Ty.sl (Ty.pair (Ty.int IntKind.i64) (Ty.pair (Ty.int IntKind.i64) (Ty.pair Ty.str Ty.unit)))) x] Ty.bool=(q7d D x r key).bind fun q=>some q.1.1:=by kernel_rfl
theorem qbw3 {X:Ext} (hX:XOk X) {n:Nat} (hn:W+6≤n) (r:Rel) (hr:RelSm r) (key:Row):q56 (DD X n) r key=some ((match q38 r key with | some j=>(j:Int) | none=>-1,()),()):=by
 obtain ⟨n,rfl⟩:∃ k,n=k+1:=⟨n - 1,by omega⟩
 have hM:=qc1
 have hd:=qk
 have h2:=hr.rows
 have hk:=hr.sch.key
 rw[qbpw hX]
 simp only[q54,qbcj]
 rw[qbp8 hX (n:=n) (by omega) _ (by omega) _ (qbn8 r key) (fun i hi=>by
  obtain ⟨n,rfl⟩:∃ k,n=k+2:=⟨n - 2,by omega⟩
  rw[qbth,show n+2 - 1=n+1 from rfl,qbmb hX]
  simp only[qzv,q7f]
  have l1:=qp0 (r.2.1.getD i []) r.1.2.1
  rw[qzt hX (by omega) r.1 _ (hr.row _ (qev hi)) hk,qf]
  dsimp only
  rw[qbru hX (by omega) _ _ (by omega),qf]
  rfl),qf]
 rfl
theorem qbxf {X:Ext} (hX:XOk X) {n:Nat} (hn:W+6≤n) (r:Rel) (hr:RelSm r) (key:Row):q5u (DD X n) r key=some ((match q38 r key with | some j=>(j:Int) | none=>-1,()),()):=by
 obtain ⟨n,rfl⟩:∃ k,n=k+1:=⟨n - 1,by omega⟩
 have hM:=qc1
 have hW:=qbl
 have h2:=hr.rows
 have hk:=hr.sch.key
 rw[qbot hX]
 simp only[q53,q47,qzx]
 refine Eq.trans (q1m (L:=fun m i=>qle (DD X n) n _ _ m key (i:Int) r) (N:=r.2.1.length) (P:=qbn8 r key)
  (A:=fun j=>some (((j:Int),()),())) (B:=some ((-1,()),())) (fun m i hi=>?_) (m:=n) (by omega)) ?_
 ·simp only[qle,q2n]
  by_cases h:i<r.2.1.length
  ·have l1:=qp0 (r.2.1.getD i []) r.1.2.1
   rw[qo (by exact_mod_cast h),ix h,br_t,Int.toNat_natCast,q0y hX (by omega) r.1 _ (hr.row _ (qev h)) hk,qf]
   dsimp only
   rw[qbm9 hX (by omega) _ _ (by omega),qf,qp (by omega),if_pos h]
   rfl
  ·rw[qn (by exact_mod_cast h),if_neg h];rfl
 ·unfold q38
  cases qbu (qbn8 r key) 0 r.2.1.length<;>rfl
theorem qbso {X:Ext} (hX:XOk X) {n:Nat} (hn:1≤n) (a:Row) (ha:a.length≤qbk):qes (DD X n) a=some ((a,()),()):=by
 obtain ⟨n,rfl⟩:∃ k,n=k+1:=⟨n - 1,by omega⟩
 rw[qru hX]
 simp only[qer,qiy]
 have hc:decide (0+a.length≤qbk)=true:=decide_eq_true (by omega)
 rw[hc,br_t,List.nil_append]
 cases a with
 | nil=>simp[qbqh,both]
 | cons x a=>rw[qn (by simp)]
def lookup (r:Rel) (key:Row):Row×Bool:=match q38 r key with | some j=>if q4c r=true then (r.2.1.getD j [],true) else ([],false) | none=>([],false)
end Go.G

namespace Go.G
set_option maxRecDepth 100000
open Go Go.V Go.Proofs
theorem qbf0 {X:Ext} (hX:XOk X) {n:Nat} (hn:1≤n) (a:List Int) (ha:a.length≤qbk):qiw (DD X n) a=some ((a,()),()):=by
 obtain ⟨n,rfl⟩:∃ k,n=k+1:=⟨n - 1,by omega⟩
 rw[q68 hX]
 simp only[qng,quz]
 have hc:decide (0+a.length≤qbk)=true:=decide_eq_true (by omega)
 rw[hc,br_t,List.nil_append]
 cases a with
 | nil=>simp[qbqh,both]
 | cons x a=>rw[qn (by simp)]
theorem qbq0 {X:Ext} (hX:XOk X) {n:Nat} (hn:1≤n) (a:List Col) (ha:a.length≤qbk):qfw (DD X n) a=some ((a,()),()):=by
 obtain ⟨n,rfl⟩:∃ k,n=k+1:=⟨n - 1,by omega⟩
 rw[qvi hX]
 simp only[qfq,qkq]
 have hc:decide (0+a.length≤qbk)=true:=decide_eq_true (by omega)
 rw[hc,br_t,List.nil_append]
 cases a with
 | nil=>simp[qbqh,both]
 | cons x a=>rw[qn (by simp)]
theorem qbtx {X:Ext} (hX:XOk X) (N n:Nat) (hN:1≤N) (K:qca→qca→Option ((qca×Unit)×Unit)) (xs:List qdj) (hx:xs.length≤M) (hc:∀ x∈xs,x.2.1.length≤M) (z:qca) (c:List Col) (k:List Int):∀ (m i:Nat) (acc:List qdj),i≤xs.length→xs.length - i<m→acc.length≤i→
  qgd (DD X N) n K m xs xs.length (i:Int) z (c,k,acc,())=K z (c,k,acc++xs.drop i,())
 | 0,_,_,_,h,_=>by omega
 | m+1,i,acc,hi,hf,ha=>by
  have hM:=qc1
  have hb:=qdm
  simp only[qgd,qr9]
  by_cases h:i<xs.length
  ·rw[qo (by exact_mod_cast h),ix h,br_t,Int.toNat_natCast,qp (by omega),qy h,qbi h]
   have:=hc _ (List.getElem_mem h)
   rw[qbf0 hX hN _ (by omega),qf,qo (by omega)]
   refine Eq.trans (qbtx hX N n hN K xs hx hc z c k m (i+1) _ (by omega) (by omega) (by simp;omega)) ?_
   rw[List.append_assoc];rfl
  ·rw[qn (by exact_mod_cast h),q9 h,List.append_nil]
theorem qbgc {X:Ext} (hX:XOk X) {n:Nat} (hn:W+3≤n) (s:qca) (hs:SchSm s):qte (DD X n) s=some ((s,()),()):=by
 obtain ⟨n,rfl⟩:∃ k,n=k+1:=⟨n - 1,by omega⟩
 have hM:=qc1
 have hb:=qdm
 have hW:=qbl
 have h1:=hs.cols
 have h2:=hs.key
 have h3:=hs.ixs
 rw[qbd5 hX]
 simp only[qt3,qts,qqf]
 rw[qbq0 hX (by omega) _ (by omega),qf,qbf0 hX (by omega) _ (by omega),qf]
 dsimp only
 refine Eq.trans (qbtx hX n n (by omega) _ s.2.2.1 h3 hs.ixc _ s.1 s.2.1 n 0 [] (by omega) (by omega) (by simp)) ?_
 rfl
theorem qbj7 {X:Ext} (D:Den ctx) (n:Nat) (K:qca→qca→Option ((qca×Unit)×Unit)) (s:qca) (hx:s.2.2.1.length≤M) (hc:∀ x∈s.2.2.1,x.2.1.length≤M) (z:qca) (c:List Col) (k:List Int):∀ (m i:Nat) (acc:List qdj),i≤s.2.2.1.length→s.2.2.1.length - i<m→acc.length≤i→
  qje D n K m (i:Int) s z (c,k,acc,())=K z (c,k,acc++s.2.2.1.drop i,())
 | 0,_,_,_,h,_=>by omega
 | m+1,i,acc,hi,hf,ha=>by
  have hM:=qc1
  have hb:=qdm
  simp only[qje,qxo]
  by_cases h:i<s.2.2.1.length
  ·have:=hc _ (List.getElem_mem h)
   rw[qo (by exact_mod_cast h),ix h,br_t,Int.toNat_natCast,qp (by omega),qy h,qbi h,qo (by omega),qo (by omega)]
   refine Eq.trans (qbj7 (X:=X) D n K s hx hc z c k m (i+1) _ (by omega) (by omega) (by simp;omega)) ?_
   rw[List.append_assoc];rfl
  ·rw[qn (by exact_mod_cast h),q9 h,List.append_nil]
theorem qbgx {X:Ext} (hX:XOk X) {n:Nat} (hn:W+3≤n) (s:qca) (hs:SchSm s):q0u (DD X n) s=some ((s,()),()):=by
 obtain ⟨n,rfl⟩:∃ k,n=k+1:=⟨n - 1,by omega⟩
 have hM:=qc1
 have hb:=qdm
 have hW:=qbl
 have h1:=hs.cols
 have h2:=hs.key
 have h3:=hs.ixs
 rw[qbmf hX]
 simp only[q1e,q0l,qwp]
 rw[qo (by omega),qo (by omega)]
 refine Eq.trans (qbj7 (X:=X) (DD X n) n _ s h3 hs.ixc _ ([]++s.1) ([]++s.2.1) n 0 [] (by omega) (by omega) (by simp)) ?_
 rfl
end Go.G

namespace Go.G
set_option maxRecDepth 100000
open Go Go.V Go.Proofs
theorem qbs9 (D:Den ctx) (n:Nat) (K:List Row→Option ((List Row×Unit)×Unit)) (a:List Row) (ha:a.length≤M) (hr:∀ x∈a,x.length≤M):∀ (m i:Nat) (acc:List Row),i≤a.length→a.length - i<m→acc.length≤i→
  qi8 D n K m a (i:Int) acc=K (acc++a.drop i)
 | 0,_,_,_,h,_=>by omega
 | m+1,i,acc,hi,hf,hl=>by
  have hM:=qc1
  have hb:=qdm
  simp only[qi8,qxh]
  by_cases h:i<a.length
  ·have:=hr _ (List.getElem_mem h)
   rw[qo (by exact_mod_cast h),ix h,br_t,Int.toNat_natCast,qbi h,qo (by omega),qo (by omega),qp (by omega),qy h]
   refine Eq.trans (qbs9 D n K a ha hr m (i+1) _ (by omega) (by omega) (by simp;omega)) ?_
   rw[List.append_assoc];rfl
  ·rw[qn (by exact_mod_cast h),q9 h,List.append_nil]
theorem qbdk {X:Ext} (hX:XOk X) {n:Nat} (hn:W+1≤n) (a:List Row) (ha:a.length≤M) (hr:∀ x∈a,x.length≤M):qn9 (DD X n) a=some ((a,()),()):=by
 obtain ⟨n,rfl⟩:∃ k,n=k+1:=⟨n - 1,by omega⟩
 have hM:=qc1
 have hW:=qbl
 rw[qblh hX]
 simp only[q0j,q1f,qvq]
 refine Eq.trans (qbs9 (DD X n) n _ a ha hr n 0 [] (by omega) (by omega) (by simp)) ?_
 rfl
theorem qbom {X:Ext} (hX:XOk X) (N n:Nat) (hN:1≤N) (K:List Row→Option ((List Row×Unit)×Unit)) (a:List Row) (ha:a.length≤M) (hr:∀ x∈a,x.length≤M):∀ (m i:Nat) (acc:List Row),i≤a.length→a.length - i<m→acc.length≤i→
  qf6 (DD X N) n K m a (a.length:Int) (i:Int) acc=K (acc++a.drop i)
 | 0,_,_,_,h,_=>by omega
 | m+1,i,acc,hi,hf,hl=>by
  have hM:=qc1
  have hb:=qdm
  simp only[qf6,qrp]
  by_cases h:i<a.length
  ·have:=hr _ (List.getElem_mem h)
   rw[qo (by exact_mod_cast h),ix h,br_t,Int.toNat_natCast,qbi h,qbso hX hN _ (by omega),qf,qo (by omega),qp (by omega),qy h]
   refine Eq.trans (qbom hX N n hN K a ha hr m (i+1) _ (by omega) (by omega) (by simp;omega)) ?_
   rw[List.append_assoc];rfl
  ·rw[qn (by exact_mod_cast h),q9 h,List.append_nil]
theorem qbox {X:Ext} (hX:XOk X) {n:Nat} (hn:W+2≤n) (a:List Row) (ha:a.length≤M) (hr:∀ x∈a,x.length≤M):qtm (DD X n) a=some ((a,()),()):=by
 obtain ⟨n,rfl⟩:∃ k,n=k+1:=⟨n - 1,by omega⟩
 have hM:=qc1
 have hW:=qbl
 rw[qbe1 hX]
 simp only[qt4,qug,qqk]
 refine Eq.trans (qbom hX n n (by omega) _ a ha hr n 0 [] (by omega) (by omega) (by simp)) ?_
 rfl
theorem qbt4 {X:Ext} (hX:XOk X) {n:Nat} (hn:W+4≤n) (r:Rel) (hr:RelSm r):q0i (DD X n) r=some ((r,()),()):=by
 obtain ⟨n,rfl⟩:∃ k,n=k+1:=⟨n - 1,by omega⟩
 rw[qbl7 hX]
 simp only[q1a,q7t]
 rw[qbgx hX (by omega) _ hr.sch,qf,qbdk hX (by omega) _ hr.rows hr.row,qf]
theorem qbmg {X:Ext} (hX:XOk X) {n:Nat} (hn:W+4≤n) (r:Rel) (hr:RelSm r):qp8 (DD X n) r=some ((r,()),()):=by
 obtain ⟨n,rfl⟩:∃ k,n=k+1:=⟨n - 1,by omega⟩
 rw[qbag hX]
 simp only[qqh,qy9]
 rw[qbgc hX (by omega) _ hr.sch,qf,qbox hX (by omega) _ hr.rows hr.row,qf]
def others (r:Rel) (row:Row) (j:Int):Bool:=q7 (fun k=>!decide ((k:Int)=j)&&q1j r.1 (r.2.1.getD k []) row) 0 r.2.1.length
end Go.G

namespace Go.G
set_option maxRecDepth 100000
open Go Go.V Go.Proofs
def qbur (r:Rel) (key:Row):Nat:=match qbu (fun i=>!tlt (qbm (r.2.1.getD i []) r.1.2.1) key) 0 r.2.1.length with | some j=>j | none=>r.2.1.length
def qhw (r:Rel) (key:Row):Rel×Int:=
 if q4c r=true then
  match q38 r key with
  | some j=>((r.1,r.2.1.take j++r.2.1.drop (j+1),()),0)
  | none=>(r,4)
 else (r,1)
theorem qbpm {X:Ext} (hX:XOk X) {n:Nat} (hn:W+9≤n) (r:Rel) (hr:RelSm r) (key:Row):q2j (DD X n) r key=some (((qhw r key).1,(qhw r key).2,()),()):=by
 obtain ⟨n,rfl⟩:∃ k,n=k+1:=⟨n - 1,by omega⟩
 have hM:=qc1
 have hW:=qbl
 have hb:=qdm
 have h2:=hr.rows
 rw[qbny hX]
 simp only[q2z,q9z]
 rw[qbt4 hX (by omega) r hr,qf,qbqw hX (by omega) r hr,qf,qbxf hX (by omega) r hr,qf]
 unfold qhw
 cases q4c r
 ·rfl
 ·rw[if_pos rfl,Bool.not_true,br_f]
  cases hkey:q38 r key with
  | none=>rfl
  | some j=>
   have hj:=qbha hkey
   dsimp only
   have w1:IntKind.wrap IntKind.i64 ((j:Int)+1)=((j+1:Nat):Int):=qp (by omega)
   have c1:(decide ((0:Nat)≤0)&&decide ((0:Int)≤(j:Int))&&decide ((j:Int)≤(r.2.1.length:Int)))=true:=by
    rw[decide_eq_true (by omega),decide_eq_true (by omega),decide_eq_true (by omega)];rfl
   have c2:(decide ((0:Int)≤((j+1:Nat):Int))&&decide (((j+1:Nat):Int)≤(r.2.1.length:Int))&&decide ((r.2.1.length:Int)≤(r.2.1.length:Int)))=true:=by
    rw[decide_eq_true (by omega),decide_eq_true (by omega),decide_eq_true (by omega)];rfl
   have t1:List.drop (Int.toNat 0) (List.take j r.2.1)=r.2.1.take j:=rfl
   rw[qn (show ¬ (j:Int)<0 by omega),c1,br_t,w1,c2,Int.toNat_natCast,Int.toNat_natCast,Int.toNat_natCast,t1,List.take_length,qbdk hX (by omega) _ (by rw[List.length_take];omega) (fun x hx=>hr.row x (List.mem_of_mem_take hx)),qf]
   dsimp only
   rw[br_t,qbdk hX (by omega) _ (by rw[List.length_drop];omega) (fun x hx=>hr.row x (List.mem_of_mem_drop hx)),qf]
   dsimp only
   rw[qo (by simp only[List.length_take,List.length_drop];omega)]
end Go.G

namespace Go.G
set_option maxRecDepth 100000
open Go Go.V Go.Proofs
def put (r:Rel) (row:Row):Rel:=(r.1,r.2.1.take (qbur r (qbm row r.1.2.1))++[row]++r.2.1.drop (qbur r (qbm row r.1.2.1)),())
theorem qbog {rows:List Row} {j:Nat} {row:Row} (hj:j<rows.length) (i:Nat):(rows.set j row).getD i []=if i=j then row else rows.getD i []:=by
 by_cases e:i=j
 ·subst e
  rw[if_pos rfl,qbi (by rw[List.length_set];exact hj),List.getElem_set_self]
 ·rw[if_neg e]
  simp only[List.getD,List.getElem?_set]
  rw[if_neg (fun k=>e k.symm)]
end Go.G

namespace Go.V
open Go
theorem El.take {h:Array Obj} {Pr:BS} {e:Ty} {mi:Mk} {xs:List e.den} {cells:List Value} {Fs:Nat→BS} (k:El h Pr e mi xs cells Fs) (n:Nat) (hn:n≤xs.length) (hl:cells.length=xs.length * e.width):El h Pr e mi (xs.take n) (cells.take (n * e.width)) Fs:=by
 refine ⟨fun i hi=>?_,k.dis⟩
 rw[List.length_take] at hi
 have hin:i<n:=by omega
 have h1:(xs.take n).getD i e.zero=xs.getD i e.zero:=by
  simp only[List.getD,List.getElem?_take]
  rw[if_pos hin]
 have h2:((cells.take (n * e.width)).drop (i * e.width)).take e.width=(cells.drop (i * e.width)).take e.width:=by
  rw[List.drop_take,List.take_take]
  congr 1
  have:(i+1) * e.width≤n * e.width:=Nat.mul_le_mul_right _ hin
  rw[Nat.succ_mul] at this
  omega
 rw[h1,h2]
 exact k.rep i (by omega)
theorem El.drop {h:Array Obj} {Pr:BS} {e:Ty} {mi:Mk} {xs:List e.den} {cells:List Value} {Fs:Nat→BS} (k:El h Pr e mi xs cells Fs) (n:Nat) (hn:n≤xs.length):El h Pr e mi (xs.drop n) (cells.drop (n * e.width)) (fun i=>Fs (n+i)):=by
 refine ⟨fun i hi=>?_,fun i j hij=>k.dis _ _ (by omega)⟩
 rw[List.length_drop] at hi
 have h1:(xs.drop n).getD i e.zero=xs.getD (n+i) e.zero:=by
  simp only[List.getD,List.getElem?_drop]
 have h2:((cells.drop (n * e.width)).drop (i * e.width)).take e.width=(cells.drop ((n+i) * e.width)).take e.width:=by
  rw[List.drop_drop,Nat.add_mul]
 rw[h1,h2]
 exact k.rep (n+i) (by omega)
def upTo (n:Nat) (Fs:Nat→BS) (i:Nat):BS:=if i<n then Fs i else Nil
theorem q5g (n:Nat) (Fs:Nat→BS) (i:Nat):Sub (upTo n Fs i) (Fs i):=by
 unfold upTo
 split
 ·exact Sub.refl _
 ·exact Sub.nil _
theorem El.upTo {h:Array Obj} {Pr:BS} {e:Ty} {mi:Mk} {xs:List e.den} {cells:List Value} {Fs:Nat→BS} (k:El h Pr e mi xs cells Fs):El h Pr e mi xs cells (upTo xs.length Fs):=by
 refine ⟨fun i hi=>?_,fun i j hij=>(k.dis i j hij).mono (q5g _ _ _) (q5g _ _ _)⟩
 have:Go.V.upTo xs.length Fs i=Fs i:=if_pos hi
 rw[this]
 exact k.rep i hi
theorem El.cut {h:Array Obj} {Pr:BS} {e:Ty} {mi:Mk} {xs:List e.den} {cells:List Value} {Fs:Nat→BS} (k:El h Pr e mi xs cells Fs) (i j:Nat) (hij:i≤j) (hj:j≤xs.length) (hl:cells.length=xs.length * e.width) :
  ∃ FF:Nat→BS,El h Pr e mi (xs.take i++xs.drop j) (cells.take (i * e.width)++cells.drop (j * e.width)) FF∧∀ a b,FF a b→∃ c,Fs c b:=by
 have k1:=(k.take i (by omega) hl).upTo
 have k2:=k.drop j hj
 have hlen:(xs.take i).length=i:=by rw[List.length_take];omega
 rw[hlen] at k1
 have hiw:i * e.width≤cells.length:=by rw[hl];exact Nat.mul_le_mul_right _ (by omega)
 have hjw:j * e.width≤cells.length:=by rw[hl];exact Nat.mul_le_mul_right _ hj
 refine ⟨_,El.append k1 k2 (by rw[List.length_take,hlen];omega) (by rw[List.length_drop,List.length_drop,hl,Nat.sub_mul]) (fun a b=>?_),?_⟩
 ·unfold Go.V.upTo
  split
  ·exact k.dis _ _ (by omega)
  ·exact Dis.nil _
 ·intro a b hb
  split at hb
  ·exact ⟨_,q5g _ _ _ b hb⟩
  ·exact ⟨_,hb⟩
theorem El.insert {h:Array Obj} {Pr:BS} {e:Ty} {mi:Mk} {xs ys:List e.den} {c1 c2:List Value} {F1 F2:Nat→BS} (k1:El h Pr e mi xs c1 F1) (k2:El h Pr e mi ys c2 F2) (i:Nat) (hi:i≤xs.length)
  (hl1:c1.length=xs.length * e.width) (hl2:c2.length=ys.length * e.width) (hd:∀ i j,Dis (F1 i) (F2 j)) :
  ∃ FF:Nat→BS,El h Pr e mi (xs.take i++ys++xs.drop i) (c1.take (i * e.width)++c2++c1.drop (i * e.width)) FF∧∀ a b,FF a b→(∃ c,F1 c b)∨∃ c,F2 c b:=by
 have a1:=(k1.take i hi hl1).upTo
 have a3:=k1.drop i hi
 have hlen:(xs.take i).length=i:=by rw[List.length_take];omega
 rw[hlen] at a1
 have hiw:i * e.width≤c1.length:=by rw[hl1];exact Nat.mul_le_mul_right _ hi
 have a12:=El.append a1 k2 (by rw[List.length_take,hlen];omega) hl2 (fun a b=>(hd a b).mono (q5g _ _ _) (Sub.refl _))
 refine ⟨_,El.append a12 a3 (by rw[List.length_append,List.length_append,List.length_take,hlen,hl2,Nat.add_mul];omega) (by rw[List.length_drop,List.length_drop,hl1,Nat.sub_mul]) (fun a b=>?_),?_⟩
 ·skip
  split
  ·unfold Go.V.upTo
   split
   ·exact k1.dis _ _ (by omega)
   ·exact Dis.nil _
  ·exact fun z h1 h2=>hd (i+b) _ z h2 h1
 ·intro a b hb
  split at hb
  ·split at hb
   ·exact .inl ⟨_,q5g _ _ _ b hb⟩
   ·exact .inr ⟨_,hb⟩
  ·exact .inl ⟨_,hb⟩
theorem qbri {w w2:World} {Pr:BS} {Fs:Nat→BS} {ks:List PK} {a:PDen ks} {vs:List Value} (pre:Pre w.heap Pr Fs ks a vs) {e:Ty} {mi:Mk} {zs:List e.den} {v:Value} {G:BS}
  (rep:Rep w2.heap Pr (.sl e) (.own 0 mi) zs [v] G) (hG:∀ z,G z→May w.heap.size Fs z) (hGP:Dis G Pr) (hGl:∀ z,G z→z<w2.heap.size) (hsz:w.heap.size≤w2.heap.size)
  (o:ODen ks) (out:qex w2.heap Pr (fun _=>Nil) 0 ks o vs) (fr:WFr (May w.heap.size Fs) w w2) :
  Pst w w2 Pr Fs ks [.val (.sl e) (.own 0 mi)] (zs,()) o vs v Pr (fun i=>if i=0 then G else Nil) (fun _=>Nil) [v] where
 res:=⟨v,[],rfl,⟨[v],rep,rfl⟩,rfl⟩
 val:=rfl
 out:=out
 pr:=Sub.refl _
 prL:=fun b hb=>.inl hb
 gL:=fun i b hb=>by
  split at hb
  ·exact hG b hb
  ·exact hb.elim
 oL:=fun _ _ hb=>hb.elim
 gdis:=fun i j hij=>by
  split
  ·split
   ·omega
   ·exact fun _ _ h=>h.elim
  ·exact Dis.nil _
 odis:=fun _ _ _=>Dis.nil _
 go:=fun _ _=>fun _ _ h=>h.elim
 gp:=fun i=>by
  split
  ·exact hGP
  ·exact Dis.nil _
 op:=fun _=>Dis.nil _
 glim:=fun i b hb=>by
  split at hb
  ·exact hGl b hb
  ·exact hb.elim
 olim:=fun _ _ hb=>hb.elim
 plim:=fun b hb=>Nat.lt_of_lt_of_le (pre.limPr b hb) hsz
 fr:=fr
end Go.V

namespace Go.V
set_option maxRecDepth 100000
set_option maxHeartbeats 4000000
open Go Go.Proofs Go.RowKit Go.Lib
theorem qbij:Tryz.f88.ntmps=95:=by kernel_rfl
theorem qbrv (a1:Option Addr) (n c m:Nat) (a2:Option Addr) (c2:Nat) (w w3:World) (v3:Value) (hm:0<m) (hc:n≤c) (h1:(∃ b,a1=some ⟨b,0,none⟩)∨(n=0∧c=0))
  (hr:∀ ty,(Builtin.append_ #[29,29] ty #[.slice a1 n c,.slice a2 m c2]).run Tryz.prog w=.ok v3 w3) :
  Calls Tryz.prog 88 #[.slice a1 n c,.int .i64 n,.slice a2 m c2] w fun e w'=>e=.returned v3∧w'=w3:=by
 have mx:=mixed
 have u67:Tryz.prog.underlying 29=some (.slice 32):=by kernel_rfl
 have v67:=run_underlying u67
 have hz1:¬ ((m:Int)=0):=by omega
 rcases h1 with ⟨b,rfl⟩ | ⟨rfl,rfl⟩
 ·go_enter Tryz.func88,qbij
  go_wp2_with (at_builtin;refine Lib.wpList_append_run _ rfl _ _ _ _ rfl _ _ rfl rfl _ _ (hr _) ?_)
  all_goals (try (go_ret;exact ⟨rfl,rfl⟩))
 ·cases a1 with
  | none=>
   go_enter Tryz.func88,qbij
   go_wp2_with (at_builtin;refine Lib.wpList_append_run _ rfl _ _ _ _ rfl _ _ rfl rfl _ _ (hr _) ?_)
   all_goals (try (go_ret;exact ⟨rfl,rfl⟩))
  | some a0=>
   go_enter Tryz.func88,qbij
   go_wp2_with (at_builtin;refine Lib.wpList_append_run _ rfl _ _ _ _ rfl _ _ rfl rfl _ _ (hr _) ?_)
   all_goals (try (go_ret;exact ⟨rfl,rfl⟩))
end Go.V

namespace Go.V
set_option maxRecDepth 100000
set_option maxHeartbeats 4000000
open Go Go.Proofs Go.RowKit Go.Lib
theorem qbvc (b n c i m:Nat) (a2:Addr) (c2 B G:Nat) (w w1 w2 w3:World) (r2 r3:Value) (hi:i<n) (hm:0<m) (hnc:n≤c) (hroom:c<n+m) (hG:n+m≤G) (hs63:n+m≤9223372036854775807)
  (hA:∀ ty,(Builtin.append_ #[29,3] ty #[.slice (some ⟨b,0,none⟩) i c,.int .i64 ((n:Int)+(m:Int) - (i:Int))]).run Tryz.prog w=.ok (.slice (some ⟨B,0,none⟩) (n+m) G) w1)
  (hB:∀ ty,(Builtin.copy_ #[29,29] ty #[.slice (some ⟨B,i,none⟩) (n+m - i) (G - i),.slice (some a2) m c2]).run Tryz.prog w1=.ok r2 w2)
  (hC:∀ ty,(Builtin.copy_ #[29,29] ty #[.slice (some ⟨B,i+m,none⟩) (n+m - (i+m)) (G - (i+m)),.slice (some ⟨b,i,none⟩) (n - i) (c - i)]).run Tryz.prog w2.drew=.ok r3 w3) :
  Calls Tryz.prog 88 #[.slice (some ⟨b,0,none⟩) n c,.int .i64 i,.slice (some a2) m c2] w fun e w'=>e=.returned (.slice (some ⟨B,0,none⟩) (n+m) G)∧w'=w3:=by
 have mx:=mixed
 have u67:Tryz.prog.underlying 29=some (.slice 32):=by kernel_rfl
 have u3:Tryz.prog.underlying 3=some (.int .i64):=by kernel_rfl
 have v67:=run_underlying u67
 have v3:=run_underlying u3
 have s38:(Tryz.prog.info? 32).map (·.size)=some 1:=by kernel_rfl
 obtain ⟨i0,hi0⟩:∃ i0,Tryz.prog.info? 32=some i0:=by cases h:Tryz.prog.info? 32 with | none=>rw[h] at s38;cases s38 | some x=>exact ⟨x,rfl⟩
 have hs0:i0.size=1:=by rw[hi0] at s38;simpa using s38
 have hz1:¬ ((m:Int)=0):=by omega
 have hz2:¬ ((i:Int)=(n:Int)):=by omega
 have hz3:(c:Int)<(n:Int)+(m:Int):=by omega
 have hw1:IntKind.i64.wrap ((i:Int)+(m:Int))=(i:Int)+(m:Int):=by rw[IntKind.wrap_i64];omega
 have hb1:(0:Int)≤(i:Int)+(m:Int):=by omega
 have hin:i≤n:=by omega
 have htn:((i:Int)+(m:Int)).toNat=i+m:=by omega
 have hb3:(i:Int)≤(n:Int):=by omega
 have hGi:¬ (G=i):=by omega
 have hGim:¬ (G=i+m):=by omega
 have hci:¬ (c=i):=by omega
 go_enter Tryz.func88,qbij
 go_wp2_with (first
  | (at_builtin;refine Lib.wpList_append_run _ rfl _ _ _ _ rfl _ _ rfl rfl _ _ (hA _) ?_)
  | (at_builtin;refine wpList_copy_runI _ rfl _ _ 29 29 rfl _ _ rfl rfl (hB _) ?_))
 go_region_law_o (refine step_copy_runI rfl _ _ 29 29 rfl (.slice (some ⟨B,i+m,none⟩) (n+m - (i+m)) (G - (i+m))) (.slice (some ⟨b,i,none⟩) (n - i) (c - i)) (by simp[Act.eval,Act.put]) (by simp[Act.eval,Act.put]) (hC _) ?_)
 go_wp2
 go_ret
 exact ⟨rfl,rfl⟩
theorem qbua (b n c i m:Nat) (a2:Addr) (c2:Nat) (w w1 w2:World) (r1 r2:Value) (hi:i<n) (hm:0<m) (hroom:n+m≤c) (hs63:n+m≤9223372036854775807)
  (hov:∀ lb cb,(callFunc 154 #[.slice (some a2) m c2,.slice (some ⟨b,i+m,none⟩) lb cb]).run Tryz.prog w=.ok (.value (.bool false)) w)
  (hB:∀ ty dc sc,(Builtin.copy_ #[29,29] ty #[.slice (some ⟨b,i+m,none⟩) (n+m - (i+m)) dc,.slice (some ⟨b,i,none⟩) (n+m - i) sc]).run Tryz.prog w.drew=.ok r1 w1)
  (hC:∀ ty dc,(Builtin.copy_ #[29,29] ty #[.slice (some ⟨b,i,none⟩) (n+m - i) dc,.slice (some a2) m c2]).run Tryz.prog w1=.ok r2 w2) :
  Calls Tryz.prog 88 #[.slice (some ⟨b,0,none⟩) n c,.int .i64 i,.slice (some a2) m c2] w fun e w'=>e=.returned (.slice (some ⟨b,0,none⟩) (n+m) c)∧w'=w2:=by
 have mx:=mixed
 have u67:Tryz.prog.underlying 29=some (.slice 32):=by kernel_rfl
 have u3:Tryz.prog.underlying 3=some (.int .i64):=by kernel_rfl
 have v67:=run_underlying u67
 have v3:=run_underlying u3
 have s38:(Tryz.prog.info? 32).map (·.size)=some 1:=by kernel_rfl
 obtain ⟨i0,hi0⟩:∃ i0,Tryz.prog.info? 32=some i0:=by cases h:Tryz.prog.info? 32 with | none=>rw[h] at s38;cases s38 | some x=>exact ⟨x,rfl⟩
 have hs0:i0.size=1:=by rw[hi0] at s38;simpa using s38
 have hz1:¬ ((m:Int)=0):=by omega
 have hz2:¬ ((i:Int)=(n:Int)):=by omega
 have hw1:IntKind.i64.wrap ((i:Int)+(m:Int))=(i:Int)+(m:Int):=by rw[IntKind.wrap_i64];omega
 have hb1:(0:Int)≤(i:Int)+(m:Int):=by omega
 have hin:i≤n:=by omega
 have htn:((i:Int)+(m:Int)).toNat=i+m:=by omega
 have hb2:¬ (c=i+m):=by omega
 have hb3:(i:Int)≤(n:Int)+(m:Int):=by omega
 have hb4:¬ (c=i):=by omega
 go_enter Tryz.func88,qbij
 go_wp2_with (simp only[hov])
 go_region_law_o (refine step_copy_runI rfl _ _ 29 29 rfl _ _ (by simp[Act.eval,Act.put]) (by simp[Act.eval,Act.put]) (hB _ _ _) ?_)
 go_wp2_with (at_builtin;refine wpList_copy_runI _ rfl _ _ 29 29 rfl _ _ rfl rfl (hC _ _) ?_)
 go_ret
 exact ⟨rfl,rfl⟩
end Go.V

namespace Go.V
set_option maxRecDepth 100000
set_option maxHeartbeats 4000000
open Go Go.Proofs Go.RowKit Go.Lib
theorem qbyp:Tryz.f95.ntmps=33:=by kernel_rfl
theorem qbhi {P:Program} {ops:Array Oper} {o:Oper} {a:Act} {w:World} {K:Act→World→Prop} {Q:Exit→Act→World→Prop} {E:Prop}
  (hg:o.guard=none) (d x:Operand) (dT sT:TypeId) (hop:o.op=Op.call { callee:=Callee.builtin Builtin.append,args:=#[d,x],argTypes:=#[dT,sT] })
  (v u:Value) (hd:a.eval d=v) (hx:a.eval x=u) {v':Value} {w':World} (hr:(Builtin.append_ #[dT,sT] o.type #[v,u]).run P w=.ok v' w') (hK:K (a.put o.dst v') w') :
  if Region.wanted o (yielded ops a.tmps)=true then Oper.wp P o a w K Q else E:=by
 have hw:Region.wanted o (yielded ops a.tmps)=true:=by simp[Region.wanted,hg]
 rw[if_pos hw]
 exact Lib.wp_append_run w d x dT sT hop v u hd hx v' w' hr hK
theorem qbvo (b n c i j:Nat) (w w1 w2:World) (r2:Value) (hij:i<j) (hj:j≤n) (hnc:n≤c) (hn63:n≤9223372036854775807)
  (hA:∀ ty a,(a=(if c=j then some (⟨b,0,none⟩:Addr) else some ⟨b,j,none⟩))→(Builtin.append_ #[29,29] ty #[.slice (some ⟨b,0,none⟩) i c,.slice a (n - j) (c - j)]).run Tryz.prog w.drew=.ok (.slice (some ⟨b,0,none⟩) (i+(n - j)) c) w1)
  (hC:∀ ty,(Builtin.clear_ #[29] ty #[.slice (some ⟨b,i+(n - j),none⟩) (n - (i+(n - j))) (c - (i+(n - j)))]).run Tryz.prog w1=.ok r2 w2) :
  Calls Tryz.prog 95 #[.slice (some ⟨b,0,none⟩) n c,.int .i64 i,.int .i64 j] w fun e w'=>e=.returned (.slice (some ⟨b,0,none⟩) (i+(n - j)) c)∧w'=w2:=by
 have mx:=mixed
 have u67:Tryz.prog.underlying 29=some (.slice 32):=by kernel_rfl
 have u3:Tryz.prog.underlying 3=some (.int .i64):=by kernel_rfl
 have v67:=run_underlying u67
 have v3:=run_underlying u3
 have s38:(Tryz.prog.info? 32).map (·.size)=some 1:=by kernel_rfl
 obtain ⟨i0,hi0⟩:∃ i0,Tryz.prog.info? 32=some i0:=by cases h:Tryz.prog.info? 32 with | none=>rw[h] at s38;cases s38 | some x=>exact ⟨x,rfl⟩
 have hs0:i0.size=1:=by rw[hi0] at s38;simpa using s38
 have hz2:¬ ((i:Int)=(j:Int)):=by omega
 have hij':i≤j:=by omega
 have hic:i≤c:=by omega
 have hjc:j≤c:=by omega
 have hin:i≤n:=by omega
 have hk1:i+(n - j)≤n:=by omega
 have hk2:i+(n - j)≤c:=by omega
 have hk3:¬ (c=i+(n - j)):=by omega
 obtain ⟨A,hAe⟩:∃ A:Option Addr,A=(if c=j then some (⟨b,0,none⟩:Addr) else some ⟨b,j,none⟩):=⟨_,rfl⟩
 go_enter Tryz.func95,qbyp
 go_wp2_with fail
 go_region_law_o (refine qbhi rfl (.tmp 22) (.tmp 25) 29 29 rfl _ _ (by simp[Act.eval,Act.put]) (by simp[Act.eval,Act.put]) (hA _ _ rfl) ?_)
 all_goals (go_wp2_with (simp only[hC]))
 all_goals (try (go_ret;exact ⟨rfl,rfl⟩))
end Go.V

namespace Go.V
set_option maxRecDepth 100000
open Go Go.Proofs Go.RowKit
abbrev TVal:Ty:=.pair (.int .i64) (.pair (.int .i64) (.pair .str .unit))
abbrev TRow:Ty:=.sl TVal
abbrev SigD:Sig:=⟨[.own (.sl TRow) (Mk.top (.sl TRow)),.val (.int .i64),.val (.int .i64)],[.val (.sl TRow) (Mk.top (.sl TRow))]⟩
theorem sigD:ctx.sig 95=SigD:=by kernel_rfl
def delD (xs:List TRow.den) (i j:Int):Option (List TRow.den):=if 0≤i∧i<j∧j≤xs.length∧xs.length≤qbk then some (xs.take i.toNat++xs.drop j.toNat) else none
theorem qbx8:qbkd Tryz.prog SigD 95 fun a=>(delD a.1 a.2.1 a.2.2.1).map fun r=>((r,()),()):=by
 intro a r h w Pr Fs vs pre
 obtain ⟨xs,i,j,⟨⟩⟩:=a
 change List TRow.den at xs
 change Int at i
 change Int at j
 obtain ⟨v1,vs1,rfl,⟨c1,rep1,rfl⟩,v2,vs2,rfl,⟨c2,r2,rfl⟩,v3,vs3,rfl,⟨c3,r3,rfl⟩,k3⟩:=pre.rel
 obtain rfl:vs3=[]:=k3
 simp only[Rep] at r2 r3
 subst r2
 subst r3
 dsimp only at h
 unfold delD at h
 split at h
 ·rename_i hc
  obtain ⟨h0,hij,hj,hbd⟩:=hc
  replace hbd:xs.length≤274877906944:=hbd
  replace h0:0≤i:=h0
  replace hij:i<j:=hij
  replace hj:j≤xs.length:=hj
  simp only[Option.map_some,Option.some.injEq] at h
  subst h
  obtain ⟨i,rfl⟩:=Int.eq_ofNat_of_zero_le h0
  obtain ⟨j,rfl⟩:=Int.eq_ofNat_of_zero_le (show 0≤j by omega)
  obtain ⟨ad,cap,cells,F,rfl,hl,hlc,hsrc,el,hF,hown⟩:=qlt (by simp[Mk.top]) (by simp[Mk.top]) rep1
  rcases hown 0 _ rfl with hc0 | ⟨b,cs,rfl,hbF,hbo,hcapb,hFb,hcells⟩
  ·replace hlc:xs.length≤cap:=hlc
   omega
  ·have hw1:TRow.width=1:=rfl
   replace hlc:xs.length≤cap:=hlc
   replace hl:cells.length=xs.length:=by rw[hl,hw1,Nat.mul_one]
   replace hcapb:cap≤cs.size:=by rw[hw1,Nat.mul_one] at hcapb;exact hcapb
   replace hcells:cells=sub cs 0 xs.length:=by rw[hcells,hw1,Nat.mul_one]
   have hij2:i<j:=by omega
   have hj2:j≤xs.length:=by omega
   have u67:Tryz.prog.underlying 29=some (.slice 32):=by kernel_rfl
   have s38:(Tryz.prog.info? 32).map (·.size)=some 1:=by kernel_rfl
   obtain ⟨i0,hi0⟩:∃ i0,Tryz.prog.info? 32=some i0:=by cases h:Tryz.prog.info? 32 with | none=>rw[h] at s38;cases s38 | some x=>exact ⟨x,rfl⟩
   have hs0:i0.size=1:=by rw[hi0] at s38;simpa using s38
   have hcd:cells.drop j=sub cs j (xs.length - j):=by
    rw[hcells]
    simp only[sub,List.drop_zero,List.drop_take]
   have hdl:(cells.drop j).length=xs.length - j:=by rw[List.length_drop,hl]
   have hone:∀ u∈cells.drop j,u.oneCell'=true:=by
    intro u hu
    obtain ⟨k,hk,rfl⟩:=List.getElem_of_mem hu
    rw[hdl] at hk
    have hk2:j+k<xs.length:=by omega
    have r:=el.rep (j+k) hk2
    refine Rep.one _ r _ ?_
    rw[hw1,Nat.mul_one,List.mem_iff_getElem?]
    refine ⟨0,?_⟩
    rw[List.getElem?_take,if_pos (by omega),List.getElem?_drop,Nat.add_zero,List.getElem_drop,List.getElem?_eq_getElem]
   have hA:∀ ty a,(a=(if cap=j then some (⟨b,0,none⟩:Addr) else some ⟨b,j,none⟩))→(Builtin.append_ #[29,29] ty #[.slice (some ⟨b,0,none⟩) i cap,.slice a (xs.length - j) (cap - j)]).run Tryz.prog w.drew=.ok (.slice (some ⟨b,0,none⟩) (i+(xs.length - j)) cap) (w.drew.setCells b i (cells.drop j)):=by
    intro ty a ha
    refine qkp (P:=Tryz.prog) w.drew (ty:=ty) rfl rfl u67 u67 hi0 (news:=cells.drop j) ?_ (by omega) (fun ad e=>?_) (fun e=>by simp at e)
    ·rw[hs0]
     refine qfu (by rw[hdl,Nat.mul_one]) ?_
     by_cases h0:xs.length - j=0
     ·exact .inl ⟨h0,List.length_eq_zero_iff.1 (by rw[hdl,h0])⟩
     ·refine .inr ⟨b,j,by rw[ha,if_neg (by omega)],?_⟩
      rw[hcd]
      exact qc3 (qbt hbo.blk (by omega))
    ·simp only[Option.some.injEq] at e
     subst e
     rw[Addr.add_mid,Nat.zero_add,hs0,Nat.mul_one]
     have th:=qd3 (w:=w) (o:=i) (n:=(cells.drop j).length) hbo (by rw[hdl];omega)
     have:=run_storeCells_cells (P:=Tryz.prog) b i (cells.drop j) 0 w.drew (fun t ht=>by simpa using (th t ht).1) (fun t ht=>by simpa using (th t ht).2) hone
     simpa using this
   obtain ⟨ty,lo,hi,he,hfz⟩:=hbo
   have hfit:i+(cells.drop j).length≤cs.size:=by rw[hdl];omega
   obtain ⟨cs1,hcs1,hcs1l⟩:=qc6 (cells.drop j) i w.drew cs he hfit
   have hsz1:cs1.size=cs.size:=by rw[←Array.length_toList,hcs1l,qcf (by simpa using hfit),Array.length_toList]
   have hob1:qbg (w.drew.setCells b i (cells.drop j)).heap b cs1:=⟨ty,lo,hi,hcs1,fun t ht=>hfz t (by omega)⟩
   let zs:List Value:=List.replicate (xs.length - (i+(xs.length - j))) (.slice none 0 0)
   have hzl:zs.length=xs.length - (i+(xs.length - j)):=List.length_replicate
   have hfit2:i+(xs.length - j)+zs.length≤cs1.size:=by rw[hzl];omega
   have th1:=qd3 (w:=w.drew.setCells b i (cells.drop j)) (o:=i+(xs.length - j)) (n:=zs.length) hob1 hfit2
   have hC:∀ ty,(Builtin.clear_ #[29] ty #[.slice (some ⟨b,i+(xs.length - j),none⟩) (xs.length - (i+(xs.length - j))) (cap - (i+(xs.length - j)))]).run Tryz.prog (w.drew.setCells b i (cells.drop j))=.ok (.tuple #[]) ((w.drew.setCells b i (cells.drop j)).setCells b (i+(xs.length - j)) zs):=fun ty=>
    Lib.run_clear_slice _ 29 32 ty (.slice none 0 0) u67 (fun w=>by kernel_rfl) rfl rfl b _ _ _ (by omega) (fun t ht=>(th1 t (by rw[hzl];exact ht)).1) (fun t ht=>(th1 t (by rw[hzl];exact ht)).2)
   obtain ⟨cs2,hcs2,hcs2l⟩:=qc6 zs (i+(xs.length - j)) _ cs1 hcs1 hfit2
   have hsz2:cs2.size=cs1.size:=by rw[←Array.length_toList,hcs2l,qcf (by simpa using hfit2),Array.length_toList]
   have hob2:qbg ((w.drew.setCells b i (cells.drop j)).setCells b (i+(xs.length - j)) zs).heap b cs2:=⟨ty,lo,hi,hcs2,fun t ht=>hfz t (by omega)⟩
   have hother:∀ b',b'≠b→((w.drew.setCells b i (cells.drop j)).setCells b (i+(xs.length - j)) zs).heap[b']? = w.heap[b']?:=fun b' hb'=>(qbh zs _ _ b' hb').trans (qbh (cells.drop j) _ w.drew b' hb')
   have hPb:¬ Pr b:=fun hb=>pre.prot 0 b hbF hb
   obtain ⟨FF,elc,hFF⟩:=el.cut i j (by omega) hj2 (by rw[hw1,Nat.mul_one];exact hl)
   have hFFb:∀ a,¬ FF a b:=fun a hb=>by obtain ⟨c,hc⟩:=hFF a b hb;exact hFb c hc
   have el2:=elc.mono (h':=((w.drew.setCells b i (cells.drop j)).setCells b (i+(xs.length - j)) zs).heap) (Sub.refl _) (fun b' hb'=>hother b' (fun e0=>hPb (e0 ▸ hb'))) (fun a b' hb'=>hother b' (fun e0=>hFFb a (e0 ▸ hb')))
   have hlen:(xs.take i++xs.drop j).length=i+(xs.length - j):=by rw[List.length_append,List.length_take,List.length_drop];omega
   have htake:cs2.toList.take (i+(xs.length - j))=cells.take (i * TRow.width)++cells.drop (j * TRow.width):=by
    have h7:cs.toList.length=cs.size:=Array.length_toList
    rw[hcs2l,hw1,Nat.mul_one,Nat.mul_one]
    have e1:cs1.toList.take (i+(xs.length - j))=cells.take i++cells.drop j:=by
     rw[hcs1l]
     simp only[repl]
     rw[List.take_append_of_le_length (by rw[List.length_append,List.length_take,hdl];omega),List.take_of_length_le (by rw[List.length_append,List.length_take,hdl];omega)]
     congr 1
     rw[hcells]
     simp only[sub,List.drop_zero,List.take_take]
     congr 1;omega
    rw[←e1]
    simp only[repl]
    have h8:cs1.toList.length=cs1.size:=Array.length_toList
    rw[List.append_assoc,List.take_append_of_le_length (by rw[List.length_take];omega),List.take_take,Nat.min_self]
   have rep2:=el2.row hob2 (cap:=cap) (by rw[hw1,Nat.mul_one];omega) (by rw[hlen];omega) (fun t ht=>qpy htake (by rw[hw1,Nat.mul_one];rw[hlen] at ht;omega)) hFFb 0
   rw[hlen] at rep2
   have hrest1:=qce (b:=b) (cells.drop j) i w.drew
   have hrest2:=qce (b:=b) zs (i+(xs.length - j)) (w.drew.setCells b i (cells.drop j))
   have hsize:((w.drew.setCells b i (cells.drop j)).setCells b (i+(xs.length - j)) zs).heap.size=w.heap.size:=by rw[qba,qba];rfl
   have hGF:∀ z,(z=b∨∃ t,FF t z)→Fs 0 z:=by
    rintro z (rfl | ⟨t,ht⟩)
    ·exact hbF
    ·obtain ⟨c,hc⟩:=hFF t z ht;exact hF c z hc
   refine (qbvo b xs.length cap i j w _ _ _ hij2 hj2 hlc (by omega) hA hC).mono ?_
   rintro e w' ⟨rfl,rfl⟩
   exact ⟨_,Pr,_,_,_,rfl,qbri pre rep2 (fun z hz=>.inr ⟨0,hGF z hz⟩) (fun z hz hp=>pre.prot 0 z (hGF z hz) hp) (fun z hz=>by rw[hsize];exact pre.lim 0 z (hGF z hz)) (by rw[hsize];exact Nat.le_refl _) () ⟨_,_,rfl,_,_,rfl,_,_,rfl,rfl⟩
    ⟨hrest2.1.trans hrest1.1,hrest2.2.1.trans hrest1.2.1,hrest2.2.2.trans hrest1.2.2,by rw[hsize];exact Nat.le_refl _,fun b' _ hb'=>hother b' (fun e0=>hb' (e0 ▸ .inr ⟨0,hbF⟩))⟩⟩
 ·simp at h
end Go.V

namespace Go.V
set_option maxRecDepth 100000
open Go Go.Proofs Go.RowKit
abbrev SigI:Sig:=⟨[.own (.sl TRow) (Mk.top (.sl TRow)),.val (.int .i64),.own (.sl TRow) (Mk.top (.sl TRow))],[.val (.sl TRow) (Mk.top (.sl TRow))]⟩
theorem sigI:ctx.sig 88=SigI:=by kernel_rfl
def insD (xs:List TRow.den) (i:Int) (ys:List TRow.den):Option (List TRow.den):=if 0≤i∧i≤xs.length∧0<ys.length∧xs.length+ys.length≤qbk then some (xs.take i.toNat++ys++xs.drop i.toNat) else none
theorem qwt {w w2:World} {Pr:BS} {Fs:Nat→BS} {ks:List PK} {a:PDen ks} {vs:List Value} (pre:Pre w.heap Pr Fs ks a vs) {e:Ty} {mi:Mk} {zs:List e.den} {cells:List Value} {FF:Nat→BS} {B cap:Nat} {cs:Array Value}
  (el:El w.heap Pr e mi zs cells FF) (hFF:∀ t b,FF t b→∃ k,Fs k b) (hob:qbg w2.heap B cs) (hcap:cap * e.width≤cs.size) (hl:zs.length≤cap) (htake:cs.toList.take (zs.length * e.width)=cells)
  (hB:B=w.heap.size∨(∃ k,Fs k B)) (hFB:∀ t,¬ FF t B) (hother:∀ b',b'<w.heap.size→b'≠B→w2.heap[b']? = w.heap[b']?) (hsz:w.heap.size≤w2.heap.size) (hBl:B<w2.heap.size)
  (h1:w2.os=w.os) (h2:w2.tape=w.tape) (h3:w2.output=w.output) (o:ODen ks) (out:qex w2.heap Pr (fun _=>Nil) 0 ks o vs) :
  ∃ val Pr' Gs Os us,(Value.slice (some ⟨B,0,none⟩) zs.length cap)=val∧Pst w w2 Pr Fs ks [.val (.sl e) (.own 0 mi)] (zs,()) o vs val Pr' Gs Os us:=by
 have hFl:∀ t b,FF t b→b<w.heap.size:=fun t b hb=>by obtain ⟨k,hk⟩:=hFF t b hb;exact pre.lim k b hk
 have hPB:¬ Pr B:=fun hb=>by
  rcases hB with rfl | ⟨k,hk⟩
  ·exact Nat.lt_irrefl _ (pre.limPr _ hb)
  ·exact pre.prot k B hk hb
 have el2:=el.mono (h':=w2.heap) (Sub.refl _) (fun b' hb'=>hother b' (pre.limPr b' hb') (fun e0=>hPB (e0 ▸ hb'))) (fun t b' hb'=>hother b' (hFl t b' hb') (fun e0=>hFB t (e0 ▸ hb')))
 have rep:=el2.row hob (cap:=cap) hcap hl (fun t ht=>qpy htake (by
  have:=Nat.mul_le_mul_right e.width (show t+1≤zs.length by exact ht)
  rw[Nat.succ_mul] at this;exact this)) hFB 0
 have hG:∀ z,(z=B∨∃ t,FF t z)→May w.heap.size Fs z:=by
  rintro z (rfl | ⟨t,ht⟩)
  ·rcases hB with e0 | hk
   ·exact .inl (by omega)
   ·exact .inr hk
  ·exact .inr (hFF t z ht)
 refine ⟨_,Pr,_,_,_,rfl,qbri pre rep hG (fun z hz hp=>?_) (fun z hz=>?_) hsz o out ⟨h1,h2,h3,hsz,fun b' hb1 hb'=>hother b' hb1 (fun e0=>hb' ?_)⟩⟩
 ·rcases hz with rfl | ⟨t,ht⟩
  ·exact hPB hp
  ·obtain ⟨k,hk⟩:=hFF t z ht;exact pre.prot k z hk hp
 ·rcases hz with rfl | ⟨t,ht⟩
  ·exact hBl
  ·exact Nat.lt_of_lt_of_le (hFl t z ht) hsz
 ·subst e0
  exact hG b' (.inl rfl)
theorem El.one {h:Array Obj} {Pr:BS} {mi:Mk} {xs:List TRow.den} {cells:List Value} {F:Nat→BS} (el:El h Pr TRow mi xs cells F) (hl:cells.length=xs.length):∀ u∈cells,u.oneCell'=true:=by
 intro u hu
 obtain ⟨k,hk,rfl⟩:=List.getElem_of_mem hu
 have hk2:k<xs.length:=by omega
 have r:=el.rep k hk2
 have hw1:TRow.width=1:=rfl
 refine Rep.one _ r _ ?_
 rw[hw1,Nat.mul_one,List.mem_iff_getElem?]
 refine ⟨0,?_⟩
 rw[List.getElem?_take,if_pos (by omega),List.getElem?_drop,Nat.add_zero,List.getElem?_eq_getElem]
theorem qbwa {l D C:List Value} {i m:Nat} (hC:C.length=m) (hl:i+m+D.length≤l.length):(repl (repl l (i+m) D) i C).take (i+m+D.length)=l.take i++C++D:=by
 have hA:(l.take (i+m)).length=i+m:=by rw[List.length_take];omega
 have e1:(repl l (i+m) D).take i=l.take i:=by
  simp only[repl]
  rw[List.append_assoc,List.take_append_of_le_length (by omega),List.take_take]
  congr 1;omega
 have e2:(repl l (i+m) D).drop (i+m)=D++l.drop (i+m+D.length):=by
  simp only[repl]
  rw[List.append_assoc,List.drop_append_of_le_length (by omega),List.drop_eq_nil_of_le (by omega),List.nil_append]
 have e3:repl (repl l (i+m) D) i C=(l.take i++C++D)++l.drop (i+m+D.length):=by
  show (repl l (i+m) D).take i++C++(repl l (i+m) D).drop (i+C.length)=_
  rw[e1,hC,e2];simp only[List.append_assoc]
 rw[e3,List.take_append_of_le_length (by simp only[List.length_append,List.length_take];omega),List.take_of_length_le (by simp only[List.length_append,List.length_take];omega)]
theorem qbwk {l D C:List Value} {i m:Nat} (hC:C.length=m) (hl:i+m+D.length≤l.length):(repl (repl l i C) (i+m) D).take (i+m+D.length)=l.take i++C++D:=by
 have hA:(l.take i++C).length=i+m:=by rw[List.length_append,List.length_take];omega
 have e1:(repl l i C).take (i+m)=l.take i++C:=by
  show (l.take i++C++l.drop (i+C.length)).take (i+m)=_
  rw[List.take_append_of_le_length (by omega),List.take_of_length_le (by omega)]
 show ((repl l i C).take (i+m)++D++(repl l i C).drop (i+m+D.length)).take (i+m+D.length)=_
 rw[e1,List.take_append_of_le_length (by rw[List.length_append];omega),List.take_of_length_le (by rw[List.length_append];omega)]
theorem qbx4:qbkd Tryz.prog SigI 88 fun a=>(insD a.1 a.2.1 a.2.2.1).map fun r=>((r,()),()):=by
 intro a r h w Pr Fs vs pre
 obtain ⟨xs,i,ys,⟨⟩⟩:=a
 change List TRow.den at xs
 change Int at i
 change List TRow.den at ys
 obtain ⟨v1,vs1,rfl,⟨c1,rep1,rfl⟩,v2,vs2,rfl,⟨c2,r2,rfl⟩,v3,vs3,rfl,⟨c3,rep3,rfl⟩,k3⟩:=pre.rel
 obtain rfl:vs3=[]:=k3
 simp only[Rep] at r2
 subst r2
 dsimp only at h
 unfold insD at h
 split at h
 ·rename_i hc
  obtain ⟨h0,hi,hm,hbd⟩:=hc
  replace h0:0≤i:=h0
  replace hi:i≤xs.length:=hi
  replace hm:0<ys.length:=hm
  replace hbd:xs.length+ys.length≤274877906944:=hbd
  simp only[Option.map_some,Option.some.injEq] at h
  subst h
  obtain ⟨i,rfl⟩:=Int.eq_ofNat_of_zero_le h0
  have hi2:i≤xs.length:=by omega
  obtain ⟨ad1,cap1,cells1,F1,rfl,hl1,hlc1,hsrc1,el1,hF1,hown1⟩:=qlt (by simp[Mk.top]) (by simp[Mk.top]) rep1
  obtain ⟨ad2,cap2,cells2,F2,rfl,hl2,hlc2,hsrc2,el2,hF2,hown2⟩:=qlt (by simp[Mk.top]) (by simp[Mk.top]) rep3
  have hw1:TRow.width=1:=rfl
  replace hlc1:xs.length≤cap1:=hlc1
  replace hlc2:ys.length≤cap2:=hlc2
  have hl1':cells1.length=xs.length:=by rw[hl1,hw1,Nat.mul_one]
  have hl2':cells2.length=ys.length:=by rw[hl2,hw1,Nat.mul_one]
  rcases hown2 0 _ rfl with hc0 | ⟨b2,cs2,rfl,hbF2,hbo2,hcapb2,hFb2,hcells2⟩
  ·exact absurd hc0 (by omega)
  replace hcapb2:cap2≤cs2.size:=by rw[hw1,Nat.mul_one] at hcapb2;exact hcapb2
  replace hcells2:cells2=sub cs2 0 ys.length:=by rw[hcells2,hw1,Nat.mul_one]
  have hd12:∀ p q,Dis (F1 p) (F2 q):=fun p q=>(pre.dis 0 2 (by decide)).mono (hF1 p) (hF2 q)
  obtain ⟨FF,elz,hFF⟩:=El.insert el1 el2 i hi2 (by rw[hl1]) (by rw[hl2]) hd12
  rw[hw1,Nat.mul_one] at elz
  have hFs:∀ t b,FF t b→∃ k,Fs k b:=fun t b hb=>by
   rcases hFF t b hb with ⟨c,hc⟩ | ⟨c,hc⟩
   ·exact ⟨0,hF1 c b hc⟩
   ·exact ⟨2,hF2 c b hc⟩
  have hlz:(xs.take i++ys++xs.drop i).length=xs.length+ys.length:=by simp only[List.length_append,List.length_take,List.length_drop];omega
  have hone1:=el1.one hl1'
  have hone2:=el2.one hl2'
  have u67:Tryz.prog.underlying 29=some (.slice 32):=by kernel_rfl
  have u3:Tryz.prog.underlying 3=some (.int .i64):=by kernel_rfl
  obtain ⟨i0,hi0,hs0,hz0,hb0⟩:∃ i0,Tryz.prog.info? 32=some i0∧i0.size=1∧i0.zero=some (.slice none 0 0)∧i0.bytes=24:=by
   have k:((Tryz.prog.info? 32).map fun x=>(x.size,x.zero,x.bytes))=some (1,some (.slice none 0 0),24):=by kernel_rfl
   cases h:Tryz.prog.info? 32 with
   | none=>rw[h] at k;cases k
   | some x=>
    rw[h] at k
    simp only[Option.map_some,Option.some.injEq,Prod.mk.injEq] at k
    exact ⟨x,rfl,k.1,k.2.1,k.2.2⟩
  have hn2:(Builtin.firstCells i0.size ys.length (.slice (some ⟨b2,0,none⟩) ys.length cap2)).run Tryz.prog w=.ok cells2.toArray w:=by
   rw[hs0]
   exact qfu (by rw[hl2',Nat.mul_one]) (.inr ⟨b2,0,rfl,by rw[hcells2];exact qbt hbo2.blk (by omega)⟩)
  have ht0:cells1.take xs.length=cells1:=List.take_of_length_le (by omega)
  have hd0:cells1.drop xs.length=[]:=List.drop_eq_nil_of_le (by omega)
  have houts:∀ (h:Array Obj) (v1 v2 v3:Value),qex h Pr (fun _=>Nil) 0 SigI.params () [v1,v2,v3]:=fun h v1 v2 v3=>⟨_,_,rfl,_,_,rfl,_,_,rfl,rfl⟩
  by_cases hend:i=xs.length
  ·subst hend
   rw[ht0,hd0,List.append_nil] at elz
   by_cases hroom:xs.length+ys.length≤cap1
   ·rcases hown1 0 _ rfl with hc0 | ⟨b1,cs1,rfl,hbF1,hbo1,hcapb1,hFb1,hcells1⟩
    ·exact absurd hc0 (by omega)
    replace hcapb1:cap1≤cs1.size:=by rw[hw1,Nat.mul_one] at hcapb1;exact hcapb1
    replace hcells1:cells1=sub cs1 0 xs.length:=by rw[hcells1,hw1,Nat.mul_one]
    have hfit:xs.length+cells2.length≤cs1.size:=by omega
    have hr:∀ ty,(Builtin.append_ #[29,29] ty #[.slice (some ⟨b1,0,none⟩) xs.length cap1,.slice (some ⟨b2,0,none⟩) ys.length cap2]).run Tryz.prog w=.ok (.slice (some ⟨b1,0,none⟩) (xs.length+ys.length) cap1) (w.setCells b1 xs.length cells2):=fun ty=>
     qkp (P:=Tryz.prog) w (ty:=ty) rfl rfl u67 u67 hi0 hn2 hroom (fun ad e=>by
      simp only[Option.some.injEq] at e
      subst e
      rw[Addr.add_mid,Nat.zero_add,hs0,Nat.mul_one]
      have th:=qd3 (w:=w) (o:=xs.length) (n:=cells2.length) hbo1 hfit
      have:=run_storeCells_cells (P:=Tryz.prog) b1 xs.length cells2 0 w (fun t ht=>by simpa using (th t ht).1) (fun t ht=>by simpa using (th t ht).2) hone2
      simpa using this) (fun e=>by simp at e)
    obtain ⟨ty,lo,hi',he,hfz⟩:=hbo1
    obtain ⟨cs3,hcs3,hcs3l⟩:=qc6 cells2 xs.length w cs1 he hfit
    have hsz3:cs3.size=cs1.size:=by rw[←Array.length_toList,hcs3l,qcf (by simpa using hfit),Array.length_toList]
    have hob3:qbg (w.setCells b1 xs.length cells2).heap b1 cs3:=⟨ty,lo,hi',hcs3,fun t ht=>hfz t (by omega)⟩
    have h7:cs1.toList.length=cs1.size:=Array.length_toList
    have htake:cs3.toList.take ((xs.take xs.length++ys++xs.drop xs.length).length * TRow.width)=cells1++cells2:=by
     rw[hw1,Nat.mul_one,hlz,hcs3l,hcells1]
     simp only[repl,sub,List.drop_zero]
     rw[List.take_append_of_le_length (by rw[List.length_append,List.length_take,hl2'];omega),List.take_of_length_le (by rw[List.length_append,List.length_take,hl2'];omega)]
    have hrest:=qce (b:=b1) cells2 xs.length w
    have hFBb:∀ t,¬ FF t b1:=fun t hb=>by
     rcases hFF t b1 hb with ⟨c,hc⟩ | ⟨c,hc⟩
     ·exact hFb1 c hc
     ·exact pre.dis 0 2 (by decide) b1 hbF1 (hF2 c b1 hc)
    refine (qbrv (some ⟨b1,0,none⟩) xs.length cap1 ys.length (some ⟨b2,0,none⟩) cap2 w _ _ hm hlc1 (.inl ⟨b1,rfl⟩) hr).mono ?_
    rintro e w' ⟨rfl,rfl⟩
    obtain ⟨val,Pr',Gs,Os,us,hv,hp⟩:=qwt pre elz hFs hob3 (cap:=cap1) (by rw[hw1,Nat.mul_one];omega) (by rw[hlz];exact hroom) htake (.inr ⟨0,hbF1⟩) hFBb (fun b' _ hb'=>qbh cells2 _ w b' hb') (by rw[qba];exact Nat.le_refl _) (by rw[qba];exact pre.lim 0 b1 hbF1) hrest.1 hrest.2.1 hrest.2.2 () (houts _ _ _ _)
    exact ⟨val,Pr',Gs,Os,us,by rw[←hv,hlz],hp⟩
   ·have hg:cap1<xs.length+ys.length:=by omega
    have hn2d:(Builtin.firstCells i0.size ys.length (.slice (some ⟨b2,0,none⟩) ys.length cap2)).run Tryz.prog w.drew=.ok cells2.toArray w.drew:=by
     rw[hs0]
     exact qfu (by rw[hl2',Nat.mul_one]) (.inr ⟨b2,0,rfl,qc3 (by rw[hcells2];exact qbt hbo2.blk (by omega))⟩)
    have hn1d:(Builtin.firstCells i0.size xs.length (.slice ad1 xs.length cap1)).run Tryz.prog w.drew=.ok cells1.toArray w.drew:=by
     rw[hs0]
     refine qfu (by rw[hl1',Nat.mul_one]) ?_
     rcases hsrc1 with ⟨h1,h2⟩ | ⟨b,o,cs,h1,h2,h3,h4⟩
     ·exact .inl ⟨h1,h2⟩
     ·exact .inr ⟨b,o,h1,qc3 (h4 ▸ qbt h2 h3)⟩
    have hfit:Builtin.nextslicecap (xs.length+ys.length) cap1 * i0.bytes≤281474976710656:=by
     have:=Room.nextslicecap_le' (need:=xs.length+ys.length) (old:=cap1) hg
     rw[hb0];omega
    have hr:=fun ty=>qys (P:=Tryz.prog) w (ats:=#[29,29]) (ty:=ty) rfl rfl u67 u67 hi0 hz0 hn2d hn1d hg (by omega) hfit
    have hge:=grownCap_ge w (xs.length+ys.length) cap1 32
    generalize grownCap w (xs.length+ys.length) cap1 32=cap' at hr hge
    have hzs:(Value.slice none 0 0).cells.size=1:=rfl
    have hcss:(cells1.toArray++cells2.toArray++Builtin.zeroCells (Value.slice none 0 0).cells (cap' - (xs.length+ys.length))).size=cap':=by
     simp only[Array.size_append,List.size_toArray,size_zeroCells,hzs,hl1',hl2'];omega
    have htk:(cells1.toArray++cells2.toArray++Builtin.zeroCells (Value.slice none 0 0).cells (cap' - (xs.length+ys.length))).toList.take (xs.length+ys.length)=cells1++cells2:=by
     simp only[Array.toList_append,List.append_assoc]
     rw[←List.append_assoc,List.take_append_of_le_length (by rw[List.length_append];omega),List.take_of_length_le (by rw[List.length_append];omega)]
    generalize cells1.toArray++cells2.toArray++Builtin.zeroCells (Value.slice none 0 0).cells (cap' - (xs.length+ys.length))=cs at hr hcss htk
    have h1a:(∃ b,ad1=some ⟨b,0,none⟩)∨(xs.length=0∧cap1=0):=by
     rcases hown1 0 _ rfl with hc0 | ⟨b1,cs1,rfl,_⟩
     ·exact .inr ⟨by omega,hc0⟩
     ·exact .inl ⟨b1,rfl⟩
    refine (qbrv ad1 xs.length cap1 ys.length (some ⟨b2,0,none⟩) cap2 w _ _ hm hlc1 h1a hr).mono ?_
    rintro e w' ⟨rfl,rfl⟩
    obtain ⟨val,Pr',Gs,Os,us,hv,hp⟩:=qwt (w2:=w.drew.alloc (.cells cs 32)) pre elz hFs (B:=w.heap.size) (cs:=cs) qbg.new (cap:=cap') (by rw[hw1,Nat.mul_one,hcss];exact Nat.le_refl _) (by rw[hlz];exact hge) (by rw[hw1,Nat.mul_one,hlz];exact htk) (.inl rfl)
     (fun t hb=>by obtain ⟨k,hk⟩:=hFs t _ hb;exact Nat.lt_irrefl _ (pre.lim k _ hk)) (fun b' hb1 _=>qgp b' hb1) (by show w.heap.size≤(w.heap.push _).size;simp) (by show w.heap.size<(w.heap.push _).size;simp) rfl rfl rfl () (houts _ _ _ _)
    exact ⟨val,Pr',Gs,Os,us,by rw[←hv,hlz],hp⟩
  ·have hlt:i<xs.length:=by omega
   rcases hown1 0 _ rfl with hc0 | ⟨b1,cs1,rfl,hbF1,hbo1,hcapb1,hFb1,hcells1⟩
   ·exact absurd hc0 (by omega)
   replace hcapb1:cap1≤cs1.size:=by rw[hw1,Nat.mul_one] at hcapb1;exact hcapb1
   replace hcells1:cells1=sub cs1 0 xs.length:=by rw[hcells1,hw1,Nat.mul_one]
   have hb12:b2≠b1:=fun e=>pre.dis 0 2 (by decide) b1 hbF1 (e ▸ hbF2)
   have hcd:cells1.drop i=sub cs1 i (xs.length - i):=by
    rw[hcells1]
    simp only[sub,List.drop_zero,List.drop_take]
   have hct:cells1.take i=cs1.toList.take i:=by
    rw[hcells1]
    simp only[sub,List.drop_zero,List.take_take]
    congr 1;omega
   have hdl:(cells1.drop i).length=xs.length - i:=by rw[List.length_drop,hl1']
   have honed:∀ u∈cells1.drop i,u.oneCell'=true:=fun u hu=>hone1 u (List.mem_of_mem_drop hu)
   have hFBb:∀ t,¬ FF t b1:=fun t hb=>by
    rcases hFF t b1 hb with ⟨c,hc⟩ | ⟨c,hc⟩
    ·exact hFb1 c hc
    ·exact pre.dis 0 2 (by decide) b1 hbF1 (hF2 c b1 hc)
   have hsz38:(Tryz.prog.info? 32).map (·.size)=some 1:=by rw[hi0];simp[hs0]
   have hel:cells1.take i++cells2++cells1.drop i=(cells1.take i++cells2++cells1.drop i):=rfl
   by_cases hroom:xs.length+ys.length≤cap1
   ·have hov:∀ lb cb,(callFunc 154 #[.slice (some ⟨b2,0,none⟩) ys.length cap2,.slice (some ⟨b1,i+ys.length,none⟩) lb cb]).run Tryz.prog w=.ok (.value (.bool false)) w:=by
     intro lb cb
     obtain ⟨e2,lo2,hi2,he2,hf2⟩:=hbo2
     obtain ⟨e1,lo1,hi1,he1,hf1⟩:=hbo1
     have hnf:∀ k,k≤cs2.size→w.frozen? ⟨b2,k,none⟩=false:=fun k hk=>by
      have:=hf2 k hk
      simp only[World.frozen?,he2]
      simpa using this
     rw[run_callFunc_extern (P:=Tryz.prog) (f:=154) (fn:=Tryz.f154) Tryz.func154 (by kernel_rfl) (by kernel_rfl) (by kernel_rfl) (e:=Extern.SlicesOverlaps.overlaps #[29,29] #[4]) (by kernel_rfl),
      Lib.run_overlaps_apart w 29 4 32 u67 1 (fun w=>by simp[sizeOf,typeInfo,hi0,hs0]) ⟨b2,0,none⟩ ⟨b1,i+ys.length,none⟩ ys.length cap2 lb cb hb12 e2 e1 cs2.size cs1.size (by simp[World.shape?,he2]) (by simp[World.shape?,he1]) (by omega) (hnf 0 (by omega)) (hnf _ (Nat.le_refl _))]
     rfl
    have hfitA:i+ys.length+(cells1.drop i).length≤cs1.size:=by rw[hdl];omega
    have thA:=qd3 (w:=w) (o:=i+ys.length) (n:=(cells1.drop i).length) hbo1 hfitA
    have hB:∀ ty dc sc,(Builtin.copy_ #[29,29] ty #[.slice (some ⟨b1,i+ys.length,none⟩) (xs.length+ys.length - (i+ys.length)) dc,.slice (some ⟨b1,i,none⟩) (xs.length+ys.length - i) sc]).run Tryz.prog w.drew=.ok (goInt (cells1.drop i).length) (w.drew.setCells b1 (i+ys.length) (cells1.drop i)):=fun ty dc sc=>
     run_copy_cells w.drew 29 29 ty 32 b1 (i+ys.length) _ dc ⟨b1,i,none⟩ _ sc (cells1.drop i) u67 hsz38 (by rw[hdl];simp only[Nat.min_def];split<;>omega)
      (fun k v hk=>by rw[Addr.add_mid];exact qc3 (w:=w) (b:=b1) (o:=i) (cs:=cells1.drop i) (by rw[hcd];exact qbt hbo1.blk (by omega)) k v hk) (fun k hk=>(thA k hk).1) (fun k hk=>(thA k hk).2) honed
    have hbo1':=hbo1
    obtain ⟨ty,lo,hi',he,hfz⟩:=hbo1
    obtain ⟨cs3,hcs3,hcs3l⟩:=qc6 (cells1.drop i) (i+ys.length) w.drew cs1 he hfitA
    have hsz3:cs3.size=cs1.size:=by rw[←Array.length_toList,hcs3l,qcf (by simpa using hfitA),Array.length_toList]
    have hob3:qbg (w.drew.setCells b1 (i+ys.length) (cells1.drop i)).heap b1 cs3:=⟨ty,lo,hi',hcs3,fun t ht=>hfz t (by omega)⟩
    have hfitB:i+cells2.length≤cs3.size:=by omega
    have thB:=qd3 (w:=w.drew.setCells b1 (i+ys.length) (cells1.drop i)) (o:=i) (n:=cells2.length) hob3 hfitB
    have hr2:(w.drew.setCells b1 (i+ys.length) (cells1.drop i)).rangeAt b2 0 cells2:=by
     rw[hcells2]
     exact qbt (Blk.congr hbo2.blk (qbh (cells1.drop i) _ w.drew b2 hb12)) (by omega)
    have hC:∀ ty dc,(Builtin.copy_ #[29,29] ty #[.slice (some ⟨b1,i,none⟩) (xs.length+ys.length - i) dc,.slice (some ⟨b2,0,none⟩) ys.length cap2]).run Tryz.prog (w.drew.setCells b1 (i+ys.length) (cells1.drop i))=.ok (goInt cells2.length) ((w.drew.setCells b1 (i+ys.length) (cells1.drop i)).setCells b1 i cells2):=fun ty dc=>
     run_copy_cells _ 29 29 ty 32 b1 i _ dc ⟨b2,0,none⟩ _ cap2 cells2 u67 hsz38 (by rw[hl2'];simp only[Nat.min_def];split<;>omega)
      (fun k v hk=>by rw[Addr.add_mid];exact hr2 k v hk) (fun k hk=>(thB k hk).1) (fun k hk=>(thB k hk).2) hone2
    obtain ⟨cs4,hcs4,hcs4l⟩:=qc6 cells2 i _ cs3 hcs3 hfitB
    have hsz4:cs4.size=cs3.size:=by rw[←Array.length_toList,hcs4l,qcf (by simpa using hfitB),Array.length_toList]
    have hob4:qbg ((w.drew.setCells b1 (i+ys.length) (cells1.drop i)).setCells b1 i cells2).heap b1 cs4:=⟨ty,lo,hi',hcs4,fun t ht=>hfz t (by omega)⟩
    have h7:cs1.toList.length=cs1.size:=Array.length_toList
    have htake:cs4.toList.take ((xs.take i++ys++xs.drop i).length * TRow.width)=cells1.take i++cells2++cells1.drop i:=by
     have e:=qbwa (l:=cs1.toList) (D:=cells1.drop i) (C:=cells2) (i:=i) (m:=ys.length) hl2' (by rw[h7];exact hfitA)
     rw[hw1,Nat.mul_one,hlz,hcs4l,hcs3l,hct]
     rw[show xs.length+ys.length=i+ys.length+(cells1.drop i).length by rw[hdl];omega]
     exact e
    have hrest1:=qce (b:=b1) (cells1.drop i) (i+ys.length) w.drew
    have hrest2:=qce (b:=b1) cells2 i (w.drew.setCells b1 (i+ys.length) (cells1.drop i))
    have hsize:((w.drew.setCells b1 (i+ys.length) (cells1.drop i)).setCells b1 i cells2).heap.size=w.heap.size:=by rw[qba,qba];rfl
    refine (qbua b1 xs.length cap1 i ys.length ⟨b2,0,none⟩ cap2 w _ _ _ _ hlt hm hroom (by omega) hov hB hC).mono ?_
    rintro e w' ⟨rfl,rfl⟩
    obtain ⟨val,Pr',Gs,Os,us,hv,hp⟩:=qwt pre elz hFs hob4 (cap:=cap1) (by rw[hw1,Nat.mul_one];omega) (by rw[hlz];exact hroom) htake (.inr ⟨0,hbF1⟩) hFBb
     (fun b' _ hb'=>(qbh cells2 _ _ b' hb').trans (qbh (cells1.drop i) _ w.drew b' hb')) (by rw[hsize];exact Nat.le_refl _) (by rw[hsize];exact pre.lim 0 b1 hbF1) (hrest2.1.trans hrest1.1) (hrest2.2.1.trans hrest1.2.1) (hrest2.2.2.trans hrest1.2.2) () (houts _ _ _ _)
    exact ⟨val,Pr',Gs,Os,us,by rw[←hv,hlz],hp⟩
   ·have hg:cap1<xs.length+ys.length:=by omega
    obtain ⟨K,hK⟩:∃ K,K=xs.length+ys.length - i:=⟨_,rfl⟩
    have hKi:i+K=xs.length+ys.length:=by omega
    have hn1d:(Builtin.firstCells i0.size i (.slice (some ⟨b1,0,none⟩) i cap1)).run Tryz.prog w.drew=.ok (cells1.take i).toArray w.drew:=by
     rw[hs0]
     refine qfu (by rw[List.length_take,hl1',Nat.mul_one];omega) (.inr ⟨b1,0,rfl,qc3 ?_⟩)
     have e:cells1.take i=sub cs1 0 i:=by rw[hct];simp only[sub,List.drop_zero]
     rw[e];exact qbt hbo1.blk (by omega)
    have hfit:Builtin.nextslicecap (i+K) cap1 * i0.bytes≤281474976710656:=by
     have:=Room.nextslicecap_le' (need:=i+K) (old:=cap1) (by omega)
     rw[hb0];omega
    have hr:=fun ty=>Lib.run_append_grow_zeros (P:=Tryz.prog) w 29 3 ty 32 i0 _ .i64 .i64 u67 u3 hi0 hz0 (some ⟨b1,0,none⟩) i cap1 (cells1.take i) hn1d K (by omega) (by omega) (by omega) (by omega) (by rw[hb0];omega) hfit
    have hge:=grownCap_ge w (i+K) cap1 32
    generalize grownCap w (i+K) cap1 32=cap' at hr hge
    have hzs:(Value.slice none 0 0).cells.size=1:=rfl
    have hcss:((cells1.take i).toArray++Builtin.zeroCells (Value.slice none 0 0).cells K++Builtin.zeroCells (Value.slice none 0 0).cells (cap' - (i+K))).size=cap':=by
     simp only[Array.size_append,List.size_toArray,size_zeroCells,hzs,List.length_take,hl1'];omega
    have htk:((cells1.take i).toArray++Builtin.zeroCells (Value.slice none 0 0).cells K++Builtin.zeroCells (Value.slice none 0 0).cells (cap' - (i+K))).toList.take i=cells1.take i:=by
     simp only[Array.toList_append,List.append_assoc]
     rw[List.take_append_of_le_length (by rw[List.length_take,hl1'];omega),List.take_of_length_le (by rw[List.length_take,hl1'];omega)]
    generalize (cells1.take i).toArray++Builtin.zeroCells (Value.slice none 0 0).cells K++Builtin.zeroCells (Value.slice none 0 0).cells (cap' - (i+K))=cs0 at hr hcss htk
    rw[hKi] at hr hge
    have hKI:((K:Nat):Int)=(xs.length:Int)+(ys.length:Int) - (i:Int):=by omega
    rw[hKI] at hr
    have hob0:qbg (w.drew.alloc (.cells cs0 32)).heap w.heap.size cs0:=qbg.new
    have hb1lt:=pre.lim 0 b1 hbF1
    have hb2lt:=pre.lim 2 b2 hbF2
    have hb1B:b1≠w.heap.size:=by omega
    have hb2B:b2≠w.heap.size:=by omega
    have hold:∀ b',b'<w.heap.size→(w.drew.alloc (.cells cs0 32)).heap[b']? = w.heap[b']?:=fun b' hb'=>qgp b' hb'
    have hfitA:i+cells2.length≤cs0.size:=by omega
    have thA:=qd3 (w:=w.drew.alloc (.cells cs0 32)) (o:=i) (n:=cells2.length) hob0 hfitA
    have hr2:(w.drew.alloc (.cells cs0 32)).rangeAt b2 0 cells2:=by
     rw[hcells2]
     exact qbt (Blk.congr hbo2.blk (hold b2 hb2lt)) (by omega)
    have hB:∀ ty,(Builtin.copy_ #[29,29] ty #[.slice (some ⟨w.heap.size,i,none⟩) (xs.length+ys.length - i) (cap' - i),.slice (some ⟨b2,0,none⟩) ys.length cap2]).run Tryz.prog (w.drew.alloc (.cells cs0 32))=.ok (goInt cells2.length) ((w.drew.alloc (.cells cs0 32)).setCells w.heap.size i cells2):=fun ty=>
     run_copy_cells _ 29 29 ty 32 w.heap.size i _ _ ⟨b2,0,none⟩ _ cap2 cells2 u67 hsz38 (by rw[hl2'];simp only[Nat.min_def];split<;>omega)
      (fun k v hk=>by rw[Addr.add_mid];exact hr2 k v hk) (fun k hk=>(thA k hk).1) (fun k hk=>(thA k hk).2) hone2
    obtain ⟨ty,lo,hi',he,hfz⟩:=hob0
    obtain ⟨cs3,hcs3,hcs3l⟩:=qc6 cells2 i (w.drew.alloc (.cells cs0 32)) cs0 he hfitA
    have h7:cs0.toList.length=cs0.size:=Array.length_toList
    have hsz3:cs3.size=cs0.size:=by rw[←Array.length_toList,hcs3l,qcf (by simpa using hfitA),Array.length_toList]
    have hob3:qbg ((w.drew.alloc (.cells cs0 32)).setCells w.heap.size i cells2).drew.heap w.heap.size cs3:=⟨ty,lo,hi',hcs3,fun t ht=>hfz t (by omega)⟩
    have hfitB:i+ys.length+(cells1.drop i).length≤cs3.size:=by rw[hdl];omega
    have thB:=qd3 (w:=((w.drew.alloc (.cells cs0 32)).setCells w.heap.size i cells2).drew) (o:=i+ys.length) (n:=(cells1.drop i).length) hob3 hfitB
    have hr1:((w.drew.alloc (.cells cs0 32)).setCells w.heap.size i cells2).drew.rangeAt b1 i (cells1.drop i):=by
     rw[hcd]
     exact qc3 (qbt (Blk.congr hbo1.blk ((qbh cells2 _ _ b1 hb1B).trans (hold b1 hb1lt))) (by omega))
    have hC:∀ ty,(Builtin.copy_ #[29,29] ty #[.slice (some ⟨w.heap.size,i+ys.length,none⟩) (xs.length+ys.length - (i+ys.length)) (cap' - (i+ys.length)),.slice (some ⟨b1,i,none⟩) (xs.length - i) (cap1 - i)]).run Tryz.prog ((w.drew.alloc (.cells cs0 32)).setCells w.heap.size i cells2).drew=.ok (goInt (cells1.drop i).length) (((w.drew.alloc (.cells cs0 32)).setCells w.heap.size i cells2).drew.setCells w.heap.size (i+ys.length) (cells1.drop i)):=fun ty=>
     run_copy_cells _ 29 29 ty 32 w.heap.size (i+ys.length) _ _ ⟨b1,i,none⟩ _ _ (cells1.drop i) u67 hsz38 (by rw[hdl];simp only[Nat.min_def];split<;>omega)
      (fun k v hk=>by rw[Addr.add_mid];exact hr1 k v hk) (fun k hk=>(thB k hk).1) (fun k hk=>(thB k hk).2) honed
    obtain ⟨cs4,hcs4,hcs4l⟩:=qc6 (cells1.drop i) (i+ys.length) ((w.drew.alloc (.cells cs0 32)).setCells w.heap.size i cells2).drew cs3 hcs3 hfitB
    have hsz4:cs4.size=cs3.size:=by rw[←Array.length_toList,hcs4l,qcf (by simpa using hfitB),Array.length_toList]
    have hob4:qbg (((w.drew.alloc (.cells cs0 32)).setCells w.heap.size i cells2).drew.setCells w.heap.size (i+ys.length) (cells1.drop i)).heap w.heap.size cs4:=⟨ty,lo,hi',hcs4,fun t ht=>hfz t (by omega)⟩
    have htake:cs4.toList.take ((xs.take i++ys++xs.drop i).length * TRow.width)=cells1.take i++cells2++cells1.drop i:=by
     have e:=qbwk (l:=cs0.toList) (D:=cells1.drop i) (C:=cells2) (i:=i) (m:=ys.length) hl2' (by rw[h7];omega)
     rw[hw1,Nat.mul_one,hlz,hcs4l,hcs3l,←htk]
     rw[show xs.length+ys.length=i+ys.length+(cells1.drop i).length by rw[hdl];omega]
     exact e
    have hrest1:=qce (b:=w.heap.size) cells2 i (w.drew.alloc (.cells cs0 32))
    have hrest2:=qce (b:=w.heap.size) (cells1.drop i) (i+ys.length) ((w.drew.alloc (.cells cs0 32)).setCells w.heap.size i cells2).drew
    have hsize:(((w.drew.alloc (.cells cs0 32)).setCells w.heap.size i cells2).drew.setCells w.heap.size (i+ys.length) (cells1.drop i)).heap.size=w.heap.size+1:=by
     rw[qba]
     show ((w.drew.alloc (.cells cs0 32)).setCells w.heap.size i cells2).heap.size=_
     rw[qba];show (w.heap.push _).size=_;simp
    refine (qbvc b1 xs.length cap1 i ys.length ⟨b2,0,none⟩ cap2 w.heap.size cap' w _ _ _ _ _ hlt hm hlc1 hg hge (by omega) hr hB hC).mono ?_
    rintro e w' ⟨rfl,rfl⟩
    obtain ⟨val,Pr',Gs,Os,us,hv,hp⟩:=qwt pre elz hFs hob4 (cap:=cap') (by rw[hw1,Nat.mul_one];omega) (by rw[hlz];exact hge) htake (.inl rfl)
     (fun t hb=>by obtain ⟨k,hk⟩:=hFs t _ hb;exact Nat.lt_irrefl _ (pre.lim k _ hk))
     (fun b' hb1 hb'=>(qbh (cells1.drop i) _ _ b' hb').trans ((qbh cells2 _ _ b' hb').trans (hold b' hb1))) (by rw[hsize];omega) (by rw[hsize];omega) (hrest2.1.trans hrest1.1) (hrest2.2.1.trans hrest1.2.1) (hrest2.2.2.trans hrest1.2.2) () (houts _ _ _ _)
    exact ⟨val,Pr',Gs,Os,us,by rw[←hv,hlz],hp⟩
 ·simp at h
end Go.V

namespace Go.V
set_option maxRecDepth 100000
set_option maxHeartbeats 4000000
open Go Go.Proofs Go.RowKit Go.Lib
theorem nt2:Tryz.f93.ntmps=95:=by kernel_rfl
theorem qbof (a1:Option Addr) (n c m:Nat) (a2:Option Addr) (c2:Nat) (w w3:World) (v3:Value) (hm:0<m) (hc:n≤c) (h1:(∃ b,a1=some ⟨b,0,none⟩)∨(n=0∧c=0))
  (hr:∀ ty,(Builtin.append_ #[35,35] ty #[.slice a1 n c,.slice a2 m c2]).run Tryz.prog w=.ok v3 w3) :
  Calls Tryz.prog 93 #[.slice a1 n c,.int .i64 n,.slice a2 m c2] w fun e w'=>e=.returned v3∧w'=w3:=by
 have mx:=mixed
 have uT:Tryz.prog.underlying 35=some (.slice 42):=by kernel_rfl
 have u3:Tryz.prog.underlying 3=some (.int .i64):=by kernel_rfl
 have vT:=run_underlying uT
 have v3:=run_underlying u3
 have sE:(Tryz.prog.info? 42).map (·.size)=some 2:=by kernel_rfl
 obtain ⟨i0,hi0⟩:∃ i0,Tryz.prog.info? 42=some i0:=by cases h:Tryz.prog.info? 42 with | none=>rw[h] at sE;cases sE | some x=>exact ⟨x,rfl⟩
 have hs0:i0.size=2:=by rw[hi0] at sE;simpa using sE
 have hz1:¬ ((m:Int)=0):=by omega
 rcases h1 with ⟨b,rfl⟩ | ⟨rfl,rfl⟩
 ·go_enter Tryz.func93,nt2
  go_wp2_with (at_builtin;refine Lib.wpList_append_run _ rfl _ _ _ _ rfl _ _ rfl rfl _ _ (hr _) ?_)
  all_goals (try (go_ret;exact ⟨rfl,rfl⟩))
 ·cases a1 with
  | none=>
   go_enter Tryz.func93,nt2
   go_wp2_with (at_builtin;refine Lib.wpList_append_run _ rfl _ _ _ _ rfl _ _ rfl rfl _ _ (hr _) ?_)
   all_goals (try (go_ret;exact ⟨rfl,rfl⟩))
  | some a0=>
   go_enter Tryz.func93,nt2
   go_wp2_with (at_builtin;refine Lib.wpList_append_run _ rfl _ _ _ _ rfl _ _ rfl rfl _ _ (hr _) ?_)
   all_goals (try (go_ret;exact ⟨rfl,rfl⟩))
theorem qbt5 (b n c i m:Nat) (a2:Addr) (c2 B G:Nat) (w w1 w2 w3:World) (r2 r3:Value) (hi:i<n) (hm:0<m) (hnc:n≤c) (hroom:c<n+m) (hG:n+m≤G) (hs63:n+m≤9223372036854775807)
  (hA:∀ ty,(Builtin.append_ #[35,3] ty #[.slice (some ⟨b,0,none⟩) i c,.int .i64 ((n:Int)+(m:Int) - (i:Int))]).run Tryz.prog w=.ok (.slice (some ⟨B,0,none⟩) (n+m) G) w1)
  (hB:∀ ty,(Builtin.copy_ #[35,35] ty #[.slice (some ⟨B,i * 2,none⟩) (n+m - i) (G - i),.slice (some a2) m c2]).run Tryz.prog w1=.ok r2 w2)
  (hC:∀ ty,(Builtin.copy_ #[35,35] ty #[.slice (some ⟨B,(i+m) * 2,none⟩) (n+m - (i+m)) (G - (i+m)),.slice (some ⟨b,i * 2,none⟩) (n - i) (c - i)]).run Tryz.prog w2.drew=.ok r3 w3) :
  Calls Tryz.prog 93 #[.slice (some ⟨b,0,none⟩) n c,.int .i64 i,.slice (some a2) m c2] w fun e w'=>e=.returned (.slice (some ⟨B,0,none⟩) (n+m) G)∧w'=w3:=by
 have mx:=mixed
 have uT:Tryz.prog.underlying 35=some (.slice 42):=by kernel_rfl
 have u3:Tryz.prog.underlying 3=some (.int .i64):=by kernel_rfl
 have vT:=run_underlying uT
 have v3:=run_underlying u3
 have sE:(Tryz.prog.info? 42).map (·.size)=some 2:=by kernel_rfl
 obtain ⟨i0,hi0⟩:∃ i0,Tryz.prog.info? 42=some i0:=by cases h:Tryz.prog.info? 42 with | none=>rw[h] at sE;cases sE | some x=>exact ⟨x,rfl⟩
 have hs0:i0.size=2:=by rw[hi0] at sE;simpa using sE
 have hz1:¬ ((m:Int)=0):=by omega
 have hz2:¬ ((i:Int)=(n:Int)):=by omega
 have hz3:(c:Int)<(n:Int)+(m:Int):=by omega
 have hw1:IntKind.i64.wrap ((i:Int)+(m:Int))=(i:Int)+(m:Int):=by rw[IntKind.wrap_i64];omega
 have hb1:(0:Int)≤(i:Int)+(m:Int):=by omega
 have hin:i≤n:=by omega
 have htn:((i:Int)+(m:Int)).toNat=i+m:=by omega
 have hb3:(i:Int)≤(n:Int):=by omega
 have hGi:¬ (G=i):=by omega
 have hGim:¬ (G=i+m):=by omega
 have hci:¬ (c=i):=by omega
 go_enter Tryz.func93,nt2
 go_wp2_with (first
  | (at_builtin;refine Lib.wpList_append_run _ rfl _ _ _ _ rfl _ _ rfl rfl _ _ (hA _) ?_)
  | (at_builtin;refine wpList_copy_runI _ rfl _ _ 35 35 rfl _ _ rfl rfl (hB _) ?_))
 go_region_law_o (refine step_copy_runI rfl _ _ 35 35 rfl (.slice (some ⟨B,(i+m) * 2,none⟩) (n+m - (i+m)) (G - (i+m))) (.slice (some ⟨b,i * 2,none⟩) (n - i) (c - i)) (by simp[Act.eval,Act.put]) (by simp[Act.eval,Act.put]) (hC _) ?_)
 go_wp2
 go_ret
 exact ⟨rfl,rfl⟩
theorem qbsj (b n c i m:Nat) (a2:Addr) (c2:Nat) (w w1 w2:World) (r1 r2:Value) (hi:i<n) (hm:0<m) (hroom:n+m≤c) (hs63:n+m≤9223372036854775807)
  (hov:∀ lb cb,(callFunc 156 #[.slice (some a2) m c2,.slice (some ⟨b,(i+m) * 2,none⟩) lb cb]).run Tryz.prog w=.ok (.value (.bool false)) w)
  (hB:∀ ty dc sc,(Builtin.copy_ #[35,35] ty #[.slice (some ⟨b,(i+m) * 2,none⟩) (n+m - (i+m)) dc,.slice (some ⟨b,i * 2,none⟩) (n+m - i) sc]).run Tryz.prog w.drew=.ok r1 w1)
  (hC:∀ ty dc,(Builtin.copy_ #[35,35] ty #[.slice (some ⟨b,i * 2,none⟩) (n+m - i) dc,.slice (some a2) m c2]).run Tryz.prog w1=.ok r2 w2) :
  Calls Tryz.prog 93 #[.slice (some ⟨b,0,none⟩) n c,.int .i64 i,.slice (some a2) m c2] w fun e w'=>e=.returned (.slice (some ⟨b,0,none⟩) (n+m) c)∧w'=w2:=by
 have mx:=mixed
 have uT:Tryz.prog.underlying 35=some (.slice 42):=by kernel_rfl
 have u3:Tryz.prog.underlying 3=some (.int .i64):=by kernel_rfl
 have vT:=run_underlying uT
 have v3:=run_underlying u3
 have sE:(Tryz.prog.info? 42).map (·.size)=some 2:=by kernel_rfl
 obtain ⟨i0,hi0⟩:∃ i0,Tryz.prog.info? 42=some i0:=by cases h:Tryz.prog.info? 42 with | none=>rw[h] at sE;cases sE | some x=>exact ⟨x,rfl⟩
 have hs0:i0.size=2:=by rw[hi0] at sE;simpa using sE
 have hz1:¬ ((m:Int)=0):=by omega
 have hz2:¬ ((i:Int)=(n:Int)):=by omega
 have hw1:IntKind.i64.wrap ((i:Int)+(m:Int))=(i:Int)+(m:Int):=by rw[IntKind.wrap_i64];omega
 have hb1:(0:Int)≤(i:Int)+(m:Int):=by omega
 have hin:i≤n:=by omega
 have htn:((i:Int)+(m:Int)).toNat=i+m:=by omega
 have hb2:¬ (c=i+m):=by omega
 have hb3:(i:Int)≤(n:Int)+(m:Int):=by omega
 have hb4:¬ (c=i):=by omega
 go_enter Tryz.func93,nt2
 go_wp2_with (simp only[hov])
 go_region_law_o (refine step_copy_runI rfl _ _ 35 35 rfl _ _ (by simp[Act.eval,Act.put]) (by simp[Act.eval,Act.put]) (hB _ _ _) ?_)
 go_wp2_with (at_builtin;refine wpList_copy_runI _ rfl _ _ 35 35 rfl _ _ rfl rfl (hC _ _) ?_)
 go_ret
 exact ⟨rfl,rfl⟩
end Go.V


import Derived.WalkKit
import Derived.Lib.Walk
import Derived.Lib.SliceRun
import Derived.Lib.JoinLaws
import Derived.Lib.AppendZeros
import Derived.Lib.Overlaps
import Derived.Laws.Externs
import Derived.Laws.IdiomCopy
import Derived.Lib.AppendZerosOnto
import Derived.Shelf.Spec.SlicesInsert
import Derived.Test.YtfafjngknkbngaaGreatAPFnExactWaysOf1
set_option linter.unusedVariables false
set_option linter.unusedSimpArgs false
set_option linter.unusedSectionVars false
namespace Go.G
open Go Go.V
theorem br_t {R:Type} {a b:Option R}:br true a b=a:=rfl
theorem br_f {R:Type} {a b:Option R}:br false a b=b:=rfl
theorem qm {R:Type} {a b:Option R} {p:Prop} [Decidable p] (h:p):br (decide p) a b=a:=by simp[br,h]
theorem qo {R:Type} {a b:Option R} {p:Prop} [Decidable p] (h:¬ p):br (decide p) a b=b:=by simp[br,h]
theorem qf {α R:Type} {a:α} {f:α→Option R}:qi (some a) f=f a:=rfl
theorem qbv6 {R:Type} {c:Bool} {a b:Option R}:br c a b=if c=true then a else b:=by cases c<;>rfl
theorem qbvw (x:Int):IntKind.wrap IntKind.i64 x=if x % 18446744073709551616≥9223372036854775808 then x % 18446744073709551616 - 18446744073709551616 else x % 18446744073709551616:=by
 by_cases h:x % 18446744073709551616≥9223372036854775808<;>simp[IntKind.wrap,IntKind.signed,IntKind.bits,h]
theorem qce {x:Int} (h1 : -9223372036854775808≤x) (h2:x≤9223372036854775807):IntKind.wrap IntKind.i64 x=x:=by
 rw[qbvw]
 split<;>omega
def W:Nat:=9223372036854775808
theorem qbn:W=9223372036854775808:=rfl
theorem qj:maxLen=9223372036854775807:=rfl
theorem qdh:qbc=274877906944:=rfl
theorem ix {α:Type} {l:List α} {i:Nat} (h:i<l.length):(decide (0≤(i:Int))&&decide ((i:Int)<(l.length:Int)))=true:=by
 simp only[Bool.and_eq_true,decide_eq_true_eq];omega
theorem ixn {α:Type} {l:List α} {i:Int} (h0:0≤i) (h:i<l.length):(decide (0≤i)&&decide (i<(l.length:Int)))=true:=by
 simp only[Bool.and_eq_true,decide_eq_true_eq];omega
theorem qp {i:Nat} (h:i<9223372036854775807):IntKind.wrap IntKind.i64 ((i:Int)+1)=((i+1:Nat):Int):=by
 rw[qce]<;>omega
theorem qy {α:Type} {l:List α} {i:Nat} {d:α} (h:i<l.length):l.getD i d=l[i]:=by
 simp[List.getD,h]
theorem q7 {α:Type} {l:List α} {i:Nat} (h:i<l.length):l.drop i=l[i]::l.drop (i+1):=List.drop_eq_getElem_cons h
theorem q9 {α:Type} {l:List α} {i:Nat} (h:¬ i<l.length):l.drop i=[]:=List.drop_eq_nil_of_le (by omega)
def tot:(t:Ty)→t.den→Nat
 | .unit,_=>0
 | .int _,_=>0
 | .bool,_=>0
 | .str,s=>s.size
 | .sl t,xs=>xs.length+(xs.map (tot t)).sum
 | .pair a b,x=>tot a x.1+tot b x.2
def left (t:Ty) (a:t.den) (k:Int):Int:=if (tot t a:Int)≤k then k - tot t a else -1
theorem qhc {α:Type} {f:α→Nat} {l:List α} {i:Nat} (h:i<l.length):((l.drop i).map f).sum=f l[i]+((l.drop (i+1)).map f).sum:=by
 rw[q7 h,List.map_cons,List.sum_cons]
theorem q5y {t:Ty}:∀ {xs:List t.den} {x:t.den},x∈xs→tot t x+xs.length≤tot (.sl t) xs
 | y::xs,x,h=>by
  simp only[tot,List.length_cons,List.map_cons,List.sum_cons]
  rcases List.mem_cons.1 h with rfl | h
  ·have:xs.length≤xs.length+(xs.map (tot t)).sum:=by omega
   omega
  ·have:=q5y h
   simp only[tot] at this
   omega
theorem qfo {a b:ByteArray}:List.beq a.toList b.toList=decide (a=b):=by
 have h1:List.beq a.toList b.toList=decide (a.toList=b.toList):=by
  have:(a.toList == b.toList)=decide (a.toList=b.toList):=by
   by_cases h:a.toList=b.toList<;>simp[h]
  exact this
 rw[h1]
 by_cases h:a=b
 ·simp[h]
 ·have:a.toList≠b.toList:=fun e=>h (by
   have h2:a.data.toList=b.data.toList:=by
    have:=e
    simpa [ByteArray.toList_eq] using this
   cases a;cases b
   simp only[ByteArray.mk.injEq]
   exact Array.toList_inj.1 h2)
  simp[h,this]
end Go.G

namespace Go.G
open Go Go.V
abbrev qhb:Ty:=.sl (.int .i64)
theorem q60 (a:List Int):tot qhb a=a.length:=by
 have:∀ l:List Int,(l.map fun _=>0).sum=0:=by
  intro l;induction l with
  | nil=>rfl
  | cons x l ih=>simp[ih]
 have e:(a.map (tot (.int .i64)))=a.map fun _=>0:=by
  apply List.map_congr_left;intro x _;simp only[tot]
 show a.length+(a.map (tot (.int .i64))).sum=a.length
 rw[e,this];omega
theorem qle {α:Type} {l:List α} {i:Nat} {x:α} (h:i<l.length):(l.set i x).take (i+1)=l.take i++[x]:=by
 rw[List.take_add_one,List.take_set_of_le (Nat.le_refl _)]
 simp[List.getElem?_set,h]
theorem qbr4 (D:Den ctx) (n:Nat) (K0:Bool→Option ((Bool×Unit)×Unit)) (K1:Option ((Bool×Unit)×Unit)):∀ (m i:Nat) (a b:List Int),a.length=b.length→a.length≤maxLen→i≤a.length→a.length - i<m→
  qkw D n K0 K1 m a b i=if a.drop i=b.drop i then K1 else K0 false
 | 0,_,_,_,_,_,_,h=>by omega
 | m+1,i,a,b,hl,hm,hi,hk=>by
  simp only[qkw,q2f]
  rw[qj] at hm
  by_cases h:i<a.length
  ·rw[qm (by exact_mod_cast h),ix h,br_t,ix (hl ▸ h),br_t,qp (by omega),Int.toNat_natCast,qy h,qy (hl ▸ h),q7 h,q7 (hl ▸ h:i<b.length)]
   by_cases e:a[i]=b[i]'(hl ▸ h)
   ·rw[e]
    simp only[bne_self_eq_false,br_f,List.cons.injEq,true_and]
    exact qbr4 D n K0 K1 m (i+1) a b hl (by rw[qj];omega) (by omega) (by omega)
   ·have:(a[i] != b[i]'(hl ▸ h))=true:=by simp[e]
    rw[this,br_t];simp only[List.cons.injEq,e,false_and,if_false]
  ·rw[qo (by exact_mod_cast h),q9 h,q9 (hl ▸ h)];rfl
theorem qbr3 {X:Ext} (hX:XOk X) {n:Nat} (hn:W+1≤n) (a b:List Int) (hb:b.length≤maxLen):qv1 (DD X n) a b=some ((decide (a=b),()),()):=by
 obtain ⟨n,rfl⟩:∃ k,n=k+1:=⟨n - 1,by omega⟩
 rw[qbpp hX]
 simp only[q3u,q3w,qy4]
 by_cases h:a.length=b.length
 ·have e:((a.length:Int) != (b.length:Int))=false:=by simp[h]
  rw[e,br_f]
  have:=qbr4 (DD X n) n (fun v=>qpy (DD X n) n v) (qpi (DD X n) n) n 0 a b h (by omega) (by omega) (by have:=qbn;have:=qj;omega)
  rw[show ((0:Nat):Int)=0 from rfl] at this
  rw[this]
  simp only[List.drop_zero,qpy,qpi]
  by_cases h:a=b<;>simp[h]
 ·have e:((a.length:Int) != (b.length:Int))=true:=by simp;omega
  have:a≠b:=fun h2=>h (by rw[h2])
  rw[e,br_t];simp[this]
theorem qbqo (D:Den ctx) (n:Nat) (K:List Int→Option ((List Int×Unit)×Unit)):∀ (m i:Nat) (a c:List Int),a.length=c.length→a.length≤maxLen→i≤a.length→a.length - i<m→
  qky D n K m a i c=K (c.take i++a.drop i)
 | 0,_,_,_,_,_,_,h=>by omega
 | m+1,i,a,c,hl,hm,hi,hk=>by
  simp only[qky,q00]
  rw[qj] at hm
  by_cases h:i<a.length
  ·rw[qm (by exact_mod_cast h),ix h,br_t,ix (hl ▸ h),br_t,qp (by omega),Int.toNat_natCast,qy h,qbqo D n K m (i+1) a _ (by simp[hl]) (by rw[qj];omega) (by omega) (by omega)]
   congr 1
   rw[q7 h,qle (hl ▸ h),List.append_assoc];rfl
  ·rw[qo (by exact_mod_cast h),q9 h,List.take_of_length_le (by omega),List.append_nil]
theorem q8w {a:Nat} (h:a≤qbc):(decide (0≤(a:Int))&&decide ((a:Int)≤(a:Int))&&decide ((a:Int)≤((qbc:Nat):Int)))=true:=by
 simp only[Bool.and_eq_true,decide_eq_true_eq];omega
theorem qbrz {X:Ext} (hX:XOk X) {n:Nat} (hn:W+1≤n) (a:List Int) (ha:a.length≤qbc):qvy (DD X n) a=some ((a,()),()):=by
 obtain ⟨n,rfl⟩:∃ k,n=k+1:=⟨n - 1,by omega⟩
 rw[qbpi hX]
 simp only[q4p,q4j,qys]
 rw[q8w ha,br_t]
 have h1:=qdh
 have:=qbqo (DD X n) n (fun v=>qpc (DD X n) n v) n 0 a (List.replicate (Int.toNat (a.length:Int)) 0) (by simp) (by rw[qj];omega) (by omega) (by have:=qbn;omega)
 rw[show ((0:Nat):Int)=0 from rfl] at this
 rw[this]
 simp only[List.take_zero,List.drop_zero,List.nil_append,qpc]
theorem qbqz {X:Ext} (hX:XOk X) {n:Nat} (hn:W+1≤n) (a:List Int) (k:Int) (ha:a.length≤maxLen) (hk:0≤k∧k≤maxLen):qv5 (DD X n) a k=some ((left qhb a k,()),()):=by
 obtain ⟨n,rfl⟩:∃ k,n=k+1:=⟨n - 1,by omega⟩
 rw[qj] at ha hk
 rw[qbph hX]
 simp only[q3q,qbbf,left,q60]
 rw[qce (by omega) (by omega)]
 by_cases h:k - (a.length:Int)<0
 ·rw[qm h,if_neg (by omega)]
 ·rw[qo h,if_pos (by omega)]
def qtp:Int→List Int→List Int
 | _,[]=>[]
 | k,_::l=>k::qtp (k+1) l
theorem qbjx (D:Den ctx) (n:Nat) (K:Int→List Int→Option ((Int×Unit)×List Int×Unit)):∀ (m i:Nat) (k:Int) (a:List Int),a.length≤maxLen→i≤a.length→a.length - i<m→0≤k→k+(a.length - i)≤maxLen→
  qi2 D n K m k i a=K (k+(a.length - i)) (a.take i++qtp k (a.drop i))
 | 0,_,_,_,_,_,h,_,_=>by omega
 | m+1,i,k,a,hm,hi,hf,hk,hkl=>by
  simp only[qi2,qws]
  have hd:=qj
  by_cases h:i<a.length
  ·rw[qm (by exact_mod_cast h),ix h,br_t,qp (by omega),qce (by omega) (by omega),Int.toNat_natCast]
   rw[qbjx D n K m (i+1) (k+1) _ (by simpa using hm) (by simp;omega) (by simp;omega) (by omega) (by simp only[List.length_set];omega),qle h,q7 h,List.drop_set_of_lt (by omega)]
   simp only[List.length_set,List.append_assoc,qtp,List.singleton_append]
   congr 1
   omega
  ·rw[qo (by exact_mod_cast h),q9 h,List.take_of_length_le (by omega)]
   simp only[qtp,List.append_nil]
   congr 1
   omega
theorem qbup {X:Ext} (hX:XOk X) {n:Nat} (hn:W+1≤n) (a:List Int) (k:Int) (hk:0≤k) (h:k+a.length≤maxLen):qnh (DD X n) a k=some ((k+a.length,()),(qtp k a,())):=by
 obtain ⟨n,rfl⟩:∃ k,n=k+1:=⟨n - 1,by omega⟩
 have hd:=qj
 rw[qbjc hX]
 simp only[qzg,qx0,quk]
 have:=qbjx (DD X n) n (fun v w=>qnd (DD X n) n v w) n 0 k a (by omega) (by omega) (by have:=qbn;omega) hk (by omega)
 rw[show ((0:Nat):Int)=0 from rfl] at this
 rw[this]
 simp only[List.take_zero,List.drop_zero,List.nil_append,qnd,Int.sub_zero]
def qbdp (x:Int):ByteArray:=ByteArray.mk (List.toArray (List.map (fun n↦UInt8.ofNat (Int.toNat n)) [IntKind.wrap IntKind.u8 (IntKind.wrap IntKind.i64 (48+Int.tmod x 10))]))
def qtv:Nat→Int→ByteArray→ByteArray
 | 0,_,s=>s
 | f+1,x,s=>if x>0 then qtv f (Int.tdiv x 10) (ByteArray.append (qbdp x) s) else s
def q2y (k:Int):ByteArray:=if k≤0 then ByteArray.mk #[UInt8.ofNat 109,UInt8.ofNat 48] else ByteArray.append (ByteArray.mk #[UInt8.ofNat 109]) (qtv 19 k (ByteArray.mk #[]))
theorem qbg7 (a b:ByteArray):(ByteArray.append a b).size=a.size+b.size:=ByteArray.size_append
theorem q8j (x:Int):(qbdp x).size=1:=rfl
theorem qbem:∀ (f:Nat) (x:Int) (s:ByteArray),(qtv f x s).size≤s.size+f
 | 0,_,s=>by simp[qtv]
 | f+1,x,s=>by
  simp only[qtv]
  split
  ·have:=qbem f (Int.tdiv x 10) (ByteArray.append (qbdp x) s)
   rw[qbg7,q8j] at this
   omega
  ·omega
theorem qbmh (D:Den ctx) (n:Nat) (K:ByteArray→Option ((ByteArray×Unit)×Unit)):∀ (f m:Nat) (x:Int) (s:ByteArray),f<m→0≤x→x<10 ^ f→x≤maxLen→s.size+f≤2 ^ 47→qgj D n K m x s=K (qtv f x s)
 | f,0,_,_,h,_,_,_,_=>by omega
 | 0,m+1,x,s,_,h0,hx,_,_=>by
  simp only[qgj,qps,qtv]
  rw[qo (by simp at hx;omega)]
 | f+1,m+1,x,s,hf,h0,hx,hm,hs=>by
  simp only[qgj,qps,qtv]
  have hd:=qj
  by_cases h:x>0
  ·rw[qm h,if_pos h,qm (by show (qbdp x).size+s.size≤Nat.pow 2 47;rw[q8j];show 1+s.size≤2 ^ 47;omega)]
   have e:Int.tdiv x 10=x / 10:=Int.tdiv_eq_ediv_of_nonneg h0
   rw[qce (by rw[e];omega) (by rw[e];omega)]
   refine qbmh D n K f m _ _ (by omega) (by rw[e];omega) ?_ (by rw[e];omega) ?_
   ·rw[e]
    have:(10:Int) ^ (f+1)=10 ^ f * 10:=Int.pow_succ ..
    omega
   ·show (ByteArray.append (qbdp x) s).size+f≤2 ^ 47
    rw[qbg7,q8j];omega
  ·rw[qo h,if_neg h]
theorem qph {X:Ext} (hX:XOk X) {n:Nat} (hn:W+1≤n) (k:Int) (hk:k≤maxLen):qev (DD X n) k=some ((q2y k,()),()):=by
 obtain ⟨n,rfl⟩:∃ k,n=k+1:=⟨n - 1,by omega⟩
 have hd:=qj
 rw[qbmc hX]
 simp only[qzx,qz3,qvi,q2y]
 by_cases h:k≤0
 ·rw[qm h,if_pos h]
 ·rw[qo h,if_neg h,qbmh (DD X n) n _ 19 n k _ (by have:=qbn;omega) (by omega) (by omega) hk (by show 0+19≤2 ^ 47;decide)]
  simp only[qs0]
  have h1:=qbem 19 k (ByteArray.mk #[])
  have h2:(ByteArray.mk #[]).size=0:=rfl
  rw[qm]
  show 1+(qtv 19 k (ByteArray.mk #[])).size≤2 ^ 47
  omega
end Go.G

namespace Go.G
open Go Go.V
def mkL {α:Type} (f:Int→α→Int×α):Int→List α→Int×List α
 | k,[]=>(k,[])
 | k,x::l=>((mkL f (f k x).1 l).1,(f k x).2::(mkL f (f k x).1 l).2)
def mkT:(t:Ty)→Int→t.den→Int×t.den
 | .unit,k,x=>(k,x)
 | .int _,k,_=>(k+1,k)
 | .bool,k,_=>(k+1,decide (Int.tmod k 3=0))
 | .str,k,_=>(k+1,q2y k)
 | .sl t,k,xs=>mkL (mkT t) k xs
 | .pair a b,k,x=>((mkT b (mkT a k x.1).1 x.2).1,((mkT a k x.1).2,(mkT b (mkT a k x.1).1 x.2).2))
def cnt:(t:Ty)→t.den→Nat
 | .unit,_=>0
 | .int _,_=>1
 | .bool,_=>1
 | .str,_=>1
 | .sl t,xs=>(xs.map (cnt t)).sum
 | .pair a b,x=>cnt a x.1+cnt b x.2
theorem qbtm {t:Ty} (h:∀ k x,(mkT t k x).1=k+cnt t x):∀ (k:Int) (xs:List t.den),(mkL (mkT t) k xs).1=k+((xs.map (cnt t)).sum:Nat)
 | k,[]=>by simp[mkL]
 | k,x::l=>by
  simp only[mkL,qbtm h,h,List.map_cons,List.sum_cons]
  omega
theorem ql5:∀ (t:Ty) (k:Int) (x:t.den),(mkT t k x).1=k+cnt t x
 | .unit,k,x=>by simp[mkT,cnt]
 | .int _,k,_=>by simp[mkT,cnt]
 | .bool,k,_=>by simp[mkT,cnt]
 | .str,k,_=>by simp[mkT,cnt]
 | .sl t,k,xs=>by simp only[mkT,cnt];exact qbtm (ql5 t) k xs
 | .pair a b,k,x=>by simp only[mkT,cnt,ql5 a,ql5 b];omega
theorem qbm4 {α:Type} {f:Int→α→Int×α}:∀ (k:Int) (xs:List α),(mkL f k xs).2.length=xs.length
 | _,[]=>rfl
 | k,x::l=>by simp[mkL,qbm4]
theorem qvs {t:Ty} (a:List t.den):tot (.sl t) a=a.length+(a.map (tot t)).sum:=rfl
theorem qb0h {t:Ty} (a:List t.den):cnt (.sl t) a=(a.map (cnt t)).sum:=rfl
theorem qea {t:Ty} {a:t.den} {k:Int} (h:(tot t a:Int)≤k):left t a k=k - tot t a:=if_pos h
theorem qer {t:Ty} {a:t.den} {k:Int} (h:¬ (tot t a:Int)≤k):left t a k = -1:=if_neg h
theorem qg7 {t:Ty} {a:t.den} {k:Int} (h:¬ left t a k<0) (hk:0≤k):left t a k=k - tot t a∧(tot t a:Int)≤k:=by
 unfold left at h ⊢
 split at h
 ·rename_i h1;rw[if_pos h1];exact ⟨rfl,h1⟩
 ·omega
theorem qvz {α:Type} {l:List α} {i:Nat} {x d:α} (h:i<l.length):(l.set i x).getD i d=x:=by
 simp[List.getD,h]
theorem q8k:∀ (k:Int) (a:List Int),mkT qhb k a=(k+a.length,qtp k a)
 | k,[]=>by simp[mkT,mkL,qtp]
 | k,x::a=>by
  have:=q8k (k+1) a
  simp only[mkT] at this
  simp only[mkT,mkL,qtp,this,List.length_cons]
  congr 1
  omega
theorem qbw5 (a:List Int):cnt qhb a=a.length:=by
 have h1:=ql5 qhb 0 a
 rw[q8k] at h1
 simp only at h1
 omega
theorem qbmb {X:Ext} (hX:XOk X) {n:Nat} (hn:W+1≤n) (a:List Int) (k:Int) (hk:0≤k) (h:k+cnt qhb a≤maxLen):qnh (DD X n) a k=some (((mkT qhb k a).1,()),((mkT qhb k a).2,())):=by
 rw[q8k];rw[qbw5] at h;exact qbup hX hn a k hk h
theorem qbqe {R:Type} {t t2:Ty} {m m':Mk} {l:List AV} {r:Nat} {p:Path} {s:Nat} {v:AV} {a b:Option R} (h:l=[.brw r p s,v]):br (qhn [.mutv t m m',.val t2] l) a b=a:=by
 subst h
 simp[qhn,qcl,qj3,br]
end Go.G

namespace Go.G
open Go Go.V
def Fit (b:Nat):(t:Ty)→t.den→Prop
 | .sl t,xs=>xs.length≤b∧∀ x∈xs,Fit b t x
 | .pair s t,x=>Fit b s x.1∧Fit b t x.2
 | _,_=>True
theorem Fit.mono {b c:Nat} (h:b≤c):∀ {t:Ty} {x:t.den},Fit b t x→Fit c t x
 | .unit,_,_=>trivial
 | .int _,_,_=>trivial
 | .bool,_,_=>trivial
 | .str,_,_=>trivial
 | .sl t,xs,f=>⟨Nat.le_trans f.1 h,fun x hx=>(f.2 x hx).mono h⟩
 | .pair s t,x,f=>⟨f.1.mono h,f.2.mono h⟩
theorem qxy {b:Nat}:∀ {t:Ty} {x:t.den},tot t x≤b→Fit b t x
 | .unit,_,_=>trivial
 | .int _,_,_=>trivial
 | .bool,_,_=>trivial
 | .str,_,_=>trivial
 | .sl t,xs,f=>by
  have h:=qvs (t:=t) xs
  refine ⟨by omega,fun x hx=>qxy ?_⟩
  have:=q5y (t:=t) hx
  omega
 | .pair s t,x,f=>by
  have h:tot (.pair s t) x=tot s x.1+tot t x.2:=rfl
  exact ⟨qxy (by omega),qxy (by omega)⟩
def qji:Ty→Nat
 | .unit=>0
 | .int _=>1
 | .bool=>1
 | .str=>1
 | .sl t=>qji t
 | .pair a b=>qji a+qji b
theorem qbjj:∀ (t:Ty) (x:t.den),cnt t x≤qji t * (1+tot t x)
 | .unit,_=>by simp[cnt]
 | .int _,_=>by simp[cnt,qji,tot]
 | .bool,_=>by simp[cnt,qji,tot]
 | .str,x=>by simp only[cnt,qji];omega
 | .sl t,xs=>by
  rw[qb0h,qvs]
  simp only[qji]
  have key:∀ xs:List t.den,(xs.map (cnt t)).sum≤qji t * (xs.length+(xs.map (tot t)).sum):=by
   intro xs
   induction xs with
   | nil=>simp
   | cons x l ih=>
    have h:=qbjj t x
    simp only[List.map_cons,List.sum_cons,List.length_cons]
    have e:qji t * (l.length+1+(tot t x+(l.map (tot t)).sum))=qji t * (1+tot t x)+qji t * (l.length+(l.map (tot t)).sum):=by
     rw[←Nat.mul_add];congr 1;omega
    omega
  have:=key xs
  have e:qji t * (1+(xs.length+(xs.map (tot t)).sum))=qji t+qji t * (xs.length+(xs.map (tot t)).sum):=by
   rw[Nat.mul_add];omega
  omega
 | .pair a b,x=>by
  have h1:=qbjj a x.1
  have h2:=qbjj b x.2
  have e1:cnt (.pair a b) x=cnt a x.1+cnt b x.2:=rfl
  have e2:tot (.pair a b) x=tot a x.1+tot b x.2:=rfl
  rw[e1,e2]
  simp only[qji]
  have h3:qji a * (1+tot a x.1)≤qji a * (1+(tot a x.1+tot b x.2)):=Nat.mul_le_mul_left _ (by omega)
  have h4:qji b * (1+tot b x.2)≤qji b * (1+(tot a x.1+tot b x.2)):=Nat.mul_le_mul_left _ (by omega)
  rw[Nat.add_mul]
  omega
end Go.G

namespace Go.G
open Go Go.V
abbrev qbm:Ty:=.pair (.int .i64) (.pair (.int .i64) (.pair (.str) (.unit)))
abbrev Value:=Int×Int×ByteArray×Unit
theorem qbwh {X:Ext} (hX:XOk X) {n:Nat} (hn:W+2≤n) (a b:Value) (hb:Fit maxLen qbm b):qua (DD X n) a b=some ((decide (a=b),()),()):=by
 obtain ⟨n,rfl⟩:∃ k,n=k+1:=⟨n - 1,by omega⟩
 rw[qbmr hX]
 obtain ⟨a0,a1,a2,⟨⟩⟩:=a
 obtain ⟨b0,b1,b2,⟨⟩⟩:=b
 simp only[Fit] at hb
 have ne:∀ x y:Int,(x != y)=!decide (x=y):=fun x y=>by by_cases h:x=y<;>simp[h]
 simp only[q12,q9u,qfo,ne]
 by_cases h0:a0=b0<;>by_cases h1:a1=b1<;>by_cases h2:a2=b2<;>simp[h0,h1,h2,br]
theorem qbjm (D:Den ctx) (n:Nat) (K0:Bool→Option ((Bool×Unit)×Unit)) (K1:Option ((Bool×Unit)×Unit)):∀ (m i:Nat) (a b:List Value),(∀ x y,y∈b→qua D x y=some ((decide (x=y),()),()))→
  a.length=b.length→a.length≤maxLen→i≤a.length→a.length - i<m→qjc D n K0 K1 m a b i=if a.drop i=b.drop i then K1 else K0 false
 | 0,_,_,_,_,_,_,_,h=>by omega
 | m+1,i,a,b,he,hl,hm,hi,hk=>by
  simp only[qjc,qxr]
  have hd:=qj
  by_cases h:i<a.length
  ·rw[qm (by exact_mod_cast h),ix h,br_t,ix (hl ▸ h),br_t,qp (by omega),Int.toNat_natCast,qy h,qy (hl ▸ h),he _ _ (List.getElem_mem _),qf,q7 h,q7 (hl ▸ h:i<b.length)]
   by_cases e:a[i]=b[i]'(hl ▸ h)
   ·simp only[e,decide_true,Bool.not_true,br_f,List.cons.injEq,true_and]
    exact qbjm D n K0 K1 m (i+1) a b he hl hm (by omega) (by omega)
   ·simp only[e,decide_false,Bool.not_false,br_t,List.cons.injEq,false_and,if_false]
  ·rw[qo (by exact_mod_cast h),q9 h,q9 (hl ▸ h)];rfl
theorem qbt2 {X:Ext} (hX:XOk X) {n:Nat} (hn:W+3≤n) (a b:List Value) (hb:Fit maxLen (.sl qbm) b):qr5 (DD X n) a b=some ((decide (a=b),()),()):=by
 obtain ⟨n,rfl⟩:∃ k,n=k+1:=⟨n - 1,by omega⟩
 have hb1:b.length≤maxLen:=hb.1
 rw[qbjr hX]
 simp only[qy3,qyl,qug]
 by_cases h:a.length=b.length
 ·have e:((a.length:Int) != (b.length:Int))=false:=by simp[h]
  rw[e,br_f]
  have:=qbjm (DD X n) n (fun v=>qmp (DD X n) n v) (qms (DD X n) n) n 0 a b (fun x y hy=>qbwh hX (by omega) x y (hb.2 y hy)) h (by omega) (by omega) (by have:=qbn;have:=qj;omega)
  rw[show ((0:Nat):Int)=0 from rfl] at this
  rw[this]
  simp only[List.drop_zero,qmp,qms]
  by_cases h:a=b<;>simp[h]
 ·have e:((a.length:Int) != (b.length:Int))=true:=by simp;omega
  have:a≠b:=fun h2=>h (by rw[h2])
  rw[e,br_t];simp[this]
theorem qbww {X:Ext} (hX:XOk X) {n:Nat} (hn:W+2≤n) (a:Value) (ha:Fit qbc qbm a):qtx (DD X n) a=some ((a,()),()):=by
 obtain ⟨n,rfl⟩:∃ k,n=k+1:=⟨n - 1,by omega⟩
 rw[qbm7 hX]
 rfl
theorem qbjs (D:Den ctx) (n:Nat) (K:List Value→Option ((List Value×Unit)×Unit)):∀ (m i:Nat) (a c:List Value),(∀ x∈a,qtx D x=some ((x,()),()))→a.length=c.length→a.length≤maxLen→i≤a.length→a.length - i<m→
  qiz D n K m a i c=K (c.take i++a.drop i)
 | 0,_,_,_,_,_,_,_,h=>by omega
 | m+1,i,a,c,he,hl,hm,hi,hk=>by
  simp only[qiz,qw2]
  have hd:=qj
  by_cases h:i<a.length
  ·rw[qm (by exact_mod_cast h),ix h,br_t,Int.toNat_natCast,qy h,he _ (List.getElem_mem _),qf,ix (hl ▸ h),br_t,qp (by omega)]
   have e:=qbjs D n K m (i+1) a (c.set i a[i]) he (by simp[hl]) hm (by omega) (by omega)
   rw[q7 h]
   refine Eq.trans e ?_
   rw[qle (hl ▸ h),List.append_assoc];rfl
  ·rw[qo (by exact_mod_cast h),q9 h,List.take_of_length_le (by omega),List.append_nil]
theorem qbus {X:Ext} (hX:XOk X) {n:Nat} (hn:W+3≤n) (a:List Value) (ha:Fit qbc (.sl qbm) a):qrw (DD X n) a=some ((a,()),()):=by
 obtain ⟨n,rfl⟩:∃ k,n=k+1:=⟨n - 1,by omega⟩
 have ha1:a.length≤qbc:=ha.1
 rw[qbke hX]
 simp only[qz5,q0a,quu]
 rw[q8w ha1,br_t]
 have h1:=qdh
 have:=qbjs (DD X n) n (fun v=>qm4 (DD X n) n v) n 0 a (List.replicate (Int.toNat (a.length:Int)) (0,(0,(ByteArray.empty,())))) (fun x hx=>qbww hX (by omega) x (ha.2 x hx)) (by simp) (by rw[qj];omega) (by omega) (by have:=qbn;omega)
 rw[show ((0:Nat):Int)=0 from rfl] at this
 rw[this]
 simp only[List.take_zero,List.drop_zero,List.nil_append,qm4]
theorem qbwn {X:Ext} (hX:XOk X) {n:Nat} (hn:W+2≤n) (a:Value) (k:Int) (ha:Wf qbm a) (hk:0≤k∧k≤maxLen):qtw (DD X n) a k=some ((left qbm a k,()),()):=by
 obtain ⟨n,rfl⟩:∃ k,n=k+1:=⟨n - 1,by omega⟩
 have hd:=qj
 simp only[Wf] at ha
 have w1:a.2.2.1.size≤maxLen:=ha.2.2.1
 have ht:tot qbm a=0+(0+(a.2.2.1.size+(0))):=rfl
 rw[qbnc hX]
 simp only[q1o,q9n]
 rw[qce (by omega) (by omega)]
 by_cases h:k - (a.2.2.1.size:Int)<0
 ·rw[qm h,qer (by omega)]
 ·rw[qo h,qea (by omega)]
  try (congr 3<;>omega)
theorem qbk0 (D:Den ctx) (n:Nat) (K0:Int→Int→Option ((Int×Unit)×Unit)) (K1:Int→Option ((Int×Unit)×Unit)) (hK:∀ k,K1 k=some ((k,()),())) (hK0:∀ k,K0 k (-1)=some ((-1,()),())):∀ (m i:Nat) (k:Int) (a:List Value),
  (∀ x∈a,∀ k:Int,0≤k→k≤maxLen→qtw D x k=some ((left qbm x k,()),()))→a.length≤maxLen→i≤a.length→a.length - i<m→0≤k→k≤maxLen→
  qip D n K0 K1 m a k i=some ((if (((a.drop i).map (tot qbm)).sum:Int)≤k then k - ((a.drop i).map (tot qbm)).sum else -1,()),())
 | 0,_,_,_,_,_,_,h,_,_=>by omega
 | m+1,i,k,a,he,hm,hi,hf,h0,h1=>by
  simp only[qip,qxd]
  have hd:=qj
  by_cases h:i<a.length
  ·rw[qm (by exact_mod_cast h),ix h,br_t,Int.toNat_natCast,qy h,he _ (List.getElem_mem _) k h0 h1,qf,qp (by omega),qhc h]
   by_cases h2:left qbm a[i] k<0
   ·rw[qm h2,hK0,if_neg]
    intro h3
    rw[qea (by omega)] at h2
    omega
   ·obtain ⟨e1,e2⟩:=qg7 h2 h0
    rw[qo h2,e1];dsimp only
    rw[qbk0 D n K0 K1 hK hK0 m (i+1) _ a he hm (by omega) (by omega) (by omega) (by omega)]
    congr 3
    push_cast
    split<;>split<;>omega
  ·rw[qo (by exact_mod_cast h),q9 h,hK]
   simp[h0]
theorem qbuo {X:Ext} (hX:XOk X) {n:Nat} (hn:W+3≤n) (a:List Value) (k:Int) (ha:Wf (.sl qbm) a) (hk:0≤k∧k≤maxLen):qrs (DD X n) a k=some ((left (.sl qbm) a k,()),()):=by
 obtain ⟨n,rfl⟩:∃ k,n=k+1:=⟨n - 1,by omega⟩
 have hd:=qj
 have w1:a.length≤maxLen:=ha.1
 have hts:=qvs (t:=qbm) a
 rw[qbj2 hX]
 simp only[qza,qz0,qvj]
 rw[qce (by omega) (by omega)]
 by_cases h:k - (a.length:Int)<0
 ·rw[qm h,qer (by omega)]
 ·rw[qo h]
  have:=qbk0 (DD X n) n (fun v w=>qsz (DD X n) n v w) (fun v=>qsw (DD X n) n v) (fun _=>rfl) (fun _=>rfl) n 0 (k - a.length) a
   (fun x hx k h0 h1=>qbwn hX (by omega) x k (ha.2 x hx) ⟨h0,h1⟩) w1 (by omega) (by have:=qbn;omega) (by omega) (by omega)
  rw[show ((0:Nat):Int)=0 from rfl] at this
  rw[this,List.drop_zero]
  by_cases h2:(tot (.sl qbm) a:Int)≤k
  ·rw[qea h2,if_pos (by omega)];congr 3;omega
  ·rw[qer h2,if_neg (by omega)]
theorem qbed {X:Ext} (hX:XOk X) (N n:Nat) (hN:W+1≤N) (K:Int→List Value→Option ((Int×Unit)×List Value×Unit)):∀ (m i:Nat) (k:Int) (a:List Value),a.length≤maxLen→i≤a.length→a.length - i<m→0≤k→k+((a.drop i).map (cnt qbm)).sum≤maxLen→
  qgy (DD X N) n K m k i a=K (mkL (mkT qbm) k (a.drop i)).1 (a.take i++(mkL (mkT qbm) k (a.drop i)).2)
 | 0,_,_,_,_,_,h,_,_=>by omega
 | m+1,i,k,a,hm,hi,hf,hk,hkl=>by
  simp only[qgy,qsh]
  have hd:=qj
  by_cases h:i<a.length
  ·rw[qhc h] at hkl
   have hc:cnt qbm a[i]=1+1+1:=by first | rfl | (simp only[cnt];omega)
   have t2:=qph hX hN (k+1+1) (by omega)
   have w0:IntKind.wrap IntKind.i64 (k+1)=k+1:=qce (by omega) (by omega)
   have w1:IntKind.wrap IntKind.i64 (k+1+1)=k+1+1:=qce (by omega) (by omega)
   have w2:IntKind.wrap IntKind.i64 (k+1+1+1)=k+1+1+1:=qce (by omega) (by omega)
   have wi:IntKind.wrap IntKind.i64 ((i:Int)+1)=((i+1:Nat):Int):=qp (by omega)
   rw[qm (by exact_mod_cast h)]
   simp only[ix h,br_t,t2,w0,w1,w2,wi,qf,List.length_set,Int.toNat_natCast,qvz h,qy h,List.set_set]
   have e:=qbed hX N n hN K m (i+1) (k+1+1+1) (a.set i (k,k+1,q2y (k+1+1),())) (by simpa using hm) (by simp;omega) (by simp;omega) (by omega) (by rw[List.drop_set_of_lt (by omega)];omega)
   refine Eq.trans e ?_
   rw[qle h,q7 h,List.drop_set_of_lt (by omega),List.append_assoc]
   rfl
  ·rw[qo (by exact_mod_cast h),q9 h,List.take_of_length_le (by omega)]
   simp only[mkL,List.append_nil]
theorem qbrr {X:Ext} (hX:XOk X) {n:Nat} (hn:W+2≤n) (a:List Value) (k:Int) (ha:a.length≤maxLen) (hk:0≤k) (h:k+cnt (.sl qbm) a≤maxLen) :
  qux (DD X n) a k=some (((mkT (.sl qbm) k a).1,()),((mkT (.sl qbm) k a).2,())):=by
 obtain ⟨n,rfl⟩:∃ k,n=k+1:=⟨n - 1,by omega⟩
 have hd:=qj
 rw[qbfo hX]
 simp only[qu6,qu3,qrf]
 have:=qbed hX n n (by omega) (fun v w=>qkd (DD X n) n v w) n 0 k a ha (by omega) (by have:=qbn;omega) hk (by rw[List.drop_zero];exact h)
 rw[show ((0:Nat):Int)=0 from rfl] at this
 rw[this]
 simp only[List.take_zero,List.drop_zero,List.nil_append,qkd,mkT]
abbrev ColT:Ty:=.pair (.str) (.pair (.int .i64) (.pair (.bool) (.unit)))
abbrev Col:=ByteArray×Int×Bool×Unit
theorem qbyu {X:Ext} (hX:XOk X) {n:Nat} (hn:W+2≤n) (a b:Col) (hb:Fit maxLen ColT b):qzm (DD X n) a b=some ((decide (a=b),()),()):=by
 obtain ⟨n,rfl⟩:∃ k,n=k+1:=⟨n - 1,by omega⟩
 rw[qbrk hX]
 obtain ⟨a0,a1,a2,⟨⟩⟩:=a
 obtain ⟨b0,b1,b2,⟨⟩⟩:=b
 simp only[Fit] at hb
 have ne:∀ x y:Int,(x != y)=!decide (x=y):=fun x y=>by by_cases h:x=y<;>simp[h]
 simp only[q6o,qbct,qfo,ne]
 by_cases h0:a0=b0<;>by_cases h1:a1=b1<;>by_cases h2:a2=b2<;>simp[h0,h1,h2,br]
theorem qbp7 (D:Den ctx) (n:Nat) (K0:Bool→Option ((Bool×Unit)×Unit)) (K1:Option ((Bool×Unit)×Unit)):∀ (m i:Nat) (a b:List Col),(∀ x y,y∈b→qzm D x y=some ((decide (x=y),()),()))→
  a.length=b.length→a.length≤maxLen→i≤a.length→a.length - i<m→qkq D n K0 K1 m a b i=if a.drop i=b.drop i then K1 else K0 false
 | 0,_,_,_,_,_,_,_,h=>by omega
 | m+1,i,a,b,he,hl,hm,hi,hk=>by
  simp only[qkq,q03]
  have hd:=qj
  by_cases h:i<a.length
  ·rw[qm (by exact_mod_cast h),ix h,br_t,ix (hl ▸ h),br_t,qp (by omega),Int.toNat_natCast,qy h,qy (hl ▸ h),he _ _ (List.getElem_mem _),qf,q7 h,q7 (hl ▸ h:i<b.length)]
   by_cases e:a[i]=b[i]'(hl ▸ h)
   ·simp only[e,decide_true,Bool.not_true,br_f,List.cons.injEq,true_and]
    exact qbp7 D n K0 K1 m (i+1) a b he hl hm (by omega) (by omega)
   ·simp only[e,decide_false,Bool.not_false,br_t,List.cons.injEq,false_and,if_false]
  ·rw[qo (by exact_mod_cast h),q9 h,q9 (hl ▸ h)];rfl
theorem qbx6 {X:Ext} (hX:XOk X) {n:Nat} (hn:W+3≤n) (a b:List Col) (hb:Fit maxLen (.sl ColT) b):q3x (DD X n) a b=some ((decide (a=b),()),()):=by
 obtain ⟨n,rfl⟩:∃ k,n=k+1:=⟨n - 1,by omega⟩
 have hb1:b.length≤maxLen:=hb.1
 rw[qbpr hX]
 simp only[q4i,q4d,qyc]
 by_cases h:a.length=b.length
 ·have e:((a.length:Int) != (b.length:Int))=false:=by simp[h]
  rw[e,br_f]
  have:=qbp7 (DD X n) n (fun v=>qp8 (DD X n) n v) (qpu (DD X n) n) n 0 a b (fun x y hy=>qbyu hX (by omega) x y (hb.2 y hy)) h (by omega) (by omega) (by have:=qbn;have:=qj;omega)
  rw[show ((0:Nat):Int)=0 from rfl] at this
  rw[this]
  simp only[List.drop_zero,qp8,qpu]
  by_cases h:a=b<;>simp[h]
 ·have e:((a.length:Int) != (b.length:Int))=true:=by simp;omega
  have:a≠b:=fun h2=>h (by rw[h2])
  rw[e,br_t];simp[this]
theorem qbzq {X:Ext} (hX:XOk X) {n:Nat} (hn:W+2≤n) (a:Col) (ha:Fit qbc ColT a):qyx (DD X n) a=some ((a,()),()):=by
 obtain ⟨n,rfl⟩:∃ k,n=k+1:=⟨n - 1,by omega⟩
 rw[qbqs hX]
 rfl
theorem qbqv (D:Den ctx) (n:Nat) (K:List Col→Option ((List Col×Unit)×Unit)):∀ (m i:Nat) (a c:List Col),(∀ x∈a,qyx D x=some ((x,()),()))→a.length=c.length→a.length≤maxLen→i≤a.length→a.length - i<m→
  qkt D n K m a i c=K (c.take i++a.drop i)
 | 0,_,_,_,_,_,_,_,h=>by omega
 | m+1,i,a,c,he,hl,hm,hi,hk=>by
  simp only[qkt,q2g]
  have hd:=qj
  by_cases h:i<a.length
  ·rw[qm (by exact_mod_cast h),ix h,br_t,Int.toNat_natCast,qy h,he _ (List.getElem_mem _),qf,ix (hl ▸ h),br_t,qp (by omega)]
   have e:=qbqv D n K m (i+1) a (c.set i a[i]) he (by simp[hl]) hm (by omega) (by omega)
   rw[q7 h]
   refine Eq.trans e ?_
   rw[qle (hl ▸ h),List.append_assoc];rfl
  ·rw[qo (by exact_mod_cast h),q9 h,List.take_of_length_le (by omega),List.append_nil]
theorem qbxz {X:Ext} (hX:XOk X) {n:Nat} (hn:W+3≤n) (a:List Col) (ha:Fit qbc (.sl ColT) a):q4q (DD X n) a=some ((a,()),()):=by
 obtain ⟨n,rfl⟩:∃ k,n=k+1:=⟨n - 1,by omega⟩
 have ha1:a.length≤qbc:=ha.1
 rw[qbpy hX]
 simp only[q3y,q4h,qyz]
 rw[q8w ha1,br_t]
 have h1:=qdh
 have:=qbqv (DD X n) n (fun v=>qp7 (DD X n) n v) n 0 a (List.replicate (Int.toNat (a.length:Int)) (ByteArray.empty,(0,(false,())))) (fun x hx=>qbzq hX (by omega) x (ha.2 x hx)) (by simp) (by rw[qj];omega) (by omega) (by have:=qbn;omega)
 rw[show ((0:Nat):Int)=0 from rfl] at this
 rw[this]
 simp only[List.take_zero,List.drop_zero,List.nil_append,qp7]
theorem qbza {X:Ext} (hX:XOk X) {n:Nat} (hn:W+2≤n) (a:Col) (k:Int) (ha:Wf ColT a) (hk:0≤k∧k≤maxLen):qx7 (DD X n) a k=some ((left ColT a k,()),()):=by
 obtain ⟨n,rfl⟩:∃ k,n=k+1:=⟨n - 1,by omega⟩
 have hd:=qj
 simp only[Wf] at ha
 have w1:a.1.size≤maxLen:=ha.1
 have ht:tot ColT a=a.1.size+(0+(0+(0))):=rfl
 rw[qbqp hX]
 simp only[q6y,qbcj]
 rw[qce (by omega) (by omega)]
 by_cases h:k - (a.1.size:Int)<0
 ·rw[qm h,qer (by omega)]
 ·rw[qo h,qea (by omega)]
  try (congr 3<;>omega)
theorem qbq1 (D:Den ctx) (n:Nat) (K0:Int→Int→Option ((Int×Unit)×Unit)) (K1:Int→Option ((Int×Unit)×Unit)) (hK:∀ k,K1 k=some ((k,()),())) (hK0:∀ k,K0 k (-1)=some ((-1,()),())):∀ (m i:Nat) (k:Int) (a:List Col),
  (∀ x∈a,∀ k:Int,0≤k→k≤maxLen→qx7 D x k=some ((left ColT x k,()),()))→a.length≤maxLen→i≤a.length→a.length - i<m→0≤k→k≤maxLen→
  qk7 D n K0 K1 m a k i=some ((if (((a.drop i).map (tot ColT)).sum:Int)≤k then k - ((a.drop i).map (tot ColT)).sum else -1,()),())
 | 0,_,_,_,_,_,_,h,_,_=>by omega
 | m+1,i,k,a,he,hm,hi,hf,h0,h1=>by
  simp only[qk7,q1f]
  have hd:=qj
  by_cases h:i<a.length
  ·rw[qm (by exact_mod_cast h),ix h,br_t,Int.toNat_natCast,qy h,he _ (List.getElem_mem _) k h0 h1,qf,qp (by omega),qhc h]
   by_cases h2:left ColT a[i] k<0
   ·rw[qm h2,hK0,if_neg]
    intro h3
    rw[qea (by omega)] at h2
    omega
   ·obtain ⟨e1,e2⟩:=qg7 h2 h0
    rw[qo h2,e1];dsimp only
    rw[qbq1 D n K0 K1 hK hK0 m (i+1) _ a he hm (by omega) (by omega) (by omega) (by omega)]
    congr 3
    push_cast
    split<;>split<;>omega
  ·rw[qo (by exact_mod_cast h),q9 h,hK]
   simp[h0]
theorem qbxp {X:Ext} (hX:XOk X) {n:Nat} (hn:W+3≤n) (a:List Col) (k:Int) (ha:Wf (.sl ColT) a) (hk:0≤k∧k≤maxLen):q4a (DD X n) a k=some ((left (.sl ColT) a k,()),()):=by
 obtain ⟨n,rfl⟩:∃ k,n=k+1:=⟨n - 1,by omega⟩
 have hd:=qj
 have w1:a.length≤maxLen:=ha.1
 have hts:=qvs (t:=ColT) a
 rw[qbpo hX]
 simp only[q4c,q3s,qyu]
 rw[qce (by omega) (by omega)]
 by_cases h:k - (a.length:Int)<0
 ·rw[qm h,qer (by omega)]
 ·rw[qo h]
  have:=qbq1 (DD X n) n (fun v w=>qw8 (DD X n) n v w) (fun v=>qxg (DD X n) n v) (fun _=>rfl) (fun _=>rfl) n 0 (k - a.length) a
   (fun x hx k h0 h1=>qbza hX (by omega) x k (ha.2 x hx) ⟨h0,h1⟩) w1 (by omega) (by have:=qbn;omega) (by omega) (by omega)
  rw[show ((0:Nat):Int)=0 from rfl] at this
  rw[this,List.drop_zero]
  by_cases h2:(tot (.sl ColT) a:Int)≤k
  ·rw[qea h2,if_pos (by omega)];congr 3;omega
  ·rw[qer h2,if_neg (by omega)]
theorem qbj0 {X:Ext} (hX:XOk X) (N n:Nat) (hN:W+1≤N) (K:Int→List Col→Option ((Int×Unit)×List Col×Unit)):∀ (m i:Nat) (k:Int) (a:List Col),a.length≤maxLen→i≤a.length→a.length - i<m→0≤k→k+((a.drop i).map (cnt ColT)).sum≤maxLen→
  qiy (DD X N) n K m k i a=K (mkL (mkT ColT) k (a.drop i)).1 (a.take i++(mkL (mkT ColT) k (a.drop i)).2)
 | 0,_,_,_,_,_,h,_,_=>by omega
 | m+1,i,k,a,hm,hi,hf,hk,hkl=>by
  simp only[qiy,qwj]
  have hd:=qj
  by_cases h:i<a.length
  ·rw[qhc h] at hkl
   have hc:cnt ColT a[i]=1+1+1:=by first | rfl | (simp only[cnt];omega)
   have t0:=qph hX hN (k) (by omega)
   have w0:IntKind.wrap IntKind.i64 (k+1)=k+1:=qce (by omega) (by omega)
   have w1:IntKind.wrap IntKind.i64 (k+1+1)=k+1+1:=qce (by omega) (by omega)
   have w2:IntKind.wrap IntKind.i64 (k+1+1+1)=k+1+1+1:=qce (by omega) (by omega)
   have wi:IntKind.wrap IntKind.i64 ((i:Int)+1)=((i+1:Nat):Int):=qp (by omega)
   rw[qm (by exact_mod_cast h)]
   simp only[ix h,br_t,t0,w0,w1,w2,wi,qf,List.length_set,Int.toNat_natCast,qvz h,qy h,List.set_set]
   have e:=qbj0 hX N n hN K m (i+1) (k+1+1+1) (a.set i (q2y (k),k+1,decide (Int.tmod (k+1+1) 3=0),())) (by simpa using hm) (by simp;omega) (by simp;omega) (by omega) (by rw[List.drop_set_of_lt (by omega)];omega)
   refine Eq.trans e ?_
   rw[qle h,q7 h,List.drop_set_of_lt (by omega),List.append_assoc]
   rfl
  ·rw[qo (by exact_mod_cast h),q9 h,List.take_of_length_le (by omega)]
   simp only[mkL,List.append_nil]
theorem qbut {X:Ext} (hX:XOk X) {n:Nat} (hn:W+2≤n) (a:List Col) (k:Int) (ha:a.length≤maxLen) (hk:0≤k) (h:k+cnt (.sl ColT) a≤maxLen) :
  qyt (DD X n) a k=some (((mkT (.sl ColT) k a).1,()),((mkT (.sl ColT) k a).2,())):=by
 obtain ⟨n,rfl⟩:∃ k,n=k+1:=⟨n - 1,by omega⟩
 have hd:=qj
 rw[qbj8 hX]
 simp only[qze,qx6,qvb]
 have:=qbj0 hX n n (by omega) (fun v w=>qnf (DD X n) n v w) n 0 k a ha (by omega) (by have:=qbn;omega) hk (by rw[List.drop_zero];exact h)
 rw[show ((0:Nat):Int)=0 from rfl] at this
 rw[this]
 simp only[List.take_zero,List.drop_zero,List.nil_append,qnf,mkT]
abbrev qda:Ty:=.pair (.str) (.pair (.sl (.int .i64)) (.pair (.bool) (.unit)))
abbrev qfl:=ByteArray×List Int×Bool×Unit
theorem qbwy {X:Ext} (hX:XOk X) {n:Nat} (hn:W+2≤n) (a b:qfl) (hb:Fit maxLen qda b):qt8 (DD X n) a b=some ((decide (a=b),()),()):=by
 obtain ⟨n,rfl⟩:∃ k,n=k+1:=⟨n - 1,by omega⟩
 rw[qbm9 hX]
 obtain ⟨a0,a1,a2,⟨⟩⟩:=a
 obtain ⟨b0,b1,b2,⟨⟩⟩:=b
 simp only[Fit] at hb
 have ne:∀ x y:Int,(x != y)=!decide (x=y):=fun x y=>by by_cases h:x=y<;>simp[h]
 simp only[q1y,q9l,qfo,ne]
 rw[qbr3 hX (by omega) _ _ (hb.2.1.1),qf]
 by_cases h0:a0=b0<;>by_cases h1:a1=b1<;>by_cases h2:a2=b2<;>simp[h0,h1,h2,br]
theorem qbjv (D:Den ctx) (n:Nat) (K0:Bool→Option ((Bool×Unit)×Unit)) (K1:Option ((Bool×Unit)×Unit)):∀ (m i:Nat) (a b:List qfl),(∀ x y,y∈b→qt8 D x y=some ((decide (x=y),()),()))→
  a.length=b.length→a.length≤maxLen→i≤a.length→a.length - i<m→qi7 D n K0 K1 m a b i=if a.drop i=b.drop i then K1 else K0 false
 | 0,_,_,_,_,_,_,_,h=>by omega
 | m+1,i,a,b,he,hl,hm,hi,hk=>by
  simp only[qi7,qxf]
  have hd:=qj
  by_cases h:i<a.length
  ·rw[qm (by exact_mod_cast h),ix h,br_t,ix (hl ▸ h),br_t,qp (by omega),Int.toNat_natCast,qy h,qy (hl ▸ h),he _ _ (List.getElem_mem _),qf,q7 h,q7 (hl ▸ h:i<b.length)]
   by_cases e:a[i]=b[i]'(hl ▸ h)
   ·simp only[e,decide_true,Bool.not_true,br_f,List.cons.injEq,true_and]
    exact qbjv D n K0 K1 m (i+1) a b he hl hm (by omega) (by omega)
   ·simp only[e,decide_false,Bool.not_false,br_t,List.cons.injEq,false_and,if_false]
  ·rw[qo (by exact_mod_cast h),q9 h,q9 (hl ▸ h)];rfl
theorem qbvb {X:Ext} (hX:XOk X) {n:Nat} (hn:W+3≤n) (a b:List qfl) (hb:Fit maxLen (.sl qda) b):qz4 (DD X n) a b=some ((decide (a=b),()),()):=by
 obtain ⟨n,rfl⟩:∃ k,n=k+1:=⟨n - 1,by omega⟩
 have hb1:b.length≤maxLen:=hb.1
 rw[qblb hX]
 simp only[qyr,qz1,qva]
 by_cases h:a.length=b.length
 ·have e:((a.length:Int) != (b.length:Int))=false:=by simp[h]
  rw[e,br_f]
  have:=qbjv (DD X n) n (fun v=>qm0 (DD X n) n v) (qmi (DD X n) n) n 0 a b (fun x y hy=>qbwy hX (by omega) x y (hb.2 y hy)) h (by omega) (by omega) (by have:=qbn;have:=qj;omega)
  rw[show ((0:Nat):Int)=0 from rfl] at this
  rw[this]
  simp only[List.drop_zero,qm0,qmi]
  by_cases h:a=b<;>simp[h]
 ·have e:((a.length:Int) != (b.length:Int))=true:=by simp;omega
  have:a≠b:=fun h2=>h (by rw[h2])
  rw[e,br_t];simp[this]
theorem qbvd {X:Ext} (hX:XOk X) {n:Nat} (hn:W+2≤n) (a:qfl) (ha:Fit qbc qda a):qtz (DD X n) a=some ((a,()),()):=by
 obtain ⟨n,rfl⟩:∃ k,n=k+1:=⟨n - 1,by omega⟩
 rw[qbnq hX]
 simp only[Fit] at ha
 simp only[q1t,q83]
 rw[qbrz hX (by omega) _ ha.2.1.1,qf]
theorem qbku (D:Den ctx) (n:Nat) (K:List qfl→Option ((List qfl×Unit)×Unit)):∀ (m i:Nat) (a c:List qfl),(∀ x∈a,qtz D x=some ((x,()),()))→a.length=c.length→a.length≤maxLen→i≤a.length→a.length - i<m→
  qja D n K m a i c=K (c.take i++a.drop i)
 | 0,_,_,_,_,_,_,_,h=>by omega
 | m+1,i,a,c,he,hl,hm,hi,hk=>by
  simp only[qja,qw0]
  have hd:=qj
  by_cases h:i<a.length
  ·rw[qm (by exact_mod_cast h),ix h,br_t,Int.toNat_natCast,qy h,he _ (List.getElem_mem _),qf,ix (hl ▸ h),br_t,qp (by omega)]
   have e:=qbku D n K m (i+1) a (c.set i a[i]) he (by simp[hl]) hm (by omega) (by omega)
   rw[q7 h]
   refine Eq.trans e ?_
   rw[qle (hl ▸ h),List.append_assoc];rfl
  ·rw[qo (by exact_mod_cast h),q9 h,List.take_of_length_le (by omega),List.append_nil]
theorem qbuw {X:Ext} (hX:XOk X) {n:Nat} (hn:W+3≤n) (a:List qfl) (ha:Fit qbc (.sl qda) a):qxz (DD X n) a=some ((a,()),()):=by
 obtain ⟨n,rfl⟩:∃ k,n=k+1:=⟨n - 1,by omega⟩
 have ha1:a.length≤qbc:=ha.1
 rw[qbkk hX]
 simp only[qyo,qzt,quw]
 rw[q8w ha1,br_t]
 have h1:=qdh
 have:=qbku (DD X n) n (fun v=>qml (DD X n) n v) n 0 a (List.replicate (Int.toNat (a.length:Int)) (ByteArray.empty,([],(false,())))) (fun x hx=>qbvd hX (by omega) x (ha.2 x hx)) (by simp) (by rw[qj];omega) (by omega) (by have:=qbn;omega)
 rw[show ((0:Nat):Int)=0 from rfl] at this
 rw[this]
 simp only[List.take_zero,List.drop_zero,List.nil_append,qml]
theorem qbwf {X:Ext} (hX:XOk X) {n:Nat} (hn:W+2≤n) (a:qfl) (k:Int) (ha:Wf qda a) (hk:0≤k∧k≤maxLen):qtr (DD X n) a k=some ((left qda a k,()),()):=by
 obtain ⟨n,rfl⟩:∃ k,n=k+1:=⟨n - 1,by omega⟩
 have hd:=qj
 simp only[Wf] at ha
 have w1:a.1.size≤maxLen:=ha.1
 have ht:tot qda a=a.1.size+(tot qhb a.2.1+(0+(0))):=rfl
 rw[q60] at ht
 rw[qbm0 hX]
 simp only[q0z,q8y]
 rw[qce (by omega) (by omega)]
 by_cases h:k - (a.1.size:Int)<0
 ·rw[qm h,qer (by omega)]
 ·have w2:a.2.1.length≤maxLen:=ha.2.1.1
  rw[qo h,qbqz hX (by omega) _ _ w2 (by omega),qf]
  have e2:=q60 a.2.1
  by_cases h2:(tot qhb a.2.1:Int)≤k - a.1.size
  ·rw[qea h2];dsimp only
   rw[qo (by omega),qea (by omega)]
   congr 3;omega
  ·rw[qer h2];dsimp only
   rw[qm (by omega),qer (by omega)]
theorem qbj9 (D:Den ctx) (n:Nat) (K0:Int→Int→Option ((Int×Unit)×Unit)) (K1:Int→Option ((Int×Unit)×Unit)) (hK:∀ k,K1 k=some ((k,()),())) (hK0:∀ k,K0 k (-1)=some ((-1,()),())):∀ (m i:Nat) (k:Int) (a:List qfl),
  (∀ x∈a,∀ k:Int,0≤k→k≤maxLen→qtr D x k=some ((left qda x k,()),()))→a.length≤maxLen→i≤a.length→a.length - i<m→0≤k→k≤maxLen→
  qil D n K0 K1 m a k i=some ((if (((a.drop i).map (tot qda)).sum:Int)≤k then k - ((a.drop i).map (tot qda)).sum else -1,()),())
 | 0,_,_,_,_,_,_,h,_,_=>by omega
 | m+1,i,k,a,he,hm,hi,hf,h0,h1=>by
  simp only[qil,qxe]
  have hd:=qj
  by_cases h:i<a.length
  ·rw[qm (by exact_mod_cast h),ix h,br_t,Int.toNat_natCast,qy h,he _ (List.getElem_mem _) k h0 h1,qf,qp (by omega),qhc h]
   by_cases h2:left qda a[i] k<0
   ·rw[qm h2,hK0,if_neg]
    intro h3
    rw[qea (by omega)] at h2
    omega
   ·obtain ⟨e1,e2⟩:=qg7 h2 h0
    rw[qo h2,e1];dsimp only
    rw[qbj9 D n K0 K1 hK hK0 m (i+1) _ a he hm (by omega) (by omega) (by omega) (by omega)]
    congr 3
    push_cast
    split<;>split<;>omega
  ·rw[qo (by exact_mod_cast h),q9 h,hK]
   simp[h0]
theorem qbuc {X:Ext} (hX:XOk X) {n:Nat} (hn:W+3≤n) (a:List qfl) (k:Int) (ha:Wf (.sl qda) a) (hk:0≤k∧k≤maxLen):qyp (DD X n) a k=some ((left (.sl qda) a k,()),()):=by
 obtain ⟨n,rfl⟩:∃ k,n=k+1:=⟨n - 1,by omega⟩
 have hd:=qj
 have w1:a.length≤maxLen:=ha.1
 have hts:=qvs (t:=qda) a
 rw[qbkm hX]
 simp only[qzy,qzv,qu1]
 rw[qce (by omega) (by omega)]
 by_cases h:k - (a.length:Int)<0
 ·rw[qm h,qer (by omega)]
 ·rw[qo h]
  have:=qbj9 (DD X n) n (fun v w=>qsv (DD X n) n v w) (fun v=>qs5 (DD X n) n v) (fun _=>rfl) (fun _=>rfl) n 0 (k - a.length) a
   (fun x hx k h0 h1=>qbwf hX (by omega) x k (ha.2 x hx) ⟨h0,h1⟩) w1 (by omega) (by have:=qbn;omega) (by omega) (by omega)
  rw[show ((0:Nat):Int)=0 from rfl] at this
  rw[this,List.drop_zero]
  by_cases h2:(tot (.sl qda) a:Int)≤k
  ·rw[qea h2,if_pos (by omega)];congr 3;omega
  ·rw[qer h2,if_neg (by omega)]
theorem qbdo {X:Ext} (hX:XOk X) (N n:Nat) (hN:W+1≤N) (K:Int→List qfl→Option ((Int×Unit)×List qfl×Unit)):∀ (m i:Nat) (k:Int) (a:List qfl),a.length≤maxLen→i≤a.length→a.length - i<m→0≤k→k+((a.drop i).map (cnt qda)).sum≤maxLen→
  qgz (DD X N) n K m k i a=K (mkL (mkT qda) k (a.drop i)).1 (a.take i++(mkL (mkT qda) k (a.drop i)).2)
 | 0,_,_,_,_,_,h,_,_=>by omega
 | m+1,i,k,a,hm,hi,hf,hk,hkl=>by
  simp only[qgz,qtm]
  have hd:=qj
  by_cases h:i<a.length
  ·rw[qhc h] at hkl
   have hc:cnt qda a[i]=1+cnt qhb a[i].2.1+1:=by first | rfl | (simp only[cnt];omega)
   have t0:=qph hX hN (k) (by omega)
   have hc1:=ql5 qhb (k+1) a[i].2.1
   have t1:=qbmb hX hN a[i].2.1 (k+1) (by omega) (by omega)
   have w0:IntKind.wrap IntKind.i64 (k+1)=k+1:=qce (by omega) (by omega)
   have w1:IntKind.wrap IntKind.i64 ((mkT qhb (k+1) a[i].2.1).1+1)=(mkT qhb (k+1) a[i].2.1).1+1:=qce (by omega) (by omega)
   have wi:IntKind.wrap IntKind.i64 ((i:Int)+1)=((i+1:Nat):Int):=qp (by omega)
   rw[qm (by exact_mod_cast h)]
   simp only[ix h,br_t,t0,t1,w0,w1,wi,qf,List.length_set,Int.toNat_natCast,qvz h,qy h,List.set_set]
   refine Eq.trans (qbqe rfl) ?_
   have e:=qbdo hX N n hN K m (i+1) ((mkT qhb (k+1) a[i].2.1).1+1) (a.set i (q2y (k),(mkT qhb (k+1) a[i].2.1).2,decide (Int.tmod ((mkT qhb (k+1) a[i].2.1).1) 3=0),())) (by simpa using hm) (by simp;omega) (by simp;omega) (by omega) (by rw[List.drop_set_of_lt (by omega)];omega)
   refine Eq.trans e ?_
   rw[qle h,q7 h,List.drop_set_of_lt (by omega),List.append_assoc]
   rfl
  ·rw[qo (by exact_mod_cast h),q9 h,List.take_of_length_le (by omega)]
   simp only[mkL,List.append_nil]
theorem qbqi {X:Ext} (hX:XOk X) {n:Nat} (hn:W+2≤n) (a:List qfl) (k:Int) (ha:a.length≤maxLen) (hk:0≤k) (h:k+cnt (.sl qda) a≤maxLen) :
  qun (DD X n) a k=some (((mkT (.sl qda) k a).1,()),((mkT (.sl qda) k a).2,())):=by
 obtain ⟨n,rfl⟩:∃ k,n=k+1:=⟨n - 1,by omega⟩
 have hd:=qj
 rw[qbfq hX]
 simp only[qu8,qvo,qri]
 have:=qbdo hX n n (by omega) (fun v w=>qke (DD X n) n v w) n 0 k a ha (by omega) (by have:=qbn;omega) hk (by rw[List.drop_zero];exact h)
 rw[show ((0:Nat):Int)=0 from rfl] at this
 rw[this]
 simp only[List.take_zero,List.drop_zero,List.nil_append,qke,mkT]
end Go.G

namespace Go.G
open Go Go.V Go.Proofs
def qx (P:Nat→Bool):Nat→Nat→Bool
 | _,0=>false
 | i,k+1=>P i||qx P (i+1) k
theorem q2u {P:Nat→Bool}:∀ {k i:Nat},qx P i k=true↔∃ j,i≤j∧j<i+k∧P j=true
 | 0,i=>by simp[qx];intro j h1 h2;omega
 | k+1,i=>by
  simp only[qx,Bool.or_eq_true,q2u (k:=k) (i:=i+1)]
  constructor
  ·rintro (h | ⟨j,h1,h2,h3⟩)
   ·exact ⟨i,Nat.le_refl _,by omega,h⟩
   ·exact ⟨j,by omega,by omega,h3⟩
  ·rintro ⟨j,h1,h2,h3⟩
   rcases Nat.eq_or_lt_of_le h1 with rfl | h1
   ·exact .inl h3
   ·exact .inr ⟨j,by omega,by omega,h3⟩
theorem qej {P:Nat→Bool} {k i:Nat}:qx P i k=false↔∀ j,i≤j→j<i+k→P j=false:=by
 rw[←Bool.not_eq_true,q2u]
 constructor
 ·intro h j h1 h2
  cases hp:P j with
  | false=>rfl
  | true=>exact absurd ⟨j,h1,h2,hp⟩ h
 ·rintro h ⟨j,h1,h2,h3⟩
  rw[h j h1 h2] at h3;exact Bool.noConfusion h3
theorem qv6 {P Q:Nat→Bool}:∀ {k i:Nat},(∀ j,i≤j→j<i+k→P j=Q j)→qx P i k=qx Q i k
 | 0,_,_=>rfl
 | k+1,i,h=>by
  simp only[qx]
  rw[h i (Nat.le_refl _) (by omega),qv6 fun j h1 h2=>h j (by omega) (by omega)]
theorem scan {R:Type} {L:Nat→Nat→Option R} {N:Nat} {P:Nat→Bool} {A B:Option R}
  (hs:∀ m i,i≤N→L (m+1) i=if i<N then br (P i) A (L m (i+1)) else B):∀ m i,i≤N→N - i<m→L m i=br (qx P i (N - i)) A B
 | 0,_,_,h=>by omega
 | m+1,i,hi,hm=>by
  rw[hs m i hi]
  by_cases h:i<N
  ·rw[if_pos h]
   obtain ⟨k,hk⟩:∃ k,N - i=k+1:=⟨N - i - 1,by omega⟩
   rw[hk,scan hs m (i+1) (by omega) (by omega)]
   have:N - (i+1)=k:=by omega
   rw[this]
   show br (P i) A (br (qx P (i+1) k) A B)=br (P i||qx P (i+1) k) A B
   cases P i<;>rfl
  ·rw[if_neg h]
   have:N - i=0:=by omega
   rw[this];rfl
theorem qju {R:Type} {L:Nat→Nat→Option R} {N:Nat} {P:Nat→Bool} {A B:Option R}
  (hs:∀ m i,i≤N→L (m+1) i=if i<N then br (P i) A (L m (i+1)) else B) {m:Nat} (hm:N<m):L m 0=br (qx P 0 N) A B:=by
 have:=scan hs m 0 (by omega) (by omega)
 rwa [Nat.sub_zero] at this
def qbj (P:Nat→Bool):Nat→Nat→Option Nat
 | _,0=>none
 | i,k+1=>if P i=true then some i else qbj P (i+1) k
theorem qov {P:Nat→Bool}:∀ {k i j:Nat},qbj P i k=some j→i≤j∧j<i+k∧P j=true∧∀ l,i≤l→l<j→P l=false
 | 0,i,j,h=>by simp[qbj] at h
 | k+1,i,j,h=>by
  simp only[qbj] at h
  split at h
  ·rename_i hp
   simp only[Option.some.injEq] at h
   subst h
   exact ⟨Nat.le_refl _,by omega,hp,fun l h1 h2=>by omega⟩
  ·rename_i hp
   obtain ⟨h1,h2,h3,h4⟩:=qov h
   refine ⟨by omega,by omega,h3,fun l h5 h6=>?_⟩
   rcases Nat.eq_or_lt_of_le h5 with rfl | h5
   ·simpa using hp
   ·exact h4 l h5 h6
theorem q1e {P:Nat→Bool}:∀ {k i:Nat},qbj P i k=none→∀ j,i≤j→j<i+k→P j=false
 | 0,i,_,j,h1,h2=>by omega
 | k+1,i,h,j,h1,h2=>by
  simp only[qbj] at h
  split at h
  ·simp at h
  ·rename_i hp
   rcases Nat.eq_or_lt_of_le h1 with rfl | h1
   ·simpa using hp
   ·exact q1e h j (by omega) (by omega)
theorem qbyq {R:Type} {L:Nat→Nat→Option R} {N:Nat} {P:Nat→Bool} {A:Nat→Option R} {B:Option R}
  (hs:∀ m i,i≤N→L (m+1) i=if i<N then br (P i) (A i) (L m (i+1)) else B):∀ m i,i≤N→N - i<m→L m i=match qbj P i (N - i) with | some j=>A j | none=>B
 | 0,_,_,h=>by omega
 | m+1,i,hi,hm=>by
  rw[hs m i hi]
  by_cases h:i<N
  ·rw[if_pos h]
   obtain ⟨k,hk⟩:∃ k,N - i=k+1:=⟨N - i - 1,by omega⟩
   rw[hk]
   simp only[qbj]
   by_cases hp:P i=true
   ·rw[if_pos hp,hp];rfl
   ·rw[if_neg hp,qbyq hs m (i+1) (by omega) (by omega)]
    simp only[Bool.not_eq_true] at hp
    have:N - (i+1)=k:=by omega
    rw[this,hp];rfl
  ·rw[if_neg h]
   have:N - i=0:=by omega
   rw[this];rfl
theorem qvr {R:Type} {L:Nat→Nat→Option R} {N:Nat} {P:Nat→Bool} {A:Nat→Option R} {B:Option R}
  (hs:∀ m i,i≤N→L (m+1) i=if i<N then br (P i) (A i) (L m (i+1)) else B) {m:Nat} (hm:N<m):L m 0=match qbj P 0 N with | some j=>A j | none=>B:=by
 have:=qbyq hs m 0 (by omega) (by omega)
 rwa [Nat.sub_zero] at this
theorem qj5 (a b:Bool):(bif a then b else false)=(a&&b):=by cases a<;>rfl
theorem qbti (a b:Bool):(bif a then true else b)=(a||b):=by cases a<;>rfl
def inR (x a b:Int):Bool:=decide (a≤x)&&decide (x≤b)
theorem qzf {X:Ext} (hX:XOk X) {n:Nat} (hn:1≤n) (x a b:Int):qf1 (DD X n) x a b=some ((inR x a b,()),()):=by
 obtain ⟨n,rfl⟩:∃ k,n=k+1:=⟨n - 1,by omega⟩
 rw[qbss hX]
 simp only[q8h,qbg5,qj5,inR]
theorem qy0 {X:Ext} (hX:XOk X) {n:Nat} (hn:1≤n) (x a b:Int):qf0 (DD X n) x a b=some ((inR x a b,()),()):=by
 obtain ⟨n,rfl⟩:∃ k,n=k+1:=⟨n - 1,by omega⟩
 rw[qbs8 hX]
 simp only[q8i,qbhh,qj5,inR]
def qh9 (s:ByteArray) (i:Nat):Int:=((s.data.getD i (UInt8.ofNat 0)).toNat:Int)
def qvv (s:ByteArray):Bool:=!(qx (fun i=>decide (qh9 s i<97)||decide (qh9 s i>122)) 0 s.size)&&inR s.size 1 12
theorem ixs {s:ByteArray} {i:Nat} (h:i<s.size):(decide (0≤(i:Int))&&decide ((i:Int)<(s.size:Int)))=true:=by
 simp only[Bool.and_eq_true,decide_eq_true_eq];omega
theorem qbc5 {X:Ext} (hX:XOk X) {n:Nat} (hn:W+2≤n) (s:ByteArray) (hs:s.size≤maxLen):qpf (DD X n) s=some ((qvv s,()),()):=by
 obtain ⟨n,rfl⟩:∃ k,n=k+1:=⟨n - 1,by omega⟩
 have hd:=qj
 have hW:=qbn
 rw[qbi2 hX]
 simp only[qxi,qwh,qst]
 refine Eq.trans (qju (L:=fun m i=>qhj (DD X n) n _ _ m s s.size (i:Int)) (N:=s.size) (P:=fun i=>decide (qh9 s i<97)||decide (qh9 s i>122))
  (A:=some ((false,()),())) (B:=some ((inR s.size 1 12,()),())) (fun m i hi=>?_) (m:=n) (by omega)) ?_
 ·simp only[qhj,qu2]
  by_cases h:i<s.size
  ·rw[qm (by exact_mod_cast h),ixs h,br_t,br_t,Int.toNat_natCast,qp (by omega),if_pos h]
   change br (decide (qh9 s i<97)) _ (br (decide (qh9 s i>122)) _ _)=_
   by_cases h1:qh9 s i<97
   ·rw[qm h1,decide_eq_true h1];rfl
   ·rw[qo h1,decide_eq_false h1]
    by_cases h2:qh9 s i>122
    ·rw[qm h2,decide_eq_true h2];rfl
    ·rw[qo h2,decide_eq_false h2];rfl
  ·rw[qo (by exact_mod_cast h),if_neg h]
   simp only[qrg,qzf hX (show 1≤n by omega),qf]
 ·unfold qvv
  cases qx (fun i=>decide (qh9 s i<97)||decide (qh9 s i>122)) 0 s.size<;>rfl
theorem qbdw {X:Ext} (hX:XOk X) {n:Nat} (hn:W+2≤n) (s:ByteArray) (hs:s.size≤maxLen):qpd (DD X n) s=some ((qvv s,()),()):=by
 obtain ⟨n,rfl⟩:∃ k,n=k+1:=⟨n - 1,by omega⟩
 have hd:=qj
 have hW:=qbn
 rw[qbi3 hX]
 simp only[qwd,qxc,qs3]
 refine Eq.trans (qju (L:=fun m i=>qhi (DD X n) n _ _ m s (i:Int)) (N:=s.size) (P:=fun i=>decide (qh9 s i<97)||decide (qh9 s i>122))
  (A:=some ((false,()),())) (B:=some ((inR s.size 1 12,()),())) (fun m i hi=>?_) (m:=n) (by omega)) ?_
 ·simp only[qhi,qvn]
  by_cases h:i<s.size
  ·rw[qm (by exact_mod_cast h),ixs h,br_t,br_t,Int.toNat_natCast,qp (by omega),if_pos h]
   change br (decide (qh9 s i<97)) _ (br (decide (qh9 s i>122)) _ _)=_
   by_cases h1:qh9 s i<97
   ·rw[qm h1,decide_eq_true h1];rfl
   ·rw[qo h1,decide_eq_false h1]
    by_cases h2:qh9 s i>122
    ·rw[qm h2,decide_eq_true h2];rfl
    ·rw[qo h2,decide_eq_false h2];rfl
  ·rw[qo (by exact_mod_cast h),if_neg h]
   simp only[qq5,qy0 hX (show 1≤n by omega),qf]
 ·unfold qvv
  cases qx (fun i=>decide (qh9 s i<97)||decide (qh9 s i>122)) 0 s.size<;>rfl
def has (l:List Int) (x:Int):Bool:=qx (fun j=>decide (x=l.getD j 0)) 0 l.length
theorem qbt6 {X:Ext} (hX:XOk X) {n:Nat} (hn:W+2≤n) (l:List Int) (x:Int) (hl:l.length≤maxLen):qkh (DD X n) l x=some ((has l x,()),()):=by
 obtain ⟨n,rfl⟩:∃ k,n=k+2:=⟨n - 2,by omega⟩
 have hd:=qj
 have hW:=qbn
 rw[q5u hX]
 simp only[qkc,qrr]
 have e:qny (DD X (n+1)) l x=some ((match qbj (fun j=>decide (x=l.getD j 0)) 0 l.length with | some j=>(j:Int) | none=>-1,()),()):=by
  rw[q8m hX]
  simp only[qn1,qnx,qlh]
  refine Eq.trans (qvr (L:=fun m i=>qd4 (DD X n) n _ _ m l x l.length (i:Int)) (N:=l.length) (P:=fun j=>decide (x=l.getD j 0))
   (A:=fun j=>some (((j:Int),()),())) (B:=some ((-1,()),())) (fun m i hi=>?_) (m:=n) (by omega)) ?_
  ·simp only[qd4,ql1]
   by_cases h:i<l.length
   ·rw[qm (by exact_mod_cast h),ix h,br_t,Int.toNat_natCast,qp (by omega),if_pos h];rfl
   ·rw[qo (by exact_mod_cast h),if_neg h];rfl
  ·cases qbj (fun j=>decide (x=l.getD j 0)) 0 l.length<;>rfl
 rw[e,qf]
 congr 3
 unfold has
 cases hf:qbj (fun j=>decide (x=l.getD j 0)) 0 l.length with
 | none=>
  have:=q1e hf
  rw[qej.2 this];rfl
 | some j=>
  obtain ⟨h1,h2,h3,_⟩:=qov hf
  rw[q2u.2 ⟨j,h1,h2,h3⟩]
  simp
def qfn (n:Nat) (l:List Int) (most:Int):Bool:=!(qx (fun i=>!inR (l.getD i 0) 0 ((n:Int) - 1)||has (l.take i) (l.getD i 0)) 0 l.length)&&inR l.length 1 most
theorem q9v {X:Ext} (hX:XOk X) {n:Nat} (hn:W+3≤n) (s:List Col×List Int×List qfl×Unit) (l:List Int) (most:Int) (hc:s.1.length≤maxLen) (hl:l.length≤maxLen) :
  qr3 (DD X n) s l most=some ((qfn s.1.length l most,()),()):=by
 obtain ⟨n,rfl⟩:∃ k,n=k+1:=⟨n - 1,by omega⟩
 have hd:=qj
 have hW:=qbn
 rw[qbl9 hX]
 simp only[qzi,qx8,qub]
 refine Eq.trans (qju (L:=fun m i=>qis (DD X n) n _ _ m l most l l.length (i:Int) s) (N:=l.length) (P:=fun i=>!inR (l.getD i 0) 0 ((s.1.length:Int) - 1)||has (l.take i) (l.getD i 0))
  (A:=some ((false,()),())) (B:=some ((inR l.length 1 most,()),())) (fun m i hi=>?_) (m:=n) (by omega)) ?_
 ·simp only[qis,qxb]
  by_cases h:i<l.length
  ·have hc1:(decide ((0:Nat)≤0)&&decide ((0:Int)≤(i:Int))&&decide ((i:Int)≤(l.length:Int)))=true:=by
    rw[decide_eq_true (by omega),decide_eq_true (by omega),decide_eq_true (by omega)];rfl
   rw[qm (by exact_mod_cast h),ix h,br_t,qzf hX (show 1≤n by omega),qf,hc1,br_t,Int.toNat_natCast,qp (by omega),if_pos h,qce (by omega) (by omega)]
   have ht:(List.drop (Int.toNat 0) (List.take i l))=l.take i:=rfl
   rw[ht,qbt6 hX (by omega) _ _ (by rw[List.length_take];omega),qf]
   dsimp only
   cases inR (l.getD i 0) 0 ((s.1.length:Int) - 1)
   ·rfl
   ·cases has (l.take i) (l.getD i 0)<;>rfl
  ·rw[qo (by exact_mod_cast h),if_neg h]
   simp only[qso,qzf hX (show 1≤n by omega),qf]
 ·unfold qfn
  cases qx (fun i=>!inR (l.getD i 0) 0 ((s.1.length:Int) - 1)||has (l.take i) (l.getD i 0)) 0 l.length<;>rfl
theorem qbw2 {l:List Int} {i:Nat} (hi:i≤l.length) (x:Int):has (l.take i) x=qx (fun k=>decide (l.getD k 0=x)) 0 i:=by
 unfold has
 rw[List.length_take,Nat.min_eq_left hi]
 refine qv6 fun j _ h=>?_
 have e:(l.take i).getD j 0=l.getD j 0:=by
  simp only[List.getD,List.getElem?_take]
  rw[if_pos (by omega)]
 rw[e]
 by_cases h:x=l.getD j 0
 ·rw[decide_eq_true h,decide_eq_true h.symm]
 ·rw[decide_eq_false h,decide_eq_false fun k=>h k.symm]
theorem q9b {X:Ext} (hX:XOk X) {n:Nat} (hn:W+3≤n) (s:List Col×List Int×List qfl×Unit) (l:List Int) (most:Int) (hc:s.1.length≤maxLen) (hl:l.length≤maxLen) :
  qpq (DD X n) s l most=some ((qfn s.1.length l most,()),()):=by
 obtain ⟨n,rfl⟩:∃ k,n=k+1:=⟨n - 1,by omega⟩
 have hd:=qj
 have hW:=qbn
 rw[qbi1 hX]
 simp only[qwp,qw3,qtb]
 refine Eq.trans (qju (L:=fun m i=>qek (DD X n) n _ _ m l most (i:Int) s) (N:=l.length) (P:=fun i=>!inR (l.getD i 0) 0 ((s.1.length:Int) - 1)||has (l.take i) (l.getD i 0))
  (A:=some ((false,()),())) (B:=some ((inR l.length 1 most,()),())) (fun m i hi=>?_) (m:=n) (by omega)) ?_
 ·simp only[qek,quj]
  by_cases h:i<l.length
  ·rw[qm (by exact_mod_cast h),ix h,br_t,qy0 hX (show 1≤n by omega),qf,Int.toNat_natCast,if_pos h,qce (by omega) (by omega)]
   dsimp only
   cases hin:inR (l.getD i 0) 0 ((s.1.length:Int) - 1)
   ·rfl
   ·rw[Bool.not_true,br_f,Bool.false_or,qbw2 (by omega)]
    simp only[qs4]
    refine Eq.trans (qju (L:=fun q k=>qhu (DD X n) n _ _ q l most (i:Int) (k:Int) s) (N:=i) (P:=fun k=>decide (l.getD k 0=l.getD i 0))
     (A:=some ((false,()),())) (B:=qek (DD X n) n (fun v0_0 v0_1 v0_2=>qrm (DD X n) n v0_0 v0_1 v0_2) (fun v1_0 v1_1=>qlp (DD X n) n v1_0 v1_1) m l most ((i+1:Nat):Int) s) (fun q k hk=>?_) (m:=n) (by omega)) rfl
    simp only[qhu,qum]
    by_cases h2:k<i
    ·rw[qm (by exact_mod_cast h2),ix (i:=k) (by omega),br_t,ix h,br_t,Int.toNat_natCast,Int.toNat_natCast,qp (by omega),if_pos h2];rfl
    ·rw[qo (by exact_mod_cast h2),if_neg h2]
     simp only[qrk]
     rw[qp (by omega)]
  ·rw[qo (by exact_mod_cast h),if_neg h]
   simp only[qlp,qy0 hX (show 1≤n by omega),qf]
 ·unfold qfn
  cases qx (fun i=>!inR (l.getD i 0) 0 ((s.1.length:Int) - 1)||has (l.take i) (l.getD i 0)) 0 l.length<;>rfl
end Go.G

namespace Go.G
set_option maxRecDepth 100000
open Go Go.V Go.Proofs
theorem q3f (P:Nat→Bool) (n:Nat):decide ((match qbj P 0 n with | some j=>(j:Int) | none=>-1)≥0)=qx P 0 n:=by
 cases hf:qbj P 0 n with
 | none=>rw[qej.2 (q1e hf)];rfl
 | some j=>
  obtain ⟨h1,h2,h3,_⟩:=qov hf
  rw[q2u.2 ⟨j,h1,h2,h3⟩]
  simp
theorem qbxg {X:Ext} (hX:XOk X) {n:Nat} (hn:W+1≤n) (l:List (Col)) (hl:l.length≤maxLen) (c:Clo) (P:Nat→Bool)
  (hP:∀ i,i<l.length→qbr ctx (DD X (n - 1)) c [CapV.val (Ty.pair Ty.str (Ty.pair (Ty.int IntKind.i64) (Ty.pair Ty.bool Ty.unit))) (l.getD i (ByteArray.empty,0,false,()))] Ty.bool=some (P i)) :
  qfi (DD X n) l c=some ((match qbj P 0 l.length with | some j=>(j:Int) | none=>-1,()),()):=by
 obtain ⟨n,rfl⟩:∃ k,n=k+1:=⟨n - 1,by omega⟩
 have hd:=qj
 have hW:=qbn
 rw[qs6 hX]
 simp only[qfb,qfd,qen]
 refine Eq.trans (qvr (L:=fun m i=>qb4 (DD X n) n c _ _ m l l.length (i:Int)) (N:=l.length) (P:=P)
  (A:=fun j=>some (((j:Int),()),())) (B:=some ((-1,()),())) (fun m i hi=>?_) (m:=n) (by omega)) ?_
 ·simp only[qb4,qez]
  by_cases h:i<l.length
  ·have hp:qbr ctx (DD X n) c [CapV.val (Ty.pair Ty.str (Ty.pair (Ty.int IntKind.i64) (Ty.pair Ty.bool Ty.unit))) (l.getD i (ByteArray.empty,0,false,()))] Ty.bool=some (P i):=hP i h
   rw[qm (by exact_mod_cast h),ix h,br_t,Int.toNat_natCast,hp,qf,qp (by omega),if_pos h];rfl
  ·rw[qo (by exact_mod_cast h),if_neg h];rfl
 ·cases qbj P 0 l.length<;>rfl
theorem qbuy {X:Ext} (hX:XOk X) {n:Nat} (hn:W+1≤n) (l:List (qfl)) (hl:l.length≤maxLen) (c:Clo) (P:Nat→Bool)
  (hP:∀ i,i<l.length→qbr ctx (DD X (n - 1)) c [CapV.val (Ty.pair Ty.str (Ty.pair (Ty.sl (Ty.int IntKind.i64)) (Ty.pair Ty.bool Ty.unit))) (l.getD i (ByteArray.empty,[],false,()))] Ty.bool=some (P i)) :
  qeg (DD X n) l c=some ((match qbj P 0 l.length with | some j=>(j:Int) | none=>-1,()),()):=by
 obtain ⟨n,rfl⟩:∃ k,n=k+1:=⟨n - 1,by omega⟩
 have hd:=qj
 have hW:=qbn
 rw[qqc hX]
 simp only[qd8,qee,qdv]
 refine Eq.trans (qvr (L:=fun m i=>qbt (DD X n) n c _ _ m l l.length (i:Int)) (N:=l.length) (P:=P)
  (A:=fun j=>some (((j:Int),()),())) (B:=some ((-1,()),())) (fun m i hi=>?_) (m:=n) (by omega)) ?_
 ·simp only[qbt,qdz]
  by_cases h:i<l.length
  ·have hp:qbr ctx (DD X n) c [CapV.val (Ty.pair Ty.str (Ty.pair (Ty.sl (Ty.int IntKind.i64)) (Ty.pair Ty.bool Ty.unit))) (l.getD i (ByteArray.empty,[],false,()))] Ty.bool=some (P i):=hP i h
   rw[qm (by exact_mod_cast h),ix h,br_t,Int.toNat_natCast,hp,qf,qp (by omega),if_pos h];rfl
  ·rw[qo (by exact_mod_cast h),if_neg h];rfl
 ·cases qbj P 0 l.length<;>rfl
theorem qbxd {X:Ext} (hX:XOk X) {n:Nat} (hn:W+1≤n) (l:List (Int)) (hl:l.length≤maxLen) (c:Clo) (P:Nat→Bool)
  (hP:∀ i,i<l.length→qbr ctx (DD X (n - 1)) c [CapV.val (Ty.int IntKind.i64) (l.getD i 0)] Ty.bool=some (P i)) :
  qj6 (DD X n) l c=some ((match qbj P 0 l.length with | some j=>(j:Int) | none=>-1,()),()):=by
 obtain ⟨n,rfl⟩:∃ k,n=k+1:=⟨n - 1,by omega⟩
 have hd:=qj
 have hW:=qbn
 rw[q4b hX]
 simp only[qj8,qj7,qio]
 refine Eq.trans (qvr (L:=fun m i=>qdc (DD X n) n c _ _ m l l.length (i:Int)) (N:=l.length) (P:=P)
  (A:=fun j=>some (((j:Int),()),())) (B:=some ((-1,()),())) (fun m i hi=>?_) (m:=n) (by omega)) ?_
 ·simp only[qdc,qjq]
  by_cases h:i<l.length
  ·have hp:qbr ctx (DD X n) c [CapV.val (Ty.int IntKind.i64) (l.getD i 0)] Ty.bool=some (P i):=hP i h
   rw[qm (by exact_mod_cast h),ix h,br_t,Int.toNat_natCast,hp,qf,qp (by omega),if_pos h];rfl
  ·rw[qo (by exact_mod_cast h),if_neg h];rfl
 ·cases qbj P 0 l.length<;>rfl
theorem qbu8 {X:Ext} (hX:XOk X) {n:Nat} (hn:W+1≤n) (l:List (Value)) (hl:l.length≤maxLen) (c:Clo) (P:Nat→Bool)
  (hP:∀ i,i<l.length→qbr ctx (DD X (n - 1)) c [CapV.val (Ty.pair (Ty.int IntKind.i64) (Ty.pair (Ty.int IntKind.i64) (Ty.pair Ty.str Ty.unit))) (l.getD i (0,0,ByteArray.empty,()))] Ty.bool=some (P i)) :
  qdy (DD X n) l c=some ((match qbj P 0 l.length with | some j=>(j:Int) | none=>-1,()),()):=by
 obtain ⟨n,rfl⟩:∃ k,n=k+1:=⟨n - 1,by omega⟩
 have hd:=qj
 have hW:=qbn
 rw[qo8 hX]
 simp only[qdw,qd0,qdq]
 refine Eq.trans (qvr (L:=fun m i=>qbq (DD X n) n c _ _ m l l.length (i:Int)) (N:=l.length) (P:=P)
  (A:=fun j=>some (((j:Int),()),())) (B:=some ((-1,()),())) (fun m i hi=>?_) (m:=n) (by omega)) ?_
 ·simp only[qbq,qds]
  by_cases h:i<l.length
  ·have hp:qbr ctx (DD X n) c [CapV.val (Ty.pair (Ty.int IntKind.i64) (Ty.pair (Ty.int IntKind.i64) (Ty.pair Ty.str Ty.unit))) (l.getD i (0,0,ByteArray.empty,()))] Ty.bool=some (P i):=hP i h
   rw[qm (by exact_mod_cast h),ix h,br_t,Int.toNat_natCast,hp,qf,qp (by omega),if_pos h];rfl
  ·rw[qo (by exact_mod_cast h),if_neg h];rfl
 ·cases qbj P 0 l.length<;>rfl
theorem qbw3 {X:Ext} (hX:XOk X) {n:Nat} (hn:W+1≤n) (l:List (List Value)) (hl:l.length≤maxLen) (c:Clo) (P:Nat→Bool)
  (hP:∀ i,i<l.length→qbr ctx (DD X (n - 1)) c [CapV.val (Ty.sl (Ty.pair (Ty.int IntKind.i64) (Ty.pair (Ty.int IntKind.i64) (Ty.pair Ty.str Ty.unit)))) (l.getD i [])] Ty.bool=some (P i)) :
  qec (DD X n) l c=some ((match qbj P 0 l.length with | some j=>(j:Int) | none=>-1,()),()):=by
 obtain ⟨n,rfl⟩:∃ k,n=k+1:=⟨n - 1,by omega⟩
 have hd:=qj
 have hW:=qbn
 rw[qp2 hX]
 simp only[qef,qeb,qdt]
 refine Eq.trans (qvr (L:=fun m i=>qbv (DD X n) n c _ _ m l l.length (i:Int)) (N:=l.length) (P:=P)
  (A:=fun j=>some (((j:Int),()),())) (B:=some ((-1,()),())) (fun m i hi=>?_) (m:=n) (by omega)) ?_
 ·simp only[qbv,qdx]
  by_cases h:i<l.length
  ·have hp:qbr ctx (DD X n) c [CapV.val (Ty.sl (Ty.pair (Ty.int IntKind.i64) (Ty.pair (Ty.int IntKind.i64) (Ty.pair Ty.str Ty.unit)))) (l.getD i [])] Ty.bool=some (P i):=hP i h
   rw[qm (by exact_mod_cast h),ix h,br_t,Int.toNat_natCast,hp,qf,qp (by omega),if_pos h];rfl
  ·rw[qo (by exact_mod_cast h),if_neg h];rfl
 ·cases qbj P 0 l.length<;>rfl
theorem qbg8 {X:Ext} (hX:XOk X) {n:Nat} (hn:W+2≤n) (l:List (qfl)) (hl:l.length≤maxLen) (c:Clo) (P:Nat→Bool)
  (hP:∀ i,i<l.length→qbr ctx (DD X (n - 2)) c [CapV.val (Ty.pair Ty.str (Ty.pair (Ty.sl (Ty.int IntKind.i64)) (Ty.pair Ty.bool Ty.unit))) (l.getD i (ByteArray.empty,[],false,()))] Ty.bool=some (P i)) :
  qcs (DD X n) l c=some ((qx P 0 l.length,()),()):=by
 obtain ⟨n,rfl⟩:∃ k,n=k+1:=⟨n - 1,by omega⟩
 rw[qoe hX]
 simp only[qdo,qge]
 rw[qbuy hX (n:=n) (by omega) l hl c P (fun i h=>hP i h),qf]
 congr 3
 exact q3f P l.length
theorem qbv2 {X:Ext} (hX:XOk X) {n:Nat} (hn:W+2≤n) (l:List (Int)) (hl:l.length≤maxLen) (c:Clo) (P:Nat→Bool)
  (hP:∀ i,i<l.length→qbr ctx (DD X (n - 2)) c [CapV.val (Ty.int IntKind.i64) (l.getD i 0)] Ty.bool=some (P i)) :
  qh8 (DD X n) l c=some ((qx P 0 l.length,()),()):=by
 obtain ⟨n,rfl⟩:∃ k,n=k+1:=⟨n - 1,by omega⟩
 rw[q0i hX]
 simp only[qh7,qn7]
 rw[qbxd hX (n:=n) (by omega) l hl c P (fun i h=>hP i h),qf]
 congr 3
 exact q3f P l.length
theorem qbs5 {X:Ext} (hX:XOk X) {n:Nat} (hn:W+2≤n) (l:List (Value)) (hl:l.length≤maxLen) (c:Clo) (P:Nat→Bool)
  (hP:∀ i,i<l.length→qbr ctx (DD X (n - 2)) c [CapV.val (Ty.pair (Ty.int IntKind.i64) (Ty.pair (Ty.int IntKind.i64) (Ty.pair Ty.str Ty.unit))) (l.getD i (0,0,ByteArray.empty,()))] Ty.bool=some (P i)) :
  qdk (DD X n) l c=some ((qx P 0 l.length,()),()):=by
 obtain ⟨n,rfl⟩:∃ k,n=k+1:=⟨n - 1,by omega⟩
 rw[qn5 hX]
 simp only[qdj,qf4]
 rw[qbu8 hX (n:=n) (by omega) l hl c P (fun i h=>hP i h),qf]
 congr 3
 exact q3f P l.length
theorem qbwt {X:Ext} (hX:XOk X) {n:Nat} (hn:W+2≤n) (l:List (List Value)) (hl:l.length≤maxLen) (c:Clo) (P:Nat→Bool)
  (hP:∀ i,i<l.length→qbr ctx (DD X (n - 2)) c [CapV.val (Ty.sl (Ty.pair (Ty.int IntKind.i64) (Ty.pair (Ty.int IntKind.i64) (Ty.pair Ty.str Ty.unit)))) (l.getD i [])] Ty.bool=some (P i)) :
  qca (DD X n) l c=some ((qx P 0 l.length,()),()):=by
 obtain ⟨n,rfl⟩:∃ k,n=k+1:=⟨n - 1,by omega⟩
 rw[qof hX]
 simp only[qdp,qf9]
 rw[qbw3 hX (n:=n) (by omega) l hl c P (fun i h=>hP i h),qf]
 congr 3
 exact q3f P l.length
end Go.G

namespace Go.G
set_option maxRecDepth 100000
open Go Go.V Go.Proofs
abbrev qg2:Ty:=.pair (.sl ColT) (.pair (.sl (.int .i64)) (.pair (.sl qda) .unit))
abbrev qcw:=List Col×List Int×List qfl×Unit
def M:Nat:=4194304
theorem qcy:M=4194304:=rfl
structure SchSm (s:qcw):Prop where
 cols:s.1.length≤M
 names:∀ c∈s.1,c.1.size≤M
 key:s.2.1.length≤M
 ixs:s.2.2.1.length≤M
 ixn:∀ x∈s.2.2.1,x.1.size≤M
 ixc:∀ x∈s.2.2.1,x.2.1.length≤M
abbrev cd:Col:=(ByteArray.empty,0,false,())
abbrev xd:qfl:=(ByteArray.empty,[],false,())
theorem qdl {α:Type} {l:List α} {i:Nat} {d:α} (h:i<l.length):l.getD i d∈l:=by rw[qy h];exact List.getElem_mem _
def qbp1 (cs:List Col) (name:ByteArray):Int:=match qbj (fun i=>decide ((cs.getD i cd).1=name)) 0 cs.length with | some j=>(j:Int) | none=>-1
theorem qbvs (D:Den ctx) (name:ByteArray) (x:Col):qbr ctx D (Clo.mk 196 [CapV.rptr Ty.str name]) [CapV.val (Ty.pair Ty.str (Ty.pair (Ty.int IntKind.i64) (Ty.pair Ty.bool Ty.unit))) x] Ty.bool=(q86 D x name).bind fun r=>some r.1.1:=by kernel_rfl
theorem qbsi {X:Ext} (hX:XOk X) {n:Nat} (hn:W+3≤n) (s:qcw) (hs:SchSm s) (name:ByteArray):q6a (DD X n) s name=some ((qbp1 s.1 name,()),()):=by
 obtain ⟨n,rfl⟩:∃ k,n=k+1:=⟨n - 1,by omega⟩
 have hd:=qj
 have hM:=qcy
 have:=hs.cols
 rw[qbra hX]
 simp only[q6i,qbcy]
 rw[qbxg hX (n:=n) (by omega) s.1 (by omega) _ (fun i=>decide ((s.1.getD i cd).1=name)) (fun i h=>by
  obtain ⟨n,rfl⟩:∃ k,n=k+2:=⟨n - 2,by omega⟩
  rw[qbvs]
  rw[show n+2 - 1=n+1 from rfl,qbnv hX]
  simp only[q1i,q89,Option.bind_some,qfo]),qf]
 rfl
theorem qbsg {X:Ext} (hX:XOk X) {n:Nat} (hn:W+1≤n) (s:qcw) (hs:SchSm s) (name:ByteArray):q68 (DD X n) s name=some ((qbp1 s.1 name,()),()):=by
 obtain ⟨n,rfl⟩:∃ k,n=k+1:=⟨n - 1,by omega⟩
 have hd:=qj
 have hW:=qbn
 have hM:=qcy
 have:=hs.cols
 rw[qbre hX]
 simp only[q6m,q6g,q1c]
 refine Eq.trans (qvr (L:=fun m i=>qmc (DD X n) n _ _ m name (i:Int) s) (N:=s.1.length) (P:=fun i=>decide ((s.1.getD i cd).1=name))
  (A:=fun j=>some (((j:Int),()),())) (B:=some ((-1,()),())) (fun m i hi=>?_) (m:=n) (by omega)) ?_
 ·simp only[qmc,q3r]
  by_cases h:i<s.1.length
  ·rw[qm (by exact_mod_cast h),ix h,br_t,Int.toNat_natCast,qp (by omega),if_pos h,qfo];rfl
  ·rw[qo (by exact_mod_cast h),if_neg h];rfl
 ·unfold qbp1
  cases qbj (fun i=>decide ((s.1.getD i cd).1=name)) 0 s.1.length<;>rfl
def q6f (cs:List Col) (i:Nat):Bool:=!qvv (cs.getD i cd).1||(!inR (cs.getD i cd).2.1 1 3||!decide (qbp1 cs (cs.getD i cd).1=(i:Int)))
def qv9 (nc:Nat) (xs:List qfl) (i:Nat):Bool:=!qvv (xs.getD i xd).1||(!qfn nc (xs.getD i xd).2.1 3||qx (fun k=>decide ((xs.getD k xd).1=(xs.getD i xd).1)) 0 i)
def q55 (cs:List Col) (key:List Int):Bool:=qx (fun j=>(cs.getD (key.getD j 0).toNat cd).2.2.1) 0 key.length
def qlf (s:qcw):Bool:=
 !qx (q6f s.1) 0 s.1.length&&(!qx (qv9 s.1.length s.2.2.1) 0 s.2.2.1.length&&(inR s.1.length 1 5&&(qfn s.1.length s.2.1 4&&(!q55 s.1 s.2.1&&decide ((s.2.2.1.length:Int)≤3)))))
theorem qbov {n:Nat} {l:List Int} {most:Int} (h:qfn n l most=true) {j:Nat} (hj:j<l.length):0≤l.getD j 0∧l.getD j 0<n:=by
 simp only[qfn,Bool.and_eq_true,Bool.not_eq_true'] at h
 have:=qej.1 h.1 j (by omega) (by omega)
 simp only[Bool.or_eq_false_iff,Bool.not_eq_false',inR,Bool.and_eq_true,decide_eq_true_eq] at this
 omega
theorem q0y (a b:Int):(a != b)=!decide (a=b):=by by_cases h:a=b<;>simp[h]
theorem qbu6 (D:Den ctx) (y x:qfl):qbr ctx D (Clo.mk 149 [CapV.rptr (Ty.pair Ty.str (Ty.pair (Ty.sl (Ty.int IntKind.i64)) (Ty.pair Ty.bool Ty.unit))) y]) [CapV.val (Ty.pair Ty.str (Ty.pair (Ty.sl (Ty.int IntKind.i64)) (Ty.pair Ty.bool Ty.unit))) x] Ty.bool=(q4y D x y).bind fun r=>some r.1.1:=by kernel_rfl
theorem qbs9 (D:Den ctx) (s:qcw) (x:Int):qbr ctx D (Clo.mk 151 [CapV.rptr (Ty.pair (Ty.sl (Ty.pair Ty.str (Ty.pair (Ty.int IntKind.i64) (Ty.pair Ty.bool Ty.unit)))) (Ty.pair (Ty.sl (Ty.int IntKind.i64)) (Ty.pair (Ty.sl (Ty.pair Ty.str (Ty.pair (Ty.sl (Ty.int IntKind.i64)) (Ty.pair Ty.bool Ty.unit)))) Ty.unit))) s]) [CapV.val (Ty.int IntKind.i64) x] Ty.bool=(q5e D x s).bind fun r=>some r.1.1:=by kernel_rfl
theorem q80 {X:Ext} (hX:XOk X) {n:Nat} (hn:W+5≤n) (s:qcw) (hs:SchSm s):qr2 (DD X n) s=some ((qlf s,()),()):=by
 obtain ⟨n,rfl⟩:∃ k,n=k+1:=⟨n - 1,by omega⟩
 have hd:=qj
 have hW:=qbn
 have hM:=qcy
 have h1:=hs.cols
 have h2:=hs.ixs
 have h3:=hs.key
 rw[qbj1 hX]
 simp only[qy7,qya,quv]
 refine Eq.trans (qju (L:=fun m i=>qij (DD X n) n _ _ m s.1 s.1.length (i:Int) s) (N:=s.1.length) (P:=q6f s.1)
  (A:=some ((false,()),())) (B:=br (qx (qv9 s.1.length s.2.2.1) 0 s.2.2.1.length) (some ((false,()),())) (some ((inR s.1.length 1 5&&(qfn s.1.length s.2.1 4&&(!q55 s.1 s.2.1&&decide ((s.2.2.1.length:Int)≤3))),()),()))) (fun m i hi=>?_) (m:=n) (by omega)) ?_
 ·simp only[qij,qxh]
  by_cases h:i<s.1.length
  ·have hsz:=hs.names _ (qdl (d:=cd) h)
   rw[qm (by exact_mod_cast h),ix h,br_t,Int.toNat_natCast,qbc5 hX (by omega) _ (Nat.le_trans hsz (by omega)),qf,qzf hX (by omega),qf,qbsi hX (by omega) s hs,qf,qp (by omega),if_pos h,q0y]
   dsimp only[q6f]
   cases qvv (s.1.getD i cd).1
   ·rfl
   ·cases inR (s.1.getD i cd).2.1 1 3
    ·rfl
    ·rw[Bool.not_true,br_f,br_f,Bool.false_or,Bool.false_or];rfl
  ·rw[qo (by exact_mod_cast h),if_neg h]
   simp only[qta,quz]
   refine (qju (L:=fun m i=>qjd (DD X n) n _ _ m s.2.2.1 s.2.2.1.length (i:Int) s) (N:=s.2.2.1.length) (P:=qv9 s.1.length s.2.2.1)
    (A:=some ((false,()),())) (B:=some ((inR s.1.length 1 5&&(qfn s.1.length s.2.1 4&&(!q55 s.1 s.2.1&&decide ((s.2.2.1.length:Int)≤3))),()),())) (fun m i hi=>?_) (m:=n) (by omega))
   simp only[qjd,qwx]
   by_cases h:i<s.2.2.1.length
   ·have hm:=qdl (d:=xd) h
    have hsz:=hs.ixn _ hm
    have hsl:=hs.ixc _ hm
    have hc1:(decide ((0:Nat)≤0)&&decide ((0:Int)≤(i:Int))&&decide ((i:Int)≤(s.2.2.1.length:Int)))=true:=by
     rw[decide_eq_true (by omega),decide_eq_true (by omega),decide_eq_true (by omega)];rfl
    have hlen:(s.2.2.1.take i).length=i:=by rw[List.length_take];omega
    rw[qm (by exact_mod_cast h),ix h,br_t,Int.toNat_natCast,qbc5 hX (by omega) _ (Nat.le_trans hsz (by omega)),qf,q9v hX (by omega) s _ _ (by omega) (Nat.le_trans hsl (by omega)),qf,hc1,br_t,qp (by omega),if_pos h]
    have ht:(List.drop (Int.toNat 0) (List.take i s.2.2.1))=s.2.2.1.take i:=rfl
    rw[ht,qbg8 hX (n:=n) (by omega) _ (by omega) _ (fun k=>decide ((s.2.2.1.getD k xd).1=(s.2.2.1.getD i xd).1)) (fun k hk=>by
     rw[hlen] at hk
     obtain ⟨n,rfl⟩:∃ k,n=k+3:=⟨n - 3,by omega⟩
     rw[qbu6,show n+3 - 2=n+1 from rfl,qbfw hX]
     have e:(s.2.2.1.take i).getD k xd=s.2.2.1.getD k xd:=by
      simp only[List.getD,List.getElem?_take]
      rw[if_pos hk]
     simp only[quh,q42,Option.bind_some,qfo,e]),qf,hlen]
    dsimp only[qv9]
    cases qvv (s.2.2.1.getD i xd).1
    ·rfl
    ·cases qfn s.1.length (s.2.2.1.getD i xd).2.1 3
     ·rfl
     ·rw[Bool.not_true,br_f,br_f,Bool.false_or,Bool.false_or];rfl
   ·rw[qo (by exact_mod_cast h),if_neg h]
    simp only[qsp]
    rw[qzf hX (by omega),qf,q9v hX (by omega) s _ _ (by omega) (by omega),qf]
    dsimp only
    cases inR s.1.length 1 5
    ·rfl
    ·rw[br_t,Bool.true_and]
     cases hp:qfn s.1.length s.2.1 4
     ·rfl
     ·rw[br_t,Bool.true_and,qbv2 hX (n:=n) (by omega) s.2.1 (by omega) _ (fun j=>(s.1.getD (s.2.1.getD j 0).toNat cd).2.2.1) (fun k hk=>by
       obtain ⟨n,rfl⟩:∃ k,n=k+3:=⟨n - 3,by omega⟩
       obtain ⟨p1,p2⟩:=qbov hp hk
       rw[qbs9,show n+3 - 2=n+1 from rfl,qbgk hX]
       simp only[que,q46]
       rw[ixn p1 p2,br_t];rfl),qf,qj5]
      rfl
 ·unfold qlf
  cases qx (q6f s.1) 0 s.1.length
  ·cases qx (qv9 s.1.length s.2.2.1) 0 s.2.2.1.length<;>rfl
  ·rfl
theorem qbpf {X:Ext} (hX:XOk X) {n:Nat} (hn:W+4≤n) (s:qcw) (hs:SchSm s):qvh (DD X n) s=some ((!qx (qv9 s.1.length s.2.2.1) 0 s.2.2.1.length&&decide ((s.2.2.1.length:Int)≤3),()),()):=by
 obtain ⟨n,rfl⟩:∃ k,n=k+1:=⟨n - 1,by omega⟩
 have hd:=qj
 have hW:=qbn
 have hM:=qcy
 have h1:=hs.cols
 have h2:=hs.ixs
 rw[qbf7 hX]
 simp only[qud,qu7,qq4]
 refine Eq.trans (qju (L:=fun m i=>qd3 (DD X n) n _ _ m (i:Int) s) (N:=s.2.2.1.length) (P:=qv9 s.1.length s.2.2.1)
  (A:=some ((false,()),())) (B:=some ((decide ((s.2.2.1.length:Int)≤3),()),())) (fun m i hi=>?_) (m:=n) (by omega)) ?_
 ·simp only[qd3,qtl]
  by_cases h:i<s.2.2.1.length
  ·have hm:=qdl (d:=xd) h
   have hsz:=hs.ixn _ hm
   have hsl:=hs.ixc _ hm
   rw[qm (by exact_mod_cast h),ix h,br_t,Int.toNat_natCast,qbdw hX (by omega) _ (Nat.le_trans hsz (by omega)),qf,q9b hX (by omega) s _ _ (by omega) (Nat.le_trans hsl (by omega)),qf,if_pos h]
   dsimp only[qv9]
   cases qvv (s.2.2.1.getD i xd).1
   ·rfl
   ·cases qfn s.1.length (s.2.2.1.getD i xd).2.1 3
    ·rfl
    ·rw[Bool.not_true,br_f,br_f,Bool.false_or,Bool.false_or]
     simp only[qq8]
     refine Eq.trans (qju (L:=fun q k=>qg1 (DD X n) n _ _ q (i:Int) (k:Int) s (s.2.2.1.getD i xd)) (N:=i) (P:=fun k=>decide ((s.2.2.1.getD k xd).1=(s.2.2.1.getD i xd).1))
      (A:=some ((false,()),())) (B:=qd3 (DD X n) n (fun v0_0 v0_1=>qp1 (DD X n) n v0_0 v0_1) (fun v1_0=>qqe (DD X n) n v1_0) m ((i+1:Nat):Int) s) (fun q k hk=>?_) (m:=n) (by omega)) rfl
     simp only[qg1,qs2]
     by_cases h2:k<i
     ·rw[qm (by exact_mod_cast h2),ix (i:=k) (by omega),br_t,Int.toNat_natCast,qp (by omega),if_pos h2,qfo];rfl
     ·rw[qo (by exact_mod_cast h2),if_neg h2]
      simp only[qqb]
      rw[qp (by omega)]
  ·rw[qo (by exact_mod_cast h),if_neg h];rfl
 ·cases qx (qv9 s.1.length s.2.2.1) 0 s.2.2.1.length<;>rfl
theorem q8s {X:Ext} (hX:XOk X) {n:Nat} (hn:W+5≤n) (s:qcw) (hs:SchSm s):qr9 (DD X n) s=some ((qlf s,()),()):=by
 obtain ⟨n,rfl⟩:∃ k,n=k+1:=⟨n - 1,by omega⟩
 have hd:=qj
 have hW:=qbn
 have hM:=qcy
 have h1:=hs.cols
 have h2:=hs.ixs
 have h3:=hs.key
 rw[qbme hX]
 simp only[qyy,qx4,quq]
 refine Eq.trans (qju (L:=fun m i=>qi5 (DD X n) n _ _ m (i:Int) s) (N:=s.1.length) (P:=q6f s.1)
  (A:=some ((false,()),())) (B:=some ((inR s.1.length 1 5&&(qfn s.1.length s.2.1 4&&((!qx (qv9 s.1.length s.2.2.1) 0 s.2.2.1.length&&decide ((s.2.2.1.length:Int)≤3))&&!q55 s.1 s.2.1)),()),())) (fun m i hi=>?_) (m:=n) (by omega)) ?_
 ·simp only[qi5,qwe]
  by_cases h:i<s.1.length
  ·have hsz:=hs.names _ (qdl (d:=cd) h)
   rw[qm (by exact_mod_cast h),ix h,br_t,br_t,br_t,Int.toNat_natCast,qbdw hX (by omega) _ (Nat.le_trans hsz (by omega)),qf,qy0 hX (by omega),qf,qbsg hX (by omega) s hs,qf,qp (by omega),if_pos h,q0y]
   dsimp only[q6f]
   cases qvv (s.1.getD i cd).1
   ·rfl
   ·cases inR (s.1.getD i cd).2.1 1 3
    ·rfl
    ·rw[Bool.not_true,br_f,br_f,Bool.false_or,Bool.false_or];rfl
  ·rw[qo (by exact_mod_cast h),if_neg h]
   simp only[qtj,qvk]
   rw[qy0 hX (by omega),qf,q9b hX (by omega) s _ _ (by omega) (by omega),qf,qbpf hX (by omega) s hs,qf]
   dsimp only
   cases inR s.1.length 1 5
   ·rfl
   ·cases hp:qfn s.1.length s.2.1 4
    ·rfl
    ·cases (!qx (qv9 s.1.length s.2.2.1) 0 s.2.2.1.length&&decide ((s.2.2.1.length:Int)≤3))
     ·rfl
     ·simp only[Bool.not_true,br_f,Bool.true_and]
      refine Eq.trans (qju (L:=fun m i=>qih (DD X n) n _ _ m (i:Int) s) (N:=s.2.1.length) (P:=fun j=>(s.1.getD (s.2.1.getD j 0).toNat cd).2.2.1)
       (A:=some ((false,()),())) (B:=some ((true,()),())) (fun m i hi=>?_) (m:=n) (by omega)) ?_
      ·simp only[qih,qwa]
       by_cases h:i<s.2.1.length
       ·obtain ⟨p1,p2⟩:=qbov hp h
        rw[qm (by exact_mod_cast h),ix h,br_t,Int.toNat_natCast,ixn p1 p2,br_t,qp (by omega),if_pos h];rfl
       ·rw[qo (by exact_mod_cast h),if_neg h];rfl
      ·unfold q55
       cases qx (fun j=>(s.1.getD (s.2.1.getD j 0).toNat cd).2.2.1) 0 s.2.1.length<;>rfl
 ·unfold qlf
  cases qx (q6f s.1) 0 s.1.length<;>cases qx (qv9 s.1.length s.2.2.1) 0 s.2.2.1.length<;>cases inR s.1.length 1 5<;>cases qfn s.1.length s.2.1 4<;>cases q55 s.1 s.2.1<;>simp[br]
end Go.G

namespace Go.G
open Go Go.V Go.Proofs
instance decCols:DecidableEq (List Col):=inferInstance
instance decIxs:DecidableEq (List qfl):=inferInstance
instance decSchema:DecidableEq qcw:=fun a b=>@instDecidableEqProd _ _ decCols (@instDecidableEqProd _ _ inferInstance (@instDecidableEqProd _ _ decIxs inferInstance)) a b
theorem qbl3 (a:qcw):tot qg2 a=tot (.sl ColT) a.1+(tot qhb a.2.1+(tot (.sl qda) a.2.2.1+0)):=rfl
theorem qbzg (a:Col):tot ColT a=a.1.size:=rfl
theorem qbof (a:qfl):tot qda a=a.1.size+a.2.1.length:=by
 have h:tot qda a=a.1.size+(tot qhb a.2.1+(0+0)):=rfl
 rw[h,q60];omega
theorem qbxq {s:qcw} (h:tot qg2 s≤M):SchSm s:=by
 rw[qbl3,q60] at h
 have h1:=qvs (t:=ColT) s.1
 have h2:=qvs (t:=qda) s.2.2.1
 refine ⟨by omega,fun c hc=>?_,by omega,by omega,fun x hx=>?_,fun x hx=>?_⟩
 ·have:=q5y (t:=ColT) hc
  rw[qbzg] at this;omega
 ·have:=q5y (t:=qda) hx
  rw[qbof] at this;omega
 ·have:=q5y (t:=qda) hx
  rw[qbof] at this;omega
theorem qbu3 {X:Ext} (hX:XOk X) {n:Nat} (hn:W+4≤n) (a:qcw) (ha:Fit qbc qg2 a):qyd (DD X n) a=some ((a,()),()):=by
 obtain ⟨n,rfl⟩:∃ k,n=k+1:=⟨n - 1,by omega⟩
 rw[qbkb hX]
 simp only[qxx,q7t]
 rw[qbxz hX (by omega) _ ha.1,qf,qbrz hX (by omega) _ ha.2.1.1,qf,qbuw hX (by omega) _ ha.2.2.1,qf]
theorem qbux {X:Ext} (hX:XOk X) {n:Nat} (hn:W+4≤n) (a b:qcw) (hb:Fit maxLen qg2 b):q0f (DD X n) a b=some ((decide (a=b),()),()):=by
 obtain ⟨n,rfl⟩:∃ k,n=k+1:=⟨n - 1,by omega⟩
 rw[qbk8 hX]
 simp only[q0d,q8a]
 rw[qbx6 hX (by omega) _ _ hb.1,qf,qbr3 hX (by omega) _ _ hb.2.1.1,qf,qbvb hX (by omega) _ _ hb.2.2.1,qf]
 obtain ⟨a1,a2,a3,⟨⟩⟩:=a
 obtain ⟨b1,b2,b3,⟨⟩⟩:=b
 by_cases h1:a1=b1<;>by_cases h2:a2=b2<;>by_cases h3:a3=b3<;>simp[h1,h2,h3,br]
theorem qbva {X:Ext} (hX:XOk X) {n:Nat} (hn:W+4≤n) (a:qcw) (k:Int) (ha:Wf qg2 a) (hk:0≤k∧k≤maxLen):qx3 (DD X n) a k=some ((left qg2 a k,()),()):=by
 obtain ⟨n,rfl⟩:∃ k,n=k+1:=⟨n - 1,by omega⟩
 have hd:=qj
 have ht:=qbl3 a
 rw[qblf hX]
 simp only[qzs,q73]
 rw[qbxp hX (by omega) _ _ ha.1 hk,qf];dsimp only
 by_cases h:left (.sl ColT) a.1 k<0
 ·rw[qm h,qer]
  intro h3
  rw[qea (by omega)] at h
  omega
 ·obtain ⟨e1,e2⟩:=qg7 h hk.1
  rw[qo h,e1,qbqz hX (by omega) _ _ ha.2.1.1 (by omega),qf];dsimp only
  by_cases h:left qhb a.2.1 (k - tot (.sl ColT) a.1)<0
  ·rw[qm h,qer]
   intro h3
   rw[qea (by omega)] at h
   omega
  ·obtain ⟨e3,e4⟩:=qg7 h (by omega)
   rw[qo h,e3,qbuc hX (by omega) _ _ ha.2.2.1 (by omega),qf];dsimp only
   by_cases h:left (.sl qda) a.2.2.1 (k - tot (.sl ColT) a.1 - tot qhb a.2.1)<0
   ·rw[qm h,qer]
    intro h3
    rw[qea (by omega)] at h
    omega
   ·obtain ⟨e5,e6⟩:=qg7 h (by omega)
    rw[qo h,e5,qea (by omega)]
    congr 3;omega
theorem qbr8 {X:Ext} (hX:XOk X) {n:Nat} (hn:W+3≤n) (a:qcw) (k:Int) (ha:Fit maxLen qg2 a) (hk:0≤k) (h:k+cnt qg2 a≤maxLen) :
  qup (DD X n) a k=some (((mkT qg2 k a).1,()),((mkT qg2 k a).2,())):=by
 obtain ⟨n,rfl⟩:∃ k,n=k+1:=⟨n - 1,by omega⟩
 have hc:cnt qg2 a=cnt (.sl ColT) a.1+(cnt qhb a.2.1+(cnt (.sl qda) a.2.2.1+0)):=rfl
 have h1:=ql5 (.sl ColT) k a.1
 have h2:=ql5 qhb (mkT (.sl ColT) k a.1).1 a.2.1
 rw[qbge hX]
 simp only[qvd,q5f]
 rw[qbut hX (by omega) _ _ ha.1.1 hk (by omega),qf];dsimp only
 rw[qbmb hX (by omega) _ _ (by omega) (by omega),qf];dsimp only
 rw[qbqi hX (by omega) _ _ ha.2.2.1.1 (by omega) (by omega),qf]
 rfl
theorem fitB {t:Ty} {a:t.den} (h:(tot t a:Int)≤1048576):Fit qbc t a:=qxy (by have:=qdh;omega)
theorem fitM {t:Ty} {a:t.den} (h:(tot t a:Int)≤1048576):Fit maxLen t a:=qxy (by have:=qj;omega)
end Go.G

namespace Go.G
set_option maxRecDepth 100000
open Go Go.V Go.Proofs
abbrev vd:Value:=(0,0,ByteArray.empty,())
abbrev Row:=List Value
def qbb (row:Row) (cols:List Int):Row:=(cols.filter fun c=>inR c 0 ((row.length:Int) - 1)).map fun c=>row.getD c.toNat vd
theorem qkp (row:Row) (cols:List Int):(qbb row cols).length≤cols.length:=by
 unfold qbb;rw[List.length_map];exact List.length_filter_le _ _
theorem qbc9 (row:Row) (c:Int) (cols:List Int):qbb row (c::cols)=if inR c 0 ((row.length:Int) - 1)=true then row.getD c.toNat vd::qbb row cols else qbb row cols:=by
 unfold qbb
 rw[List.filter_cons]
 split<;>simp
theorem qbdz {c:Int} {n:Nat} (h:inR c 0 ((n:Int) - 1)=true):0≤c∧c<n:=by
 simp only[inR,Bool.and_eq_true,decide_eq_true_eq] at h;omega
theorem q4g {X:Ext} (hX:XOk X) (N n:Nat) (hN:1≤N) (K:Row→Option ((Row×Unit)×Unit)) (row:Row) (hr:row.length≤M) (cols:List Int) (hc:cols.length≤M):∀ (m i:Nat) (acc:Row),i≤cols.length→cols.length - i<m→acc.length≤i→
  qj0 (DD X N) n K m row cols cols.length (i:Int) acc=K (acc++qbb row (cols.drop i))
 | 0,_,_,_,h,_=>by omega
 | m+1,i,acc,hi,hf,ha=>by
  simp only[qj0,qyb]
  have hM:=qcy
  have hb:=qdh
  by_cases h:i<cols.length
  ·rw[qm (by exact_mod_cast h),ix h,br_t,Int.toNat_natCast,qce (by omega) (by omega),qzf hX hN,qf,qp (by omega),q7 h,qbc9,qy h]
   dsimp only
   by_cases hin:inR cols[i] 0 ((row.length:Int) - 1)=true
   ·obtain ⟨p1,p2⟩:=qbdz hin
    rw[hin,br_t,ixn p1 p2,br_t,qm (by omega),if_pos rfl]
    refine Eq.trans (q4g hX N n hN K row hr cols hc m (i+1) _ (by omega) (by omega) (by simp;omega)) ?_
    rw[List.append_assoc];rfl
   ·rw[Bool.not_eq_true] at hin
    rw[hin,br_f,if_neg Bool.noConfusion]
    exact q4g hX N n hN K row hr cols hc m (i+1) acc (by omega) (by omega) (by omega)
  ·rw[qo (by exact_mod_cast h),q9 h]
   simp[qbb]
theorem q4m {X:Ext} (hX:XOk X) (N n:Nat) (hN:1≤N) (K:Row→Option ((Row×Unit)×Unit)) (row:Row) (hr:row.length≤M) (cols:List Int) (hc:cols.length≤M):∀ (m i:Nat) (acc:Row),i≤cols.length→cols.length - i<m→acc.length≤i→
  qjw (DD X N) n K m row cols (i:Int) acc=K (acc++qbb row (cols.drop i))
 | 0,_,_,_,h,_=>by omega
 | m+1,i,acc,hi,hf,ha=>by
  simp only[qjw,qzp]
  have hM:=qcy
  have hb:=qdh
  by_cases h:i<cols.length
  ·rw[qm (by exact_mod_cast h),ix h,br_t,Int.toNat_natCast,qce (by omega) (by omega),qy0 hX hN,qf,qp (by omega),q7 h,qbc9,qy h]
   dsimp only
   by_cases hin:inR cols[i] 0 ((row.length:Int) - 1)=true
   ·obtain ⟨p1,p2⟩:=qbdz hin
    rw[hin,br_t,br_t,ixn p1 p2,br_t,qm (by omega),if_pos rfl]
    refine Eq.trans (q4m hX N n hN K row hr cols hc m (i+1) _ (by omega) (by omega) (by simp;omega)) ?_
    rw[List.append_assoc];rfl
   ·rw[Bool.not_eq_true] at hin
    rw[hin,br_f,if_neg Bool.noConfusion]
    exact q4m hX N n hN K row hr cols hc m (i+1) acc (by omega) (by omega) (by omega)
  ·rw[qo (by exact_mod_cast h),q9 h]
   simp[qbb]
theorem qvx {X:Ext} (hX:XOk X) {n:Nat} (hn:W+1≤n) (row:Row) (hr:row.length≤M) (cols:List Int) (hc:cols.length≤M):qla (DD X n) row cols=some ((qbb row cols,()),()):=by
 obtain ⟨n,rfl⟩:∃ k,n=k+1:=⟨n - 1,by omega⟩
 have hW:=qbn
 have hM:=qcy
 rw[qbn6 hX]
 simp only[q2n,q15,qwc]
 refine Eq.trans (q4g hX n n (by omega) _ row hr cols hc n 0 [] (by omega) (by omega) (by simp)) ?_
 rfl
theorem qv8 {X:Ext} (hX:XOk X) {n:Nat} (hn:W+1≤n) (row:Row) (hr:row.length≤M) (cols:List Int) (hc:cols.length≤M):qk2 (DD X n) row cols=some ((qbb row cols,()),()):=by
 obtain ⟨n,rfl⟩:∃ k,n=k+1:=⟨n - 1,by omega⟩
 have hW:=qbn
 have hM:=qcy
 rw[qbn4 hX]
 simp only[q0x,q13,qw6]
 refine Eq.trans (q4m hX n n (by omega) _ row hr cols hc n 0 [] (by omega) (by omega) (by simp)) ?_
 rfl
theorem q2j {X:Ext} (hX:XOk X) {n:Nat} (hn:W+2≤n) (s:qcw) (row:Row) (hr:row.length≤M) (hc:s.2.1.length≤M):qnp (DD X n) s row=some ((qbb row s.2.1,()),()):=by
 obtain ⟨n,rfl⟩:∃ k,n=k+1:=⟨n - 1,by omega⟩
 rw[qbls hX]
 simp only[qx2,q7v]
 rw[qvx hX (by omega) row hr _ hc,qf]
theorem q2b {X:Ext} (hX:XOk X) {n:Nat} (hn:W+2≤n) (s:qcw) (row:Row) (hr:row.length≤M) (hc:s.2.1.length≤M):qm2 (DD X n) s row=some ((qbb row s.2.1,()),()):=by
 obtain ⟨n,rfl⟩:∃ k,n=k+1:=⟨n - 1,by omega⟩
 rw[qbj5 hX]
 simp only[qyg,q7o]
 rw[qv8 hX (by omega) row hr _ hc,qf]
def q9x (v:Value):Bool:=decide (v.2.2.1=ByteArray.mk #[])
def qdm (v:Value):Bool:=
 bif decide (v.1=0) then decide (v.2.1=0)&&q9x v else
 bif decide (v.1=1) then inR v.2.1 0 1&&q9x v else
 bif decide (v.1=2) then inR v.2.1 (-1000000000000) 1000000000000&&q9x v else
 bif decide (v.1=3) then decide (v.2.1=0)&&decide ((v.2.2.1.size:Int)≤20) else false
theorem qbbj {X:Ext} (hX:XOk X) {n:Nat} (hn:2≤n) (v:Value):qt0 (DD X n) v=some ((qdm v,()),()):=by
 obtain ⟨n,rfl⟩:∃ k,n=k+1:=⟨n - 1,by omega⟩
 rw[qbm1 hX]
 simp only[q1r,q8x]
 rw[qzf hX (by omega),qzf hX (by omega)]
 simp only[qf,qj5,qfo]
 unfold qdm q9x
 cases decide (v.1=0)<;>cases decide (v.1=1)<;>cases decide (v.1=2)<;>cases decide (v.1=3)<;>rfl
theorem qbbl {X:Ext} (hX:XOk X) {n:Nat} (hn:2≤n) (v:Value):qt4 (DD X n) v=some ((qdm v,()),()):=by
 obtain ⟨n,rfl⟩:∃ k,n=k+1:=⟨n - 1,by omega⟩
 rw[qbmq hX]
 simp only[q02,q8t]
 rw[qy0 hX (by omega),qy0 hX (by omega)]
 simp only[qf,qj5,qfo]
 unfold qdm q9x
 cases decide (v.1=0)<;>cases decide (v.1=1)<;>cases decide (v.1=2)<;>cases decide (v.1=3)<;>rfl
def q61 (cs:List Col) (row:Row) (i:Nat):Bool:=!qdm (row.getD i vd)||(!decide ((row.getD i vd).1=(cs.getD i cd).2.1)&&!(decide ((row.getD i vd).1=0)&&(cs.getD i cd).2.2.1))
def qtu (s:qcw) (row:Row):Bool:=qlf s&&(decide (row.length=s.1.length)&&!qx (q61 s.1 row) 0 row.length)
theorem qbnp (a b:Nat):((a:Int) != (b:Int))=!decide (a=b):=by
 by_cases h:a=b
 ·simp[h]
 ·have:¬ (a:Int)=(b:Int):=by omega
  rw[q0y,decide_eq_false this,decide_eq_false h]
theorem qbsl {X:Ext} (hX:XOk X) {n:Nat} (hn:W+6≤n) (s:qcw) (hs:SchSm s) (row:Row) (hr:row.length≤M):q69 (DD X n) s row=some ((qtu s row,()),()):=by
 obtain ⟨n,rfl⟩:∃ k,n=k+1:=⟨n - 1,by omega⟩
 have hW:=qbn
 have hM:=qcy
 rw[qbqm hX]
 simp only[q65,q6j,q17]
 rw[q80 hX (by omega) s hs,qf,qbnp]
 dsimp only
 unfold qtu
 cases qlf s
 ·rfl
 ·by_cases hl:row.length=s.1.length
  ·rw[decide_eq_true hl]
   refine Eq.trans (qju (L:=fun m i=>ql6 (DD X n) n _ _ m row row.length (i:Int) s) (N:=row.length) (P:=q61 s.1 row)
    (A:=some ((false,()),())) (B:=some ((true,()),())) (fun m i hi=>?_) (m:=n) (by omega)) ?_
   ·simp only[ql6,q4k]
    by_cases h:i<row.length
    ·rw[qm (by exact_mod_cast h),ix h,br_t,ix (i:=i) (hl ▸ h),br_t,Int.toNat_natCast,qbbj hX (by omega),qf,qp (by omega),if_pos h,q0y,qj5,qj5,qbti]
     rfl
    ·rw[qo (by exact_mod_cast h),if_neg h];rfl
   ·cases qx (q61 s.1 row) 0 row.length<;>rfl
  ·rw[decide_eq_false hl];rfl
theorem qbhf {X:Ext} (hX:XOk X) {n:Nat} (hn:W+6≤n) (s:qcw) (hs:SchSm s) (row:Row) (hr:row.length≤M):qyh (DD X n) s row=some ((qtu s row,()),()):=by
 obtain ⟨n,rfl⟩:∃ k,n=k+1:=⟨n - 1,by omega⟩
 have hW:=qbn
 have hM:=qcy
 rw[qbqk hX]
 simp only[q67,q6w,q1l]
 rw[q8s hX (by omega) s hs,qf,qbnp]
 dsimp only
 unfold qtu
 cases qlf s
 ·rfl
 ·by_cases hl:row.length=s.1.length
  ·rw[decide_eq_true hl]
   refine Eq.trans (qju (L:=fun m i=>qmd (DD X n) n _ _ m row (i:Int) s) (N:=row.length) (P:=q61 s.1 row)
    (A:=some ((false,()),())) (B:=some ((true,()),())) (fun m i hi=>?_) (m:=n) (by omega)) ?_
   ·simp only[qmd,q4r]
    by_cases h:i<row.length
    ·rw[qm (by exact_mod_cast h),ix h,br_t,br_t,ix (i:=i) (hl ▸ h),br_t,br_t,br_t,Int.toNat_natCast,qbbl hX (by omega),qf,qp (by omega),if_pos h,q0y]
     dsimp only[q61]
     cases qdm (row.getD i vd)
     ·rfl
     ·cases decide ((row.getD i vd).1=(s.1.getD i cd).2.1)
      ·cases (s.1.getD i cd).2.2.1
       ·cases decide ((row.getD i vd).1=0)<;>rfl
       ·cases decide ((row.getD i vd).1=0)<;>rfl
      ·rfl
    ·rw[qo (by exact_mod_cast h),if_neg h];rfl
   ·cases qx (q61 s.1 row) 0 row.length<;>rfl
  ·rw[decide_eq_false hl];rfl
theorem qbta {t:Ty} {k:Int} (hk:0≤k) (a:t.den):¬ (mkT t k a).1<0:=by rw[ql5];omega
theorem qbco (a b:Value):qlj (Ty.pair (Ty.int IntKind.i64) (Ty.pair (Ty.int IntKind.i64) (Ty.pair Ty.str Ty.unit))) a b=decide (a=b):=by
 obtain ⟨a1,a2,a3,⟨⟩⟩:=a
 obtain ⟨b1,b2,b3,⟨⟩⟩:=b
 have e:∀ x y:ByteArray,(x.toList == y.toList)=decide (x=y):=fun x y=>qfo
 have e2:∀ x y:Int,(x == y)=decide (x=y):=fun x y=>by by_cases h:x=y<;>simp[h]
 simp only[qlj,e,e2]
 by_cases h1:a1=b1<;>by_cases h2:a2=b2<;>by_cases h3:a3=b3<;>simp[h1,h2,h3]
theorem qbs3 (D:Den ctx) (x:Value):qbr ctx D (Clo.mk 208 []) [CapV.val (Ty.pair (Ty.int IntKind.i64) (Ty.pair (Ty.int IntKind.i64) (Ty.pair Ty.str Ty.unit))) x] Ty.bool=(q6c D x).bind fun r=>some r.1.1:=by kernel_rfl
def qt2 (a:Row):Bool:=decide ((a.length:Int)≤4)&&!qx (fun i=>!qdm (a.getD i vd)) 0 a.length
theorem qbpm {X:Ext} (hX:XOk X) {n:Nat} (hn:W+4≤n) (a:Row) (ha:a.length≤M):q2h (DD X n) a=some ((qt2 a,()),()):=by
 obtain ⟨n,rfl⟩:∃ k,n=k+1:=⟨n - 1,by omega⟩
 have hM:=qcy
 have hd:=qj
 have hW:=qbn
 rw[qbmm hX]
 simp only[q1x,q9s]
 unfold qt2
 by_cases h:(a.length:Int)≤4
 ·rw[qm h,decide_eq_true h,qbs5 hX (n:=n) (by omega) a (by omega) _ (fun i=>!qdm (a.getD i vd)) (fun i hi=>by
   obtain ⟨n,rfl⟩:∃ k,n=k+3:=⟨n - 3,by omega⟩
   rw[qbs3,show n+3 - 2=n+1 from rfl,qbh8 hX]
   simp only[qwn,q6n]
   rw[qbbj hX (by omega),qf];rfl),qf];rfl
 ·rw[qo h,decide_eq_false h];rfl
end Go.G

namespace Go.G
set_option maxRecDepth 100000
open Go Go.V Go.Proofs
structure XC (X:Ext):Prop where
 ok:XOk X
 cmp:∀ n a b,q5n (DD X (n+1)) a b=some ((scmp a b,()),())
theorem q97:∀ (a b:List UInt8),(Lib.compareBytes a b<0↔Op.bytesLess a b=true)∧(Lib.compareBytes a b=0↔a=b)
 | [],[]=>by simp[Lib.compareBytes,Op.bytesLess]
 | [],_::_=>by simp[Lib.compareBytes,Op.bytesLess]
 | _::_,[]=>by simp[Lib.compareBytes,Op.bytesLess]
 | x::a,y::b=>by
  obtain ⟨h1,h2⟩:=q97 a b
  simp only[Lib.compareBytes,Op.bytesLess]
  by_cases hxy:x<y
  ·have hne:x≠y:=fun e=>by subst e;exact absurd hxy (UInt8.lt_irrefl x)
   simp[hxy,hne]
  ·by_cases hyx:y<x
   ·have hne:x≠y:=fun e=>by subst e;exact absurd hyx (UInt8.lt_irrefl x)
    simp[hxy,hyx,hne]
   ·have e:x=y:=UInt8.le_antisymm (UInt8.not_lt.1 hyx) (UInt8.not_lt.1 hxy)
    subst e
    simp[hxy,h1,h2]
theorem qbz3 (a b:ByteArray):scmp a b<0↔Op.bytesLess a.toList b.toList=true:=by
 unfold scmp
 rw[(q97 _ _).1,ByteArray.toList_eq,ByteArray.toList_eq]
theorem qbz4 (a b:ByteArray):scmp a b=0↔a=b:=by
 unfold scmp
 rw[(q97 _ _).2]
 constructor
 ·intro h;cases a;cases b;simp only[ByteArray.mk.injEq];exact Array.toList_inj.1 h
 ·rintro rfl;rfl
def byv (a b:Value):Int:=bif decide (a.1<b.1)||(decide (a.1=b.1)&&decide (a.2.1<b.2.1)) then -1 else bif decide (a.1>b.1)||decide (a.2.1>b.2.1) then 1 else scmp a.2.2.1 b.2.2.1
def vlt (a b:Value):Bool:=bif !decide (a.1=b.1) then decide (a.1<b.1) else bif !decide (a.2.1=b.2.1) then decide (a.2.1<b.2.1) else Op.bytesLess a.2.2.1.toList b.2.2.1.toList
theorem qbv7 (a b:Value):(byv a b<0↔vlt a b=true)∧(byv a b=0↔a=b):=by
 obtain ⟨a1,a2,a3,⟨⟩⟩:=a
 obtain ⟨b1,b2,b3,⟨⟩⟩:=b
 have h1:=qbz3 a3 b3
 have h2:=qbz4 a3 b3
 simp only[byv,vlt]
 by_cases k1:a1<b1
 ·have:¬ a1=b1:=by omega
  simp[k1,this]
 ·by_cases k2:a1=b1
  ·subst k2
   by_cases k3:a2<b2
   ·have:¬ a2=b2:=by omega
    simp[k3,this]
   ·by_cases k4:a2=b2
    ·subst k4
     simp[h1,h2]
    ·have:a2>b2:=by omega
     simp[k3,k4,this]
  ·have:a1>b1:=by omega
   simp[k1,k2,this]
theorem qbwd {X:Ext} (hX:XC X) {n:Nat} (hn:2≤n) (a b:Value):q2c (DD X n) a b=some ((byv a b,()),()):=by
 obtain ⟨n,rfl⟩:∃ k,n=k+2:=⟨n - 2,by omega⟩
 rw[qbnb hX.ok]
 simp only[q2m,q9z]
 rw[hX.cmp]
 simp only[qf,qj5,qbti]
 unfold byv
 cases (decide (a.1<b.1)||(decide (a.1=b.1)&&decide (a.2.1<b.2.1)))<;>cases (decide (a.1>b.1)||decide (a.2.1>b.2.1))<;>rfl
theorem qbs2 (D:Den ctx) (x y:Value):qbr ctx D (Clo.mk 141 []) [CapV.val (Ty.pair (Ty.int IntKind.i64) (Ty.pair (Ty.int IntKind.i64) (Ty.pair Ty.str Ty.unit))) x,CapV.val (Ty.pair (Ty.int IntKind.i64) (Ty.pair (Ty.int IntKind.i64) (Ty.pair Ty.str Ty.unit))) y] (Ty.int IntKind.i64)=(q2c D x y).bind fun r=>some r.1.1:=by kernel_rfl
def tcmp:Row→Row→Int
 | [],[]=>0
 | [],_::_=>-1
 | _::_,[]=>1
 | x::a,y::b=>if byv x y=0 then tcmp a b else byv x y
def tlt:Row→Row→Bool
 | [],[]=>false
 | [],_::_=>true
 | _::_,[]=>false
 | x::a,y::b=>if x=y then tlt a b else vlt x y
theorem qbtz:∀ (a b:Row),(decide (tcmp a b<0))=tlt a b
 | [],[]=>rfl
 | [],_::_=>rfl
 | _::_,[]=>rfl
 | x::a,y::b=>by
  obtain ⟨h1,h2⟩:=qbv7 x y
  simp only[tcmp,tlt]
  by_cases e:x=y
  ·simp only[if_pos (h2.2 e),if_pos e];exact qbtz a b
  ·simp only[if_neg (fun k=>e (h2.1 k)),if_neg e]
   by_cases k:byv x y<0
   ·rw[decide_eq_true k,h1.1 k]
   ·rw[decide_eq_false k]
    cases hv:vlt x y
    ·rfl
    ·exact absurd (h1.2 hv) k
theorem qbou {X:Ext} (hX:XC X) (N n:Nat) (hN:2≤N) (a b:Row) (ha:a.length≤M):∀ (m i:Nat),i≤a.length→i≤b.length→a.length - i<m→
  qv (DD X N) n (Clo.mk 141 []) (fun v w u=>qby (DD X N) n (Clo.mk 141 []) v w u) (fun v w=>qbh (DD X N) n (Clo.mk 141 []) v w) m a b a a.length (i:Int)=some ((tcmp (a.drop i) (b.drop i),()),())
 | 0,_,_,_,h=>by omega
 | m+1,i,hi,hj,hf=>by
  have hM:=qcy
  simp only[qv,qb1]
  by_cases h:i<a.length
  ·rw[qm (by exact_mod_cast h),ix h,br_t,q7 h]
   by_cases h2:i<b.length
   ·rw[qo (by omega),ix h2,br_t,qbs2,Int.toNat_natCast,qbwd hX hN,q7 h2,Option.bind_some,qf,qp (by omega),qy h,qy h2,q0y]
    simp only[tcmp]
    by_cases e:byv a[i] b[i]=0
    ·rw[decide_eq_true e,if_pos e,Bool.not_true,br_f]
     exact qbou hX N n hN a b ha m (i+1) (by omega) (by omega) (by omega)
    ·rw[decide_eq_false e,if_neg e,Bool.not_false,br_t];rfl
   ·rw[qm (by omega),q9 h2];rfl
  ·rw[qo (by exact_mod_cast h),q9 h]
   simp only[qbh]
   by_cases h2:i<b.length
   ·rw[qm (by omega),q7 h2];rfl
   ·rw[qo (by omega),q9 h2];rfl
theorem qbl7 {X:Ext} (hX:XC X) {n:Nat} (hn:W+3≤n) (a b:Row) (ha:a.length≤M):qwb (DD X n) a b=some ((tlt a b,()),()):=by
 obtain ⟨n,rfl⟩:∃ k,n=k+2:=⟨n - 2,by omega⟩
 have hW:=qbn
 have hM:=qcy
 rw[qbic hX.ok]
 simp only[qxl,q6h]
 have e:qcd (DD X (n+1)) a b (Clo.mk 141 [])=some ((tcmp a b,()),()):=by
  rw[qgl hX.ok]
  simp only[qcc,qcb,qbz]
  exact qbou hX n n (by omega) a b ha n 0 (by omega) (by omega) (by omega)
 rw[e,qf]
 dsimp only
 rw[qbtz]
theorem qbg9 {X:Ext} (hX:XOk X) {n:Nat} (hn:1≤n) (a b:Value):qpr (DD X n) a b=some ((decide (a=b),()),()):=by
 obtain ⟨n,rfl⟩:∃ k,n=k+1:=⟨n - 1,by omega⟩
 rw[qbi5 hX]
 simp only[qw9,q59,qbco]
theorem qbsp {X:Ext} (hX:XOk X) {n:Nat} (hn:1≤n) (a b:Value):qxm (DD X n) a b=some ((vlt a b,()),()):=by
 obtain ⟨n,rfl⟩:∃ k,n=k+1:=⟨n - 1,by omega⟩
 rw[qbi6 hX]
 simp only[qxp,q7j,q0y]
 unfold vlt
 cases decide (a.1=b.1)<;>cases decide (a.2.1=b.2.1)<;>rfl
theorem qbma {X:Ext} (hX:XOk X) (N n:Nat) (hN:1≤N) (a b:Row) (ha:a.length≤M):∀ (m i:Nat),i≤a.length→i≤b.length→a.length - i<m→
  qhk (DD X N) n (fun v w u=>qrb (DD X N) n v w u) (fun v w=>qic (DD X N) n v w) m a b (i:Int)=some ((tlt (a.drop i) (b.drop i),()),())
 | 0,_,_,_,h=>by omega
 | m+1,i,hi,hj,hf=>by
  have hM:=qcy
  simp only[qhk,qvp,qj5]
  by_cases h:i<a.length
  ·by_cases h2:i<b.length
   ·rw[decide_eq_true (show (i:Int)<a.length by omega),decide_eq_true (show (i:Int)<b.length by omega)]
    have c0:decide ((0:Int)≤(i:Int))=true:=decide_eq_true (by omega)
    rw[c0,Bool.true_and,br_t,br_t,br_t,qbg9 hX hN,qf,Int.toNat_natCast,qp (by omega),q7 h,q7 h2,qy h,qy h2]
    simp only[tlt]
    by_cases e:a[i]=b[i]
    ·rw[decide_eq_true e,if_pos e,Bool.not_true,br_f]
     exact qbma hX N n hN a b ha m (i+1) (by omega) (by omega) (by omega)
    ·rw[decide_eq_false e,if_neg e,Bool.not_false,br_t,br_t,br_t,qbsp hX hN,qf];rfl
   ·rw[decide_eq_true (show (i:Int)<a.length by omega),decide_eq_false (show ¬ (i:Int)<b.length by omega),q7 h,q9 h2]
    simp only[Bool.and_false,br_f,qic,tlt]
    rw[decide_eq_false (by omega)]
  ·rw[decide_eq_false (show ¬ (i:Int)<a.length by omega),q9 h]
   simp only[Bool.false_and,br_f,qic]
   by_cases h2:i<b.length
   ·rw[decide_eq_true (by omega),q7 h2];rfl
   ·rw[decide_eq_false (by omega),q9 h2];rfl
theorem qblt {X:Ext} (hX:XOk X) {n:Nat} (hn:W+1≤n) (a b:Row) (ha:a.length≤M):qwq (DD X n) a b=some ((tlt a b,()),()):=by
 obtain ⟨n,rfl⟩:∃ k,n=k+1:=⟨n - 1,by omega⟩
 have hW:=qbn
 have hM:=qcy
 rw[qbi7 hX]
 simp only[qwy,qw7,qsg]
 exact qbma hX n n (by omega) a b ha n 0 (by omega) (by omega) (by omega)
theorem qbwx {X:Ext} (hX:XOk X) (N n:Nat) (hN:1≤N) (a b:Row) (ha:a.length≤M):∀ (m i:Nat),i≤a.length→i≤b.length→a.length - i<m→
  qjr (DD X N) n (fun v w u=>qut (DD X N) n v w u) (fun v w=>qka (DD X N) n v w) m a b (i:Int)=some ((decide (a.drop i=b.drop i),()),())
 | 0,_,_,_,h=>by omega
 | m+1,i,hi,hj,hf=>by
  have hM:=qcy
  simp only[qjr,q0c,qj5]
  by_cases h:i<a.length
  ·by_cases h2:i<b.length
   ·rw[decide_eq_true (show (i:Int)<a.length by omega),decide_eq_true (show (i:Int)<b.length by omega)]
    have c0:decide ((0:Int)≤(i:Int))=true:=decide_eq_true (by omega)
    rw[c0,Bool.true_and,br_t,br_t,br_t,qbg9 hX hN,qf,Int.toNat_natCast,qp (by omega),q7 h,q7 h2,qy h,qy h2]
    by_cases e:a[i]=b[i]
    ·rw[decide_eq_true e,Bool.not_true,br_f]
     refine Eq.trans (qbwx hX N n hN a b ha m (i+1) (by omega) (by omega) (by omega)) ?_
     simp only[e,List.cons.injEq,true_and]
    ·rw[decide_eq_false e,Bool.not_false,br_t]
     simp only[e,List.cons.injEq,false_and,decide_false];rfl
   ·rw[decide_eq_true (show (i:Int)<a.length by omega),decide_eq_false (show ¬ (i:Int)<b.length by omega),q7 h,q9 h2]
    simp only[Bool.and_false,br_f,qka]
    rw[decide_eq_false (by omega)];simp[h]
  ·rw[decide_eq_false (show ¬ (i:Int)<a.length by omega),q9 h]
   simp only[Bool.false_and,br_f,qka]
   by_cases h2:i<b.length
   ·rw[decide_eq_false (by omega),q7 h2];simp[h2]
   ·rw[decide_eq_true (by omega),q9 h2];simp
theorem qbwp {X:Ext} (hX:XOk X) {n:Nat} (hn:W+1≤n) (a b:Row) (ha:a.length≤M):q2p (DD X n) a b=some ((decide (a=b),()),()):=by
 obtain ⟨n,rfl⟩:∃ k,n=k+1:=⟨n - 1,by omega⟩
 have hW:=qbn
 have hM:=qcy
 rw[qbns hX]
 simp only[q1k,q1w,qxj]
 exact qbwx hX n n (by omega) a b ha n 0 (by omega) (by omega) (by omega)
theorem qbxy {a b:Row} (hl:a.length=b.length):qx (fun i=>!decide (a.getD i vd=b.getD i vd)) 0 a.length=!decide (a=b):=by
 by_cases e:a=b
 ·rw[decide_eq_true e,qej.2 (fun j _ _=>by rw[e];simp)];rfl
 ·rw[decide_eq_false e]
  show _=true
  rw[←Bool.not_eq_false]
  intro hf
  apply e
  apply List.ext_getElem hl
  intro i h1 h2
  have:=qej.1 hf i (by omega) (by omega)
  rw[qy h1,qy h2] at this
  simpa using this
theorem qbzu {X:Ext} (hX:XOk X) {n:Nat} (hn:W+1≤n) (a b:Row) (ha:a.length≤M):qe7 (DD X n) a b=some ((decide (a=b),()),()):=by
 obtain ⟨n,rfl⟩:∃ k,n=k+1:=⟨n - 1,by omega⟩
 have hM:=qcy
 have hW:=qbn
 rw[qsr hX]
 simp only[qe6,qe5,qeq]
 rw[qbnp]
 by_cases hl:a.length=b.length
 ·rw[decide_eq_true hl,Bool.not_true,br_f]
  refine Eq.trans (qju (L:=fun m i=>qb5 (DD X n) n _ _ m a b a.length (i:Int)) (N:=a.length) (P:=fun i=>!decide (a.getD i vd=b.getD i vd))
   (A:=some ((false,()),())) (B:=some ((true,()),())) (fun m i hi=>?_) (m:=n) (by omega)) ?_
  ·simp only[qb5,qex]
   by_cases h:i<a.length
   ·rw[qm (by exact_mod_cast h),ix h,br_t,ix (hl ▸ h),br_t,Int.toNat_natCast,qbco,qp (by omega),if_pos h];rfl
   ·rw[qo (by exact_mod_cast h),if_neg h];rfl
  ·rw[qbxy hl]
   cases decide (a=b)<;>rfl
 ·have:¬ a=b:=fun e=>hl (by rw[e])
  rw[decide_eq_false hl,decide_eq_false this];rfl
def hasV (l:Row) (x:Value):Bool:=qx (fun j=>decide (x=l.getD j vd)) 0 l.length
theorem qbsu {X:Ext} (hX:XOk X) {n:Nat} (hn:W+2≤n) (l:Row) (x:Value) (hl:l.length≤M):qeh (DD X n) l x=some ((hasV l x,()),()):=by
 obtain ⟨n,rfl⟩:∃ k,n=k+2:=⟨n - 2,by omega⟩
 have hM:=qcy
 have hW:=qbn
 rw[qqx hX]
 simp only[qei,qh0]
 have e:qfc (DD X (n+1)) l x=some ((match qbj (fun j=>decide (x=l.getD j vd)) 0 l.length with | some j=>(j:Int) | none=>-1,()),()):=by
  rw[qtg hX]
  simp only[qe4,qe9,qes]
  refine Eq.trans (qvr (L:=fun m i=>qb6 (DD X n) n _ _ m l l.length (i:Int) x) (N:=l.length) (P:=fun j=>decide (x=l.getD j vd))
   (A:=fun j=>some (((j:Int),()),())) (B:=some ((-1,()),())) (fun m i hi=>?_) (m:=n) (by omega)) ?_
  ·simp only[qb6,qew]
   by_cases h:i<l.length
   ·rw[qm (by exact_mod_cast h),ix h,br_t,Int.toNat_natCast,qp (by omega),if_pos h,qbco];rfl
   ·rw[qo (by exact_mod_cast h),if_neg h];rfl
  ·cases qbj (fun j=>decide (x=l.getD j vd)) 0 l.length<;>rfl
 rw[e,qf]
 congr 3
 exact q3f _ _
def q9t (l:Row):Bool:=qx (fun j=>decide ((l.getD j vd).1=0)) 0 l.length
theorem qbw0 {X:Ext} (hX:XOk X) {n:Nat} (hn:W+1≤n) (l:Row) (hl:l.length≤M):q1j (DD X n) l=some ((q9t l,()),()):=by
 obtain ⟨n,rfl⟩:∃ k,n=k+1:=⟨n - 1,by omega⟩
 have hM:=qcy
 have hW:=qbn
 rw[qbnu hX]
 simp only[q1s,q16,qwo]
 refine Eq.trans (qju (L:=fun m i=>qjt (DD X n) n _ _ m l (i:Int)) (N:=l.length) (P:=fun j=>decide ((l.getD j vd).1=0))
  (A:=some ((true,()),())) (B:=some ((false,()),())) (fun m i hi=>?_) (m:=n) (by omega)) ?_
 ·simp only[qjt,qzj]
  by_cases h:i<l.length
  ·rw[qm (by exact_mod_cast h),ix h,br_t,Int.toNat_natCast,qp (by omega),if_pos h];rfl
  ·rw[qo (by exact_mod_cast h),if_neg h];rfl
 ·unfold q9t
  cases qx (fun j=>decide ((l.getD j vd).1=0)) 0 l.length<;>rfl
theorem qbzv {v:Value} (h:qdm v=true):decide (vd=v)=decide (v.1=0):=by
 obtain ⟨v1,v2,v3,⟨⟩⟩:=v
 by_cases h0:v1=0
 ·subst h0
  simp only[qdm,q9x,decide_true,cond_true,Bool.and_eq_true,decide_eq_true_eq] at h
  obtain ⟨rfl,rfl⟩:=h
  rfl
 ·have:¬ vd=(v1,v2,v3,()):=fun e=>h0 (by rw[←(Prod.mk.inj e).1])
  rw[decide_eq_false this,decide_eq_false h0]
theorem qbvz {l:Row} (h:∀ v∈l,qdm v=true):hasV l vd=q9t l:=
 qv6 fun j _ hj=>qbzv (h _ (qdl (by omega)))
theorem qbst {row:Row} {cols:List Int}:∀ v∈qbb row cols,v∈row:=by
 intro v hv
 unfold qbb at hv
 obtain ⟨c,hc,rfl⟩:=List.mem_map.1 hv
 have:=qbdz (List.mem_filter.1 hc).2
 exact qdl (by omega)
def q18 (xs:List qfl) (a b:Row) (i:Nat):Bool:=(xs.getD i xd).2.2.1&&(decide (qbb a (xs.getD i xd).2.1=qbb b (xs.getD i xd).2.1)&&!q9t (qbb a (xs.getD i xd).2.1))
def q0b (s:qcw) (a b:Row):Bool:=qx (q18 s.2.2.1 a b) 0 s.2.2.1.length
theorem qbar (s:qcw) (a b:Row):q0b s a b=q0b s b a:=by
 refine qv6 fun j _ _=>?_
 unfold q18
 by_cases e:qbb a (s.2.2.1.getD j xd).2.1=qbb b (s.2.2.1.getD j xd).2.1
 ·rw[decide_eq_true e,decide_eq_true e.symm,e]
 ·rw[decide_eq_false e,decide_eq_false fun k=>e k.symm];simp
theorem qbve (D:Den ctx) (a b:Row) (x:qfl):qbr ctx D (Clo.mk 143 [CapV.rptr (Ty.sl (Ty.pair (Ty.int IntKind.i64) (Ty.pair (Ty.int IntKind.i64) (Ty.pair Ty.str Ty.unit)))) a,CapV.rptr (Ty.sl (Ty.pair (Ty.int IntKind.i64) (Ty.pair (Ty.int IntKind.i64) (Ty.pair Ty.str Ty.unit)))) b]) [CapV.val (Ty.pair Ty.str (Ty.pair (Ty.sl (Ty.int IntKind.i64)) (Ty.pair Ty.bool Ty.unit))) x] Ty.bool=(q9y D x a b).bind fun r=>some r.1.1:=by kernel_rfl
theorem qbsk {X:Ext} (hX:XOk X) {n:Nat} (hn:W+6≤n) (s:qcw) (hs:SchSm s) (a b:Row) (ha:a.length≤M) (hb:b.length≤M) (hv:∀ v∈a,qdm v=true):q6l (DD X n) s a b=some ((q0b s a b,()),()):=by
 obtain ⟨n,rfl⟩:∃ k,n=k+1:=⟨n - 1,by omega⟩
 have hM:=qcy
 have hd:=qj
 have h2:=hs.ixs
 rw[qbrj hX]
 simp only[q7c,qbef]
 rw[qbg8 hX (n:=n) (by omega) _ (by omega) _ (q18 s.2.2.1 a b) (fun i hi=>by
  have hc:=hs.ixc _ (qdl (d:=xd) hi)
  obtain ⟨n,rfl⟩:∃ k,n=k+3:=⟨n - 3,by omega⟩
  rw[qbve,show n+3 - 2=n+1 from rfl,qbnr hX]
  simp only[q1q,q9k]
  have p1:=qvx hX (n:=n) (by omega) a ha (s.2.2.1.getD i xd).2.1 hc
  have p2:=qvx hX (n:=n) (by omega) b hb (s.2.2.1.getD i xd).2.1 hc
  have l1:=qkp a (s.2.2.1.getD i xd).2.1
  have p3:=qbsu hX (n:=n) (by omega) (qbb a (s.2.2.1.getD i xd).2.1) vd (by omega)
  have p4:=qbzu hX (n:=n) (by omega) (qbb a (s.2.2.1.getD i xd).2.1) (qbb b (s.2.2.1.getD i xd).2.1) (by omega)
  rw[p1,qf]
  dsimp only
  rw[p2,p3]
  simp only[qf]
  rw[p4,qf,qbvz (fun v h=>hv v (qbst v h))]
  unfold q18
  cases (s.2.2.1.getD i xd).2.2.1
  ·rfl
  ·cases q9t (qbb a (s.2.2.1.getD i xd).2.1)<;>simp[br]),qf]
 rfl
theorem qbsm {X:Ext} (hX:XOk X) {n:Nat} (hn:W+3≤n) (s:qcw) (hs:SchSm s) (a b:Row) (ha:a.length≤M) (hb:b.length≤M):q0e (DD X n) s a b=some ((q0b s a b,()),()):=by
 obtain ⟨n,rfl⟩:∃ k,n=k+1:=⟨n - 1,by omega⟩
 have hM:=qcy
 have hW:=qbn
 have h2:=hs.ixs
 rw[qbmd hX]
 simp only[qzo,qyq,quy]
 refine Eq.trans (qju (L:=fun m i=>qix (DD X n) n _ _ m a b (i:Int) s) (N:=s.2.2.1.length) (P:=q18 s.2.2.1 a b)
  (A:=some ((true,()),())) (B:=some ((false,()),())) (fun m i hi=>?_) (m:=n) (by omega)) ?_
 ·simp only[qix,qwl]
  by_cases h:i<s.2.2.1.length
  ·have hc:=hs.ixc _ (qdl (d:=xd) h)
   have p1:=qv8 hX (n:=n) (by omega) a ha (s.2.2.1.getD i xd).2.1 hc
   have p2:=qv8 hX (n:=n) (by omega) b hb (s.2.2.1.getD i xd).2.1 hc
   have l1:=qkp a (s.2.2.1.getD i xd).2.1
   have p3:=qbw0 hX (n:=n) (by omega) (qbb a (s.2.2.1.getD i xd).2.1) (by omega)
   have p4:=qbwp hX (n:=n) (by omega) (qbb a (s.2.2.1.getD i xd).2.1) (qbb b (s.2.2.1.getD i xd).2.1) (by omega)
   rw[qm (by exact_mod_cast h),ix h,br_t,Int.toNat_natCast,p1,qf]
   dsimp only
   rw[p2,qf]
   dsimp only
   rw[p3,p4,qp (by omega),if_pos h]
   simp only[qf]
   unfold q18
   cases (s.2.2.1.getD i xd).2.2.1
   ·rfl
   ·cases decide (qbb a (s.2.2.1.getD i xd).2.1=qbb b (s.2.2.1.getD i xd).2.1)
    ·rfl
    ·cases q9t (qbb a (s.2.2.1.getD i xd).2.1)<;>rfl
  ·rw[qo (by exact_mod_cast h),if_neg h];rfl
 ·unfold q0b
  cases qx (q18 s.2.2.1 a b) 0 s.2.2.1.length<;>rfl
end Go.G

namespace Go.G
set_option maxRecDepth 100000
open Go Go.V Go.Proofs
abbrev Rel:=qcw×List Row×Unit
abbrev RelT:Ty:=.pair qg2 (.pair (.sl (Ty.sl qbm)) .unit)
theorem qbhb (D:Den ctx) (n:Nat) (K0:Bool→Option ((Bool×Unit)×Unit)) (K1:Option ((Bool×Unit)×Unit)):∀ (m i:Nat) (a b:List Row),(∀ x y,y∈b→qr5 D x y=some ((decide (x=y),()),()))→
  a.length=b.length→a.length≤maxLen→i≤a.length→a.length - i<m→qhl D n K0 K1 m a b i=if a.drop i=b.drop i then K1 else K0 false
 | 0,_,_,_,_,_,_,_,h=>by omega
 | m+1,i,a,b,he,hl,hm,hi,hk=>by
  simp only[qhl,qvc]
  have hd:=qj
  by_cases h:i<a.length
  ·rw[qm (by exact_mod_cast h),ix h,br_t,ix (hl ▸ h),br_t,qp (by omega),Int.toNat_natCast,qy h,qy (hl ▸ h),he _ _ (List.getElem_mem _),qf,q7 h,q7 (hl ▸ h:i<b.length)]
   by_cases e:a[i]=b[i]'(hl ▸ h)
   ·simp only[e,decide_true,Bool.not_true,br_f,List.cons.injEq,true_and]
    exact qbhb D n K0 K1 m (i+1) a b he hl hm (by omega) (by omega)
   ·simp only[e,decide_false,Bool.not_false,br_t,List.cons.injEq,false_and,if_false]
  ·rw[qo (by exact_mod_cast h),q9 h,q9 (hl ▸ h)];rfl
theorem qbse {X:Ext} (hX:XOk X) {n:Nat} (hn:W+4≤n) (a b:List Row) (hb:Fit maxLen (.sl (Ty.sl qbm)) b):qwi (DD X n) a b=some ((decide (a=b),()),()):=by
 obtain ⟨n,rfl⟩:∃ k,n=k+1:=⟨n - 1,by omega⟩
 have hb1:b.length≤maxLen:=hb.1
 rw[qbh3 hX]
 simp only[qw1,qwf,qtn]
 by_cases h:a.length=b.length
 ·have e:((a.length:Int) != (b.length:Int))=false:=by simp[h]
  rw[e,br_f]
  have:=qbhb (DD X n) n (fun v=>qlo (DD X n) n v) (qlt (DD X n) n) n 0 a b (fun x y hy=>qbt2 hX (by omega) x y (hb.2 y hy)) h (by omega) (by omega) (by have:=qbn;have:=qj;omega)
  rw[show ((0:Nat):Int)=0 from rfl] at this
  rw[this]
  simp only[List.drop_zero,qlo,qlt]
  by_cases h:a=b<;>simp[h]
 ·have e:((a.length:Int) != (b.length:Int))=true:=by simp;omega
  have:a≠b:=fun h2=>h (by rw[h2])
  rw[e,br_t];simp[this]
theorem qbhe (D:Den ctx) (n:Nat) (K:List Row→Option ((List Row×Unit)×Unit)):∀ (m i:Nat) (a c:List Row),(∀ x∈a,qrw D x=some ((x,()),()))→a.length=c.length→a.length≤maxLen→i≤a.length→a.length - i<m→
  qhr D n K m a i c=K (c.take i++a.drop i)
 | 0,_,_,_,_,_,_,_,h=>by omega
 | m+1,i,a,c,he,hl,hm,hi,hk=>by
  simp only[qhr,qu5]
  have hd:=qj
  by_cases h:i<a.length
  ·rw[qm (by exact_mod_cast h),ix h,br_t,Int.toNat_natCast,qy h,he _ (List.getElem_mem _),qf,ix (hl ▸ h),br_t,qp (by omega)]
   have e:=qbhe D n K m (i+1) a (c.set i a[i]) he (by simp[hl]) hm (by omega) (by omega)
   rw[q7 h]
   refine Eq.trans e ?_
   rw[qle (hl ▸ h),List.append_assoc];rfl
  ·rw[qo (by exact_mod_cast h),q9 h,List.take_of_length_le (by omega),List.append_nil]
theorem qbsf {X:Ext} (hX:XOk X) {n:Nat} (hn:W+4≤n) (a:List Row) (ha:Fit qbc (.sl (Ty.sl qbm)) a):qwv (DD X n) a=some ((a,()),()):=by
 obtain ⟨n,rfl⟩:∃ k,n=k+1:=⟨n - 1,by omega⟩
 have ha1:a.length≤qbc:=ha.1
 rw[qbh7 hX]
 simp only[qwm,qwu,qsi]
 rw[q8w ha1,br_t]
 have h1:=qdh
 have:=qbhe (DD X n) n (fun v=>qlk (DD X n) n v) n 0 a (List.replicate (Int.toNat (a.length:Int)) []) (fun x hx=>qbus hX (by omega) x (ha.2 x hx)) (by simp) (by rw[qj];omega) (by omega) (by have:=qbn;omega)
 rw[show ((0:Nat):Int)=0 from rfl] at this
 rw[this]
 simp only[List.take_zero,List.drop_zero,List.nil_append,qlk]
theorem qbhg (D:Den ctx) (n:Nat) (K0:Int→Int→Option ((Int×Unit)×Unit)) (K1:Int→Option ((Int×Unit)×Unit)) (hK:∀ k,K1 k=some ((k,()),())) (hK0:∀ k,K0 k (-1)=some ((-1,()),())):∀ (m i:Nat) (k:Int) (a:List Row),
  (∀ x∈a,∀ k:Int,0≤k→k≤maxLen→qrs D x k=some ((left (Ty.sl qbm) x k,()),()))→a.length≤maxLen→i≤a.length→a.length - i<m→0≤k→k≤maxLen→
  qhx D n K0 K1 m a k i=some ((if (((a.drop i).map (tot (Ty.sl qbm))).sum:Int)≤k then k - ((a.drop i).map (tot (Ty.sl qbm))).sum else -1,()),())
 | 0,_,_,_,_,_,_,h,_,_=>by omega
 | m+1,i,k,a,he,hm,hi,hf,h0,h1=>by
  simp only[qhx,qvl]
  have hd:=qj
  by_cases h:i<a.length
  ·rw[qm (by exact_mod_cast h),ix h,br_t,Int.toNat_natCast,qy h,he _ (List.getElem_mem _) k h0 h1,qf,qp (by omega),qhc h]
   by_cases h2:left (Ty.sl qbm) a[i] k<0
   ·rw[qm h2,hK0,if_neg]
    intro h3
    rw[qea (by omega)] at h2
    omega
   ·obtain ⟨e1,e2⟩:=qg7 h2 h0
    rw[qo h2,e1];dsimp only
    rw[qbhg D n K0 K1 hK hK0 m (i+1) _ a he hm (by omega) (by omega) (by omega) (by omega)]
    congr 3
    push_cast
    split<;>split<;>omega
  ·rw[qo (by exact_mod_cast h),q9 h,hK]
   simp[h0]
theorem qbs4 {X:Ext} (hX:XOk X) {n:Nat} (hn:W+4≤n) (a:List Row) (k:Int) (ha:Wf (.sl (Ty.sl qbm)) a) (hk:0≤k∧k≤maxLen):qwg (DD X n) a k=some ((left (.sl (Ty.sl qbm)) a k,()),()):=by
 obtain ⟨n,rfl⟩:∃ k,n=k+1:=⟨n - 1,by omega⟩
 have hd:=qj
 have w1:a.length≤maxLen:=ha.1
 have hts:=qvs (t:=(Ty.sl qbm)) a
 rw[qbhy hX]
 simp only[qwt,qxo,qto]
 rw[qce (by omega) (by omega)]
 by_cases h:k - (a.length:Int)<0
 ·rw[qm h,qer (by omega)]
 ·rw[qo h]
  have:=qbhg (DD X n) n (fun v w=>qq9 (DD X n) n v w) (fun v=>qq6 (DD X n) n v) (fun _=>rfl) (fun _=>rfl) n 0 (k - a.length) a
   (fun x hx k h0 h1=>qbuo hX (by omega) x k (ha.2 x hx) ⟨h0,h1⟩) w1 (by omega) (by have:=qbn;omega) (by omega) (by omega)
  rw[show ((0:Nat):Int)=0 from rfl] at this
  rw[this,List.drop_zero]
  by_cases h2:(tot (.sl (Ty.sl qbm)) a:Int)≤k
  ·rw[qea h2,if_pos (by omega)];congr 3;omega
  ·rw[qer h2,if_neg (by omega)]
theorem qbqw {X:Ext} (hX:XOk X) (N n:Nat) (hN:W+2≤N) (K:Int→List Row→Option ((Int×Unit)×List Row×Unit)):∀ (m i:Nat) (k:Int) (a:List Row),a.length≤maxLen→(∀ x∈a,x.length≤maxLen)→i≤a.length→a.length - i<m→0≤k→k+((a.drop i).map (cnt (Ty.sl qbm))).sum≤maxLen→
  qfv (DD X N) n K m k i a=K (mkL (mkT (Ty.sl qbm)) k (a.drop i)).1 (a.take i++(mkL (mkT (Ty.sl qbm)) k (a.drop i)).2)
 | 0,_,_,_,_,_,_,h,_,_=>by omega
 | m+1,i,k,a,hm,hmm,hi,hf,hk,hkl=>by
  simp only[qfv,qrp]
  have hd:=qj
  by_cases h:i<a.length
  ·rw[qhc h] at hkl
   have hc1:=ql5 (Ty.sl qbm) k a[i]
   have t1:=qbrr hX hN a[i] k (hmm _ (List.getElem_mem h)) hk (by omega)
   have wi:IntKind.wrap IntKind.i64 ((i:Int)+1)=((i+1:Nat):Int):=qp (by omega)
   rw[qm (by exact_mod_cast h)]
   simp only[ix h,br_t,wi,qf,List.length_set,Int.toNat_natCast,qy h,t1]
   refine Eq.trans (qbqe rfl) ?_
   have hml:(mkT (Ty.sl qbm) k a[i]).2.length=a[i].length:=qbm4 k a[i]
   have e:=qbqw hX N n hN K m (i+1) (mkT (Ty.sl qbm) k a[i]).1 (a.set i (mkT (Ty.sl qbm) k a[i]).2) (by simpa using hm) (fun x hx=>by
    rcases List.mem_or_eq_of_mem_set hx with hx | rfl
    ·exact hmm x hx
    ·rw[hml];exact hmm _ (List.getElem_mem h)) (by simp;omega) (by simp;omega) (by omega) (by rw[List.drop_set_of_lt (by omega)];omega)
   refine Eq.trans e ?_
   rw[qle h,q7 h,List.drop_set_of_lt (by omega),List.append_assoc]
   rfl
  ·rw[qo (by exact_mod_cast h),q9 h,List.take_of_length_le (by omega)]
   simp only[mkL,List.append_nil]
theorem qbpv {X:Ext} (hX:XOk X) {n:Nat} (hn:W+3≤n) (a:List Row) (k:Int) (ha:a.length≤maxLen) (hr:∀ x∈a,x.length≤maxLen) (hk:0≤k) (h:k+cnt (.sl (Ty.sl qbm)) a≤maxLen) :
  qs7 (DD X n) a k=some (((mkT (.sl (Ty.sl qbm)) k a).1,()),((mkT (.sl (Ty.sl qbm)) k a).2,())):=by
 obtain ⟨n,rfl⟩:∃ k,n=k+1:=⟨n - 1,by omega⟩
 have hd:=qj
 rw[qbcm hX]
 simp only[qs9,qss,qpg]
 have:=qbqw hX n n (by omega) (fun v w=>qjz (DD X n) n v w) n 0 k a ha hr (by omega) (by have:=qbn;omega) hk (by rw[List.drop_zero];exact h)
 rw[show ((0:Nat):Int)=0 from rfl] at this
 rw[this]
 simp only[List.take_zero,List.drop_zero,List.nil_append,qjz,mkT]
instance decRows:DecidableEq (List Row):=inferInstance
instance decRel:DecidableEq Rel:=fun a b=>@instDecidableEqProd _ _ decSchema (@instDecidableEqProd _ _ decRows inferInstance) a b
theorem qbts (a:Rel):tot RelT a=tot qg2 a.1+(tot (.sl (Ty.sl qbm)) a.2.1+0):=rfl
theorem qbzc {X:Ext} (hX:XOk X) {n:Nat} (hn:W+5≤n) (a:Rel) (ha:Fit qbc RelT a):qht (DD X n) a=some ((a,()),()):=by
 obtain ⟨n,rfl⟩:∃ k,n=k+1:=⟨n - 1,by omega⟩
 rw[qbgq hX]
 simp only[qvf,q5c]
 rw[qbu3 hX (by omega) _ ha.1,qf,qbsf hX (by omega) _ ha.2.1,qf]
theorem qby3 {X:Ext} (hX:XOk X) {n:Nat} (hn:W+5≤n) (a b:Rel) (hb:Fit maxLen RelT b):quf (DD X n) a b=some ((decide (a=b),()),()):=by
 obtain ⟨n,rfl⟩:∃ k,n=k+1:=⟨n - 1,by omega⟩
 rw[qbfv hX]
 simp only[qu9,q4v]
 rw[qbux hX (by omega) _ _ hb.1,qf,qbse hX (by omega) _ _ hb.2.1,qf]
 obtain ⟨a1,a2,⟨⟩⟩:=a
 obtain ⟨b1,b2,⟨⟩⟩:=b
 by_cases h1:a1=b1<;>by_cases h2:a2=b2<;>simp[h1,h2,br]
theorem qbz0 {X:Ext} (hX:XOk X) {n:Nat} (hn:W+5≤n) (a:Rel) (k:Int) (ha:Wf RelT a) (hk:0≤k∧k≤maxLen):qui (DD X n) a k=some ((left RelT a k,()),()):=by
 obtain ⟨n,rfl⟩:∃ k,n=k+1:=⟨n - 1,by omega⟩
 have hd:=qj
 have ht:=qbts a
 rw[qbfm hX]
 simp only[qvm,q4w]
 rw[qbva hX (by omega) _ _ ha.1 hk,qf];dsimp only
 by_cases h:left qg2 a.1 k<0
 ·rw[qm h,qer]
  intro h3
  rw[qea (by omega)] at h
  omega
 ·obtain ⟨e1,e2⟩:=qg7 h hk.1
  rw[qo h,e1,qbs4 hX (by omega) _ _ ha.2.1 (by omega),qf];dsimp only
  by_cases h:left (.sl (Ty.sl qbm)) a.2.1 (k - tot qg2 a.1)<0
  ·rw[qm h,qer]
   intro h3
   rw[qea (by omega)] at h
   omega
  ·obtain ⟨e3,e4⟩:=qg7 h (by omega)
   rw[qo h,e3,qea (by omega)]
   congr 3;omega
theorem qbv9 {X:Ext} (hX:XOk X) {n:Nat} (hn:W+4≤n) (a:Rel) (k:Int) (ha:Fit maxLen RelT a) (hk:0≤k) (h:k+cnt RelT a≤maxLen) :
  qrd (DD X n) a k=some (((mkT RelT k a).1,()),((mkT RelT k a).2,())):=by
 obtain ⟨n,rfl⟩:∃ k,n=k+1:=⟨n - 1,by omega⟩
 have hc:cnt RelT a=cnt qg2 a.1+(cnt (.sl (Ty.sl qbm)) a.2.1+0):=rfl
 have h1:=ql5 qg2 k a.1
 rw[qbb6 hX]
 simp only[qro,q0m]
 rw[qbr8 hX (by omega) _ _ ha.1 hk (by omega),qf];dsimp only
 rw[qbpv hX (by omega) _ _ ha.2.1.1 (fun x hx=>(ha.2.1.2 x hx).1) (by omega) (by omega),qf]
 rfl
structure RelSm (r:Rel):Prop where
 sch:SchSm r.1
 rows:r.2.1.length≤M
 row:∀ x∈r.2.1,x.length≤M
theorem qbxs {r:Rel} (h:tot RelT r≤M):RelSm r:=by
 rw[qbts] at h
 have h1:=qvs (t:=(Ty.sl qbm)) r.2.1
 refine ⟨qbxq (by omega),by omega,fun x hx=>?_⟩
 have:=q5y (t:=(Ty.sl qbm)) hx
 have h2:=qvs (t:=qbm) x
 have:x.length≤tot (Ty.sl qbm) x:=by show x.length≤tot (.sl qbm) x;omega
 omega
end Go.G

namespace Go.G
set_option maxRecDepth 100000
open Go Go.V Go.Proofs
theorem qbu2 {s:qcw} {row:Row} (h:qtu s row=true):∀ v∈row,qdm v=true:=by
 intro v hv
 obtain ⟨i,hi,rfl⟩:=List.mem_iff_getElem.1 hv
 simp only[qtu,Bool.and_eq_true,Bool.not_eq_true',decide_eq_true_eq] at h
 have k:=qej.1 h.2.2 i (by omega) (by omega)
 simp only[q61,Bool.or_eq_false_iff,Bool.not_eq_false'] at k
 rw[←qy (d:=vd) hi];exact k.1
def qo0 (s:qcw) (rows:List Row) (i:Nat):Bool:=
 !qtu s (rows.getD i [])||((decide (0<i)&&!tlt (qbb (rows.getD (i - 1) []) s.2.1) (qbb (rows.getD i []) s.2.1))||qx (fun k=>q0b s (rows.getD i []) (rows.getD k [])) 0 i)
def qzq (r:Rel):Bool:=!qx (qo0 r.1 r.2.1) 0 r.2.1.length&&(qlf r.1&&decide ((r.2.1.length:Int)≤12))
theorem qbzo (D:Den ctx) (r:Rel) (row x:Row):qbr ctx D (Clo.mk 80 [CapV.rptr (Ty.pair
          (Ty.pair (Ty.sl (Ty.pair Ty.str (Ty.pair (Ty.int IntKind.i64) (Ty.pair Ty.bool Ty.unit))))
           (Ty.pair (Ty.sl (Ty.int IntKind.i64))
            (Ty.pair (Ty.sl (Ty.pair Ty.str (Ty.pair (Ty.sl (Ty.int IntKind.i64)) (Ty.pair Ty.bool Ty.unit)))) Ty.unit)))
          (Ty.pair (Ty.sl (Ty.sl (Ty.pair (Ty.int IntKind.i64) (Ty.pair (Ty.int IntKind.i64) (Ty.pair Ty.str Ty.unit))))) Ty.unit)) r,CapV.rptr (Ty.sl (Ty.pair (Ty.int IntKind.i64) (Ty.pair (Ty.int IntKind.i64) (Ty.pair Ty.str Ty.unit)))) row]) [CapV.val (Ty.sl (Ty.pair (Ty.int IntKind.i64) (Ty.pair (Ty.int IntKind.i64) (Ty.pair Ty.str Ty.unit)))) x] Ty.bool=(q8z D x r row).bind fun q=>some q.1.1:=by kernel_rfl
theorem qbvj {α:Type} {l:List α} {i j:Nat} {d:α} (h:j<i):(l.take i).getD j d=l.getD j d:=by
 simp only[List.getD,List.getElem?_take]
 rw[if_pos h]
theorem qbsz {X:Ext} (hX:XOk X) {n:Nat} (hn:W+9≤n) (r:Rel) (hr:RelSm r) (i:Nat) (hi:i<r.2.1.length) (hv:∀ v∈r.2.1.getD i [],qdm v=true) :
  qca (DD X n) (List.drop (Int.toNat 0) (List.take i r.2.1)) (Clo.mk 80 [CapV.rptr (Ty.pair
          (Ty.pair (Ty.sl (Ty.pair Ty.str (Ty.pair (Ty.int IntKind.i64) (Ty.pair Ty.bool Ty.unit))))
           (Ty.pair (Ty.sl (Ty.int IntKind.i64))
            (Ty.pair (Ty.sl (Ty.pair Ty.str (Ty.pair (Ty.sl (Ty.int IntKind.i64)) (Ty.pair Ty.bool Ty.unit)))) Ty.unit)))
          (Ty.pair (Ty.sl (Ty.sl (Ty.pair (Ty.int IntKind.i64) (Ty.pair (Ty.int IntKind.i64) (Ty.pair Ty.str Ty.unit))))) Ty.unit)) r,CapV.rptr (Ty.sl (Ty.pair (Ty.int IntKind.i64) (Ty.pair (Ty.int IntKind.i64) (Ty.pair Ty.str Ty.unit)))) (r.2.1.getD i [])])
   = some ((qx (fun k=>q0b r.1 (r.2.1.getD i []) (r.2.1.getD k [])) 0 i,()),()):=by
 have hM:=qcy
 have hd:=qj
 have h2:=hr.rows
 have hl:(List.drop (Int.toNat 0) (List.take i r.2.1)).length=i:=by
  show (List.take i r.2.1).length=i
  rw[List.length_take];omega
 have e:=qbwt hX (n:=n) (by omega) (List.drop (Int.toNat 0) (List.take i r.2.1)) (by rw[hl];omega) (Clo.mk 80 [CapV.rptr (Ty.pair
          (Ty.pair (Ty.sl (Ty.pair Ty.str (Ty.pair (Ty.int IntKind.i64) (Ty.pair Ty.bool Ty.unit))))
           (Ty.pair (Ty.sl (Ty.int IntKind.i64))
            (Ty.pair (Ty.sl (Ty.pair Ty.str (Ty.pair (Ty.sl (Ty.int IntKind.i64)) (Ty.pair Ty.bool Ty.unit)))) Ty.unit)))
          (Ty.pair (Ty.sl (Ty.sl (Ty.pair (Ty.int IntKind.i64) (Ty.pair (Ty.int IntKind.i64) (Ty.pair Ty.str Ty.unit))))) Ty.unit)) r,CapV.rptr (Ty.sl (Ty.pair (Ty.int IntKind.i64) (Ty.pair (Ty.int IntKind.i64) (Ty.pair Ty.str Ty.unit)))) (r.2.1.getD i [])])
  (fun k=>q0b r.1 (r.2.1.getD i []) (r.2.1.getD k [])) (fun k hk=>by
   rw[hl] at hk
   obtain ⟨n,rfl⟩:∃ k,n=k+3:=⟨n - 3,by omega⟩
   rw[qbzo,show n+3 - 2=n+1 from rfl,qbn1 hX]
   simp only[q2k,q9r]
   have hg:(List.drop (Int.toNat 0) (List.take i r.2.1)).getD k []=r.2.1.getD k []:=qbvj hk
   rw[hg,qbsk hX (by omega) r.1 hr.sch _ _ (hr.row _ (qdl hi)) (hr.row _ (qdl (by omega))) hv,qf]
   rfl)
 rw[hl] at e
 exact e
theorem qbsh {X:Ext} (hX:XC X) {n:Nat} (hn:W+10≤n) (r:Rel) (hr:RelSm r):q6s (DD X n) r=some ((qzq r,()),()):=by
 obtain ⟨n,rfl⟩:∃ k,n=k+1:=⟨n - 1,by omega⟩
 have hW:=qbn
 have hM:=qcy
 have h2:=hr.rows
 have hk:=hr.sch.key
 rw[qbp6 hX.ok]
 simp only[q7a,q6v,q2o]
 refine Eq.trans (qju (L:=fun m i=>ql2 (DD X n) n _ _ m r.2.1 r.2.1.length (i:Int) r) (N:=r.2.1.length) (P:=qo0 r.1 r.2.1)
  (A:=some ((false,()),())) (B:=some ((qlf r.1&&decide ((r.2.1.length:Int)≤12),()),())) (fun m i hi=>?_) (m:=n) (by omega)) ?_
 ·simp only[ql2,q39]
  by_cases h:i<r.2.1.length
  ·have hc1:(decide ((0:Nat)≤0)&&decide ((0:Int)≤(i:Int))&&decide ((i:Int)≤(r.2.1.length:Int)))=true:=by
    rw[decide_eq_true (by omega),decide_eq_true (by omega),decide_eq_true (by omega)];rfl
   have hri:=hr.row _ (qdl (d:=[]) h)
   rw[qm (by exact_mod_cast h),ix h,br_t,Int.toNat_natCast,qbsl hX.ok (n:=n) (by omega) r.1 hr.sch _ hri,qf,qp (by omega),if_pos h,hc1]
   dsimp only
   unfold qo0
   cases hok:qtu r.1 (r.2.1.getD i [])
   ·rfl
   ·have ec:=qbsz hX.ok (n:=n) (by omega) r hr i h (qbu2 hok)
    rw[Bool.not_true,br_f,br_t,ec,qf,Bool.false_or]
    dsimp only
    by_cases h0:0<i
    ·have w1:IntKind.wrap IntKind.i64 ((i:Int) - 1)=((i - 1:Nat):Int):=by rw[qce (by omega) (by omega)];omega
     have hrj:=hr.row _ (qdl (d:=[]) (show i - 1<r.2.1.length by omega))
     have l1:=qkp (r.2.1.getD (i - 1) []) r.1.2.1
     rw[qm (by omega),w1,ix (i:=i - 1) (by omega),br_t,Int.toNat_natCast,q2j hX.ok (by omega) r.1 _ hrj hk,qf]
     dsimp only
     rw[q2j hX.ok (by omega) r.1 _ hri hk,qf]
     dsimp only
     rw[qbl7 hX (by omega) _ _ (by omega),qf,decide_eq_true h0]
     dsimp only
     cases tlt (qbb (r.2.1.getD (i - 1) []) r.1.2.1) (qbb (r.2.1.getD i []) r.1.2.1)<;>rfl
    ·rw[qo (by omega),decide_eq_false h0];rfl
  ·rw[qo (by exact_mod_cast h),if_neg h]
   simp only[qzk]
   rw[q80 hX.ok (by omega) r.1 hr.sch,qf,qj5]
 ·unfold qzq
  cases qx (qo0 r.1 r.2.1) 0 r.2.1.length<;>rfl
theorem qbs6 {X:Ext} (hX:XOk X) {n:Nat} (hn:W+8≤n) (r:Rel) (hr:RelSm r):q7i (DD X n) r=some ((qzq r,()),()):=by
 obtain ⟨n,rfl⟩:∃ k,n=k+1:=⟨n - 1,by omega⟩
 have hW:=qbn
 have hM:=qcy
 have h2:=hr.rows
 have hk:=hr.sch.key
 rw[qbrc hX]
 simp only[q6k,q6e,q2q]
 refine Eq.trans (qju (L:=fun m i=>qfj (DD X n) n _ _ m (i:Int) r) (N:=r.2.1.length) (P:=qo0 r.1 r.2.1)
  (A:=some ((false,()),())) (B:=some ((qlf r.1&&decide ((r.2.1.length:Int)≤12),()),())) (fun m i hi=>?_) (m:=n) (by omega)) ?_
 ·simp only[qfj,q3t,q01]
  by_cases h:i<r.2.1.length
  ·have hri:=hr.row _ (qdl (d:=[]) h)
   have el:=qju (L:=fun q k=>ql8 (DD X n) n (fun v0_0 v0_1 v0_2=>qx1 (DD X n) n (qfj (DD X n) n (fun v0_0 v0_1=>qhe (DD X n) n v0_0 v0_1) (fun v1_0=>qfp (DD X n) n v1_0) m) (fun v0_0 v0_1=>qhe (DD X n) n v0_0 v0_1) (fun v1_0=>qfp (DD X n) n v1_0) v0_0 v0_1 v0_2)
      (fun v1_0 v1_1=>qrv (DD X n) n (qfj (DD X n) n (fun v0_0 v0_1=>qhe (DD X n) n v0_0 v0_1) (fun v1_0=>qfp (DD X n) n v1_0) m) (fun v0_0 v0_1=>qhe (DD X n) n v0_0 v0_1) (fun v1_0=>qfp (DD X n) n v1_0) v1_0 v1_1) q (i:Int) (k:Int) r)
     (N:=i) (P:=fun k=>q0b r.1 (r.2.1.getD i []) (r.2.1.getD k []))
     (A:=some ((false,()),())) (B:=qfj (DD X n) n (fun v0_0 v0_1=>qhe (DD X n) n v0_0 v0_1) (fun v1_0=>qfp (DD X n) n v1_0) m ((i+1:Nat):Int) r) (fun q k hk2=>by
    simp only[ql8,q30]
    by_cases h3:k<i
    ·rw[qm (by exact_mod_cast h3),ix (i:=k) (by omega),br_t,ix h,br_t,Int.toNat_natCast,Int.toNat_natCast,qbsm hX (by omega) r.1 hr.sch _ _ (hr.row _ (qdl (by omega))) hri,qf,qp (by omega),if_pos h3,qbar]
     rfl
    ·rw[qo (by exact_mod_cast h3),if_neg h3]
     simp only[qrv]
     rw[qp (by omega)]) (m:=n) (by omega)
   simp only[Int.natCast_zero] at el
   rw[qm (by exact_mod_cast h),ix h,br_t,Int.toNat_natCast,qbhf hX (n:=n) (by omega) r.1 hr.sch _ hri,qf,if_pos h]
   dsimp only
   unfold qo0
   cases hok:qtu r.1 (r.2.1.getD i [])
   ·rfl
   ·rw[Bool.not_true,br_f,Bool.false_or]
    by_cases h0:0<i
    ·have w1:IntKind.wrap IntKind.i64 ((i:Int) - 1)=((i - 1:Nat):Int):=by rw[qce (by omega) (by omega)];omega
     have hrj:=hr.row _ (qdl (d:=[]) (show i - 1<r.2.1.length by omega))
     have l1:=qkp (r.2.1.getD (i - 1) []) r.1.2.1
     rw[qm (by omega),w1,ix (i:=i - 1) (by omega),br_t,Int.toNat_natCast,q2b hX (by omega) r.1 _ hrj hk,qf]
     dsimp only
     rw[br_t,q2b hX (by omega) r.1 _ hri hk,qf]
     dsimp only
     rw[qblt hX (by omega) _ _ (by omega),qf,decide_eq_true h0]
     dsimp only
     cases tlt (qbb (r.2.1.getD (i - 1) []) r.1.2.1) (qbb (r.2.1.getD i []) r.1.2.1)
     ·rfl
     ·exact el
    ·rw[qo (by omega),decide_eq_false h0];exact el
  ·rw[qo (by exact_mod_cast h),if_neg h]
   simp only[qfp]
   rw[q8s hX (by omega) r.1 hr.sch,qf,qj5]
 ·unfold qzq
  cases qx (qo0 r.1 r.2.1) 0 r.2.1.length<;>rfl
def qb03 (r:Rel) (key:Row) (i:Nat):Bool:=decide (qbb (r.2.1.getD i []) r.1.2.1=key)
def qb0u (r:Rel) (key:Row):Option Nat:=qbj (qb03 r key) 0 r.2.1.length
def lookup (r:Rel) (key:Row):Row×Bool:=match qb0u r key with | some j=>if qzq r=true then (r.2.1.getD j [],true) else ([],false) | none=>([],false)
end Go.G

namespace Go.G
set_option maxRecDepth 100000
open Go Go.V Go.Proofs
end Go.G

namespace Go.G
set_option maxRecDepth 100000
open Go Go.V Go.Proofs
theorem qbtb (x:Int):IntKind.wrap IntKind.u8 x=x % 256:=by
 simp[IntKind.wrap,IntKind.signed,IntKind.bits]
theorem qbz6 (y:Int):IntKind.wrap IntKind.u8 (IntKind.wrap IntKind.i64 ((BitVec.toNat (BitVec.and (BitVec.ofInt (IntKind.bits IntKind.i64) y) (BitVec.ofInt (IntKind.bits IntKind.i64) 255)):Nat):Int))=IntKind.wrap IntKind.u8 y:=by
 have e:BitVec.toNat (BitVec.and (BitVec.ofInt (IntKind.bits IntKind.i64) y) (BitVec.ofInt (IntKind.bits IntKind.i64) 255))=(BitVec.ofInt 64 y).toNat % 256:=by
  show ((BitVec.ofInt 64 y) &&&(BitVec.ofInt 64 255)).toNat=_
  rw[BitVec.toNat_and]
  have:(BitVec.ofInt 64 255).toNat=2 ^ 8 - 1:=by decide
  rw[this,Nat.and_two_pow_sub_one_eq_mod]
 rw[e,qbtb,qbtb,BitVec.toNat_ofInt]
 have h:0≤y % (18446744073709551616:Int):=Int.emod_nonneg _ (by decide)
 have h2:((2 ^ 64:Nat):Int)=18446744073709551616:=by decide
 rw[h2]
 rw[qce (by omega) (by omega)]
 omega
def qb01 (y:Int) (k:Nat):Int:=IntKind.wrap IntKind.u8 (Int.fdiv y (Int.pow 2 (8 * k)))
def q3b (y:Int):Nat→List Int
 | 0=>[]
 | k+1=>qb01 y k::q3b y k
theorem qba0 (y:Int):∀ k,(q3b y k).length=k
 | 0=>rfl
 | k+1=>by rw[q3b,List.length_cons,qba0 y k]
theorem qbqt {x:Int} {k:Nat} (h:x=8 * k) (hk:k<8):(if Int.toNat x≤IntKind.bits IntKind.i64 then Int.toNat x else IntKind.bits IntKind.i64)=8 * k:=by
 have:IntKind.bits IntKind.i64=64:=rfl
 rw[this,if_pos (by omega)];omega
def escF (t:ByteArray):Nat→Nat→List Int
 | _,0=>[]
 | i,k+1=>((t.data.getD i (UInt8.ofNat 0)).toNat:Int)::((if ((t.data.getD i (UInt8.ofNat 0)).toNat:Int)=0 then [255] else [])++escF t (i+1) k)
theorem qba6 (t:ByteArray):∀ k i,(escF t i k).length≤2 * k
 | 0,_=>Nat.le_refl _
 | k+1,i=>by
  have:=qba6 t k (i+1)
  simp only[escF,List.length_cons,List.length_append]
  split<;>simp<;>omega
def tagI (v:Value):Int:=IntKind.wrap IntKind.u8 (IntKind.wrap IntKind.i64 (v.1+1))
def qmy (v:Value):List Int:=
 if v.1=1 then [tagI v,IntKind.wrap IntKind.u8 v.2.1] else
 if v.1=2 then tagI v::q3b (IntKind.wrap IntKind.i64 (v.2.1+4611686018427387904)) 8 else
 if v.1=3 then tagI v::(escF v.2.2.1 0 v.2.2.1.size++[0,1]) else [tagI v]
theorem q8q {v:Value} (h:qdm v=true):(qmy v).length≤43:=by
 unfold qmy
 split
 ·simp
 ·split
  ·rw[List.length_cons,qba0];omega
  ·split
   ·rename_i h1 h2 h3
    have hs:v.2.2.1.size≤20:=by
     unfold qdm at h
     rw[h3] at h
     simp at h
     omega
    have:=qba6 v.2.2.1 v.2.2.1.size 0
    simp only[List.length_cons,List.length_append,List.length_nil];omega
   ·simp
def qns (a:Row):List Int:=if qt2 a=true then a.flatMap qmy else []
theorem qbbg {a:Row} (h:qt2 a=true):a.length≤4∧∀ v∈a,qdm v=true:=by
 simp only[qt2,Bool.and_eq_true,decide_eq_true_eq,Bool.not_eq_true'] at h
 refine ⟨by omega,fun v hv=>?_⟩
 obtain ⟨i,hi,rfl⟩:=List.mem_iff_getElem.1 hv
 have k:=qej.1 h.2 i (by omega) (by omega)
 rw[qy hi,Bool.not_eq_false'] at k
 exact k
theorem qboe (D:Den ctx) (n:Nat) (K:List Int→Option ((List Int×Unit)×Unit)) (y:Int):∀ (k m:Nat) (acc:List Int),k≤8→k<m→acc.length+k≤qbc→
  qgi D n K m y (8 * (k:Int) - 8) acc=K (acc++q3b y k)
 | 0,m+1,acc,hk,hm,hb=>by
  simp only[qgi,qp3]
  rw[qo (by omega),q3b,List.append_nil]
 | k+1,m+1,acc,hk,hm,hb=>by
  have hbd:=qdh
  simp only[qgi,qp3]
  have e:(8 * ((k+1:Nat):Int) - 8)=8 * (k:Int):=by omega
  rw[qm (by omega),qo (by omega),qm (by omega),e,qbqt rfl (by omega),qbz6,qce (by omega) (by omega)]
  refine Eq.trans (qboe D n K y k m _ (by omega) (by omega) (by simp;omega)) ?_
  rw[List.append_assoc];rfl
theorem qbam (D:Den ctx) (n:Nat) (K:List Int→Option ((List Int×Unit)×Unit)) (v:Value) (hv:v.2.2.1.size≤20):∀ (m i:Nat) (acc:List Int),i≤v.2.2.1.size→v.2.2.1.size - i<m→acc.length+2 * (v.2.2.1.size - i)≤qbc→
  qjf D n K m (i:Int) v acc=K (acc++escF v.2.2.1 i (v.2.2.1.size - i))
 | 0,i,acc,hi,hm,hb=>by omega
 | m+1,i,acc,hi,hm,hb=>by
  have hbd:=qdh
  simp only[qjf,qwr]
  by_cases h:i<v.2.2.1.size
  ·have hc:(decide (0≤(i:Int))&&decide ((i:Int)<(v.2.2.1.size:Int)))=true:=by
    simp only[Bool.and_eq_true,decide_eq_true_eq];omega
   obtain ⟨k,hk⟩:∃ k,v.2.2.1.size - i=k+1:=⟨v.2.2.1.size - i - 1,by omega⟩
   have hk2:v.2.2.1.size - (i+1)=k:=by omega
   rw[qm (by exact_mod_cast h),hc,br_t,qm (by omega),br_t,Int.toNat_natCast,qp (by omega),hk]
   simp only[escF]
   by_cases h0:((v.2.2.1.data.getD i (UInt8.ofNat 0)).toNat:Int)=0
   ·rw[qm h0,if_pos h0,qm (by simp;omega)]
    refine Eq.trans (qbam D n K v hv m (i+1) _ (by omega) (by omega) (by simp;omega)) ?_
    rw[hk2];simp
   ·rw[qo h0,if_neg h0]
    refine Eq.trans (qbam D n K v hv m (i+1) _ (by omega) (by omega) (by simp;omega)) ?_
    rw[hk2];simp
  ·have:v.2.2.1.size - i=0:=by omega
   rw[qo (by exact_mod_cast h),this,escF,List.append_nil]
theorem qbug {X:Ext} (hX:XOk X) {n:Nat} (hn:W+1≤n) (v:Value) (hv:qdm v=true):qzu (DD X n) v=some ((qmy v,()),()):=by
 obtain ⟨n,rfl⟩:∃ k,n=k+1:=⟨n - 1,by omega⟩
 have hW:=qbn
 have hbd:=qdh
 rw[qbmf hX]
 simp only[qyf,qy8,qul,qvg]
 unfold qmy
 by_cases h1:v.1=1
 ·rw[qm h1,if_pos h1];rfl
 ·rw[qo h1,if_neg h1]
  by_cases h2:v.1=2
  ·rw[qm h2,if_pos h2]
   refine Eq.trans (qboe (DD X n) n _ _ 8 n [tagI v] (by omega) (by omega) (by simp;omega)) ?_
   rfl
  ·rw[qo h2,if_neg h2]
   by_cases h3:v.1=3
   ·have hs:v.2.2.1.size≤20:=by
     unfold qdm at hv
     rw[h3] at hv
     simp at hv
     omega
    rw[qm h3,if_pos h3]
    refine Eq.trans (qbam (DD X n) n _ v hs n 0 [tagI v] (by omega) (by omega) (by simp;omega)) ?_
    simp only[qsx,Nat.sub_zero]
    have:=qba6 v.2.2.1 v.2.2.1.size 0
    rw[qm (by simp;omega)]
    simp
   ·rw[qo h3,if_neg h3];rfl
theorem qbhk {X:Ext} (hX:XOk X) (N n:Nat) (hN:W+4≤N) (K:List Int→Option ((List Int×Unit)×Unit)) (a:Row) (ha:a.length≤4) (hv:∀ v∈a,qdm v=true) (hok:qt9 (DD X N) a=some ((true,()),())):∀ (m i:Nat) (acc:List Int),i≤a.length→a.length - i<m→acc.length≤43 * i→
  qff (DD X N) n K m a (i:Int) acc=K (acc++(a.drop i).flatMap qmy)
 | 0,i,acc,hi,hm,hb=>by omega
 | m+1,i,acc,hi,hm,hb=>by
  have hbd:=qdh
  simp only[qff,qm1]
  by_cases h:i<a.length
  ·have l1:=q8q (hv _ (List.getElem_mem h))
   rw[qm (by exact_mod_cast h),hok,qf,br_t,ix h,br_t,Int.toNat_natCast,qy h,qbug hX (by omega) _ (hv _ (List.getElem_mem h)),qf,qp (by omega),q7 h,List.flatMap_cons]
   dsimp only
   rw[qm (by omega)]
   refine Eq.trans (qbhk hX N n hN K a ha hv hok m (i+1) _ (by omega) (by omega) (by rw[List.length_append];omega)) ?_
   rw[List.append_assoc]
  ·rw[qo (by exact_mod_cast h),q9 h];simp
theorem qbpw {X:Ext} (hX:XOk X) {n:Nat} (hn:W+4≤n) (a:Row) (ha:a.length≤M):qt9 (DD X n) a=some ((qt2 a,()),()):=by
 obtain ⟨n,rfl⟩:∃ k,n=k+1:=⟨n - 1,by omega⟩
 have hM:=qcy
 have hW:=qbn
 rw[qbne hX]
 simp only[q1z,q1g,qwz]
 refine Eq.trans (qju (L:=fun m i=>qjs (DD X n) n _ _ m a (i:Int)) (N:=a.length) (P:=fun i=>!qdm (a.getD i vd))
  (A:=some ((false,()),())) (B:=some ((decide ((a.length:Int)≤4),()),())) (fun m i hi=>?_) (m:=n) (by omega)) ?_
 ·simp only[qjs,qzz]
  by_cases h:i<a.length
  ·rw[qm (by exact_mod_cast h),ix h,br_t,Int.toNat_natCast,qbbl hX (by omega),qf,qp (by omega),if_pos h];rfl
  ·rw[qo (by exact_mod_cast h),if_neg h];rfl
 ·unfold qt2
  cases qx (fun i=>!qdm (a.getD i vd)) 0 a.length<;>cases decide ((a.length:Int)≤4)<;>rfl
theorem q7g {X:Ext} (hX:XOk X) {n:Nat} (hn:W+5≤n) (a:Row) (ha:a.length≤M):qou (DD X n) a=some ((qns a,()),()):=by
 obtain ⟨n,rfl⟩:∃ k,n=k+1:=⟨n - 1,by omega⟩
 have hM:=qcy
 have hW:=qbn
 rw[qbfu hX]
 simp only[qu0,quc,qrj]
 have hok:=qbpw hX (n:=n) (by omega) a ha
 unfold qns
 cases ht:qt2 a
 ·rw[ht] at hok
  obtain ⟨m,rfl⟩:∃ k,n=k+1:=⟨n - 1,by omega⟩
  simp only[qff,qm1]
  rw[hok,qf]
  cases decide ((0:Int)<(a.length:Int))<;>rfl
 ·rw[ht] at hok
  obtain ⟨h1,h2⟩:=qbbg ht
  refine Eq.trans (qbhk hX n n (by omega) _ a h1 h2 hok n 0 [] (by omega) (by omega) (by simp)) ?_
  rfl
theorem qboc (D:Den ctx) (n:Nat) (K:Row→Int→Int→List Int→Option ((List Int×Unit)×Unit)) (a:Row) (p q:Int) (v:Value):∀ (k m:Nat) (acc:List Int),k≤8→k<m→acc.length+k≤qbc→
  qfa D n K m ((k:Int) - 1) a p q acc v=K a p q (acc++q3b (IntKind.wrap IntKind.i64 (v.2.1+4611686018427387904)) k)
 | 0,m+1,acc,hk,hm,hb=>by
  simp only[qfa,qnm]
  rw[qo (by omega),q3b,List.append_nil]
 | k+1,m+1,acc,hk,hm,hb=>by
  have hbd:=qdh
  simp only[qfa,qnm]
  have e:((k+1:Nat):Int) - 1=(k:Int):=by omega
  have e2:IntKind.wrap IntKind.i64 (8 * (k:Int))=8 * (k:Int):=qce (by omega) (by omega)
  have e3:IntKind.wrap IntKind.i64 ((k:Int) - 1)=(k:Int) - 1:=qce (by omega) (by omega)
  rw[e,e2,e3,qm (by omega),qo (by omega),qm (by omega),qbqt rfl (by omega)]
  refine Eq.trans (qboc D n K a p q v k m _ (by omega) (by omega) (by simp;omega)) ?_
  rw[List.append_assoc];rfl
theorem qbac (D:Den ctx) (n:Nat) (K:Row→Int→Int→List Int→Option ((List Int×Unit)×Unit)) (a:Row) (p q:Int) (v:Value) (hv:v.2.2.1.size≤20):∀ (m i:Nat) (acc:List Int),i≤v.2.2.1.size→v.2.2.1.size - i<m→acc.length+2 * (v.2.2.1.size - i)≤qbc→
  qgx D n K m a p q (v.2.2.1.size:Int) (i:Int) acc v=K a p q (acc++escF v.2.2.1 i (v.2.2.1.size - i))
 | 0,i,acc,hi,hm,hb=>by omega
 | m+1,i,acc,hi,hm,hb=>by
  have hbd:=qdh
  simp only[qgx,qsu]
  by_cases h:i<v.2.2.1.size
  ·have hc:(decide (0≤(i:Int))&&decide ((i:Int)<(v.2.2.1.size:Int)))=true:=by
    simp only[Bool.and_eq_true,decide_eq_true_eq];omega
   obtain ⟨k,hk⟩:∃ k,v.2.2.1.size - i=k+1:=⟨v.2.2.1.size - i - 1,by omega⟩
   have hk2:v.2.2.1.size - (i+1)=k:=by omega
   rw[qm (by exact_mod_cast h),hc,br_t,qm (by omega),br_t,Int.toNat_natCast,qp (by omega),hk]
   simp only[escF]
   by_cases h0:((v.2.2.1.data.getD i (UInt8.ofNat 0)).toNat:Int)=0
   ·rw[qm h0,if_pos h0,qm (by simp;omega)]
    refine Eq.trans (qbac D n K a p q v hv m (i+1) _ (by omega) (by omega) (by simp;omega)) ?_
    rw[hk2];simp
   ·rw[qo h0,if_neg h0]
    refine Eq.trans (qbac D n K a p q v hv m (i+1) _ (by omega) (by omega) (by simp;omega)) ?_
    rw[hk2];simp
  ·have:v.2.2.1.size - i=0:=by omega
   rw[qo (by exact_mod_cast h),this,escF,List.append_nil]
theorem qbgz (D:Den ctx) (n:Nat) (hn:W≤n) (K:List Int→Option ((List Int×Unit)×Unit)) (a:Row) (ha:a.length≤4) (hv:∀ v∈a,qdm v=true):∀ (m i:Nat) (acc:List Int),i≤a.length→a.length - i<m→acc.length≤43 * i→
  qd2 D n K m a (a.length:Int) (i:Int) acc=K (acc++(a.drop i).flatMap qmy)
 | 0,i,acc,hi,hm,hb=>by omega
 | m+1,i,acc,hi,hm,hb=>by
  have hbd:=qdh
  have hW:=qbn
  simp only[qd2,qs1,qq7,qrc]
  by_cases h:i<a.length
  ·have hvi:=hv _ (List.getElem_mem h)
   have l1:=q8q hvi
   have ih:=fun acc2 h2=>qbgz D n hn K a ha hv m (i+1) acc2 (by omega) (by omega) h2
   rw[qm (by exact_mod_cast h),ix h,br_t,Int.toNat_natCast,qy h,qp (by omega),q7 h,List.flatMap_cons,qm (by omega)]
   unfold qmy at l1 ⊢
   by_cases h1:a[i].1=1
   ·rw[qm h1,if_pos h1,qm (by simp;omega)]
    rw[if_pos h1] at l1
    refine Eq.trans (ih _ (by simp;omega)) ?_
    rw[List.append_assoc,List.append_assoc];rfl
   ·rw[qo h1,if_neg h1]
    rw[if_neg h1] at l1
    by_cases h2:a[i].1=2
    ·rw[qm h2,if_pos h2]
     rw[if_pos h2] at l1
     refine Eq.trans (qboc D n _ a (a.length:Int) (i:Int) a[i] 8 n _ (by omega) (by omega) (by simp;omega)) ?_
     simp only[qpx]
     rw[qp (by omega)]
     refine Eq.trans (ih _ (by simp[qba0];omega)) ?_
     rw[List.append_assoc,List.append_assoc];rfl
    ·rw[qo h2,if_neg h2]
     rw[if_neg h2] at l1
     by_cases h3:a[i].1=3
     ·have hs:a[i].2.2.1.size≤20:=by
       unfold qdm at hvi
       rw[h3] at hvi
       simp at hvi
       omega
      have hl:=qba6 a[i].2.2.1 a[i].2.2.1.size 0
      rw[qm h3,if_pos h3]
      rw[if_pos h3] at l1
      refine Eq.trans (qbac D n _ a (a.length:Int) (i:Int) a[i] hs n 0 _ (by omega) (by omega) (by simp;omega)) ?_
      simp only[qp5,Nat.sub_zero]
      rw[qm (by simp;omega),qp (by omega)]
      refine Eq.trans (ih _ (by simp;omega)) ?_
      simp only[tagI,List.append_assoc,List.cons_append,List.nil_append]
      rfl
     ·rw[qo h3,if_neg h3]
      rw[if_neg h3] at l1
      refine Eq.trans (ih _ (by simp;omega)) ?_
      rw[List.append_assoc];rfl
  ·rw[qo (by exact_mod_cast h),q9 h];simp
theorem q63 {X:Ext} (hX:XOk X) {n:Nat} (hn:W+5≤n) (a:Row) (ha:a.length≤M):qor (DD X n) a=some ((qns a,()),()):=by
 obtain ⟨n,rfl⟩:∃ k,n=k+1:=⟨n - 1,by omega⟩
 have hM:=qcy
 have hW:=qbn
 rw[qbfr hX]
 simp only[qus,qu4,qre]
 rw[qbpm hX (n:=n) (by omega) a ha,qf]
 unfold qns
 cases ht:qt2 a
 ·rfl
 ·obtain ⟨h1,h2⟩:=qbbg ht
  refine Eq.trans (qbgz (DD X n) n (by omega) _ a h1 h2 n 0 [] (by omega) (by omega) (by simp)) ?_
  rfl
def qbe8 (l:List Int):ByteArray:=ByteArray.mk (List.toArray (List.map (fun n↦UInt8.ofNat (Int.toNat n)) l))
abbrev Way:=ByteArray×ByteArray×Unit
def qba8 (r:Rel) (i:Int) (row:Row):Way×Bool:=
 if (qtu r.1 row&&inR i 0 ((r.1.2.2.1.length:Int) - 1))=true then ((qbe8 (qns (qbb row (r.1.2.2.1.getD i.toNat xd).2.1)),qbe8 (qns (qbb row r.1.2.1)),()),true) else ((ByteArray.empty,ByteArray.empty,()),false)
theorem qbso {X:Ext} (hX:XOk X) {n:Nat} (hn:W+8≤n) (r:Rel) (hr:RelSm r) (i:Int) (row:Row) (hw:row.length≤M):q7f (DD X n) r i row=some (((qba8 r i row).1,(qba8 r i row).2,()),()):=by
 obtain ⟨n,rfl⟩:∃ k,n=k+1:=⟨n - 1,by omega⟩
 have hM:=qcy
 have h3:=hr.sch.ixs
 rw[qbqr hX]
 simp only[q66,qbd1]
 rw[qbhf hX (by omega) r.1 hr.sch row hw,qf,qy0 hX (by omega),qf,qce (by omega) (by omega)]
 unfold qba8
 dsimp only
 cases qtu r.1 row
 ·rfl
 ·cases hin:inR i 0 ((r.1.2.2.1.length:Int) - 1)
  ·rfl
  ·obtain ⟨p1,p2⟩:=qbdz hin
   have hp:i.toNat<r.1.2.2.1.length:=by omega
   have l1:=qkp row (r.1.2.2.1.getD i.toNat xd).2.1
   have l2:=qkp row r.1.2.1
   have l3:=hr.sch.ixc _ (qdl (d:=xd) hp)
   have l4:=hr.sch.key
   rw[ixn p1 p2,Bool.not_true,br_f,br_f,br_t,qv8 hX (by omega) row hw _ l3,qf]
   dsimp only
   rw[q7g hX (by omega) _ (by omega),qf,q2b hX (by omega) r.1 row hw l4,qf]
   dsimp only
   rw[q7g hX (by omega) _ (by omega),qf]
   rfl
theorem qby8 {X:Ext} (hX:XOk X) {n:Nat} (hn:1≤n) (a b:Way):qz2 (DD X n) a b=some ((decide (a=b),()),()):=by
 obtain ⟨n,rfl⟩:∃ k,n=k+1:=⟨n - 1,by omega⟩
 rw[qbqb hX]
 simp only[q7k,qbcp,qfo]
 obtain ⟨a1,a2,⟨⟩⟩:=a
 obtain ⟨b1,b2,⟨⟩⟩:=b
 by_cases h1:a1=b1<;>by_cases h2:a2=b2<;>simp[h1,h2,br]
end Go.G

namespace Go.G
set_option maxRecDepth 100000
open Go Go.V Go.Proofs
def others (r:Rel) (row:Row) (j:Int):Bool:=qx (fun k=>!decide ((k:Int)=j)&&q0b r.1 (r.2.1.getD k []) row) 0 r.2.1.length
end Go.G

namespace Go.G
set_option maxRecDepth 100000
open Go Go.V Go.Proofs
def qbv5 (r:Rel) (key:Row):Nat:=match qbj (fun i=>!tlt (qbb (r.2.1.getD i []) r.1.2.1) key) 0 r.2.1.length with | some j=>j | none=>r.2.1.length
end Go.G

namespace Go.G
set_option maxRecDepth 100000
open Go Go.V Go.Proofs
theorem qbtq:∀ (x y:List UInt8),Op.bytesLess x y=decide (x<y)
 | [],[]=>by simp[Op.bytesLess]
 | _::_,[]=>by simp[Op.bytesLess]
 | [],_::_=>by simp[Op.bytesLess]
 | a::x,b::y=>by
  rw[Op.bytesLess,qbtq x y]
  simp only[List.cons_lt_cons_iff]
  by_cases h1:a<b<;>by_cases h2:a=b<;>by_cases h3:x<y<;>simp[h1,h2,h3]
theorem qbtv (a b:Value):vlt a b=true↔a.1<b.1∨(a.1=b.1∧(a.2.1<b.2.1∨(a.2.1=b.2.1∧a.2.2.1.toList<b.2.2.1.toList))):=by
 simp only[vlt,qbtq]
 by_cases h1:a.1=b.1
 ·by_cases h2:a.2.1=b.2.1
  ·rw[decide_eq_true h1,decide_eq_true h2];simp[h1,h2]
  ·rw[decide_eq_true h1,decide_eq_false h2];simp[h1,h2]
 ·rw[decide_eq_false h1];simp[h1]
theorem qbu4 (a:Value):¬ vlt a a=true:=by
 rw[qbtv]
 rintro (h | ⟨_,h | ⟨_,h⟩⟩)
 ·omega
 ·omega
 ·exact List.lt_irrefl _ h
theorem qbvx {a b c:Value} (h:vlt a b=true) (k:vlt b c=true):vlt a c=true:=by
 rw[qbtv] at *
 rcases h with h | ⟨h,h2⟩
 ·rcases k with k | ⟨k,_⟩
  ·exact .inl (by omega)
  ·exact .inl (by omega)
 ·rcases k with k | ⟨k,k2⟩
  ·exact .inl (by omega)
  ·refine .inr ⟨by omega,?_⟩
   rcases h2 with h2 | ⟨h2,h3⟩
   ·rcases k2 with k2 | ⟨k2,_⟩
    ·exact .inl (by omega)
    ·exact .inl (by omega)
   ·rcases k2 with k2 | ⟨k2,k3⟩
    ·exact .inl (by omega)
    ·exact .inr ⟨by omega,List.lt_trans h3 k3⟩
theorem qbo2:∀ {a b c:Row},tlt a b=true→tlt b c=true→tlt a c=true
 | [],[],_,h,_=>by simp[tlt] at h
 | [],_::_,[],_,k=>by simp[tlt] at k
 | [],_::_,_::_,_,_=>rfl
 | _::_,[],_,h,_=>by simp[tlt] at h
 | _::_,_::_,[],_,k=>by simp[tlt] at k
 | x::a,y::b,z::c,h,k=>by
  simp only[tlt] at *
  by_cases e1:x=y
  ·subst e1
   rw[if_pos rfl] at h
   by_cases e2:x=z
   ·rw[if_pos e2] at k ⊢;exact qbo2 h k
   ·rw[if_neg e2] at k ⊢;exact k
  ·rw[if_neg e1] at h
   by_cases e2:y=z
   ·subst e2;rw[if_neg e1];exact h
   ·rw[if_neg e2] at k
    have:=qbvx h k
    rw[if_neg (fun e=>qbu4 x (by rw[←e] at this;exact this))]
    exact this
def qb0v (s:qcw) (a b:Row):Prop:=tlt (qbb a s.2.1) (qbb b s.2.1)=true∧q0b s a b=false
theorem qbwu (r:Rel):qzq r=true↔qlf r.1=true∧r.2.1.length≤12∧(∀ x∈r.2.1,qtu r.1 x=true)∧r.2.1.Pairwise (qb0v r.1):=by
 simp only[qzq,Bool.and_eq_true,Bool.not_eq_true',decide_eq_true_eq]
 constructor
 ·rintro ⟨h1,h2,h3⟩
  have hb:∀ i,i<r.2.1.length→qo0 r.1 r.2.1 i=false:=fun i hi=>qej.1 h1 i (by omega) (by omega)
  refine ⟨h2,by omega,fun x hx=>?_,?_⟩
  ·obtain ⟨i,hi,rfl⟩:=List.mem_iff_getElem.1 hx
   have:=hb i hi
   simp only[qo0,Bool.or_eq_false_iff,Bool.not_eq_false'] at this
   rw[←qy (d:=[]) hi];exact this.1
  ·have hk:∀ d i,i+d+1<r.2.1.length→tlt (qbb (r.2.1.getD i []) r.1.2.1) (qbb (r.2.1.getD (i+d+1) []) r.1.2.1)=true:=by
    intro d
    induction d with
    | zero=>
     intro i hi
     have:=hb (i+1) (by omega)
     simp only[qo0,Bool.or_eq_false_iff,Bool.not_eq_false',Bool.and_eq_false_iff,decide_eq_false_iff_not,Nat.add_sub_cancel] at this
     exact this.2.1.resolve_left (by omega)
    | succ d ih=>
     intro i hi
     have h4:=ih i (by omega)
     have:=hb (i+d+2) (by omega)
     simp only[qo0,Bool.or_eq_false_iff,Bool.not_eq_false',Bool.and_eq_false_iff,decide_eq_false_iff_not] at this
     have h5:=this.2.1.resolve_left (by omega)
     exact qbo2 h4 h5
   refine List.pairwise_iff_getElem.2 fun i j hi hj hij=>⟨?_,?_⟩
   ·obtain ⟨d,rfl⟩:∃ d,j=i+d+1:=⟨j - i - 1,by omega⟩
    have:=hk d i hj
    rw[qy hi,qy hj] at this
    exact this
   ·have:=hb j hj
    simp only[qo0,Bool.or_eq_false_iff] at this
    have:=qej.1 this.2.2 i (by omega) (by omega)
    rw[qy hi,qy hj,qbar] at this
    exact this
 ·rintro ⟨h1,h2,h3,h4⟩
  have hp:=List.pairwise_iff_getElem.1 h4
  refine ⟨qej.2 fun i _ hi=>?_,h1,by omega⟩
  have hi:i<r.2.1.length:=by omega
  simp only[qo0,Bool.or_eq_false_iff,Bool.not_eq_false']
  refine ⟨h3 _ (qdl hi),?_,qej.2 fun k _ hk=>?_⟩
  ·by_cases h0:0<i
   ·have hi1:i - 1<r.2.1.length:=by omega
    rw[decide_eq_true h0,Bool.true_and,qy hi,qy hi1,(hp (i - 1) i hi1 hi (by omega)).1];rfl
   ·rw[decide_eq_false h0,Bool.false_and]
  ·have hk2:k<r.2.1.length:=by omega
   rw[qy hi,qy hk2,qbar]
   exact (hp k i hk2 hi (by omega)).2
def put (r:Rel) (row:Row):Rel:=(r.1,r.2.1.take (qbv5 r (qbb row r.1.2.1))++[row]++r.2.1.drop (qbv5 r (qbb row r.1.2.1)),())
theorem qbsc {rows:List Row} {j:Nat} {row:Row} (hj:j<rows.length) (i:Nat):(rows.set j row).getD i []=if i=j then row else rows.getD i []:=by
 by_cases e:i=j
 ·subst e
  rw[if_pos rfl,qy (by rw[List.length_set];exact hj),List.getElem_set_self]
 ·rw[if_neg e]
  simp only[List.getD,List.getElem?_set]
  rw[if_neg (fun k=>e k.symm)]
end Go.G

namespace Go.V
open Go
theorem El.take {h:Array Obj} {Pr:BS} {e:Ty} {mi:Mk} {xs:List e.den} {cells:List Value} {Fs:Nat→BS} (k:El h Pr e mi xs cells Fs) (n:Nat) (hn:n≤xs.length) (hl:cells.length=xs.length * e.width):El h Pr e mi (xs.take n) (cells.take (n * e.width)) Fs:=by
 refine ⟨fun i hi=>?_,k.dis⟩
 rw[List.length_take] at hi
 have hin:i<n:=by omega
 have h1:(xs.take n).getD i e.zero=xs.getD i e.zero:=by
  simp only[List.getD,List.getElem?_take]
  rw[if_pos hin]
 have h2:((cells.take (n * e.width)).drop (i * e.width)).take e.width=(cells.drop (i * e.width)).take e.width:=by
  rw[List.drop_take,List.take_take]
  congr 1
  have:(i+1) * e.width≤n * e.width:=Nat.mul_le_mul_right _ hin
  rw[Nat.succ_mul] at this
  omega
 rw[h1,h2]
 exact k.rep i (by omega)
theorem El.drop {h:Array Obj} {Pr:BS} {e:Ty} {mi:Mk} {xs:List e.den} {cells:List Value} {Fs:Nat→BS} (k:El h Pr e mi xs cells Fs) (n:Nat) (hn:n≤xs.length):El h Pr e mi (xs.drop n) (cells.drop (n * e.width)) (fun i=>Fs (n+i)):=by
 refine ⟨fun i hi=>?_,fun i j hij=>k.dis _ _ (by omega)⟩
 rw[List.length_drop] at hi
 have h1:(xs.drop n).getD i e.zero=xs.getD (n+i) e.zero:=by
  simp only[List.getD,List.getElem?_drop]
 have h2:((cells.drop (n * e.width)).drop (i * e.width)).take e.width=(cells.drop ((n+i) * e.width)).take e.width:=by
  rw[List.drop_drop,Nat.add_mul]
 rw[h1,h2]
 exact k.rep (n+i) (by omega)
def upTo (n:Nat) (Fs:Nat→BS) (i:Nat):BS:=if i<n then Fs i else Nil
theorem q6t (n:Nat) (Fs:Nat→BS) (i:Nat):Sub (upTo n Fs i) (Fs i):=by
 unfold upTo
 split
 ·exact Sub.refl _
 ·exact Sub.nil _
theorem El.upTo {h:Array Obj} {Pr:BS} {e:Ty} {mi:Mk} {xs:List e.den} {cells:List Value} {Fs:Nat→BS} (k:El h Pr e mi xs cells Fs):El h Pr e mi xs cells (upTo xs.length Fs):=by
 refine ⟨fun i hi=>?_,fun i j hij=>(k.dis i j hij).mono (q6t _ _ _) (q6t _ _ _)⟩
 have:Go.V.upTo xs.length Fs i=Fs i:=if_pos hi
 rw[this]
 exact k.rep i hi
theorem El.cut {h:Array Obj} {Pr:BS} {e:Ty} {mi:Mk} {xs:List e.den} {cells:List Value} {Fs:Nat→BS} (k:El h Pr e mi xs cells Fs) (i j:Nat) (hij:i≤j) (hj:j≤xs.length) (hl:cells.length=xs.length * e.width) :
  ∃ FF:Nat→BS,El h Pr e mi (xs.take i++xs.drop j) (cells.take (i * e.width)++cells.drop (j * e.width)) FF∧∀ a b,FF a b→∃ c,Fs c b:=by
 have k1:=(k.take i (by omega) hl).upTo
 have k2:=k.drop j hj
 have hlen:(xs.take i).length=i:=by rw[List.length_take];omega
 rw[hlen] at k1
 have hiw:i * e.width≤cells.length:=by rw[hl];exact Nat.mul_le_mul_right _ (by omega)
 have hjw:j * e.width≤cells.length:=by rw[hl];exact Nat.mul_le_mul_right _ hj
 refine ⟨_,El.append k1 k2 (by rw[List.length_take,hlen];omega) (by rw[List.length_drop,List.length_drop,hl,Nat.sub_mul]) (fun a b=>?_),?_⟩
 ·unfold Go.V.upTo
  split
  ·exact k.dis _ _ (by omega)
  ·exact Dis.nil _
 ·intro a b hb
  split at hb
  ·exact ⟨_,q6t _ _ _ b hb⟩
  ·exact ⟨_,hb⟩
theorem El.insert {h:Array Obj} {Pr:BS} {e:Ty} {mi:Mk} {xs ys:List e.den} {c1 c2:List Value} {F1 F2:Nat→BS} (k1:El h Pr e mi xs c1 F1) (k2:El h Pr e mi ys c2 F2) (i:Nat) (hi:i≤xs.length)
  (hl1:c1.length=xs.length * e.width) (hl2:c2.length=ys.length * e.width) (hd:∀ i j,Dis (F1 i) (F2 j)) :
  ∃ FF:Nat→BS,El h Pr e mi (xs.take i++ys++xs.drop i) (c1.take (i * e.width)++c2++c1.drop (i * e.width)) FF∧∀ a b,FF a b→(∃ c,F1 c b)∨∃ c,F2 c b:=by
 have a1:=(k1.take i hi hl1).upTo
 have a3:=k1.drop i hi
 have hlen:(xs.take i).length=i:=by rw[List.length_take];omega
 rw[hlen] at a1
 have hiw:i * e.width≤c1.length:=by rw[hl1];exact Nat.mul_le_mul_right _ hi
 have a12:=El.append a1 k2 (by rw[List.length_take,hlen];omega) hl2 (fun a b=>(hd a b).mono (q6t _ _ _) (Sub.refl _))
 refine ⟨_,El.append a12 a3 (by rw[List.length_append,List.length_append,List.length_take,hlen,hl2,Nat.add_mul];omega) (by rw[List.length_drop,List.length_drop,hl1,Nat.sub_mul]) (fun a b=>?_),?_⟩
 ·skip
  split
  ·unfold Go.V.upTo
   split
   ·exact k1.dis _ _ (by omega)
   ·exact Dis.nil _
  ·exact fun z h1 h2=>hd (i+b) _ z h2 h1
 ·intro a b hb
  split at hb
  ·split at hb
   ·exact .inl ⟨_,q6t _ _ _ b hb⟩
   ·exact .inr ⟨_,hb⟩
  ·exact .inl ⟨_,hb⟩
theorem qbtx {w w2:World} {Pr:BS} {Fs:Nat→BS} {ks:List PK} {a:PDen ks} {vs:List Value} (pre:Pre w.heap Pr Fs ks a vs) {e:Ty} {mi:Mk} {zs:List e.den} {v:Value} {G:BS}
  (rep:Rep w2.heap Pr (.sl e) (.own 0 mi) zs [v] G) (hG:∀ z,G z→May w.heap.size Fs z) (hGP:Dis G Pr) (hGl:∀ z,G z→z<w2.heap.size) (hsz:w.heap.size≤w2.heap.size)
  (o:ODen ks) (out:qfk w2.heap Pr (fun _=>Nil) 0 ks o vs) (fr:WFr (May w.heap.size Fs) w w2) :
  Pst w w2 Pr Fs ks [.val (.sl e) (.own 0 mi)] (zs,()) o vs v Pr (fun i=>if i=0 then G else Nil) (fun _=>Nil) [v] where
 res:=⟨v,[],rfl,⟨[v],rep,rfl⟩,rfl⟩
 val:=rfl
 out:=out
 pr:=Sub.refl _
 prL:=fun b hb=>.inl hb
 gL:=fun i b hb=>by
  split at hb
  ·exact hG b hb
  ·exact hb.elim
 oL:=fun _ _ hb=>hb.elim
 gdis:=fun i j hij=>by
  split
  ·split
   ·omega
   ·exact fun _ _ h=>h.elim
  ·exact Dis.nil _
 odis:=fun _ _ _=>Dis.nil _
 go:=fun _ _=>fun _ _ h=>h.elim
 gp:=fun i=>by
  split
  ·exact hGP
  ·exact Dis.nil _
 op:=fun _=>Dis.nil _
 glim:=fun i b hb=>by
  split at hb
  ·exact hGl b hb
  ·exact hb.elim
 olim:=fun _ _ hb=>hb.elim
 plim:=fun b hb=>Nat.lt_of_lt_of_le (pre.limPr b hb) hsz
 fr:=fr
end Go.V

namespace Go.V
set_option maxRecDepth 100000
set_option maxHeartbeats 4000000
open Go Go.Proofs Go.RowKit Go.Lib
theorem qbks:Tryz.f88.ntmps=95:=by kernel_rfl
theorem qbtk (a1:Option Addr) (n c m:Nat) (a2:Option Addr) (c2:Nat) (w w3:World) (v3:Value) (hm:0<m) (hc:n≤c) (h1:(∃ b,a1=some ⟨b,0,none⟩)∨(n=0∧c=0))
  (hr:∀ ty,(Builtin.append_ #[29,29] ty #[.slice a1 n c,.slice a2 m c2]).run Tryz.prog w=.ok v3 w3) :
  Calls Tryz.prog 88 #[.slice a1 n c,.int .i64 n,.slice a2 m c2] w fun e w'=>e=.returned v3∧w'=w3:=by
 have mx:=mixed
 have u67:Tryz.prog.underlying 29=some (.slice 32):=by kernel_rfl
 have v67:=run_underlying u67
 have hz1:¬ ((m:Int)=0):=by omega
 rcases h1 with ⟨b,rfl⟩ | ⟨rfl,rfl⟩
 ·go_enter Tryz.func88,qbks
  go_wp2_with (at_builtin;refine Lib.wpList_append_run _ rfl _ _ _ _ rfl _ _ rfl rfl _ _ (hr _) ?_)
  all_goals (try (go_ret;exact ⟨rfl,rfl⟩))
 ·cases a1 with
  | none=>
   go_enter Tryz.func88,qbks
   go_wp2_with (at_builtin;refine Lib.wpList_append_run _ rfl _ _ _ _ rfl _ _ rfl rfl _ _ (hr _) ?_)
   all_goals (try (go_ret;exact ⟨rfl,rfl⟩))
  | some a0=>
   go_enter Tryz.func88,qbks
   go_wp2_with (at_builtin;refine Lib.wpList_append_run _ rfl _ _ _ _ rfl _ _ rfl rfl _ _ (hr _) ?_)
   all_goals (try (go_ret;exact ⟨rfl,rfl⟩))
end Go.V

namespace Go.V
set_option maxRecDepth 100000
set_option maxHeartbeats 4000000
open Go Go.Proofs Go.RowKit Go.Lib
theorem qbw8 (b n c i m:Nat) (a2:Addr) (c2 B G:Nat) (w w1 w2 w3:World) (r2 r3:Value) (hi:i<n) (hm:0<m) (hnc:n≤c) (hroom:c<n+m) (hG:n+m≤G) (hs63:n+m≤9223372036854775807)
  (hA:∀ ty,(Builtin.append_ #[29,3] ty #[.slice (some ⟨b,0,none⟩) i c,.int .i64 ((n:Int)+(m:Int) - (i:Int))]).run Tryz.prog w=.ok (.slice (some ⟨B,0,none⟩) (n+m) G) w1)
  (hB:∀ ty,(Builtin.copy_ #[29,29] ty #[.slice (some ⟨B,i,none⟩) (n+m - i) (G - i),.slice (some a2) m c2]).run Tryz.prog w1=.ok r2 w2)
  (hC:∀ ty,(Builtin.copy_ #[29,29] ty #[.slice (some ⟨B,i+m,none⟩) (n+m - (i+m)) (G - (i+m)),.slice (some ⟨b,i,none⟩) (n - i) (c - i)]).run Tryz.prog w2.drew=.ok r3 w3) :
  Calls Tryz.prog 88 #[.slice (some ⟨b,0,none⟩) n c,.int .i64 i,.slice (some a2) m c2] w fun e w'=>e=.returned (.slice (some ⟨B,0,none⟩) (n+m) G)∧w'=w3:=by
 have mx:=mixed
 have u67:Tryz.prog.underlying 29=some (.slice 32):=by kernel_rfl
 have u3:Tryz.prog.underlying 3=some (.int .i64):=by kernel_rfl
 have v67:=run_underlying u67
 have v3:=run_underlying u3
 have s38:(Tryz.prog.info? 32).map (·.size)=some 1:=by kernel_rfl
 obtain ⟨i0,hi0⟩:∃ i0,Tryz.prog.info? 32=some i0:=by cases h:Tryz.prog.info? 32 with | none=>rw[h] at s38;cases s38 | some x=>exact ⟨x,rfl⟩
 have hs0:i0.size=1:=by rw[hi0] at s38;simpa using s38
 have hz1:¬ ((m:Int)=0):=by omega
 have hz2:¬ ((i:Int)=(n:Int)):=by omega
 have hz3:(c:Int)<(n:Int)+(m:Int):=by omega
 have hw1:IntKind.i64.wrap ((i:Int)+(m:Int))=(i:Int)+(m:Int):=by rw[IntKind.wrap_i64];omega
 have hb1:(0:Int)≤(i:Int)+(m:Int):=by omega
 have hin:i≤n:=by omega
 have htn:((i:Int)+(m:Int)).toNat=i+m:=by omega
 have hb3:(i:Int)≤(n:Int):=by omega
 have hGi:¬ (G=i):=by omega
 have hGim:¬ (G=i+m):=by omega
 have hci:¬ (c=i):=by omega
 go_enter Tryz.func88,qbks
 go_wp2_with (first
  | (at_builtin;refine Lib.wpList_append_run _ rfl _ _ _ _ rfl _ _ rfl rfl _ _ (hA _) ?_)
  | (at_builtin;refine wpList_copy_runI _ rfl _ _ 29 29 rfl _ _ rfl rfl (hB _) ?_))
 go_region_law_o (refine step_copy_runI rfl _ _ 29 29 rfl (.slice (some ⟨B,i+m,none⟩) (n+m - (i+m)) (G - (i+m))) (.slice (some ⟨b,i,none⟩) (n - i) (c - i)) (by simp[Act.eval,Act.put]) (by simp[Act.eval,Act.put]) (hC _) ?_)
 go_wp2
 go_ret
 exact ⟨rfl,rfl⟩
theorem qbvq (b n c i m:Nat) (a2:Addr) (c2:Nat) (w w1 w2:World) (r1 r2:Value) (hi:i<n) (hm:0<m) (hroom:n+m≤c) (hs63:n+m≤9223372036854775807)
  (hov:∀ lb cb,(callFunc 154 #[.slice (some a2) m c2,.slice (some ⟨b,i+m,none⟩) lb cb]).run Tryz.prog w=.ok (.value (.bool false)) w)
  (hB:∀ ty dc sc,(Builtin.copy_ #[29,29] ty #[.slice (some ⟨b,i+m,none⟩) (n+m - (i+m)) dc,.slice (some ⟨b,i,none⟩) (n+m - i) sc]).run Tryz.prog w.drew=.ok r1 w1)
  (hC:∀ ty dc,(Builtin.copy_ #[29,29] ty #[.slice (some ⟨b,i,none⟩) (n+m - i) dc,.slice (some a2) m c2]).run Tryz.prog w1=.ok r2 w2) :
  Calls Tryz.prog 88 #[.slice (some ⟨b,0,none⟩) n c,.int .i64 i,.slice (some a2) m c2] w fun e w'=>e=.returned (.slice (some ⟨b,0,none⟩) (n+m) c)∧w'=w2:=by
 have mx:=mixed
 have u67:Tryz.prog.underlying 29=some (.slice 32):=by kernel_rfl
 have u3:Tryz.prog.underlying 3=some (.int .i64):=by kernel_rfl
 have v67:=run_underlying u67
 have v3:=run_underlying u3
 have s38:(Tryz.prog.info? 32).map (·.size)=some 1:=by kernel_rfl
 obtain ⟨i0,hi0⟩:∃ i0,Tryz.prog.info? 32=some i0:=by cases h:Tryz.prog.info? 32 with | none=>rw[h] at s38;cases s38 | some x=>exact ⟨x,rfl⟩
 have hs0:i0.size=1:=by rw[hi0] at s38;simpa using s38
 have hz1:¬ ((m:Int)=0):=by omega
 have hz2:¬ ((i:Int)=(n:Int)):=by omega
 have hw1:IntKind.i64.wrap ((i:Int)+(m:Int))=(i:Int)+(m:Int):=by rw[IntKind.wrap_i64];omega
 have hb1:(0:Int)≤(i:Int)+(m:Int):=by omega
 have hin:i≤n:=by omega
 have htn:((i:Int)+(m:Int)).toNat=i+m:=by omega
 have hb2:¬ (c=i+m):=by omega
 have hb3:(i:Int)≤(n:Int)+(m:Int):=by omega
 have hb4:¬ (c=i):=by omega
 go_enter Tryz.func88,qbks
 go_wp2_with (simp only[hov])
 go_region_law_o (refine step_copy_runI rfl _ _ 29 29 rfl _ _ (by simp[Act.eval,Act.put]) (by simp[Act.eval,Act.put]) (hB _ _ _) ?_)
 go_wp2_with (at_builtin;refine wpList_copy_runI _ rfl _ _ 29 29 rfl _ _ rfl rfl (hC _ _) ?_)
 go_ret
 exact ⟨rfl,rfl⟩
end Go.V

namespace Go.V
set_option maxRecDepth 100000
set_option maxHeartbeats 4000000
open Go Go.Proofs Go.RowKit Go.Lib
theorem qb0q:Tryz.f95.ntmps=33:=by kernel_rfl
theorem qbib {P:Program} {ops:Array Oper} {o:Oper} {a:Act} {w:World} {K:Act→World→Prop} {Q:Exit→Act→World→Prop} {E:Prop}
  (hg:o.guard=none) (d x:Operand) (dT sT:TypeId) (hop:o.op=Op.call { callee:=Callee.builtin Builtin.append,args:=#[d,x],argTypes:=#[dT,sT] })
  (v u:Value) (hd:a.eval d=v) (hx:a.eval x=u) {v':Value} {w':World} (hr:(Builtin.append_ #[dT,sT] o.type #[v,u]).run P w=.ok v' w') (hK:K (a.put o.dst v') w') :
  if Region.wanted o (yielded ops a.tmps)=true then Oper.wp P o a w K Q else E:=by
 have hw:Region.wanted o (yielded ops a.tmps)=true:=by simp[Region.wanted,hg]
 rw[if_pos hw]
 exact Lib.wp_append_run w d x dT sT hop v u hd hx v' w' hr hK
theorem qbyb (b n c i j:Nat) (w w1 w2:World) (r2:Value) (hij:i<j) (hj:j≤n) (hnc:n≤c) (hn63:n≤9223372036854775807)
  (hA:∀ ty a,(a=(if c=j then some (⟨b,0,none⟩:Addr) else some ⟨b,j,none⟩))→(Builtin.append_ #[29,29] ty #[.slice (some ⟨b,0,none⟩) i c,.slice a (n - j) (c - j)]).run Tryz.prog w.drew=.ok (.slice (some ⟨b,0,none⟩) (i+(n - j)) c) w1)
  (hC:∀ ty,(Builtin.clear_ #[29] ty #[.slice (some ⟨b,i+(n - j),none⟩) (n - (i+(n - j))) (c - (i+(n - j)))]).run Tryz.prog w1=.ok r2 w2) :
  Calls Tryz.prog 95 #[.slice (some ⟨b,0,none⟩) n c,.int .i64 i,.int .i64 j] w fun e w'=>e=.returned (.slice (some ⟨b,0,none⟩) (i+(n - j)) c)∧w'=w2:=by
 have mx:=mixed
 have u67:Tryz.prog.underlying 29=some (.slice 32):=by kernel_rfl
 have u3:Tryz.prog.underlying 3=some (.int .i64):=by kernel_rfl
 have v67:=run_underlying u67
 have v3:=run_underlying u3
 have s38:(Tryz.prog.info? 32).map (·.size)=some 1:=by kernel_rfl
 obtain ⟨i0,hi0⟩:∃ i0,Tryz.prog.info? 32=some i0:=by cases h:Tryz.prog.info? 32 with | none=>rw[h] at s38;cases s38 | some x=>exact ⟨x,rfl⟩
 have hs0:i0.size=1:=by rw[hi0] at s38;simpa using s38
 have hz2:¬ ((i:Int)=(j:Int)):=by omega
 have hij':i≤j:=by omega
 have hic:i≤c:=by omega
 have hjc:j≤c:=by omega
 have hin:i≤n:=by omega
 have hk1:i+(n - j)≤n:=by omega
 have hk2:i+(n - j)≤c:=by omega
 have hk3:¬ (c=i+(n - j)):=by omega
 obtain ⟨A,hAe⟩:∃ A:Option Addr,A=(if c=j then some (⟨b,0,none⟩:Addr) else some ⟨b,j,none⟩):=⟨_,rfl⟩
 go_enter Tryz.func95,qb0q
 go_wp2_with fail
 go_region_law_o (refine qbib rfl (.tmp 22) (.tmp 25) 29 29 rfl _ _ (by simp[Act.eval,Act.put]) (by simp[Act.eval,Act.put]) (hA _ _ rfl) ?_)
 all_goals (go_wp2_with (simp only[hC]))
 all_goals (try (go_ret;exact ⟨rfl,rfl⟩))
end Go.V

namespace Go.V
set_option maxRecDepth 100000
open Go Go.Proofs Go.RowKit
abbrev TVal:Ty:=.pair (.int .i64) (.pair (.int .i64) (.pair .str .unit))
abbrev TRow:Ty:=.sl TVal
abbrev SigD:Sig:=⟨[.own (.sl TRow) (Mk.top (.sl TRow)),.val (.int .i64),.val (.int .i64)],[.val (.sl TRow) (Mk.top (.sl TRow))]⟩
theorem sigD:ctx.sig 95=SigD:=by kernel_rfl
def delD (xs:List TRow.den) (i j:Int):Option (List TRow.den):=if 0≤i∧i<j∧j≤xs.length∧xs.length≤qbc then some (xs.take i.toNat++xs.drop j.toNat) else none
theorem qb0d:qbl5 Tryz.prog SigD 95 fun a=>(delD a.1 a.2.1 a.2.2.1).map fun r=>((r,()),()):=by
 intro a r h w Pr Fs vs pre
 obtain ⟨xs,i,j,⟨⟩⟩:=a
 change List TRow.den at xs
 change Int at i
 change Int at j
 obtain ⟨v1,vs1,rfl,⟨c1,rep1,rfl⟩,v2,vs2,rfl,⟨c2,r2,rfl⟩,v3,vs3,rfl,⟨c3,r3,rfl⟩,k3⟩:=pre.rel
 obtain rfl:vs3=[]:=k3
 simp only[Rep] at r2 r3
 subst r2
 subst r3
 dsimp only at h
 unfold delD at h
 split at h
 ·rename_i hc
  obtain ⟨h0,hij,hj,hbd⟩:=hc
  replace hbd:xs.length≤274877906944:=hbd
  replace h0:0≤i:=h0
  replace hij:i<j:=hij
  replace hj:j≤xs.length:=hj
  simp only[Option.map_some,Option.some.injEq] at h
  subst h
  obtain ⟨i,rfl⟩:=Int.eq_ofNat_of_zero_le h0
  obtain ⟨j,rfl⟩:=Int.eq_ofNat_of_zero_le (show 0≤j by omega)
  obtain ⟨ad,cap,cells,F,rfl,hl,hlc,hsrc,el,hF,hown⟩:=qnt (by simp[Mk.top]) (by simp[Mk.top]) rep1
  rcases hown 0 _ rfl with hc0 | ⟨b,cs,rfl,hbF,hbo,hcapb,hFb,hcells⟩
  ·replace hlc:xs.length≤cap:=hlc
   omega
  ·have hw1:TRow.width=1:=rfl
   replace hlc:xs.length≤cap:=hlc
   replace hl:cells.length=xs.length:=by rw[hl,hw1,Nat.mul_one]
   replace hcapb:cap≤cs.size:=by rw[hw1,Nat.mul_one] at hcapb;exact hcapb
   replace hcells:cells=sub cs 0 xs.length:=by rw[hcells,hw1,Nat.mul_one]
   have hij2:i<j:=by omega
   have hj2:j≤xs.length:=by omega
   have u67:Tryz.prog.underlying 29=some (.slice 32):=by kernel_rfl
   have s38:(Tryz.prog.info? 32).map (·.size)=some 1:=by kernel_rfl
   obtain ⟨i0,hi0⟩:∃ i0,Tryz.prog.info? 32=some i0:=by cases h:Tryz.prog.info? 32 with | none=>rw[h] at s38;cases s38 | some x=>exact ⟨x,rfl⟩
   have hs0:i0.size=1:=by rw[hi0] at s38;simpa using s38
   have hcd:cells.drop j=sub cs j (xs.length - j):=by
    rw[hcells]
    simp only[sub,List.drop_zero,List.drop_take]
   have hdl:(cells.drop j).length=xs.length - j:=by rw[List.length_drop,hl]
   have hone:∀ u∈cells.drop j,u.oneCell'=true:=by
    intro u hu
    obtain ⟨k,hk,rfl⟩:=List.getElem_of_mem hu
    rw[hdl] at hk
    have hk2:j+k<xs.length:=by omega
    have r:=el.rep (j+k) hk2
    refine Rep.one _ r _ ?_
    rw[hw1,Nat.mul_one,List.mem_iff_getElem?]
    refine ⟨0,?_⟩
    rw[List.getElem?_take,if_pos (by omega),List.getElem?_drop,Nat.add_zero,List.getElem_drop,List.getElem?_eq_getElem]
   have hA:∀ ty a,(a=(if cap=j then some (⟨b,0,none⟩:Addr) else some ⟨b,j,none⟩))→(Builtin.append_ #[29,29] ty #[.slice (some ⟨b,0,none⟩) i cap,.slice a (xs.length - j) (cap - j)]).run Tryz.prog w.drew=.ok (.slice (some ⟨b,0,none⟩) (i+(xs.length - j)) cap) (w.drew.setCells b i (cells.drop j)):=by
    intro ty a ha
    refine qld (P:=Tryz.prog) w.drew (ty:=ty) rfl rfl u67 u67 hi0 (news:=cells.drop j) ?_ (by omega) (fun ad e=>?_) (fun e=>by simp at e)
    ·rw[hs0]
     refine qgk (by rw[hdl,Nat.mul_one]) ?_
     by_cases h0:xs.length - j=0
     ·exact .inl ⟨h0,List.length_eq_zero_iff.1 (by rw[hdl,h0])⟩
     ·refine .inr ⟨b,j,by rw[ha,if_neg (by omega)],?_⟩
      rw[hcd]
      exact qdb (qbx hbo.blk (by omega))
    ·simp only[Option.some.injEq] at e
     subst e
     rw[Addr.add_mid,Nat.zero_add,hs0,Nat.mul_one]
     have th:=qel (w:=w) (o:=i) (n:=(cells.drop j).length) hbo (by rw[hdl];omega)
     have:=run_storeCells_cells (P:=Tryz.prog) b i (cells.drop j) 0 w.drew (fun t ht=>by simpa using (th t ht).1) (fun t ht=>by simpa using (th t ht).2) hone
     simpa using this
   obtain ⟨ty,lo,hi,he,hfz⟩:=hbo
   have hfit:i+(cells.drop j).length≤cs.size:=by rw[hdl];omega
   obtain ⟨cs1,hcs1,hcs1l⟩:=qde (cells.drop j) i w.drew cs he hfit
   have hsz1:cs1.size=cs.size:=by rw[←Array.length_toList,hcs1l,qcj (by simpa using hfit),Array.length_toList]
   have hob1:qbi (w.drew.setCells b i (cells.drop j)).heap b cs1:=⟨ty,lo,hi,hcs1,fun t ht=>hfz t (by omega)⟩
   let zs:List Value:=List.replicate (xs.length - (i+(xs.length - j))) (.slice none 0 0)
   have hzl:zs.length=xs.length - (i+(xs.length - j)):=List.length_replicate
   have hfit2:i+(xs.length - j)+zs.length≤cs1.size:=by rw[hzl];omega
   have th1:=qel (w:=w.drew.setCells b i (cells.drop j)) (o:=i+(xs.length - j)) (n:=zs.length) hob1 hfit2
   have hC:∀ ty,(Builtin.clear_ #[29] ty #[.slice (some ⟨b,i+(xs.length - j),none⟩) (xs.length - (i+(xs.length - j))) (cap - (i+(xs.length - j)))]).run Tryz.prog (w.drew.setCells b i (cells.drop j))=.ok (.tuple #[]) ((w.drew.setCells b i (cells.drop j)).setCells b (i+(xs.length - j)) zs):=fun ty=>
    Lib.run_clear_slice _ 29 32 ty (.slice none 0 0) u67 (fun w=>by kernel_rfl) rfl rfl b _ _ _ (by omega) (fun t ht=>(th1 t (by rw[hzl];exact ht)).1) (fun t ht=>(th1 t (by rw[hzl];exact ht)).2)
   obtain ⟨cs2,hcs2,hcs2l⟩:=qde zs (i+(xs.length - j)) _ cs1 hcs1 hfit2
   have hsz2:cs2.size=cs1.size:=by rw[←Array.length_toList,hcs2l,qcj (by simpa using hfit2),Array.length_toList]
   have hob2:qbi ((w.drew.setCells b i (cells.drop j)).setCells b (i+(xs.length - j)) zs).heap b cs2:=⟨ty,lo,hi,hcs2,fun t ht=>hfz t (by omega)⟩
   have hother:∀ b',b'≠b→((w.drew.setCells b i (cells.drop j)).setCells b (i+(xs.length - j)) zs).heap[b']? = w.heap[b']?:=fun b' hb'=>(qbk zs _ _ b' hb').trans (qbk (cells.drop j) _ w.drew b' hb')
   have hPb:¬ Pr b:=fun hb=>pre.prot 0 b hbF hb
   obtain ⟨FF,elc,hFF⟩:=el.cut i j (by omega) hj2 (by rw[hw1,Nat.mul_one];exact hl)
   have hFFb:∀ a,¬ FF a b:=fun a hb=>by obtain ⟨c,hc⟩:=hFF a b hb;exact hFb c hc
   have el2:=elc.mono (h':=((w.drew.setCells b i (cells.drop j)).setCells b (i+(xs.length - j)) zs).heap) (Sub.refl _) (fun b' hb'=>hother b' (fun e0=>hPb (e0 ▸ hb'))) (fun a b' hb'=>hother b' (fun e0=>hFFb a (e0 ▸ hb')))
   have hlen:(xs.take i++xs.drop j).length=i+(xs.length - j):=by rw[List.length_append,List.length_take,List.length_drop];omega
   have htake:cs2.toList.take (i+(xs.length - j))=cells.take (i * TRow.width)++cells.drop (j * TRow.width):=by
    have h7:cs.toList.length=cs.size:=Array.length_toList
    rw[hcs2l,hw1,Nat.mul_one,Nat.mul_one]
    have e1:cs1.toList.take (i+(xs.length - j))=cells.take i++cells.drop j:=by
     rw[hcs1l]
     simp only[repl]
     rw[List.take_append_of_le_length (by rw[List.length_append,List.length_take,hdl];omega),List.take_of_length_le (by rw[List.length_append,List.length_take,hdl];omega)]
     congr 1
     rw[hcells]
     simp only[sub,List.drop_zero,List.take_take]
     congr 1;omega
    rw[←e1]
    simp only[repl]
    have h8:cs1.toList.length=cs1.size:=Array.length_toList
    rw[List.append_assoc,List.take_append_of_le_length (by rw[List.length_take];omega),List.take_take,Nat.min_self]
   have rep2:=el2.row hob2 (cap:=cap) (by rw[hw1,Nat.mul_one];omega) (by rw[hlen];omega) (fun t ht=>qq2 htake (by rw[hw1,Nat.mul_one];rw[hlen] at ht;omega)) hFFb 0
   rw[hlen] at rep2
   have hrest1:=qch (b:=b) (cells.drop j) i w.drew
   have hrest2:=qch (b:=b) zs (i+(xs.length - j)) (w.drew.setCells b i (cells.drop j))
   have hsize:((w.drew.setCells b i (cells.drop j)).setCells b (i+(xs.length - j)) zs).heap.size=w.heap.size:=by rw[qba,qba];rfl
   have hGF:∀ z,(z=b∨∃ t,FF t z)→Fs 0 z:=by
    rintro z (rfl | ⟨t,ht⟩)
    ·exact hbF
    ·obtain ⟨c,hc⟩:=hFF t z ht;exact hF c z hc
   refine (qbyb b xs.length cap i j w _ _ _ hij2 hj2 hlc (by omega) hA hC).mono ?_
   rintro e w' ⟨rfl,rfl⟩
   exact ⟨_,Pr,_,_,_,rfl,qbtx pre rep2 (fun z hz=>.inr ⟨0,hGF z hz⟩) (fun z hz hp=>pre.prot 0 z (hGF z hz) hp) (fun z hz=>by rw[hsize];exact pre.lim 0 z (hGF z hz)) (by rw[hsize];exact Nat.le_refl _) () ⟨_,_,rfl,_,_,rfl,_,_,rfl,rfl⟩
    ⟨hrest2.1.trans hrest1.1,hrest2.2.1.trans hrest1.2.1,hrest2.2.2.trans hrest1.2.2,by rw[hsize];exact Nat.le_refl _,fun b' _ hb'=>hother b' (fun e0=>hb' (e0 ▸ .inr ⟨0,hbF⟩))⟩⟩
 ·simp at h
end Go.V

namespace Go.V
set_option maxRecDepth 100000
open Go Go.Proofs Go.RowKit
abbrev SigI:Sig:=⟨[.own (.sl TRow) (Mk.top (.sl TRow)),.val (.int .i64),.own (.sl TRow) (Mk.top (.sl TRow))],[.val (.sl TRow) (Mk.top (.sl TRow))]⟩
theorem sigI:ctx.sig 88=SigI:=by kernel_rfl
def insD (xs:List TRow.den) (i:Int) (ys:List TRow.den):Option (List TRow.den):=if 0≤i∧i≤xs.length∧0<ys.length∧xs.length+ys.length≤qbc then some (xs.take i.toNat++ys++xs.drop i.toNat) else none
theorem qxu {w w2:World} {Pr:BS} {Fs:Nat→BS} {ks:List PK} {a:PDen ks} {vs:List Value} (pre:Pre w.heap Pr Fs ks a vs) {e:Ty} {mi:Mk} {zs:List e.den} {cells:List Value} {FF:Nat→BS} {B cap:Nat} {cs:Array Value}
  (el:El w.heap Pr e mi zs cells FF) (hFF:∀ t b,FF t b→∃ k,Fs k b) (hob:qbi w2.heap B cs) (hcap:cap * e.width≤cs.size) (hl:zs.length≤cap) (htake:cs.toList.take (zs.length * e.width)=cells)
  (hB:B=w.heap.size∨(∃ k,Fs k B)) (hFB:∀ t,¬ FF t B) (hother:∀ b',b'<w.heap.size→b'≠B→w2.heap[b']? = w.heap[b']?) (hsz:w.heap.size≤w2.heap.size) (hBl:B<w2.heap.size)
  (h1:w2.os=w.os) (h2:w2.tape=w.tape) (h3:w2.output=w.output) (o:ODen ks) (out:qfk w2.heap Pr (fun _=>Nil) 0 ks o vs) :
  ∃ val Pr' Gs Os us,(Value.slice (some ⟨B,0,none⟩) zs.length cap)=val∧Pst w w2 Pr Fs ks [.val (.sl e) (.own 0 mi)] (zs,()) o vs val Pr' Gs Os us:=by
 have hFl:∀ t b,FF t b→b<w.heap.size:=fun t b hb=>by obtain ⟨k,hk⟩:=hFF t b hb;exact pre.lim k b hk
 have hPB:¬ Pr B:=fun hb=>by
  rcases hB with rfl | ⟨k,hk⟩
  ·exact Nat.lt_irrefl _ (pre.limPr _ hb)
  ·exact pre.prot k B hk hb
 have el2:=el.mono (h':=w2.heap) (Sub.refl _) (fun b' hb'=>hother b' (pre.limPr b' hb') (fun e0=>hPB (e0 ▸ hb'))) (fun t b' hb'=>hother b' (hFl t b' hb') (fun e0=>hFB t (e0 ▸ hb')))
 have rep:=el2.row hob (cap:=cap) hcap hl (fun t ht=>qq2 htake (by
  have:=Nat.mul_le_mul_right e.width (show t+1≤zs.length by exact ht)
  rw[Nat.succ_mul] at this;exact this)) hFB 0
 have hG:∀ z,(z=B∨∃ t,FF t z)→May w.heap.size Fs z:=by
  rintro z (rfl | ⟨t,ht⟩)
  ·rcases hB with e0 | hk
   ·exact .inl (by omega)
   ·exact .inr hk
  ·exact .inr (hFF t z ht)
 refine ⟨_,Pr,_,_,_,rfl,qbtx pre rep hG (fun z hz hp=>?_) (fun z hz=>?_) hsz o out ⟨h1,h2,h3,hsz,fun b' hb1 hb'=>hother b' hb1 (fun e0=>hb' ?_)⟩⟩
 ·rcases hz with rfl | ⟨t,ht⟩
  ·exact hPB hp
  ·obtain ⟨k,hk⟩:=hFF t z ht;exact pre.prot k z hk hp
 ·rcases hz with rfl | ⟨t,ht⟩
  ·exact hBl
  ·exact Nat.lt_of_lt_of_le (hFl t z ht) hsz
 ·subst e0
  exact hG b' (.inl rfl)
theorem El.one {h:Array Obj} {Pr:BS} {mi:Mk} {xs:List TRow.den} {cells:List Value} {F:Nat→BS} (el:El h Pr TRow mi xs cells F) (hl:cells.length=xs.length):∀ u∈cells,u.oneCell'=true:=by
 intro u hu
 obtain ⟨k,hk,rfl⟩:=List.getElem_of_mem hu
 have hk2:k<xs.length:=by omega
 have r:=el.rep k hk2
 have hw1:TRow.width=1:=rfl
 refine Rep.one _ r _ ?_
 rw[hw1,Nat.mul_one,List.mem_iff_getElem?]
 refine ⟨0,?_⟩
 rw[List.getElem?_take,if_pos (by omega),List.getElem?_drop,Nat.add_zero,List.getElem?_eq_getElem]
theorem qbyn {l D C:List Value} {i m:Nat} (hC:C.length=m) (hl:i+m+D.length≤l.length):(repl (repl l (i+m) D) i C).take (i+m+D.length)=l.take i++C++D:=by
 have hA:(l.take (i+m)).length=i+m:=by rw[List.length_take];omega
 have e1:(repl l (i+m) D).take i=l.take i:=by
  simp only[repl]
  rw[List.append_assoc,List.take_append_of_le_length (by omega),List.take_take]
  congr 1;omega
 have e2:(repl l (i+m) D).drop (i+m)=D++l.drop (i+m+D.length):=by
  simp only[repl]
  rw[List.append_assoc,List.drop_append_of_le_length (by omega),List.drop_eq_nil_of_le (by omega),List.nil_append]
 have e3:repl (repl l (i+m) D) i C=(l.take i++C++D)++l.drop (i+m+D.length):=by
  show (repl l (i+m) D).take i++C++(repl l (i+m) D).drop (i+C.length)=_
  rw[e1,hC,e2];simp only[List.append_assoc]
 rw[e3,List.take_append_of_le_length (by simp only[List.length_append,List.length_take];omega),List.take_of_length_le (by simp only[List.length_append,List.length_take];omega)]
theorem qbyg {l D C:List Value} {i m:Nat} (hC:C.length=m) (hl:i+m+D.length≤l.length):(repl (repl l i C) (i+m) D).take (i+m+D.length)=l.take i++C++D:=by
 have hA:(l.take i++C).length=i+m:=by rw[List.length_append,List.length_take];omega
 have e1:(repl l i C).take (i+m)=l.take i++C:=by
  show (l.take i++C++l.drop (i+C.length)).take (i+m)=_
  rw[List.take_append_of_le_length (by omega),List.take_of_length_le (by omega)]
 show ((repl l i C).take (i+m)++D++(repl l i C).drop (i+m+D.length)).take (i+m+D.length)=_
 rw[e1,List.take_append_of_le_length (by rw[List.length_append];omega),List.take_of_length_le (by rw[List.length_append];omega)]
theorem qbz7:qbl5 Tryz.prog SigI 88 fun a=>(insD a.1 a.2.1 a.2.2.1).map fun r=>((r,()),()):=by
 intro a r h w Pr Fs vs pre
 obtain ⟨xs,i,ys,⟨⟩⟩:=a
 change List TRow.den at xs
 change Int at i
 change List TRow.den at ys
 obtain ⟨v1,vs1,rfl,⟨c1,rep1,rfl⟩,v2,vs2,rfl,⟨c2,r2,rfl⟩,v3,vs3,rfl,⟨c3,rep3,rfl⟩,k3⟩:=pre.rel
 obtain rfl:vs3=[]:=k3
 simp only[Rep] at r2
 subst r2
 dsimp only at h
 unfold insD at h
 split at h
 ·rename_i hc
  obtain ⟨h0,hi,hm,hbd⟩:=hc
  replace h0:0≤i:=h0
  replace hi:i≤xs.length:=hi
  replace hm:0<ys.length:=hm
  replace hbd:xs.length+ys.length≤274877906944:=hbd
  simp only[Option.map_some,Option.some.injEq] at h
  subst h
  obtain ⟨i,rfl⟩:=Int.eq_ofNat_of_zero_le h0
  have hi2:i≤xs.length:=by omega
  obtain ⟨ad1,cap1,cells1,F1,rfl,hl1,hlc1,hsrc1,el1,hF1,hown1⟩:=qnt (by simp[Mk.top]) (by simp[Mk.top]) rep1
  obtain ⟨ad2,cap2,cells2,F2,rfl,hl2,hlc2,hsrc2,el2,hF2,hown2⟩:=qnt (by simp[Mk.top]) (by simp[Mk.top]) rep3
  have hw1:TRow.width=1:=rfl
  replace hlc1:xs.length≤cap1:=hlc1
  replace hlc2:ys.length≤cap2:=hlc2
  have hl1':cells1.length=xs.length:=by rw[hl1,hw1,Nat.mul_one]
  have hl2':cells2.length=ys.length:=by rw[hl2,hw1,Nat.mul_one]
  rcases hown2 0 _ rfl with hc0 | ⟨b2,cs2,rfl,hbF2,hbo2,hcapb2,hFb2,hcells2⟩
  ·exact absurd hc0 (by omega)
  replace hcapb2:cap2≤cs2.size:=by rw[hw1,Nat.mul_one] at hcapb2;exact hcapb2
  replace hcells2:cells2=sub cs2 0 ys.length:=by rw[hcells2,hw1,Nat.mul_one]
  have hd12:∀ p q,Dis (F1 p) (F2 q):=fun p q=>(pre.dis 0 2 (by decide)).mono (hF1 p) (hF2 q)
  obtain ⟨FF,elz,hFF⟩:=El.insert el1 el2 i hi2 (by rw[hl1]) (by rw[hl2]) hd12
  rw[hw1,Nat.mul_one] at elz
  have hFs:∀ t b,FF t b→∃ k,Fs k b:=fun t b hb=>by
   rcases hFF t b hb with ⟨c,hc⟩ | ⟨c,hc⟩
   ·exact ⟨0,hF1 c b hc⟩
   ·exact ⟨2,hF2 c b hc⟩
  have hlz:(xs.take i++ys++xs.drop i).length=xs.length+ys.length:=by simp only[List.length_append,List.length_take,List.length_drop];omega
  have hone1:=el1.one hl1'
  have hone2:=el2.one hl2'
  have u67:Tryz.prog.underlying 29=some (.slice 32):=by kernel_rfl
  have u3:Tryz.prog.underlying 3=some (.int .i64):=by kernel_rfl
  obtain ⟨i0,hi0,hs0,hz0,hb0⟩:∃ i0,Tryz.prog.info? 32=some i0∧i0.size=1∧i0.zero=some (.slice none 0 0)∧i0.bytes=24:=by
   have k:((Tryz.prog.info? 32).map fun x=>(x.size,x.zero,x.bytes))=some (1,some (.slice none 0 0),24):=by kernel_rfl
   cases h:Tryz.prog.info? 32 with
   | none=>rw[h] at k;cases k
   | some x=>
    rw[h] at k
    simp only[Option.map_some,Option.some.injEq,Prod.mk.injEq] at k
    exact ⟨x,rfl,k.1,k.2.1,k.2.2⟩
  have hn2:(Builtin.firstCells i0.size ys.length (.slice (some ⟨b2,0,none⟩) ys.length cap2)).run Tryz.prog w=.ok cells2.toArray w:=by
   rw[hs0]
   exact qgk (by rw[hl2',Nat.mul_one]) (.inr ⟨b2,0,rfl,by rw[hcells2];exact qbx hbo2.blk (by omega)⟩)
  have ht0:cells1.take xs.length=cells1:=List.take_of_length_le (by omega)
  have hd0:cells1.drop xs.length=[]:=List.drop_eq_nil_of_le (by omega)
  have houts:∀ (h:Array Obj) (v1 v2 v3:Value),qfk h Pr (fun _=>Nil) 0 SigI.params () [v1,v2,v3]:=fun h v1 v2 v3=>⟨_,_,rfl,_,_,rfl,_,_,rfl,rfl⟩
  by_cases hend:i=xs.length
  ·subst hend
   rw[ht0,hd0,List.append_nil] at elz
   by_cases hroom:xs.length+ys.length≤cap1
   ·rcases hown1 0 _ rfl with hc0 | ⟨b1,cs1,rfl,hbF1,hbo1,hcapb1,hFb1,hcells1⟩
    ·exact absurd hc0 (by omega)
    replace hcapb1:cap1≤cs1.size:=by rw[hw1,Nat.mul_one] at hcapb1;exact hcapb1
    replace hcells1:cells1=sub cs1 0 xs.length:=by rw[hcells1,hw1,Nat.mul_one]
    have hfit:xs.length+cells2.length≤cs1.size:=by omega
    have hr:∀ ty,(Builtin.append_ #[29,29] ty #[.slice (some ⟨b1,0,none⟩) xs.length cap1,.slice (some ⟨b2,0,none⟩) ys.length cap2]).run Tryz.prog w=.ok (.slice (some ⟨b1,0,none⟩) (xs.length+ys.length) cap1) (w.setCells b1 xs.length cells2):=fun ty=>
     qld (P:=Tryz.prog) w (ty:=ty) rfl rfl u67 u67 hi0 hn2 hroom (fun ad e=>by
      simp only[Option.some.injEq] at e
      subst e
      rw[Addr.add_mid,Nat.zero_add,hs0,Nat.mul_one]
      have th:=qel (w:=w) (o:=xs.length) (n:=cells2.length) hbo1 hfit
      have:=run_storeCells_cells (P:=Tryz.prog) b1 xs.length cells2 0 w (fun t ht=>by simpa using (th t ht).1) (fun t ht=>by simpa using (th t ht).2) hone2
      simpa using this) (fun e=>by simp at e)
    obtain ⟨ty,lo,hi',he,hfz⟩:=hbo1
    obtain ⟨cs3,hcs3,hcs3l⟩:=qde cells2 xs.length w cs1 he hfit
    have hsz3:cs3.size=cs1.size:=by rw[←Array.length_toList,hcs3l,qcj (by simpa using hfit),Array.length_toList]
    have hob3:qbi (w.setCells b1 xs.length cells2).heap b1 cs3:=⟨ty,lo,hi',hcs3,fun t ht=>hfz t (by omega)⟩
    have h7:cs1.toList.length=cs1.size:=Array.length_toList
    have htake:cs3.toList.take ((xs.take xs.length++ys++xs.drop xs.length).length * TRow.width)=cells1++cells2:=by
     rw[hw1,Nat.mul_one,hlz,hcs3l,hcells1]
     simp only[repl,sub,List.drop_zero]
     rw[List.take_append_of_le_length (by rw[List.length_append,List.length_take,hl2'];omega),List.take_of_length_le (by rw[List.length_append,List.length_take,hl2'];omega)]
    have hrest:=qch (b:=b1) cells2 xs.length w
    have hFBb:∀ t,¬ FF t b1:=fun t hb=>by
     rcases hFF t b1 hb with ⟨c,hc⟩ | ⟨c,hc⟩
     ·exact hFb1 c hc
     ·exact pre.dis 0 2 (by decide) b1 hbF1 (hF2 c b1 hc)
    refine (qbtk (some ⟨b1,0,none⟩) xs.length cap1 ys.length (some ⟨b2,0,none⟩) cap2 w _ _ hm hlc1 (.inl ⟨b1,rfl⟩) hr).mono ?_
    rintro e w' ⟨rfl,rfl⟩
    obtain ⟨val,Pr',Gs,Os,us,hv,hp⟩:=qxu pre elz hFs hob3 (cap:=cap1) (by rw[hw1,Nat.mul_one];omega) (by rw[hlz];exact hroom) htake (.inr ⟨0,hbF1⟩) hFBb (fun b' _ hb'=>qbk cells2 _ w b' hb') (by rw[qba];exact Nat.le_refl _) (by rw[qba];exact pre.lim 0 b1 hbF1) hrest.1 hrest.2.1 hrest.2.2 () (houts _ _ _ _)
    exact ⟨val,Pr',Gs,Os,us,by rw[←hv,hlz],hp⟩
   ·have hg:cap1<xs.length+ys.length:=by omega
    have hn2d:(Builtin.firstCells i0.size ys.length (.slice (some ⟨b2,0,none⟩) ys.length cap2)).run Tryz.prog w.drew=.ok cells2.toArray w.drew:=by
     rw[hs0]
     exact qgk (by rw[hl2',Nat.mul_one]) (.inr ⟨b2,0,rfl,qdb (by rw[hcells2];exact qbx hbo2.blk (by omega))⟩)
    have hn1d:(Builtin.firstCells i0.size xs.length (.slice ad1 xs.length cap1)).run Tryz.prog w.drew=.ok cells1.toArray w.drew:=by
     rw[hs0]
     refine qgk (by rw[hl1',Nat.mul_one]) ?_
     rcases hsrc1 with ⟨h1,h2⟩ | ⟨b,o,cs,h1,h2,h3,h4⟩
     ·exact .inl ⟨h1,h2⟩
     ·exact .inr ⟨b,o,h1,qdb (h4 ▸ qbx h2 h3)⟩
    have hfit:Builtin.nextslicecap (xs.length+ys.length) cap1 * i0.bytes≤281474976710656:=by
     have:=Room.nextslicecap_le' (need:=xs.length+ys.length) (old:=cap1) hg
     rw[hb0];omega
    have hr:=fun ty=>qx5 (P:=Tryz.prog) w (ats:=#[29,29]) (ty:=ty) rfl rfl u67 u67 hi0 hz0 hn2d hn1d hg (by omega) hfit
    have hge:=grownCap_ge w (xs.length+ys.length) cap1 32
    generalize grownCap w (xs.length+ys.length) cap1 32=cap' at hr hge
    have hzs:(Value.slice none 0 0).cells.size=1:=rfl
    have hcss:(cells1.toArray++cells2.toArray++Builtin.zeroCells (Value.slice none 0 0).cells (cap' - (xs.length+ys.length))).size=cap':=by
     simp only[Array.size_append,List.size_toArray,size_zeroCells,hzs,hl1',hl2'];omega
    have htk:(cells1.toArray++cells2.toArray++Builtin.zeroCells (Value.slice none 0 0).cells (cap' - (xs.length+ys.length))).toList.take (xs.length+ys.length)=cells1++cells2:=by
     simp only[Array.toList_append,List.append_assoc]
     rw[←List.append_assoc,List.take_append_of_le_length (by rw[List.length_append];omega),List.take_of_length_le (by rw[List.length_append];omega)]
    generalize cells1.toArray++cells2.toArray++Builtin.zeroCells (Value.slice none 0 0).cells (cap' - (xs.length+ys.length))=cs at hr hcss htk
    have h1a:(∃ b,ad1=some ⟨b,0,none⟩)∨(xs.length=0∧cap1=0):=by
     rcases hown1 0 _ rfl with hc0 | ⟨b1,cs1,rfl,_⟩
     ·exact .inr ⟨by omega,hc0⟩
     ·exact .inl ⟨b1,rfl⟩
    refine (qbtk ad1 xs.length cap1 ys.length (some ⟨b2,0,none⟩) cap2 w _ _ hm hlc1 h1a hr).mono ?_
    rintro e w' ⟨rfl,rfl⟩
    obtain ⟨val,Pr',Gs,Os,us,hv,hp⟩:=qxu (w2:=w.drew.alloc (.cells cs 32)) pre elz hFs (B:=w.heap.size) (cs:=cs) qbi.new (cap:=cap') (by rw[hw1,Nat.mul_one,hcss];exact Nat.le_refl _) (by rw[hlz];exact hge) (by rw[hw1,Nat.mul_one,hlz];exact htk) (.inl rfl)
     (fun t hb=>by obtain ⟨k,hk⟩:=hFs t _ hb;exact Nat.lt_irrefl _ (pre.lim k _ hk)) (fun b' hb1 _=>qhf b' hb1) (by show w.heap.size≤(w.heap.push _).size;simp) (by show w.heap.size<(w.heap.push _).size;simp) rfl rfl rfl () (houts _ _ _ _)
    exact ⟨val,Pr',Gs,Os,us,by rw[←hv,hlz],hp⟩
  ·have hlt:i<xs.length:=by omega
   rcases hown1 0 _ rfl with hc0 | ⟨b1,cs1,rfl,hbF1,hbo1,hcapb1,hFb1,hcells1⟩
   ·exact absurd hc0 (by omega)
   replace hcapb1:cap1≤cs1.size:=by rw[hw1,Nat.mul_one] at hcapb1;exact hcapb1
   replace hcells1:cells1=sub cs1 0 xs.length:=by rw[hcells1,hw1,Nat.mul_one]
   have hb12:b2≠b1:=fun e=>pre.dis 0 2 (by decide) b1 hbF1 (e ▸ hbF2)
   have hcd:cells1.drop i=sub cs1 i (xs.length - i):=by
    rw[hcells1]
    simp only[sub,List.drop_zero,List.drop_take]
   have hct:cells1.take i=cs1.toList.take i:=by
    rw[hcells1]
    simp only[sub,List.drop_zero,List.take_take]
    congr 1;omega
   have hdl:(cells1.drop i).length=xs.length - i:=by rw[List.length_drop,hl1']
   have honed:∀ u∈cells1.drop i,u.oneCell'=true:=fun u hu=>hone1 u (List.mem_of_mem_drop hu)
   have hFBb:∀ t,¬ FF t b1:=fun t hb=>by
    rcases hFF t b1 hb with ⟨c,hc⟩ | ⟨c,hc⟩
    ·exact hFb1 c hc
    ·exact pre.dis 0 2 (by decide) b1 hbF1 (hF2 c b1 hc)
   have hsz38:(Tryz.prog.info? 32).map (·.size)=some 1:=by rw[hi0];simp[hs0]
   have hel:cells1.take i++cells2++cells1.drop i=(cells1.take i++cells2++cells1.drop i):=rfl
   by_cases hroom:xs.length+ys.length≤cap1
   ·have hov:∀ lb cb,(callFunc 154 #[.slice (some ⟨b2,0,none⟩) ys.length cap2,.slice (some ⟨b1,i+ys.length,none⟩) lb cb]).run Tryz.prog w=.ok (.value (.bool false)) w:=by
     intro lb cb
     obtain ⟨e2,lo2,hi2,he2,hf2⟩:=hbo2
     obtain ⟨e1,lo1,hi1,he1,hf1⟩:=hbo1
     have hnf:∀ k,k≤cs2.size→w.frozen? ⟨b2,k,none⟩=false:=fun k hk=>by
      have:=hf2 k hk
      simp only[World.frozen?,he2]
      simpa using this
     rw[run_callFunc_extern (P:=Tryz.prog) (f:=154) (fn:=Tryz.f154) Tryz.func154 (by kernel_rfl) (by kernel_rfl) (by kernel_rfl) (e:=Extern.SlicesOverlaps.overlaps #[29,29] #[4]) (by kernel_rfl),
      Lib.run_overlaps_apart w 29 4 32 u67 1 (fun w=>by simp[sizeOf,typeInfo,hi0,hs0]) ⟨b2,0,none⟩ ⟨b1,i+ys.length,none⟩ ys.length cap2 lb cb hb12 e2 e1 cs2.size cs1.size (by simp[World.shape?,he2]) (by simp[World.shape?,he1]) (by omega) (hnf 0 (by omega)) (hnf _ (Nat.le_refl _))]
     rfl
    have hfitA:i+ys.length+(cells1.drop i).length≤cs1.size:=by rw[hdl];omega
    have thA:=qel (w:=w) (o:=i+ys.length) (n:=(cells1.drop i).length) hbo1 hfitA
    have hB:∀ ty dc sc,(Builtin.copy_ #[29,29] ty #[.slice (some ⟨b1,i+ys.length,none⟩) (xs.length+ys.length - (i+ys.length)) dc,.slice (some ⟨b1,i,none⟩) (xs.length+ys.length - i) sc]).run Tryz.prog w.drew=.ok (goInt (cells1.drop i).length) (w.drew.setCells b1 (i+ys.length) (cells1.drop i)):=fun ty dc sc=>
     run_copy_cells w.drew 29 29 ty 32 b1 (i+ys.length) _ dc ⟨b1,i,none⟩ _ sc (cells1.drop i) u67 hsz38 (by rw[hdl];simp only[Nat.min_def];split<;>omega)
      (fun k v hk=>by rw[Addr.add_mid];exact qdb (w:=w) (b:=b1) (o:=i) (cs:=cells1.drop i) (by rw[hcd];exact qbx hbo1.blk (by omega)) k v hk) (fun k hk=>(thA k hk).1) (fun k hk=>(thA k hk).2) honed
    have hbo1':=hbo1
    obtain ⟨ty,lo,hi',he,hfz⟩:=hbo1
    obtain ⟨cs3,hcs3,hcs3l⟩:=qde (cells1.drop i) (i+ys.length) w.drew cs1 he hfitA
    have hsz3:cs3.size=cs1.size:=by rw[←Array.length_toList,hcs3l,qcj (by simpa using hfitA),Array.length_toList]
    have hob3:qbi (w.drew.setCells b1 (i+ys.length) (cells1.drop i)).heap b1 cs3:=⟨ty,lo,hi',hcs3,fun t ht=>hfz t (by omega)⟩
    have hfitB:i+cells2.length≤cs3.size:=by omega
    have thB:=qel (w:=w.drew.setCells b1 (i+ys.length) (cells1.drop i)) (o:=i) (n:=cells2.length) hob3 hfitB
    have hr2:(w.drew.setCells b1 (i+ys.length) (cells1.drop i)).rangeAt b2 0 cells2:=by
     rw[hcells2]
     exact qbx (Blk.congr hbo2.blk (qbk (cells1.drop i) _ w.drew b2 hb12)) (by omega)
    have hC:∀ ty dc,(Builtin.copy_ #[29,29] ty #[.slice (some ⟨b1,i,none⟩) (xs.length+ys.length - i) dc,.slice (some ⟨b2,0,none⟩) ys.length cap2]).run Tryz.prog (w.drew.setCells b1 (i+ys.length) (cells1.drop i))=.ok (goInt cells2.length) ((w.drew.setCells b1 (i+ys.length) (cells1.drop i)).setCells b1 i cells2):=fun ty dc=>
     run_copy_cells _ 29 29 ty 32 b1 i _ dc ⟨b2,0,none⟩ _ cap2 cells2 u67 hsz38 (by rw[hl2'];simp only[Nat.min_def];split<;>omega)
      (fun k v hk=>by rw[Addr.add_mid];exact hr2 k v hk) (fun k hk=>(thB k hk).1) (fun k hk=>(thB k hk).2) hone2
    obtain ⟨cs4,hcs4,hcs4l⟩:=qde cells2 i _ cs3 hcs3 hfitB
    have hsz4:cs4.size=cs3.size:=by rw[←Array.length_toList,hcs4l,qcj (by simpa using hfitB),Array.length_toList]
    have hob4:qbi ((w.drew.setCells b1 (i+ys.length) (cells1.drop i)).setCells b1 i cells2).heap b1 cs4:=⟨ty,lo,hi',hcs4,fun t ht=>hfz t (by omega)⟩
    have h7:cs1.toList.length=cs1.size:=Array.length_toList
    have htake:cs4.toList.take ((xs.take i++ys++xs.drop i).length * TRow.width)=cells1.take i++cells2++cells1.drop i:=by
     have e:=qbyn (l:=cs1.toList) (D:=cells1.drop i) (C:=cells2) (i:=i) (m:=ys.length) hl2' (by rw[h7];exact hfitA)
     rw[hw1,Nat.mul_one,hlz,hcs4l,hcs3l,hct]
     rw[show xs.length+ys.length=i+ys.length+(cells1.drop i).length by rw[hdl];omega]
     exact e
    have hrest1:=qch (b:=b1) (cells1.drop i) (i+ys.length) w.drew
    have hrest2:=qch (b:=b1) cells2 i (w.drew.setCells b1 (i+ys.length) (cells1.drop i))
    have hsize:((w.drew.setCells b1 (i+ys.length) (cells1.drop i)).setCells b1 i cells2).heap.size=w.heap.size:=by rw[qba,qba];rfl
    refine (qbvq b1 xs.length cap1 i ys.length ⟨b2,0,none⟩ cap2 w _ _ _ _ hlt hm hroom (by omega) hov hB hC).mono ?_
    rintro e w' ⟨rfl,rfl⟩
    obtain ⟨val,Pr',Gs,Os,us,hv,hp⟩:=qxu pre elz hFs hob4 (cap:=cap1) (by rw[hw1,Nat.mul_one];omega) (by rw[hlz];exact hroom) htake (.inr ⟨0,hbF1⟩) hFBb
     (fun b' _ hb'=>(qbk cells2 _ _ b' hb').trans (qbk (cells1.drop i) _ w.drew b' hb')) (by rw[hsize];exact Nat.le_refl _) (by rw[hsize];exact pre.lim 0 b1 hbF1) (hrest2.1.trans hrest1.1) (hrest2.2.1.trans hrest1.2.1) (hrest2.2.2.trans hrest1.2.2) () (houts _ _ _ _)
    exact ⟨val,Pr',Gs,Os,us,by rw[←hv,hlz],hp⟩
   ·have hg:cap1<xs.length+ys.length:=by omega
    obtain ⟨K,hK⟩:∃ K,K=xs.length+ys.length - i:=⟨_,rfl⟩
    have hKi:i+K=xs.length+ys.length:=by omega
    have hn1d:(Builtin.firstCells i0.size i (.slice (some ⟨b1,0,none⟩) i cap1)).run Tryz.prog w.drew=.ok (cells1.take i).toArray w.drew:=by
     rw[hs0]
     refine qgk (by rw[List.length_take,hl1',Nat.mul_one];omega) (.inr ⟨b1,0,rfl,qdb ?_⟩)
     have e:cells1.take i=sub cs1 0 i:=by rw[hct];simp only[sub,List.drop_zero]
     rw[e];exact qbx hbo1.blk (by omega)
    have hfit:Builtin.nextslicecap (i+K) cap1 * i0.bytes≤281474976710656:=by
     have:=Room.nextslicecap_le' (need:=i+K) (old:=cap1) (by omega)
     rw[hb0];omega
    have hr:=fun ty=>Lib.run_append_grow_zeros (P:=Tryz.prog) w 29 3 ty 32 i0 _ .i64 .i64 u67 u3 hi0 hz0 (some ⟨b1,0,none⟩) i cap1 (cells1.take i) hn1d K (by omega) (by omega) (by omega) (by omega) (by rw[hb0];omega) hfit
    have hge:=grownCap_ge w (i+K) cap1 32
    generalize grownCap w (i+K) cap1 32=cap' at hr hge
    have hzs:(Value.slice none 0 0).cells.size=1:=rfl
    have hcss:((cells1.take i).toArray++Builtin.zeroCells (Value.slice none 0 0).cells K++Builtin.zeroCells (Value.slice none 0 0).cells (cap' - (i+K))).size=cap':=by
     simp only[Array.size_append,List.size_toArray,size_zeroCells,hzs,List.length_take,hl1'];omega
    have htk:((cells1.take i).toArray++Builtin.zeroCells (Value.slice none 0 0).cells K++Builtin.zeroCells (Value.slice none 0 0).cells (cap' - (i+K))).toList.take i=cells1.take i:=by
     simp only[Array.toList_append,List.append_assoc]
     rw[List.take_append_of_le_length (by rw[List.length_take,hl1'];omega),List.take_of_length_le (by rw[List.length_take,hl1'];omega)]
    generalize (cells1.take i).toArray++Builtin.zeroCells (Value.slice none 0 0).cells K++Builtin.zeroCells (Value.slice none 0 0).cells (cap' - (i+K))=cs0 at hr hcss htk
    rw[hKi] at hr hge
    have hKI:((K:Nat):Int)=(xs.length:Int)+(ys.length:Int) - (i:Int):=by omega
    rw[hKI] at hr
    have hob0:qbi (w.drew.alloc (.cells cs0 32)).heap w.heap.size cs0:=qbi.new
    have hb1lt:=pre.lim 0 b1 hbF1
    have hb2lt:=pre.lim 2 b2 hbF2
    have hb1B:b1≠w.heap.size:=by omega
    have hb2B:b2≠w.heap.size:=by omega
    have hold:∀ b',b'<w.heap.size→(w.drew.alloc (.cells cs0 32)).heap[b']? = w.heap[b']?:=fun b' hb'=>qhf b' hb'
    have hfitA:i+cells2.length≤cs0.size:=by omega
    have thA:=qel (w:=w.drew.alloc (.cells cs0 32)) (o:=i) (n:=cells2.length) hob0 hfitA
    have hr2:(w.drew.alloc (.cells cs0 32)).rangeAt b2 0 cells2:=by
     rw[hcells2]
     exact qbx (Blk.congr hbo2.blk (hold b2 hb2lt)) (by omega)
    have hB:∀ ty,(Builtin.copy_ #[29,29] ty #[.slice (some ⟨w.heap.size,i,none⟩) (xs.length+ys.length - i) (cap' - i),.slice (some ⟨b2,0,none⟩) ys.length cap2]).run Tryz.prog (w.drew.alloc (.cells cs0 32))=.ok (goInt cells2.length) ((w.drew.alloc (.cells cs0 32)).setCells w.heap.size i cells2):=fun ty=>
     run_copy_cells _ 29 29 ty 32 w.heap.size i _ _ ⟨b2,0,none⟩ _ cap2 cells2 u67 hsz38 (by rw[hl2'];simp only[Nat.min_def];split<;>omega)
      (fun k v hk=>by rw[Addr.add_mid];exact hr2 k v hk) (fun k hk=>(thA k hk).1) (fun k hk=>(thA k hk).2) hone2
    obtain ⟨ty,lo,hi',he,hfz⟩:=hob0
    obtain ⟨cs3,hcs3,hcs3l⟩:=qde cells2 i (w.drew.alloc (.cells cs0 32)) cs0 he hfitA
    have h7:cs0.toList.length=cs0.size:=Array.length_toList
    have hsz3:cs3.size=cs0.size:=by rw[←Array.length_toList,hcs3l,qcj (by simpa using hfitA),Array.length_toList]
    have hob3:qbi ((w.drew.alloc (.cells cs0 32)).setCells w.heap.size i cells2).drew.heap w.heap.size cs3:=⟨ty,lo,hi',hcs3,fun t ht=>hfz t (by omega)⟩
    have hfitB:i+ys.length+(cells1.drop i).length≤cs3.size:=by rw[hdl];omega
    have thB:=qel (w:=((w.drew.alloc (.cells cs0 32)).setCells w.heap.size i cells2).drew) (o:=i+ys.length) (n:=(cells1.drop i).length) hob3 hfitB
    have hr1:((w.drew.alloc (.cells cs0 32)).setCells w.heap.size i cells2).drew.rangeAt b1 i (cells1.drop i):=by
     rw[hcd]
     exact qdb (qbx (Blk.congr hbo1.blk ((qbk cells2 _ _ b1 hb1B).trans (hold b1 hb1lt))) (by omega))
    have hC:∀ ty,(Builtin.copy_ #[29,29] ty #[.slice (some ⟨w.heap.size,i+ys.length,none⟩) (xs.length+ys.length - (i+ys.length)) (cap' - (i+ys.length)),.slice (some ⟨b1,i,none⟩) (xs.length - i) (cap1 - i)]).run Tryz.prog ((w.drew.alloc (.cells cs0 32)).setCells w.heap.size i cells2).drew=.ok (goInt (cells1.drop i).length) (((w.drew.alloc (.cells cs0 32)).setCells w.heap.size i cells2).drew.setCells w.heap.size (i+ys.length) (cells1.drop i)):=fun ty=>
     run_copy_cells _ 29 29 ty 32 w.heap.size (i+ys.length) _ _ ⟨b1,i,none⟩ _ _ (cells1.drop i) u67 hsz38 (by rw[hdl];simp only[Nat.min_def];split<;>omega)
      (fun k v hk=>by rw[Addr.add_mid];exact hr1 k v hk) (fun k hk=>(thB k hk).1) (fun k hk=>(thB k hk).2) honed
    obtain ⟨cs4,hcs4,hcs4l⟩:=qde (cells1.drop i) (i+ys.length) ((w.drew.alloc (.cells cs0 32)).setCells w.heap.size i cells2).drew cs3 hcs3 hfitB
    have hsz4:cs4.size=cs3.size:=by rw[←Array.length_toList,hcs4l,qcj (by simpa using hfitB),Array.length_toList]
    have hob4:qbi (((w.drew.alloc (.cells cs0 32)).setCells w.heap.size i cells2).drew.setCells w.heap.size (i+ys.length) (cells1.drop i)).heap w.heap.size cs4:=⟨ty,lo,hi',hcs4,fun t ht=>hfz t (by omega)⟩
    have htake:cs4.toList.take ((xs.take i++ys++xs.drop i).length * TRow.width)=cells1.take i++cells2++cells1.drop i:=by
     have e:=qbyg (l:=cs0.toList) (D:=cells1.drop i) (C:=cells2) (i:=i) (m:=ys.length) hl2' (by rw[h7];omega)
     rw[hw1,Nat.mul_one,hlz,hcs4l,hcs3l,←htk]
     rw[show xs.length+ys.length=i+ys.length+(cells1.drop i).length by rw[hdl];omega]
     exact e
    have hrest1:=qch (b:=w.heap.size) cells2 i (w.drew.alloc (.cells cs0 32))
    have hrest2:=qch (b:=w.heap.size) (cells1.drop i) (i+ys.length) ((w.drew.alloc (.cells cs0 32)).setCells w.heap.size i cells2).drew
    have hsize:(((w.drew.alloc (.cells cs0 32)).setCells w.heap.size i cells2).drew.setCells w.heap.size (i+ys.length) (cells1.drop i)).heap.size=w.heap.size+1:=by
     rw[qba]
     show ((w.drew.alloc (.cells cs0 32)).setCells w.heap.size i cells2).heap.size=_
     rw[qba];show (w.heap.push _).size=_;simp
    refine (qbw8 b1 xs.length cap1 i ys.length ⟨b2,0,none⟩ cap2 w.heap.size cap' w _ _ _ _ _ hlt hm hlc1 hg hge (by omega) hr hB hC).mono ?_
    rintro e w' ⟨rfl,rfl⟩
    obtain ⟨val,Pr',Gs,Os,us,hv,hp⟩:=qxu pre elz hFs hob4 (cap:=cap') (by rw[hw1,Nat.mul_one];omega) (by rw[hlz];exact hge) htake (.inl rfl)
     (fun t hb=>by obtain ⟨k,hk⟩:=hFs t _ hb;exact Nat.lt_irrefl _ (pre.lim k _ hk))
     (fun b' hb1 hb'=>(qbk (cells1.drop i) _ _ b' hb').trans ((qbk cells2 _ _ b' hb').trans (hold b' hb1))) (by rw[hsize];omega) (by rw[hsize];omega) (hrest2.1.trans hrest1.1) (hrest2.2.1.trans hrest1.2.1) (hrest2.2.2.trans hrest1.2.2) () (houts _ _ _ _)
    exact ⟨val,Pr',Gs,Os,us,by rw[←hv,hlz],hp⟩
 ·simp at h
end Go.V

namespace Go.V
set_option maxRecDepth 100000
set_option maxHeartbeats 4000000
open Go Go.Proofs Go.RowKit Go.Lib
theorem nt2:Tryz.f93.ntmps=95:=by kernel_rfl
theorem qbq6 (a1:Option Addr) (n c m:Nat) (a2:Option Addr) (c2:Nat) (w w3:World) (v3:Value) (hm:0<m) (hc:n≤c) (h1:(∃ b,a1=some ⟨b,0,none⟩)∨(n=0∧c=0))
  (hr:∀ ty,(Builtin.append_ #[35,35] ty #[.slice a1 n c,.slice a2 m c2]).run Tryz.prog w=.ok v3 w3) :
  Calls Tryz.prog 93 #[.slice a1 n c,.int .i64 n,.slice a2 m c2] w fun e w'=>e=.returned v3∧w'=w3:=by
 have mx:=mixed
 have uT:Tryz.prog.underlying 35=some (.slice 42):=by kernel_rfl
 have u3:Tryz.prog.underlying 3=some (.int .i64):=by kernel_rfl
 have vT:=run_underlying uT
 have v3:=run_underlying u3
 have sE:(Tryz.prog.info? 42).map (·.size)=some 2:=by kernel_rfl
 obtain ⟨i0,hi0⟩:∃ i0,Tryz.prog.info? 42=some i0:=by cases h:Tryz.prog.info? 42 with | none=>rw[h] at sE;cases sE | some x=>exact ⟨x,rfl⟩
 have hs0:i0.size=2:=by rw[hi0] at sE;simpa using sE
 have hz1:¬ ((m:Int)=0):=by omega
 rcases h1 with ⟨b,rfl⟩ | ⟨rfl,rfl⟩
 ·go_enter Tryz.func93,nt2
  go_wp2_with (at_builtin;refine Lib.wpList_append_run _ rfl _ _ _ _ rfl _ _ rfl rfl _ _ (hr _) ?_)
  all_goals (try (go_ret;exact ⟨rfl,rfl⟩))
 ·cases a1 with
  | none=>
   go_enter Tryz.func93,nt2
   go_wp2_with (at_builtin;refine Lib.wpList_append_run _ rfl _ _ _ _ rfl _ _ rfl rfl _ _ (hr _) ?_)
   all_goals (try (go_ret;exact ⟨rfl,rfl⟩))
  | some a0=>
   go_enter Tryz.func93,nt2
   go_wp2_with (at_builtin;refine Lib.wpList_append_run _ rfl _ _ _ _ rfl _ _ rfl rfl _ _ (hr _) ?_)
   all_goals (try (go_ret;exact ⟨rfl,rfl⟩))
theorem qbwm (b n c i m:Nat) (a2:Addr) (c2 B G:Nat) (w w1 w2 w3:World) (r2 r3:Value) (hi:i<n) (hm:0<m) (hnc:n≤c) (hroom:c<n+m) (hG:n+m≤G) (hs63:n+m≤9223372036854775807)
  (hA:∀ ty,(Builtin.append_ #[35,3] ty #[.slice (some ⟨b,0,none⟩) i c,.int .i64 ((n:Int)+(m:Int) - (i:Int))]).run Tryz.prog w=.ok (.slice (some ⟨B,0,none⟩) (n+m) G) w1)
  (hB:∀ ty,(Builtin.copy_ #[35,35] ty #[.slice (some ⟨B,i * 2,none⟩) (n+m - i) (G - i),.slice (some a2) m c2]).run Tryz.prog w1=.ok r2 w2)
  (hC:∀ ty,(Builtin.copy_ #[35,35] ty #[.slice (some ⟨B,(i+m) * 2,none⟩) (n+m - (i+m)) (G - (i+m)),.slice (some ⟨b,i * 2,none⟩) (n - i) (c - i)]).run Tryz.prog w2.drew=.ok r3 w3) :
  Calls Tryz.prog 93 #[.slice (some ⟨b,0,none⟩) n c,.int .i64 i,.slice (some a2) m c2] w fun e w'=>e=.returned (.slice (some ⟨B,0,none⟩) (n+m) G)∧w'=w3:=by
 have mx:=mixed
 have uT:Tryz.prog.underlying 35=some (.slice 42):=by kernel_rfl
 have u3:Tryz.prog.underlying 3=some (.int .i64):=by kernel_rfl
 have vT:=run_underlying uT
 have v3:=run_underlying u3
 have sE:(Tryz.prog.info? 42).map (·.size)=some 2:=by kernel_rfl
 obtain ⟨i0,hi0⟩:∃ i0,Tryz.prog.info? 42=some i0:=by cases h:Tryz.prog.info? 42 with | none=>rw[h] at sE;cases sE | some x=>exact ⟨x,rfl⟩
 have hs0:i0.size=2:=by rw[hi0] at sE;simpa using sE
 have hz1:¬ ((m:Int)=0):=by omega
 have hz2:¬ ((i:Int)=(n:Int)):=by omega
 have hz3:(c:Int)<(n:Int)+(m:Int):=by omega
 have hw1:IntKind.i64.wrap ((i:Int)+(m:Int))=(i:Int)+(m:Int):=by rw[IntKind.wrap_i64];omega
 have hb1:(0:Int)≤(i:Int)+(m:Int):=by omega
 have hin:i≤n:=by omega
 have htn:((i:Int)+(m:Int)).toNat=i+m:=by omega
 have hb3:(i:Int)≤(n:Int):=by omega
 have hGi:¬ (G=i):=by omega
 have hGim:¬ (G=i+m):=by omega
 have hci:¬ (c=i):=by omega
 go_enter Tryz.func93,nt2
 go_wp2_with (first
  | (at_builtin;refine Lib.wpList_append_run _ rfl _ _ _ _ rfl _ _ rfl rfl _ _ (hA _) ?_)
  | (at_builtin;refine wpList_copy_runI _ rfl _ _ 35 35 rfl _ _ rfl rfl (hB _) ?_))
 go_region_law_o (refine step_copy_runI rfl _ _ 35 35 rfl (.slice (some ⟨B,(i+m) * 2,none⟩) (n+m - (i+m)) (G - (i+m))) (.slice (some ⟨b,i * 2,none⟩) (n - i) (c - i)) (by simp[Act.eval,Act.put]) (by simp[Act.eval,Act.put]) (hC _) ?_)
 go_wp2
 go_ret
 exact ⟨rfl,rfl⟩
theorem qbuv (b n c i m:Nat) (a2:Addr) (c2:Nat) (w w1 w2:World) (r1 r2:Value) (hi:i<n) (hm:0<m) (hroom:n+m≤c) (hs63:n+m≤9223372036854775807)
  (hov:∀ lb cb,(callFunc 156 #[.slice (some a2) m c2,.slice (some ⟨b,(i+m) * 2,none⟩) lb cb]).run Tryz.prog w=.ok (.value (.bool false)) w)
  (hB:∀ ty dc sc,(Builtin.copy_ #[35,35] ty #[.slice (some ⟨b,(i+m) * 2,none⟩) (n+m - (i+m)) dc,.slice (some ⟨b,i * 2,none⟩) (n+m - i) sc]).run Tryz.prog w.drew=.ok r1 w1)
  (hC:∀ ty dc,(Builtin.copy_ #[35,35] ty #[.slice (some ⟨b,i * 2,none⟩) (n+m - i) dc,.slice (some a2) m c2]).run Tryz.prog w1=.ok r2 w2) :
  Calls Tryz.prog 93 #[.slice (some ⟨b,0,none⟩) n c,.int .i64 i,.slice (some a2) m c2] w fun e w'=>e=.returned (.slice (some ⟨b,0,none⟩) (n+m) c)∧w'=w2:=by
 have mx:=mixed
 have uT:Tryz.prog.underlying 35=some (.slice 42):=by kernel_rfl
 have u3:Tryz.prog.underlying 3=some (.int .i64):=by kernel_rfl
 have vT:=run_underlying uT
 have v3:=run_underlying u3
 have sE:(Tryz.prog.info? 42).map (·.size)=some 2:=by kernel_rfl
 obtain ⟨i0,hi0⟩:∃ i0,Tryz.prog.info? 42=some i0:=by cases h:Tryz.prog.info? 42 with | none=>rw[h] at sE;cases sE | some x=>exact ⟨x,rfl⟩
 have hs0:i0.size=2:=by rw[hi0] at sE;simpa using sE
 have hz1:¬ ((m:Int)=0):=by omega
 have hz2:¬ ((i:Int)=(n:Int)):=by omega
 have hw1:IntKind.i64.wrap ((i:Int)+(m:Int))=(i:Int)+(m:Int):=by rw[IntKind.wrap_i64];omega
 have hb1:(0:Int)≤(i:Int)+(m:Int):=by omega
 have hin:i≤n:=by omega
 have htn:((i:Int)+(m:Int)).toNat=i+m:=by omega
 have hb2:¬ (c=i+m):=by omega
 have hb3:(i:Int)≤(n:Int)+(m:Int):=by omega
 have hb4:¬ (c=i):=by omega
 go_enter Tryz.func93,nt2
 go_wp2_with (simp only[hov])
 go_region_law_o (refine step_copy_runI rfl _ _ 35 35 rfl _ _ (by simp[Act.eval,Act.put]) (by simp[Act.eval,Act.put]) (hB _ _ _) ?_)
 go_wp2_with (at_builtin;refine wpList_copy_runI _ rfl _ _ 35 35 rfl _ _ rfl rfl (hC _ _) ?_)
 go_ret
 exact ⟨rfl,rfl⟩
end Go.V


import Derived.WalkKit
import Derived.Lib.Walk
import Derived.Lib.SliceRun
import Derived.Lib.JoinLaws
import Derived.Lib.AppendZeros
import Derived.Lib.Overlaps
import Derived.Laws.Externs
import Derived.Laws.IdiomCopy
import Derived.Lib.AppendZerosOnto
import Derived.Shelf.Spec.SlicesInsert
import Derived.Test.YtfafjngknkbngaaGreatAPFnWays1
set_option linter.unusedVariables false
set_option linter.unusedSimpArgs false
set_option linter.unusedSectionVars false
namespace Go.G
open Go Go.V
theorem br_t {R:Type} {a b:Option R}:br true a b=a:=rfl
theorem br_f {R:Type} {a b:Option R}:br false a b=b:=rfl
theorem qj {R:Type} {a b:Option R} {p:Prop} [Decidable p] (h:p):br (decide p) a b=a:=by simp[br,h]
theorem qn {R:Type} {a b:Option R} {p:Prop} [Decidable p] (h:¬ p):br (decide p) a b=b:=by simp[br,h]
theorem qe {α R:Type} {a:α} {f:α→Option R}:qh (some a) f=f a:=rfl
theorem qbtq {R:Type} {c:Bool} {a b:Option R}:br c a b=if c=true then a else b:=by cases c<;>rfl
theorem qbty (x:Int):IntKind.wrap IntKind.i64 x=if x % 18446744073709551616≥9223372036854775808 then x % 18446744073709551616 - 18446744073709551616 else x % 18446744073709551616:=by
 by_cases h:x % 18446744073709551616≥9223372036854775808<;>simp[IntKind.wrap,IntKind.signed,IntKind.bits,h]
theorem qc2 {x:Int} (h1 : -9223372036854775808≤x) (h2:x≤9223372036854775807):IntKind.wrap IntKind.i64 x=x:=by
 rw[qbty]
 split<;>omega
def W:Nat:=9223372036854775808
theorem qbm:W=9223372036854775808:=rfl
theorem qby:maxLen=9223372036854775807:=rfl
theorem qb0:q0=274877906944:=rfl
theorem ix {α:Type} {l:List α} {i:Nat} (h:i<l.length):(decide (0≤(i:Int))&&decide ((i:Int)<(l.length:Int)))=true:=by
 simp only[Bool.and_eq_true,decide_eq_true_eq];omega
theorem ixn {α:Type} {l:List α} {i:Int} (h0:0≤i) (h:i<l.length):(decide (0≤i)&&decide (i<(l.length:Int)))=true:=by
 simp only[Bool.and_eq_true,decide_eq_true_eq];omega
theorem qp {i:Nat} (h:i<9223372036854775807):IntKind.wrap IntKind.i64 ((i:Int)+1)=((i+1:Nat):Int):=by
 rw[qc2]<;>omega
theorem qbh {α:Type} {l:List α} {i:Nat} {d:α} (h:i<l.length):l.getD i d=l[i]:=by
 simp[List.getD,h]
theorem qcp {α:Type} {l:List α} {i:Nat} (h:i<l.length):l.drop i=l[i]::l.drop (i+1):=List.drop_eq_getElem_cons h
theorem qfa {α:Type} {l:List α} {i:Nat} (h:¬ i<l.length):l.drop i=[]:=List.drop_eq_nil_of_le (by omega)
def tot:(t:Ty)→t.den→Nat
 | .unit,_=>0
 | .int _,_=>0
 | .bool,_=>0
 | .str,s=>s.size
 | .sl t,xs=>xs.length+(xs.map (tot t)).sum
 | .pair a b,x=>tot a x.1+tot b x.2
def left (t:Ty) (a:t.den) (k:Int):Int:=if (tot t a:Int)≤k then k - tot t a else -1
theorem qmr {a b:ByteArray}:List.beq a.toList b.toList=decide (a=b):=by
 have h1:List.beq a.toList b.toList=decide (a.toList=b.toList):=by
  have:(a.toList == b.toList)=decide (a.toList=b.toList):=by
   by_cases h:a.toList=b.toList<;>simp[h]
  exact this
 rw[h1]
 by_cases h:a=b
 ·simp[h]
 ·have:a.toList≠b.toList:=fun e=>h (by
   have h2:a.data.toList=b.data.toList:=by
    have:=e
    simpa [ByteArray.toList_eq] using this
   cases a;cases b
   simp only[ByteArray.mk.injEq]
   exact Array.toList_inj.1 h2)
  simp[h,this]
end Go.G

namespace Go.G
open Go Go.V
theorem qbup {α:Type} {l:List α} {i:Nat} {x:α} (h:i<l.length):(l.set i x).take (i+1)=l.take i++[x]:=by
 rw[List.take_add_one,List.take_set_of_le (Nat.le_refl _)]
 simp[List.getElem?_set,h]
end Go.G

namespace Go.G
open Go Go.V
end Go.G

namespace Go.G
open Go Go.V
def Fit (b:Nat):(t:Ty)→t.den→Prop
 | .sl t,xs=>xs.length≤b∧∀ x∈xs,Fit b t x
 | .pair s t,x=>Fit b s x.1∧Fit b t x.2
 | _,_=>True
theorem Fit.mono {b c:Nat} (h:b≤c):∀ {t:Ty} {x:t.den},Fit b t x→Fit c t x
 | .unit,_,_=>trivial
 | .int _,_,_=>trivial
 | .bool,_,_=>trivial
 | .str,_,_=>trivial
 | .sl t,xs,f=>⟨Nat.le_trans f.1 h,fun x hx=>(f.2 x hx).mono h⟩
 | .pair s t,x,f=>⟨f.1.mono h,f.2.mono h⟩
end Go.G

namespace Go.G
open Go Go.V
abbrev Value:=Int×Int×ByteArray×Unit
abbrev Col:=ByteArray×Int×Bool×Unit
abbrev qjy:=ByteArray×List Int×Bool×Unit
end Go.G

namespace Go.G
open Go Go.V Go.Proofs
def qt (P:Nat→Bool):Nat→Nat→Bool
 | _,0=>false
 | i,k+1=>P i||qt P (i+1) k
theorem q0x {P:Nat→Bool}:∀ {k i:Nat},qt P i k=true↔∃ j,i≤j∧j<i+k∧P j=true
 | 0,i=>by simp[qt];intro j h1 h2;omega
 | k+1,i=>by
  simp only[qt,Bool.or_eq_true,q0x (k:=k) (i:=i+1)]
  constructor
  ·rintro (h | ⟨j,h1,h2,h3⟩)
   ·exact ⟨i,Nat.le_refl _,by omega,h⟩
   ·exact ⟨j,by omega,by omega,h3⟩
  ·rintro ⟨j,h1,h2,h3⟩
   rcases Nat.eq_or_lt_of_le h1 with rfl | h1
   ·exact .inl h3
   ·exact .inr ⟨j,by omega,by omega,h3⟩
theorem qbn {P:Nat→Bool} {k i:Nat}:qt P i k=false↔∀ j,i≤j→j<i+k→P j=false:=by
 rw[←Bool.not_eq_true,q0x]
 constructor
 ·intro h j h1 h2
  cases hp:P j with
  | false=>rfl
  | true=>exact absurd ⟨j,h1,h2,hp⟩ h
 ·rintro h ⟨j,h1,h2,h3⟩
  rw[h j h1 h2] at h3;exact Bool.noConfusion h3
theorem qu5 {P Q:Nat→Bool}:∀ {k i:Nat},(∀ j,i≤j→j<i+k→P j=Q j)→qt P i k=qt Q i k
 | 0,_,_=>rfl
 | k+1,i,h=>by
  simp only[qt]
  rw[h i (Nat.le_refl _) (by omega),qu5 fun j h1 h2=>h j (by omega) (by omega)]
theorem scan {R:Type} {L:Nat→Nat→Option R} {N:Nat} {P:Nat→Bool} {A B:Option R}
  (hs:∀ m i,i≤N→L (m+1) i=if i<N then br (P i) A (L m (i+1)) else B):∀ m i,i≤N→N - i<m→L m i=br (qt P i (N - i)) A B
 | 0,_,_,h=>by omega
 | m+1,i,hi,hm=>by
  rw[hs m i hi]
  by_cases h:i<N
  ·rw[if_pos h]
   obtain ⟨k,hk⟩:∃ k,N - i=k+1:=⟨N - i - 1,by omega⟩
   rw[hk,scan hs m (i+1) (by omega) (by omega)]
   have:N - (i+1)=k:=by omega
   rw[this]
   show br (P i) A (br (qt P (i+1) k) A B)=br (P i||qt P (i+1) k) A B
   cases P i<;>rfl
  ·rw[if_neg h]
   have:N - i=0:=by omega
   rw[this];rfl
theorem qik {R:Type} {L:Nat→Nat→Option R} {N:Nat} {P:Nat→Bool} {A B:Option R}
  (hs:∀ m i,i≤N→L (m+1) i=if i<N then br (P i) A (L m (i+1)) else B) {m:Nat} (hm:N<m):L m 0=br (qt P 0 N) A B:=by
 have:=scan hs m 0 (by omega) (by omega)
 rwa [Nat.sub_zero] at this
def qx (P:Nat→Bool):Nat→Nat→Option Nat
 | _,0=>none
 | i,k+1=>if P i=true then some i else qx P (i+1) k
theorem qc9 {P:Nat→Bool}:∀ {k i j:Nat},qx P i k=some j→i≤j∧j<i+k∧P j=true∧∀ l,i≤l→l<j→P l=false
 | 0,i,j,h=>by simp[qx] at h
 | k+1,i,j,h=>by
  simp only[qx] at h
  split at h
  ·rename_i hp
   simp only[Option.some.injEq] at h
   subst h
   exact ⟨Nat.le_refl _,by omega,hp,fun l h1 h2=>by omega⟩
  ·rename_i hp
   obtain ⟨h1,h2,h3,h4⟩:=qc9 h
   refine ⟨by omega,by omega,h3,fun l h5 h6=>?_⟩
   rcases Nat.eq_or_lt_of_le h5 with rfl | h5
   ·simpa using hp
   ·exact h4 l h5 h6
theorem qk8 {P:Nat→Bool}:∀ {k i:Nat},qx P i k=none→∀ j,i≤j→j<i+k→P j=false
 | 0,i,_,j,h1,h2=>by omega
 | k+1,i,h,j,h1,h2=>by
  simp only[qx] at h
  split at h
  ·simp at h
  ·rename_i hp
   rcases Nat.eq_or_lt_of_le h1 with rfl | h1
   ·simpa using hp
   ·exact qk8 h j (by omega) (by omega)
theorem q6n {P Q:Nat→Bool}:∀ {k i:Nat},(∀ j,i≤j→j<i+k→P j=Q j)→qx P i k=qx Q i k
 | 0,_,_=>rfl
 | k+1,i,h=>by
  simp only[qx]
  rw[h i (Nat.le_refl _) (by omega),q6n fun j h1 h2=>h j (by omega) (by omega)]
theorem qbvv {R:Type} {L:Nat→Nat→Option R} {N:Nat} {P:Nat→Bool} {A:Nat→Option R} {B:Option R}
  (hs:∀ m i,i≤N→L (m+1) i=if i<N then br (P i) (A i) (L m (i+1)) else B):∀ m i,i≤N→N - i<m→L m i=match qx P i (N - i) with | some j=>A j | none=>B
 | 0,_,_,h=>by omega
 | m+1,i,hi,hm=>by
  rw[hs m i hi]
  by_cases h:i<N
  ·rw[if_pos h]
   obtain ⟨k,hk⟩:∃ k,N - i=k+1:=⟨N - i - 1,by omega⟩
   rw[hk]
   simp only[qx]
   by_cases hp:P i=true
   ·rw[if_pos hp,hp];rfl
   ·rw[if_neg hp,qbvv hs m (i+1) (by omega) (by omega)]
    simp only[Bool.not_eq_true] at hp
    have:N - (i+1)=k:=by omega
    rw[this,hp];rfl
  ·rw[if_neg h]
   have:N - i=0:=by omega
   rw[this];rfl
theorem qp9 {R:Type} {L:Nat→Nat→Option R} {N:Nat} {P:Nat→Bool} {A:Nat→Option R} {B:Option R}
  (hs:∀ m i,i≤N→L (m+1) i=if i<N then br (P i) (A i) (L m (i+1)) else B) {m:Nat} (hm:N<m):L m 0=match qx P 0 N with | some j=>A j | none=>B:=by
 have:=qbvv hs m 0 (by omega) (by omega)
 rwa [Nat.sub_zero] at this
theorem qiw (a b:Bool):(bif a then b else false)=(a&&b):=by cases a<;>rfl
theorem qbqx (a b:Bool):(bif a then true else b)=(a||b):=by cases a<;>rfl
def inR (x a b:Int):Bool:=decide (a≤x)&&decide (x≤b)
theorem quz {X:Ext} (hX:XOk X) {n:Nat} (hn:1≤n) (x a b:Int):qf5 (DD X n) x a b=some ((inR x a b,()),()):=by
 obtain ⟨n,rfl⟩:∃ k,n=k+1:=⟨n - 1,by omega⟩
 rw[qbqr hX]
 simp only[q63,qbe1,qiw,inR]
theorem qxf {X:Ext} (hX:XOk X) {n:Nat} (hn:1≤n) (x a b:Int):qgq (DD X n) x a b=some ((inR x a b,()),()):=by
 obtain ⟨n,rfl⟩:∃ k,n=k+1:=⟨n - 1,by omega⟩
 rw[qbqh hX]
 simp only[q6v,qbe3,qiw,inR]
def qim (s:ByteArray) (i:Nat):Int:=((s.data.getD i (UInt8.ofNat 0)).toNat:Int)
def qqg (s:ByteArray):Bool:=!(qt (fun i=>decide (qim s i<97)||decide (qim s i>122)) 0 s.size)&&inR s.size 1 12
theorem ixs {s:ByteArray} {i:Nat} (h:i<s.size):(decide (0≤(i:Int))&&decide ((i:Int)<(s.size:Int)))=true:=by
 simp only[Bool.and_eq_true,decide_eq_true_eq];omega
theorem qbcv {X:Ext} (hX:XOk X) {n:Nat} (hn:W+2≤n) (s:ByteArray) (hs:s.size≤maxLen):qpw (DD X n) s=some ((qqg s,()),()):=by
 obtain ⟨n,rfl⟩:∃ k,n=k+1:=⟨n - 1,by omega⟩
 have hd:=qby
 have hW:=qbm
 rw[qbgg hX]
 simp only[qvy,qv1,qsj]
 refine Eq.trans (qik (L:=fun m i=>qh4 (DD X n) n _ _ m s s.size (i:Int)) (N:=s.size) (P:=fun i=>decide (qim s i<97)||decide (qim s i>122))
  (A:=some ((false,()),())) (B:=some ((inR s.size 1 12,()),())) (fun m i hi=>?_) (m:=n) (by omega)) ?_
 ·simp only[qh4,que]
  by_cases h:i<s.size
  ·rw[qj (by exact_mod_cast h),ixs h,br_t,br_t,Int.toNat_natCast,qp (by omega),if_pos h]
   change br (decide (qim s i<97)) _ (br (decide (qim s i>122)) _ _)=_
   by_cases h1:qim s i<97
   ·rw[qj h1,decide_eq_true h1];rfl
   ·rw[qn h1,decide_eq_false h1]
    by_cases h2:qim s i>122
    ·rw[qj h2,decide_eq_true h2];rfl
    ·rw[qn h2,decide_eq_false h2];rfl
  ·rw[qn (by exact_mod_cast h),if_neg h]
   simp only[qq4,quz hX (show 1≤n by omega),qe]
 ·unfold qqg
  cases qt (fun i=>decide (qim s i<97)||decide (qim s i>122)) 0 s.size<;>rfl
theorem qbb9 {X:Ext} (hX:XOk X) {n:Nat} (hn:W+2≤n) (s:ByteArray) (hs:s.size≤maxLen):qpf (DD X n) s=some ((qqg s,()),()):=by
 obtain ⟨n,rfl⟩:∃ k,n=k+1:=⟨n - 1,by omega⟩
 have hd:=qby
 have hW:=qbm
 rw[qbgj hX]
 simp only[qv5,qvb,qs2]
 refine Eq.trans (qik (L:=fun m i=>qh9 (DD X n) n _ _ m s (i:Int)) (N:=s.size) (P:=fun i=>decide (qim s i<97)||decide (qim s i>122))
  (A:=some ((false,()),())) (B:=some ((inR s.size 1 12,()),())) (fun m i hi=>?_) (m:=n) (by omega)) ?_
 ·simp only[qh9,qt6]
  by_cases h:i<s.size
  ·rw[qj (by exact_mod_cast h),ixs h,br_t,br_t,Int.toNat_natCast,qp (by omega),if_pos h]
   change br (decide (qim s i<97)) _ (br (decide (qim s i>122)) _ _)=_
   by_cases h1:qim s i<97
   ·rw[qj h1,decide_eq_true h1];rfl
   ·rw[qn h1,decide_eq_false h1]
    by_cases h2:qim s i>122
    ·rw[qj h2,decide_eq_true h2];rfl
    ·rw[qn h2,decide_eq_false h2];rfl
  ·rw[qn (by exact_mod_cast h),if_neg h]
   simp only[qq7,qxf hX (show 1≤n by omega),qe]
 ·unfold qqg
  cases qt (fun i=>decide (qim s i<97)||decide (qim s i>122)) 0 s.size<;>rfl
def has (l:List Int) (x:Int):Bool:=qt (fun j=>decide (x=l.getD j 0)) 0 l.length
theorem qbr2 {X:Ext} (hX:XOk X) {n:Nat} (hn:W+2≤n) (l:List Int) (x:Int) (hl:l.length≤maxLen):qkp (DD X n) l x=some ((has l x,()),()):=by
 obtain ⟨n,rfl⟩:∃ k,n=k+2:=⟨n - 2,by omega⟩
 have hd:=qby
 have hW:=qbm
 rw[q3t hX]
 simp only[qkq,qrx]
 have e:qnl (DD X (n+1)) l x=some ((match qx (fun j=>decide (x=l.getD j 0)) 0 l.length with | some j=>(j:Int) | none=>-1,()),()):=by
  rw[q64 hX]
  simp only[qns,qnq,qlo]
  refine Eq.trans (qp9 (L:=fun m i=>qen (DD X n) n _ _ m l x l.length (i:Int)) (N:=l.length) (P:=fun j=>decide (x=l.getD j 0))
   (A:=fun j=>some (((j:Int),()),())) (B:=some ((-1,()),())) (fun m i hi=>?_) (m:=n) (by omega)) ?_
  ·simp only[qen,ql3]
   by_cases h:i<l.length
   ·rw[qj (by exact_mod_cast h),ix h,br_t,Int.toNat_natCast,qp (by omega),if_pos h];rfl
   ·rw[qn (by exact_mod_cast h),if_neg h];rfl
  ·cases qx (fun j=>decide (x=l.getD j 0)) 0 l.length<;>rfl
 rw[e,qe]
 congr 3
 unfold has
 cases hf:qx (fun j=>decide (x=l.getD j 0)) 0 l.length with
 | none=>
  have:=qk8 hf
  rw[qbn.2 this];rfl
 | some j=>
  obtain ⟨h1,h2,h3,_⟩:=qc9 hf
  rw[q0x.2 ⟨j,h1,h2,h3⟩]
  simp
def qct (n:Nat) (l:List Int) (most:Int):Bool:=!(qt (fun i=>!inR (l.getD i 0) 0 ((n:Int) - 1)||has (l.take i) (l.getD i 0)) 0 l.length)&&inR l.length 1 most
theorem q8o {X:Ext} (hX:XOk X) {n:Nat} (hn:W+3≤n) (s:List Col×List Int×List qjy×Unit) (l:List Int) (most:Int) (hc:s.1.length≤maxLen) (hl:l.length≤maxLen) :
  qr7 (DD X n) s l most=some ((qct s.1.length l most,()),()):=by
 obtain ⟨n,rfl⟩:∃ k,n=k+1:=⟨n - 1,by omega⟩
 have hd:=qby
 have hW:=qbm
 rw[qbi7 hX]
 simp only[qxz,qxx,quu]
 refine Eq.trans (qik (L:=fun m i=>qje (DD X n) n _ _ m l most l l.length (i:Int) s) (N:=l.length) (P:=fun i=>!inR (l.getD i 0) 0 ((s.1.length:Int) - 1)||has (l.take i) (l.getD i 0))
  (A:=some ((false,()),())) (B:=some ((inR l.length 1 most,()),())) (fun m i hi=>?_) (m:=n) (by omega)) ?_
 ·simp only[qje,qvq]
  by_cases h:i<l.length
  ·have hc1:(decide ((0:Nat)≤0)&&decide ((0:Int)≤(i:Int))&&decide ((i:Int)≤(l.length:Int)))=true:=by
    rw[decide_eq_true (by omega),decide_eq_true (by omega),decide_eq_true (by omega)];rfl
   rw[qj (by exact_mod_cast h),ix h,br_t,quz hX (show 1≤n by omega),qe,hc1,br_t,Int.toNat_natCast,qp (by omega),if_pos h,qc2 (by omega) (by omega)]
   have ht:(List.drop (Int.toNat 0) (List.take i l))=l.take i:=rfl
   rw[ht,qbr2 hX (by omega) _ _ (by rw[List.length_take];omega),qe]
   dsimp only
   cases inR (l.getD i 0) 0 ((s.1.length:Int) - 1)
   ·rfl
   ·cases has (l.take i) (l.getD i 0)<;>rfl
  ·rw[qn (by exact_mod_cast h),if_neg h]
   simp only[qs4,quz hX (show 1≤n by omega),qe]
 ·unfold qct
  cases qt (fun i=>!inR (l.getD i 0) 0 ((s.1.length:Int) - 1)||has (l.take i) (l.getD i 0)) 0 l.length<;>rfl
theorem qbuf {l:List Int} {i:Nat} (hi:i≤l.length) (x:Int):has (l.take i) x=qt (fun k=>decide (l.getD k 0=x)) 0 i:=by
 unfold has
 rw[List.length_take,Nat.min_eq_left hi]
 refine qu5 fun j _ h=>?_
 have e:(l.take i).getD j 0=l.getD j 0:=by
  simp only[List.getD,List.getElem?_take]
  rw[if_pos (by omega)]
 rw[e]
 by_cases h:x=l.getD j 0
 ·rw[decide_eq_true h,decide_eq_true h.symm]
 ·rw[decide_eq_false h,decide_eq_false fun k=>h k.symm]
theorem q71 {X:Ext} (hX:XOk X) {n:Nat} (hn:W+3≤n) (s:List Col×List Int×List qjy×Unit) (l:List Int) (most:Int) (hc:s.1.length≤maxLen) (hl:l.length≤maxLen) :
  qp1 (DD X n) s l most=some ((qct s.1.length l most,()),()):=by
 obtain ⟨n,rfl⟩:∃ k,n=k+1:=⟨n - 1,by omega⟩
 have hd:=qby
 have hW:=qbm
 rw[qbfz hX]
 simp only[qv3,qvs,qsn]
 refine Eq.trans (qik (L:=fun m i=>qe2 (DD X n) n _ _ m l most (i:Int) s) (N:=l.length) (P:=fun i=>!inR (l.getD i 0) 0 ((s.1.length:Int) - 1)||has (l.take i) (l.getD i 0))
  (A:=some ((false,()),())) (B:=some ((inR l.length 1 most,()),())) (fun m i hi=>?_) (m:=n) (by omega)) ?_
 ·simp only[qe2,qum]
  by_cases h:i<l.length
  ·rw[qj (by exact_mod_cast h),ix h,br_t,qxf hX (show 1≤n by omega),qe,Int.toNat_natCast,if_pos h,qc2 (by omega) (by omega)]
   dsimp only
   cases hin:inR (l.getD i 0) 0 ((s.1.length:Int) - 1)
   ·rfl
   ·rw[Bool.not_true,br_f,Bool.false_or,qbuf (by omega)]
    simp only[qso]
    refine Eq.trans (qik (L:=fun q k=>qhz (DD X n) n _ _ q l most (i:Int) (k:Int) s) (N:=i) (P:=fun k=>decide (l.getD k 0=l.getD i 0))
     (A:=some ((false,()),())) (B:=qe2 (DD X n) n (fun v0_0 v0_1 v0_2=>qq3 (DD X n) n v0_0 v0_1 v0_2) (fun v1_0 v1_1=>ql2 (DD X n) n v1_0 v1_1) m l most ((i+1:Nat):Int) s) (fun q k hk=>?_) (m:=n) (by omega)) rfl
    simp only[qhz,quw]
    by_cases h2:k<i
    ·rw[qj (by exact_mod_cast h2),ix (i:=k) (by omega),br_t,ix h,br_t,Int.toNat_natCast,Int.toNat_natCast,qp (by omega),if_pos h2];rfl
    ·rw[qn (by exact_mod_cast h2),if_neg h2]
     simp only[qrb]
     rw[qp (by omega)]
  ·rw[qn (by exact_mod_cast h),if_neg h]
   simp only[ql2,qxf hX (show 1≤n by omega),qe]
 ·unfold qct
  cases qt (fun i=>!inR (l.getD i 0) 0 ((s.1.length:Int) - 1)||has (l.take i) (l.getD i 0)) 0 l.length<;>rfl
end Go.G

namespace Go.G
set_option maxRecDepth 100000
open Go Go.V Go.Proofs
theorem q01 (P:Nat→Bool) (n:Nat):decide ((match qx P 0 n with | some j=>(j:Int) | none=>-1)≥0)=qt P 0 n:=by
 cases hf:qx P 0 n with
 | none=>rw[qbn.2 (qk8 hf)];rfl
 | some j=>
  obtain ⟨h1,h2,h3,_⟩:=qc9 hf
  rw[q0x.2 ⟨j,h1,h2,h3⟩]
  simp
theorem qbuy {X:Ext} (hX:XOk X) {n:Nat} (hn:W+1≤n) (l:List (Col)) (hl:l.length≤maxLen) (c:Clo) (P:Nat→Bool)
  (hP:∀ i,i<l.length→qbl ctx (DD X (n - 1)) c [CapV.val (Ty.pair Ty.str (Ty.pair (Ty.int IntKind.i64) (Ty.pair Ty.bool Ty.unit))) (l.getD i (ByteArray.empty,0,false,()))] Ty.bool=some (P i)) :
  qft (DD X n) l c=some ((match qx P 0 l.length with | some j=>(j:Int) | none=>-1,()),()):=by
 obtain ⟨n,rfl⟩:∃ k,n=k+1:=⟨n - 1,by omega⟩
 have hd:=qby
 have hW:=qbm
 rw[qtb hX]
 simp only[qfr,qfy,qe7]
 refine Eq.trans (qp9 (L:=fun m i=>qce (DD X n) n c _ _ m l l.length (i:Int)) (N:=l.length) (P:=P)
  (A:=fun j=>some (((j:Int),()),())) (B:=some ((-1,()),())) (fun m i hi=>?_) (m:=n) (by omega)) ?_
 ·simp only[qce,qfh]
  by_cases h:i<l.length
  ·have hp:qbl ctx (DD X n) c [CapV.val (Ty.pair Ty.str (Ty.pair (Ty.int IntKind.i64) (Ty.pair Ty.bool Ty.unit))) (l.getD i (ByteArray.empty,0,false,()))] Ty.bool=some (P i):=hP i h
   rw[qj (by exact_mod_cast h),ix h,br_t,Int.toNat_natCast,hp,qe,qp (by omega),if_pos h];rfl
  ·rw[qn (by exact_mod_cast h),if_neg h];rfl
 ·cases qx P 0 l.length<;>rfl
theorem qbrz {X:Ext} (hX:XOk X) {n:Nat} (hn:W+1≤n) (l:List (qjy)) (hl:l.length≤maxLen) (c:Clo) (P:Nat→Bool)
  (hP:∀ i,i<l.length→qbl ctx (DD X (n - 1)) c [CapV.val (Ty.pair Ty.str (Ty.pair (Ty.sl (Ty.int IntKind.i64)) (Ty.pair Ty.bool Ty.unit))) (l.getD i (ByteArray.empty,[],false,()))] Ty.bool=some (P i)) :
  qeq (DD X n) l c=some ((match qx P 0 l.length with | some j=>(j:Int) | none=>-1,()),()):=by
 obtain ⟨n,rfl⟩:∃ k,n=k+1:=⟨n - 1,by omega⟩
 have hd:=qby
 have hW:=qbm
 rw[qpk hX]
 simp only[qey,qeo,qec]
 refine Eq.trans (qp9 (L:=fun m i=>qbu (DD X n) n c _ _ m l l.length (i:Int)) (N:=l.length) (P:=P)
  (A:=fun j=>some (((j:Int),()),())) (B:=some ((-1,()),())) (fun m i hi=>?_) (m:=n) (by omega)) ?_
 ·simp only[qbu,qeh]
  by_cases h:i<l.length
  ·have hp:qbl ctx (DD X n) c [CapV.val (Ty.pair Ty.str (Ty.pair (Ty.sl (Ty.int IntKind.i64)) (Ty.pair Ty.bool Ty.unit))) (l.getD i (ByteArray.empty,[],false,()))] Ty.bool=some (P i):=hP i h
   rw[qj (by exact_mod_cast h),ix h,br_t,Int.toNat_natCast,hp,qe,qp (by omega),if_pos h];rfl
  ·rw[qn (by exact_mod_cast h),if_neg h];rfl
 ·cases qx P 0 l.length<;>rfl
theorem qbu2 {X:Ext} (hX:XOk X) {n:Nat} (hn:W+1≤n) (l:List (Int)) (hl:l.length≤maxLen) (c:Clo) (P:Nat→Bool)
  (hP:∀ i,i<l.length→qbl ctx (DD X (n - 1)) c [CapV.val (Ty.int IntKind.i64) (l.getD i 0)] Ty.bool=some (P i)) :
  qkj (DD X n) l c=some ((match qx P 0 l.length with | some j=>(j:Int) | none=>-1,()),()):=by
 obtain ⟨n,rfl⟩:∃ k,n=k+1:=⟨n - 1,by omega⟩
 have hd:=qby
 have hW:=qbm
 rw[q13 hX]
 simp only[qkg,qkf,qi0]
 refine Eq.trans (qp9 (L:=fun m i=>qdo (DD X n) n c _ _ m l l.length (i:Int)) (N:=l.length) (P:=P)
  (A:=fun j=>some (((j:Int),()),())) (B:=some ((-1,()),())) (fun m i hi=>?_) (m:=n) (by omega)) ?_
 ·simp only[qdo,qjr]
  by_cases h:i<l.length
  ·have hp:qbl ctx (DD X n) c [CapV.val (Ty.int IntKind.i64) (l.getD i 0)] Ty.bool=some (P i):=hP i h
   rw[qj (by exact_mod_cast h),ix h,br_t,Int.toNat_natCast,hp,qe,qp (by omega),if_pos h];rfl
  ·rw[qn (by exact_mod_cast h),if_neg h];rfl
 ·cases qx P 0 l.length<;>rfl
theorem qbsj {X:Ext} (hX:XOk X) {n:Nat} (hn:W+1≤n) (l:List (Value)) (hl:l.length≤maxLen) (c:Clo) (P:Nat→Bool)
  (hP:∀ i,i<l.length→qbl ctx (DD X (n - 1)) c [CapV.val (Ty.pair (Ty.int IntKind.i64) (Ty.pair (Ty.int IntKind.i64) (Ty.pair Ty.str Ty.unit))) (l.getD i (0,0,ByteArray.empty,()))] Ty.bool=some (P i)) :
  qef (DD X n) l c=some ((match qx P 0 l.length with | some j=>(j:Int) | none=>-1,()),()):=by
 obtain ⟨n,rfl⟩:∃ k,n=k+1:=⟨n - 1,by omega⟩
 have hd:=qby
 have hW:=qbm
 rw[qo2 hX]
 simp only[qee,qeg,qd7]
 refine Eq.trans (qp9 (L:=fun m i=>qbq (DD X n) n c _ _ m l l.length (i:Int)) (N:=l.length) (P:=P)
  (A:=fun j=>some (((j:Int),()),())) (B:=some ((-1,()),())) (fun m i hi=>?_) (m:=n) (by omega)) ?_
 ·simp only[qbq,qd9]
  by_cases h:i<l.length
  ·have hp:qbl ctx (DD X n) c [CapV.val (Ty.pair (Ty.int IntKind.i64) (Ty.pair (Ty.int IntKind.i64) (Ty.pair Ty.str Ty.unit))) (l.getD i (0,0,ByteArray.empty,()))] Ty.bool=some (P i):=hP i h
   rw[qj (by exact_mod_cast h),ix h,br_t,Int.toNat_natCast,hp,qe,qp (by omega),if_pos h];rfl
  ·rw[qn (by exact_mod_cast h),if_neg h];rfl
 ·cases qx P 0 l.length<;>rfl
theorem qbu4 {X:Ext} (hX:XOk X) {n:Nat} (hn:W+1≤n) (l:List (List Value)) (hl:l.length≤maxLen) (c:Clo) (P:Nat→Bool)
  (hP:∀ i,i<l.length→qbl ctx (DD X (n - 1)) c [CapV.val (Ty.sl (Ty.pair (Ty.int IntKind.i64) (Ty.pair (Ty.int IntKind.i64) (Ty.pair Ty.str Ty.unit)))) (l.getD i [])] Ty.bool=some (P i)) :
  qew (DD X n) l c=some ((match qx P 0 l.length with | some j=>(j:Int) | none=>-1,()),()):=by
 obtain ⟨n,rfl⟩:∃ k,n=k+1:=⟨n - 1,by omega⟩
 have hd:=qby
 have hW:=qbm
 rw[qp5 hX]
 simp only[qet,qer,qeb]
 refine Eq.trans (qp9 (L:=fun m i=>qbs (DD X n) n c _ _ m l l.length (i:Int)) (N:=l.length) (P:=P)
  (A:=fun j=>some (((j:Int),()),())) (B:=some ((-1,()),())) (fun m i hi=>?_) (m:=n) (by omega)) ?_
 ·simp only[qbs,qed]
  by_cases h:i<l.length
  ·have hp:qbl ctx (DD X n) c [CapV.val (Ty.sl (Ty.pair (Ty.int IntKind.i64) (Ty.pair (Ty.int IntKind.i64) (Ty.pair Ty.str Ty.unit)))) (l.getD i [])] Ty.bool=some (P i):=hP i h
   rw[qj (by exact_mod_cast h),ix h,br_t,Int.toNat_natCast,hp,qe,qp (by omega),if_pos h];rfl
  ·rw[qn (by exact_mod_cast h),if_neg h];rfl
 ·cases qx P 0 l.length<;>rfl
theorem qbff {X:Ext} (hX:XOk X) {n:Nat} (hn:W+2≤n) (l:List (qjy)) (hl:l.length≤maxLen) (c:Clo) (P:Nat→Bool)
  (hP:∀ i,i<l.length→qbl ctx (DD X (n - 2)) c [CapV.val (Ty.pair Ty.str (Ty.pair (Ty.sl (Ty.int IntKind.i64)) (Ty.pair Ty.bool Ty.unit))) (l.getD i (ByteArray.empty,[],false,()))] Ty.bool=some (P i)) :
  qcv (DD X n) l c=some ((qt P 0 l.length,()),()):=by
 obtain ⟨n,rfl⟩:∃ k,n=k+1:=⟨n - 1,by omega⟩
 rw[qn0 hX]
 simp only[qd6,qg2]
 rw[qbrz hX (n:=n) (by omega) l hl c P (fun i h=>hP i h),qe]
 congr 3
 exact q01 P l.length
theorem qbuc {X:Ext} (hX:XOk X) {n:Nat} (hn:W+2≤n) (l:List (Int)) (hl:l.length≤maxLen) (c:Clo) (P:Nat→Bool)
  (hP:∀ i,i<l.length→qbl ctx (DD X (n - 2)) c [CapV.val (Ty.int IntKind.i64) (l.getD i 0)] Ty.bool=some (P i)) :
  qij (DD X n) l c=some ((qt P 0 l.length,()),()):=by
 obtain ⟨n,rfl⟩:∃ k,n=k+1:=⟨n - 1,by omega⟩
 rw[qye hX]
 simp only[qii,qnv]
 rw[qbu2 hX (n:=n) (by omega) l hl c P (fun i h=>hP i h),qe]
 congr 3
 exact q01 P l.length
theorem qbqd {X:Ext} (hX:XOk X) {n:Nat} (hn:W+2≤n) (l:List (Value)) (hl:l.length≤maxLen) (c:Clo) (P:Nat→Bool)
  (hP:∀ i,i<l.length→qbl ctx (DD X (n - 2)) c [CapV.val (Ty.pair (Ty.int IntKind.i64) (Ty.pair (Ty.int IntKind.i64) (Ty.pair Ty.str Ty.unit))) (l.getD i (0,0,ByteArray.empty,()))] Ty.bool=some (P i)) :
  qd2 (DD X n) l c=some ((qt P 0 l.length,()),()):=by
 obtain ⟨n,rfl⟩:∃ k,n=k+1:=⟨n - 1,by omega⟩
 rw[qnp hX]
 simp only[qd1,qgt]
 rw[qbsj hX (n:=n) (by omega) l hl c P (fun i h=>hP i h),qe]
 congr 3
 exact q01 P l.length
theorem qbsp {X:Ext} (hX:XOk X) {n:Nat} (hn:W+2≤n) (l:List (List Value)) (hl:l.length≤maxLen) (c:Clo) (P:Nat→Bool)
  (hP:∀ i,i<l.length→qbl ctx (DD X (n - 2)) c [CapV.val (Ty.sl (Ty.pair (Ty.int IntKind.i64) (Ty.pair (Ty.int IntKind.i64) (Ty.pair Ty.str Ty.unit)))) (l.getD i [])] Ty.bool=some (P i)) :
  qcf (DD X n) l c=some ((qt P 0 l.length,()),()):=by
 obtain ⟨n,rfl⟩:∃ k,n=k+1:=⟨n - 1,by omega⟩
 rw[qnz hX]
 simp only[qd5,qg3]
 rw[qbu4 hX (n:=n) (by omega) l hl c P (fun i h=>hP i h),qe]
 congr 3
 exact q01 P l.length
end Go.G

namespace Go.G
set_option maxRecDepth 100000
open Go Go.V Go.Proofs
abbrev qbf:=List Col×List Int×List qjy×Unit
def M:Nat:=4194304
theorem qbo:M=4194304:=rfl
structure SchSm (s:qbf):Prop where
 cols:s.1.length≤M
 names:∀ c∈s.1,c.1.size≤M
 key:s.2.1.length≤M
 ixs:s.2.2.1.length≤M
 ixn:∀ x∈s.2.2.1,x.1.size≤M
 ixc:∀ x∈s.2.2.1,x.2.1.length≤M
abbrev cd:Col:=(ByteArray.empty,0,false,())
abbrev xd:qjy:=(ByteArray.empty,[],false,())
theorem qbx {α:Type} {l:List α} {i:Nat} {d:α} (h:i<l.length):l.getD i d∈l:=by rw[qbh h];exact List.getElem_mem _
def qbdj (cs:List Col) (name:ByteArray):Int:=match qx (fun i=>decide ((cs.getD i cd).1=name)) 0 cs.length with | some j=>(j:Int) | none=>-1
theorem qbtm (D:Den ctx) (name:ByteArray) (x:Col):qbl ctx D (Clo.mk 196 [CapV.rptr Ty.str name]) [CapV.val (Ty.pair Ty.str (Ty.pair (Ty.int IntKind.i64) (Ty.pair Ty.bool Ty.unit))) x] Ty.bool=(q8d D x name).bind fun r=>some r.1.1:=by kernel_rfl
theorem qbp0 {X:Ext} (hX:XOk X) {n:Nat} (hn:W+3≤n) (s:qbf) (hs:SchSm s) (name:ByteArray):q5u (DD X n) s name=some ((qbdj s.1 name,()),()):=by
 obtain ⟨n,rfl⟩:∃ k,n=k+1:=⟨n - 1,by omega⟩
 have hd:=qby
 have hM:=qbo
 have:=hs.cols
 rw[qbpq hX]
 simp only[q5i,qbco]
 rw[qbuy hX (n:=n) (by omega) s.1 (by omega) _ (fun i=>decide ((s.1.getD i cd).1=name)) (fun i h=>by
  obtain ⟨n,rfl⟩:∃ k,n=k+2:=⟨n - 2,by omega⟩
  rw[qbtm]
  rw[show n+2 - 1=n+1 from rfl,qbk3 hX]
  simp only[qyx,q73,Option.bind_some,qmr]),qe]
 rfl
theorem qbqk {X:Ext} (hX:XOk X) {n:Nat} (hn:W+1≤n) (s:qbf) (hs:SchSm s) (name:ByteArray):q4e (DD X n) s name=some ((qbdj s.1 name,()),()):=by
 obtain ⟨n,rfl⟩:∃ k,n=k+1:=⟨n - 1,by omega⟩
 have hd:=qby
 have hW:=qbm
 have hM:=qbo
 have:=hs.cols
 rw[qbod hX]
 simp only[q42,q4c,qzr]
 refine Eq.trans (qp9 (L:=fun m i=>qmj (DD X n) n _ _ m name (i:Int) s) (N:=s.1.length) (P:=fun i=>decide ((s.1.getD i cd).1=name))
  (A:=fun j=>some (((j:Int),()),())) (B:=some ((-1,()),())) (fun m i hi=>?_) (m:=n) (by omega)) ?_
 ·simp only[qmj,q12]
  by_cases h:i<s.1.length
  ·rw[qj (by exact_mod_cast h),ix h,br_t,Int.toNat_natCast,qp (by omega),if_pos h,qmr];rfl
  ·rw[qn (by exact_mod_cast h),if_neg h];rfl
 ·unfold qbdj
  cases qx (fun i=>decide ((s.1.getD i cd).1=name)) 0 s.1.length<;>rfl
def qxc (cs:List Col) (i:Nat):Bool:=!qqg (cs.getD i cd).1||(!inR (cs.getD i cd).2.1 1 3||!decide (qbdj cs (cs.getD i cd).1=(i:Int)))
def qr1 (nc:Nat) (xs:List qjy) (i:Nat):Bool:=!qqg (xs.getD i xd).1||(!qct nc (xs.getD i xd).2.1 3||qt (fun k=>decide ((xs.getD k xd).1=(xs.getD i xd).1)) 0 i)
def q0h (cs:List Col) (key:List Int):Bool:=qt (fun j=>(cs.getD (key.getD j 0).toNat cd).2.2.1) 0 key.length
def qg9 (s:qbf):Bool:=
 !qt (qxc s.1) 0 s.1.length&&(!qt (qr1 s.1.length s.2.2.1) 0 s.2.2.1.length&&(inR s.1.length 1 5&&(qct s.1.length s.2.1 4&&(!q0h s.1 s.2.1&&decide ((s.2.2.1.length:Int)≤3)))))
theorem qbl4 {n:Nat} {l:List Int} {most:Int} (h:qct n l most=true) {j:Nat} (hj:j<l.length):0≤l.getD j 0∧l.getD j 0<n:=by
 simp only[qct,Bool.and_eq_true,Bool.not_eq_true'] at h
 have:=qbn.1 h.1 j (by omega) (by omega)
 simp only[Bool.or_eq_false_iff,Bool.not_eq_false',inR,Bool.and_eq_true,decide_eq_true_eq] at this
 omega
theorem qwk (a b:Int):(a != b)=!decide (a=b):=by by_cases h:a=b<;>simp[h]
theorem qbrr (D:Den ctx) (y x:qjy):qbl ctx D (Clo.mk 149 [CapV.rptr (Ty.pair Ty.str (Ty.pair (Ty.sl (Ty.int IntKind.i64)) (Ty.pair Ty.bool Ty.unit))) y]) [CapV.val (Ty.pair Ty.str (Ty.pair (Ty.sl (Ty.int IntKind.i64)) (Ty.pair Ty.bool Ty.unit))) x] Ty.bool=(q3n D x y).bind fun r=>some r.1.1:=by kernel_rfl
theorem qbp8 (D:Den ctx) (s:qbf) (x:Int):qbl ctx D (Clo.mk 151 [CapV.rptr (Ty.pair (Ty.sl (Ty.pair Ty.str (Ty.pair (Ty.int IntKind.i64) (Ty.pair Ty.bool Ty.unit)))) (Ty.pair (Ty.sl (Ty.int IntKind.i64)) (Ty.pair (Ty.sl (Ty.pair Ty.str (Ty.pair (Ty.sl (Ty.int IntKind.i64)) (Ty.pair Ty.bool Ty.unit)))) Ty.unit))) s]) [CapV.val (Ty.int IntKind.i64) x] Ty.bool=(q3k D x s).bind fun r=>some r.1.1:=by kernel_rfl
theorem q8m {X:Ext} (hX:XOk X) {n:Nat} (hn:W+5≤n) (s:qbf) (hs:SchSm s):qr2 (DD X n) s=some ((qg9 s,()),()):=by
 obtain ⟨n,rfl⟩:∃ k,n=k+1:=⟨n - 1,by omega⟩
 have hd:=qby
 have hW:=qbm
 have hM:=qbo
 have h1:=hs.cols
 have h2:=hs.ixs
 have h3:=hs.key
 rw[qbhi hX]
 simp only[qwu,qx1,qt7]
 refine Eq.trans (qik (L:=fun m i=>qi5 (DD X n) n _ _ m s.1 s.1.length (i:Int) s) (N:=s.1.length) (P:=qxc s.1)
  (A:=some ((false,()),())) (B:=br (qt (qr1 s.1.length s.2.2.1) 0 s.2.2.1.length) (some ((false,()),())) (some ((inR s.1.length 1 5&&(qct s.1.length s.2.1 4&&(!q0h s.1 s.2.1&&decide ((s.2.2.1.length:Int)≤3))),()),()))) (fun m i hi=>?_) (m:=n) (by omega)) ?_
 ·simp only[qi5,qwf]
  by_cases h:i<s.1.length
  ·have hsz:=hs.names _ (qbx (d:=cd) h)
   rw[qj (by exact_mod_cast h),ix h,br_t,Int.toNat_natCast,qbcv hX (by omega) _ (Nat.le_trans hsz (by omega)),qe,quz hX (by omega),qe,qbp0 hX (by omega) s hs,qe,qp (by omega),if_pos h,qwk]
   dsimp only[qxc]
   cases qqg (s.1.getD i cd).1
   ·rfl
   ·cases inR (s.1.getD i cd).2.1 1 3
    ·rfl
    ·rw[Bool.not_true,br_f,br_f,Bool.false_or,Bool.false_or];rfl
  ·rw[qn (by exact_mod_cast h),if_neg h]
   simp only[qsw,qtx]
   refine (qik (L:=fun m i=>qi1 (DD X n) n _ _ m s.2.2.1 s.2.2.1.length (i:Int) s) (N:=s.2.2.1.length) (P:=qr1 s.1.length s.2.2.1)
    (A:=some ((false,()),())) (B:=some ((inR s.1.length 1 5&&(qct s.1.length s.2.1 4&&(!q0h s.1 s.2.1&&decide ((s.2.2.1.length:Int)≤3))),()),())) (fun m i hi=>?_) (m:=n) (by omega))
   simp only[qi1,qvn]
   by_cases h:i<s.2.2.1.length
   ·have hm:=qbx (d:=xd) h
    have hsz:=hs.ixn _ hm
    have hsl:=hs.ixc _ hm
    have hc1:(decide ((0:Nat)≤0)&&decide ((0:Int)≤(i:Int))&&decide ((i:Int)≤(s.2.2.1.length:Int)))=true:=by
     rw[decide_eq_true (by omega),decide_eq_true (by omega),decide_eq_true (by omega)];rfl
    have hlen:(s.2.2.1.take i).length=i:=by rw[List.length_take];omega
    rw[qj (by exact_mod_cast h),ix h,br_t,Int.toNat_natCast,qbcv hX (by omega) _ (Nat.le_trans hsz (by omega)),qe,q8o hX (by omega) s _ _ (by omega) (Nat.le_trans hsl (by omega)),qe,hc1,br_t,qp (by omega),if_pos h]
    have ht:(List.drop (Int.toNat 0) (List.take i s.2.2.1))=s.2.2.1.take i:=rfl
    rw[ht,qbff hX (n:=n) (by omega) _ (by omega) _ (fun k=>decide ((s.2.2.1.getD k xd).1=(s.2.2.1.getD i xd).1)) (fun k hk=>by
     rw[hlen] at hk
     obtain ⟨n,rfl⟩:∃ k,n=k+3:=⟨n - 3,by omega⟩
     rw[qbrr,show n+3 - 2=n+1 from rfl,qbek hX]
     have e:(s.2.2.1.take i).getD k xd=s.2.2.1.getD k xd:=by
      simp only[List.getD,List.getElem?_take]
      rw[if_pos hk]
     simp only[qux,q25,Option.bind_some,qmr,e]),qe,hlen]
    dsimp only[qr1]
    cases qqg (s.2.2.1.getD i xd).1
    ·rfl
    ·cases qct s.1.length (s.2.2.1.getD i xd).2.1 3
     ·rfl
     ·rw[Bool.not_true,br_f,br_f,Bool.false_or,Bool.false_or];rfl
   ·rw[qn (by exact_mod_cast h),if_neg h]
    simp only[qs9]
    rw[quz hX (by omega),qe,q8o hX (by omega) s _ _ (by omega) (by omega),qe]
    dsimp only
    cases inR s.1.length 1 5
    ·rfl
    ·rw[br_t,Bool.true_and]
     cases hp:qct s.1.length s.2.1 4
     ·rfl
     ·rw[br_t,Bool.true_and,qbuc hX (n:=n) (by omega) s.2.1 (by omega) _ (fun j=>(s.1.getD (s.2.1.getD j 0).toNat cd).2.2.1) (fun k hk=>by
       obtain ⟨n,rfl⟩:∃ k,n=k+3:=⟨n - 3,by omega⟩
       obtain ⟨p1,p2⟩:=qbl4 hp hk
       rw[qbp8,show n+3 - 2=n+1 from rfl,qbeu hX]
       simp only[quk,q3l]
       rw[ixn p1 p2,br_t];rfl),qe,qiw]
      rfl
 ·unfold qg9
  cases qt (qxc s.1) 0 s.1.length
  ·cases qt (qr1 s.1.length s.2.2.1) 0 s.2.2.1.length<;>rfl
  ·rfl
theorem qbmr {X:Ext} (hX:XOk X) {n:Nat} (hn:W+4≤n) (s:qbf) (hs:SchSm s):qt5 (DD X n) s=some ((!qt (qr1 s.1.length s.2.2.1) 0 s.2.2.1.length&&decide ((s.2.2.1.length:Int)≤3),()),()):=by
 obtain ⟨n,rfl⟩:∃ k,n=k+1:=⟨n - 1,by omega⟩
 have hd:=qby
 have hW:=qbm
 have hM:=qbo
 have h1:=hs.cols
 have h2:=hs.ixs
 rw[qbel hX]
 simp only[qt2,qun,qre]
 refine Eq.trans (qik (L:=fun m i=>qek (DD X n) n _ _ m (i:Int) s) (N:=s.2.2.1.length) (P:=qr1 s.1.length s.2.2.1)
  (A:=some ((false,()),())) (B:=some ((decide ((s.2.2.1.length:Int)≤3),()),())) (fun m i hi=>?_) (m:=n) (by omega)) ?_
 ·simp only[qek,qsy]
  by_cases h:i<s.2.2.1.length
  ·have hm:=qbx (d:=xd) h
   have hsz:=hs.ixn _ hm
   have hsl:=hs.ixc _ hm
   rw[qj (by exact_mod_cast h),ix h,br_t,Int.toNat_natCast,qbb9 hX (by omega) _ (Nat.le_trans hsz (by omega)),qe,q71 hX (by omega) s _ _ (by omega) (Nat.le_trans hsl (by omega)),qe,if_pos h]
   dsimp only[qr1]
   cases qqg (s.2.2.1.getD i xd).1
   ·rfl
   ·cases qct s.1.length (s.2.2.1.getD i xd).2.1 3
    ·rfl
    ·rw[Bool.not_true,br_f,br_f,Bool.false_or,Bool.false_or]
     simp only[qrc]
     refine Eq.trans (qik (L:=fun q k=>qhm (DD X n) n _ _ q (i:Int) (k:Int) s (s.2.2.1.getD i xd)) (N:=i) (P:=fun k=>decide ((s.2.2.1.getD k xd).1=(s.2.2.1.getD i xd).1))
      (A:=some ((false,()),())) (B:=qek (DD X n) n (fun v0_0 v0_1=>qpx (DD X n) n v0_0 v0_1) (fun v1_0=>qp6 (DD X n) n v1_0) m ((i+1:Nat):Int) s) (fun q k hk=>?_) (m:=n) (by omega)) rfl
     simp only[qhm,qsl]
     by_cases h2:k<i
     ·rw[qj (by exact_mod_cast h2),ix (i:=k) (by omega),br_t,Int.toNat_natCast,qp (by omega),if_pos h2,qmr];rfl
     ·rw[qn (by exact_mod_cast h2),if_neg h2]
      simp only[qpq]
      rw[qp (by omega)]
  ·rw[qn (by exact_mod_cast h),if_neg h];rfl
 ·cases qt (qr1 s.1.length s.2.2.1) 0 s.2.2.1.length<;>rfl
theorem q7g {X:Ext} (hX:XOk X) {n:Nat} (hn:W+5≤n) (s:qbf) (hs:SchSm s):qrs (DD X n) s=some ((qg9 s,()),()):=by
 obtain ⟨n,rfl⟩:∃ k,n=k+1:=⟨n - 1,by omega⟩
 have hd:=qby
 have hW:=qbm
 have hM:=qbo
 have h1:=hs.cols
 have h2:=hs.ixs
 have h3:=hs.key
 rw[qbjg hX]
 simp only[qxh,qyc,qtz]
 refine Eq.trans (qik (L:=fun m i=>qi9 (DD X n) n _ _ m (i:Int) s) (N:=s.1.length) (P:=qxc s.1)
  (A:=some ((false,()),())) (B:=some ((inR s.1.length 1 5&&(qct s.1.length s.2.1 4&&((!qt (qr1 s.1.length s.2.2.1) 0 s.2.2.1.length&&decide ((s.2.2.1.length:Int)≤3))&&!q0h s.1 s.2.1)),()),())) (fun m i hi=>?_) (m:=n) (by omega)) ?_
 ·simp only[qi9,qvz]
  by_cases h:i<s.1.length
  ·have hsz:=hs.names _ (qbx (d:=cd) h)
   rw[qj (by exact_mod_cast h),ix h,br_t,br_t,br_t,Int.toNat_natCast,qbb9 hX (by omega) _ (Nat.le_trans hsz (by omega)),qe,qxf hX (by omega),qe,qbqk hX (by omega) s hs,qe,qp (by omega),if_pos h,qwk]
   dsimp only[qxc]
   cases qqg (s.1.getD i cd).1
   ·rfl
   ·cases inR (s.1.getD i cd).2.1 1 3
    ·rfl
    ·rw[Bool.not_true,br_f,br_f,Bool.false_or,Bool.false_or];rfl
  ·rw[qn (by exact_mod_cast h),if_neg h]
   simp only[qsd,qty]
   rw[qxf hX (by omega),qe,q71 hX (by omega) s _ _ (by omega) (by omega),qe,qbmr hX (by omega) s hs,qe]
   dsimp only
   cases inR s.1.length 1 5
   ·rfl
   ·cases hp:qct s.1.length s.2.1 4
    ·rfl
    ·cases (!qt (qr1 s.1.length s.2.2.1) 0 s.2.2.1.length&&decide ((s.2.2.1.length:Int)≤3))
     ·rfl
     ·simp only[Bool.not_true,br_f,Bool.true_and]
      refine Eq.trans (qik (L:=fun m i=>qi4 (DD X n) n _ _ m (i:Int) s) (N:=s.2.1.length) (P:=fun j=>(s.1.getD (s.2.1.getD j 0).toNat cd).2.2.1)
       (A:=some ((false,()),())) (B:=some ((true,()),())) (fun m i hi=>?_) (m:=n) (by omega)) ?_
      ·simp only[qi4,qvg]
       by_cases h:i<s.2.1.length
       ·obtain ⟨p1,p2⟩:=qbl4 hp h
        rw[qj (by exact_mod_cast h),ix h,br_t,Int.toNat_natCast,ixn p1 p2,br_t,qp (by omega),if_pos h];rfl
       ·rw[qn (by exact_mod_cast h),if_neg h];rfl
      ·unfold q0h
       cases qt (fun j=>(s.1.getD (s.2.1.getD j 0).toNat cd).2.2.1) 0 s.2.1.length<;>rfl
 ·unfold qg9
  cases qt (qxc s.1) 0 s.1.length<;>cases qt (qr1 s.1.length s.2.2.1) 0 s.2.2.1.length<;>cases inR s.1.length 1 5<;>cases qct s.1.length s.2.1 4<;>cases q0h s.1 s.2.1<;>simp[br]
end Go.G

namespace Go.G
open Go Go.V Go.Proofs
instance decCols:DecidableEq (List Col):=inferInstance
instance decIxs:DecidableEq (List qjy):=inferInstance
instance decSchema:DecidableEq qbf:=fun a b=>@instDecidableEqProd _ _ decCols (@instDecidableEqProd _ _ inferInstance (@instDecidableEqProd _ _ decIxs inferInstance)) a b
end Go.G

namespace Go.G
set_option maxRecDepth 100000
open Go Go.V Go.Proofs
abbrev vd:Value:=(0,0,ByteArray.empty,())
abbrev Row:=List Value
def qo (row:Row) (cols:List Int):Row:=(cols.filter fun c=>inR c 0 ((row.length:Int) - 1)).map fun c=>row.getD c.toNat vd
theorem qf3 (row:Row) (cols:List Int):(qo row cols).length≤cols.length:=by
 unfold qo;rw[List.length_map];exact List.length_filter_le _ _
theorem qbb5 (row:Row) (c:Int) (cols:List Int):qo row (c::cols)=if inR c 0 ((row.length:Int) - 1)=true then row.getD c.toNat vd::qo row cols else qo row cols:=by
 unfold qo
 rw[List.filter_cons]
 split<;>simp
theorem q8k {c:Int} {n:Nat} (h:inR c 0 ((n:Int) - 1)=true):0≤c∧c<n:=by
 simp only[inR,Bool.and_eq_true,decide_eq_true_eq] at h;omega
theorem q2h {X:Ext} (hX:XOk X) (N n:Nat) (hN:1≤N) (K:Row→Option ((Row×Unit)×Unit)) (row:Row) (hr:row.length≤M) (cols:List Int) (hc:cols.length≤M):∀ (m i:Nat) (acc:Row),i≤cols.length→cols.length - i<m→acc.length≤i→
  qj9 (DD X N) n K m row cols cols.length (i:Int) acc=K (acc++qo row (cols.drop i))
 | 0,_,_,_,h,_=>by omega
 | m+1,i,acc,hi,hf,ha=>by
  simp only[qj9,qw1]
  have hM:=qbo
  have hb:=qb0
  by_cases h:i<cols.length
  ·rw[qj (by exact_mod_cast h),ix h,br_t,Int.toNat_natCast,qc2 (by omega) (by omega),quz hX hN,qe,qp (by omega),qcp h,qbb5,qbh h]
   dsimp only
   by_cases hin:inR cols[i] 0 ((row.length:Int) - 1)=true
   ·obtain ⟨p1,p2⟩:=q8k hin
    rw[hin,br_t,ixn p1 p2,br_t,qj (by omega),if_pos rfl]
    refine Eq.trans (q2h hX N n hN K row hr cols hc m (i+1) _ (by omega) (by omega) (by simp;omega)) ?_
    rw[List.append_assoc];rfl
   ·rw[Bool.not_eq_true] at hin
    rw[hin,br_f,if_neg Bool.noConfusion]
    exact q2h hX N n hN K row hr cols hc m (i+1) acc (by omega) (by omega) (by omega)
  ·rw[qn (by exact_mod_cast h),qfa h]
   simp[qo]
theorem q2w {X:Ext} (hX:XOk X) (N n:Nat) (hN:1≤N) (K:Row→Option ((Row×Unit)×Unit)) (row:Row) (hr:row.length≤M) (cols:List Int) (hc:cols.length≤M):∀ (m i:Nat) (acc:Row),i≤cols.length→cols.length - i<m→acc.length≤i→
  qj3 (DD X N) n K m row cols (i:Int) acc=K (acc++qo row (cols.drop i))
 | 0,_,_,_,h,_=>by omega
 | m+1,i,acc,hi,hf,ha=>by
  simp only[qj3,qx9]
  have hM:=qbo
  have hb:=qb0
  by_cases h:i<cols.length
  ·rw[qj (by exact_mod_cast h),ix h,br_t,Int.toNat_natCast,qc2 (by omega) (by omega),qxf hX hN,qe,qp (by omega),qcp h,qbb5,qbh h]
   dsimp only
   by_cases hin:inR cols[i] 0 ((row.length:Int) - 1)=true
   ·obtain ⟨p1,p2⟩:=q8k hin
    rw[hin,br_t,br_t,ixn p1 p2,br_t,qj (by omega),if_pos rfl]
    refine Eq.trans (q2w hX N n hN K row hr cols hc m (i+1) _ (by omega) (by omega) (by simp;omega)) ?_
    rw[List.append_assoc];rfl
   ·rw[Bool.not_eq_true] at hin
    rw[hin,br_f,if_neg Bool.noConfusion]
    exact q2w hX N n hN K row hr cols hc m (i+1) acc (by omega) (by omega) (by omega)
  ·rw[qn (by exact_mod_cast h),qfa h]
   simp[qo]
theorem qp8 {X:Ext} (hX:XOk X) {n:Nat} (hn:W+1≤n) (row:Row) (hr:row.length≤M) (cols:List Int) (hc:cols.length≤M):qla (DD X n) row cols=some ((qo row cols,()),()):=by
 obtain ⟨n,rfl⟩:∃ k,n=k+1:=⟨n - 1,by omega⟩
 have hW:=qbm
 have hM:=qbo
 rw[qbla hX]
 simp only[qz1,qzf,qvw]
 refine Eq.trans (q2h hX n n (by omega) _ row hr cols hc n 0 [] (by omega) (by omega) (by simp)) ?_
 rfl
theorem qu8 {X:Ext} (hX:XOk X) {n:Nat} (hn:W+1≤n) (row:Row) (hr:row.length≤M) (cols:List Int) (hc:cols.length≤M):qlb (DD X n) row cols=some ((qo row cols,()),()):=by
 obtain ⟨n,rfl⟩:∃ k,n=k+1:=⟨n - 1,by omega⟩
 have hW:=qbm
 have hM:=qbo
 rw[qbky hX]
 simp only[qz8,qz5,qvm]
 refine Eq.trans (q2w hX n n (by omega) _ row hr cols hc n 0 [] (by omega) (by omega) (by simp)) ?_
 rfl
theorem qtp {X:Ext} (hX:XOk X) {n:Nat} (hn:W+2≤n) (s:qbf) (row:Row) (hr:row.length≤M) (hc:s.2.1.length≤M):qm7 (DD X n) s row=some ((qo row s.2.1,()),()):=by
 obtain ⟨n,rfl⟩:∃ k,n=k+1:=⟨n - 1,by omega⟩
 rw[qbjc hX]
 simp only[qw6,q6i]
 rw[qp8 hX (by omega) row hr _ hc,qe]
theorem qf8 {X:Ext} (hX:XOk X) {n:Nat} (hn:W+2≤n) (s:qbf) (row:Row) (hr:row.length≤M) (hc:s.2.1.length≤M):qd0 (DD X n) s row=some ((qo row s.2.1,()),()):=by
 obtain ⟨n,rfl⟩:∃ k,n=k+1:=⟨n - 1,by omega⟩
 rw[qbhj hX]
 simp only[qxi,q6t]
 rw[qu8 hX (by omega) row hr _ hc,qe]
def q8f (v:Value):Bool:=decide (v.2.2.1=ByteArray.mk #[])
def qd3 (v:Value):Bool:=
 bif decide (v.1=0) then decide (v.2.1=0)&&q8f v else
 bif decide (v.1=1) then inR v.2.1 0 1&&q8f v else
 bif decide (v.1=2) then inR v.2.1 (-1000000000000) 1000000000000&&q8f v else
 bif decide (v.1=3) then decide (v.2.1=0)&&decide ((v.2.2.1.size:Int)≤20) else false
theorem q97 {X:Ext} (hX:XOk X) {n:Nat} (hn:2≤n) (v:Value):qtm (DD X n) v=some ((qd3 v,()),()):=by
 obtain ⟨n,rfl⟩:∃ k,n=k+1:=⟨n - 1,by omega⟩
 rw[qblf hX]
 simp only[q0c,q8n]
 rw[quz hX (by omega),quz hX (by omega)]
 simp only[qe,qiw,qmr]
 unfold qd3 q8f
 cases decide (v.1=0)<;>cases decide (v.1=1)<;>cases decide (v.1=2)<;>cases decide (v.1=3)<;>rfl
theorem q93 {X:Ext} (hX:XOk X) {n:Nat} (hn:2≤n) (v:Value):qti (DD X n) v=some ((qd3 v,()),()):=by
 obtain ⟨n,rfl⟩:∃ k,n=k+1:=⟨n - 1,by omega⟩
 rw[qbkc hX]
 simp only[qy7,q7l]
 rw[qxf hX (by omega),qxf hX (by omega)]
 simp only[qe,qiw,qmr]
 unfold qd3 q8f
 cases decide (v.1=0)<;>cases decide (v.1=1)<;>cases decide (v.1=2)<;>cases decide (v.1=3)<;>rfl
def q5h (cs:List Col) (row:Row) (i:Nat):Bool:=!qd3 (row.getD i vd)||(!decide ((row.getD i vd).1=(cs.getD i cd).2.1)&&!(decide ((row.getD i vd).1=0)&&(cs.getD i cd).2.2.1))
def qj8 (s:qbf) (row:Row):Bool:=qg9 s&&(decide (row.length=s.1.length)&&!qt (q5h s.1 row) 0 row.length)
theorem qbdi (a b:Nat):((a:Int) != (b:Int))=!decide (a=b):=by
 by_cases h:a=b
 ·simp[h]
 ·have:¬ (a:Int)=(b:Int):=by omega
  rw[qwk,decide_eq_false this,decide_eq_false h]
theorem qbfe {X:Ext} (hX:XOk X) {n:Nat} (hn:W+6≤n) (s:qbf) (hs:SchSm s) (row:Row) (hr:row.length≤M):qwz (DD X n) s row=some ((qj8 s row,()),()):=by
 obtain ⟨n,rfl⟩:∃ k,n=k+1:=⟨n - 1,by omega⟩
 have hW:=qbm
 have hM:=qbo
 rw[qbom hX]
 simp only[q4m,q4i,qyw]
 rw[q8m hX (by omega) s hs,qe,qbdi]
 dsimp only
 unfold qj8
 cases qg9 s
 ·rfl
 ·by_cases hl:row.length=s.1.length
  ·rw[decide_eq_true hl]
   refine Eq.trans (qik (L:=fun m i=>qma (DD X n) n _ _ m row row.length (i:Int) s) (N:=row.length) (P:=q5h s.1 row)
    (A:=some ((false,()),())) (B:=some ((true,()),())) (fun m i hi=>?_) (m:=n) (by omega)) ?_
   ·simp only[qma,q2v]
    by_cases h:i<row.length
    ·rw[qj (by exact_mod_cast h),ix h,br_t,ix (i:=i) (hl ▸ h),br_t,Int.toNat_natCast,q97 hX (by omega),qe,qp (by omega),if_pos h,qwk,qiw,qiw,qbqx]
     rfl
    ·rw[qn (by exact_mod_cast h),if_neg h];rfl
   ·cases qt (q5h s.1 row) 0 row.length<;>rfl
  ·rw[decide_eq_false hl];rfl
theorem q0y {X:Ext} (hX:XOk X) {n:Nat} (hn:W+6≤n) (s:qbf) (hs:SchSm s) (row:Row) (hr:row.length≤M):qor (DD X n) s row=some ((qj8 s row,()),()):=by
 obtain ⟨n,rfl⟩:∃ k,n=k+1:=⟨n - 1,by omega⟩
 have hW:=qbm
 have hM:=qbo
 rw[qbpt hX]
 simp only[q4p,q5e,q0b]
 rw[q7g hX (by omega) s hs,qe,qbdi]
 dsimp only
 unfold qj8
 cases qg9 s
 ·rfl
 ·by_cases hl:row.length=s.1.length
  ·rw[decide_eq_true hl]
   refine Eq.trans (qik (L:=fun m i=>qmc (DD X n) n _ _ m row (i:Int) s) (N:=row.length) (P:=q5h s.1 row)
    (A:=some ((false,()),())) (B:=some ((true,()),())) (fun m i hi=>?_) (m:=n) (by omega)) ?_
   ·simp only[qmc,q2x]
    by_cases h:i<row.length
    ·rw[qj (by exact_mod_cast h),ix h,br_t,br_t,ix (i:=i) (hl ▸ h),br_t,br_t,br_t,Int.toNat_natCast,q93 hX (by omega),qe,qp (by omega),if_pos h,qwk]
     dsimp only[q5h]
     cases qd3 (row.getD i vd)
     ·rfl
     ·cases decide ((row.getD i vd).1=(s.1.getD i cd).2.1)
      ·cases (s.1.getD i cd).2.2.1
       ·cases decide ((row.getD i vd).1=0)<;>rfl
       ·cases decide ((row.getD i vd).1=0)<;>rfl
      ·rfl
    ·rw[qn (by exact_mod_cast h),if_neg h];rfl
   ·cases qt (q5h s.1 row) 0 row.length<;>rfl
  ·rw[decide_eq_false hl];rfl
theorem qbbw (a b:Value):qgg (Ty.pair (Ty.int IntKind.i64) (Ty.pair (Ty.int IntKind.i64) (Ty.pair Ty.str Ty.unit))) a b=decide (a=b):=by
 obtain ⟨a1,a2,a3,⟨⟩⟩:=a
 obtain ⟨b1,b2,b3,⟨⟩⟩:=b
 have e:∀ x y:ByteArray,(x.toList == y.toList)=decide (x=y):=fun x y=>qmr
 have e2:∀ x y:Int,(x == y)=decide (x=y):=fun x y=>by by_cases h:x=y<;>simp[h]
 simp only[qgg,e,e2]
 by_cases h1:a1=b1<;>by_cases h2:a2=b2<;>by_cases h3:a3=b3<;>simp[h1,h2,h3]
theorem qbqp (D:Den ctx) (x:Value):qbl ctx D (Clo.mk 208 []) [CapV.val (Ty.pair (Ty.int IntKind.i64) (Ty.pair (Ty.int IntKind.i64) (Ty.pair Ty.str Ty.unit))) x] Ty.bool=(q4l D x).bind fun r=>some r.1.1:=by kernel_rfl
def qtr (a:Row):Bool:=decide ((a.length:Int)≤4)&&!qt (fun i=>!qd3 (a.getD i vd)) 0 a.length
theorem qbmz {X:Ext} (hX:XOk X) {n:Nat} (hn:W+4≤n) (a:Row) (ha:a.length≤M):q0g (DD X n) a=some ((qtr a,()),()):=by
 obtain ⟨n,rfl⟩:∃ k,n=k+1:=⟨n - 1,by omega⟩
 have hM:=qbo
 have hd:=qby
 have hW:=qbm
 rw[qblb hX]
 simp only[qzc,q8l]
 unfold qtr
 by_cases h:(a.length:Int)≤4
 ·rw[qj h,decide_eq_true h,qbqd hX (n:=n) (by omega) a (by omega) _ (fun i=>!qd3 (a.getD i vd)) (fun i hi=>by
   obtain ⟨n,rfl⟩:∃ k,n=k+3:=⟨n - 3,by omega⟩
   rw[qbqp,show n+3 - 2=n+1 from rfl,qbgq hX]
   simp only[qvd,q4f]
   rw[q97 hX (by omega),qe];rfl),qe];rfl
 ·rw[qn h,decide_eq_false h];rfl
end Go.G

namespace Go.G
open Go Go.V
abbrev Cur:=List Int×Int×Int×Unit
def qco (c:Cur):Prop:=c.1.length≤1048576∧0≤c.2.1∧c.2.1≤c.1.length
theorem qbdb (x:BitVec (IntKind.bits IntKind.i64)):0≤IntKind.wrap IntKind.i64 ((BitVec.toNat (BitVec.and x (BitVec.ofInt (IntKind.bits IntKind.i64) 255)):Nat):Int)∧IntKind.wrap IntKind.i64 ((BitVec.toNat (BitVec.and x (BitVec.ofInt (IntKind.bits IntKind.i64) 255)):Nat):Int)≤255:=by
 have h:BitVec.toNat (BitVec.and x (BitVec.ofInt (IntKind.bits IntKind.i64) 255))≤255:=by
  show BitVec.toNat (x &&&BitVec.ofInt (IntKind.bits IntKind.i64) 255)≤255
  rw[BitVec.toNat_and]
  exact Nat.le_trans Nat.and_le_right (by decide)
 rw[qc2 (by omega) (by omega)]
 omega
theorem q4a {X:Ext} (hX:XOk X) {n:Nat} (hn:1≤n) {c:Cur} (hc:qco c):∃ (x:Int) (c':Cur),0≤x∧x≤255∧qco c'∧qkh (DD X n) c=some ((x,()),(c',())):=by
 obtain ⟨n,rfl⟩:∃ k,n=k+1:=⟨n - 1,by omega⟩
 obtain ⟨h1,h2,h3⟩:=hc
 rw[qbmu hX]
 simp only[q1y,qbac]
 by_cases h:c.2.1<(c.1.length:Int)
 ·rw[qj h,ixn h2 h,br_t,qc2 (x:=c.2.1+1) (by omega) (by omega)]
  refine ⟨_,(c.1,c.2.1+1,_,()),(qbdb _).1,(qbdb _).2,⟨h1,?_,?_⟩,rfl⟩
  ·show 0≤c.2.1+1;omega
  ·show c.2.1+1≤(c.1.length:Int);omega
 ·rw[qn h]
  have k:∀ h u,qco (c.1,c.2.1,h,u):=fun _ _=>⟨h1,h2,h3⟩
  exact ⟨_,_,(qbdb _).1,(qbdb _).2,k _ _,rfl⟩
theorem qdn {X:Ext} (hX:XOk X) {n:Nat} (hn:2≤n) {c:Cur} (hc:qco c) (k:Int):∃ (x:Int) (c':Cur),(0<k→0≤x∧x<k)∧(k≤0→x=0)∧qco c'∧qbj (DD X n) c k=some ((x,()),(c',())):=by
 obtain ⟨n,rfl⟩:∃ k,n=k+1:=⟨n - 1,by omega⟩
 rw[qbku hX]
 simp only[q0f,q7z]
 by_cases h:k≤0
 ·rw[qj h]
  exact ⟨0,c,fun h2=>by omega,fun _=>rfl,hc,rfl⟩
 ·rw[qn h]
  by_cases h2:k≤256
  ·obtain ⟨x,c',x0,x1,hc',e⟩:=q4a hX (n:=n) (by omega) hc
   rw[qj h2,e,qe]
   dsimp only
   rw[qn (by omega)]
   refine ⟨_,_,fun _=>?_,fun h3=>by omega,hc',rfl⟩
   rw[Int.tmod_eq_emod_of_nonneg x0]
   exact ⟨Int.emod_nonneg _ (by omega),Int.emod_lt_of_pos _ (by omega)⟩
  ·obtain ⟨x,c1,x0,x1,hc1,e1⟩:=q4a hX (n:=n) (by omega) hc
   obtain ⟨y,c2,y0,y1,hc2,e2⟩:=q4a hX (n:=n) (by omega) hc1
   obtain ⟨z,c3,z0,z1,hc3,e3⟩:=q4a hX (n:=n) (by omega) hc2
   obtain ⟨w,c4,w0,w1,hc4,e4⟩:=q4a hX (n:=n) (by omega) hc3
   rw[qn h2,e1,qe]
   dsimp only
   rw[e2,qe]
   dsimp only
   rw[e3,qe]
   dsimp only
   rw[e4,qe]
   dsimp only
   rw[qn (by omega),qc2 (x:=x * 16777216) (by omega) (by omega),qc2 (x:=y * 65536) (by omega) (by omega),qc2 (x:=x * 16777216+y * 65536) (by omega) (by omega),
    qc2 (x:=z * 256) (by omega) (by omega),qc2 (x:=x * 16777216+y * 65536+z * 256) (by omega) (by omega),qc2 (x:=x * 16777216+y * 65536+z * 256+w) (by omega) (by omega)]
   refine ⟨_,_,fun _=>?_,fun h3=>by omega,hc4,rfl⟩
   rw[Int.tmod_eq_emod_of_nonneg (by omega)]
   exact ⟨Int.emod_nonneg _ (by omega),Int.emod_lt_of_pos _ (by omega)⟩
theorem qta {X:Ext} (hX:XOk X) {n:Nat} (hn:3≤n) {c:Cur} (hc:qco c) (k:Int):∃ (b:Bool) (c':Cur),qco c'∧qf2 (DD X n) c k=some ((b,()),(c',())):=by
 obtain ⟨n,rfl⟩:∃ k,n=k+1:=⟨n - 1,by omega⟩
 rw[qbnd hX]
 simp only[q2r,q90]
 obtain ⟨x,c',_,_,hc',e⟩:=qdn hX (n:=n) (by omega) hc k
 rw[e,qe]
 exact ⟨_,_,hc',rfl⟩
theorem qbfp {X:Ext} (hX:XOk X) {n:Nat} (hn:3≤n) {c:Cur} (hc:qco c) (l:List ByteArray) (hl:0<l.length):∃ (x:ByteArray) (c':Cur),x∈l∧qco c'∧qqb (DD X n) c l=some ((x,()),(c',())):=by
 obtain ⟨n,rfl⟩:∃ k,n=k+1:=⟨n - 1,by omega⟩
 rw[qbnk hX]
 simp only[q17,q96]
 obtain ⟨x,c',h1,_,hc',e⟩:=qdn hX (n:=n) (by omega) hc (l.length:Int)
 obtain ⟨x0,x1⟩:=h1 (by omega)
 rw[e,qe]
 dsimp only
 rw[ixn x0 x1,br_t,qbh (by omega)]
 exact ⟨_,_,List.getElem_mem _,hc',rfl⟩
theorem qbq3 (D:Den ctx) (n:Nat) {K0:List Int→Int→Option ((Cur×Unit)×Unit)} (a:List Int) (ha:a.length≤1048576):∀ (m i:Nat) (h:Int),i≤a.length→a.length - i<m→∃ h':Int,ql4 D n K0 m a h i=K0 a h'
 | 0,_,_,_,h=>by omega
 | m+1,i,h,hi,hf=>by
  simp only[ql4,q16]
  by_cases h1:i<a.length
  ·by_cases h2:(i:Int)<4000
   ·rw[decide_eq_true (by omega:(i:Int)<(a.length:Int)),cond_true,qj h2,decide_eq_true (by omega:(0:Int)≤(i:Int)),Bool.and_self,br_t,qp (by omega)]
    exact qbq3 D n a ha m (i+1) _ (by omega) (by omega)
   ·rw[decide_eq_true (by omega:(i:Int)<(a.length:Int)),cond_true,qn h2]
    exact ⟨h,rfl⟩
  ·rw[decide_eq_false (by omega:¬ (i:Int)<(a.length:Int)),cond_false,br_f]
   exact ⟨h,rfl⟩
theorem q7k {X:Ext} (hX:XOk X) {n:Nat} (hn:W+1≤n) (a:List Int) (ha:a.length≤1048576):∃ c:Cur,qco c∧qlk (DD X n) a=some ((c,()),()):=by
 obtain ⟨n,rfl⟩:∃ k,n=k+1:=⟨n - 1,by omega⟩
 have hW:=qbm
 rw[qbou hX]
 simp only[q4b,q4v,qzz]
 obtain ⟨h',e⟩:=qbq3 (DD X n) n (K0:=fun v w=>qxn (DD X n) n v w) a ha n 0 (IntKind.wrap IntKind.i64 (27323+(a.length:Int))) (by omega) (by omega)
 rw[show ((0:Nat):Int)=0 from rfl] at e
 exact ⟨(a,0,h',()),⟨ha,by show (0:Int)≤0;omega,by show (0:Int)≤(a.length:Int);omega⟩,e⟩
theorem qbx1 {X:Ext} (hX:XOk X) {n:Nat} (hn:1≤n) (a:List Int):q9s (DD X n) a=some ((decide ((a.length:Int)>1048576),()),()):=by
 obtain ⟨n,rfl⟩:∃ k,n=k+1:=⟨n - 1,by omega⟩
 rw[qbri hX];rfl
end Go.G

namespace Go.G
set_option maxRecDepth 100000
open Go Go.V Go.Proofs
theorem q6x {X:Ext} (hX:XOk X) {n:Nat} (hn:3≤n) {c:Cur} (hc:qco c) (l:List Int) (hl:0<l.length):∃ (x:Int) (c':Cur),x∈l∧qco c'∧qll (DD X n) c l=some ((x,()),(c',())):=by
 obtain ⟨n,rfl⟩:∃ k,n=k+1:=⟨n - 1,by omega⟩
 rw[qbga hX]
 simp only[qvv,q4q]
 obtain ⟨x,c',h1,h2,h3,e⟩:=qdn hX (n:=n) (by omega) hc l.length
 obtain ⟨h4,h5⟩:=h1 (by omega)
 rw[e,qe]
 dsimp only
 rw[ixn h4 h5,br_t]
 exact ⟨_,c',qbx (by omega),h3,rfl⟩
theorem qbe8 {X:Ext} (hX:XOk X) {n:Nat} (hn:4≤n) {c:Cur} (hc:qco c) (k:Int):∃ (v:Value) (c':Cur),v.2.2.1.size≤3∧qco c'∧qpg (DD X n) c k=some ((v,()),(c',())):=by
 obtain ⟨n,rfl⟩:∃ k,n=k+1:=⟨n - 1,by omega⟩
 rw[qbf8 hX]
 simp only[qwb,q4r]
 by_cases h1:k=1
 ·rw[qj h1]
  obtain ⟨x,c',_,_,h3,e⟩:=qdn hX (n:=n) (by omega) hc 2
  rw[e,qe]
  exact ⟨_,c',Nat.zero_le _,h3,rfl⟩
 ·rw[qn h1]
  by_cases h2:k=2
  ·rw[qj h2]
   obtain ⟨x,c',_,h3,e⟩:=q6x hX (n:=n) (by omega) hc [0,1,-1,7,255,256,-1000000000000,1000000000000] (by decide)
   rw[e,qe]
   exact ⟨_,c',Nat.zero_le _,h3,rfl⟩
  ·rw[qn h2]
   by_cases h4:k=3
   ·rw[qj h4]
    obtain ⟨x,c',hx,h3,e⟩:=qbfp hX (n:=n) (by omega) hc [ByteArray.mk #[],ByteArray.mk #[UInt8.ofNat 97],ByteArray.mk #[UInt8.ofNat 97,UInt8.ofNat 98],ByteArray.mk #[UInt8.ofNat 97,UInt8.ofNat 0],ByteArray.mk #[UInt8.ofNat 97,UInt8.ofNat 0,UInt8.ofNat 98],ByteArray.mk #[UInt8.ofNat 0],ByteArray.mk #[UInt8.ofNat 1],ByteArray.mk #[UInt8.ofNat 255],ByteArray.mk #[UInt8.ofNat 98]] (by decide)
    have hs:∀ y∈[ByteArray.mk #[],ByteArray.mk #[UInt8.ofNat 97],ByteArray.mk #[UInt8.ofNat 97,UInt8.ofNat 98],ByteArray.mk #[UInt8.ofNat 97,UInt8.ofNat 0],ByteArray.mk #[UInt8.ofNat 97,UInt8.ofNat 0,UInt8.ofNat 98],ByteArray.mk #[UInt8.ofNat 0],ByteArray.mk #[UInt8.ofNat 1],ByteArray.mk #[UInt8.ofNat 255],ByteArray.mk #[UInt8.ofNat 98]],y.size≤3:=by decide +kernel
    refine ⟨(k,0,x,()),c',hs x hx,h3,?_⟩
    refine Eq.trans (congrArg (fun z=>qh z _) e) ?_
    rw[qe]
   ·rw[qn h4]
    exact ⟨_,c,Nat.zero_le _,hc,rfl⟩
structure DrawnS (s:qbf):Prop where
 lo:2≤s.1.length
 hi:s.1.length≤4
 names:∀ c∈s.1,c.1.size≤13
 key:s.2.1.length≤2
 ixs:s.2.2.1.length≤3
 ixn:∀ x∈s.2.2.1,x.1.size≤1
 ixc:∀ x∈s.2.2.1,x.2.1.length≤2
theorem DrawnS.sm {s:qbf} (h:DrawnS s):SchSm s:=by
 have hM:=qbo
 obtain ⟨a,b,c,d,e,f,g⟩:=h
 exact ⟨by omega,fun x hx=>by have:=c x hx;omega,by omega,by omega,fun x hx=>by have:=f x hx;omega,fun x hx=>by have:=g x hx;omega⟩
def qjt:List ByteArray:=[ByteArray.mk #[UInt8.ofNat 105,UInt8.ofNat 100],ByteArray.mk #[UInt8.ofNat 110,UInt8.ofNat 97,UInt8.ofNat 109,UInt8.ofNat 101],
    ByteArray.mk #[UInt8.ofNat 115,UInt8.ofNat 105,UInt8.ofNat 122,UInt8.ofNat 101],ByteArray.mk #[UInt8.ofNat 111,UInt8.ofNat 110]]
theorem qblh:∀ x∈qjt,x.size≤4:=by decide +kernel
theorem qbm1:qjt.length=4:=rfl
theorem qblp {α:Type} (l:List α) (x d:α) (j:Nat) (hj:j<(l++[x]).length):(l++[x]).getD j d=if j<l.length then l.getD j d else x:=by
 simp only[List.getD]
 by_cases h:j<l.length
 ·rw[if_pos h,List.getElem?_append_left h]
 ·rw[List.length_append] at hj
  simp only[List.length_cons,List.length_nil] at hj
  have:j=l.length:=by omega
  subst this
  rw[if_neg h,List.getElem?_append_right (Nat.le_refl _),Nat.sub_self];rfl
def q3r (cs:List Col):Prop:=∀ j,j<cs.length→(cs.getD j cd).1=qjt.getD j ByteArray.empty∧inR (cs.getD j cd).2.1 1 3=true∧(j=0→(cs.getD j cd).2.2.1=false)
theorem q3r.push {cs:List Col} (h:q3r cs) {x:Col} (h1:x.1=qjt.getD cs.length ByteArray.empty) (h2:inR x.2.1 1 3=true) (h3:cs.length=0→x.2.2.1=false):q3r (cs++[x]):=by
 intro j hj
 rw[qblp _ _ _ _ hj]
 by_cases hl:j<cs.length
 ·rw[if_pos hl];exact h j hl
 ·rw[if_neg hl]
  rw[List.length_append] at hj
  simp only[List.length_cons,List.length_nil] at hj
  have:j=cs.length:=by omega
  subst this
  exact ⟨h1,h2,h3⟩
theorem q3r.set0 {cs:List Col} (h:q3r cs) (h0:0<cs.length) {k:Int} (hk:inR k 1 3=true):q3r (cs.set 0 ((cs.getD 0 cd).1,k,(cs.getD 0 cd).2.2)):=by
 intro j hj
 rw[List.length_set] at hj
 have hg:(cs.set 0 ((cs.getD 0 cd).1,k,(cs.getD 0 cd).2.2)).getD j cd=if j=0 then ((cs.getD 0 cd).1,k,(cs.getD 0 cd).2.2) else cs.getD j cd:=by
  by_cases e:j=0
  ·subst e
   rw[if_pos rfl,qbh (by rw[List.length_set];exact hj),List.getElem_set_self]
  ·rw[if_neg e]
   simp only[List.getD,List.getElem?_set]
   rw[if_neg (fun k=>e k.symm)]
 rw[hg]
 obtain ⟨a,b,c⟩:=h j hj
 by_cases e:j=0
 ·subst e
  rw[if_pos rfl];exact ⟨a,hk,c⟩
 ·rw[if_neg e];exact ⟨a,b,c⟩
theorem qbpv {x:Int} (h0:0≤x) (h:x<3):inR (IntKind.wrap IntKind.i64 (1+x)) 1 3=true:=by
 rw[qc2 (by omega) (by omega)]
 unfold inR
 rw[decide_eq_true (by omega),decide_eq_true (by omega)];rfl
theorem qbo4:∀ j,j<4→qqg (qjt.getD j ByteArray.empty)=true:=by decide +kernel
theorem qbms:∀ j,j<4→∀ k,k<4→qjt.getD j ByteArray.empty=qjt.getD k ByteArray.empty→j=k:=by decide +kernel
theorem q5g {X:Ext} (hX:XOk X) (N n:Nat) (hN:3≤N) (K:Int→Cur→qbf→qbf→Option ((qbf×Unit)×Cur×Unit)) (nn:Nat) (hnn:nn≤4) (z:qbf) (xs:List qjy):∀ (m i:Nat) (c:Cur) (acc:List Col),i≤nn→nn - i<m→acc.length=i→(∀ x∈acc,x.1.size≤4)→q3r acc→qco c→
  ∃ (c':Cur) (cs:List Col),qco c'∧cs.length=nn∧(∀ x∈cs,x.1.size≤4)∧q3r cs∧qf9 (DD X N) n K m (nn:Int) (i:Int) c z (acc,[],xs,()) qjt=K (nn:Int) c' z (cs,[],xs,())
 | 0,_,_,_,_,h,_,_,_,_=>by omega
 | m+1,i,c,acc,hi,hf,ha,hs,hR,hc=>by
  simp only[qf9,qo9]
  have hb:=qb0
  by_cases h:i<nn
  ·have hi4:i<qjt.length:=by rw[qbm1];omega
   have hname:=qblh _ (qbx (d:=ByteArray.empty) hi4)
   rw[qj (by exact_mod_cast h),ix hi4,br_t,Int.toNat_natCast,qp (by omega)]
   obtain ⟨x,c1,hx,_,h1,e1⟩:=qdn hX (n:=N) (by omega) hc 3
   obtain ⟨x0,x3⟩:=hx (by omega)
   rw[e1,qe]
   dsimp only
   by_cases h0:(i:Int)>0
   ·rw[qj h0]
    obtain ⟨b,c2,h2,e2⟩:=qta hX (n:=N) (by omega) h1 2
    rw[e2,qe]
    dsimp only
    rw[qj (by omega)]
    exact q5g hX N n hN K nn hnn z xs m (i+1) c2 (acc++[(qjt.getD i ByteArray.empty,_,b,())]) (by omega) (by omega) (by simp;omega)
     (fun y hy=>by rcases List.mem_append.1 hy with hy | hy;exact hs y hy;simp only[List.mem_singleton] at hy;subst hy;exact hname) (hR.push (by rw[ha]) (qbpv x0 x3) (fun e=>by omega)) h2
   ·rw[qn h0,qj (by omega)]
    exact q5g hX N n hN K nn hnn z xs m (i+1) c1 (acc++[(qjt.getD i ByteArray.empty,_,false,())]) (by omega) (by omega) (by simp;omega)
     (fun y hy=>by rcases List.mem_append.1 hy with hy | hy;exact hs y hy;simp only[List.mem_singleton] at hy;subst hy;exact hname) (hR.push (by rw[ha]) (qbpv x0 x3) (fun _=>rfl)) h1
  ·rw[qn (by exact_mod_cast h)]
   exact ⟨c,acc,hc,by omega,hs,hR,rfl⟩
def qkt:List ByteArray:=[ByteArray.mk #[UInt8.ofNat 120],ByteArray.mk #[UInt8.ofNat 121],ByteArray.mk #[UInt8.ofNat 122]]
theorem qbid:∀ x∈qkt,x.size≤1:=by decide +kernel
def IxsR (nn:Nat) (xs:List qjy):Prop:=∀ j,j<xs.length→(xs.getD j xd).1=qkt.getD j ByteArray.empty∧qct nn (xs.getD j xd).2.1 3=true
theorem IxsR.push {nn:Nat} {xs:List qjy} (h:IxsR nn xs) {x:qjy} (h1:x.1=qkt.getD xs.length ByteArray.empty) (h2:qct nn x.2.1 3=true):IxsR nn (xs++[x]):=by
 intro j hj
 rw[qblp _ _ _ _ hj]
 by_cases hl:j<xs.length
 ·rw[if_pos hl];exact h j hl
 ·rw[if_neg hl]
  rw[List.length_append] at hj
  simp only[List.length_cons,List.length_nil] at hj
  have:j=xs.length:=by omega
  subst this
  exact ⟨h1,h2⟩
theorem qbtg {nn:Nat} {a:Int} (h0:0≤a) (h:a<nn):qct nn [a] 3=true:=by
 have e:inR a 0 ((nn:Int) - 1)=true:=by unfold inR;rw[decide_eq_true (by omega),decide_eq_true (by omega)];rfl
 simp only[qct,qt,has,List.length_cons,List.length_nil,List.getD_cons_zero,e,List.take]
 rfl
theorem qblx {nn:Nat} {a b:Int} (h0:0≤a) (h:a<nn) (h1:0≤b) (h2:b<nn) (h3:b≠a):qct nn [a,b] 3=true:=by
 have e:inR a 0 ((nn:Int) - 1)=true:=by unfold inR;rw[decide_eq_true (by omega),decide_eq_true (by omega)];rfl
 have e2:inR b 0 ((nn:Int) - 1)=true:=by unfold inR;rw[decide_eq_true (by omega),decide_eq_true (by omega)];rfl
 simp only[qct,qt,has,List.length_cons,List.length_nil,List.getD_cons_zero,List.getD_cons_succ,e,e2,List.take,Bool.not_true,Bool.false_or,Bool.or_false]
 rw[decide_eq_false h3]
 rfl
theorem qbui {nn:Nat} {y:Int} (hn:nn≤4) (h0:0≤y) (h:y<(nn:Int) - 1):qct nn [IntKind.wrap IntKind.i64 (1+y)] 3=true:=by
 rw[qc2 (by omega) (by omega)]
 exact qbtg (by omega) (by omega)
theorem qbul {nn:Nat} {y:Int} (hn:nn≤4) (h0:0≤y) (h:y<(nn:Int) - 1):qct nn [IntKind.wrap IntKind.i64 (1+y),Int.tmod (IntKind.wrap IntKind.i64 (IntKind.wrap IntKind.i64 (1+y)+1)) (nn:Int)] 3=true:=by
 rw[qc2 (show -9223372036854775808≤1+y by omega) (by omega),qc2 (by omega) (by omega)]
 by_cases e:1+y+1=nn
 ·rw[e,Int.tmod_self]
  exact qblx (by omega) (by omega) (by omega) (by omega) (by omega)
 ·rw[Int.tmod_eq_of_lt (by omega) (by omega)]
  exact qblx (by omega) (by omega) (by omega) (by omega) (by omega)
theorem qbnm:∀ j,j<3→qqg (qkt.getD j ByteArray.empty)=true:=by decide +kernel
theorem qbj7:∀ j,j<3→∀ k,k<3→qkt.getD j ByteArray.empty=qkt.getD k ByteArray.empty→j=k:=by decide +kernel
theorem qbrl {cs:List Col} {xs:List qjy} (hc:q3r cs) (h2:2≤cs.length) (h4:cs.length≤4) (hx:IxsR cs.length xs) (hl:xs.length≤2):qg9 (cs,[0],xs,())=true:=by
 have a1:qt (qxc cs) 0 cs.length=false:=qbn.2 fun j _ hj=>by
  have hj:j<cs.length:=by omega
  obtain ⟨n1,n2,n3⟩:=hc j hj
  have hcol:qbdj cs (cs.getD j cd).1=(j:Int):=by
   unfold qbdj
   cases hf:qx (fun i=>decide ((cs.getD i cd).1=(cs.getD j cd).1)) 0 cs.length with
   | none=>
    have:=qk8 hf j (Nat.zero_le _) (by omega)
    rw[decide_eq_true rfl] at this;cases this
   | some k=>
    obtain ⟨_,k2,k3,_⟩:=qc9 hf
    have hk:k<cs.length:=by omega
    simp only[decide_eq_true_eq] at k3
    rw[(hc k hk).1,n1] at k3
    have:=qbms k (by omega) j (by omega) k3
    rw[this]
  simp only[qxc]
  rw[n1,qbo4 j (by omega),n2,←n1,hcol,decide_eq_true rfl];rfl
 have a2:qt (qr1 cs.length xs) 0 xs.length=false:=qbn.2 fun j _ hj=>by
  have hj:j<xs.length:=by omega
  obtain ⟨n1,n2⟩:=hx j hj
  have a3:qt (fun k=>decide ((xs.getD k xd).1=(xs.getD j xd).1)) 0 j=false:=qbn.2 fun k _ hk=>by
   have hk:k<j:=by omega
   refine decide_eq_false fun e=>?_
   rw[(hx k (by omega)).1,n1] at e
   have:=qbj7 k (by omega) j (by omega) e
   omega
  simp only[qr1]
  rw[a3,n1,qbnm j (by omega),n2];rfl
 have a3:qct cs.length [0] 4=true:=by
  have e:inR 0 0 ((cs.length:Int) - 1)=true:=by unfold inR;rw[decide_eq_true (by omega),decide_eq_true (by omega)];rfl
  simp only[qct,qt,has,List.length_cons,List.length_nil,List.getD_cons_zero,e,List.take]
  rfl
 have a4:q0h cs [0]=false:=by
  have:=(hc 0 (by omega)).2.2 rfl
  show ((cs.getD 0 cd).2.2.1||false)=false
  rw[this];rfl
 have a5:inR (cs.length:Int) 1 5=true:=by unfold inR;rw[decide_eq_true (by omega),decide_eq_true (by omega)];rfl
 unfold qg9
 dsimp only
 rw[a1,a2,a3,a4,a5,decide_eq_true (by omega)];rfl
theorem q5o {X:Ext} (hX:XOk X) (N n:Nat) (hN:3≤N) (K:Cur→qbf→qbf→Option ((qbf×Unit)×Cur×Unit)) (nn:Nat) (hn0:2≤nn) (hnn:nn≤4) (z:qbf) (cs:List Col) (key:List Int):∀ (m i:Nat) (c:Cur) (acc:List qjy),3 - i<m→i≤2→acc.length=i→(∀ x∈acc,x.1.size≤1∧x.2.1.length≤2)→IxsR nn acc→qco c→
  ∃ (c':Cur) (xs:List qjy),qco c'∧xs.length≤2∧(∀ x∈xs,x.1.size≤1∧x.2.1.length≤2)∧IxsR nn xs∧qga (DD X N) n K m (nn:Int) (i:Int) c z (cs,key,acc,())=K c' z (cs,key,xs,())
 | 0,_,_,_,h,_,_,_,_,_=>by omega
 | m+1,i,c,acc,hf,hi,ha,hs,hR,hc=>by
  simp only[qga,qpl]
  have hb:=qb0
  obtain ⟨x,c1,hx,_,h1,e1⟩:=qdn hX (n:=N) (by omega) hc 3
  obtain ⟨x1,x2⟩:=hx (by omega)
  rw[e1,qe]
  dsimp only
  by_cases h:(i:Int)<x
  ·have hi3:i<qkt.length:=by show i<3;omega
   have hname:=qbid _ (qbx (d:=ByteArray.empty) hi3)
   have hc3:(decide ((0:Int)≤(i:Int))&&decide ((i:Int)<3))=true:=by rw[decide_eq_true (by omega),decide_eq_true (by omega)];rfl
   rw[qj h]
   obtain ⟨y,c2,hy,_,h2,e2⟩:=qdn hX (n:=N) (by omega) h1 (IntKind.wrap IntKind.i64 ((nn:Int) - 1))
   rw[qc2 (by omega) (by omega)] at hy
   obtain ⟨y0,y1⟩:=hy (by omega)
   obtain ⟨b,c3,h3,e3⟩:=qta hX (n:=N) (by omega) h2 2
   obtain ⟨b2,c4,h4,e4⟩:=qta hX (n:=N) (by omega) h3 2
   rw[e2,qe]
   dsimp only
   rw[hc3,br_t,e3,qe]
   dsimp only
   rw[e4,qe,qp (by omega),Int.toNat_natCast]
   dsimp only
   cases b2
   ·rw[br_f,qj (by omega)]
    exact q5o hX N n hN K nn hn0 hnn z cs key m (i+1) c4 (acc++[(qkt.getD i ByteArray.empty,_,b,())]) (by omega) (by omega) (by simp;omega)
     (fun y hy=>by rcases List.mem_append.1 hy with hy | hy;exact hs y hy;simp only[List.mem_singleton] at hy;subst hy;exact ⟨hname,by simp⟩) (hR.push (by rw[ha]) (qbui hnn y0 y1)) h4
   ·rw[br_t,qn (by omega),qj (by omega)]
    exact q5o hX N n hN K nn hn0 hnn z cs key m (i+1) c4 (acc++[(qkt.getD i ByteArray.empty,_,b,())]) (by omega) (by omega) (by simp;omega)
     (fun y hy=>by rcases List.mem_append.1 hy with hy | hy;exact hs y hy;simp only[List.mem_singleton] at hy;subst hy;exact ⟨hname,by simp⟩) (hR.push (by rw[ha]) (qbul hnn y0 y1)) h4
  ·rw[qn h]
   exact ⟨c1,acc,h1,by omega,hs,hR,rfl⟩
theorem qbns {l:List Col} {i k:Nat} {x:Col} (h:∀ y∈l,y.1.size≤k) (hx:x.1.size≤k):∀ y∈l.set i x,y.1.size≤k:=by
 intro y hy
 rcases List.mem_or_eq_of_mem_set hy with hy | rfl
 ·exact h y hy
 ·exact hx
theorem q8g {X:Ext} (hX:XOk X) {n:Nat} (hn:W+4≤n) {c:Cur} (hc:qco c):∃ (s:qbf) (c':Cur),DrawnS s∧qg9 s=true∧s.2.1.length≤1∧s.2.2.1.length≤2∧qco c'∧qls (DD X n) c=some ((s,()),(c',())):=by
 obtain ⟨n,rfl⟩:∃ k,n=k+1:=⟨n - 1,by omega⟩
 have hW:=qbm
 rw[qbak hX]
 simp only[qq6,qrj,qos]
 obtain ⟨x,c1,hx,_,h1,e1⟩:=qdn hX (n:=n) (by omega) hc 3
 obtain ⟨x1,x2⟩:=hx (by omega)
 rw[e1,qe]
 dsimp only
 rw[qc2 (by omega) (by omega)]
 obtain ⟨nn,hnn⟩:∃ nn:Nat,(nn:Int)=2+x:=⟨(2+x).toNat,by omega⟩
 rw[←hnn]
 obtain ⟨c2,cs,h2,hl,hs,hR,e2⟩:=q5g hX n n (by omega) (fun v0_0 v0_1 v0_2 v0_3=>qji (DD X n) n (qjx (DD X n) n) v0_0 v0_1 v0_2 v0_3) nn (by omega) ([],[],[],()) [] n 0 c1 [] (by omega) (by omega) rfl (fun x hx=>by simp at hx) (fun j hj=>by simp at hj) h1
 obtain ⟨c3,xs,h3,hxl,hxs,hI,e3⟩:=q5o hX n n (by omega) (fun v0_0 v0_1 v0_2=>qjn (DD X n) n v0_0 v0_1 v0_2) nn (by omega) (by omega) ([],[],[],()) cs [0] n 0 c2 [] (by omega) (by omega) rfl (fun x hx=>by simp at hx) (fun j hj=>by simp at hj) h2
 obtain ⟨y,c4,hy,h4,e4⟩:=q6x hX (n:=n) (by omega) h3 [2,3] (by decide)
 have hc0:(decide ((0:Nat)≤0)&&decide ((0:Int)<(cs.length:Int)))=true:=by rw[decide_eq_true (by omega),decide_eq_true (by omega)];rfl
 refine ⟨(cs.set 0 ((cs.getD 0 cd).1,y,(cs.getD 0 cd).2.2),[0],xs,()),c4,⟨by simp;omega,by simp;omega,?_,by simp,by simp only;omega,fun x hx=>(hxs x hx).1,fun x hx=>(hxs x hx).2⟩,?_,by simp,by simpa using hxl,h4,?_⟩
 ·have h0:=hs _ (qbx (d:=cd) (show 0<cs.length by omega))
  intro z hz
  have:=qbns (i:=0) (x:=((cs.getD 0 cd).1,y,(cs.getD 0 cd).2.2)) hs h0 z hz
  omega
 ·have hk:inR y 1 3=true:=by
   simp only[List.mem_cons,List.not_mem_nil,or_false] at hy
   rcases hy with rfl | rfl<;>rfl
  have hR2:=hR.set0 (by omega) hk
  exact qbrl hR2 (by rw[List.length_set];omega) (by rw[List.length_set];omega) (by rw[List.length_set,hl];exact hI) hxl
 ·refine Eq.trans e2 ?_
  simp only[qji,qjx]
  refine Eq.trans e3 ?_
  simp only[qjn]
  rw[e4,qe]
  dsimp only
  rw[hc0,br_t]
theorem DrawnS.setCol {s:qbf} (h:DrawnS s) (i:Nat) {x:Col} (hx:x.1.size≤13):DrawnS (s.1.set i x,s.2.1,s.2.2.1,()):=
 ⟨by rw[List.length_set];exact h.lo,by rw[List.length_set];exact h.hi,qbns h.names hx,h.key,h.ixs,h.ixn,h.ixc⟩
theorem DrawnS.addKey {s:qbf} (h:DrawnS s) (hk:s.2.1.length≤1) (k:Int):DrawnS (s.1,s.2.1++[k],s.2.2.1,()):=
 ⟨h.lo,h.hi,h.names,by rw[List.length_append];exact Nat.add_le_add_right hk 1,h.ixs,h.ixn,h.ixc⟩
theorem DrawnS.addIx {s:qbf} (h:DrawnS s) (hk:s.2.2.1.length≤2) {x:qjy} (h1:x.1.size≤1) (h2:x.2.1.length≤2):DrawnS (s.1,s.2.1,s.2.2.1++[x],()):=
 ⟨h.lo,h.hi,h.names,h.key,by rw[List.length_append];exact Nat.add_le_add_right hk 1,
  fun z hz=>by rcases List.mem_append.1 hz with hz | hz;exact h.ixn z hz;simp only[List.mem_singleton] at hz;subst hz;exact h1,
  fun z hz=>by rcases List.mem_append.1 hz with hz | hz;exact h.ixc z hz;simp only[List.mem_singleton] at hz;subst hz;exact h2⟩
theorem qbt7 {X:Ext} (hX:XOk X) {n:Nat} (hn:W+5≤n) {c:Cur} (hc:qco c):∃ (s:qbf) (c':Cur),DrawnS s∧qco c'∧qzy (DD X n) c=some ((s,()),(c',())):=by
 obtain ⟨n,rfl⟩:∃ k,n=k+1:=⟨n - 1,by omega⟩
 have hb:=qb0
 rw[qbjv hX]
 simp only[qz2,q74]
 obtain ⟨s,c1,hs,_,hk,hx,h1,e1⟩:=q8g hX (n:=n) (by omega) hc
 obtain ⟨x,c2,_,_,h2,e2⟩:=qdn hX (n:=n) (by omega) h1 12
 have l0:=hs.lo
 have hc1:(decide ((0:Nat)≤1)&&decide ((1:Int)<(s.1.length:Int)))=true:=by rw[decide_eq_true (by omega),decide_eq_true (by omega)];rfl
 have hc0:(decide ((0:Nat)≤0)&&decide ((0:Int)<(s.1.length:Int)))=true:=by rw[decide_eq_true (by omega),decide_eq_true (by omega)];rfl
 rw[e1,qe]
 dsimp only
 rw[e2,qe]
 dsimp only
 by_cases k0:x=0
 ·rw[qj k0]
  obtain ⟨y,c3,hy,h3,e3⟩:=qbfp hX (n:=n) (by omega) h2 [ByteArray.mk #[],ByteArray.mk #[UInt8.ofNat 105,UInt8.ofNat 100],ByteArray.mk #[UInt8.ofNat 65],
       ByteArray.mk
        #[UInt8.ofNat 97,UInt8.ofNat 98,UInt8.ofNat 99,UInt8.ofNat 100,UInt8.ofNat 101,UInt8.ofNat 102,UInt8.ofNat 103,UInt8.ofNat 104,
         UInt8.ofNat 105,UInt8.ofNat 106,UInt8.ofNat 107,UInt8.ofNat 108,UInt8.ofNat 109]] (by decide)
  have hsz:∀ y∈[ByteArray.mk #[],ByteArray.mk #[UInt8.ofNat 105,UInt8.ofNat 100],ByteArray.mk #[UInt8.ofNat 65],
       ByteArray.mk
        #[UInt8.ofNat 97,UInt8.ofNat 98,UInt8.ofNat 99,UInt8.ofNat 100,UInt8.ofNat 101,UInt8.ofNat 102,UInt8.ofNat 103,UInt8.ofNat 104,
         UInt8.ofNat 105,UInt8.ofNat 106,UInt8.ofNat 107,UInt8.ofNat 108,UInt8.ofNat 109]],y.size≤13:=by decide +kernel
  rw[e3,qe,hc1,br_t]
  exact ⟨_,c3,hs.setCol 1 (x:=(y,(s.1.getD 1 cd).2)) (hsz y hy),h3,rfl⟩
 ·rw[qn k0]
  by_cases k1:x=1
  ·rw[qj k1]
   obtain ⟨y,c3,hy,h3,e3⟩:=q6x hX (n:=n) (by omega) h2 [0,3,4] (by decide)
   rw[e3,qe,hc1,br_t]
   exact ⟨_,c3,hs.setCol 1 (x:=((s.1.getD 1 cd).1,y,(s.1.getD 1 cd).2.2)) (hs.names (s.1.getD 1 cd) (qbx (by omega))),h3,rfl⟩
  ·rw[qn k1]
   by_cases k2:x=2
   ·rw[qj k2]
    obtain ⟨y,c3,_,_,h3,e3⟩:=qdn hX (n:=n) (by omega) h2 6
    rw[e3,qe,qj (by omega)]
    exact ⟨_,c3,hs.addKey hk _,h3,rfl⟩
   ·rw[qn k2]
    by_cases k3:x=3
    ·rw[qj k3,hc0,br_t]
     exact ⟨_,c2,hs.setCol 0 (x:=((s.1.getD 0 cd).1,(s.1.getD 0 cd).2.1,true,(s.1.getD 0 cd).2.2.2)) (hs.names (s.1.getD 0 cd) (qbx (by omega))),h2,rfl⟩
    ·rw[qn k3]
     by_cases k4:x=4
     ·rw[qj k4]
      obtain ⟨y,c3,_,_,h3,e3⟩:=qdn hX (n:=n) (by omega) h2 6
      rw[e3,qe,qj (by omega)]
      exact ⟨_,c3,hs.addIx hx (x:=(ByteArray.mk #[UInt8.ofNat 120],[IntKind.wrap IntKind.i64 (y - 1)],false,())) (Nat.le_refl 1) (by simp),h3,rfl⟩
     ·rw[qn k4]
      exact ⟨s,c2,hs,h2,rfl⟩
theorem qblr {X:Ext} (hX:XOk X) (N n:Nat) (hN:4≤N) (K:Cur→Row→Option ((Row×Unit)×Cur×Unit)) (s:qbf) (hs:s.1.length≤4):∀ (m i:Nat) (c:Cur) (acc:Row),i≤s.1.length→s.1.length - i<m→acc.length=i→(∀ v∈acc,v.2.2.1.size≤3)→qco c→
  ∃ (c':Cur) (row:Row),qco c'∧row.length=s.1.length∧(∀ v∈row,v.2.2.1.size≤3)∧qfz (DD X N) n K m (i:Int) c s acc=K c' row
 | 0,_,_,_,_,h,_,_,_=>by omega
 | m+1,i,c,acc,hi,hf,ha,hv,hc=>by
  simp only[qfz,qsi]
  have hb:=qb0
  have step:∀ (c':Cur) (v:Value),qco c'→v.2.2.1.size≤3→i<s.1.length→∃ (c2:Cur) (row:Row),qco c2∧row.length=s.1.length∧(∀ v∈row,v.2.2.1.size≤3)∧qfz (DD X N) n K m ((i+1:Nat):Int) c' s (acc++[v])=K c2 row:=
   fun c' v hc' hv' h=>qblr hX N n hN K s hs m (i+1) c' (acc++[v]) (by omega) (by omega) (by simp;omega) (fun y hy=>by rcases List.mem_append.1 hy with hy | hy;exact hv y hy;simp only[List.mem_singleton] at hy;subst hy;exact hv') hc'
  by_cases h:i<s.1.length
  ·rw[qj (by exact_mod_cast h),ix h,br_t,Int.toNat_natCast,qp (by omega)]
   cases (s.1.getD i cd).2.2.1
   ·rw[br_f,br_t]
    obtain ⟨v,c2,hv2,h2,e2⟩:=qbe8 hX (n:=N) (by omega) hc (s.1.getD i cd).2.1
    rw[e2,qe,qj (show acc.length+1≤q0 by omega)]
    exact step c2 v h2 hv2 h
   ·rw[br_t]
    obtain ⟨b,c1,h1,e1⟩:=qta hX (n:=N) (by omega) hc 3
    rw[e1,qe]
    dsimp only
    cases b
    ·rw[br_f,br_t]
     obtain ⟨v,c2,hv2,h2,e2⟩:=qbe8 hX (n:=N) (by omega) h1 (s.1.getD i cd).2.1
     rw[e2,qe,qj (show acc.length+1≤q0 by omega)]
     exact step c2 v h2 hv2 h
    ·rw[br_t,qj (show acc.length+1≤q0 by omega)]
     exact step c1 vd h1 (Nat.zero_le _) h
  ·rw[qn (by exact_mod_cast h)]
   exact ⟨c,acc,hc,by omega,hv,rfl⟩
theorem q4k {X:Ext} (hX:XOk X) {n:Nat} (hn:W+1≤n) {c:Cur} (hc:qco c) (s:qbf) (hs:s.1.length≤4):∃ (row:Row) (c':Cur),qco c'∧row.length=s.1.length∧(∀ v∈row,v.2.2.1.size≤3)∧qkl (DD X n) c s=some ((row,()),(c',())):=by
 obtain ⟨n,rfl⟩:∃ k,n=k+1:=⟨n - 1,by omega⟩
 have hW:=qbm
 rw[qbex hX]
 simp only[qub,qt3,qq0]
 obtain ⟨c',row,h1,h2,h3,e⟩:=qblr hX n n (by omega) (fun v0_0 v0_1=>qpu (DD X n) n v0_0 v0_1) s hs n 0 c [] (by omega) (by omega) rfl (fun v hv=>by simp at hv) hc
 exact ⟨row,c',h1,h2,h3,e⟩
end Go.G

namespace Go.G
set_option maxRecDepth 100000
open Go Go.V Go.Proofs
structure XC (X:Ext):Prop where
 ok:XOk X
 cmp:∀ n a b,q3o (DD X (n+1)) a b=some ((scmp a b,()),())
theorem q9l:∀ (a b:List UInt8),(Lib.compareBytes a b<0↔Op.bytesLess a b=true)∧(Lib.compareBytes a b=0↔a=b)
 | [],[]=>by simp[Lib.compareBytes,Op.bytesLess]
 | [],_::_=>by simp[Lib.compareBytes,Op.bytesLess]
 | _::_,[]=>by simp[Lib.compareBytes,Op.bytesLess]
 | x::a,y::b=>by
  obtain ⟨h1,h2⟩:=q9l a b
  simp only[Lib.compareBytes,Op.bytesLess]
  by_cases hxy:x<y
  ·have hne:x≠y:=fun e=>by subst e;exact absurd hxy (UInt8.lt_irrefl x)
   simp[hxy,hne]
  ·by_cases hyx:y<x
   ·have hne:x≠y:=fun e=>by subst e;exact absurd hyx (UInt8.lt_irrefl x)
    simp[hxy,hyx,hne]
   ·have e:x=y:=UInt8.le_antisymm (UInt8.not_lt.1 hyx) (UInt8.not_lt.1 hxy)
    subst e
    simp[hxy,h1,h2]
theorem qbv8 (a b:ByteArray):scmp a b<0↔Op.bytesLess a.toList b.toList=true:=by
 unfold scmp
 rw[(q9l _ _).1,ByteArray.toList_eq,ByteArray.toList_eq]
theorem qbv2 (a b:ByteArray):scmp a b=0↔a=b:=by
 unfold scmp
 rw[(q9l _ _).2]
 constructor
 ·intro h;cases a;cases b;simp only[ByteArray.mk.injEq];exact Array.toList_inj.1 h
 ·rintro rfl;rfl
def byv (a b:Value):Int:=bif decide (a.1<b.1)||(decide (a.1=b.1)&&decide (a.2.1<b.2.1)) then -1 else bif decide (a.1>b.1)||decide (a.2.1>b.2.1) then 1 else scmp a.2.2.1 b.2.2.1
def vlt (a b:Value):Bool:=bif !decide (a.1=b.1) then decide (a.1<b.1) else bif !decide (a.2.1=b.2.1) then decide (a.2.1<b.2.1) else Op.bytesLess a.2.2.1.toList b.2.2.1.toList
theorem qbs6 (a b:Value):(byv a b<0↔vlt a b=true)∧(byv a b=0↔a=b):=by
 obtain ⟨a1,a2,a3,⟨⟩⟩:=a
 obtain ⟨b1,b2,b3,⟨⟩⟩:=b
 have h1:=qbv8 a3 b3
 have h2:=qbv2 a3 b3
 simp only[byv,vlt]
 by_cases k1:a1<b1
 ·have:¬ a1=b1:=by omega
  simp[k1,this]
 ·by_cases k2:a1=b1
  ·subst k2
   by_cases k3:a2<b2
   ·have:¬ a2=b2:=by omega
    simp[k3,this]
   ·by_cases k4:a2=b2
    ·subst k4
     simp[h1,h2]
    ·have:a2>b2:=by omega
     simp[k3,k4,this]
  ·have:a1>b1:=by omega
   simp[k1,k2,this]
theorem qbs8 {X:Ext} (hX:XC X) {n:Nat} (hn:2≤n) (a b:Value):qzt (DD X n) a b=some ((byv a b,()),()):=by
 obtain ⟨n,rfl⟩:∃ k,n=k+2:=⟨n - 2,by omega⟩
 rw[qbkm hX.ok]
 simp only[q0q,q7b]
 rw[hX.cmp]
 simp only[qe,qiw,qbqx]
 unfold byv
 cases (decide (a.1<b.1)||(decide (a.1=b.1)&&decide (a.2.1<b.2.1)))<;>cases (decide (a.1>b.1)||decide (a.2.1>b.2.1))<;>rfl
theorem qbqq (D:Den ctx) (x y:Value):qbl ctx D (Clo.mk 141 []) [CapV.val (Ty.pair (Ty.int IntKind.i64) (Ty.pair (Ty.int IntKind.i64) (Ty.pair Ty.str Ty.unit))) x,CapV.val (Ty.pair (Ty.int IntKind.i64) (Ty.pair (Ty.int IntKind.i64) (Ty.pair Ty.str Ty.unit))) y] (Ty.int IntKind.i64)=(qzt D x y).bind fun r=>some r.1.1:=by kernel_rfl
def tcmp:Row→Row→Int
 | [],[]=>0
 | [],_::_=>-1
 | _::_,[]=>1
 | x::a,y::b=>if byv x y=0 then tcmp a b else byv x y
def tlt:Row→Row→Bool
 | [],[]=>false
 | [],_::_=>true
 | _::_,[]=>false
 | x::a,y::b=>if x=y then tlt a b else vlt x y
theorem qbq9:∀ (a b:Row),(decide (tcmp a b<0))=tlt a b
 | [],[]=>rfl
 | [],_::_=>rfl
 | _::_,[]=>rfl
 | x::a,y::b=>by
  obtain ⟨h1,h2⟩:=qbs6 x y
  simp only[tcmp,tlt]
  by_cases e:x=y
  ·simp only[if_pos (h2.2 e),if_pos e];exact qbq9 a b
  ·simp only[if_neg (fun k=>e (h2.1 k)),if_neg e]
   by_cases k:byv x y<0
   ·rw[decide_eq_true k,h1.1 k]
   ·rw[decide_eq_false k]
    cases hv:vlt x y
    ·rfl
    ·exact absurd (h1.2 hv) k
theorem qbme {X:Ext} (hX:XC X) (N n:Nat) (hN:2≤N) (a b:Row) (ha:a.length≤M):∀ (m i:Nat),i≤a.length→i≤b.length→a.length - i<m→
  qu (DD X N) n (Clo.mk 141 []) (fun v w u=>qb1 (DD X N) n (Clo.mk 141 []) v w u) (fun v w=>qbc (DD X N) n (Clo.mk 141 []) v w) m a b a a.length (i:Int)=some ((tcmp (a.drop i) (b.drop i),()),())
 | 0,_,_,_,h=>by omega
 | m+1,i,hi,hj,hf=>by
  have hM:=qbo
  simp only[qu,qb7]
  by_cases h:i<a.length
  ·rw[qj (by exact_mod_cast h),ix h,br_t,qcp h]
   by_cases h2:i<b.length
   ·rw[qn (by omega),ix h2,br_t,qbqq,Int.toNat_natCast,qbs8 hX hN,qcp h2,Option.bind_some,qe,qp (by omega),qbh h,qbh h2,qwk]
    simp only[tcmp]
    by_cases e:byv a[i] b[i]=0
    ·rw[decide_eq_true e,if_pos e,Bool.not_true,br_f]
     exact qbme hX N n hN a b ha m (i+1) (by omega) (by omega) (by omega)
    ·rw[decide_eq_false e,if_neg e,Bool.not_false,br_t];rfl
   ·rw[qj (by omega),qfa h2];rfl
  ·rw[qn (by exact_mod_cast h),qfa h]
   simp only[qbc]
   by_cases h2:i<b.length
   ·rw[qj (by omega),qcp h2];rfl
   ·rw[qn (by omega),qfa h2];rfl
theorem qbh5 {X:Ext} (hX:XC X) {n:Nat} (hn:W+3≤n) (a b:Row) (ha:a.length≤M):qwh (DD X n) a b=some ((tlt a b,()),()):=by
 obtain ⟨n,rfl⟩:∃ k,n=k+2:=⟨n - 2,by omega⟩
 have hW:=qbm
 have hM:=qbo
 rw[qbg4 hX.ok]
 simp only[qv8,q40]
 have e:qcg (DD X (n+1)) a b (Clo.mk 141 [])=some ((tcmp a b,()),()):=by
  rw[qg5 hX.ok]
  simp only[qci,qch,qb5]
  exact qbme hX n n (by omega) a b ha n 0 (by omega) (by omega) (by omega)
 rw[e,qe]
 dsimp only
 rw[qbq9]
theorem qbfa {X:Ext} (hX:XOk X) {n:Nat} (hn:1≤n) (a b:Value):qpr (DD X n) a b=some ((decide (a=b),()),()):=by
 obtain ⟨n,rfl⟩:∃ k,n=k+1:=⟨n - 1,by omega⟩
 rw[qbgd hX]
 simp only[qvj,q5k,qbbw]
theorem qbqb {X:Ext} (hX:XOk X) {n:Nat} (hn:1≤n) (a b:Value):qvr (DD X n) a b=some ((vlt a b,()),()):=by
 obtain ⟨n,rfl⟩:∃ k,n=k+1:=⟨n - 1,by omega⟩
 rw[qbf4 hX]
 simp only[qv6,q5w,qwk]
 unfold vlt
 cases decide (a.1=b.1)<;>cases decide (a.2.1=b.2.1)<;>rfl
theorem qbja {X:Ext} (hX:XOk X) (N n:Nat) (hN:1≤N) (a b:Row) (ha:a.length≤M):∀ (m i:Nat),i≤a.length→i≤b.length→a.length - i<m→
  qh7 (DD X N) n (fun v w u=>qq8 (DD X N) n v w u) (fun v w=>qip (DD X N) n v w) m a b (i:Int)=some ((tlt (a.drop i) (b.drop i),()),())
 | 0,_,_,_,h=>by omega
 | m+1,i,hi,hj,hf=>by
  have hM:=qbo
  simp only[qh7,qup,qiw]
  by_cases h:i<a.length
  ·by_cases h2:i<b.length
   ·rw[decide_eq_true (show (i:Int)<a.length by omega),decide_eq_true (show (i:Int)<b.length by omega)]
    have c0:decide ((0:Int)≤(i:Int))=true:=decide_eq_true (by omega)
    rw[c0,Bool.true_and,br_t,br_t,br_t,qbfa hX hN,qe,Int.toNat_natCast,qp (by omega),qcp h,qcp h2,qbh h,qbh h2]
    simp only[tlt]
    by_cases e:a[i]=b[i]
    ·rw[decide_eq_true e,if_pos e,Bool.not_true,br_f]
     exact qbja hX N n hN a b ha m (i+1) (by omega) (by omega) (by omega)
    ·rw[decide_eq_false e,if_neg e,Bool.not_false,br_t,br_t,br_t,qbqb hX hN,qe];rfl
   ·rw[decide_eq_true (show (i:Int)<a.length by omega),decide_eq_false (show ¬ (i:Int)<b.length by omega),qcp h,qfa h2]
    simp only[Bool.and_false,br_f,qip,tlt]
    rw[decide_eq_false (by omega)]
  ·rw[decide_eq_false (show ¬ (i:Int)<a.length by omega),qfa h]
   simp only[Bool.false_and,br_f,qip]
   by_cases h2:i<b.length
   ·rw[decide_eq_true (by omega),qcp h2];rfl
   ·rw[decide_eq_false (by omega),qfa h2];rfl
theorem q6b {X:Ext} (hX:XOk X) {n:Nat} (hn:W+1≤n) (a b:Row) (ha:a.length≤M):qpj (DD X n) a b=some ((tlt a b,()),()):=by
 obtain ⟨n,rfl⟩:∃ k,n=k+1:=⟨n - 1,by omega⟩
 have hW:=qbm
 have hM:=qbo
 rw[qbf3 hX]
 simp only[qvh,qvf,qsz]
 exact qbja hX n n (by omega) a b ha n 0 (by omega) (by omega) (by omega)
theorem qbs4 {X:Ext} (hX:XOk X) (N n:Nat) (hN:1≤N) (a b:Row) (ha:a.length≤M):∀ (m i:Nat),i≤a.length→i≤b.length→a.length - i<m→
  qj0 (DD X N) n (fun v w u=>qud (DD X N) n v w u) (fun v w=>qkk (DD X N) n v w) m a b (i:Int)=some ((decide (a.drop i=b.drop i),()),())
 | 0,_,_,_,h=>by omega
 | m+1,i,hi,hj,hf=>by
  have hM:=qbo
  simp only[qj0,qw3,qiw]
  by_cases h:i<a.length
  ·by_cases h2:i<b.length
   ·rw[decide_eq_true (show (i:Int)<a.length by omega),decide_eq_true (show (i:Int)<b.length by omega)]
    have c0:decide ((0:Int)≤(i:Int))=true:=decide_eq_true (by omega)
    rw[c0,Bool.true_and,br_t,br_t,br_t,qbfa hX hN,qe,Int.toNat_natCast,qp (by omega),qcp h,qcp h2,qbh h,qbh h2]
    by_cases e:a[i]=b[i]
    ·rw[decide_eq_true e,Bool.not_true,br_f]
     refine Eq.trans (qbs4 hX N n hN a b ha m (i+1) (by omega) (by omega) (by omega)) ?_
     simp only[e,List.cons.injEq,true_and]
    ·rw[decide_eq_false e,Bool.not_false,br_t]
     simp only[e,List.cons.injEq,false_and,decide_false];rfl
   ·rw[decide_eq_true (show (i:Int)<a.length by omega),decide_eq_false (show ¬ (i:Int)<b.length by omega),qcp h,qfa h2]
    simp only[Bool.and_false,br_f,qkk]
    rw[decide_eq_false (by omega)];simp[h]
  ·rw[decide_eq_false (show ¬ (i:Int)<a.length by omega),qfa h]
   simp only[Bool.false_and,br_f,qkk]
   by_cases h2:i<b.length
   ·rw[decide_eq_false (by omega),qcp h2];simp[h2]
   ·rw[decide_eq_true (by omega),qfa h2];simp
theorem qbmd {X:Ext} (hX:XOk X) {n:Nat} (hn:W+1≤n) (a b:Row) (ha:a.length≤M):qtl (DD X n) a b=some ((decide (a=b),()),()):=by
 obtain ⟨n,rfl⟩:∃ k,n=k+1:=⟨n - 1,by omega⟩
 have hW:=qbm
 have hM:=qbo
 rw[qbli hX]
 simp only[qy1,qz7,qwa]
 exact qbs4 hX n n (by omega) a b ha n 0 (by omega) (by omega) (by omega)
theorem qbug {a b:Row} (hl:a.length=b.length):qt (fun i=>!decide (a.getD i vd=b.getD i vd)) 0 a.length=!decide (a=b):=by
 by_cases e:a=b
 ·rw[decide_eq_true e,qbn.2 (fun j _ _=>by rw[e];simp)];rfl
 ·rw[decide_eq_false e]
  show _=true
  rw[←Bool.not_eq_false]
  intro hf
  apply e
  apply List.ext_getElem hl
  intro i h1 h2
  have:=qbn.1 hf i (by omega) (by omega)
  rw[qbh h1,qbh h2] at this
  simpa using this
theorem qbw2 {X:Ext} (hX:XOk X) {n:Nat} (hn:W+1≤n) (a b:Row) (ha:a.length≤M):qfq (DD X n) a b=some ((decide (a=b),()),()):=by
 obtain ⟨n,rfl⟩:∃ k,n=k+1:=⟨n - 1,by omega⟩
 have hM:=qbo
 have hW:=qbm
 rw[qsg hX]
 simp only[qfw,qf0,qe8]
 rw[qbdi]
 by_cases hl:a.length=b.length
 ·rw[decide_eq_true hl,Bool.not_true,br_f]
  refine Eq.trans (qik (L:=fun m i=>qcc (DD X n) n _ _ m a b a.length (i:Int)) (N:=a.length) (P:=fun i=>!decide (a.getD i vd=b.getD i vd))
   (A:=some ((false,()),())) (B:=some ((true,()),())) (fun m i hi=>?_) (m:=n) (by omega)) ?_
  ·simp only[qcc,qfj]
   by_cases h:i<a.length
   ·rw[qj (by exact_mod_cast h),ix h,br_t,ix (hl ▸ h),br_t,Int.toNat_natCast,qbbw,qp (by omega),if_pos h];rfl
   ·rw[qn (by exact_mod_cast h),if_neg h];rfl
  ·rw[qbug hl]
   cases decide (a=b)<;>rfl
 ·have:¬ a=b:=fun e=>hl (by rw[e])
  rw[decide_eq_false hl,decide_eq_false this];rfl
def hasV (l:Row) (x:Value):Bool:=qt (fun j=>decide (x=l.getD j vd)) 0 l.length
theorem qbp5 {X:Ext} (hX:XOk X) {n:Nat} (hn:W+2≤n) (l:Row) (x:Value) (hl:l.length≤M):qez (DD X n) l x=some ((hasV l x,()),()):=by
 obtain ⟨n,rfl⟩:∃ k,n=k+2:=⟨n - 2,by omega⟩
 have hM:=qbo
 have hW:=qbm
 rw[qqd hX]
 simp only[qe1,qih]
 have e:qfp (DD X (n+1)) l x=some ((match qx (fun j=>decide (x=l.getD j vd)) 0 l.length with | some j=>(j:Int) | none=>-1,()),()):=by
  rw[qs3 hX]
  simp only[qfs,qfv,qe9]
  refine Eq.trans (qp9 (L:=fun m i=>qcd (DD X n) n _ _ m l l.length (i:Int) x) (N:=l.length) (P:=fun j=>decide (x=l.getD j vd))
   (A:=fun j=>some (((j:Int),()),())) (B:=some ((-1,()),())) (fun m i hi=>?_) (m:=n) (by omega)) ?_
  ·simp only[qcd,qfi]
   by_cases h:i<l.length
   ·rw[qj (by exact_mod_cast h),ix h,br_t,Int.toNat_natCast,qp (by omega),if_pos h,qbbw];rfl
   ·rw[qn (by exact_mod_cast h),if_neg h];rfl
  ·cases qx (fun j=>decide (x=l.getD j vd)) 0 l.length<;>rfl
 rw[e,qe]
 congr 3
 exact q01 _ _
def q70 (l:Row):Bool:=qt (fun j=>decide ((l.getD j vd).1=0)) 0 l.length
theorem qbt5 {X:Ext} (hX:XOk X) {n:Nat} (hn:W+1≤n) (l:Row) (hl:l.length≤M):qzb (DD X n) l=some ((q70 l,()),()):=by
 obtain ⟨n,rfl⟩:∃ k,n=k+1:=⟨n - 1,by omega⟩
 have hM:=qbo
 have hW:=qbm
 rw[qbkd hX]
 simp only[q0i,qzh,qv2]
 refine Eq.trans (qik (L:=fun m i=>qke (DD X n) n _ _ m l (i:Int)) (N:=l.length) (P:=fun j=>decide ((l.getD j vd).1=0))
  (A:=some ((true,()),())) (B:=some ((false,()),())) (fun m i hi=>?_) (m:=n) (by omega)) ?_
 ·simp only[qke,qxa]
  by_cases h:i<l.length
  ·rw[qj (by exact_mod_cast h),ix h,br_t,Int.toNat_natCast,qp (by omega),if_pos h];rfl
  ·rw[qn (by exact_mod_cast h),if_neg h];rfl
 ·unfold q70
  cases qt (fun j=>decide ((l.getD j vd).1=0)) 0 l.length<;>rfl
theorem qbv1 {v:Value} (h:qd3 v=true):decide (vd=v)=decide (v.1=0):=by
 obtain ⟨v1,v2,v3,⟨⟩⟩:=v
 by_cases h0:v1=0
 ·subst h0
  simp only[qd3,q8f,decide_true,cond_true,Bool.and_eq_true,decide_eq_true_eq] at h
  obtain ⟨rfl,rfl⟩:=h
  rfl
 ·have:¬ vd=(v1,v2,v3,()):=fun e=>h0 (by rw[←(Prod.mk.inj e).1])
  rw[decide_eq_false this,decide_eq_false h0]
theorem qbs1 {l:Row} (h:∀ v∈l,qd3 v=true):hasV l vd=q70 l:=
 qu5 fun j _ hj=>qbv1 (h _ (qbx (by omega)))
theorem qbqm {row:Row} {cols:List Int}:∀ v∈qo row cols,v∈row:=by
 intro v hv
 unfold qo at hv
 obtain ⟨c,hc,rfl⟩:=List.mem_map.1 hv
 have:=q8k (List.mem_filter.1 hc).2
 exact qbx (by omega)
def qy8 (xs:List qjy) (a b:Row) (i:Nat):Bool:=(xs.getD i xd).2.2.1&&(decide (qo a (xs.getD i xd).2.1=qo b (xs.getD i xd).2.1)&&!q70 (qo a (xs.getD i xd).2.1))
def qpo (s:qbf) (a b:Row):Bool:=qt (qy8 s.2.2.1 a b) 0 s.2.2.1.length
theorem qw9 (s:qbf) (a b:Row):qpo s a b=qpo s b a:=by
 refine qu5 fun j _ _=>?_
 unfold qy8
 by_cases e:qo a (s.2.2.1.getD j xd).2.1=qo b (s.2.2.1.getD j xd).2.1
 ·rw[decide_eq_true e,decide_eq_true e.symm,e]
 ·rw[decide_eq_false e,decide_eq_false fun k=>e k.symm];simp
theorem qbt4 (D:Den ctx) (a b:Row) (x:qjy):qbl ctx D (Clo.mk 143 [CapV.rptr (Ty.sl (Ty.pair (Ty.int IntKind.i64) (Ty.pair (Ty.int IntKind.i64) (Ty.pair Ty.str Ty.unit)))) a,CapV.rptr (Ty.sl (Ty.pair (Ty.int IntKind.i64) (Ty.pair (Ty.int IntKind.i64) (Ty.pair Ty.str Ty.unit)))) b]) [CapV.val (Ty.pair Ty.str (Ty.pair (Ty.sl (Ty.int IntKind.i64)) (Ty.pair Ty.bool Ty.unit))) x] Ty.bool=(q75 D x a b).bind fun r=>some r.1.1:=by kernel_rfl
theorem qbqc {X:Ext} (hX:XOk X) {n:Nat} (hn:W+6≤n) (s:qbf) (hs:SchSm s) (a b:Row) (ha:a.length≤M) (hb:b.length≤M) (hv:∀ v∈a,qd3 v=true):q4s (DD X n) s a b=some ((qpo s a b,()),()):=by
 obtain ⟨n,rfl⟩:∃ k,n=k+1:=⟨n - 1,by omega⟩
 have hM:=qbo
 have hd:=qby
 have h2:=hs.ixs
 rw[qbof hX]
 simp only[q44,qbbg]
 rw[qbff hX (n:=n) (by omega) _ (by omega) _ (qy8 s.2.2.1 a b) (fun i hi=>by
  have hc:=hs.ixc _ (qbx (d:=xd) hi)
  obtain ⟨n,rfl⟩:∃ k,n=k+3:=⟨n - 3,by omega⟩
  rw[qbt4,show n+3 - 2=n+1 from rfl,qbkg hX]
  simp only[q0o,q72]
  have p1:=qp8 hX (n:=n) (by omega) a ha (s.2.2.1.getD i xd).2.1 hc
  have p2:=qp8 hX (n:=n) (by omega) b hb (s.2.2.1.getD i xd).2.1 hc
  have l1:=qf3 a (s.2.2.1.getD i xd).2.1
  have p3:=qbp5 hX (n:=n) (by omega) (qo a (s.2.2.1.getD i xd).2.1) vd (by omega)
  have p4:=qbw2 hX (n:=n) (by omega) (qo a (s.2.2.1.getD i xd).2.1) (qo b (s.2.2.1.getD i xd).2.1) (by omega)
  rw[p1,qe]
  dsimp only
  rw[p2,p3]
  simp only[qe]
  rw[p4,qe,qbs1 (fun v h=>hv v (qbqm v h))]
  unfold qy8
  cases (s.2.2.1.getD i xd).2.2.1
  ·rfl
  ·cases q70 (qo a (s.2.2.1.getD i xd).2.1)<;>simp[br]),qe]
 rfl
theorem qbfi {X:Ext} (hX:XOk X) {n:Nat} (hn:W+3≤n) (s:qbf) (hs:SchSm s) (a b:Row) (ha:a.length≤M) (hb:b.length≤M):qry (DD X n) s a b=some ((qpo s a b,()),()):=by
 obtain ⟨n,rfl⟩:∃ k,n=k+1:=⟨n - 1,by omega⟩
 have hM:=qbo
 have hW:=qbm
 have h2:=hs.ixs
 rw[qbjl hX]
 simp only[qw7,qx8,qt9]
 refine Eq.trans (qik (L:=fun m i=>qiu (DD X n) n _ _ m a b (i:Int) s) (N:=s.2.2.1.length) (P:=qy8 s.2.2.1 a b)
  (A:=some ((true,()),())) (B:=some ((false,()),())) (fun m i hi=>?_) (m:=n) (by omega)) ?_
 ·simp only[qiu,qvp]
  by_cases h:i<s.2.2.1.length
  ·have hc:=hs.ixc _ (qbx (d:=xd) h)
   have p1:=qu8 hX (n:=n) (by omega) a ha (s.2.2.1.getD i xd).2.1 hc
   have p2:=qu8 hX (n:=n) (by omega) b hb (s.2.2.1.getD i xd).2.1 hc
   have l1:=qf3 a (s.2.2.1.getD i xd).2.1
   have p3:=qbt5 hX (n:=n) (by omega) (qo a (s.2.2.1.getD i xd).2.1) (by omega)
   have p4:=qbmd hX (n:=n) (by omega) (qo a (s.2.2.1.getD i xd).2.1) (qo b (s.2.2.1.getD i xd).2.1) (by omega)
   rw[qj (by exact_mod_cast h),ix h,br_t,Int.toNat_natCast,p1,qe]
   dsimp only
   rw[p2,qe]
   dsimp only
   rw[p3,p4,qp (by omega),if_pos h]
   simp only[qe]
   unfold qy8
   cases (s.2.2.1.getD i xd).2.2.1
   ·rfl
   ·cases decide (qo a (s.2.2.1.getD i xd).2.1=qo b (s.2.2.1.getD i xd).2.1)
    ·rfl
    ·cases q70 (qo a (s.2.2.1.getD i xd).2.1)<;>rfl
  ·rw[qn (by exact_mod_cast h),if_neg h];rfl
 ·unfold qpo
  cases qt (qy8 s.2.2.1 a b) 0 s.2.2.1.length<;>rfl
end Go.G

namespace Go.G
set_option maxRecDepth 100000
open Go Go.V Go.Proofs
abbrev Rel:=qbf×List Row×Unit
instance decRows:DecidableEq (List Row):=inferInstance
instance decRel:DecidableEq Rel:=fun a b=>@instDecidableEqProd _ _ decSchema (@instDecidableEqProd _ _ decRows inferInstance) a b
structure RelSm (r:Rel):Prop where
 sch:SchSm r.1
 rows:r.2.1.length≤M
 row:∀ x∈r.2.1,x.length≤M
end Go.G

namespace Go.G
set_option maxRecDepth 100000
open Go Go.V Go.Proofs
theorem qbrp {s:qbf} {row:Row} (h:qj8 s row=true):∀ v∈row,qd3 v=true:=by
 intro v hv
 obtain ⟨i,hi,rfl⟩:=List.mem_iff_getElem.1 hv
 simp only[qj8,Bool.and_eq_true,Bool.not_eq_true',decide_eq_true_eq] at h
 have k:=qbn.1 h.2.2 i (by omega) (by omega)
 simp only[q5h,Bool.or_eq_false_iff,Bool.not_eq_false'] at k
 rw[←qbh (d:=vd) hi];exact k.1
def qng (s:qbf) (rows:List Row) (i:Nat):Bool:=
 !qj8 s (rows.getD i [])||((decide (0<i)&&!tlt (qo (rows.getD (i - 1) []) s.2.1) (qo (rows.getD i []) s.2.1))||qt (fun k=>qpo s (rows.getD i []) (rows.getD k [])) 0 i)
def qdv (r:Rel):Bool:=!qt (qng r.1 r.2.1) 0 r.2.1.length&&(qg9 r.1&&decide ((r.2.1.length:Int)≤12))
theorem qbv3 (D:Den ctx) (r:Rel) (row x:Row):qbl ctx D (Clo.mk 80 [CapV.rptr (Ty.pair
          (Ty.pair (Ty.sl (Ty.pair Ty.str (Ty.pair (Ty.int IntKind.i64) (Ty.pair Ty.bool Ty.unit))))
           (Ty.pair (Ty.sl (Ty.int IntKind.i64))
            (Ty.pair (Ty.sl (Ty.pair Ty.str (Ty.pair (Ty.sl (Ty.int IntKind.i64)) (Ty.pair Ty.bool Ty.unit)))) Ty.unit)))
          (Ty.pair (Ty.sl (Ty.sl (Ty.pair (Ty.int IntKind.i64) (Ty.pair (Ty.int IntKind.i64) (Ty.pair Ty.str Ty.unit))))) Ty.unit)) r,CapV.rptr (Ty.sl (Ty.pair (Ty.int IntKind.i64) (Ty.pair (Ty.int IntKind.i64) (Ty.pair Ty.str Ty.unit)))) row]) [CapV.val (Ty.sl (Ty.pair (Ty.int IntKind.i64) (Ty.pair (Ty.int IntKind.i64) (Ty.pair Ty.str Ty.unit)))) x] Ty.bool=(q7o D x r row).bind fun q=>some q.1.1:=by kernel_rfl
theorem qbs3 {α:Type} {l:List α} {i j:Nat} {d:α} (h:j<i):(l.take i).getD j d=l.getD j d:=by
 simp only[List.getD,List.getElem?_take]
 rw[if_pos h]
theorem qbp9 {X:Ext} (hX:XOk X) {n:Nat} (hn:W+9≤n) (r:Rel) (hr:RelSm r) (i:Nat) (hi:i<r.2.1.length) (hv:∀ v∈r.2.1.getD i [],qd3 v=true) :
  qcf (DD X n) (List.drop (Int.toNat 0) (List.take i r.2.1)) (Clo.mk 80 [CapV.rptr (Ty.pair
          (Ty.pair (Ty.sl (Ty.pair Ty.str (Ty.pair (Ty.int IntKind.i64) (Ty.pair Ty.bool Ty.unit))))
           (Ty.pair (Ty.sl (Ty.int IntKind.i64))
            (Ty.pair (Ty.sl (Ty.pair Ty.str (Ty.pair (Ty.sl (Ty.int IntKind.i64)) (Ty.pair Ty.bool Ty.unit)))) Ty.unit)))
          (Ty.pair (Ty.sl (Ty.sl (Ty.pair (Ty.int IntKind.i64) (Ty.pair (Ty.int IntKind.i64) (Ty.pair Ty.str Ty.unit))))) Ty.unit)) r,CapV.rptr (Ty.sl (Ty.pair (Ty.int IntKind.i64) (Ty.pair (Ty.int IntKind.i64) (Ty.pair Ty.str Ty.unit)))) (r.2.1.getD i [])])
   = some ((qt (fun k=>qpo r.1 (r.2.1.getD i []) (r.2.1.getD k [])) 0 i,()),()):=by
 have hM:=qbo
 have hd:=qby
 have h2:=hr.rows
 have hl:(List.drop (Int.toNat 0) (List.take i r.2.1)).length=i:=by
  show (List.take i r.2.1).length=i
  rw[List.length_take];omega
 have e:=qbsp hX (n:=n) (by omega) (List.drop (Int.toNat 0) (List.take i r.2.1)) (by rw[hl];omega) (Clo.mk 80 [CapV.rptr (Ty.pair
          (Ty.pair (Ty.sl (Ty.pair Ty.str (Ty.pair (Ty.int IntKind.i64) (Ty.pair Ty.bool Ty.unit))))
           (Ty.pair (Ty.sl (Ty.int IntKind.i64))
            (Ty.pair (Ty.sl (Ty.pair Ty.str (Ty.pair (Ty.sl (Ty.int IntKind.i64)) (Ty.pair Ty.bool Ty.unit)))) Ty.unit)))
          (Ty.pair (Ty.sl (Ty.sl (Ty.pair (Ty.int IntKind.i64) (Ty.pair (Ty.int IntKind.i64) (Ty.pair Ty.str Ty.unit))))) Ty.unit)) r,CapV.rptr (Ty.sl (Ty.pair (Ty.int IntKind.i64) (Ty.pair (Ty.int IntKind.i64) (Ty.pair Ty.str Ty.unit)))) (r.2.1.getD i [])])
  (fun k=>qpo r.1 (r.2.1.getD i []) (r.2.1.getD k [])) (fun k hk=>by
   rw[hl] at hk
   obtain ⟨n,rfl⟩:∃ k,n=k+3:=⟨n - 3,by omega⟩
   rw[qbv3,show n+3 - 2=n+1 from rfl,qbke hX]
   simp only[qze,q8c]
   have hg:(List.drop (Int.toNat 0) (List.take i r.2.1)).getD k []=r.2.1.getD k []:=qbs3 hk
   rw[hg,qbqc hX (by omega) r.1 hr.sch _ _ (hr.row _ (qbx hi)) (hr.row _ (qbx (by omega))) hv,qe]
   rfl)
 rw[hl] at e
 exact e
theorem qbp6 {X:Ext} (hX:XC X) {n:Nat} (hn:W+10≤n) (r:Rel) (hr:RelSm r):q4h (DD X n) r=some ((qdv r,()),()):=by
 obtain ⟨n,rfl⟩:∃ k,n=k+1:=⟨n - 1,by omega⟩
 have hW:=qbm
 have hM:=qbo
 have h2:=hr.rows
 have hk:=hr.sch.key
 rw[qbn4 hX.ok]
 simp only[q4t,q4n,qzp]
 refine Eq.trans (qik (L:=fun m i=>ql6 (DD X n) n _ _ m r.2.1 r.2.1.length (i:Int) r) (N:=r.2.1.length) (P:=qng r.1 r.2.1)
  (A:=some ((false,()),())) (B:=some ((qg9 r.1&&decide ((r.2.1.length:Int)≤12),()),())) (fun m i hi=>?_) (m:=n) (by omega)) ?_
 ·simp only[ql6,q2o]
  by_cases h:i<r.2.1.length
  ·have hc1:(decide ((0:Nat)≤0)&&decide ((0:Int)≤(i:Int))&&decide ((i:Int)≤(r.2.1.length:Int)))=true:=by
    rw[decide_eq_true (by omega),decide_eq_true (by omega),decide_eq_true (by omega)];rfl
   have hri:=hr.row _ (qbx (d:=[]) h)
   rw[qj (by exact_mod_cast h),ix h,br_t,Int.toNat_natCast,qbfe hX.ok (n:=n) (by omega) r.1 hr.sch _ hri,qe,qp (by omega),if_pos h,hc1]
   dsimp only
   unfold qng
   cases hok:qj8 r.1 (r.2.1.getD i [])
   ·rfl
   ·have ec:=qbp9 hX.ok (n:=n) (by omega) r hr i h (qbrp hok)
    rw[Bool.not_true,br_f,br_t,ec,qe,Bool.false_or]
    dsimp only
    by_cases h0:0<i
    ·have w1:IntKind.wrap IntKind.i64 ((i:Int) - 1)=((i - 1:Nat):Int):=by rw[qc2 (by omega) (by omega)];omega
     have hrj:=hr.row _ (qbx (d:=[]) (show i - 1<r.2.1.length by omega))
     have l1:=qf3 (r.2.1.getD (i - 1) []) r.1.2.1
     rw[qj (by omega),w1,ix (i:=i - 1) (by omega),br_t,Int.toNat_natCast,qtp hX.ok (by omega) r.1 _ hrj hk,qe]
     dsimp only
     rw[qtp hX.ok (by omega) r.1 _ hri hk,qe]
     dsimp only
     rw[qbh5 hX (by omega) _ _ (by omega),qe,decide_eq_true h0]
     dsimp only
     cases tlt (qo (r.2.1.getD (i - 1) []) r.1.2.1) (qo (r.2.1.getD i []) r.1.2.1)<;>rfl
    ·rw[qn (by omega),decide_eq_false h0];rfl
  ·rw[qn (by exact_mod_cast h),if_neg h]
   simp only[qx7]
   rw[q8m hX.ok (by omega) r.1 hr.sch,qe,qiw]
 ·unfold qdv
  cases qt (qng r.1 r.2.1) 0 r.2.1.length<;>rfl
theorem qu1 {X:Ext} (hX:XOk X) {n:Nat} (hn:W+8≤n) (r:Rel) (hr:RelSm r):qlm (DD X n) r=some ((qdv r,()),()):=by
 obtain ⟨n,rfl⟩:∃ k,n=k+1:=⟨n - 1,by omega⟩
 have hW:=qbm
 have hM:=qbo
 have h2:=hr.rows
 have hk:=hr.sch.key
 rw[qbog hX]
 simp only[q47,q4z,qy0]
 refine Eq.trans (qik (L:=fun m i=>qf4 (DD X n) n _ _ m (i:Int) r) (N:=r.2.1.length) (P:=qng r.1 r.2.1)
  (A:=some ((false,()),())) (B:=some ((qg9 r.1&&decide ((r.2.1.length:Int)≤12),()),())) (fun m i hi=>?_) (m:=n) (by omega)) ?_
 ·simp only[qf4,q18,qz0]
  by_cases h:i<r.2.1.length
  ·have hri:=hr.row _ (qbx (d:=[]) h)
   have el:=qik (L:=fun q k=>ql7 (DD X n) n (fun v0_0 v0_1 v0_2=>qx6 (DD X n) n (qf4 (DD X n) n (fun v0_0 v0_1=>qhx (DD X n) n v0_0 v0_1) (fun v1_0=>qgh (DD X n) n v1_0) m) (fun v0_0 v0_1=>qhx (DD X n) n v0_0 v0_1) (fun v1_0=>qgh (DD X n) n v1_0) v0_0 v0_1 v0_2)
      (fun v1_0 v1_1=>qr0 (DD X n) n (qf4 (DD X n) n (fun v0_0 v0_1=>qhx (DD X n) n v0_0 v0_1) (fun v1_0=>qgh (DD X n) n v1_0) m) (fun v0_0 v0_1=>qhx (DD X n) n v0_0 v0_1) (fun v1_0=>qgh (DD X n) n v1_0) v1_0 v1_1) q (i:Int) (k:Int) r)
     (N:=i) (P:=fun k=>qpo r.1 (r.2.1.getD i []) (r.2.1.getD k []))
     (A:=some ((false,()),())) (B:=qf4 (DD X n) n (fun v0_0 v0_1=>qhx (DD X n) n v0_0 v0_1) (fun v1_0=>qgh (DD X n) n v1_0) m ((i+1:Nat):Int) r) (fun q k hk2=>by
    simp only[ql7,q2k]
    by_cases h3:k<i
    ·rw[qj (by exact_mod_cast h3),ix (i:=k) (by omega),br_t,ix h,br_t,Int.toNat_natCast,Int.toNat_natCast,qbfi hX (by omega) r.1 hr.sch _ _ (hr.row _ (qbx (by omega))) hri,qe,qp (by omega),if_pos h3,qw9]
     rfl
    ·rw[qn (by exact_mod_cast h3),if_neg h3]
     simp only[qr0]
     rw[qp (by omega)]) (m:=n) (by omega)
   simp only[Int.natCast_zero] at el
   rw[qj (by exact_mod_cast h),ix h,br_t,Int.toNat_natCast,q0y hX (n:=n) (by omega) r.1 hr.sch _ hri,qe,if_pos h]
   dsimp only
   unfold qng
   cases hok:qj8 r.1 (r.2.1.getD i [])
   ·rfl
   ·rw[Bool.not_true,br_f,Bool.false_or]
    by_cases h0:0<i
    ·have w1:IntKind.wrap IntKind.i64 ((i:Int) - 1)=((i - 1:Nat):Int):=by rw[qc2 (by omega) (by omega)];omega
     have hrj:=hr.row _ (qbx (d:=[]) (show i - 1<r.2.1.length by omega))
     have l1:=qf3 (r.2.1.getD (i - 1) []) r.1.2.1
     rw[qj (by omega),w1,ix (i:=i - 1) (by omega),br_t,Int.toNat_natCast,qf8 hX (by omega) r.1 _ hrj hk,qe]
     dsimp only
     rw[br_t,qf8 hX (by omega) r.1 _ hri hk,qe]
     dsimp only
     rw[q6b hX (by omega) _ _ (by omega),qe,decide_eq_true h0]
     dsimp only
     cases tlt (qo (r.2.1.getD (i - 1) []) r.1.2.1) (qo (r.2.1.getD i []) r.1.2.1)
     ·rfl
     ·exact el
    ·rw[qn (by omega),decide_eq_false h0];exact el
  ·rw[qn (by exact_mod_cast h),if_neg h]
   simp only[qgh]
   rw[q7g hX (by omega) r.1 hr.sch,qe,qiw]
 ·unfold qdv
  cases qt (qng r.1 r.2.1) 0 r.2.1.length<;>rfl
def qbhd (r:Rel) (key:Row) (i:Nat):Bool:=decide (qo (r.2.1.getD i []) r.1.2.1=key)
def qnb (r:Rel) (key:Row):Option Nat:=qx (qbhd r key) 0 r.2.1.length
theorem qbop {r:Rel} {key:Row} {j:Nat} (h:qnb r key=some j):j<r.2.1.length:=by
 have:=qc9 h;omega
theorem qblo {X:Ext} (hX:XOk X) {n:Nat} (hn:W+6≤n) (r:Rel) (hr:RelSm r) (key:Row):qsr (DD X n) r key=some ((match qnb r key with | some j=>(j:Int) | none=>-1,()),()):=by
 obtain ⟨n,rfl⟩:∃ k,n=k+1:=⟨n - 1,by omega⟩
 have hM:=qbo
 have hW:=qbm
 have h2:=hr.rows
 have hk:=hr.sch.key
 rw[qbo6 hX]
 simp only[q4y,q5p,qz4]
 refine Eq.trans (qp9 (L:=fun m i=>qmh (DD X n) n _ _ m key (i:Int) r) (N:=r.2.1.length) (P:=qbhd r key)
  (A:=fun j=>some (((j:Int),()),())) (B:=some ((-1,()),())) (fun m i hi=>?_) (m:=n) (by omega)) ?_
 ·simp only[qmh,q11]
  by_cases h:i<r.2.1.length
  ·have l1:=qf3 (r.2.1.getD i []) r.1.2.1
   rw[qj (by exact_mod_cast h),ix h,br_t,Int.toNat_natCast,qf8 hX (by omega) r.1 _ (hr.row _ (qbx h)) hk,qe]
   dsimp only
   rw[qbmd hX (by omega) _ _ (by omega),qe,qp (by omega),if_pos h]
   rfl
  ·rw[qn (by exact_mod_cast h),if_neg h];rfl
 ·unfold qnb
  cases qx (qbhd r key) 0 r.2.1.length<;>rfl
def lookup (r:Rel) (key:Row):Row×Bool:=match qnb r key with | some j=>if qdv r=true then (r.2.1.getD j [],true) else ([],false) | none=>([],false)
end Go.G

namespace Go.G
set_option maxRecDepth 100000
open Go Go.V Go.Proofs
theorem qbis {X:Ext} (D:Den ctx) (n:Nat) (K:qbf→qbf→Option ((qbf×Unit)×Unit)) (s:qbf) (hx:s.2.2.1.length≤M) (hc:∀ x∈s.2.2.1,x.2.1.length≤M) (z:qbf) (c:List Col) (k:List Int):∀ (m i:Nat) (acc:List qjy),i≤s.2.2.1.length→s.2.2.1.length - i<m→acc.length≤i→
  qj2 D n K m (i:Int) s z (c,k,acc,())=K z (c,k,acc++s.2.2.1.drop i,())
 | 0,_,_,_,h,_=>by omega
 | m+1,i,acc,hi,hf,ha=>by
  have hM:=qbo
  have hb:=qb0
  simp only[qj2,qw0]
  by_cases h:i<s.2.2.1.length
  ·have:=hc _ (List.getElem_mem h)
   rw[qj (by exact_mod_cast h),ix h,br_t,Int.toNat_natCast,qp (by omega),qcp h,qbh h,qj (by omega),qj (by omega)]
   refine Eq.trans (qbis (X:=X) D n K s hx hc z c k m (i+1) _ (by omega) (by omega) (by simp;omega)) ?_
   rw[List.append_assoc];rfl
  ·rw[qn (by exact_mod_cast h),qfa h,List.append_nil]
theorem q4w {X:Ext} (hX:XOk X) {n:Nat} (hn:W+3≤n) (s:qbf) (hs:SchSm s):qtq (DD X n) s=some ((s,()),()):=by
 obtain ⟨n,rfl⟩:∃ k,n=k+1:=⟨n - 1,by omega⟩
 have hM:=qbo
 have hb:=qb0
 have hW:=qbm
 have h1:=hs.cols
 have h2:=hs.key
 have h3:=hs.ixs
 rw[qbk9 hX]
 simp only[q0a,qzo,qv4]
 rw[qj (by omega),qj (by omega)]
 refine Eq.trans (qbis (X:=X) (DD X n) n _ s h3 hs.ixc _ ([]++s.1) ([]++s.2.1) n 0 [] (by omega) (by omega) (by simp)) ?_
 rfl
def q5s (s:qbf):Rel×Bool:=if qdv (s,[],())=true then ((s,[],()),true) else ((([],[],[],()),[],()),false)
theorem qbso {s:qbf} (hs:SchSm s):RelSm (s,[],()):=⟨hs,Nat.zero_le _,fun _ h=>nomatch h⟩
theorem qbo8 {X:Ext} (hX:XOk X) {n:Nat} (hn:W+9≤n) (s:qbf) (hs:SchSm s):q1z (DD X n) s=some (((q5s s).1,(q5s s).2,()),()):=by
 obtain ⟨n,rfl⟩:∃ k,n=k+1:=⟨n - 1,by omega⟩
 rw[qbm4 hX]
 simp only[q2b,q92]
 rw[q4w hX (by omega) s hs,qe]
 dsimp only
 have e:=qu1 hX (n:=n) (by omega) (s,[],()) (qbso hs)
 refine Eq.trans (congrArg (fun x=>qh x _) e) ?_
 rw[qe]
 unfold q5s
 cases qdv (s,[],())<;>rfl
end Go.G

namespace Go.G
set_option maxRecDepth 100000
open Go Go.V Go.Proofs
theorem qbqw (x:Int):IntKind.wrap IntKind.u8 x=x % 256:=by
 simp[IntKind.wrap,IntKind.signed,IntKind.bits]
theorem qbxj (y:Int):IntKind.wrap IntKind.u8 (IntKind.wrap IntKind.i64 ((BitVec.toNat (BitVec.and (BitVec.ofInt (IntKind.bits IntKind.i64) y) (BitVec.ofInt (IntKind.bits IntKind.i64) 255)):Nat):Int))=IntKind.wrap IntKind.u8 y:=by
 have e:BitVec.toNat (BitVec.and (BitVec.ofInt (IntKind.bits IntKind.i64) y) (BitVec.ofInt (IntKind.bits IntKind.i64) 255))=(BitVec.ofInt 64 y).toNat % 256:=by
  show ((BitVec.ofInt 64 y) &&&(BitVec.ofInt 64 255)).toNat=_
  rw[BitVec.toNat_and]
  have:(BitVec.ofInt 64 255).toNat=2 ^ 8 - 1:=by decide
  rw[this,Nat.and_two_pow_sub_one_eq_mod]
 rw[e,qbqw,qbqw,BitVec.toNat_ofInt]
 have h:0≤y % (18446744073709551616:Int):=Int.emod_nonneg _ (by decide)
 have h2:((2 ^ 64:Nat):Int)=18446744073709551616:=by decide
 rw[h2]
 rw[qc2 (by omega) (by omega)]
 omega
def qbx5 (y:Int) (k:Nat):Int:=IntKind.wrap IntKind.u8 (Int.fdiv y (Int.pow 2 (8 * k)))
def q1f (y:Int):Nat→List Int
 | 0=>[]
 | k+1=>qbx5 y k::q1f y k
theorem q9e (y:Int):∀ k,(q1f y k).length=k
 | 0=>rfl
 | k+1=>by rw[q1f,List.length_cons,q9e y k]
theorem qbo0 {x:Int} {k:Nat} (h:x=8 * k) (hk:k<8):(if Int.toNat x≤IntKind.bits IntKind.i64 then Int.toNat x else IntKind.bits IntKind.i64)=8 * k:=by
 have:IntKind.bits IntKind.i64=64:=rfl
 rw[this,if_pos (by omega)];omega
def escF (t:ByteArray):Nat→Nat→List Int
 | _,0=>[]
 | i,k+1=>((t.data.getD i (UInt8.ofNat 0)).toNat:Int)::((if ((t.data.getD i (UInt8.ofNat 0)).toNat:Int)=0 then [255] else [])++escF t (i+1) k)
theorem q8y (t:ByteArray):∀ k i,(escF t i k).length≤2 * k
 | 0,_=>Nat.le_refl _
 | k+1,i=>by
  have:=q8y t k (i+1)
  simp only[escF,List.length_cons,List.length_append]
  split<;>simp<;>omega
def tagI (v:Value):Int:=IntKind.wrap IntKind.u8 (IntKind.wrap IntKind.i64 (v.1+1))
def qm4 (v:Value):List Int:=
 if v.1=1 then [tagI v,IntKind.wrap IntKind.u8 v.2.1] else
 if v.1=2 then tagI v::q1f (IntKind.wrap IntKind.i64 (v.2.1+4611686018427387904)) 8 else
 if v.1=3 then tagI v::(escF v.2.2.1 0 v.2.2.1.size++[0,1]) else [tagI v]
theorem q7f {v:Value} (h:qd3 v=true):(qm4 v).length≤43:=by
 unfold qm4
 split
 ·simp
 ·split
  ·rw[List.length_cons,q9e];omega
  ·split
   ·rename_i h1 h2 h3
    have hs:v.2.2.1.size≤20:=by
     unfold qd3 at h
     rw[h3] at h
     simp at h
     omega
    have:=q8y v.2.2.1 v.2.2.1.size 0
    simp only[List.length_cons,List.length_append,List.length_nil];omega
   ·simp
def qnc (a:Row):List Int:=if qtr a=true then a.flatMap qm4 else []
theorem q9z {a:Row} (h:qtr a=true):a.length≤4∧∀ v∈a,qd3 v=true:=by
 simp only[qtr,Bool.and_eq_true,decide_eq_true_eq,Bool.not_eq_true'] at h
 refine ⟨by omega,fun v hv=>?_⟩
 obtain ⟨i,hi,rfl⟩:=List.mem_iff_getElem.1 hv
 have k:=qbn.1 h.2 i (by omega) (by omega)
 rw[qbh hi,Bool.not_eq_false'] at k
 exact k
theorem qblv (D:Den ctx) (n:Nat) (K:List Int→Option ((List Int×Unit)×Unit)) (y:Int):∀ (k m:Nat) (acc:List Int),k≤8→k<m→acc.length+k≤q0→
  qhb D n K m y (8 * (k:Int) - 8) acc=K (acc++q1f y k)
 | 0,m+1,acc,hk,hm,hb=>by
  simp only[qhb,qo4]
  rw[qn (by omega),q1f,List.append_nil]
 | k+1,m+1,acc,hk,hm,hb=>by
  have hbd:=qb0
  simp only[qhb,qo4]
  have e:(8 * ((k+1:Nat):Int) - 8)=8 * (k:Int):=by omega
  rw[qj (by omega),qn (by omega),qj (by omega),e,qbo0 rfl (by omega),qbxj,qc2 (by omega) (by omega)]
  refine Eq.trans (qblv D n K y k m _ (by omega) (by omega) (by simp;omega)) ?_
  rw[List.append_assoc];rfl
theorem q8s (D:Den ctx) (n:Nat) (K:List Int→Option ((List Int×Unit)×Unit)) (v:Value) (hv:v.2.2.1.size≤20):∀ (m i:Nat) (acc:List Int),i≤v.2.2.1.size→v.2.2.1.size - i<m→acc.length+2 * (v.2.2.1.size - i)≤q0→
  qix D n K m (i:Int) v acc=K (acc++escF v.2.2.1 i (v.2.2.1.size - i))
 | 0,i,acc,hi,hm,hb=>by omega
 | m+1,i,acc,hi,hm,hb=>by
  have hbd:=qb0
  simp only[qix,qv0]
  by_cases h:i<v.2.2.1.size
  ·have hc:(decide (0≤(i:Int))&&decide ((i:Int)<(v.2.2.1.size:Int)))=true:=by
    simp only[Bool.and_eq_true,decide_eq_true_eq];omega
   obtain ⟨k,hk⟩:∃ k,v.2.2.1.size - i=k+1:=⟨v.2.2.1.size - i - 1,by omega⟩
   have hk2:v.2.2.1.size - (i+1)=k:=by omega
   rw[qj (by exact_mod_cast h),hc,br_t,qj (by omega),br_t,Int.toNat_natCast,qp (by omega),hk]
   simp only[escF]
   by_cases h0:((v.2.2.1.data.getD i (UInt8.ofNat 0)).toNat:Int)=0
   ·rw[qj h0,if_pos h0,qj (by simp;omega)]
    refine Eq.trans (q8s D n K v hv m (i+1) _ (by omega) (by omega) (by simp;omega)) ?_
    rw[hk2];simp
   ·rw[qn h0,if_neg h0]
    refine Eq.trans (q8s D n K v hv m (i+1) _ (by omega) (by omega) (by simp;omega)) ?_
    rw[hk2];simp
  ·have:v.2.2.1.size - i=0:=by omega
   rw[qn (by exact_mod_cast h),this,escF,List.append_nil]
theorem qbsk {X:Ext} (hX:XOk X) {n:Nat} (hn:W+1≤n) (v:Value) (hv:qd3 v=true):qxd (DD X n) v=some ((qm4 v,()),()):=by
 obtain ⟨n,rfl⟩:∃ k,n=k+1:=⟨n - 1,by omega⟩
 have hW:=qbm
 have hbd:=qb0
 rw[qbhx hX]
 simp only[qx5,qxu,quq,qui]
 unfold qm4
 by_cases h1:v.1=1
 ·rw[qj h1,if_pos h1];rfl
 ·rw[qn h1,if_neg h1]
  by_cases h2:v.1=2
  ·rw[qj h2,if_pos h2]
   refine Eq.trans (qblv (DD X n) n _ _ 8 n [tagI v] (by omega) (by omega) (by simp;omega)) ?_
   rfl
  ·rw[qn h2,if_neg h2]
   by_cases h3:v.1=3
   ·have hs:v.2.2.1.size≤20:=by
     unfold qd3 at hv
     rw[h3] at hv
     simp at hv
     omega
    rw[qj h3,if_pos h3]
    refine Eq.trans (q8s (DD X n) n _ v hs n 0 [tagI v] (by omega) (by omega) (by simp;omega)) ?_
    simp only[qsk,Nat.sub_zero]
    have:=q8y v.2.2.1 v.2.2.1.size 0
    rw[qj (by simp;omega)]
    simp
   ·rw[qn h3,if_neg h3];rfl
theorem qbfd {X:Ext} (hX:XOk X) (N n:Nat) (hN:W+4≤N) (K:List Int→Option ((List Int×Unit)×Unit)) (a:Row) (ha:a.length≤4) (hv:∀ v∈a,qd3 v=true) (hok:qts (DD X N) a=some ((true,()),())):∀ (m i:Nat) (acc:List Int),i≤a.length→a.length - i<m→acc.length≤43 * i→
  qfu (DD X N) n K m a (i:Int) acc=K (acc++(a.drop i).flatMap qm4)
 | 0,i,acc,hi,hm,hb=>by omega
 | m+1,i,acc,hi,hm,hb=>by
  have hbd:=qb0
  simp only[qfu,qmt]
  by_cases h:i<a.length
  ·have l1:=q7f (hv _ (List.getElem_mem h))
   rw[qj (by exact_mod_cast h),hok,qe,br_t,ix h,br_t,Int.toNat_natCast,qbh h,qbsk hX (by omega) _ (hv _ (List.getElem_mem h)),qe,qp (by omega),qcp h,List.flatMap_cons]
   dsimp only
   rw[qj (by omega)]
   refine Eq.trans (qbfd hX N n hN K a ha hv hok m (i+1) _ (by omega) (by omega) (by rw[List.length_append];omega)) ?_
   rw[List.append_assoc]
  ·rw[qn (by exact_mod_cast h),qfa h];simp
theorem qbmo {X:Ext} (hX:XOk X) {n:Nat} (hn:W+4≤n) (a:Row) (ha:a.length≤M):qts (DD X n) a=some ((qtr a,()),()):=by
 obtain ⟨n,rfl⟩:∃ k,n=k+1:=⟨n - 1,by omega⟩
 have hM:=qbo
 have hW:=qbm
 rw[qblc hX]
 simp only[qzn,qy3,qvc]
 refine Eq.trans (qik (L:=fun m i=>qkb (DD X n) n _ _ m a (i:Int)) (N:=a.length) (P:=fun i=>!qd3 (a.getD i vd))
  (A:=some ((false,()),())) (B:=some ((decide ((a.length:Int)≤4),()),())) (fun m i hi=>?_) (m:=n) (by omega)) ?_
 ·simp only[qkb,qxg]
  by_cases h:i<a.length
  ·rw[qj (by exact_mod_cast h),ix h,br_t,Int.toNat_natCast,q93 hX (by omega),qe,qp (by omega),if_pos h];rfl
  ·rw[qn (by exact_mod_cast h),if_neg h];rfl
 ·unfold qtr
  cases qt (fun i=>!qd3 (a.getD i vd)) 0 a.length<;>cases decide ((a.length:Int)≤4)<;>rfl
theorem q5t {X:Ext} (hX:XOk X) {n:Nat} (hn:W+5≤n) (a:Row) (ha:a.length≤M):qoa (DD X n) a=some ((qnc a,()),()):=by
 obtain ⟨n,rfl⟩:∃ k,n=k+1:=⟨n - 1,by omega⟩
 have hM:=qbo
 have hW:=qbm
 rw[qbec hX]
 simp only[quy,qt1,qqz]
 have hok:=qbmo hX (n:=n) (by omega) a ha
 unfold qnc
 cases ht:qtr a
 ·rw[ht] at hok
  obtain ⟨m,rfl⟩:∃ k,n=k+1:=⟨n - 1,by omega⟩
  simp only[qfu,qmt]
  rw[hok,qe]
  cases decide ((0:Int)<(a.length:Int))<;>rfl
 ·rw[ht] at hok
  obtain ⟨h1,h2⟩:=q9z ht
  refine Eq.trans (qbfd hX n n (by omega) _ a h1 h2 hok n 0 [] (by omega) (by omega) (by simp)) ?_
  rfl
theorem qblz (D:Den ctx) (n:Nat) (K:Row→Int→Int→List Int→Option ((List Int×Unit)×Unit)) (a:Row) (p q:Int) (v:Value):∀ (k m:Nat) (acc:List Int),k≤8→k<m→acc.length+k≤q0→
  qf1 D n K m ((k:Int) - 1) a p q acc v=K a p q (acc++q1f (IntKind.wrap IntKind.i64 (v.2.1+4611686018427387904)) k)
 | 0,m+1,acc,hk,hm,hb=>by
  simp only[qf1,qm9]
  rw[qn (by omega),q1f,List.append_nil]
 | k+1,m+1,acc,hk,hm,hb=>by
  have hbd:=qb0
  simp only[qf1,qm9]
  have e:((k+1:Nat):Int) - 1=(k:Int):=by omega
  have e2:IntKind.wrap IntKind.i64 (8 * (k:Int))=8 * (k:Int):=qc2 (by omega) (by omega)
  have e3:IntKind.wrap IntKind.i64 ((k:Int) - 1)=(k:Int) - 1:=qc2 (by omega) (by omega)
  rw[e,e2,e3,qj (by omega),qn (by omega),qj (by omega),qbo0 rfl (by omega)]
  refine Eq.trans (qblz D n K a p q v k m _ (by omega) (by omega) (by simp;omega)) ?_
  rw[List.append_assoc];rfl
theorem q9q (D:Den ctx) (n:Nat) (K:Row→Int→Int→List Int→Option ((List Int×Unit)×Unit)) (a:Row) (p q:Int) (v:Value) (hv:v.2.2.1.size≤20):∀ (m i:Nat) (acc:List Int),i≤v.2.2.1.size→v.2.2.1.size - i<m→acc.length+2 * (v.2.2.1.size - i)≤q0→
  qhd D n K m a p q (v.2.2.1.size:Int) (i:Int) acc v=K a p q (acc++escF v.2.2.1 i (v.2.2.1.size - i))
 | 0,i,acc,hi,hm,hb=>by omega
 | m+1,i,acc,hi,hm,hb=>by
  have hbd:=qb0
  simp only[qhd,qsm]
  by_cases h:i<v.2.2.1.size
  ·have hc:(decide (0≤(i:Int))&&decide ((i:Int)<(v.2.2.1.size:Int)))=true:=by
    simp only[Bool.and_eq_true,decide_eq_true_eq];omega
   obtain ⟨k,hk⟩:∃ k,v.2.2.1.size - i=k+1:=⟨v.2.2.1.size - i - 1,by omega⟩
   have hk2:v.2.2.1.size - (i+1)=k:=by omega
   rw[qj (by exact_mod_cast h),hc,br_t,qj (by omega),br_t,Int.toNat_natCast,qp (by omega),hk]
   simp only[escF]
   by_cases h0:((v.2.2.1.data.getD i (UInt8.ofNat 0)).toNat:Int)=0
   ·rw[qj h0,if_pos h0,qj (by simp;omega)]
    refine Eq.trans (q9q D n K a p q v hv m (i+1) _ (by omega) (by omega) (by simp;omega)) ?_
    rw[hk2];simp
   ·rw[qn h0,if_neg h0]
    refine Eq.trans (q9q D n K a p q v hv m (i+1) _ (by omega) (by omega) (by simp;omega)) ?_
    rw[hk2];simp
  ·have:v.2.2.1.size - i=0:=by omega
   rw[qn (by exact_mod_cast h),this,escF,List.append_nil]
theorem qbez (D:Den ctx) (n:Nat) (hn:W≤n) (K:List Int→Option ((List Int×Unit)×Unit)) (a:Row) (ha:a.length≤4) (hv:∀ v∈a,qd3 v=true):∀ (m i:Nat) (acc:List Int),i≤a.length→a.length - i<m→acc.length≤43 * i→
  qej D n K m a (a.length:Int) (i:Int) acc=K (acc++(a.drop i).flatMap qm4)
 | 0,i,acc,hi,hm,hb=>by omega
 | m+1,i,acc,hi,hm,hb=>by
  have hbd:=qb0
  have hW:=qbm
  simp only[qej,qtf,qq2,qq1]
  by_cases h:i<a.length
  ·have hvi:=hv _ (List.getElem_mem h)
   have l1:=q7f hvi
   have ih:=fun acc2 h2=>qbez D n hn K a ha hv m (i+1) acc2 (by omega) (by omega) h2
   rw[qj (by exact_mod_cast h),ix h,br_t,Int.toNat_natCast,qbh h,qp (by omega),qcp h,List.flatMap_cons,qj (by omega)]
   unfold qm4 at l1 ⊢
   by_cases h1:a[i].1=1
   ·rw[qj h1,if_pos h1,qj (by simp;omega)]
    rw[if_pos h1] at l1
    refine Eq.trans (ih _ (by simp;omega)) ?_
    rw[List.append_assoc,List.append_assoc];rfl
   ·rw[qn h1,if_neg h1]
    rw[if_neg h1] at l1
    by_cases h2:a[i].1=2
    ·rw[qj h2,if_pos h2]
     rw[if_pos h2] at l1
     refine Eq.trans (qblz D n _ a (a.length:Int) (i:Int) a[i] 8 n _ (by omega) (by omega) (by simp;omega)) ?_
     simp only[qp4]
     rw[qp (by omega)]
     refine Eq.trans (ih _ (by simp[q9e];omega)) ?_
     rw[List.append_assoc,List.append_assoc];rfl
    ·rw[qn h2,if_neg h2]
     rw[if_neg h2] at l1
     by_cases h3:a[i].1=3
     ·have hs:a[i].2.2.1.size≤20:=by
       unfold qd3 at hvi
       rw[h3] at hvi
       simp at hvi
       omega
      have hl:=q8y a[i].2.2.1 a[i].2.2.1.size 0
      rw[qj h3,if_pos h3]
      rw[if_pos h3] at l1
      refine Eq.trans (q9q D n _ a (a.length:Int) (i:Int) a[i] hs n 0 _ (by omega) (by omega) (by simp;omega)) ?_
      simp only[qpe,Nat.sub_zero]
      rw[qj (by simp;omega),qp (by omega)]
      refine Eq.trans (ih _ (by simp;omega)) ?_
      simp only[tagI,List.append_assoc,List.cons_append,List.nil_append]
      rfl
     ·rw[qn h3,if_neg h3]
      rw[if_neg h3] at l1
      refine Eq.trans (ih _ (by simp;omega)) ?_
      rw[List.append_assoc];rfl
  ·rw[qn (by exact_mod_cast h),qfa h];simp
theorem qpz {X:Ext} (hX:XOk X) {n:Nat} (hn:W+5≤n) (a:Row) (ha:a.length≤M):qod (DD X n) a=some ((qnc a,()),()):=by
 obtain ⟨n,rfl⟩:∃ k,n=k+1:=⟨n - 1,by omega⟩
 have hM:=qbo
 have hW:=qbm
 rw[qbds hX]
 simp only[quj,qur,qq9]
 rw[qbmz hX (n:=n) (by omega) a ha,qe]
 unfold qnc
 cases ht:qtr a
 ·rfl
 ·obtain ⟨h1,h2⟩:=q9z ht
  refine Eq.trans (qbez (DD X n) n (by omega) _ a h1 h2 n 0 [] (by omega) (by omega) (by simp)) ?_
  rfl
def qbc7 (l:List Int):ByteArray:=ByteArray.mk (List.toArray (List.map (fun n↦UInt8.ofNat (Int.toNat n)) l))
abbrev Way:=ByteArray×ByteArray×Unit
def q0u (r:Rel) (i:Int) (row:Row):Way×Bool:=
 if (qj8 r.1 row&&inR i 0 ((r.1.2.2.1.length:Int) - 1))=true then ((qbc7 (qnc (qo row (r.1.2.2.1.getD i.toNat xd).2.1)),qbc7 (qnc (qo row r.1.2.1)),()),true) else ((ByteArray.empty,ByteArray.empty,()),false)
theorem qbp7 {X:Ext} (hX:XOk X) {n:Nat} (hn:W+8≤n) (r:Rel) (hr:RelSm r) (i:Int) (row:Row) (hw:row.length≤M):q41 (DD X n) r i row=some (((q0u r i row).1,(q0u r i row).2,()),()):=by
 obtain ⟨n,rfl⟩:∃ k,n=k+2:=⟨n - 2,by omega⟩
 have hM:=qbo
 have h3:=hr.sch.ixs
 rw[qbpr hX]
 simp only[q5b,qbbt]
 rw[qbfe hX (by omega) r.1 hr.sch row hw,qe,quz hX (by omega),qe,qc2 (by omega) (by omega)]
 unfold q0u
 dsimp only
 cases qj8 r.1 row
 ·rfl
 ·cases hin:inR i 0 ((r.1.2.2.1.length:Int) - 1)
  ·rfl
  ·obtain ⟨p1,p2⟩:=q8k hin
   have hp:i.toNat<r.1.2.2.1.length:=by omega
   have l1:=qf3 row (r.1.2.2.1.getD i.toNat xd).2.1
   have l2:=qf3 row r.1.2.1
   have l3:=hr.sch.ixc _ (qbx (d:=xd) hp)
   have l4:=hr.sch.key
   rw[qbil hX]
   simp only[q31,q81]
   rw[ixn p1 p2,br_t,qp8 hX (by omega) row hw _ l3,qe]
   dsimp only
   rw[qpz hX (by omega) _ (by omega),qe,qtp hX (by omega) r.1 row hw l4,qe]
   dsimp only
   rw[qpz hX (by omega) _ (by omega),qe]
   rfl
theorem qbfn {X:Ext} (hX:XOk X) {n:Nat} (hn:W+8≤n) (r:Rel) (hr:RelSm r) (i:Int) (row:Row) (hw:row.length≤M):qxl (DD X n) r i row=some (((q0u r i row).1,(q0u r i row).2,()),()):=by
 obtain ⟨n,rfl⟩:∃ k,n=k+1:=⟨n - 1,by omega⟩
 have hM:=qbo
 have h3:=hr.sch.ixs
 rw[qbpm hX]
 simp only[q43,qbcw]
 rw[q0y hX (by omega) r.1 hr.sch row hw,qe,qxf hX (by omega),qe,qc2 (by omega) (by omega)]
 unfold q0u
 dsimp only
 cases qj8 r.1 row
 ·rfl
 ·cases hin:inR i 0 ((r.1.2.2.1.length:Int) - 1)
  ·rfl
  ·obtain ⟨p1,p2⟩:=q8k hin
   have hp:i.toNat<r.1.2.2.1.length:=by omega
   have l1:=qf3 row (r.1.2.2.1.getD i.toNat xd).2.1
   have l2:=qf3 row r.1.2.1
   have l3:=hr.sch.ixc _ (qbx (d:=xd) hp)
   have l4:=hr.sch.key
   rw[ixn p1 p2,Bool.not_true,br_f,br_f,br_t,qu8 hX (by omega) row hw _ l3,qe]
   dsimp only
   rw[q5t hX (by omega) _ (by omega),qe,qf8 hX (by omega) r.1 row hw l4,qe]
   dsimp only
   rw[q5t hX (by omega) _ (by omega),qe]
   rfl
end Go.G

namespace Go.G
set_option maxRecDepth 100000
open Go Go.V Go.Proofs
theorem qbsx (D:Den ctx) (n:Nat) (K:List Row→Option ((List Row×Unit)×Unit)) (a:List Row) (ha:a.length≤M) (hr:∀ x∈a,x.length≤M):∀ (m i:Nat) (acc:List Row),i≤a.length→a.length - i<m→acc.length≤i→
  qj1 D n K m a (i:Int) acc=K (acc++a.drop i)
 | 0,_,_,_,h,_=>by omega
 | m+1,i,acc,hi,hf,hl=>by
  have hM:=qbo
  have hb:=qb0
  simp only[qj1,qw8]
  by_cases h:i<a.length
  ·have:=hr _ (List.getElem_mem h)
   rw[qj (by exact_mod_cast h),ix h,br_t,Int.toNat_natCast,qbh h,qj (by omega),qj (by omega),qp (by omega),qcp h]
   refine Eq.trans (qbsx D n K a ha hr m (i+1) _ (by omega) (by omega) (by simp;omega)) ?_
   rw[List.append_assoc];rfl
  ·rw[qn (by exact_mod_cast h),qfa h,List.append_nil]
theorem q1i {X:Ext} (hX:XOk X) {n:Nat} (hn:W+1≤n) (a:List Row) (ha:a.length≤M) (hr:∀ x∈a,x.length≤M):qi2 (DD X n) a=some ((a,()),()):=by
 obtain ⟨n,rfl⟩:∃ k,n=k+1:=⟨n - 1,by omega⟩
 have hM:=qbo
 have hW:=qbm
 rw[qbkr hX]
 simp only[qzk,qzl,qve]
 refine Eq.trans (qbsx (DD X n) n _ a ha hr n 0 [] (by omega) (by omega) (by simp)) ?_
 rfl
theorem qbci {X:Ext} (hX:XOk X) {n:Nat} (hn:W+4≤n) (r:Rel) (hr:RelSm r):qox (DD X n) r=some ((r,()),()):=by
 obtain ⟨n,rfl⟩:∃ k,n=k+1:=⟨n - 1,by omega⟩
 rw[qbko hX]
 simp only[q0s,q8h]
 rw[q4w hX (by omega) _ hr.sch,qe,q1i hX (by omega) _ hr.rows hr.row,qe]
def others (r:Rel) (row:Row) (j:Int):Bool:=qt (fun k=>!decide ((k:Int)=j)&&qpo r.1 (r.2.1.getD k []) row) 0 r.2.1.length
theorem qbe5 {X:Ext} (hX:XOk X) {n:Nat} (hn:W+4≤n) (r:Rel) (hr:RelSm r) (row:Row) (hw:row.length≤M) (j:Int):qp3 (DD X n) r row j=some ((others r row j,()),()):=by
 obtain ⟨n,rfl⟩:∃ k,n=k+1:=⟨n - 1,by omega⟩
 have hM:=qbo
 have hW:=qbm
 have h2:=hr.rows
 rw[qbgw hX]
 simp only[qwe,qvt,qsx]
 refine Eq.trans (qik (L:=fun m i=>qh3 (DD X n) n _ _ m row j (i:Int) r) (N:=r.2.1.length) (P:=fun k=>!decide ((k:Int)=j)&&qpo r.1 (r.2.1.getD k []) row)
  (A:=some ((true,()),())) (B:=some ((false,()),())) (fun m i hi=>?_) (m:=n) (by omega)) ?_
 ·simp only[qh3,qua]
  by_cases h:i<r.2.1.length
  ·rw[qj (by exact_mod_cast h),ix h,br_t,Int.toNat_natCast,qbfi hX (by omega) r.1 hr.sch _ _ (hr.row _ (qbx h)) hw,qe,qp (by omega),if_pos h,qwk]
   cases decide ((i:Int)=j)<;>rfl
  ·rw[qn (by exact_mod_cast h),if_neg h];rfl
 ·unfold others
  cases qt (fun k=>!decide ((k:Int)=j)&&qpo r.1 (r.2.1.getD k []) row) 0 r.2.1.length<;>rfl
def qvu (r:Rel) (row:Row):Rel×Int:=
 if qdv r=true∧qj8 r.1 row=true then
  match qnb r (qo row r.1.2.1) with
  | some j=>if others r row j=true then (r,3) else ((r.1,r.2.1.set j row,()),0)
  | none=>(r,4)
 else (r,1)
theorem qbna {X:Ext} (hX:XOk X) {n:Nat} (hn:W+9≤n) (r:Rel) (hr:RelSm r) (row:Row) (hw:row.length≤M):q0t (DD X n) r row=some (((qvu r row).1,(qvu r row).2,()),()):=by
 obtain ⟨n,rfl⟩:∃ k,n=k+1:=⟨n - 1,by omega⟩
 have hM:=qbo
 have hb:=qb0
 rw[qbkv hX]
 simp only[q0j,q7d]
 rw[qbci hX (by omega) r hr,qe,qu1 hX (by omega) r hr,qe,q0y hX (by omega) r.1 hr.sch row hw,qe,qf8 hX (by omega) r.1 row hw hr.sch.key,qe]
 dsimp only
 rw[qblo hX (by omega) r hr,qe]
 dsimp only
 rw[qbe5 hX (by omega) r hr row hw,qe]
 unfold qvu
 cases qdv r
 ·rfl
 ·cases qj8 r.1 row
  ·rfl
  ·cases hk:qnb r (qo row r.1.2.1) with
   | none=>rfl
   | some j=>
    have hj:=qbop hk
    dsimp only
    rw[qn (show ¬ (j:Int)<0 by omega),ix hj,br_t,qj (show 0+row.length≤q0 by omega)]
    cases others r row j<;>rfl
end Go.G

namespace Go.G
set_option maxRecDepth 100000
open Go Go.V Go.Proofs
def qfb (r:Rel) (key:Row):Nat:=match qx (fun i=>!tlt (qo (r.2.1.getD i []) r.1.2.1) key) 0 r.2.1.length with | some j=>j | none=>r.2.1.length
theorem qbmn (r:Rel) (key:Row):qfb r key≤r.2.1.length:=by
 unfold qfb
 split
 ·rename_i j h
  have:=qc9 h;omega
 ·exact Nat.le_refl _
def q0n (r:Rel) (row:Row):Rel×Int:=
 if qdv r=true∧qj8 r.1 row=true then
  match qnb r (qo row r.1.2.1) with
  | some j=>(r,2)
  | none=>if others r row (-1)=true then (r,3) else if (r.2.1.length:Int)≥12 then (r,5) else
   ((r.1,r.2.1.take (qfb r (qo row r.1.2.1))++[row]++r.2.1.drop (qfb r (qo row r.1.2.1)),()),0)
 else (r,1)
theorem qbvt {X:Ext} (hX:XOk X) (N n:Nat) (hN:W+1≤N) (r:Rel) (hr:RelSm r) (row:Row) (hw:row.length≤M) (z:Rel) (p:Nat) (hp:p≤r.2.1.length) :
  qiz (DD X N) n row (p:Int) r z r=some (((r.1,r.2.1.take p++[row]++r.2.1.drop p,()),0,()),()):=by
 have hM:=qbo
 have hb:=qb0
 have h2:=hr.rows
 have c1:(decide ((0:Nat)≤0)&&decide ((0:Int)≤(p:Int))&&decide ((p:Int)≤(r.2.1.length:Int)))=true:=by
  rw[decide_eq_true (by omega),decide_eq_true (by omega),decide_eq_true (by omega)];rfl
 have c2:(decide ((0:Int)≤(p:Int))&&decide ((p:Int)≤(r.2.1.length:Int))&&decide ((r.2.1.length:Int)≤(r.2.1.length:Int)))=true:=by
  rw[decide_eq_true (by omega),decide_eq_true (by omega),decide_eq_true (by omega)];rfl
 have t1:List.drop (Int.toNat 0) (List.take p r.2.1)=r.2.1.take p:=rfl
 simp only[qiz]
 rw[c1,br_t,c2,Int.toNat_natCast,Int.toNat_natCast,t1,List.take_length,q1i hX hN _ (by rw[List.length_take];omega) (fun x hx=>hr.row x (List.mem_of_mem_take hx)),qe]
 dsimp only
 rw[qj (by omega),qj (by rw[List.length_take];omega),br_t,q1i hX hN _ (by rw[List.length_drop];omega) (fun x hx=>hr.row x (List.mem_of_mem_drop hx)),qe]
 dsimp only
 rw[qj (by simp only[List.length_append,List.length_take,List.length_drop,List.length_cons,List.length_nil];omega)]
 rfl
theorem qbn5 {X:Ext} (hX:XOk X) {n:Nat} (hn:W+9≤n) (r:Rel) (hr:RelSm r) (row:Row) (hw:row.length≤M):q1v (DD X n) r row=some (((q0n r row).1,(q0n r row).2,()),()):=by
 obtain ⟨n,rfl⟩:∃ k,n=k+1:=⟨n - 1,by omega⟩
 have hM:=qbo
 have hW:=qbm
 have hb:=qb0
 have h2:=hr.rows
 have hk:=hr.sch.key
 rw[qbnh hX]
 simp only[q1t,q2s,qwv]
 rw[qbci hX (by omega) r hr,qe,qu1 hX (by omega) r hr,qe,q0y hX (by omega) r.1 hr.sch row hw,qe,qf8 hX (by omega) r.1 row hw hk,qe]
 dsimp only
 rw[qblo hX (by omega) r hr,qe]
 dsimp only
 rw[qbe5 hX (by omega) r hr row hw,qe]
 unfold q0n
 cases qdv r
 ·rfl
 ·cases qj8 r.1 row
  ·rfl
  ·rw[if_pos ⟨rfl,rfl⟩,Bool.not_true,br_f,br_f]
   cases hkey:qnb r (qo row r.1.2.1) with
   | some j=>
    dsimp only
    rw[qj (show (j:Int)≥0 by omega)]
   | none=>
    dsimp only
    rw[qn (by decide)]
    cases others r row (-1)
    ·rw[br_f,if_neg Bool.noConfusion]
     by_cases h12:(r.2.1.length:Int)≥12
     ·rw[qj h12,if_pos h12]
     ·rw[qn h12,if_neg h12]
      refine Eq.trans (qp9 (L:=fun m i=>qk2 (DD X n) n _ m row (i:Int) r (([],[],[],()),[],()) r) (N:=r.2.1.length) (P:=fun i=>!tlt (qo (r.2.1.getD i []) r.1.2.1) (qo row r.1.2.1))
       (A:=fun j=>qiz (DD X n) n row (j:Int) r (([],[],[],()),[],()) r) (B:=qiz (DD X n) n row (r.2.1.length:Int) r (([],[],[],()),[],()) r) (fun m i hi=>?_) (m:=n) (by omega)) ?_
      ·simp only[qk2,qyu]
       by_cases h:i<r.2.1.length
       ·have l1:=qf3 (r.2.1.getD i []) r.1.2.1
        rw[qj (by exact_mod_cast h),ix h,br_t,Int.toNat_natCast,qf8 hX (by omega) r.1 _ (hr.row _ (qbx h)) hk,qe,qf8 hX (by omega) r.1 row hw hk,qe]
        dsimp only
        rw[q6b hX (by omega) _ _ (by omega),qe,qp (by omega),if_pos h]
        dsimp only
        cases tlt (qo (r.2.1.getD i []) r.1.2.1) (qo row r.1.2.1)<;>rfl
       ·have hin:i=r.2.1.length:=by omega
        rw[qn (by exact_mod_cast h),if_neg h,hin]
      ·unfold qfb
       cases hf:qx (fun i=>!tlt (qo (r.2.1.getD i []) r.1.2.1) (qo row r.1.2.1)) 0 r.2.1.length with
       | none=>exact qbvt hX n n (by omega) r hr row hw _ _ (Nat.le_refl _)
       | some j=>
        have:=qc9 hf
        exact qbvt hX n n (by omega) r hr row hw _ j (by omega)
    ·rfl
def qzd (r:Rel) (key:Row):Rel×Int:=
 if qdv r=true then
  match qnb r key with
  | some j=>((r.1,r.2.1.take j++r.2.1.drop (j+1),()),0)
  | none=>(r,4)
 else (r,1)
theorem qbpu {X:Ext} (hX:XOk X) {n:Nat} (hn:W+9≤n) (r:Rel) (hr:RelSm r) (key:Row):q2p (DD X n) r key=some (((qzd r key).1,(qzd r key).2,()),()):=by
 obtain ⟨n,rfl⟩:∃ k,n=k+1:=⟨n - 1,by omega⟩
 have hM:=qbo
 have hW:=qbm
 have hb:=qb0
 have h2:=hr.rows
 rw[qbm2 hX]
 simp only[q2a,q91]
 rw[qbci hX (by omega) r hr,qe,qu1 hX (by omega) r hr,qe,qblo hX (by omega) r hr,qe]
 unfold qzd
 cases qdv r
 ·rfl
 ·rw[if_pos rfl,Bool.not_true,br_f]
  cases hkey:qnb r key with
  | none=>rfl
  | some j=>
   have hj:=qbop hkey
   dsimp only
   have w1:IntKind.wrap IntKind.i64 ((j:Int)+1)=((j+1:Nat):Int):=qp (by omega)
   have c1:(decide ((0:Nat)≤0)&&decide ((0:Int)≤(j:Int))&&decide ((j:Int)≤(r.2.1.length:Int)))=true:=by
    rw[decide_eq_true (by omega),decide_eq_true (by omega),decide_eq_true (by omega)];rfl
   have c2:(decide ((0:Int)≤((j+1:Nat):Int))&&decide (((j+1:Nat):Int)≤(r.2.1.length:Int))&&decide ((r.2.1.length:Int)≤(r.2.1.length:Int)))=true:=by
    rw[decide_eq_true (by omega),decide_eq_true (by omega),decide_eq_true (by omega)];rfl
   have t1:List.drop (Int.toNat 0) (List.take j r.2.1)=r.2.1.take j:=rfl
   rw[qn (show ¬ (j:Int)<0 by omega),c1,br_t,w1,c2,Int.toNat_natCast,Int.toNat_natCast,Int.toNat_natCast,t1,List.take_length,q1i hX (by omega) _ (by rw[List.length_take];omega) (fun x hx=>hr.row x (List.mem_of_mem_take hx)),qe]
   dsimp only
   rw[br_t,q1i hX (by omega) _ (by rw[List.length_drop];omega) (fun x hx=>hr.row x (List.mem_of_mem_drop hx)),qe]
   dsimp only
   rw[qj (by simp only[List.length_take,List.length_drop];omega)]
end Go.G

namespace Go.G
set_option maxRecDepth 100000
open Go Go.V Go.Proofs
theorem qbc5:∀ (x y:List UInt8),Op.bytesLess x y=decide (x<y)
 | [],[]=>by simp[Op.bytesLess]
 | _::_,[]=>by simp[Op.bytesLess]
 | [],_::_=>by simp[Op.bytesLess]
 | a::x,b::y=>by
  rw[Op.bytesLess,qbc5 x y]
  simp only[List.cons_lt_cons_iff]
  by_cases h1:a<b<;>by_cases h2:a=b<;>by_cases h3:x<y<;>simp[h1,h2,h3]
theorem qbbr {a b:ByteArray} (h:a.toList=b.toList):a=b:=by
 have h2:a.data.toList=b.data.toList:=by simpa [ByteArray.toList_eq] using h
 cases a;cases b
 simp only[ByteArray.mk.injEq]
 exact Array.toList_inj.1 h2
theorem qbc0 (a b:Value):vlt a b=true↔a.1<b.1∨(a.1=b.1∧(a.2.1<b.2.1∨(a.2.1=b.2.1∧a.2.2.1.toList<b.2.2.1.toList))):=by
 simp only[vlt,qbc5]
 by_cases h1:a.1=b.1
 ·by_cases h2:a.2.1=b.2.1
  ·rw[decide_eq_true h1,decide_eq_true h2];simp[h1,h2]
  ·rw[decide_eq_true h1,decide_eq_false h2];simp[h1,h2]
 ·rw[decide_eq_false h1];simp[h1]
theorem qbr1 (a:Value):¬ vlt a a=true:=by
 rw[qbc0]
 rintro (h | ⟨_,h | ⟨_,h⟩⟩)
 ·omega
 ·omega
 ·exact List.lt_irrefl _ h
theorem qbtr {a b c:Value} (h:vlt a b=true) (k:vlt b c=true):vlt a c=true:=by
 rw[qbc0] at *
 rcases h with h | ⟨h,h2⟩
 ·rcases k with k | ⟨k,_⟩
  ·exact .inl (by omega)
  ·exact .inl (by omega)
 ·rcases k with k | ⟨k,k2⟩
  ·exact .inl (by omega)
  ·refine .inr ⟨by omega,?_⟩
   rcases h2 with h2 | ⟨h2,h3⟩
   ·rcases k2 with k2 | ⟨k2,_⟩
    ·exact .inl (by omega)
    ·exact .inl (by omega)
   ·rcases k2 with k2 | ⟨k2,k3⟩
    ·exact .inl (by omega)
    ·exact .inr ⟨by omega,List.lt_trans h3 k3⟩
theorem qbtv (a b:Value):vlt a b=true∨a=b∨vlt b a=true:=by
 rw[qbc0,qbc0]
 obtain ⟨a1,a2,a3,⟨⟩⟩:=a
 obtain ⟨b1,b2,b3,⟨⟩⟩:=b
 dsimp only
 by_cases h1:a1<b1
 ·exact .inl (.inl h1)
 ·by_cases h2:b1<a1
  ·exact .inr (.inr (.inl h2))
  ·have e1:a1=b1:=by omega
   by_cases h3:a2<b2
   ·exact .inl (.inr ⟨e1,.inl h3⟩)
   ·by_cases h4:b2<a2
    ·exact .inr (.inr (.inr ⟨e1.symm,.inl h4⟩))
    ·have e2:a2=b2:=by omega
     by_cases h5:a3.toList<b3.toList
     ·exact .inl (.inr ⟨e1,.inr ⟨e2,h5⟩⟩)
     ·by_cases h6:b3.toList<a3.toList
      ·exact .inr (.inr (.inr ⟨e1.symm,.inr ⟨e2.symm,h6⟩⟩))
      ·have e3:a3=b3:=qbbr (List.le_antisymm (List.not_lt.1 h6) (List.not_lt.1 h5))
       subst e1;subst e2;subst e3
       exact .inr (.inl rfl)
theorem qbba:∀ {a b c:Row},tlt a b=true→tlt b c=true→tlt a c=true
 | [],[],_,h,_=>by simp[tlt] at h
 | [],_::_,[],_,k=>by simp[tlt] at k
 | [],_::_,_::_,_,_=>rfl
 | _::_,[],_,h,_=>by simp[tlt] at h
 | _::_,_::_,[],_,k=>by simp[tlt] at k
 | x::a,y::b,z::c,h,k=>by
  simp only[tlt] at *
  by_cases e1:x=y
  ·subst e1
   rw[if_pos rfl] at h
   by_cases e2:x=z
   ·rw[if_pos e2] at k ⊢;exact qbba h k
   ·rw[if_neg e2] at k ⊢;exact k
  ·rw[if_neg e1] at h
   by_cases e2:y=z
   ·subst e2;rw[if_neg e1];exact h
   ·rw[if_neg e2] at k
    have:=qbtr h k
    rw[if_neg (fun e=>qbr1 x (by rw[←e] at this;exact this))]
    exact this
theorem qbmf:∀ (a b:Row),tlt a b=true∨a=b∨tlt b a=true
 | [],[]=>.inr (.inl rfl)
 | [],_::_=>.inl rfl
 | _::_,[]=>.inr (.inr rfl)
 | x::a,y::b=>by
  simp only[tlt]
  by_cases e:x=y
  ·subst e
   rw[if_pos rfl,if_pos rfl]
   rcases qbmf a b with h | h | h
   ·exact .inl h
   ·exact .inr (.inl (by rw[h]))
   ·exact .inr (.inr h)
  ·rw[if_neg e,if_neg (fun k=>e k.symm)]
   rcases qbtv x y with h | h | h
   ·exact .inl h
   ·exact absurd h e
   ·exact .inr (.inr h)
def qbc4 (s:qbf) (a b:Row):Prop:=tlt (qo a s.2.1) (qo b s.2.1)=true∧qpo s a b=false
theorem qwi (r:Rel):qdv r=true↔qg9 r.1=true∧r.2.1.length≤12∧(∀ x∈r.2.1,qj8 r.1 x=true)∧r.2.1.Pairwise (qbc4 r.1):=by
 simp only[qdv,Bool.and_eq_true,Bool.not_eq_true',decide_eq_true_eq]
 constructor
 ·rintro ⟨h1,h2,h3⟩
  have hb:∀ i,i<r.2.1.length→qng r.1 r.2.1 i=false:=fun i hi=>qbn.1 h1 i (by omega) (by omega)
  refine ⟨h2,by omega,fun x hx=>?_,?_⟩
  ·obtain ⟨i,hi,rfl⟩:=List.mem_iff_getElem.1 hx
   have:=hb i hi
   simp only[qng,Bool.or_eq_false_iff,Bool.not_eq_false'] at this
   rw[←qbh (d:=[]) hi];exact this.1
  ·have hk:∀ d i,i+d+1<r.2.1.length→tlt (qo (r.2.1.getD i []) r.1.2.1) (qo (r.2.1.getD (i+d+1) []) r.1.2.1)=true:=by
    intro d
    induction d with
    | zero=>
     intro i hi
     have:=hb (i+1) (by omega)
     simp only[qng,Bool.or_eq_false_iff,Bool.not_eq_false',Bool.and_eq_false_iff,decide_eq_false_iff_not,Nat.add_sub_cancel] at this
     exact this.2.1.resolve_left (by omega)
    | succ d ih=>
     intro i hi
     have h4:=ih i (by omega)
     have:=hb (i+d+2) (by omega)
     simp only[qng,Bool.or_eq_false_iff,Bool.not_eq_false',Bool.and_eq_false_iff,decide_eq_false_iff_not] at this
     have h5:=this.2.1.resolve_left (by omega)
     exact qbba h4 h5
   refine List.pairwise_iff_getElem.2 fun i j hi hj hij=>⟨?_,?_⟩
   ·obtain ⟨d,rfl⟩:∃ d,j=i+d+1:=⟨j - i - 1,by omega⟩
    have:=hk d i hj
    rw[qbh hi,qbh hj] at this
    exact this
   ·have:=hb j hj
    simp only[qng,Bool.or_eq_false_iff] at this
    have:=qbn.1 this.2.2 i (by omega) (by omega)
    rw[qbh hi,qbh hj,qw9] at this
    exact this
 ·rintro ⟨h1,h2,h3,h4⟩
  have hp:=List.pairwise_iff_getElem.1 h4
  refine ⟨qbn.2 fun i _ hi=>?_,h1,by omega⟩
  have hi:i<r.2.1.length:=by omega
  simp only[qng,Bool.or_eq_false_iff,Bool.not_eq_false']
  refine ⟨h3 _ (qbx hi),?_,qbn.2 fun k _ hk=>?_⟩
  ·by_cases h0:0<i
   ·have hi1:i - 1<r.2.1.length:=by omega
    rw[decide_eq_true h0,Bool.true_and,qbh hi,qbh hi1,(hp (i - 1) i hi1 hi (by omega)).1];rfl
   ·rw[decide_eq_false h0,Bool.false_and]
  ·have hk2:k<r.2.1.length:=by omega
   rw[qbh hi,qbh hk2,qw9]
   exact (hp k i hk2 hi (by omega)).2
theorem qbry {r:Rel} {key:Row} (h:qnb r key=none):∀ x∈r.2.1,qo x r.1.2.1≠key:=by
 intro x hx e
 obtain ⟨i,hi,rfl⟩:=List.mem_iff_getElem.1 hx
 have:=qk8 h i (by omega) (by omega)
 simp only[qbhd,decide_eq_false_iff_not] at this
 rw[qbh hi] at this
 exact this e
theorem qbta {r:Rel} {key:Row} {i:Nat} (hi:i<qfb r key) (hl:i<r.2.1.length):tlt (qo (r.2.1.getD i []) r.1.2.1) key=true:=by
 unfold qfb at hi
 split at hi
 ·rename_i j h
  have:=(qc9 h).2.2.2 i (by omega) hi
  simpa using this
 ·rename_i h
  have:=qk8 h i (by omega) (by omega)
  simpa using this
theorem qbsr {r:Rel} {key:Row} (hl:qfb r key<r.2.1.length):tlt (qo (r.2.1.getD (qfb r key) []) r.1.2.1) key=false:=by
 unfold qfb at *
 split at hl
 ·rename_i j h
  have:=(qc9 h).2.2.1
  simpa using this
 ·omega
theorem qbqn {α:Type} {l:List α} {n:Nat} {x:α} (h:x∈l.take n):∃ i,∃ hi:i<l.length,i<n∧x=l[i]:=by
 obtain ⟨i,hi,rfl⟩:=List.mem_iff_getElem.1 h
 rw[List.length_take] at hi
 exact ⟨i,by omega,by omega,by rw[List.getElem_take]⟩
theorem qbqj {α:Type} {l:List α} {n:Nat} {x:α} (h:x∈l.drop n):∃ i,∃ hi:i<l.length,n≤i∧x=l[i]:=by
 obtain ⟨i,hi,rfl⟩:=List.mem_iff_getElem.1 h
 rw[List.length_drop] at hi
 exact ⟨n+i,by omega,by omega,by rw[List.getElem_drop]⟩
def put (r:Rel) (row:Row):Rel:=(r.1,r.2.1.take (qfb r (qo row r.1.2.1))++[row]++r.2.1.drop (qfb r (qo row r.1.2.1)),())
theorem qbqo {r:Rel} {row:Row} (h:others r row (-1)=false):∀ x∈r.2.1,qpo r.1 x row=false:=by
 intro x hx
 obtain ⟨i,hi,rfl⟩:=List.mem_iff_getElem.1 hx
 have:=qbn.1 h i (by omega) (by omega)
 rw[decide_eq_false (show ¬ (i:Int) = -1 by omega),Bool.not_false,Bool.true_and,qbh hi] at this
 exact this
theorem qbsy {r:Rel} {key:Row} (hp:r.2.1.Pairwise (qbc4 r.1)) (hk:∀ x∈r.2.1,qo x r.1.2.1≠key) {i:Nat} (hl:i<r.2.1.length) (hi:qfb r key≤i):tlt key (qo (r.2.1.getD i []) r.1.2.1)=true:=by
 have hpl:qfb r key<r.2.1.length:=by omega
 have h0:tlt key (qo (r.2.1.getD (qfb r key) []) r.1.2.1)=true:=by
  rcases qbmf (qo (r.2.1.getD (qfb r key) []) r.1.2.1) key with h | h | h
  ·rw[qbsr hpl] at h;cases h
  ·exact absurd h (hk _ (qbx hpl))
  ·exact h
 by_cases e:i=qfb r key
 ·rw[e];exact h0
 ·have:=(List.pairwise_iff_getElem.1 hp (qfb r key) i hpl hl (by omega)).1
  rw[←qbh (d:=[]) hpl,←qbh (d:=[]) hl] at this
  exact qbba h0 this
theorem qbxo {r:Rel} {row:Row} (hok:qdv r=true) (hrow:qj8 r.1 row=true) (hk:qnb r (qo row r.1.2.1)=none) (ho:others r row (-1)=false) (hl:r.2.1.length<12):qdv (put r row)=true:=by
 obtain ⟨h1,h2,h3,h4⟩:=(qwi r).1 hok
 have hkn:=qbry hk
 have hon:=qbqo ho
 have hle:=qbmn r (qo row r.1.2.1)
 have hsplit:(r.2.1.take (qfb r (qo row r.1.2.1))++r.2.1.drop (qfb r (qo row r.1.2.1))).Pairwise (qbc4 r.1):=by rw[List.take_append_drop];exact h4
 obtain ⟨p1,p2,p3⟩:=List.pairwise_append.1 hsplit
 refine (qwi _).2 ⟨h1,?_,?_,?_⟩
 ·simp only[put,List.length_append,List.length_take,List.length_drop,List.length_cons,List.length_nil];omega
 ·intro x hx
  simp only[put,List.mem_append,List.mem_singleton] at hx
  rcases hx with (hx | rfl) | hx
  ·exact h3 x (List.mem_of_mem_take hx)
  ·exact hrow
  ·exact h3 x (List.mem_of_mem_drop hx)
 ·show (r.2.1.take (qfb r (qo row r.1.2.1))++[row]++r.2.1.drop (qfb r (qo row r.1.2.1))).Pairwise (qbc4 r.1)
  have hlo:∀ a∈r.2.1.take (qfb r (qo row r.1.2.1)),qbc4 r.1 a row:=fun a ha=>by
   obtain ⟨i,hi,hip,rfl⟩:=qbqn ha
   have:=qbta hip hi
   rw[qbh hi] at this
   exact ⟨this,hon _ (List.getElem_mem _)⟩
  have hhi:∀ b∈r.2.1.drop (qfb r (qo row r.1.2.1)),qbc4 r.1 row b:=fun b hb=>by
   obtain ⟨i,hi,hip,rfl⟩:=qbqj hb
   have:=qbsy h4 hkn hi hip
   rw[qbh hi] at this
   exact ⟨this,by rw[qw9];exact hon _ (List.getElem_mem _)⟩
  refine List.pairwise_append.2 ⟨List.pairwise_append.2 ⟨p1,List.pairwise_singleton _ _,fun a ha b hb=>?_⟩,p2,fun a ha b hb=>?_⟩
  ·rw[List.mem_singleton] at hb;subst hb;exact hlo a ha
  ·rcases List.mem_append.1 ha with ha | ha
   ·exact p3 a ha b hb
   ·rw[List.mem_singleton] at ha;subst ha;exact hhi b hb
theorem qbxh {r:Rel} (hok:qdv r=true) (j:Nat):qdv (r.1,r.2.1.take j++r.2.1.drop (j+1),())=true:=by
 obtain ⟨h1,h2,h3,h4⟩:=(qwi r).1 hok
 have hs:(r.2.1.take j++r.2.1.drop (j+1)).Sublist r.2.1:=by
  have:=(List.Sublist.refl (r.2.1.take j)).append (List.drop_sublist 1 (r.2.1.drop j))
  rw[List.take_append_drop,List.drop_drop] at this
  exact this
 exact (qwi _).2 ⟨h1,Nat.le_trans hs.length_le h2,fun x hx=>h3 x (hs.subset hx),h4.sublist hs⟩
theorem qbrw {r:Rel} (hok:qdv r=true) (row:Row):qdv (q0n r row).1=true:=by
 unfold q0n
 split
 ·rename_i hc
  split
  ·exact hok
  ·rename_i hk
   split
   ·exact hok
   ·rename_i ho
    split
    ·exact hok
    ·exact qbxo hok hc.2 hk (by simpa using ho) (by omega)
 ·exact hok
theorem qbrm {r:Rel} (hok:qdv r=true) (key:Row):qdv (qzd r key).1=true:=by
 unfold qzd
 rw[if_pos hok]
 cases qnb r key with
 | some j=>exact qbxh hok _
 | none=>exact hok
theorem qzi {rows:List Row} {j:Nat} {row:Row} (hj:j<rows.length) (i:Nat):(rows.set j row).getD i []=if i=j then row else rows.getD i []:=by
 by_cases e:i=j
 ·subst e
  rw[if_pos rfl,qbh (by rw[List.length_set];exact hj),List.getElem_set_self]
 ·rw[if_neg e]
  simp only[List.getD,List.getElem?_set]
  rw[if_neg (fun k=>e k.symm)]
theorem qbuo {r:Rel} {row:Row} {j:Nat} (hok:qdv r=true) (hrow:qj8 r.1 row=true) (hk:qnb r (qo row r.1.2.1)=some j) (ho:others r row j=false) :
  qdv (r.1,r.2.1.set j row,())=true∧qnb (r.1,r.2.1.set j row,()) (qo row r.1.2.1)=some j:=by
 obtain ⟨_,hj,hkj,_⟩:=qc9 hk
 rw[Nat.zero_add] at hj
 have hkey:∀ i,qo ((r.2.1.set j row).getD i []) r.1.2.1=qo (r.2.1.getD i []) r.1.2.1:=by
  intro i
  rw[qzi hj]
  split
  ·rename_i e
   subst e
   simp only[qbhd,decide_eq_true_eq] at hkj
   exact hkj.symm
  ·rfl
 have hoth:∀ k,k<r.2.1.length→k≠j→qpo r.1 (r.2.1.getD k []) row=false:=by
  intro k h1 h2
  have:=qbn.1 ho k (by omega) (by omega)
  rw[decide_eq_false (by omega),Bool.not_false,Bool.true_and] at this
  exact this
 simp only[qdv,Bool.and_eq_true,Bool.not_eq_true',decide_eq_true_eq] at hok
 obtain ⟨h1,h2,h3⟩:=hok
 constructor
 ·simp only[qdv,Bool.and_eq_true,Bool.not_eq_true',decide_eq_true_eq,List.length_set]
  refine ⟨qbn.2 fun i _ hi=>?_,h2,h3⟩
  have hb:=qbn.1 h1 i (by omega) (by omega)
  simp only[qng,Bool.or_eq_false_iff] at hb ⊢
  obtain ⟨b1,b2,b3⟩:=hb
  refine ⟨?_,?_,qbn.2 fun k _ hk=>?_⟩
  ·rw[qzi hj]
   split
   ·rw[hrow];rfl
   ·exact b1
  ·rw[hkey,hkey];exact b2
  ·have b4:=qbn.1 b3 k (by omega) (by omega)
   rw[qzi hj,qzi hj]
   by_cases e1:i=j
   ·rw[if_pos e1,if_neg (show ¬ k=j by omega),qw9]
    exact hoth k (by omega) (by omega)
   ·rw[if_neg e1]
    by_cases e2:k=j
    ·rw[if_pos e2];exact hoth i (by omega) e1
    ·rw[if_neg e2];exact b4
 ·refine Eq.trans ?_ hk
  unfold qnb
  show qx _ 0 (r.2.1.set j row).length=_
  rw[List.length_set]
  exact q6n fun i _ _=>by
   show decide (qo ((r.2.1.set j row).getD i []) r.1.2.1=_)=decide (qo (r.2.1.getD i []) r.1.2.1=_)
   rw[hkey]
end Go.G

namespace Go.V
open Go
theorem El.take {h:Array Obj} {Pr:BS} {e:Ty} {mi:Mk} {xs:List e.den} {cells:List Value} {Fs:Nat→BS} (k:El h Pr e mi xs cells Fs) (n:Nat) (hn:n≤xs.length) (hl:cells.length=xs.length * e.width):El h Pr e mi (xs.take n) (cells.take (n * e.width)) Fs:=by
 refine ⟨fun i hi=>?_,k.dis⟩
 rw[List.length_take] at hi
 have hin:i<n:=by omega
 have h1:(xs.take n).getD i e.zero=xs.getD i e.zero:=by
  simp only[List.getD,List.getElem?_take]
  rw[if_pos hin]
 have h2:((cells.take (n * e.width)).drop (i * e.width)).take e.width=(cells.drop (i * e.width)).take e.width:=by
  rw[List.drop_take,List.take_take]
  congr 1
  have:(i+1) * e.width≤n * e.width:=Nat.mul_le_mul_right _ hin
  rw[Nat.succ_mul] at this
  omega
 rw[h1,h2]
 exact k.rep i (by omega)
theorem El.drop {h:Array Obj} {Pr:BS} {e:Ty} {mi:Mk} {xs:List e.den} {cells:List Value} {Fs:Nat→BS} (k:El h Pr e mi xs cells Fs) (n:Nat) (hn:n≤xs.length):El h Pr e mi (xs.drop n) (cells.drop (n * e.width)) (fun i=>Fs (n+i)):=by
 refine ⟨fun i hi=>?_,fun i j hij=>k.dis _ _ (by omega)⟩
 rw[List.length_drop] at hi
 have h1:(xs.drop n).getD i e.zero=xs.getD (n+i) e.zero:=by
  simp only[List.getD,List.getElem?_drop]
 have h2:((cells.drop (n * e.width)).drop (i * e.width)).take e.width=(cells.drop ((n+i) * e.width)).take e.width:=by
  rw[List.drop_drop,Nat.add_mul]
 rw[h1,h2]
 exact k.rep (n+i) (by omega)
def upTo (n:Nat) (Fs:Nat→BS) (i:Nat):BS:=if i<n then Fs i else Nil
theorem q48 (n:Nat) (Fs:Nat→BS) (i:Nat):Sub (upTo n Fs i) (Fs i):=by
 unfold upTo
 split
 ·exact Sub.refl _
 ·exact Sub.nil _
theorem El.upTo {h:Array Obj} {Pr:BS} {e:Ty} {mi:Mk} {xs:List e.den} {cells:List Value} {Fs:Nat→BS} (k:El h Pr e mi xs cells Fs):El h Pr e mi xs cells (upTo xs.length Fs):=by
 refine ⟨fun i hi=>?_,fun i j hij=>(k.dis i j hij).mono (q48 _ _ _) (q48 _ _ _)⟩
 have:Go.V.upTo xs.length Fs i=Fs i:=if_pos hi
 rw[this]
 exact k.rep i hi
theorem El.cut {h:Array Obj} {Pr:BS} {e:Ty} {mi:Mk} {xs:List e.den} {cells:List Value} {Fs:Nat→BS} (k:El h Pr e mi xs cells Fs) (i j:Nat) (hij:i≤j) (hj:j≤xs.length) (hl:cells.length=xs.length * e.width) :
  ∃ FF:Nat→BS,El h Pr e mi (xs.take i++xs.drop j) (cells.take (i * e.width)++cells.drop (j * e.width)) FF∧∀ a b,FF a b→∃ c,Fs c b:=by
 have k1:=(k.take i (by omega) hl).upTo
 have k2:=k.drop j hj
 have hlen:(xs.take i).length=i:=by rw[List.length_take];omega
 rw[hlen] at k1
 have hiw:i * e.width≤cells.length:=by rw[hl];exact Nat.mul_le_mul_right _ (by omega)
 have hjw:j * e.width≤cells.length:=by rw[hl];exact Nat.mul_le_mul_right _ hj
 refine ⟨_,El.append k1 k2 (by rw[List.length_take,hlen];omega) (by rw[List.length_drop,List.length_drop,hl,Nat.sub_mul]) (fun a b=>?_),?_⟩
 ·unfold Go.V.upTo
  split
  ·exact k.dis _ _ (by omega)
  ·exact Dis.nil _
 ·intro a b hb
  split at hb
  ·exact ⟨_,q48 _ _ _ b hb⟩
  ·exact ⟨_,hb⟩
theorem El.insert {h:Array Obj} {Pr:BS} {e:Ty} {mi:Mk} {xs ys:List e.den} {c1 c2:List Value} {F1 F2:Nat→BS} (k1:El h Pr e mi xs c1 F1) (k2:El h Pr e mi ys c2 F2) (i:Nat) (hi:i≤xs.length)
  (hl1:c1.length=xs.length * e.width) (hl2:c2.length=ys.length * e.width) (hd:∀ i j,Dis (F1 i) (F2 j)) :
  ∃ FF:Nat→BS,El h Pr e mi (xs.take i++ys++xs.drop i) (c1.take (i * e.width)++c2++c1.drop (i * e.width)) FF∧∀ a b,FF a b→(∃ c,F1 c b)∨∃ c,F2 c b:=by
 have a1:=(k1.take i hi hl1).upTo
 have a3:=k1.drop i hi
 have hlen:(xs.take i).length=i:=by rw[List.length_take];omega
 rw[hlen] at a1
 have hiw:i * e.width≤c1.length:=by rw[hl1];exact Nat.mul_le_mul_right _ hi
 have a12:=El.append a1 k2 (by rw[List.length_take,hlen];omega) hl2 (fun a b=>(hd a b).mono (q48 _ _ _) (Sub.refl _))
 refine ⟨_,El.append a12 a3 (by rw[List.length_append,List.length_append,List.length_take,hlen,hl2,Nat.add_mul];omega) (by rw[List.length_drop,List.length_drop,hl1,Nat.sub_mul]) (fun a b=>?_),?_⟩
 ·skip
  split
  ·unfold Go.V.upTo
   split
   ·exact k1.dis _ _ (by omega)
   ·exact Dis.nil _
  ·exact fun z h1 h2=>hd (i+b) _ z h2 h1
 ·intro a b hb
  split at hb
  ·split at hb
   ·exact .inl ⟨_,q48 _ _ _ b hb⟩
   ·exact .inr ⟨_,hb⟩
  ·exact .inl ⟨_,hb⟩
theorem qbrb {w w2:World} {Pr:BS} {Fs:Nat→BS} {ks:List PK} {a:PDen ks} {vs:List Value} (pre:Pre w.heap Pr Fs ks a vs) {e:Ty} {mi:Mk} {zs:List e.den} {v:Value} {G:BS}
  (rep:Rep w2.heap Pr (.sl e) (.own 0 mi) zs [v] G) (hG:∀ z,G z→May w.heap.size Fs z) (hGP:Dis G Pr) (hGl:∀ z,G z→z<w2.heap.size) (hsz:w.heap.size≤w2.heap.size)
  (o:ODen ks) (out:qgb w2.heap Pr (fun _=>Nil) 0 ks o vs) (fr:WFr (May w.heap.size Fs) w w2) :
  Pst w w2 Pr Fs ks [.val (.sl e) (.own 0 mi)] (zs,()) o vs v Pr (fun i=>if i=0 then G else Nil) (fun _=>Nil) [v] where
 res:=⟨v,[],rfl,⟨[v],rep,rfl⟩,rfl⟩
 val:=rfl
 out:=out
 pr:=Sub.refl _
 prL:=fun b hb=>.inl hb
 gL:=fun i b hb=>by
  split at hb
  ·exact hG b hb
  ·exact hb.elim
 oL:=fun _ _ hb=>hb.elim
 gdis:=fun i j hij=>by
  split
  ·split
   ·omega
   ·exact fun _ _ h=>h.elim
  ·exact Dis.nil _
 odis:=fun _ _ _=>Dis.nil _
 go:=fun _ _=>fun _ _ h=>h.elim
 gp:=fun i=>by
  split
  ·exact hGP
  ·exact Dis.nil _
 op:=fun _=>Dis.nil _
 glim:=fun i b hb=>by
  split at hb
  ·exact hGl b hb
  ·exact hb.elim
 olim:=fun _ _ hb=>hb.elim
 plim:=fun b hb=>Nat.lt_of_lt_of_le (pre.limPr b hb) hsz
 fr:=fr
end Go.V

namespace Go.V
set_option maxRecDepth 100000
set_option maxHeartbeats 4000000
open Go Go.Proofs Go.RowKit Go.Lib
theorem qbic:Tryz.f88.ntmps=95:=by kernel_rfl
theorem qbqy (a1:Option Addr) (n c m:Nat) (a2:Option Addr) (c2:Nat) (w w3:World) (v3:Value) (hm:0<m) (hc:n≤c) (h1:(∃ b,a1=some ⟨b,0,none⟩)∨(n=0∧c=0))
  (hr:∀ ty,(Builtin.append_ #[29,29] ty #[.slice a1 n c,.slice a2 m c2]).run Tryz.prog w=.ok v3 w3) :
  Calls Tryz.prog 88 #[.slice a1 n c,.int .i64 n,.slice a2 m c2] w fun e w'=>e=.returned v3∧w'=w3:=by
 have mx:=mixed
 have u67:Tryz.prog.underlying 29=some (.slice 32):=by kernel_rfl
 have v67:=run_underlying u67
 have hz1:¬ ((m:Int)=0):=by omega
 rcases h1 with ⟨b,rfl⟩ | ⟨rfl,rfl⟩
 ·go_enter Tryz.func88,qbic
  go_wp2_with (at_builtin;refine Lib.wpList_append_run _ rfl _ _ _ _ rfl _ _ rfl rfl _ _ (hr _) ?_)
  all_goals (try (go_ret;exact ⟨rfl,rfl⟩))
 ·cases a1 with
  | none=>
   go_enter Tryz.func88,qbic
   go_wp2_with (at_builtin;refine Lib.wpList_append_run _ rfl _ _ _ _ rfl _ _ rfl rfl _ _ (hr _) ?_)
   all_goals (try (go_ret;exact ⟨rfl,rfl⟩))
  | some a0=>
   go_enter Tryz.func88,qbic
   go_wp2_with (at_builtin;refine Lib.wpList_append_run _ rfl _ _ _ _ rfl _ _ rfl rfl _ _ (hr _) ?_)
   all_goals (try (go_ret;exact ⟨rfl,rfl⟩))
end Go.V

namespace Go.V
set_option maxRecDepth 100000
set_option maxHeartbeats 4000000
open Go Go.Proofs Go.RowKit Go.Lib
theorem qbuk (b n c i m:Nat) (a2:Addr) (c2 B G:Nat) (w w1 w2 w3:World) (r2 r3:Value) (hi:i<n) (hm:0<m) (hnc:n≤c) (hroom:c<n+m) (hG:n+m≤G) (hs63:n+m≤9223372036854775807)
  (hA:∀ ty,(Builtin.append_ #[29,3] ty #[.slice (some ⟨b,0,none⟩) i c,.int .i64 ((n:Int)+(m:Int) - (i:Int))]).run Tryz.prog w=.ok (.slice (some ⟨B,0,none⟩) (n+m) G) w1)
  (hB:∀ ty,(Builtin.copy_ #[29,29] ty #[.slice (some ⟨B,i,none⟩) (n+m - i) (G - i),.slice (some a2) m c2]).run Tryz.prog w1=.ok r2 w2)
  (hC:∀ ty,(Builtin.copy_ #[29,29] ty #[.slice (some ⟨B,i+m,none⟩) (n+m - (i+m)) (G - (i+m)),.slice (some ⟨b,i,none⟩) (n - i) (c - i)]).run Tryz.prog w2.drew=.ok r3 w3) :
  Calls Tryz.prog 88 #[.slice (some ⟨b,0,none⟩) n c,.int .i64 i,.slice (some a2) m c2] w fun e w'=>e=.returned (.slice (some ⟨B,0,none⟩) (n+m) G)∧w'=w3:=by
 have mx:=mixed
 have u67:Tryz.prog.underlying 29=some (.slice 32):=by kernel_rfl
 have u3:Tryz.prog.underlying 3=some (.int .i64):=by kernel_rfl
 have v67:=run_underlying u67
 have v3:=run_underlying u3
 have s38:(Tryz.prog.info? 32).map (·.size)=some 1:=by kernel_rfl
 obtain ⟨i0,hi0⟩:∃ i0,Tryz.prog.info? 32=some i0:=by cases h:Tryz.prog.info? 32 with | none=>rw[h] at s38;cases s38 | some x=>exact ⟨x,rfl⟩
 have hs0:i0.size=1:=by rw[hi0] at s38;simpa using s38
 have hz1:¬ ((m:Int)=0):=by omega
 have hz2:¬ ((i:Int)=(n:Int)):=by omega
 have hz3:(c:Int)<(n:Int)+(m:Int):=by omega
 have hw1:IntKind.i64.wrap ((i:Int)+(m:Int))=(i:Int)+(m:Int):=by rw[IntKind.wrap_i64];omega
 have hb1:(0:Int)≤(i:Int)+(m:Int):=by omega
 have hin:i≤n:=by omega
 have htn:((i:Int)+(m:Int)).toNat=i+m:=by omega
 have hb3:(i:Int)≤(n:Int):=by omega
 have hGi:¬ (G=i):=by omega
 have hGim:¬ (G=i+m):=by omega
 have hci:¬ (c=i):=by omega
 go_enter Tryz.func88,qbic
 go_wp2_with (first
  | (at_builtin;refine Lib.wpList_append_run _ rfl _ _ _ _ rfl _ _ rfl rfl _ _ (hA _) ?_)
  | (at_builtin;refine wpList_copy_runI _ rfl _ _ 29 29 rfl _ _ rfl rfl (hB _) ?_))
 go_region_law_o (refine step_copy_runI rfl _ _ 29 29 rfl (.slice (some ⟨B,i+m,none⟩) (n+m - (i+m)) (G - (i+m))) (.slice (some ⟨b,i,none⟩) (n - i) (c - i)) (by simp[Act.eval,Act.put]) (by simp[Act.eval,Act.put]) (hC _) ?_)
 go_wp2
 go_ret
 exact ⟨rfl,rfl⟩
theorem qbs7 (b n c i m:Nat) (a2:Addr) (c2:Nat) (w w1 w2:World) (r1 r2:Value) (hi:i<n) (hm:0<m) (hroom:n+m≤c) (hs63:n+m≤9223372036854775807)
  (hov:∀ lb cb,(callFunc 154 #[.slice (some a2) m c2,.slice (some ⟨b,i+m,none⟩) lb cb]).run Tryz.prog w=.ok (.value (.bool false)) w)
  (hB:∀ ty dc sc,(Builtin.copy_ #[29,29] ty #[.slice (some ⟨b,i+m,none⟩) (n+m - (i+m)) dc,.slice (some ⟨b,i,none⟩) (n+m - i) sc]).run Tryz.prog w.drew=.ok r1 w1)
  (hC:∀ ty dc,(Builtin.copy_ #[29,29] ty #[.slice (some ⟨b,i,none⟩) (n+m - i) dc,.slice (some a2) m c2]).run Tryz.prog w1=.ok r2 w2) :
  Calls Tryz.prog 88 #[.slice (some ⟨b,0,none⟩) n c,.int .i64 i,.slice (some a2) m c2] w fun e w'=>e=.returned (.slice (some ⟨b,0,none⟩) (n+m) c)∧w'=w2:=by
 have mx:=mixed
 have u67:Tryz.prog.underlying 29=some (.slice 32):=by kernel_rfl
 have u3:Tryz.prog.underlying 3=some (.int .i64):=by kernel_rfl
 have v67:=run_underlying u67
 have v3:=run_underlying u3
 have s38:(Tryz.prog.info? 32).map (·.size)=some 1:=by kernel_rfl
 obtain ⟨i0,hi0⟩:∃ i0,Tryz.prog.info? 32=some i0:=by cases h:Tryz.prog.info? 32 with | none=>rw[h] at s38;cases s38 | some x=>exact ⟨x,rfl⟩
 have hs0:i0.size=1:=by rw[hi0] at s38;simpa using s38
 have hz1:¬ ((m:Int)=0):=by omega
 have hz2:¬ ((i:Int)=(n:Int)):=by omega
 have hw1:IntKind.i64.wrap ((i:Int)+(m:Int))=(i:Int)+(m:Int):=by rw[IntKind.wrap_i64];omega
 have hb1:(0:Int)≤(i:Int)+(m:Int):=by omega
 have hin:i≤n:=by omega
 have htn:((i:Int)+(m:Int)).toNat=i+m:=by omega
 have hb2:¬ (c=i+m):=by omega
 have hb3:(i:Int)≤(n:Int)+(m:Int):=by omega
 have hb4:¬ (c=i):=by omega
 go_enter Tryz.func88,qbic
 go_wp2_with (simp only[hov])
 go_region_law_o (refine step_copy_runI rfl _ _ 29 29 rfl _ _ (by simp[Act.eval,Act.put]) (by simp[Act.eval,Act.put]) (hB _ _ _) ?_)
 go_wp2_with (at_builtin;refine wpList_copy_runI _ rfl _ _ 29 29 rfl _ _ rfl rfl (hC _ _) ?_)
 go_ret
 exact ⟨rfl,rfl⟩
end Go.V

namespace Go.V
set_option maxRecDepth 100000
set_option maxHeartbeats 4000000
open Go Go.Proofs Go.RowKit Go.Lib
theorem qbx0:Tryz.f95.ntmps=33:=by kernel_rfl
theorem qbft {P:Program} {ops:Array Oper} {o:Oper} {a:Act} {w:World} {K:Act→World→Prop} {Q:Exit→Act→World→Prop} {E:Prop}
  (hg:o.guard=none) (d x:Operand) (dT sT:TypeId) (hop:o.op=Op.call { callee:=Callee.builtin Builtin.append,args:=#[d,x],argTypes:=#[dT,sT] })
  (v u:Value) (hd:a.eval d=v) (hx:a.eval x=u) {v':Value} {w':World} (hr:(Builtin.append_ #[dT,sT] o.type #[v,u]).run P w=.ok v' w') (hK:K (a.put o.dst v') w') :
  if Region.wanted o (yielded ops a.tmps)=true then Oper.wp P o a w K Q else E:=by
 have hw:Region.wanted o (yielded ops a.tmps)=true:=by simp[Region.wanted,hg]
 rw[if_pos hw]
 exact Lib.wp_append_run w d x dT sT hop v u hd hx v' w' hr hK
theorem qbu9 (b n c i j:Nat) (w w1 w2:World) (r2:Value) (hij:i<j) (hj:j≤n) (hnc:n≤c) (hn63:n≤9223372036854775807)
  (hA:∀ ty a,(a=(if c=j then some (⟨b,0,none⟩:Addr) else some ⟨b,j,none⟩))→(Builtin.append_ #[29,29] ty #[.slice (some ⟨b,0,none⟩) i c,.slice a (n - j) (c - j)]).run Tryz.prog w.drew=.ok (.slice (some ⟨b,0,none⟩) (i+(n - j)) c) w1)
  (hC:∀ ty,(Builtin.clear_ #[29] ty #[.slice (some ⟨b,i+(n - j),none⟩) (n - (i+(n - j))) (c - (i+(n - j)))]).run Tryz.prog w1=.ok r2 w2) :
  Calls Tryz.prog 95 #[.slice (some ⟨b,0,none⟩) n c,.int .i64 i,.int .i64 j] w fun e w'=>e=.returned (.slice (some ⟨b,0,none⟩) (i+(n - j)) c)∧w'=w2:=by
 have mx:=mixed
 have u67:Tryz.prog.underlying 29=some (.slice 32):=by kernel_rfl
 have u3:Tryz.prog.underlying 3=some (.int .i64):=by kernel_rfl
 have v67:=run_underlying u67
 have v3:=run_underlying u3
 have s38:(Tryz.prog.info? 32).map (·.size)=some 1:=by kernel_rfl
 obtain ⟨i0,hi0⟩:∃ i0,Tryz.prog.info? 32=some i0:=by cases h:Tryz.prog.info? 32 with | none=>rw[h] at s38;cases s38 | some x=>exact ⟨x,rfl⟩
 have hs0:i0.size=1:=by rw[hi0] at s38;simpa using s38
 have hz2:¬ ((i:Int)=(j:Int)):=by omega
 have hij':i≤j:=by omega
 have hic:i≤c:=by omega
 have hjc:j≤c:=by omega
 have hin:i≤n:=by omega
 have hk1:i+(n - j)≤n:=by omega
 have hk2:i+(n - j)≤c:=by omega
 have hk3:¬ (c=i+(n - j)):=by omega
 obtain ⟨A,hAe⟩:∃ A:Option Addr,A=(if c=j then some (⟨b,0,none⟩:Addr) else some ⟨b,j,none⟩):=⟨_,rfl⟩
 go_enter Tryz.func95,qbx0
 go_wp2_with fail
 go_region_law_o (refine qbft rfl (.tmp 22) (.tmp 25) 29 29 rfl _ _ (by simp[Act.eval,Act.put]) (by simp[Act.eval,Act.put]) (hA _ _ rfl) ?_)
 all_goals (go_wp2_with (simp only[hC]))
 all_goals (try (go_ret;exact ⟨rfl,rfl⟩))
end Go.V

namespace Go.V
set_option maxRecDepth 100000
open Go Go.Proofs Go.RowKit
abbrev TVal:Ty:=.pair (.int .i64) (.pair (.int .i64) (.pair .str .unit))
abbrev TRow:Ty:=.sl TVal
abbrev SigD:Sig:=⟨[.own (.sl TRow) (Mk.top (.sl TRow)),.val (.int .i64),.val (.int .i64)],[.val (.sl TRow) (Mk.top (.sl TRow))]⟩
theorem sigD:ctx.sig 95=SigD:=by kernel_rfl
def delD (xs:List TRow.den) (i j:Int):Option (List TRow.den):=if 0≤i∧i<j∧j≤xs.length∧xs.length≤q0 then some (xs.take i.toNat++xs.drop j.toNat) else none
theorem qbxg:qbhp Tryz.prog SigD 95 fun a=>(delD a.1 a.2.1 a.2.2.1).map fun r=>((r,()),()):=by
 intro a r h w Pr Fs vs pre
 obtain ⟨xs,i,j,⟨⟩⟩:=a
 change List TRow.den at xs
 change Int at i
 change Int at j
 obtain ⟨v1,vs1,rfl,⟨c1,rep1,rfl⟩,v2,vs2,rfl,⟨c2,r2,rfl⟩,v3,vs3,rfl,⟨c3,r3,rfl⟩,k3⟩:=pre.rel
 obtain rfl:vs3=[]:=k3
 simp only[Rep] at r2 r3
 subst r2
 subst r3
 dsimp only at h
 unfold delD at h
 split at h
 ·rename_i hc
  obtain ⟨h0,hij,hj,hbd⟩:=hc
  replace hbd:xs.length≤274877906944:=hbd
  replace h0:0≤i:=h0
  replace hij:i<j:=hij
  replace hj:j≤xs.length:=hj
  simp only[Option.map_some,Option.some.injEq] at h
  subst h
  obtain ⟨i,rfl⟩:=Int.eq_ofNat_of_zero_le h0
  obtain ⟨j,rfl⟩:=Int.eq_ofNat_of_zero_le (show 0≤j by omega)
  obtain ⟨ad,cap,cells,F,rfl,hl,hlc,hsrc,el,hF,hown⟩:=qmq (by simp[Mk.top]) (by simp[Mk.top]) rep1
  rcases hown 0 _ rfl with hc0 | ⟨b,cs,rfl,hbF,hbo,hcapb,hFb,hcells⟩
  ·replace hlc:xs.length≤cap:=hlc
   omega
  ·have hw1:TRow.width=1:=rfl
   replace hlc:xs.length≤cap:=hlc
   replace hl:cells.length=xs.length:=by rw[hl,hw1,Nat.mul_one]
   replace hcapb:cap≤cs.size:=by rw[hw1,Nat.mul_one] at hcapb;exact hcapb
   replace hcells:cells=sub cs 0 xs.length:=by rw[hcells,hw1,Nat.mul_one]
   have hij2:i<j:=by omega
   have hj2:j≤xs.length:=by omega
   have u67:Tryz.prog.underlying 29=some (.slice 32):=by kernel_rfl
   have s38:(Tryz.prog.info? 32).map (·.size)=some 1:=by kernel_rfl
   obtain ⟨i0,hi0⟩:∃ i0,Tryz.prog.info? 32=some i0:=by cases h:Tryz.prog.info? 32 with | none=>rw[h] at s38;cases s38 | some x=>exact ⟨x,rfl⟩
   have hs0:i0.size=1:=by rw[hi0] at s38;simpa using s38
   have hcd:cells.drop j=sub cs j (xs.length - j):=by
    rw[hcells]
    simp only[sub,List.drop_zero,List.drop_take]
   have hdl:(cells.drop j).length=xs.length - j:=by rw[List.length_drop,hl]
   have hone:∀ u∈cells.drop j,u.oneCell'=true:=by
    intro u hu
    obtain ⟨k,hk,rfl⟩:=List.getElem_of_mem hu
    rw[hdl] at hk
    have hk2:j+k<xs.length:=by omega
    have r:=el.rep (j+k) hk2
    refine Rep.one _ r _ ?_
    rw[hw1,Nat.mul_one,List.mem_iff_getElem?]
    refine ⟨0,?_⟩
    rw[List.getElem?_take,if_pos (by omega),List.getElem?_drop,Nat.add_zero,List.getElem_drop,List.getElem?_eq_getElem]
   have hA:∀ ty a,(a=(if cap=j then some (⟨b,0,none⟩:Addr) else some ⟨b,j,none⟩))→(Builtin.append_ #[29,29] ty #[.slice (some ⟨b,0,none⟩) i cap,.slice a (xs.length - j) (cap - j)]).run Tryz.prog w.drew=.ok (.slice (some ⟨b,0,none⟩) (i+(xs.length - j)) cap) (w.drew.setCells b i (cells.drop j)):=by
    intro ty a ha
    refine qlp (P:=Tryz.prog) w.drew (ty:=ty) rfl rfl u67 u67 hi0 (news:=cells.drop j) ?_ (by omega) (fun ad e=>?_) (fun e=>by simp at e)
    ·rw[hs0]
     refine qg6 (by rw[hdl,Nat.mul_one]) ?_
     by_cases h0:xs.length - j=0
     ·exact .inl ⟨h0,List.length_eq_zero_iff.1 (by rw[hdl,h0])⟩
     ·refine .inr ⟨b,j,by rw[ha,if_neg (by omega)],?_⟩
      rw[hcd]
      exact qdk (qbz hbo.blk (by omega))
    ·simp only[Option.some.injEq] at e
     subst e
     rw[Addr.add_mid,Nat.zero_add,hs0,Nat.mul_one]
     have th:=qe3 (w:=w) (o:=i) (n:=(cells.drop j).length) hbo (by rw[hdl];omega)
     have:=run_storeCells_cells (P:=Tryz.prog) b i (cells.drop j) 0 w.drew (fun t ht=>by simpa using (th t ht).1) (fun t ht=>by simpa using (th t ht).2) hone
     simpa using this
   obtain ⟨ty,lo,hi,he,hfz⟩:=hbo
   have hfit:i+(cells.drop j).length≤cs.size:=by rw[hdl];omega
   obtain ⟨cs1,hcs1,hcs1l⟩:=qdq (cells.drop j) i w.drew cs he hfit
   have hsz1:cs1.size=cs.size:=by rw[←Array.length_toList,hcs1l,qcl (by simpa using hfit),Array.length_toList]
   have hob1:qbg (w.drew.setCells b i (cells.drop j)).heap b cs1:=⟨ty,lo,hi,hcs1,fun t ht=>hfz t (by omega)⟩
   let zs:List Value:=List.replicate (xs.length - (i+(xs.length - j))) (.slice none 0 0)
   have hzl:zs.length=xs.length - (i+(xs.length - j)):=List.length_replicate
   have hfit2:i+(xs.length - j)+zs.length≤cs1.size:=by rw[hzl];omega
   have th1:=qe3 (w:=w.drew.setCells b i (cells.drop j)) (o:=i+(xs.length - j)) (n:=zs.length) hob1 hfit2
   have hC:∀ ty,(Builtin.clear_ #[29] ty #[.slice (some ⟨b,i+(xs.length - j),none⟩) (xs.length - (i+(xs.length - j))) (cap - (i+(xs.length - j)))]).run Tryz.prog (w.drew.setCells b i (cells.drop j))=.ok (.tuple #[]) ((w.drew.setCells b i (cells.drop j)).setCells b (i+(xs.length - j)) zs):=fun ty=>
    Lib.run_clear_slice _ 29 32 ty (.slice none 0 0) u67 (fun w=>by kernel_rfl) rfl rfl b _ _ _ (by omega) (fun t ht=>(th1 t (by rw[hzl];exact ht)).1) (fun t ht=>(th1 t (by rw[hzl];exact ht)).2)
   obtain ⟨cs2,hcs2,hcs2l⟩:=qdq zs (i+(xs.length - j)) _ cs1 hcs1 hfit2
   have hsz2:cs2.size=cs1.size:=by rw[←Array.length_toList,hcs2l,qcl (by simpa using hfit2),Array.length_toList]
   have hob2:qbg ((w.drew.setCells b i (cells.drop j)).setCells b (i+(xs.length - j)) zs).heap b cs2:=⟨ty,lo,hi,hcs2,fun t ht=>hfz t (by omega)⟩
   have hother:∀ b',b'≠b→((w.drew.setCells b i (cells.drop j)).setCells b (i+(xs.length - j)) zs).heap[b']? = w.heap[b']?:=fun b' hb'=>(qbi zs _ _ b' hb').trans (qbi (cells.drop j) _ w.drew b' hb')
   have hPb:¬ Pr b:=fun hb=>pre.prot 0 b hbF hb
   obtain ⟨FF,elc,hFF⟩:=el.cut i j (by omega) hj2 (by rw[hw1,Nat.mul_one];exact hl)
   have hFFb:∀ a,¬ FF a b:=fun a hb=>by obtain ⟨c,hc⟩:=hFF a b hb;exact hFb c hc
   have el2:=elc.mono (h':=((w.drew.setCells b i (cells.drop j)).setCells b (i+(xs.length - j)) zs).heap) (Sub.refl _) (fun b' hb'=>hother b' (fun e0=>hPb (e0 ▸ hb'))) (fun a b' hb'=>hother b' (fun e0=>hFFb a (e0 ▸ hb')))
   have hlen:(xs.take i++xs.drop j).length=i+(xs.length - j):=by rw[List.length_append,List.length_take,List.length_drop];omega
   have htake:cs2.toList.take (i+(xs.length - j))=cells.take (i * TRow.width)++cells.drop (j * TRow.width):=by
    have h7:cs.toList.length=cs.size:=Array.length_toList
    rw[hcs2l,hw1,Nat.mul_one,Nat.mul_one]
    have e1:cs1.toList.take (i+(xs.length - j))=cells.take i++cells.drop j:=by
     rw[hcs1l]
     simp only[repl]
     rw[List.take_append_of_le_length (by rw[List.length_append,List.length_take,hdl];omega),List.take_of_length_le (by rw[List.length_append,List.length_take,hdl];omega)]
     congr 1
     rw[hcells]
     simp only[sub,List.drop_zero,List.take_take]
     congr 1;omega
    rw[←e1]
    simp only[repl]
    have h8:cs1.toList.length=cs1.size:=Array.length_toList
    rw[List.append_assoc,List.take_append_of_le_length (by rw[List.length_take];omega),List.take_take,Nat.min_self]
   have rep2:=el2.row hob2 (cap:=cap) (by rw[hw1,Nat.mul_one];omega) (by rw[hlen];omega) (fun t ht=>qqy htake (by rw[hw1,Nat.mul_one];rw[hlen] at ht;omega)) hFFb 0
   rw[hlen] at rep2
   have hrest1:=qck (b:=b) (cells.drop j) i w.drew
   have hrest2:=qck (b:=b) zs (i+(xs.length - j)) (w.drew.setCells b i (cells.drop j))
   have hsize:((w.drew.setCells b i (cells.drop j)).setCells b (i+(xs.length - j)) zs).heap.size=w.heap.size:=by rw[q9,q9];rfl
   have hGF:∀ z,(z=b∨∃ t,FF t z)→Fs 0 z:=by
    rintro z (rfl | ⟨t,ht⟩)
    ·exact hbF
    ·obtain ⟨c,hc⟩:=hFF t z ht;exact hF c z hc
   refine (qbu9 b xs.length cap i j w _ _ _ hij2 hj2 hlc (by omega) hA hC).mono ?_
   rintro e w' ⟨rfl,rfl⟩
   exact ⟨_,Pr,_,_,_,rfl,qbrb pre rep2 (fun z hz=>.inr ⟨0,hGF z hz⟩) (fun z hz hp=>pre.prot 0 z (hGF z hz) hp) (fun z hz=>by rw[hsize];exact pre.lim 0 z (hGF z hz)) (by rw[hsize];exact Nat.le_refl _) () ⟨_,_,rfl,_,_,rfl,_,_,rfl,rfl⟩
    ⟨hrest2.1.trans hrest1.1,hrest2.2.1.trans hrest1.2.1,hrest2.2.2.trans hrest1.2.2,by rw[hsize];exact Nat.le_refl _,fun b' _ hb'=>hother b' (fun e0=>hb' (e0 ▸ .inr ⟨0,hbF⟩))⟩⟩
 ·simp at h
end Go.V

namespace Go.V
set_option maxRecDepth 100000
open Go Go.Proofs Go.RowKit
abbrev SigI:Sig:=⟨[.own (.sl TRow) (Mk.top (.sl TRow)),.val (.int .i64),.own (.sl TRow) (Mk.top (.sl TRow))],[.val (.sl TRow) (Mk.top (.sl TRow))]⟩
theorem sigI:ctx.sig 88=SigI:=by kernel_rfl
def insD (xs:List TRow.den) (i:Int) (ys:List TRow.den):Option (List TRow.den):=if 0≤i∧i≤xs.length∧0<ys.length∧xs.length+ys.length≤q0 then some (xs.take i.toNat++ys++xs.drop i.toNat) else none
theorem qwo {w w2:World} {Pr:BS} {Fs:Nat→BS} {ks:List PK} {a:PDen ks} {vs:List Value} (pre:Pre w.heap Pr Fs ks a vs) {e:Ty} {mi:Mk} {zs:List e.den} {cells:List Value} {FF:Nat→BS} {B cap:Nat} {cs:Array Value}
  (el:El w.heap Pr e mi zs cells FF) (hFF:∀ t b,FF t b→∃ k,Fs k b) (hob:qbg w2.heap B cs) (hcap:cap * e.width≤cs.size) (hl:zs.length≤cap) (htake:cs.toList.take (zs.length * e.width)=cells)
  (hB:B=w.heap.size∨(∃ k,Fs k B)) (hFB:∀ t,¬ FF t B) (hother:∀ b',b'<w.heap.size→b'≠B→w2.heap[b']? = w.heap[b']?) (hsz:w.heap.size≤w2.heap.size) (hBl:B<w2.heap.size)
  (h1:w2.os=w.os) (h2:w2.tape=w.tape) (h3:w2.output=w.output) (o:ODen ks) (out:qgb w2.heap Pr (fun _=>Nil) 0 ks o vs) :
  ∃ val Pr' Gs Os us,(Value.slice (some ⟨B,0,none⟩) zs.length cap)=val∧Pst w w2 Pr Fs ks [.val (.sl e) (.own 0 mi)] (zs,()) o vs val Pr' Gs Os us:=by
 have hFl:∀ t b,FF t b→b<w.heap.size:=fun t b hb=>by obtain ⟨k,hk⟩:=hFF t b hb;exact pre.lim k b hk
 have hPB:¬ Pr B:=fun hb=>by
  rcases hB with rfl | ⟨k,hk⟩
  ·exact Nat.lt_irrefl _ (pre.limPr _ hb)
  ·exact pre.prot k B hk hb
 have el2:=el.mono (h':=w2.heap) (Sub.refl _) (fun b' hb'=>hother b' (pre.limPr b' hb') (fun e0=>hPB (e0 ▸ hb'))) (fun t b' hb'=>hother b' (hFl t b' hb') (fun e0=>hFB t (e0 ▸ hb')))
 have rep:=el2.row hob (cap:=cap) hcap hl (fun t ht=>qqy htake (by
  have:=Nat.mul_le_mul_right e.width (show t+1≤zs.length by exact ht)
  rw[Nat.succ_mul] at this;exact this)) hFB 0
 have hG:∀ z,(z=B∨∃ t,FF t z)→May w.heap.size Fs z:=by
  rintro z (rfl | ⟨t,ht⟩)
  ·rcases hB with e0 | hk
   ·exact .inl (by omega)
   ·exact .inr hk
  ·exact .inr (hFF t z ht)
 refine ⟨_,Pr,_,_,_,rfl,qbrb pre rep hG (fun z hz hp=>?_) (fun z hz=>?_) hsz o out ⟨h1,h2,h3,hsz,fun b' hb1 hb'=>hother b' hb1 (fun e0=>hb' ?_)⟩⟩
 ·rcases hz with rfl | ⟨t,ht⟩
  ·exact hPB hp
  ·obtain ⟨k,hk⟩:=hFF t z ht;exact pre.prot k z hk hp
 ·rcases hz with rfl | ⟨t,ht⟩
  ·exact hBl
  ·exact Nat.lt_of_lt_of_le (hFl t z ht) hsz
 ·subst e0
  exact hG b' (.inl rfl)
theorem El.one {h:Array Obj} {Pr:BS} {mi:Mk} {xs:List TRow.den} {cells:List Value} {F:Nat→BS} (el:El h Pr TRow mi xs cells F) (hl:cells.length=xs.length):∀ u∈cells,u.oneCell'=true:=by
 intro u hu
 obtain ⟨k,hk,rfl⟩:=List.getElem_of_mem hu
 have hk2:k<xs.length:=by omega
 have r:=el.rep k hk2
 have hw1:TRow.width=1:=rfl
 refine Rep.one _ r _ ?_
 rw[hw1,Nat.mul_one,List.mem_iff_getElem?]
 refine ⟨0,?_⟩
 rw[List.getElem?_take,if_pos (by omega),List.getElem?_drop,Nat.add_zero,List.getElem?_eq_getElem]
theorem qbvq {l D C:List Value} {i m:Nat} (hC:C.length=m) (hl:i+m+D.length≤l.length):(repl (repl l (i+m) D) i C).take (i+m+D.length)=l.take i++C++D:=by
 have hA:(l.take (i+m)).length=i+m:=by rw[List.length_take];omega
 have e1:(repl l (i+m) D).take i=l.take i:=by
  simp only[repl]
  rw[List.append_assoc,List.take_append_of_le_length (by omega),List.take_take]
  congr 1;omega
 have e2:(repl l (i+m) D).drop (i+m)=D++l.drop (i+m+D.length):=by
  simp only[repl]
  rw[List.append_assoc,List.drop_append_of_le_length (by omega),List.drop_eq_nil_of_le (by omega),List.nil_append]
 have e3:repl (repl l (i+m) D) i C=(l.take i++C++D)++l.drop (i+m+D.length):=by
  show (repl l (i+m) D).take i++C++(repl l (i+m) D).drop (i+C.length)=_
  rw[e1,hC,e2];simp only[List.append_assoc]
 rw[e3,List.take_append_of_le_length (by simp only[List.length_append,List.length_take];omega),List.take_of_length_le (by simp only[List.length_append,List.length_take];omega)]
theorem qbvz {l D C:List Value} {i m:Nat} (hC:C.length=m) (hl:i+m+D.length≤l.length):(repl (repl l i C) (i+m) D).take (i+m+D.length)=l.take i++C++D:=by
 have hA:(l.take i++C).length=i+m:=by rw[List.length_append,List.length_take];omega
 have e1:(repl l i C).take (i+m)=l.take i++C:=by
  show (l.take i++C++l.drop (i+C.length)).take (i+m)=_
  rw[List.take_append_of_le_length (by omega),List.take_of_length_le (by omega)]
 show ((repl l i C).take (i+m)++D++(repl l i C).drop (i+m+D.length)).take (i+m+D.length)=_
 rw[e1,List.take_append_of_le_length (by rw[List.length_append];omega),List.take_of_length_le (by rw[List.length_append];omega)]
theorem qbxd:qbhp Tryz.prog SigI 88 fun a=>(insD a.1 a.2.1 a.2.2.1).map fun r=>((r,()),()):=by
 intro a r h w Pr Fs vs pre
 obtain ⟨xs,i,ys,⟨⟩⟩:=a
 change List TRow.den at xs
 change Int at i
 change List TRow.den at ys
 obtain ⟨v1,vs1,rfl,⟨c1,rep1,rfl⟩,v2,vs2,rfl,⟨c2,r2,rfl⟩,v3,vs3,rfl,⟨c3,rep3,rfl⟩,k3⟩:=pre.rel
 obtain rfl:vs3=[]:=k3
 simp only[Rep] at r2
 subst r2
 dsimp only at h
 unfold insD at h
 split at h
 ·rename_i hc
  obtain ⟨h0,hi,hm,hbd⟩:=hc
  replace h0:0≤i:=h0
  replace hi:i≤xs.length:=hi
  replace hm:0<ys.length:=hm
  replace hbd:xs.length+ys.length≤274877906944:=hbd
  simp only[Option.map_some,Option.some.injEq] at h
  subst h
  obtain ⟨i,rfl⟩:=Int.eq_ofNat_of_zero_le h0
  have hi2:i≤xs.length:=by omega
  obtain ⟨ad1,cap1,cells1,F1,rfl,hl1,hlc1,hsrc1,el1,hF1,hown1⟩:=qmq (by simp[Mk.top]) (by simp[Mk.top]) rep1
  obtain ⟨ad2,cap2,cells2,F2,rfl,hl2,hlc2,hsrc2,el2,hF2,hown2⟩:=qmq (by simp[Mk.top]) (by simp[Mk.top]) rep3
  have hw1:TRow.width=1:=rfl
  replace hlc1:xs.length≤cap1:=hlc1
  replace hlc2:ys.length≤cap2:=hlc2
  have hl1':cells1.length=xs.length:=by rw[hl1,hw1,Nat.mul_one]
  have hl2':cells2.length=ys.length:=by rw[hl2,hw1,Nat.mul_one]
  rcases hown2 0 _ rfl with hc0 | ⟨b2,cs2,rfl,hbF2,hbo2,hcapb2,hFb2,hcells2⟩
  ·exact absurd hc0 (by omega)
  replace hcapb2:cap2≤cs2.size:=by rw[hw1,Nat.mul_one] at hcapb2;exact hcapb2
  replace hcells2:cells2=sub cs2 0 ys.length:=by rw[hcells2,hw1,Nat.mul_one]
  have hd12:∀ p q,Dis (F1 p) (F2 q):=fun p q=>(pre.dis 0 2 (by decide)).mono (hF1 p) (hF2 q)
  obtain ⟨FF,elz,hFF⟩:=El.insert el1 el2 i hi2 (by rw[hl1]) (by rw[hl2]) hd12
  rw[hw1,Nat.mul_one] at elz
  have hFs:∀ t b,FF t b→∃ k,Fs k b:=fun t b hb=>by
   rcases hFF t b hb with ⟨c,hc⟩ | ⟨c,hc⟩
   ·exact ⟨0,hF1 c b hc⟩
   ·exact ⟨2,hF2 c b hc⟩
  have hlz:(xs.take i++ys++xs.drop i).length=xs.length+ys.length:=by simp only[List.length_append,List.length_take,List.length_drop];omega
  have hone1:=el1.one hl1'
  have hone2:=el2.one hl2'
  have u67:Tryz.prog.underlying 29=some (.slice 32):=by kernel_rfl
  have u3:Tryz.prog.underlying 3=some (.int .i64):=by kernel_rfl
  obtain ⟨i0,hi0,hs0,hz0,hb0⟩:∃ i0,Tryz.prog.info? 32=some i0∧i0.size=1∧i0.zero=some (.slice none 0 0)∧i0.bytes=24:=by
   have k:((Tryz.prog.info? 32).map fun x=>(x.size,x.zero,x.bytes))=some (1,some (.slice none 0 0),24):=by kernel_rfl
   cases h:Tryz.prog.info? 32 with
   | none=>rw[h] at k;cases k
   | some x=>
    rw[h] at k
    simp only[Option.map_some,Option.some.injEq,Prod.mk.injEq] at k
    exact ⟨x,rfl,k.1,k.2.1,k.2.2⟩
  have hn2:(Builtin.firstCells i0.size ys.length (.slice (some ⟨b2,0,none⟩) ys.length cap2)).run Tryz.prog w=.ok cells2.toArray w:=by
   rw[hs0]
   exact qg6 (by rw[hl2',Nat.mul_one]) (.inr ⟨b2,0,rfl,by rw[hcells2];exact qbz hbo2.blk (by omega)⟩)
  have ht0:cells1.take xs.length=cells1:=List.take_of_length_le (by omega)
  have hd0:cells1.drop xs.length=[]:=List.drop_eq_nil_of_le (by omega)
  have houts:∀ (h:Array Obj) (v1 v2 v3:Value),qgb h Pr (fun _=>Nil) 0 SigI.params () [v1,v2,v3]:=fun h v1 v2 v3=>⟨_,_,rfl,_,_,rfl,_,_,rfl,rfl⟩
  by_cases hend:i=xs.length
  ·subst hend
   rw[ht0,hd0,List.append_nil] at elz
   by_cases hroom:xs.length+ys.length≤cap1
   ·rcases hown1 0 _ rfl with hc0 | ⟨b1,cs1,rfl,hbF1,hbo1,hcapb1,hFb1,hcells1⟩
    ·exact absurd hc0 (by omega)
    replace hcapb1:cap1≤cs1.size:=by rw[hw1,Nat.mul_one] at hcapb1;exact hcapb1
    replace hcells1:cells1=sub cs1 0 xs.length:=by rw[hcells1,hw1,Nat.mul_one]
    have hfit:xs.length+cells2.length≤cs1.size:=by omega
    have hr:∀ ty,(Builtin.append_ #[29,29] ty #[.slice (some ⟨b1,0,none⟩) xs.length cap1,.slice (some ⟨b2,0,none⟩) ys.length cap2]).run Tryz.prog w=.ok (.slice (some ⟨b1,0,none⟩) (xs.length+ys.length) cap1) (w.setCells b1 xs.length cells2):=fun ty=>
     qlp (P:=Tryz.prog) w (ty:=ty) rfl rfl u67 u67 hi0 hn2 hroom (fun ad e=>by
      simp only[Option.some.injEq] at e
      subst e
      rw[Addr.add_mid,Nat.zero_add,hs0,Nat.mul_one]
      have th:=qe3 (w:=w) (o:=xs.length) (n:=cells2.length) hbo1 hfit
      have:=run_storeCells_cells (P:=Tryz.prog) b1 xs.length cells2 0 w (fun t ht=>by simpa using (th t ht).1) (fun t ht=>by simpa using (th t ht).2) hone2
      simpa using this) (fun e=>by simp at e)
    obtain ⟨ty,lo,hi',he,hfz⟩:=hbo1
    obtain ⟨cs3,hcs3,hcs3l⟩:=qdq cells2 xs.length w cs1 he hfit
    have hsz3:cs3.size=cs1.size:=by rw[←Array.length_toList,hcs3l,qcl (by simpa using hfit),Array.length_toList]
    have hob3:qbg (w.setCells b1 xs.length cells2).heap b1 cs3:=⟨ty,lo,hi',hcs3,fun t ht=>hfz t (by omega)⟩
    have h7:cs1.toList.length=cs1.size:=Array.length_toList
    have htake:cs3.toList.take ((xs.take xs.length++ys++xs.drop xs.length).length * TRow.width)=cells1++cells2:=by
     rw[hw1,Nat.mul_one,hlz,hcs3l,hcells1]
     simp only[repl,sub,List.drop_zero]
     rw[List.take_append_of_le_length (by rw[List.length_append,List.length_take,hl2'];omega),List.take_of_length_le (by rw[List.length_append,List.length_take,hl2'];omega)]
    have hrest:=qck (b:=b1) cells2 xs.length w
    have hFBb:∀ t,¬ FF t b1:=fun t hb=>by
     rcases hFF t b1 hb with ⟨c,hc⟩ | ⟨c,hc⟩
     ·exact hFb1 c hc
     ·exact pre.dis 0 2 (by decide) b1 hbF1 (hF2 c b1 hc)
    refine (qbqy (some ⟨b1,0,none⟩) xs.length cap1 ys.length (some ⟨b2,0,none⟩) cap2 w _ _ hm hlc1 (.inl ⟨b1,rfl⟩) hr).mono ?_
    rintro e w' ⟨rfl,rfl⟩
    obtain ⟨val,Pr',Gs,Os,us,hv,hp⟩:=qwo pre elz hFs hob3 (cap:=cap1) (by rw[hw1,Nat.mul_one];omega) (by rw[hlz];exact hroom) htake (.inr ⟨0,hbF1⟩) hFBb (fun b' _ hb'=>qbi cells2 _ w b' hb') (by rw[q9];exact Nat.le_refl _) (by rw[q9];exact pre.lim 0 b1 hbF1) hrest.1 hrest.2.1 hrest.2.2 () (houts _ _ _ _)
    exact ⟨val,Pr',Gs,Os,us,by rw[←hv,hlz],hp⟩
   ·have hg:cap1<xs.length+ys.length:=by omega
    have hn2d:(Builtin.firstCells i0.size ys.length (.slice (some ⟨b2,0,none⟩) ys.length cap2)).run Tryz.prog w.drew=.ok cells2.toArray w.drew:=by
     rw[hs0]
     exact qg6 (by rw[hl2',Nat.mul_one]) (.inr ⟨b2,0,rfl,qdk (by rw[hcells2];exact qbz hbo2.blk (by omega))⟩)
    have hn1d:(Builtin.firstCells i0.size xs.length (.slice ad1 xs.length cap1)).run Tryz.prog w.drew=.ok cells1.toArray w.drew:=by
     rw[hs0]
     refine qg6 (by rw[hl1',Nat.mul_one]) ?_
     rcases hsrc1 with ⟨h1,h2⟩ | ⟨b,o,cs,h1,h2,h3,h4⟩
     ·exact .inl ⟨h1,h2⟩
     ·exact .inr ⟨b,o,h1,qdk (h4 ▸ qbz h2 h3)⟩
    have hfit:Builtin.nextslicecap (xs.length+ys.length) cap1 * i0.bytes≤281474976710656:=by
     have:=Room.nextslicecap_le' (need:=xs.length+ys.length) (old:=cap1) hg
     rw[hb0];omega
    have hr:=fun ty=>qxb (P:=Tryz.prog) w (ats:=#[29,29]) (ty:=ty) rfl rfl u67 u67 hi0 hz0 hn2d hn1d hg (by omega) hfit
    have hge:=grownCap_ge w (xs.length+ys.length) cap1 32
    generalize grownCap w (xs.length+ys.length) cap1 32=cap' at hr hge
    have hzs:(Value.slice none 0 0).cells.size=1:=rfl
    have hcss:(cells1.toArray++cells2.toArray++Builtin.zeroCells (Value.slice none 0 0).cells (cap' - (xs.length+ys.length))).size=cap':=by
     simp only[Array.size_append,List.size_toArray,size_zeroCells,hzs,hl1',hl2'];omega
    have htk:(cells1.toArray++cells2.toArray++Builtin.zeroCells (Value.slice none 0 0).cells (cap' - (xs.length+ys.length))).toList.take (xs.length+ys.length)=cells1++cells2:=by
     simp only[Array.toList_append,List.append_assoc]
     rw[←List.append_assoc,List.take_append_of_le_length (by rw[List.length_append];omega),List.take_of_length_le (by rw[List.length_append];omega)]
    generalize cells1.toArray++cells2.toArray++Builtin.zeroCells (Value.slice none 0 0).cells (cap' - (xs.length+ys.length))=cs at hr hcss htk
    have h1a:(∃ b,ad1=some ⟨b,0,none⟩)∨(xs.length=0∧cap1=0):=by
     rcases hown1 0 _ rfl with hc0 | ⟨b1,cs1,rfl,_⟩
     ·exact .inr ⟨by omega,hc0⟩
     ·exact .inl ⟨b1,rfl⟩
    refine (qbqy ad1 xs.length cap1 ys.length (some ⟨b2,0,none⟩) cap2 w _ _ hm hlc1 h1a hr).mono ?_
    rintro e w' ⟨rfl,rfl⟩
    obtain ⟨val,Pr',Gs,Os,us,hv,hp⟩:=qwo (w2:=w.drew.alloc (.cells cs 32)) pre elz hFs (B:=w.heap.size) (cs:=cs) qbg.new (cap:=cap') (by rw[hw1,Nat.mul_one,hcss];exact Nat.le_refl _) (by rw[hlz];exact hge) (by rw[hw1,Nat.mul_one,hlz];exact htk) (.inl rfl)
     (fun t hb=>by obtain ⟨k,hk⟩:=hFs t _ hb;exact Nat.lt_irrefl _ (pre.lim k _ hk)) (fun b' hb1 _=>qhs b' hb1) (by show w.heap.size≤(w.heap.push _).size;simp) (by show w.heap.size<(w.heap.push _).size;simp) rfl rfl rfl () (houts _ _ _ _)
    exact ⟨val,Pr',Gs,Os,us,by rw[←hv,hlz],hp⟩
  ·have hlt:i<xs.length:=by omega
   rcases hown1 0 _ rfl with hc0 | ⟨b1,cs1,rfl,hbF1,hbo1,hcapb1,hFb1,hcells1⟩
   ·exact absurd hc0 (by omega)
   replace hcapb1:cap1≤cs1.size:=by rw[hw1,Nat.mul_one] at hcapb1;exact hcapb1
   replace hcells1:cells1=sub cs1 0 xs.length:=by rw[hcells1,hw1,Nat.mul_one]
   have hb12:b2≠b1:=fun e=>pre.dis 0 2 (by decide) b1 hbF1 (e ▸ hbF2)
   have hcd:cells1.drop i=sub cs1 i (xs.length - i):=by
    rw[hcells1]
    simp only[sub,List.drop_zero,List.drop_take]
   have hct:cells1.take i=cs1.toList.take i:=by
    rw[hcells1]
    simp only[sub,List.drop_zero,List.take_take]
    congr 1;omega
   have hdl:(cells1.drop i).length=xs.length - i:=by rw[List.length_drop,hl1']
   have honed:∀ u∈cells1.drop i,u.oneCell'=true:=fun u hu=>hone1 u (List.mem_of_mem_drop hu)
   have hFBb:∀ t,¬ FF t b1:=fun t hb=>by
    rcases hFF t b1 hb with ⟨c,hc⟩ | ⟨c,hc⟩
    ·exact hFb1 c hc
    ·exact pre.dis 0 2 (by decide) b1 hbF1 (hF2 c b1 hc)
   have hsz38:(Tryz.prog.info? 32).map (·.size)=some 1:=by rw[hi0];simp[hs0]
   have hel:cells1.take i++cells2++cells1.drop i=(cells1.take i++cells2++cells1.drop i):=rfl
   by_cases hroom:xs.length+ys.length≤cap1
   ·have hov:∀ lb cb,(callFunc 154 #[.slice (some ⟨b2,0,none⟩) ys.length cap2,.slice (some ⟨b1,i+ys.length,none⟩) lb cb]).run Tryz.prog w=.ok (.value (.bool false)) w:=by
     intro lb cb
     obtain ⟨e2,lo2,hi2,he2,hf2⟩:=hbo2
     obtain ⟨e1,lo1,hi1,he1,hf1⟩:=hbo1
     have hnf:∀ k,k≤cs2.size→w.frozen? ⟨b2,k,none⟩=false:=fun k hk=>by
      have:=hf2 k hk
      simp only[World.frozen?,he2]
      simpa using this
     rw[run_callFunc_extern (P:=Tryz.prog) (f:=154) (fn:=Tryz.f154) Tryz.func154 (by kernel_rfl) (by kernel_rfl) (by kernel_rfl) (e:=Extern.SlicesOverlaps.overlaps #[29,29] #[4]) (by kernel_rfl),
      Lib.run_overlaps_apart w 29 4 32 u67 1 (fun w=>by simp[sizeOf,typeInfo,hi0,hs0]) ⟨b2,0,none⟩ ⟨b1,i+ys.length,none⟩ ys.length cap2 lb cb hb12 e2 e1 cs2.size cs1.size (by simp[World.shape?,he2]) (by simp[World.shape?,he1]) (by omega) (hnf 0 (by omega)) (hnf _ (Nat.le_refl _))]
     rfl
    have hfitA:i+ys.length+(cells1.drop i).length≤cs1.size:=by rw[hdl];omega
    have thA:=qe3 (w:=w) (o:=i+ys.length) (n:=(cells1.drop i).length) hbo1 hfitA
    have hB:∀ ty dc sc,(Builtin.copy_ #[29,29] ty #[.slice (some ⟨b1,i+ys.length,none⟩) (xs.length+ys.length - (i+ys.length)) dc,.slice (some ⟨b1,i,none⟩) (xs.length+ys.length - i) sc]).run Tryz.prog w.drew=.ok (goInt (cells1.drop i).length) (w.drew.setCells b1 (i+ys.length) (cells1.drop i)):=fun ty dc sc=>
     run_copy_cells w.drew 29 29 ty 32 b1 (i+ys.length) _ dc ⟨b1,i,none⟩ _ sc (cells1.drop i) u67 hsz38 (by rw[hdl];simp only[Nat.min_def];split<;>omega)
      (fun k v hk=>by rw[Addr.add_mid];exact qdk (w:=w) (b:=b1) (o:=i) (cs:=cells1.drop i) (by rw[hcd];exact qbz hbo1.blk (by omega)) k v hk) (fun k hk=>(thA k hk).1) (fun k hk=>(thA k hk).2) honed
    have hbo1':=hbo1
    obtain ⟨ty,lo,hi',he,hfz⟩:=hbo1
    obtain ⟨cs3,hcs3,hcs3l⟩:=qdq (cells1.drop i) (i+ys.length) w.drew cs1 he hfitA
    have hsz3:cs3.size=cs1.size:=by rw[←Array.length_toList,hcs3l,qcl (by simpa using hfitA),Array.length_toList]
    have hob3:qbg (w.drew.setCells b1 (i+ys.length) (cells1.drop i)).heap b1 cs3:=⟨ty,lo,hi',hcs3,fun t ht=>hfz t (by omega)⟩
    have hfitB:i+cells2.length≤cs3.size:=by omega
    have thB:=qe3 (w:=w.drew.setCells b1 (i+ys.length) (cells1.drop i)) (o:=i) (n:=cells2.length) hob3 hfitB
    have hr2:(w.drew.setCells b1 (i+ys.length) (cells1.drop i)).rangeAt b2 0 cells2:=by
     rw[hcells2]
     exact qbz (Blk.congr hbo2.blk (qbi (cells1.drop i) _ w.drew b2 hb12)) (by omega)
    have hC:∀ ty dc,(Builtin.copy_ #[29,29] ty #[.slice (some ⟨b1,i,none⟩) (xs.length+ys.length - i) dc,.slice (some ⟨b2,0,none⟩) ys.length cap2]).run Tryz.prog (w.drew.setCells b1 (i+ys.length) (cells1.drop i))=.ok (goInt cells2.length) ((w.drew.setCells b1 (i+ys.length) (cells1.drop i)).setCells b1 i cells2):=fun ty dc=>
     run_copy_cells _ 29 29 ty 32 b1 i _ dc ⟨b2,0,none⟩ _ cap2 cells2 u67 hsz38 (by rw[hl2'];simp only[Nat.min_def];split<;>omega)
      (fun k v hk=>by rw[Addr.add_mid];exact hr2 k v hk) (fun k hk=>(thB k hk).1) (fun k hk=>(thB k hk).2) hone2
    obtain ⟨cs4,hcs4,hcs4l⟩:=qdq cells2 i _ cs3 hcs3 hfitB
    have hsz4:cs4.size=cs3.size:=by rw[←Array.length_toList,hcs4l,qcl (by simpa using hfitB),Array.length_toList]
    have hob4:qbg ((w.drew.setCells b1 (i+ys.length) (cells1.drop i)).setCells b1 i cells2).heap b1 cs4:=⟨ty,lo,hi',hcs4,fun t ht=>hfz t (by omega)⟩
    have h7:cs1.toList.length=cs1.size:=Array.length_toList
    have htake:cs4.toList.take ((xs.take i++ys++xs.drop i).length * TRow.width)=cells1.take i++cells2++cells1.drop i:=by
     have e:=qbvq (l:=cs1.toList) (D:=cells1.drop i) (C:=cells2) (i:=i) (m:=ys.length) hl2' (by rw[h7];exact hfitA)
     rw[hw1,Nat.mul_one,hlz,hcs4l,hcs3l,hct]
     rw[show xs.length+ys.length=i+ys.length+(cells1.drop i).length by rw[hdl];omega]
     exact e
    have hrest1:=qck (b:=b1) (cells1.drop i) (i+ys.length) w.drew
    have hrest2:=qck (b:=b1) cells2 i (w.drew.setCells b1 (i+ys.length) (cells1.drop i))
    have hsize:((w.drew.setCells b1 (i+ys.length) (cells1.drop i)).setCells b1 i cells2).heap.size=w.heap.size:=by rw[q9,q9];rfl
    refine (qbs7 b1 xs.length cap1 i ys.length ⟨b2,0,none⟩ cap2 w _ _ _ _ hlt hm hroom (by omega) hov hB hC).mono ?_
    rintro e w' ⟨rfl,rfl⟩
    obtain ⟨val,Pr',Gs,Os,us,hv,hp⟩:=qwo pre elz hFs hob4 (cap:=cap1) (by rw[hw1,Nat.mul_one];omega) (by rw[hlz];exact hroom) htake (.inr ⟨0,hbF1⟩) hFBb
     (fun b' _ hb'=>(qbi cells2 _ _ b' hb').trans (qbi (cells1.drop i) _ w.drew b' hb')) (by rw[hsize];exact Nat.le_refl _) (by rw[hsize];exact pre.lim 0 b1 hbF1) (hrest2.1.trans hrest1.1) (hrest2.2.1.trans hrest1.2.1) (hrest2.2.2.trans hrest1.2.2) () (houts _ _ _ _)
    exact ⟨val,Pr',Gs,Os,us,by rw[←hv,hlz],hp⟩
   ·have hg:cap1<xs.length+ys.length:=by omega
    obtain ⟨K,hK⟩:∃ K,K=xs.length+ys.length - i:=⟨_,rfl⟩
    have hKi:i+K=xs.length+ys.length:=by omega
    have hn1d:(Builtin.firstCells i0.size i (.slice (some ⟨b1,0,none⟩) i cap1)).run Tryz.prog w.drew=.ok (cells1.take i).toArray w.drew:=by
     rw[hs0]
     refine qg6 (by rw[List.length_take,hl1',Nat.mul_one];omega) (.inr ⟨b1,0,rfl,qdk ?_⟩)
     have e:cells1.take i=sub cs1 0 i:=by rw[hct];simp only[sub,List.drop_zero]
     rw[e];exact qbz hbo1.blk (by omega)
    have hfit:Builtin.nextslicecap (i+K) cap1 * i0.bytes≤281474976710656:=by
     have:=Room.nextslicecap_le' (need:=i+K) (old:=cap1) (by omega)
     rw[hb0];omega
    have hr:=fun ty=>Lib.run_append_grow_zeros (P:=Tryz.prog) w 29 3 ty 32 i0 _ .i64 .i64 u67 u3 hi0 hz0 (some ⟨b1,0,none⟩) i cap1 (cells1.take i) hn1d K (by omega) (by omega) (by omega) (by omega) (by rw[hb0];omega) hfit
    have hge:=grownCap_ge w (i+K) cap1 32
    generalize grownCap w (i+K) cap1 32=cap' at hr hge
    have hzs:(Value.slice none 0 0).cells.size=1:=rfl
    have hcss:((cells1.take i).toArray++Builtin.zeroCells (Value.slice none 0 0).cells K++Builtin.zeroCells (Value.slice none 0 0).cells (cap' - (i+K))).size=cap':=by
     simp only[Array.size_append,List.size_toArray,size_zeroCells,hzs,List.length_take,hl1'];omega
    have htk:((cells1.take i).toArray++Builtin.zeroCells (Value.slice none 0 0).cells K++Builtin.zeroCells (Value.slice none 0 0).cells (cap' - (i+K))).toList.take i=cells1.take i:=by
     simp only[Array.toList_append,List.append_assoc]
     rw[List.take_append_of_le_length (by rw[List.length_take,hl1'];omega),List.take_of_length_le (by rw[List.length_take,hl1'];omega)]
    generalize (cells1.take i).toArray++Builtin.zeroCells (Value.slice none 0 0).cells K++Builtin.zeroCells (Value.slice none 0 0).cells (cap' - (i+K))=cs0 at hr hcss htk
    rw[hKi] at hr hge
    have hKI:((K:Nat):Int)=(xs.length:Int)+(ys.length:Int) - (i:Int):=by omega
    rw[hKI] at hr
    have hob0:qbg (w.drew.alloc (.cells cs0 32)).heap w.heap.size cs0:=qbg.new
    have hb1lt:=pre.lim 0 b1 hbF1
    have hb2lt:=pre.lim 2 b2 hbF2
    have hb1B:b1≠w.heap.size:=by omega
    have hb2B:b2≠w.heap.size:=by omega
    have hold:∀ b',b'<w.heap.size→(w.drew.alloc (.cells cs0 32)).heap[b']? = w.heap[b']?:=fun b' hb'=>qhs b' hb'
    have hfitA:i+cells2.length≤cs0.size:=by omega
    have thA:=qe3 (w:=w.drew.alloc (.cells cs0 32)) (o:=i) (n:=cells2.length) hob0 hfitA
    have hr2:(w.drew.alloc (.cells cs0 32)).rangeAt b2 0 cells2:=by
     rw[hcells2]
     exact qbz (Blk.congr hbo2.blk (hold b2 hb2lt)) (by omega)
    have hB:∀ ty,(Builtin.copy_ #[29,29] ty #[.slice (some ⟨w.heap.size,i,none⟩) (xs.length+ys.length - i) (cap' - i),.slice (some ⟨b2,0,none⟩) ys.length cap2]).run Tryz.prog (w.drew.alloc (.cells cs0 32))=.ok (goInt cells2.length) ((w.drew.alloc (.cells cs0 32)).setCells w.heap.size i cells2):=fun ty=>
     run_copy_cells _ 29 29 ty 32 w.heap.size i _ _ ⟨b2,0,none⟩ _ cap2 cells2 u67 hsz38 (by rw[hl2'];simp only[Nat.min_def];split<;>omega)
      (fun k v hk=>by rw[Addr.add_mid];exact hr2 k v hk) (fun k hk=>(thA k hk).1) (fun k hk=>(thA k hk).2) hone2
    obtain ⟨ty,lo,hi',he,hfz⟩:=hob0
    obtain ⟨cs3,hcs3,hcs3l⟩:=qdq cells2 i (w.drew.alloc (.cells cs0 32)) cs0 he hfitA
    have h7:cs0.toList.length=cs0.size:=Array.length_toList
    have hsz3:cs3.size=cs0.size:=by rw[←Array.length_toList,hcs3l,qcl (by simpa using hfitA),Array.length_toList]
    have hob3:qbg ((w.drew.alloc (.cells cs0 32)).setCells w.heap.size i cells2).drew.heap w.heap.size cs3:=⟨ty,lo,hi',hcs3,fun t ht=>hfz t (by omega)⟩
    have hfitB:i+ys.length+(cells1.drop i).length≤cs3.size:=by rw[hdl];omega
    have thB:=qe3 (w:=((w.drew.alloc (.cells cs0 32)).setCells w.heap.size i cells2).drew) (o:=i+ys.length) (n:=(cells1.drop i).length) hob3 hfitB
    have hr1:((w.drew.alloc (.cells cs0 32)).setCells w.heap.size i cells2).drew.rangeAt b1 i (cells1.drop i):=by
     rw[hcd]
     exact qdk (qbz (Blk.congr hbo1.blk ((qbi cells2 _ _ b1 hb1B).trans (hold b1 hb1lt))) (by omega))
    have hC:∀ ty,(Builtin.copy_ #[29,29] ty #[.slice (some ⟨w.heap.size,i+ys.length,none⟩) (xs.length+ys.length - (i+ys.length)) (cap' - (i+ys.length)),.slice (some ⟨b1,i,none⟩) (xs.length - i) (cap1 - i)]).run Tryz.prog ((w.drew.alloc (.cells cs0 32)).setCells w.heap.size i cells2).drew=.ok (goInt (cells1.drop i).length) (((w.drew.alloc (.cells cs0 32)).setCells w.heap.size i cells2).drew.setCells w.heap.size (i+ys.length) (cells1.drop i)):=fun ty=>
     run_copy_cells _ 29 29 ty 32 w.heap.size (i+ys.length) _ _ ⟨b1,i,none⟩ _ _ (cells1.drop i) u67 hsz38 (by rw[hdl];simp only[Nat.min_def];split<;>omega)
      (fun k v hk=>by rw[Addr.add_mid];exact hr1 k v hk) (fun k hk=>(thB k hk).1) (fun k hk=>(thB k hk).2) honed
    obtain ⟨cs4,hcs4,hcs4l⟩:=qdq (cells1.drop i) (i+ys.length) ((w.drew.alloc (.cells cs0 32)).setCells w.heap.size i cells2).drew cs3 hcs3 hfitB
    have hsz4:cs4.size=cs3.size:=by rw[←Array.length_toList,hcs4l,qcl (by simpa using hfitB),Array.length_toList]
    have hob4:qbg (((w.drew.alloc (.cells cs0 32)).setCells w.heap.size i cells2).drew.setCells w.heap.size (i+ys.length) (cells1.drop i)).heap w.heap.size cs4:=⟨ty,lo,hi',hcs4,fun t ht=>hfz t (by omega)⟩
    have htake:cs4.toList.take ((xs.take i++ys++xs.drop i).length * TRow.width)=cells1.take i++cells2++cells1.drop i:=by
     have e:=qbvz (l:=cs0.toList) (D:=cells1.drop i) (C:=cells2) (i:=i) (m:=ys.length) hl2' (by rw[h7];omega)
     rw[hw1,Nat.mul_one,hlz,hcs4l,hcs3l,←htk]
     rw[show xs.length+ys.length=i+ys.length+(cells1.drop i).length by rw[hdl];omega]
     exact e
    have hrest1:=qck (b:=w.heap.size) cells2 i (w.drew.alloc (.cells cs0 32))
    have hrest2:=qck (b:=w.heap.size) (cells1.drop i) (i+ys.length) ((w.drew.alloc (.cells cs0 32)).setCells w.heap.size i cells2).drew
    have hsize:(((w.drew.alloc (.cells cs0 32)).setCells w.heap.size i cells2).drew.setCells w.heap.size (i+ys.length) (cells1.drop i)).heap.size=w.heap.size+1:=by
     rw[q9]
     show ((w.drew.alloc (.cells cs0 32)).setCells w.heap.size i cells2).heap.size=_
     rw[q9];show (w.heap.push _).size=_;simp
    refine (qbuk b1 xs.length cap1 i ys.length ⟨b2,0,none⟩ cap2 w.heap.size cap' w _ _ _ _ _ hlt hm hlc1 hg hge (by omega) hr hB hC).mono ?_
    rintro e w' ⟨rfl,rfl⟩
    obtain ⟨val,Pr',Gs,Os,us,hv,hp⟩:=qwo pre elz hFs hob4 (cap:=cap') (by rw[hw1,Nat.mul_one];omega) (by rw[hlz];exact hge) htake (.inl rfl)
     (fun t hb=>by obtain ⟨k,hk⟩:=hFs t _ hb;exact Nat.lt_irrefl _ (pre.lim k _ hk))
     (fun b' hb1 hb'=>(qbi (cells1.drop i) _ _ b' hb').trans ((qbi cells2 _ _ b' hb').trans (hold b' hb1))) (by rw[hsize];omega) (by rw[hsize];omega) (hrest2.1.trans hrest1.1) (hrest2.2.1.trans hrest1.2.1) (hrest2.2.2.trans hrest1.2.2) () (houts _ _ _ _)
    exact ⟨val,Pr',Gs,Os,us,by rw[←hv,hlz],hp⟩
 ·simp at h
end Go.V

namespace Go.V
set_option maxRecDepth 100000
set_option maxHeartbeats 4000000
open Go Go.Proofs Go.RowKit Go.Lib
theorem nt2:Tryz.f93.ntmps=95:=by kernel_rfl
theorem qboa (a1:Option Addr) (n c m:Nat) (a2:Option Addr) (c2:Nat) (w w3:World) (v3:Value) (hm:0<m) (hc:n≤c) (h1:(∃ b,a1=some ⟨b,0,none⟩)∨(n=0∧c=0))
  (hr:∀ ty,(Builtin.append_ #[35,35] ty #[.slice a1 n c,.slice a2 m c2]).run Tryz.prog w=.ok v3 w3) :
  Calls Tryz.prog 93 #[.slice a1 n c,.int .i64 n,.slice a2 m c2] w fun e w'=>e=.returned v3∧w'=w3:=by
 have mx:=mixed
 have uT:Tryz.prog.underlying 35=some (.slice 42):=by kernel_rfl
 have u3:Tryz.prog.underlying 3=some (.int .i64):=by kernel_rfl
 have vT:=run_underlying uT
 have v3:=run_underlying u3
 have sE:(Tryz.prog.info? 42).map (·.size)=some 2:=by kernel_rfl
 obtain ⟨i0,hi0⟩:∃ i0,Tryz.prog.info? 42=some i0:=by cases h:Tryz.prog.info? 42 with | none=>rw[h] at sE;cases sE | some x=>exact ⟨x,rfl⟩
 have hs0:i0.size=2:=by rw[hi0] at sE;simpa using sE
 have hz1:¬ ((m:Int)=0):=by omega
 rcases h1 with ⟨b,rfl⟩ | ⟨rfl,rfl⟩
 ·go_enter Tryz.func93,nt2
  go_wp2_with (at_builtin;refine Lib.wpList_append_run _ rfl _ _ _ _ rfl _ _ rfl rfl _ _ (hr _) ?_)
  all_goals (try (go_ret;exact ⟨rfl,rfl⟩))
 ·cases a1 with
  | none=>
   go_enter Tryz.func93,nt2
   go_wp2_with (at_builtin;refine Lib.wpList_append_run _ rfl _ _ _ _ rfl _ _ rfl rfl _ _ (hr _) ?_)
   all_goals (try (go_ret;exact ⟨rfl,rfl⟩))
  | some a0=>
   go_enter Tryz.func93,nt2
   go_wp2_with (at_builtin;refine Lib.wpList_append_run _ rfl _ _ _ _ rfl _ _ rfl rfl _ _ (hr _) ?_)
   all_goals (try (go_ret;exact ⟨rfl,rfl⟩))
theorem qbsn (b n c i m:Nat) (a2:Addr) (c2 B G:Nat) (w w1 w2 w3:World) (r2 r3:Value) (hi:i<n) (hm:0<m) (hnc:n≤c) (hroom:c<n+m) (hG:n+m≤G) (hs63:n+m≤9223372036854775807)
  (hA:∀ ty,(Builtin.append_ #[35,3] ty #[.slice (some ⟨b,0,none⟩) i c,.int .i64 ((n:Int)+(m:Int) - (i:Int))]).run Tryz.prog w=.ok (.slice (some ⟨B,0,none⟩) (n+m) G) w1)
  (hB:∀ ty,(Builtin.copy_ #[35,35] ty #[.slice (some ⟨B,i * 2,none⟩) (n+m - i) (G - i),.slice (some a2) m c2]).run Tryz.prog w1=.ok r2 w2)
  (hC:∀ ty,(Builtin.copy_ #[35,35] ty #[.slice (some ⟨B,(i+m) * 2,none⟩) (n+m - (i+m)) (G - (i+m)),.slice (some ⟨b,i * 2,none⟩) (n - i) (c - i)]).run Tryz.prog w2.drew=.ok r3 w3) :
  Calls Tryz.prog 93 #[.slice (some ⟨b,0,none⟩) n c,.int .i64 i,.slice (some a2) m c2] w fun e w'=>e=.returned (.slice (some ⟨B,0,none⟩) (n+m) G)∧w'=w3:=by
 have mx:=mixed
 have uT:Tryz.prog.underlying 35=some (.slice 42):=by kernel_rfl
 have u3:Tryz.prog.underlying 3=some (.int .i64):=by kernel_rfl
 have vT:=run_underlying uT
 have v3:=run_underlying u3
 have sE:(Tryz.prog.info? 42).map (·.size)=some 2:=by kernel_rfl
 obtain ⟨i0,hi0⟩:∃ i0,Tryz.prog.info? 42=some i0:=by cases h:Tryz.prog.info? 42 with | none=>rw[h] at sE;cases sE | some x=>exact ⟨x,rfl⟩
 have hs0:i0.size=2:=by rw[hi0] at sE;simpa using sE
 have hz1:¬ ((m:Int)=0):=by omega
 have hz2:¬ ((i:Int)=(n:Int)):=by omega
 have hz3:(c:Int)<(n:Int)+(m:Int):=by omega
 have hw1:IntKind.i64.wrap ((i:Int)+(m:Int))=(i:Int)+(m:Int):=by rw[IntKind.wrap_i64];omega
 have hb1:(0:Int)≤(i:Int)+(m:Int):=by omega
 have hin:i≤n:=by omega
 have htn:((i:Int)+(m:Int)).toNat=i+m:=by omega
 have hb3:(i:Int)≤(n:Int):=by omega
 have hGi:¬ (G=i):=by omega
 have hGim:¬ (G=i+m):=by omega
 have hci:¬ (c=i):=by omega
 go_enter Tryz.func93,nt2
 go_wp2_with (first
  | (at_builtin;refine Lib.wpList_append_run _ rfl _ _ _ _ rfl _ _ rfl rfl _ _ (hA _) ?_)
  | (at_builtin;refine wpList_copy_runI _ rfl _ _ 35 35 rfl _ _ rfl rfl (hB _) ?_))
 go_region_law_o (refine step_copy_runI rfl _ _ 35 35 rfl (.slice (some ⟨B,(i+m) * 2,none⟩) (n+m - (i+m)) (G - (i+m))) (.slice (some ⟨b,i * 2,none⟩) (n - i) (c - i)) (by simp[Act.eval,Act.put]) (by simp[Act.eval,Act.put]) (hC _) ?_)
 go_wp2
 go_ret
 exact ⟨rfl,rfl⟩
theorem qbsg (b n c i m:Nat) (a2:Addr) (c2:Nat) (w w1 w2:World) (r1 r2:Value) (hi:i<n) (hm:0<m) (hroom:n+m≤c) (hs63:n+m≤9223372036854775807)
  (hov:∀ lb cb,(callFunc 156 #[.slice (some a2) m c2,.slice (some ⟨b,(i+m) * 2,none⟩) lb cb]).run Tryz.prog w=.ok (.value (.bool false)) w)
  (hB:∀ ty dc sc,(Builtin.copy_ #[35,35] ty #[.slice (some ⟨b,(i+m) * 2,none⟩) (n+m - (i+m)) dc,.slice (some ⟨b,i * 2,none⟩) (n+m - i) sc]).run Tryz.prog w.drew=.ok r1 w1)
  (hC:∀ ty dc,(Builtin.copy_ #[35,35] ty #[.slice (some ⟨b,i * 2,none⟩) (n+m - i) dc,.slice (some a2) m c2]).run Tryz.prog w1=.ok r2 w2) :
  Calls Tryz.prog 93 #[.slice (some ⟨b,0,none⟩) n c,.int .i64 i,.slice (some a2) m c2] w fun e w'=>e=.returned (.slice (some ⟨b,0,none⟩) (n+m) c)∧w'=w2:=by
 have mx:=mixed
 have uT:Tryz.prog.underlying 35=some (.slice 42):=by kernel_rfl
 have u3:Tryz.prog.underlying 3=some (.int .i64):=by kernel_rfl
 have vT:=run_underlying uT
 have v3:=run_underlying u3
 have sE:(Tryz.prog.info? 42).map (·.size)=some 2:=by kernel_rfl
 obtain ⟨i0,hi0⟩:∃ i0,Tryz.prog.info? 42=some i0:=by cases h:Tryz.prog.info? 42 with | none=>rw[h] at sE;cases sE | some x=>exact ⟨x,rfl⟩
 have hs0:i0.size=2:=by rw[hi0] at sE;simpa using sE
 have hz1:¬ ((m:Int)=0):=by omega
 have hz2:¬ ((i:Int)=(n:Int)):=by omega
 have hw1:IntKind.i64.wrap ((i:Int)+(m:Int))=(i:Int)+(m:Int):=by rw[IntKind.wrap_i64];omega
 have hb1:(0:Int)≤(i:Int)+(m:Int):=by omega
 have hin:i≤n:=by omega
 have htn:((i:Int)+(m:Int)).toNat=i+m:=by omega
 have hb2:¬ (c=i+m):=by omega
 have hb3:(i:Int)≤(n:Int)+(m:Int):=by omega
 have hb4:¬ (c=i):=by omega
 go_enter Tryz.func93,nt2
 go_wp2_with (simp only[hov])
 go_region_law_o (refine step_copy_runI rfl _ _ 35 35 rfl _ _ (by simp[Act.eval,Act.put]) (by simp[Act.eval,Act.put]) (hB _ _ _) ?_)
 go_wp2_with (at_builtin;refine wpList_copy_runI _ rfl _ _ 35 35 rfl _ _ rfl rfl (hC _ _) ?_)
 go_ret
 exact ⟨rfl,rfl⟩
end Go.V


import Derived.WalkKit
import Derived.Lib.Walk
import Derived.Lib.SliceRun
import Derived.Lib.JoinLaws
import Derived.Lib.AppendZeros
import Derived.Lib.Overlaps
import Derived.Laws.Externs
import Derived.Laws.IdiomCopy
import Derived.Lib.AppendZerosOnto
import Derived.Shelf.Spec.SlicesInsert
import Derived.Test.YtfafjngknkbngaaGreatAPFnRelations1
set_option linter.unusedVariables false
set_option linter.unusedSimpArgs false
set_option linter.unusedSectionVars false
namespace Go.G
open Go Go.V
theorem br_t {R:Type} {a b:Option R}:br true a b=a:=rfl
theorem br_f {R:Type} {a b:Option R}:br false a b=b:=rfl
theorem qn {R:Type} {a b:Option R} {p:Prop} [Decidable p] (h:p):br (decide p) a b=a:=by simp[br,h]
theorem qo {R:Type} {a b:Option R} {p:Prop} [Decidable p] (h:¬ p):br (decide p) a b=b:=by simp[br,h]
theorem qf {α R:Type} {a:α} {f:α→Option R}:qg (some a) f=f a:=rfl
theorem qbl2 {R:Type} {c:Bool} {a b:Option R}:br c a b=if c=true then a else b:=by cases c<;>rfl
theorem qbph (x:Int):IntKind.wrap IntKind.i64 x=if x % 18446744073709551616≥9223372036854775808 then x % 18446744073709551616 - 18446744073709551616 else x % 18446744073709551616:=by
 by_cases h:x % 18446744073709551616≥9223372036854775808<;>simp[IntKind.wrap,IntKind.signed,IntKind.bits,h]
theorem qeb {x:Int} (h1 : -9223372036854775808≤x) (h2:x≤9223372036854775807):IntKind.wrap IntKind.i64 x=x:=by
 rw[qbph]
 split<;>omega
def W:Nat:=9223372036854775808
theorem qcb:W=9223372036854775808:=rfl
theorem qcw:maxLen=9223372036854775807:=rfl
theorem qcu:qbj=274877906944:=rfl
theorem ix {α:Type} {l:List α} {i:Nat} (h:i<l.length):(decide (0≤(i:Int))&&decide ((i:Int)<(l.length:Int)))=true:=by
 simp only[Bool.and_eq_true,decide_eq_true_eq];omega
theorem ixn {α:Type} {l:List α} {i:Int} (h0:0≤i) (h:i<l.length):(decide (0≤i)&&decide (i<(l.length:Int)))=true:=by
 simp only[Bool.and_eq_true,decide_eq_true_eq];omega
theorem qs {i:Nat} (h:i<9223372036854775807):IntKind.wrap IntKind.i64 ((i:Int)+1)=((i+1:Nat):Int):=by
 rw[qeb]<;>omega
theorem qbz {α:Type} {l:List α} {i:Nat} {d:α} (h:i<l.length):l.getD i d=l[i]:=by
 simp[List.getD,h]
theorem qdr {α:Type} {l:List α} {i:Nat} (h:i<l.length):l.drop i=l[i]::l.drop (i+1):=List.drop_eq_getElem_cons h
theorem qf4 {α:Type} {l:List α} {i:Nat} (h:¬ i<l.length):l.drop i=[]:=List.drop_eq_nil_of_le (by omega)
def tot:(t:Ty)→t.den→Nat
 | .unit,_=>0
 | .int _,_=>0
 | .bool,_=>0
 | .str,s=>s.size
 | .sl t,xs=>xs.length+(xs.map (tot t)).sum
 | .pair a b,x=>tot a x.1+tot b x.2
def left (t:Ty) (a:t.den) (k:Int):Int:=if (tot t a:Int)≤k then k - tot t a else -1
theorem qnq {a b:ByteArray}:List.beq a.toList b.toList=decide (a=b):=by
 have h1:List.beq a.toList b.toList=decide (a.toList=b.toList):=by
  have:(a.toList == b.toList)=decide (a.toList=b.toList):=by
   by_cases h:a.toList=b.toList<;>simp[h]
  exact this
 rw[h1]
 by_cases h:a=b
 ·simp[h]
 ·have:a.toList≠b.toList:=fun e=>h (by
   have h2:a.data.toList=b.data.toList:=by
    have:=e
    simpa [ByteArray.toList_eq] using this
   cases a;cases b
   simp only[ByteArray.mk.injEq]
   exact Array.toList_inj.1 h2)
  simp[h,this]
end Go.G

namespace Go.G
open Go Go.V
end Go.G

namespace Go.G
open Go Go.V
end Go.G

namespace Go.G
open Go Go.V
def Fit (b:Nat):(t:Ty)→t.den→Prop
 | .sl t,xs=>xs.length≤b∧∀ x∈xs,Fit b t x
 | .pair s t,x=>Fit b s x.1∧Fit b t x.2
 | _,_=>True
theorem Fit.mono {b c:Nat} (h:b≤c):∀ {t:Ty} {x:t.den},Fit b t x→Fit c t x
 | .unit,_,_=>trivial
 | .int _,_,_=>trivial
 | .bool,_,_=>trivial
 | .str,_,_=>trivial
 | .sl t,xs,f=>⟨Nat.le_trans f.1 h,fun x hx=>(f.2 x hx).mono h⟩
 | .pair s t,x,f=>⟨f.1.mono h,f.2.mono h⟩
end Go.G

namespace Go.G
open Go Go.V
abbrev Value:=Int×Int×ByteArray×Unit
abbrev Col:=ByteArray×Int×Bool×Unit
abbrev qhk:=ByteArray×List Int×Bool×Unit
end Go.G

namespace Go.G
open Go Go.V Go.Proofs
def qv (P:Nat→Bool):Nat→Nat→Bool
 | _,0=>false
 | i,k+1=>P i||qv P (i+1) k
theorem qyj {P:Nat→Bool}:∀ {k i:Nat},qv P i k=true↔∃ j,i≤j∧j<i+k∧P j=true
 | 0,i=>by simp[qv];intro j h1 h2;omega
 | k+1,i=>by
  simp only[qv,Bool.or_eq_true,qyj (k:=k) (i:=i+1)]
  constructor
  ·rintro (h | ⟨j,h1,h2,h3⟩)
   ·exact ⟨i,Nat.le_refl _,by omega,h⟩
   ·exact ⟨j,by omega,by omega,h3⟩
  ·rintro ⟨j,h1,h2,h3⟩
   rcases Nat.eq_or_lt_of_le h1 with rfl | h1
   ·exact .inl h3
   ·exact .inr ⟨j,by omega,by omega,h3⟩
theorem qba {P:Nat→Bool} {k i:Nat}:qv P i k=false↔∀ j,i≤j→j<i+k→P j=false:=by
 rw[←Bool.not_eq_true,qyj]
 constructor
 ·intro h j h1 h2
  cases hp:P j with
  | false=>rfl
  | true=>exact absurd ⟨j,h1,h2,hp⟩ h
 ·rintro h ⟨j,h1,h2,h3⟩
  rw[h j h1 h2] at h3;exact Bool.noConfusion h3
theorem qs6 {P Q:Nat→Bool}:∀ {k i:Nat},(∀ j,i≤j→j<i+k→P j=Q j)→qv P i k=qv Q i k
 | 0,_,_=>rfl
 | k+1,i,h=>by
  simp only[qv]
  rw[h i (Nat.le_refl _) (by omega),qs6 fun j h1 h2=>h j (by omega) (by omega)]
theorem scan {R:Type} {L:Nat→Nat→Option R} {N:Nat} {P:Nat→Bool} {A B:Option R}
  (hs:∀ m i,i≤N→L (m+1) i=if i<N then br (P i) A (L m (i+1)) else B):∀ m i,i≤N→N - i<m→L m i=br (qv P i (N - i)) A B
 | 0,_,_,h=>by omega
 | m+1,i,hi,hm=>by
  rw[hs m i hi]
  by_cases h:i<N
  ·rw[if_pos h]
   obtain ⟨k,hk⟩:∃ k,N - i=k+1:=⟨N - i - 1,by omega⟩
   rw[hk,scan hs m (i+1) (by omega) (by omega)]
   have:N - (i+1)=k:=by omega
   rw[this]
   show br (P i) A (br (qv P (i+1) k) A B)=br (P i||qv P (i+1) k) A B
   cases P i<;>rfl
  ·rw[if_neg h]
   have:N - i=0:=by omega
   rw[this];rfl
theorem qfi {R:Type} {L:Nat→Nat→Option R} {N:Nat} {P:Nat→Bool} {A B:Option R}
  (hs:∀ m i,i≤N→L (m+1) i=if i<N then br (P i) A (L m (i+1)) else B) {m:Nat} (hm:N<m):L m 0=br (qv P 0 N) A B:=by
 have:=scan hs m 0 (by omega) (by omega)
 rwa [Nat.sub_zero] at this
def qy (P:Nat→Bool):Nat→Nat→Option Nat
 | _,0=>none
 | i,k+1=>if P i=true then some i else qy P (i+1) k
theorem qd9 {P:Nat→Bool}:∀ {k i j:Nat},qy P i k=some j→i≤j∧j<i+k∧P j=true∧∀ l,i≤l→l<j→P l=false
 | 0,i,j,h=>by simp[qy] at h
 | k+1,i,j,h=>by
  simp only[qy] at h
  split at h
  ·rename_i hp
   simp only[Option.some.injEq] at h
   subst h
   exact ⟨Nat.le_refl _,by omega,hp,fun l h1 h2=>by omega⟩
  ·rename_i hp
   obtain ⟨h1,h2,h3,h4⟩:=qd9 h
   refine ⟨by omega,by omega,h3,fun l h5 h6=>?_⟩
   rcases Nat.eq_or_lt_of_le h5 with rfl | h5
   ·simpa using hp
   ·exact h4 l h5 h6
theorem qj8 {P:Nat→Bool}:∀ {k i:Nat},qy P i k=none→∀ j,i≤j→j<i+k→P j=false
 | 0,i,_,j,h1,h2=>by omega
 | k+1,i,h,j,h1,h2=>by
  simp only[qy] at h
  split at h
  ·simp at h
  ·rename_i hp
   rcases Nat.eq_or_lt_of_le h1 with rfl | h1
   ·simpa using hp
   ·exact qj8 h j (by omega) (by omega)
theorem quq {P Q:Nat→Bool}:∀ {k i:Nat},(∀ j,i≤j→j<i+k→P j=Q j)→qy P i k=qy Q i k
 | 0,_,_=>rfl
 | k+1,i,h=>by
  simp only[qy]
  rw[h i (Nat.le_refl _) (by omega),quq fun j h1 h2=>h j (by omega) (by omega)]
theorem qbr6 {R:Type} {L:Nat→Nat→Option R} {N:Nat} {P:Nat→Bool} {A:Nat→Option R} {B:Option R}
  (hs:∀ m i,i≤N→L (m+1) i=if i<N then br (P i) (A i) (L m (i+1)) else B):∀ m i,i≤N→N - i<m→L m i=match qy P i (N - i) with | some j=>A j | none=>B
 | 0,_,_,h=>by omega
 | m+1,i,hi,hm=>by
  rw[hs m i hi]
  by_cases h:i<N
  ·rw[if_pos h]
   obtain ⟨k,hk⟩:∃ k,N - i=k+1:=⟨N - i - 1,by omega⟩
   rw[hk]
   simp only[qy]
   by_cases hp:P i=true
   ·rw[if_pos hp,hp];rfl
   ·rw[if_neg hp,qbr6 hs m (i+1) (by omega) (by omega)]
    simp only[Bool.not_eq_true] at hp
    have:N - (i+1)=k:=by omega
    rw[this,hp];rfl
  ·rw[if_neg h]
   have:N - i=0:=by omega
   rw[this];rfl
theorem qvn {R:Type} {L:Nat→Nat→Option R} {N:Nat} {P:Nat→Bool} {A:Nat→Option R} {B:Option R}
  (hs:∀ m i,i≤N→L (m+1) i=if i<N then br (P i) (A i) (L m (i+1)) else B) {m:Nat} (hm:N<m):L m 0=match qy P 0 N with | some j=>A j | none=>B:=by
 have:=qbr6 hs m 0 (by omega) (by omega)
 rwa [Nat.sub_zero] at this
theorem qh2 (a b:Bool):(bif a then b else false)=(a&&b):=by cases a<;>rfl
theorem qbns (a b:Bool):(bif a then true else b)=(a||b):=by cases a<;>rfl
def inR (x a b:Int):Bool:=decide (a≤x)&&decide (x≤b)
theorem qyr {X:Ext} (hX:XOk X) {n:Nat} (hn:1≤n) (x a b:Int):qgr (DD X n) x a b=some ((inR x a b,()),()):=by
 obtain ⟨n,rfl⟩:∃ k,n=k+1:=⟨n - 1,by omega⟩
 rw[qbmh hX]
 simp only[q4f,qbcp,qh2,inR]
theorem qy4 {X:Ext} (hX:XOk X) {n:Nat} (hn:1≤n) (x a b:Int):qgq (DD X n) x a b=some ((inR x a b,()),()):=by
 obtain ⟨n,rfl⟩:∃ k,n=k+1:=⟨n - 1,by omega⟩
 rw[qbmg hX]
 simp only[q4h,qbcb,qh2,inR]
def qhl (s:ByteArray) (i:Nat):Int:=((s.data.getD i (UInt8.ofNat 0)).toNat:Int)
def qoj (s:ByteArray):Bool:=!(qv (fun i=>decide (qhl s i<97)||decide (qhl s i>122)) 0 s.size)&&inR s.size 1 12
theorem ixs {s:ByteArray} {i:Nat} (h:i<s.size):(decide (0≤(i:Int))&&decide ((i:Int)<(s.size:Int)))=true:=by
 simp only[Bool.and_eq_true,decide_eq_true_eq];omega
theorem q8w {X:Ext} (hX:XOk X) {n:Nat} (hn:W+2≤n) (s:ByteArray) (hs:s.size≤maxLen):qn6 (DD X n) s=some ((qoj s,()),()):=by
 obtain ⟨n,rfl⟩:∃ k,n=k+1:=⟨n - 1,by omega⟩
 have hd:=qcw
 have hW:=qcb
 rw[qbdb hX]
 simp only[qth,qti,qqq]
 refine Eq.trans (qfi (L:=fun m i=>qg9 (DD X n) n _ _ m s s.size (i:Int)) (N:=s.size) (P:=fun i=>decide (qhl s i<97)||decide (qhl s i>122))
  (A:=some ((false,()),())) (B:=some ((inR s.size 1 12,()),())) (fun m i hi=>?_) (m:=n) (by omega)) ?_
 ·simp only[qg9,qsb]
  by_cases h:i<s.size
  ·rw[qn (by exact_mod_cast h),ixs h,br_t,br_t,Int.toNat_natCast,qs (by omega),if_pos h]
   change br (decide (qhl s i<97)) _ (br (decide (qhl s i>122)) _ _)=_
   by_cases h1:qhl s i<97
   ·rw[qn h1,decide_eq_true h1];rfl
   ·rw[qo h1,decide_eq_false h1]
    by_cases h2:qhl s i>122
    ·rw[qn h2,decide_eq_true h2];rfl
    ·rw[qo h2,decide_eq_false h2];rfl
  ·rw[qo (by exact_mod_cast h),if_neg h]
   simp only[qo2,qyr hX (show 1≤n by omega),qf]
 ·unfold qoj
  cases qv (fun i=>decide (qhl s i<97)||decide (qhl s i>122)) 0 s.size<;>rfl
theorem q9h {X:Ext} (hX:XOk X) {n:Nat} (hn:W+2≤n) (s:ByteArray) (hs:s.size≤maxLen):qoc (DD X n) s=some ((qoj s,()),()):=by
 obtain ⟨n,rfl⟩:∃ k,n=k+1:=⟨n - 1,by omega⟩
 have hd:=qcw
 have hW:=qcb
 rw[qbdn hX]
 simp only[qtu,qtz,qqw]
 refine Eq.trans (qfi (L:=fun m i=>qg5 (DD X n) n _ _ m s (i:Int)) (N:=s.size) (P:=fun i=>decide (qhl s i<97)||decide (qhl s i>122))
  (A:=some ((false,()),())) (B:=some ((inR s.size 1 12,()),())) (fun m i hi=>?_) (m:=n) (by omega)) ?_
 ·simp only[qg5,qsi]
  by_cases h:i<s.size
  ·rw[qn (by exact_mod_cast h),ixs h,br_t,br_t,Int.toNat_natCast,qs (by omega),if_pos h]
   change br (decide (qhl s i<97)) _ (br (decide (qhl s i>122)) _ _)=_
   by_cases h1:qhl s i<97
   ·rw[qn h1,decide_eq_true h1];rfl
   ·rw[qo h1,decide_eq_false h1]
    by_cases h2:qhl s i>122
    ·rw[qn h2,decide_eq_true h2];rfl
    ·rw[qo h2,decide_eq_false h2];rfl
  ·rw[qo (by exact_mod_cast h),if_neg h]
   simp only[qph,qy4 hX (show 1≤n by omega),qf]
 ·unfold qoj
  cases qv (fun i=>decide (qhl s i<97)||decide (qhl s i>122)) 0 s.size<;>rfl
def has (l:List Int) (x:Int):Bool:=qv (fun j=>decide (x=l.getD j 0)) 0 l.length
theorem qbny {X:Ext} (hX:XOk X) {n:Nat} (hn:W+2≤n) (l:List Int) (x:Int) (hl:l.length≤maxLen):qj1 (DD X n) l x=some ((has l x,()),()):=by
 obtain ⟨n,rfl⟩:∃ k,n=k+2:=⟨n - 2,by omega⟩
 have hd:=qcw
 have hW:=qcb
 rw[q1g hX]
 simp only[qjy,qp2]
 have e:qmb (DD X (n+1)) l x=some ((match qy (fun j=>decide (x=l.getD j 0)) 0 l.length with | some j=>(j:Int) | none=>-1,()),()):=by
  rw[q4a hX]
  simp only[qmd,ql9,qkh]
  refine Eq.trans (qvn (L:=fun m i=>qdw (DD X n) n _ _ m l x l.length (i:Int)) (N:=l.length) (P:=fun j=>decide (x=l.getD j 0))
   (A:=fun j=>some (((j:Int),()),())) (B:=some ((-1,()),())) (fun m i hi=>?_) (m:=n) (by omega)) ?_
  ·simp only[qdw,qk1]
   by_cases h:i<l.length
   ·rw[qn (by exact_mod_cast h),ix h,br_t,Int.toNat_natCast,qs (by omega),if_pos h];rfl
   ·rw[qo (by exact_mod_cast h),if_neg h];rfl
  ·cases qy (fun j=>decide (x=l.getD j 0)) 0 l.length<;>rfl
 rw[e,qf]
 congr 3
 unfold has
 cases hf:qy (fun j=>decide (x=l.getD j 0)) 0 l.length with
 | none=>
  have:=qj8 hf
  rw[qba.2 this];rfl
 | some j=>
  obtain ⟨h1,h2,h3,_⟩:=qd9 hf
  rw[qyj.2 ⟨j,h1,h2,h3⟩]
  simp
def qcj (n:Nat) (l:List Int) (most:Int):Bool:=!(qv (fun i=>!inR (l.getD i 0) 0 ((n:Int) - 1)||has (l.take i) (l.getD i 0)) 0 l.length)&&inR l.length 1 most
theorem q4w {X:Ext} (hX:XOk X) {n:Nat} (hn:W+3≤n) (s:List Col×List Int×List qhk×Unit) (l:List Int) (most:Int) (hc:s.1.length≤maxLen) (hl:l.length≤maxLen) :
  qpq (DD X n) s l most=some ((qcj s.1.length l most,()),()):=by
 obtain ⟨n,rfl⟩:∃ k,n=k+1:=⟨n - 1,by omega⟩
 have hd:=qcw
 have hW:=qcb
 rw[qbev hX]
 simp only[qur,qvk,qsf]
 refine Eq.trans (qfi (L:=fun m i=>qid (DD X n) n _ _ m l most l l.length (i:Int) s) (N:=l.length) (P:=fun i=>!inR (l.getD i 0) 0 ((s.1.length:Int) - 1)||has (l.take i) (l.getD i 0))
  (A:=some ((false,()),())) (B:=some ((inR l.length 1 most,()),())) (fun m i hi=>?_) (m:=n) (by omega)) ?_
 ·simp only[qid,qtm]
  by_cases h:i<l.length
  ·have hc1:(decide ((0:Nat)≤0)&&decide ((0:Int)≤(i:Int))&&decide ((i:Int)≤(l.length:Int)))=true:=by
    rw[decide_eq_true (by omega),decide_eq_true (by omega),decide_eq_true (by omega)];rfl
   rw[qn (by exact_mod_cast h),ix h,br_t,qyr hX (show 1≤n by omega),qf,hc1,br_t,Int.toNat_natCast,qs (by omega),if_pos h,qeb (by omega) (by omega)]
   have ht:(List.drop (Int.toNat 0) (List.take i l))=l.take i:=rfl
   rw[ht,qbny hX (by omega) _ _ (by rw[List.length_take];omega),qf]
   dsimp only
   cases inR (l.getD i 0) 0 ((s.1.length:Int) - 1)
   ·rfl
   ·cases has (l.take i) (l.getD i 0)<;>rfl
  ·rw[qo (by exact_mod_cast h),if_neg h]
   simp only[qrc,qyr hX (show 1≤n by omega),qf]
 ·unfold qcj
  cases qv (fun i=>!inR (l.getD i 0) 0 ((s.1.length:Int) - 1)||has (l.take i) (l.getD i 0)) 0 l.length<;>rfl
theorem qbqt {l:List Int} {i:Nat} (hi:i≤l.length) (x:Int):has (l.take i) x=qv (fun k=>decide (l.getD k 0=x)) 0 i:=by
 unfold has
 rw[List.length_take,Nat.min_eq_left hi]
 refine qs6 fun j _ h=>?_
 have e:(l.take i).getD j 0=l.getD j 0:=by
  simp only[List.getD,List.getElem?_take]
  rw[if_pos (by omega)]
 rw[e]
 by_cases h:x=l.getD j 0
 ·rw[decide_eq_true h,decide_eq_true h.symm]
 ·rw[decide_eq_false h,decide_eq_false fun k=>h k.symm]
theorem q5x {X:Ext} (hX:XOk X) {n:Nat} (hn:W+3≤n) (s:List Col×List Int×List qhk×Unit) (l:List Int) (most:Int) (hc:s.1.length≤maxLen) (hl:l.length≤maxLen) :
  qnx (DD X n) s l most=some ((qcj s.1.length l most,()),()):=by
 obtain ⟨n,rfl⟩:∃ k,n=k+1:=⟨n - 1,by omega⟩
 have hd:=qcw
 have hW:=qcb
 rw[qbc4 hX]
 simp only[qt3,qtv,qqi]
 refine Eq.trans (qfi (L:=fun m i=>qed (DD X n) n _ _ m l most (i:Int) s) (N:=l.length) (P:=fun i=>!inR (l.getD i 0) 0 ((s.1.length:Int) - 1)||has (l.take i) (l.getD i 0))
  (A:=some ((false,()),())) (B:=some ((inR l.length 1 most,()),())) (fun m i hi=>?_) (m:=n) (by omega)) ?_
 ·simp only[qed,qr5]
  by_cases h:i<l.length
  ·rw[qn (by exact_mod_cast h),ix h,br_t,qy4 hX (show 1≤n by omega),qf,Int.toNat_natCast,if_pos h,qeb (by omega) (by omega)]
   dsimp only
   cases hin:inR (l.getD i 0) 0 ((s.1.length:Int) - 1)
   ·rfl
   ·rw[Bool.not_true,br_f,Bool.false_or,qbqt (by omega)]
    simp only[qqj]
    refine Eq.trans (qfi (L:=fun q k=>qg3 (DD X n) n _ _ q l most (i:Int) (k:Int) s) (N:=i) (P:=fun k=>decide (l.getD k 0=l.getD i 0))
     (A:=some ((false,()),())) (B:=qed (DD X n) n (fun v0_0 v0_1 v0_2=>qpi (DD X n) n v0_0 v0_1 v0_2) (fun v1_0 v1_1=>qkl (DD X n) n v1_0 v1_1) m l most ((i+1:Nat):Int) s) (fun q k hk=>?_) (m:=n) (by omega)) rfl
    simp only[qg3,qrx]
    by_cases h2:k<i
    ·rw[qn (by exact_mod_cast h2),ix (i:=k) (by omega),br_t,ix h,br_t,Int.toNat_natCast,Int.toNat_natCast,qs (by omega),if_pos h2];rfl
    ·rw[qo (by exact_mod_cast h2),if_neg h2]
     simp only[qpf]
     rw[qs (by omega)]
  ·rw[qo (by exact_mod_cast h),if_neg h]
   simp only[qkl,qy4 hX (show 1≤n by omega),qf]
 ·unfold qcj
  cases qv (fun i=>!inR (l.getD i 0) 0 ((s.1.length:Int) - 1)||has (l.take i) (l.getD i 0)) 0 l.length<;>rfl
end Go.G

namespace Go.G
set_option maxRecDepth 100000
open Go Go.V Go.Proofs
theorem q33 (P:Nat→Bool) (n:Nat):decide ((match qy P 0 n with | some j=>(j:Int) | none=>-1)≥0)=qv P 0 n:=by
 cases hf:qy P 0 n with
 | none=>rw[qba.2 (qj8 hf)];rfl
 | some j=>
  obtain ⟨h1,h2,h3,_⟩:=qd9 hf
  rw[qyj.2 ⟨j,h1,h2,h3⟩]
  simp
theorem qbqv {X:Ext} (hX:XOk X) {n:Nat} (hn:W+1≤n) (l:List (Col)) (hl:l.length≤maxLen) (c:Clo) (P:Nat→Bool)
  (hP:∀ i,i<l.length→qca ctx (DD X (n - 1)) c [CapV.val (Ty.pair Ty.str (Ty.pair (Ty.int IntKind.i64) (Ty.pair Ty.bool Ty.unit))) (l.getD i (ByteArray.empty,0,false,()))] Ty.bool=some (P i)) :
  qez (DD X n) l c=some ((match qy P 0 l.length with | some j=>(j:Int) | none=>-1,()),()):=by
 obtain ⟨n,rfl⟩:∃ k,n=k+1:=⟨n - 1,by omega⟩
 have hd:=qcw
 have hW:=qcb
 rw[qqd hX]
 simp only[qe0,qe3,qeh]
 refine Eq.trans (qvn (L:=fun m i=>qb0 (DD X n) n c _ _ m l l.length (i:Int)) (N:=l.length) (P:=P)
  (A:=fun j=>some (((j:Int),()),())) (B:=some ((-1,()),())) (fun m i hi=>?_) (m:=n) (by omega)) ?_
 ·simp only[qb0,qeo]
  by_cases h:i<l.length
  ·have hp:qca ctx (DD X n) c [CapV.val (Ty.pair Ty.str (Ty.pair (Ty.int IntKind.i64) (Ty.pair Ty.bool Ty.unit))) (l.getD i (ByteArray.empty,0,false,()))] Ty.bool=some (P i):=hP i h
   rw[qn (by exact_mod_cast h),ix h,br_t,Int.toNat_natCast,hp,qf,qs (by omega),if_pos h];rfl
  ·rw[qo (by exact_mod_cast h),if_neg h];rfl
 ·cases qy P 0 l.length<;>rfl
theorem qbnx {X:Ext} (hX:XOk X) {n:Nat} (hn:W+1≤n) (l:List (qhk)) (hl:l.length≤maxLen) (c:Clo) (P:Nat→Bool)
  (hP:∀ i,i<l.length→qca ctx (DD X (n - 1)) c [CapV.val (Ty.pair Ty.str (Ty.pair (Ty.sl (Ty.int IntKind.i64)) (Ty.pair Ty.bool Ty.unit))) (l.getD i (ByteArray.empty,[],false,()))] Ty.bool=some (P i)) :
  qd0 (DD X n) l c=some ((match qy P 0 l.length with | some j=>(j:Int) | none=>-1,()),()):=by
 obtain ⟨n,rfl⟩:∃ k,n=k+1:=⟨n - 1,by omega⟩
 have hd:=qcw
 have hW:=qcb
 rw[qnv hX]
 simp only[qd1,qd5,qdl]
 refine Eq.trans (qvn (L:=fun m i=>qbq (DD X n) n c _ _ m l l.length (i:Int)) (N:=l.length) (P:=P)
  (A:=fun j=>some (((j:Int),()),())) (B:=some ((-1,()),())) (fun m i hi=>?_) (m:=n) (by omega)) ?_
 ·simp only[qbq,qdq]
  by_cases h:i<l.length
  ·have hp:qca ctx (DD X n) c [CapV.val (Ty.pair Ty.str (Ty.pair (Ty.sl (Ty.int IntKind.i64)) (Ty.pair Ty.bool Ty.unit))) (l.getD i (ByteArray.empty,[],false,()))] Ty.bool=some (P i):=hP i h
   rw[qn (by exact_mod_cast h),ix h,br_t,Int.toNat_natCast,hp,qf,qs (by omega),if_pos h];rfl
  ·rw[qo (by exact_mod_cast h),if_neg h];rfl
 ·cases qy P 0 l.length<;>rfl
theorem qbql {X:Ext} (hX:XOk X) {n:Nat} (hn:W+1≤n) (l:List (Int)) (hl:l.length≤maxLen) (c:Clo) (P:Nat→Bool)
  (hP:∀ i,i<l.length→qca ctx (DD X (n - 1)) c [CapV.val (Ty.int IntKind.i64) (l.getD i 0)] Ty.bool=some (P i)) :
  qjm (DD X n) l c=some ((match qy P 0 l.length with | some j=>(j:Int) | none=>-1,()),()):=by
 obtain ⟨n,rfl⟩:∃ k,n=k+1:=⟨n - 1,by omega⟩
 have hd:=qcw
 have hW:=qcb
 rw[qz3 hX]
 simp only[qjj,qjn,qh4]
 refine Eq.trans (qvn (L:=fun m i=>qc7 (DD X n) n c _ _ m l l.length (i:Int)) (N:=l.length) (P:=P)
  (A:=fun j=>some (((j:Int),()),())) (B:=some ((-1,()),())) (fun m i hi=>?_) (m:=n) (by omega)) ?_
 ·simp only[qc7,qit]
  by_cases h:i<l.length
  ·have hp:qca ctx (DD X n) c [CapV.val (Ty.int IntKind.i64) (l.getD i 0)] Ty.bool=some (P i):=hP i h
   rw[qn (by exact_mod_cast h),ix h,br_t,Int.toNat_natCast,hp,qf,qs (by omega),if_pos h];rfl
  ·rw[qo (by exact_mod_cast h),if_neg h];rfl
 ·cases qy P 0 l.length<;>rfl
theorem qbcz {X:Ext} (hX:XOk X) {n:Nat} (hn:W+1≤n) (l:List (List Value)) (hl:l.length≤maxLen) (c:Clo) (P:Nat→Bool)
  (hP:∀ i,i<l.length→qca ctx (DD X (n - 1)) c [CapV.val (Ty.sl (Ty.pair (Ty.int IntKind.i64) (Ty.pair (Ty.int IntKind.i64) (Ty.pair Ty.str Ty.unit)))) (l.getD i [])] Ty.bool=some (P i)) :
  qcc (DD X n) l c=some ((match qy P 0 l.length with | some j=>(j:Int) | none=>-1,()),()):=by
 obtain ⟨n,rfl⟩:∃ k,n=k+1:=⟨n - 1,by omega⟩
 have hd:=qcw
 have hW:=qcb
 rw[qn7 hX]
 simp only[qd2,qdz,qdn]
 refine Eq.trans (qvn (L:=fun m i=>qbo (DD X n) n c _ _ m l l.length (i:Int)) (N:=l.length) (P:=P)
  (A:=fun j=>some (((j:Int),()),())) (B:=some ((-1,()),())) (fun m i hi=>?_) (m:=n) (by omega)) ?_
 ·simp only[qbo,qdp]
  by_cases h:i<l.length
  ·have hp:qca ctx (DD X n) c [CapV.val (Ty.sl (Ty.pair (Ty.int IntKind.i64) (Ty.pair (Ty.int IntKind.i64) (Ty.pair Ty.str Ty.unit)))) (l.getD i [])] Ty.bool=some (P i):=hP i h
   rw[qn (by exact_mod_cast h),ix h,br_t,Int.toNat_natCast,hp,qf,qs (by omega),if_pos h];rfl
  ·rw[qo (by exact_mod_cast h),if_neg h];rfl
 ·cases qy P 0 l.length<;>rfl
theorem qbb6 {X:Ext} (hX:XOk X) {n:Nat} (hn:W+2≤n) (l:List (qhk)) (hl:l.length≤maxLen) (c:Clo) (P:Nat→Bool)
  (hP:∀ i,i<l.length→qca ctx (DD X (n - 2)) c [CapV.val (Ty.pair Ty.str (Ty.pair (Ty.sl (Ty.int IntKind.i64)) (Ty.pair Ty.bool Ty.unit))) (l.getD i (ByteArray.empty,[],false,()))] Ty.bool=some (P i)) :
  qco (DD X n) l c=some ((qv P 0 l.length,()),()):=by
 obtain ⟨n,rfl⟩:∃ k,n=k+1:=⟨n - 1,by omega⟩
 rw[qml hX]
 simp only[qdh,qfz]
 rw[qbnx hX (n:=n) (by omega) l hl c P (fun i h=>hP i h),qf]
 congr 3
 exact q33 P l.length
theorem qbpb {X:Ext} (hX:XOk X) {n:Nat} (hn:W+2≤n) (l:List (Int)) (hl:l.length≤maxLen) (c:Clo) (P:Nat→Bool)
  (hP:∀ i,i<l.length→qca ctx (DD X (n - 2)) c [CapV.val (Ty.int IntKind.i64) (l.getD i 0)] Ty.bool=some (P i)) :
  qhi (DD X n) l c=some ((qv P 0 l.length,()),()):=by
 obtain ⟨n,rfl⟩:∃ k,n=k+1:=⟨n - 1,by omega⟩
 rw[qv6 hX]
 simp only[qhj,qmf]
 rw[qbql hX (n:=n) (by omega) l hl c P (fun i h=>hP i h),qf]
 congr 3
 exact q33 P l.length
theorem qbiv {X:Ext} (hX:XOk X) {n:Nat} (hn:W+2≤n) (l:List (List Value)) (hl:l.length≤maxLen) (c:Clo) (P:Nat→Bool)
  (hP:∀ i,i<l.length→qca ctx (DD X (n - 2)) c [CapV.val (Ty.sl (Ty.pair (Ty.int IntKind.i64) (Ty.pair (Ty.int IntKind.i64) (Ty.pair Ty.str Ty.unit)))) (l.getD i [])] Ty.bool=some (P i)) :
  qbi (DD X n) l c=some ((qv P 0 l.length,()),()):=by
 obtain ⟨n,rfl⟩:∃ k,n=k+1:=⟨n - 1,by omega⟩
 rw[qmj hX]
 simp only[qdi,qfv]
 rw[qbcz hX (n:=n) (by omega) l hl c P (fun i h=>hP i h),qf]
 congr 3
 exact q33 P l.length
end Go.G

namespace Go.G
set_option maxRecDepth 100000
open Go Go.V Go.Proofs
abbrev qz:=List Col×List Int×List qhk×Unit
def M:Nat:=4194304
theorem qbl:M=4194304:=rfl
structure SchSm (s:qz):Prop where
 cols:s.1.length≤M
 names:∀ c∈s.1,c.1.size≤M
 key:s.2.1.length≤M
 ixs:s.2.2.1.length≤M
 ixn:∀ x∈s.2.2.1,x.1.size≤M
 ixc:∀ x∈s.2.2.1,x.2.1.length≤M
abbrev cd:Col:=(ByteArray.empty,0,false,())
abbrev xd:qhk:=(ByteArray.empty,[],false,())
theorem qbk {α:Type} {l:List α} {i:Nat} {d:α} (h:i<l.length):l.getD i d∈l:=by rw[qbz h];exact List.getElem_mem _
def qbad (cs:List Col) (name:ByteArray):Int:=match qy (fun i=>decide ((cs.getD i cd).1=name)) 0 cs.length with | some j=>(j:Int) | none=>-1
theorem qbpm (D:Den ctx) (name:ByteArray) (x:Col):qca ctx D (Clo.mk 196 [CapV.rptr Ty.str name]) [CapV.val (Ty.pair Ty.str (Ty.pair (Ty.int IntKind.i64) (Ty.pair Ty.bool Ty.unit))) x] Ty.bool=(q43 D x name).bind fun r=>some r.1.1:=by kernel_rfl
theorem qbmf {X:Ext} (hX:XOk X) {n:Nat} (hn:W+3≤n) (s:qz) (hs:SchSm s) (name:ByteArray):q2m (DD X n) s name=some ((qbad s.1 name,()),()):=by
 obtain ⟨n,rfl⟩:∃ k,n=k+1:=⟨n - 1,by omega⟩
 have hd:=qcw
 have hM:=qbl
 have:=hs.cols
 rw[qbk4 hX]
 simp only[q1r,q9u]
 rw[qbqv hX (n:=n) (by omega) s.1 (by omega) _ (fun i=>decide ((s.1.getD i cd).1=name)) (fun i h=>by
  obtain ⟨n,rfl⟩:∃ k,n=k+2:=⟨n - 2,by omega⟩
  rw[qbpm]
  rw[show n+2 - 1=n+1 from rfl,qbhb hX]
  simp only[qx5,q5a,Option.bind_some,qnq]),qf]
 rfl
theorem qbmv {X:Ext} (hX:XOk X) {n:Nat} (hn:W+1≤n) (s:qz) (hs:SchSm s) (name:ByteArray):q28 (DD X n) s name=some ((qbad s.1 name,()),()):=by
 obtain ⟨n,rfl⟩:∃ k,n=k+1:=⟨n - 1,by omega⟩
 have hd:=qcw
 have hW:=qcb
 have hM:=qbl
 have:=hs.cols
 rw[qbk0 hX]
 simp only[q2d,q21,qxq]
 refine Eq.trans (qvn (L:=fun m i=>qk3 (DD X n) n _ _ m name (i:Int) s) (N:=s.1.length) (P:=fun i=>decide ((s.1.getD i cd).1=name))
  (A:=fun j=>some (((j:Int),()),())) (B:=some ((-1,()),())) (fun m i hi=>?_) (m:=n) (by omega)) ?_
 ·simp only[qk3,qz2]
  by_cases h:i<s.1.length
  ·rw[qn (by exact_mod_cast h),ix h,br_t,Int.toNat_natCast,qs (by omega),if_pos h,qnq];rfl
  ·rw[qo (by exact_mod_cast h),if_neg h];rfl
 ·unfold qbad
  cases qy (fun i=>decide ((s.1.getD i cd).1=name)) 0 s.1.length<;>rfl
def qv4 (cs:List Col) (i:Nat):Bool:=!qoj (cs.getD i cd).1||(!inR (cs.getD i cd).2.1 1 3||!decide (qbad cs (cs.getD i cd).1=(i:Int)))
def qpz (nc:Nat) (xs:List qhk) (i:Nat):Bool:=!qoj (xs.getD i xd).1||(!qcj nc (xs.getD i xd).2.1 3||qv (fun k=>decide ((xs.getD k xd).1=(xs.getD i xd).1)) 0 i)
def qxp (cs:List Col) (key:List Int):Bool:=qv (fun j=>(cs.getD (key.getD j 0).toNat cd).2.2.1) 0 key.length
def qf3 (s:qz):Bool:=
 !qv (qv4 s.1) 0 s.1.length&&(!qv (qpz s.1.length s.2.2.1) 0 s.2.2.1.length&&(inR s.1.length 1 5&&(qcj s.1.length s.2.1 4&&(!qxp s.1 s.2.1&&decide ((s.2.2.1.length:Int)≤3)))))
theorem qbir {n:Nat} {l:List Int} {most:Int} (h:qcj n l most=true) {j:Nat} (hj:j<l.length):0≤l.getD j 0∧l.getD j 0<n:=by
 simp only[qcj,Bool.and_eq_true,Bool.not_eq_true'] at h
 have:=qba.1 h.1 j (by omega) (by omega)
 simp only[Bool.or_eq_false_iff,Bool.not_eq_false',inR,Bool.and_eq_true,decide_eq_true_eq] at this
 omega
theorem qhz (a b:Int):(a != b)=!decide (a=b):=by by_cases h:a=b<;>simp[h]
theorem qbn7 (D:Den ctx) (y x:qhk):qca ctx D (Clo.mk 149 [CapV.rptr (Ty.pair Ty.str (Ty.pair (Ty.sl (Ty.int IntKind.i64)) (Ty.pair Ty.bool Ty.unit))) y]) [CapV.val (Ty.pair Ty.str (Ty.pair (Ty.sl (Ty.int IntKind.i64)) (Ty.pair Ty.bool Ty.unit))) x] Ty.bool=(q07 D x y).bind fun r=>some r.1.1:=by kernel_rfl
theorem qbmy (D:Den ctx) (s:qz) (x:Int):qca ctx D (Clo.mk 151 [CapV.rptr (Ty.pair (Ty.sl (Ty.pair Ty.str (Ty.pair (Ty.int IntKind.i64) (Ty.pair Ty.bool Ty.unit)))) (Ty.pair (Ty.sl (Ty.int IntKind.i64)) (Ty.pair (Ty.sl (Ty.pair Ty.str (Ty.pair (Ty.sl (Ty.int IntKind.i64)) (Ty.pair Ty.bool Ty.unit)))) Ty.unit))) s]) [CapV.val (Ty.int IntKind.i64) x] Ty.bool=(q05 D x s).bind fun r=>some r.1.1:=by kernel_rfl
theorem q5m {X:Ext} (hX:XOk X) {n:Nat} (hn:W+5≤n) (s:qz) (hs:SchSm s):qpm (DD X n) s=some ((qf3 s,()),()):=by
 obtain ⟨n,rfl⟩:∃ k,n=k+1:=⟨n - 1,by omega⟩
 have hd:=qcw
 have hW:=qcb
 have hM:=qbl
 have h1:=hs.cols
 have h2:=hs.ixs
 have h3:=hs.key
 rw[qbfr hX]
 simp only[qvy,qvc,qr7]
 refine Eq.trans (qfi (L:=fun m i=>qib (DD X n) n _ _ m s.1 s.1.length (i:Int) s) (N:=s.1.length) (P:=qv4 s.1)
  (A:=some ((false,()),())) (B:=br (qv (qpz s.1.length s.2.2.1) 0 s.2.2.1.length) (some ((false,()),())) (some ((inR s.1.length 1 5&&(qcj s.1.length s.2.1 4&&(!qxp s.1 s.2.1&&decide ((s.2.2.1.length:Int)≤3))),()),()))) (fun m i hi=>?_) (m:=n) (by omega)) ?_
 ·simp only[qib,qtw]
  by_cases h:i<s.1.length
  ·have hsz:=hs.names _ (qbk (d:=cd) h)
   rw[qn (by exact_mod_cast h),ix h,br_t,Int.toNat_natCast,q8w hX (by omega) _ (Nat.le_trans hsz (by omega)),qf,qyr hX (by omega),qf,qbmf hX (by omega) s hs,qf,qs (by omega),if_pos h,qhz]
   dsimp only[qv4]
   cases qoj (s.1.getD i cd).1
   ·rfl
   ·cases inR (s.1.getD i cd).2.1 1 3
    ·rfl
    ·rw[Bool.not_true,br_f,br_f,Bool.false_or,Bool.false_or];rfl
  ·rw[qo (by exact_mod_cast h),if_neg h]
   simp only[qq1,qr0]
   refine (qfi (L:=fun m i=>qh9 (DD X n) n _ _ m s.2.2.1 s.2.2.1.length (i:Int) s) (N:=s.2.2.1.length) (P:=qpz s.1.length s.2.2.1)
    (A:=some ((false,()),())) (B:=some ((inR s.1.length 1 5&&(qcj s.1.length s.2.1 4&&(!qxp s.1 s.2.1&&decide ((s.2.2.1.length:Int)≤3))),()),())) (fun m i hi=>?_) (m:=n) (by omega))
   simp only[qh9,qt0]
   by_cases h:i<s.2.2.1.length
   ·have hm:=qbk (d:=xd) h
    have hsz:=hs.ixn _ hm
    have hsl:=hs.ixc _ hm
    have hc1:(decide ((0:Nat)≤0)&&decide ((0:Int)≤(i:Int))&&decide ((i:Int)≤(s.2.2.1.length:Int)))=true:=by
     rw[decide_eq_true (by omega),decide_eq_true (by omega),decide_eq_true (by omega)];rfl
    have hlen:(s.2.2.1.take i).length=i:=by rw[List.length_take];omega
    rw[qn (by exact_mod_cast h),ix h,br_t,Int.toNat_natCast,q8w hX (by omega) _ (Nat.le_trans hsz (by omega)),qf,q4w hX (by omega) s _ _ (by omega) (Nat.le_trans hsl (by omega)),qf,hc1,br_t,qs (by omega),if_pos h]
    have ht:(List.drop (Int.toNat 0) (List.take i s.2.2.1))=s.2.2.1.take i:=rfl
    rw[ht,qbb6 hX (n:=n) (by omega) _ (by omega) _ (fun k=>decide ((s.2.2.1.getD k xd).1=(s.2.2.1.getD i xd).1)) (fun k hk=>by
     rw[hlen] at hk
     obtain ⟨n,rfl⟩:∃ k,n=k+3:=⟨n - 3,by omega⟩
     rw[qbn7,show n+3 - 2=n+1 from rfl,qbav hX]
     have e:(s.2.2.1.take i).getD k xd=s.2.2.1.getD k xd:=by
      simp only[List.getD,List.getElem?_take]
      rw[if_pos hk]
     simp only[qsj,q00,Option.bind_some,qnq,e]),qf,hlen]
    dsimp only[qpz]
    cases qoj (s.2.2.1.getD i xd).1
    ·rfl
    ·cases qcj s.1.length (s.2.2.1.getD i xd).2.1 3
     ·rfl
     ·rw[Bool.not_true,br_f,br_f,Bool.false_or,Bool.false_or];rfl
   ·rw[qo (by exact_mod_cast h),if_neg h]
    simp only[qqu]
    rw[qyr hX (by omega),qf,q4w hX (by omega) s _ _ (by omega) (by omega),qf]
    dsimp only
    cases inR s.1.length 1 5
    ·rfl
    ·rw[br_t,Bool.true_and]
     cases hp:qcj s.1.length s.2.1 4
     ·rfl
     ·rw[br_t,Bool.true_and,qbpb hX (n:=n) (by omega) s.2.1 (by omega) _ (fun j=>(s.1.getD (s.2.1.getD j 0).toNat cd).2.2.1) (fun k hk=>by
       obtain ⟨n,rfl⟩:∃ k,n=k+3:=⟨n - 3,by omega⟩
       obtain ⟨p1,p2⟩:=qbir hp hk
       rw[qbmy,show n+3 - 2=n+1 from rfl,qba6 hX]
       simp only[qsc,q0w]
       rw[ixn p1 p2,br_t];rfl),qf,qh2]
      rfl
 ·unfold qf3
  cases qv (qv4 s.1) 0 s.1.length
  ·cases qv (qpz s.1.length s.2.2.1) 0 s.2.2.1.length<;>rfl
  ·rfl
theorem qbi9 {X:Ext} (hX:XOk X) {n:Nat} (hn:W+4≤n) (s:qz) (hs:SchSm s):qsk (DD X n) s=some ((!qv (qpz s.1.length s.2.2.1) 0 s.2.2.1.length&&decide ((s.2.2.1.length:Int)≤3),()),()):=by
 obtain ⟨n,rfl⟩:∃ k,n=k+1:=⟨n - 1,by omega⟩
 have hd:=qcw
 have hW:=qcb
 have hM:=qbl
 have h1:=hs.cols
 have h2:=hs.ixs
 rw[qbbk hX]
 simp only[qsm,qrz,qo6]
 refine Eq.trans (qfi (L:=fun m i=>qdu (DD X n) n _ _ m (i:Int) s) (N:=s.2.2.1.length) (P:=qpz s.1.length s.2.2.1)
  (A:=some ((false,()),())) (B:=some ((decide ((s.2.2.1.length:Int)≤3),()),())) (fun m i hi=>?_) (m:=n) (by omega)) ?_
 ·simp only[qdu,qqg]
  by_cases h:i<s.2.2.1.length
  ·have hm:=qbk (d:=xd) h
   have hsz:=hs.ixn _ hm
   have hsl:=hs.ixc _ hm
   rw[qn (by exact_mod_cast h),ix h,br_t,Int.toNat_natCast,q9h hX (by omega) _ (Nat.le_trans hsz (by omega)),qf,q5x hX (by omega) s _ _ (by omega) (Nat.le_trans hsl (by omega)),qf,if_pos h]
   dsimp only[qpz]
   cases qoj (s.2.2.1.getD i xd).1
   ·rfl
   ·cases qcj s.1.length (s.2.2.1.getD i xd).2.1 3
    ·rfl
    ·rw[Bool.not_true,br_f,br_f,Bool.false_or,Bool.false_or]
     simp only[qpk]
     refine Eq.trans (qfi (L:=fun q k=>qgb (DD X n) n _ _ q (i:Int) (k:Int) s (s.2.2.1.getD i xd)) (N:=i) (P:=fun k=>decide ((s.2.2.1.getD k xd).1=(s.2.2.1.getD i xd).1))
      (A:=some ((false,()),())) (B:=qdu (DD X n) n (fun v0_0 v0_1=>qn1 (DD X n) n v0_0 v0_1) (fun v1_0=>qn4 (DD X n) n v1_0) m ((i+1:Nat):Int) s) (fun q k hk=>?_) (m:=n) (by omega)) rfl
     simp only[qgb,qqf]
     by_cases h2:k<i
     ·rw[qn (by exact_mod_cast h2),ix (i:=k) (by omega),br_t,Int.toNat_natCast,qs (by omega),if_pos h2,qnq];rfl
     ·rw[qo (by exact_mod_cast h2),if_neg h2]
      simp only[qof]
      rw[qs (by omega)]
  ·rw[qo (by exact_mod_cast h),if_neg h];rfl
 ·cases qv (qpz s.1.length s.2.2.1) 0 s.2.2.1.length<;>rfl
theorem q4s {X:Ext} (hX:XOk X) {n:Nat} (hn:W+5≤n) (s:qz) (hs:SchSm s):qpw (DD X n) s=some ((qf3 s,()),()):=by
 obtain ⟨n,rfl⟩:∃ k,n=k+1:=⟨n - 1,by omega⟩
 have hd:=qcw
 have hW:=qcb
 have hM:=qbl
 have h1:=hs.cols
 have h2:=hs.ixs
 have h3:=hs.key
 rw[qbet hX]
 simp only[qu6,qux,qrs]
 refine Eq.trans (qfi (L:=fun m i=>qh0 (DD X n) n _ _ m (i:Int) s) (N:=s.1.length) (P:=qv4 s.1)
  (A:=some ((false,()),())) (B:=some ((inR s.1.length 1 5&&(qcj s.1.length s.2.1 4&&((!qv (qpz s.1.length s.2.2.1) 0 s.2.2.1.length&&decide ((s.2.2.1.length:Int)≤3))&&!qxp s.1 s.2.1)),()),())) (fun m i hi=>?_) (m:=n) (by omega)) ?_
 ·simp only[qh0,qtl]
  by_cases h:i<s.1.length
  ·have hsz:=hs.names _ (qbk (d:=cd) h)
   rw[qn (by exact_mod_cast h),ix h,br_t,br_t,br_t,Int.toNat_natCast,q9h hX (by omega) _ (Nat.le_trans hsz (by omega)),qf,qy4 hX (by omega),qf,qbmv hX (by omega) s hs,qf,qs (by omega),if_pos h,qhz]
   dsimp only[qv4]
   cases qoj (s.1.getD i cd).1
   ·rfl
   ·cases inR (s.1.getD i cd).2.1 1 3
    ·rfl
    ·rw[Bool.not_true,br_f,br_f,Bool.false_or,Bool.false_or];rfl
  ·rw[qo (by exact_mod_cast h),if_neg h]
   simp only[qqy,qsp]
   rw[qy4 hX (by omega),qf,q5x hX (by omega) s _ _ (by omega) (by omega),qf,qbi9 hX (by omega) s hs,qf]
   dsimp only
   cases inR s.1.length 1 5
   ·rfl
   ·cases hp:qcj s.1.length s.2.1 4
    ·rfl
    ·cases (!qv (qpz s.1.length s.2.2.1) 0 s.2.2.1.length&&decide ((s.2.2.1.length:Int)≤3))
     ·rfl
     ·simp only[Bool.not_true,br_f,Bool.true_and]
      refine Eq.trans (qfi (L:=fun m i=>qie (DD X n) n _ _ m (i:Int) s) (N:=s.2.1.length) (P:=fun j=>(s.1.getD (s.2.1.getD j 0).toNat cd).2.2.1)
       (A:=some ((false,()),())) (B:=some ((true,()),())) (fun m i hi=>?_) (m:=n) (by omega)) ?_
      ·simp only[qie,qud]
       by_cases h:i<s.2.1.length
       ·obtain ⟨p1,p2⟩:=qbir hp h
        rw[qn (by exact_mod_cast h),ix h,br_t,Int.toNat_natCast,ixn p1 p2,br_t,qs (by omega),if_pos h];rfl
       ·rw[qo (by exact_mod_cast h),if_neg h];rfl
      ·unfold qxp
       cases qv (fun j=>(s.1.getD (s.2.1.getD j 0).toNat cd).2.2.1) 0 s.2.1.length<;>rfl
 ·unfold qf3
  cases qv (qv4 s.1) 0 s.1.length<;>cases qv (qpz s.1.length s.2.2.1) 0 s.2.2.1.length<;>cases inR s.1.length 1 5<;>cases qcj s.1.length s.2.1 4<;>cases qxp s.1 s.2.1<;>simp[br]
end Go.G

namespace Go.G
open Go Go.V Go.Proofs
instance decCols:DecidableEq (List Col):=inferInstance
instance decIxs:DecidableEq (List qhk):=inferInstance
instance decSchema:DecidableEq qz:=fun a b=>@instDecidableEqProd _ _ decCols (@instDecidableEqProd _ _ inferInstance (@instDecidableEqProd _ _ decIxs inferInstance)) a b
end Go.G

namespace Go.G
set_option maxRecDepth 100000
open Go Go.V Go.Proofs
abbrev vd:Value:=(0,0,ByteArray.empty,())
abbrev Row:=List Value
def qk (row:Row) (cols:List Int):Row:=(cols.filter fun c=>inR c 0 ((row.length:Int) - 1)).map fun c=>row.getD c.toNat vd
theorem qj4 (row:Row) (cols:List Int):(qk row cols).length≤cols.length:=by
 unfold qk;rw[List.length_map];exact List.length_filter_le _ _
theorem q9i (row:Row) (c:Int) (cols:List Int):qk row (c::cols)=if inR c 0 ((row.length:Int) - 1)=true then row.getD c.toNat vd::qk row cols else qk row cols:=by
 unfold qk
 rw[List.filter_cons]
 split<;>simp
theorem qbkc {c:Int} {n:Nat} (h:inR c 0 ((n:Int) - 1)=true):0≤c∧c<n:=by
 simp only[inR,Bool.and_eq_true,decide_eq_true_eq] at h;omega
theorem qzp {X:Ext} (hX:XOk X) (N n:Nat) (hN:1≤N) (K:Row→Option ((Row×Unit)×Unit)) (row:Row) (hr:row.length≤M) (cols:List Int) (hc:cols.length≤M):∀ (m i:Nat) (acc:Row),i≤cols.length→cols.length - i<m→acc.length≤i→
  qja (DD X N) n K m row cols cols.length (i:Int) acc=K (acc++qk row (cols.drop i))
 | 0,_,_,_,h,_=>by omega
 | m+1,i,acc,hi,hf,ha=>by
  simp only[qja,qvz]
  have hM:=qbl
  have hb:=qcu
  by_cases h:i<cols.length
  ·rw[qn (by exact_mod_cast h),ix h,br_t,Int.toNat_natCast,qeb (by omega) (by omega),qyr hX hN,qf,qs (by omega),qdr h,q9i,qbz h]
   dsimp only
   by_cases hin:inR cols[i] 0 ((row.length:Int) - 1)=true
   ·obtain ⟨p1,p2⟩:=qbkc hin
    rw[hin,br_t,ixn p1 p2,br_t,qn (by omega),if_pos rfl]
    refine Eq.trans (qzp hX N n hN K row hr cols hc m (i+1) _ (by omega) (by omega) (by simp;omega)) ?_
    rw[List.append_assoc];rfl
   ·rw[Bool.not_eq_true] at hin
    rw[hin,br_f,if_neg Bool.noConfusion]
    exact qzp hX N n hN K row hr cols hc m (i+1) acc (by omega) (by omega) (by omega)
  ·rw[qo (by exact_mod_cast h),qf4 h]
   simp[qk]
theorem q0c {X:Ext} (hX:XOk X) (N n:Nat) (hN:1≤N) (K:Row→Option ((Row×Unit)×Unit)) (row:Row) (hr:row.length≤M) (cols:List Int) (hc:cols.length≤M):∀ (m i:Nat) (acc:Row),i≤cols.length→cols.length - i<m→acc.length≤i→
  qi0 (DD X N) n K m row cols (i:Int) acc=K (acc++qk row (cols.drop i))
 | 0,_,_,_,h,_=>by omega
 | m+1,i,acc,hi,hf,ha=>by
  simp only[qi0,quz]
  have hM:=qbl
  have hb:=qcu
  by_cases h:i<cols.length
  ·rw[qn (by exact_mod_cast h),ix h,br_t,Int.toNat_natCast,qeb (by omega) (by omega),qy4 hX hN,qf,qs (by omega),qdr h,q9i,qbz h]
   dsimp only
   by_cases hin:inR cols[i] 0 ((row.length:Int) - 1)=true
   ·obtain ⟨p1,p2⟩:=qbkc hin
    rw[hin,br_t,br_t,ixn p1 p2,br_t,qn (by omega),if_pos rfl]
    refine Eq.trans (q0c hX N n hN K row hr cols hc m (i+1) _ (by omega) (by omega) (by simp;omega)) ?_
    rw[List.append_assoc];rfl
   ·rw[Bool.not_eq_true] at hin
    rw[hin,br_f,if_neg Bool.noConfusion]
    exact q0c hX N n hN K row hr cols hc m (i+1) acc (by omega) (by omega) (by omega)
  ·rw[qo (by exact_mod_cast h),qf4 h]
   simp[qk]
theorem qzv {X:Ext} (hX:XOk X) {n:Nat} (hn:W+1≤n) (row:Row) (hr:row.length≤M) (cols:List Int) (hc:cols.length≤M):qni (DD X n) row cols=some ((qk row cols,()),()):=by
 obtain ⟨n,rfl⟩:∃ k,n=k+1:=⟨n - 1,by omega⟩
 have hW:=qcb
 have hM:=qbl
 rw[qbg2 hX]
 simp only[qxk,qyd,qtr]
 refine Eq.trans (qzp hX n n (by omega) _ row hr cols hc n 0 [] (by omega) (by omega) (by simp)) ?_
 rfl
theorem q0h {X:Ext} (hX:XOk X) {n:Nat} (hn:W+1≤n) (row:Row) (hr:row.length≤M) (cols:List Int) (hc:cols.length≤M):qnj (DD X n) row cols=some ((qk row cols,()),()):=by
 obtain ⟨n,rfl⟩:∃ k,n=k+1:=⟨n - 1,by omega⟩
 have hW:=qcb
 have hM:=qbl
 rw[qbh7 hX]
 simp only[qxw,qxi,quc]
 refine Eq.trans (q0c hX n n (by omega) _ row hr cols hc n 0 [] (by omega) (by omega) (by simp)) ?_
 rfl
theorem qj6 {X:Ext} (hX:XOk X) {n:Nat} (hn:W+2≤n) (s:qz) (row:Row) (hr:row.length≤M) (hc:s.2.1.length≤M):qfh (DD X n) s row=some ((qk row s.2.1,()),()):=by
 obtain ⟨n,rfl⟩:∃ k,n=k+1:=⟨n - 1,by omega⟩
 rw[qbf4 hX]
 simp only[quy,q3t]
 rw[qzv hX (by omega) row hr _ hc,qf]
theorem qea {X:Ext} (hX:XOk X) {n:Nat} (hn:W+2≤n) (s:qz) (row:Row) (hr:row.length≤M) (hc:s.2.1.length≤M):qc0 (DD X n) s row=some ((qk row s.2.1,()),()):=by
 obtain ⟨n,rfl⟩:∃ k,n=k+1:=⟨n - 1,by omega⟩
 rw[qbfw hX]
 simp only[qv0,q3d]
 rw[q0h hX (by omega) row hr _ hc,qf]
def q4t (v:Value):Bool:=decide (v.2.2.1=ByteArray.mk #[])
def qlf (v:Value):Bool:=
 bif decide (v.1=0) then decide (v.2.1=0)&&q4t v else
 bif decide (v.1=1) then inR v.2.1 0 1&&q4t v else
 bif decide (v.1=2) then inR v.2.1 (-1000000000000) 1000000000000&&q4t v else
 bif decide (v.1=3) then decide (v.2.1=0)&&decide ((v.2.2.1.size:Int)≤20) else false
theorem qbjd {X:Ext} (hX:XOk X) {n:Nat} (hn:2≤n) (v:Value):qxh (DD X n) v=some ((qlf v,()),()):=by
 obtain ⟨n,rfl⟩:∃ k,n=k+1:=⟨n - 1,by omega⟩
 rw[qbgt hX]
 simp only[qwo,q50]
 rw[qyr hX (by omega),qyr hX (by omega)]
 simp only[qf,qh2,qnq]
 unfold qlf q4t
 cases decide (v.1=0)<;>cases decide (v.1=1)<;>cases decide (v.1=2)<;>cases decide (v.1=3)<;>rfl
theorem qbju {X:Ext} (hX:XOk X) {n:Nat} (hn:2≤n) (v:Value):qwt (DD X n) v=some ((qlf v,()),()):=by
 obtain ⟨n,rfl⟩:∃ k,n=k+1:=⟨n - 1,by omega⟩
 rw[qbg9 hX]
 simp only[qxz,q5e]
 rw[qy4 hX (by omega),qy4 hX (by omega)]
 simp only[qf,qh2,qnq]
 unfold qlf q4t
 cases decide (v.1=0)<;>cases decide (v.1=1)<;>cases decide (v.1=2)<;>cases decide (v.1=3)<;>rfl
def q2f (cs:List Col) (row:Row) (i:Nat):Bool:=!qlf (row.getD i vd)||(!decide ((row.getD i vd).1=(cs.getD i cd).2.1)&&!(decide ((row.getD i vd).1=0)&&(cs.getD i cd).2.2.1))
def qju (s:qz) (row:Row):Bool:=qf3 s&&(decide (row.length=s.1.length)&&!qv (q2f s.1 row) 0 row.length)
theorem qbaf (a b:Nat):((a:Int) != (b:Int))=!decide (a=b):=by
 by_cases h:a=b
 ·simp[h]
 ·have:¬ (a:Int)=(b:Int):=by omega
  rw[qhz,decide_eq_false this,decide_eq_false h]
theorem q4m {X:Ext} (hX:XOk X) {n:Nat} (hn:W+6≤n) (s:qz) (hs:SchSm s) (row:Row) (hr:row.length≤M):qq0 (DD X n) s row=some ((qju s row,()),()):=by
 obtain ⟨n,rfl⟩:∃ k,n=k+1:=⟨n - 1,by omega⟩
 have hW:=qcb
 have hM:=qbl
 rw[qbla hX]
 simp only[q11,q19,qw4]
 rw[q5m hX (by omega) s hs,qf,qbaf]
 dsimp only
 unfold qju
 cases qf3 s
 ·rfl
 ·by_cases hl:row.length=s.1.length
  ·rw[decide_eq_true hl]
   refine Eq.trans (qfi (L:=fun m i=>qk4 (DD X n) n _ _ m row row.length (i:Int) s) (N:=row.length) (P:=q2f s.1 row)
    (A:=some ((false,()),())) (B:=some ((true,()),())) (fun m i hi=>?_) (m:=n) (by omega)) ?_
   ·simp only[qk4,qzr]
    by_cases h:i<row.length
    ·rw[qn (by exact_mod_cast h),ix h,br_t,ix (i:=i) (hl ▸ h),br_t,Int.toNat_natCast,qbjd hX (by omega),qf,qs (by omega),if_pos h,qhz,qh2,qh2,qbns]
     rfl
    ·rw[qo (by exact_mod_cast h),if_neg h];rfl
   ·cases qv (q2f s.1 row) 0 row.length<;>rfl
  ·rw[decide_eq_false hl];rfl
theorem q4l {X:Ext} (hX:XOk X) {n:Nat} (hn:W+6≤n) (s:qz) (hs:SchSm s) (row:Row) (hr:row.length≤M):qq4 (DD X n) s row=some ((qju s row,()),()):=by
 obtain ⟨n,rfl⟩:∃ k,n=k+1:=⟨n - 1,by omega⟩
 have hW:=qcb
 have hM:=qbl
 rw[qbj5 hX]
 simp only[q1y,q2i,qxr]
 rw[q4s hX (by omega) s hs,qf,qbaf]
 dsimp only
 unfold qju
 cases qf3 s
 ·rfl
 ·by_cases hl:row.length=s.1.length
  ·rw[decide_eq_true hl]
   refine Eq.trans (qfi (L:=fun m i=>qk6 (DD X n) n _ _ m row (i:Int) s) (N:=row.length) (P:=q2f s.1 row)
    (A:=some ((false,()),())) (B:=some ((true,()),())) (fun m i hi=>?_) (m:=n) (by omega)) ?_
   ·simp only[qk6,qzu]
    by_cases h:i<row.length
    ·rw[qn (by exact_mod_cast h),ix h,br_t,br_t,ix (i:=i) (hl ▸ h),br_t,br_t,br_t,Int.toNat_natCast,qbju hX (by omega),qf,qs (by omega),if_pos h,qhz]
     dsimp only[q2f]
     cases qlf (row.getD i vd)
     ·rfl
     ·cases decide ((row.getD i vd).1=(s.1.getD i cd).2.1)
      ·cases (s.1.getD i cd).2.2.1
       ·cases decide ((row.getD i vd).1=0)<;>rfl
       ·cases decide ((row.getD i vd).1=0)<;>rfl
      ·rfl
    ·rw[qo (by exact_mod_cast h),if_neg h];rfl
   ·cases qv (q2f s.1 row) 0 row.length<;>rfl
  ·rw[decide_eq_false hl];rfl
theorem q3m (a b:Value):qkw (Ty.pair (Ty.int IntKind.i64) (Ty.pair (Ty.int IntKind.i64) (Ty.pair Ty.str Ty.unit))) a b=decide (a=b):=by
 obtain ⟨a1,a2,a3,⟨⟩⟩:=a
 obtain ⟨b1,b2,b3,⟨⟩⟩:=b
 have e:∀ x y:ByteArray,(x.toList == y.toList)=decide (x=y):=fun x y=>qnq
 have e2:∀ x y:Int,(x == y)=decide (x=y):=fun x y=>by by_cases h:x=y<;>simp[h]
 simp only[qkw,e,e2]
 by_cases h1:a1=b1<;>by_cases h2:a2=b2<;>by_cases h3:a3=b3<;>simp[h1,h2,h3]
end Go.G

namespace Go.G
set_option maxRecDepth 100000
open Go Go.V Go.Proofs
structure XC (X:Ext):Prop where
 ok:XOk X
 cmp:∀ n a b,q0m (DD X (n+1)) a b=some ((scmp a b,()),())
theorem q6g:∀ (a b:List UInt8),(Lib.compareBytes a b<0↔Op.bytesLess a b=true)∧(Lib.compareBytes a b=0↔a=b)
 | [],[]=>by simp[Lib.compareBytes,Op.bytesLess]
 | [],_::_=>by simp[Lib.compareBytes,Op.bytesLess]
 | _::_,[]=>by simp[Lib.compareBytes,Op.bytesLess]
 | x::a,y::b=>by
  obtain ⟨h1,h2⟩:=q6g a b
  simp only[Lib.compareBytes,Op.bytesLess]
  by_cases hxy:x<y
  ·have hne:x≠y:=fun e=>by subst e;exact absurd hxy (UInt8.lt_irrefl x)
   simp[hxy,hne]
  ·by_cases hyx:y<x
   ·have hne:x≠y:=fun e=>by subst e;exact absurd hyx (UInt8.lt_irrefl x)
    simp[hxy,hyx,hne]
   ·have e:x=y:=UInt8.le_antisymm (UInt8.not_lt.1 hyx) (UInt8.not_lt.1 hxy)
    subst e
    simp[hxy,h1,h2]
theorem qbs1 (a b:ByteArray):scmp a b<0↔Op.bytesLess a.toList b.toList=true:=by
 unfold scmp
 rw[(q6g _ _).1,ByteArray.toList_eq,ByteArray.toList_eq]
theorem qbsi (a b:ByteArray):scmp a b=0↔a=b:=by
 unfold scmp
 rw[(q6g _ _).2]
 constructor
 ·intro h;cases a;cases b;simp only[ByteArray.mk.injEq];exact Array.toList_inj.1 h
 ·rintro rfl;rfl
def byv (a b:Value):Int:=bif decide (a.1<b.1)||(decide (a.1=b.1)&&decide (a.2.1<b.2.1)) then -1 else bif decide (a.1>b.1)||decide (a.2.1>b.2.1) then 1 else scmp a.2.2.1 b.2.2.1
def vlt (a b:Value):Bool:=bif !decide (a.1=b.1) then decide (a.1<b.1) else bif !decide (a.2.1=b.2.1) then decide (a.2.1<b.2.1) else Op.bytesLess a.2.2.1.toList b.2.2.1.toList
theorem qbpx (a b:Value):(byv a b<0↔vlt a b=true)∧(byv a b=0↔a=b):=by
 obtain ⟨a1,a2,a3,⟨⟩⟩:=a
 obtain ⟨b1,b2,b3,⟨⟩⟩:=b
 have h1:=qbs1 a3 b3
 have h2:=qbsi a3 b3
 simp only[byv,vlt]
 by_cases k1:a1<b1
 ·have:¬ a1=b1:=by omega
  simp[k1,this]
 ·by_cases k2:a1=b1
  ·subst k2
   by_cases k3:a2<b2
   ·have:¬ a2=b2:=by omega
    simp[k3,this]
   ·by_cases k4:a2=b2
    ·subst k4
     simp[h1,h2]
    ·have:a2>b2:=by omega
     simp[k3,k4,this]
  ·have:a1>b1:=by omega
   simp[k1,k2,this]
theorem qbpp {X:Ext} (hX:XC X) {n:Nat} (hn:2≤n) (a b:Value):qx6 (DD X n) a b=some ((byv a b,()),()):=by
 obtain ⟨n,rfl⟩:∃ k,n=k+2:=⟨n - 2,by omega⟩
 rw[qbht hX.ok]
 simp only[qya,q4v]
 rw[hX.cmp]
 simp only[qf,qh2,qbns]
 unfold byv
 cases (decide (a.1<b.1)||(decide (a.1=b.1)&&decide (a.2.1<b.2.1)))<;>cases (decide (a.1>b.1)||decide (a.2.1>b.2.1))<;>rfl
theorem qbmb (D:Den ctx) (x y:Value):qca ctx D (Clo.mk 141 []) [CapV.val (Ty.pair (Ty.int IntKind.i64) (Ty.pair (Ty.int IntKind.i64) (Ty.pair Ty.str Ty.unit))) x,CapV.val (Ty.pair (Ty.int IntKind.i64) (Ty.pair (Ty.int IntKind.i64) (Ty.pair Ty.str Ty.unit))) y] (Ty.int IntKind.i64)=(qx6 D x y).bind fun r=>some r.1.1:=by kernel_rfl
def tcmp:Row→Row→Int
 | [],[]=>0
 | [],_::_=>-1
 | _::_,[]=>1
 | x::a,y::b=>if byv x y=0 then tcmp a b else byv x y
def tlt:Row→Row→Bool
 | [],[]=>false
 | [],_::_=>true
 | _::_,[]=>false
 | x::a,y::b=>if x=y then tlt a b else vlt x y
theorem qbne:∀ (a b:Row),(decide (tcmp a b<0))=tlt a b
 | [],[]=>rfl
 | [],_::_=>rfl
 | _::_,[]=>rfl
 | x::a,y::b=>by
  obtain ⟨h1,h2⟩:=qbpx x y
  simp only[tcmp,tlt]
  by_cases e:x=y
  ·simp only[if_pos (h2.2 e),if_pos e];exact qbne a b
  ·simp only[if_neg (fun k=>e (h2.1 k)),if_neg e]
   by_cases k:byv x y<0
   ·rw[decide_eq_true k,h1.1 k]
   ·rw[decide_eq_false k]
    cases hv:vlt x y
    ·rfl
    ·exact absurd (h1.2 hv) k
theorem qbiu {X:Ext} (hX:XC X) (N n:Nat) (hN:2≤N) (a b:Row) (ha:a.length≤M):∀ (m i:Nat),i≤a.length→i≤b.length→a.length - i<m→
  qu (DD X N) n (Clo.mk 141 []) (fun v w u=>qbu (DD X N) n (Clo.mk 141 []) v w u) (fun v w=>qbe (DD X N) n (Clo.mk 141 []) v w) m a b a a.length (i:Int)=some ((tcmp (a.drop i) (b.drop i),()),())
 | 0,_,_,_,h=>by omega
 | m+1,i,hi,hj,hf=>by
  have hM:=qbl
  simp only[qu,qby]
  by_cases h:i<a.length
  ·rw[qn (by exact_mod_cast h),ix h,br_t,qdr h]
   by_cases h2:i<b.length
   ·rw[qo (by omega),ix h2,br_t,qbmb,Int.toNat_natCast,qbpp hX hN,qdr h2,Option.bind_some,qf,qs (by omega),qbz h,qbz h2,qhz]
    simp only[tcmp]
    by_cases e:byv a[i] b[i]=0
    ·rw[decide_eq_true e,if_pos e,Bool.not_true,br_f]
     exact qbiu hX N n hN a b ha m (i+1) (by omega) (by omega) (by omega)
    ·rw[decide_eq_false e,if_neg e,Bool.not_false,br_t];rfl
   ·rw[qn (by omega),qf4 h2];rfl
  ·rw[qo (by exact_mod_cast h),qf4 h]
   simp only[qbe]
   by_cases h2:i<b.length
   ·rw[qn (by omega),qdr h2];rfl
   ·rw[qo (by omega),qf4 h2];rfl
theorem q3w {X:Ext} (hX:XC X) {n:Nat} (hn:W+3≤n) (a b:Row) (ha:a.length≤M):qns (DD X n) a b=some ((tlt a b,()),()):=by
 obtain ⟨n,rfl⟩:∃ k,n=k+2:=⟨n - 2,by omega⟩
 have hW:=qcb
 have hM:=qbl
 rw[qbds hX.ok]
 simp only[qty,q2x]
 have e:qb8 (DD X (n+1)) a b (Clo.mk 141 [])=some ((tcmp a b,()),()):=by
  rw[qf8 hX.ok]
  simp only[qb6,qb7,qbv]
  exact qbiu hX n n (by omega) a b ha n 0 (by omega) (by omega) (by omega)
 rw[e,qf]
 dsimp only
 rw[qbne]
theorem qbcq {X:Ext} (hX:XOk X) {n:Nat} (hn:1≤n) (a b:Value):qnr (DD X n) a b=some ((decide (a=b),()),()):=by
 obtain ⟨n,rfl⟩:∃ k,n=k+1:=⟨n - 1,by omega⟩
 rw[qbcx hX]
 simp only[qtn,q2b,q3m]
theorem qbmu {X:Ext} (hX:XOk X) {n:Nat} (hn:1≤n) (a b:Value):qub (DD X n) a b=some ((vlt a b,()),()):=by
 obtain ⟨n,rfl⟩:∃ k,n=k+1:=⟨n - 1,by omega⟩
 rw[qbcs hX]
 simp only[qt4,q2y,qhz]
 unfold vlt
 cases decide (a.1=b.1)<;>cases decide (a.2.1=b.2.1)<;>rfl
theorem qbd9 {X:Ext} (hX:XOk X) (N n:Nat) (hN:1≤N) (a b:Row) (ha:a.length≤M):∀ (m i:Nat),i≤a.length→i≤b.length→a.length - i<m→
  qgz (DD X N) n (fun v w u=>qpe (DD X N) n v w u) (fun v w=>qhm (DD X N) n v w) m a b (i:Int)=some ((tlt (a.drop i) (b.drop i),()),())
 | 0,_,_,_,h=>by omega
 | m+1,i,hi,hj,hf=>by
  have hM:=qbl
  simp only[qgz,qr2,qh2]
  by_cases h:i<a.length
  ·by_cases h2:i<b.length
   ·rw[decide_eq_true (show (i:Int)<a.length by omega),decide_eq_true (show (i:Int)<b.length by omega)]
    have c0:decide ((0:Int)≤(i:Int))=true:=decide_eq_true (by omega)
    rw[c0,Bool.true_and,br_t,br_t,br_t,qbcq hX hN,qf,Int.toNat_natCast,qs (by omega),qdr h,qdr h2,qbz h,qbz h2]
    simp only[tlt]
    by_cases e:a[i]=b[i]
    ·rw[decide_eq_true e,if_pos e,Bool.not_true,br_f]
     exact qbd9 hX N n hN a b ha m (i+1) (by omega) (by omega) (by omega)
    ·rw[decide_eq_false e,if_neg e,Bool.not_false,br_t,br_t,br_t,qbmu hX hN,qf];rfl
   ·rw[decide_eq_true (show (i:Int)<a.length by omega),decide_eq_false (show ¬ (i:Int)<b.length by omega),qdr h,qf4 h2]
    simp only[Bool.and_false,br_f,qhm,tlt]
    rw[decide_eq_false (by omega)]
  ·rw[decide_eq_false (show ¬ (i:Int)<a.length by omega),qf4 h]
   simp only[Bool.false_and,br_f,qhm]
   by_cases h2:i<b.length
   ·rw[decide_eq_true (by omega),qdr h2];rfl
   ·rw[decide_eq_false (by omega),qf4 h2];rfl
theorem q3c {X:Ext} (hX:XOk X) {n:Nat} (hn:W+1≤n) (a b:Row) (ha:a.length≤M):qnw (DD X n) a b=some ((tlt a b,()),()):=by
 obtain ⟨n,rfl⟩:∃ k,n=k+1:=⟨n - 1,by omega⟩
 have hW:=qcb
 have hM:=qbl
 rw[qbdt hX]
 simp only[qua,qtk,qqz]
 exact qbd9 hX n n (by omega) a b ha n 0 (by omega) (by omega) (by omega)
theorem qbqb {X:Ext} (hX:XOk X) (N n:Nat) (hN:1≤N) (a b:Row) (ha:a.length≤M):∀ (m i:Nat),i≤a.length→i≤b.length→a.length - i<m→
  qjb (DD X N) n (fun v w u=>qry (DD X N) n v w u) (fun v w=>qjp (DD X N) n v w) m a b (i:Int)=some ((decide (a.drop i=b.drop i),()),())
 | 0,_,_,_,h=>by omega
 | m+1,i,hi,hj,hf=>by
  have hM:=qbl
  simp only[qjb,qve,qh2]
  by_cases h:i<a.length
  ·by_cases h2:i<b.length
   ·rw[decide_eq_true (show (i:Int)<a.length by omega),decide_eq_true (show (i:Int)<b.length by omega)]
    have c0:decide ((0:Int)≤(i:Int))=true:=decide_eq_true (by omega)
    rw[c0,Bool.true_and,br_t,br_t,br_t,qbcq hX hN,qf,Int.toNat_natCast,qs (by omega),qdr h,qdr h2,qbz h,qbz h2]
    by_cases e:a[i]=b[i]
    ·rw[decide_eq_true e,Bool.not_true,br_f]
     refine Eq.trans (qbqb hX N n hN a b ha m (i+1) (by omega) (by omega) (by omega)) ?_
     simp only[e,List.cons.injEq,true_and]
    ·rw[decide_eq_false e,Bool.not_false,br_t]
     simp only[e,List.cons.injEq,false_and,decide_false];rfl
   ·rw[decide_eq_true (show (i:Int)<a.length by omega),decide_eq_false (show ¬ (i:Int)<b.length by omega),qdr h,qf4 h2]
    simp only[Bool.and_false,br_f,qjp]
    rw[decide_eq_false (by omega)];simp[h]
  ·rw[decide_eq_false (show ¬ (i:Int)<a.length by omega),qf4 h]
   simp only[Bool.false_and,br_f,qjp]
   by_cases h2:i<b.length
   ·rw[decide_eq_false (by omega),qdr h2];simp[h2]
   ·rw[decide_eq_true (by omega),qf4 h2];simp
theorem qbij {X:Ext} (hX:XOk X) {n:Nat} (hn:W+1≤n) (a b:Row) (ha:a.length≤M):qrk (DD X n) a b=some ((decide (a=b),()),()):=by
 obtain ⟨n,rfl⟩:∃ k,n=k+1:=⟨n - 1,by omega⟩
 have hW:=qcb
 have hM:=qbl
 rw[qbhp hX]
 simp only[qx4,qx0,qtc]
 exact qbqb hX n n (by omega) a b ha n 0 (by omega) (by omega) (by omega)
theorem qbqz {a b:Row} (hl:a.length=b.length):qv (fun i=>!decide (a.getD i vd=b.getD i vd)) 0 a.length=!decide (a=b):=by
 by_cases e:a=b
 ·rw[decide_eq_true e,qba.2 (fun j _ _=>by rw[e];simp)];rfl
 ·rw[decide_eq_false e]
  show _=true
  rw[←Bool.not_eq_false]
  intro hf
  apply e
  apply List.ext_getElem hl
  intro i h1 h2
  have:=qba.1 hf i (by omega) (by omega)
  rw[qbz h1,qbz h2] at this
  simpa using this
theorem qbm4 {X:Ext} (hX:XOk X) {n:Nat} (hn:W+1≤n) (a b:Row) (ha:a.length≤M):qde (DD X n) a b=some ((decide (a=b),()),()):=by
 obtain ⟨n,rfl⟩:∃ k,n=k+1:=⟨n - 1,by omega⟩
 have hM:=qbl
 have hW:=qcb
 rw[qqk hX]
 simp only[qey,qex,qei]
 rw[qbaf]
 by_cases hl:a.length=b.length
 ·rw[decide_eq_true hl,Bool.not_true,br_f]
  refine Eq.trans (qfi (L:=fun m i=>qb3 (DD X n) n _ _ m a b a.length (i:Int)) (N:=a.length) (P:=fun i=>!decide (a.getD i vd=b.getD i vd))
   (A:=some ((false,()),())) (B:=some ((true,()),())) (fun m i hi=>?_) (m:=n) (by omega)) ?_
  ·simp only[qb3,qen]
   by_cases h:i<a.length
   ·rw[qn (by exact_mod_cast h),ix h,br_t,ix (hl ▸ h),br_t,Int.toNat_natCast,q3m,qs (by omega),if_pos h];rfl
   ·rw[qo (by exact_mod_cast h),if_neg h];rfl
  ·rw[qbqz hl]
   cases decide (a=b)<;>rfl
 ·have:¬ a=b:=fun e=>hl (by rw[e])
  rw[decide_eq_false hl,decide_eq_false this];rfl
def hasV (l:Row) (x:Value):Bool:=qv (fun j=>decide (x=l.getD j vd)) 0 l.length
theorem qbmc {X:Ext} (hX:XOk X) {n:Nat} (hn:W+2≤n) (l:Row) (x:Value) (hl:l.length≤M):qd6 (DD X n) l x=some ((hasV l x,()),()):=by
 obtain ⟨n,rfl⟩:∃ k,n=k+2:=⟨n - 2,by omega⟩
 have hM:=qbl
 have hW:=qcb
 rw[qot hX]
 simp only[qd8,qhh]
 have e:qe2 (DD X (n+1)) l x=some ((match qy (fun j=>decide (x=l.getD j vd)) 0 l.length with | some j=>(j:Int) | none=>-1,()),()):=by
  rw[qqv hX]
  simp only[qe4,qe5,qef]
  refine Eq.trans (qvn (L:=fun m i=>qb5 (DD X n) n _ _ m l l.length (i:Int) x) (N:=l.length) (P:=fun j=>decide (x=l.getD j vd))
   (A:=fun j=>some (((j:Int),()),())) (B:=some ((-1,()),())) (fun m i hi=>?_) (m:=n) (by omega)) ?_
  ·simp only[qb5,qem]
   by_cases h:i<l.length
   ·rw[qn (by exact_mod_cast h),ix h,br_t,Int.toNat_natCast,qs (by omega),if_pos h,q3m];rfl
   ·rw[qo (by exact_mod_cast h),if_neg h];rfl
  ·cases qy (fun j=>decide (x=l.getD j vd)) 0 l.length<;>rfl
 rw[e,qf]
 congr 3
 exact q33 _ _
def q5f (l:Row):Bool:=qv (fun j=>decide ((l.getD j vd).1=0)) 0 l.length
theorem qbo8 {X:Ext} (hX:XOk X) {n:Nat} (hn:W+1≤n) (l:Row) (hl:l.length≤M):qxy (DD X n) l=some ((q5f l,()),()):=by
 obtain ⟨n,rfl⟩:∃ k,n=k+1:=⟨n - 1,by omega⟩
 have hM:=qbl
 have hW:=qcb
 rw[qbgp hX]
 simp only[qxl,qx7,qt6]
 refine Eq.trans (qfi (L:=fun m i=>qjd (DD X n) n _ _ m l (i:Int)) (N:=l.length) (P:=fun j=>decide ((l.getD j vd).1=0))
  (A:=some ((true,()),())) (B:=some ((false,()),())) (fun m i hi=>?_) (m:=n) (by omega)) ?_
 ·simp only[qjd,qvo]
  by_cases h:i<l.length
  ·rw[qn (by exact_mod_cast h),ix h,br_t,Int.toNat_natCast,qs (by omega),if_pos h];rfl
  ·rw[qo (by exact_mod_cast h),if_neg h];rfl
 ·unfold q5f
  cases qv (fun j=>decide ((l.getD j vd).1=0)) 0 l.length<;>rfl
theorem qbsr {v:Value} (h:qlf v=true):decide (vd=v)=decide (v.1=0):=by
 obtain ⟨v1,v2,v3,⟨⟩⟩:=v
 by_cases h0:v1=0
 ·subst h0
  simp only[qlf,q4t,decide_true,cond_true,Bool.and_eq_true,decide_eq_true_eq] at h
  obtain ⟨rfl,rfl⟩:=h
  rfl
 ·have:¬ vd=(v1,v2,v3,()):=fun e=>h0 (by rw[←(Prod.mk.inj e).1])
  rw[decide_eq_false this,decide_eq_false h0]
theorem qbpg {l:Row} (h:∀ v∈l,qlf v=true):hasV l vd=q5f l:=
 qs6 fun j _ hj=>qbsr (h _ (qbk (by omega)))
theorem qbl7 {row:Row} {cols:List Int}:∀ v∈qk row cols,v∈row:=by
 intro v hv
 unfold qk at hv
 obtain ⟨c,hc,rfl⟩:=List.mem_map.1 hv
 have:=qbkc (List.mem_filter.1 hc).2
 exact qbk (by omega)
def qxj (xs:List qhk) (a b:Row) (i:Nat):Bool:=(xs.getD i xd).2.2.1&&(decide (qk a (xs.getD i xd).2.1=qk b (xs.getD i xd).2.1)&&!q5f (qk a (xs.getD i xd).2.1))
def qik (s:qz) (a b:Row):Bool:=qv (qxj s.2.2.1 a b) 0 s.2.2.1.length
theorem qn3 (s:qz) (a b:Row):qik s a b=qik s b a:=by
 refine qs6 fun j _ _=>?_
 unfold qxj
 by_cases e:qk a (s.2.2.1.getD j xd).2.1=qk b (s.2.2.1.getD j xd).2.1
 ·rw[decide_eq_true e,decide_eq_true e.symm,e]
 ·rw[decide_eq_false e,decide_eq_false fun k=>e k.symm];simp
theorem qbpw (D:Den ctx) (a b:Row) (x:qhk):qca ctx D (Clo.mk 143 [CapV.rptr (Ty.sl (Ty.pair (Ty.int IntKind.i64) (Ty.pair (Ty.int IntKind.i64) (Ty.pair Ty.str Ty.unit)))) a,CapV.rptr (Ty.sl (Ty.pair (Ty.int IntKind.i64) (Ty.pair (Ty.int IntKind.i64) (Ty.pair Ty.str Ty.unit)))) b]) [CapV.val (Ty.pair Ty.str (Ty.pair (Ty.sl (Ty.int IntKind.i64)) (Ty.pair Ty.bool Ty.unit))) x] Ty.bool=(q5t D x a b).bind fun r=>some r.1.1:=by kernel_rfl
theorem q4k {X:Ext} (hX:XOk X) {n:Nat} (hn:W+6≤n) (s:qz) (hs:SchSm s) (a b:Row) (ha:a.length≤M) (hb:b.length≤M) (hv:∀ v∈a,qlf v=true):qqs (DD X n) s a b=some ((qik s a b,()),()):=by
 obtain ⟨n,rfl⟩:∃ k,n=k+1:=⟨n - 1,by omega⟩
 have hM:=qbl
 have hd:=qcw
 have h2:=hs.ixs
 rw[qbk7 hX]
 simp only[q1x,q80]
 rw[qbb6 hX (n:=n) (by omega) _ (by omega) _ (qxj s.2.2.1 a b) (fun i hi=>by
  have hc:=hs.ixc _ (qbk (d:=xd) hi)
  obtain ⟨n,rfl⟩:∃ k,n=k+3:=⟨n - 3,by omega⟩
  rw[qbpw,show n+3 - 2=n+1 from rfl,qbha hX]
  simp only[qws,q4y]
  have p1:=qzv hX (n:=n) (by omega) a ha (s.2.2.1.getD i xd).2.1 hc
  have p2:=qzv hX (n:=n) (by omega) b hb (s.2.2.1.getD i xd).2.1 hc
  have l1:=qj4 a (s.2.2.1.getD i xd).2.1
  have p3:=qbmc hX (n:=n) (by omega) (qk a (s.2.2.1.getD i xd).2.1) vd (by omega)
  have p4:=qbm4 hX (n:=n) (by omega) (qk a (s.2.2.1.getD i xd).2.1) (qk b (s.2.2.1.getD i xd).2.1) (by omega)
  rw[p1,qf]
  dsimp only
  rw[p2,p3]
  simp only[qf]
  rw[p4,qf,qbpg (fun v h=>hv v (qbl7 v h))]
  unfold qxj
  cases (s.2.2.1.getD i xd).2.2.1
  ·rfl
  ·cases q5f (qk a (s.2.2.1.getD i xd).2.1)<;>simp[br]),qf]
 rfl
theorem qbco {X:Ext} (hX:XOk X) {n:Nat} (hn:W+3≤n) (s:qz) (hs:SchSm s) (a b:Row) (ha:a.length≤M) (hb:b.length≤M):qpy (DD X n) s a b=some ((qik s a b,()),()):=by
 obtain ⟨n,rfl⟩:∃ k,n=k+1:=⟨n - 1,by omega⟩
 have hM:=qbl
 have hW:=qcb
 have h2:=hs.ixs
 rw[qbfo hX]
 simp only[qvd,qu7,qrw]
 refine Eq.trans (qfi (L:=fun m i=>qhu (DD X n) n _ _ m a b (i:Int) s) (N:=s.2.2.1.length) (P:=qxj s.2.2.1 a b)
  (A:=some ((true,()),())) (B:=some ((false,()),())) (fun m i hi=>?_) (m:=n) (by omega)) ?_
 ·simp only[qhu,qt2]
  by_cases h:i<s.2.2.1.length
  ·have hc:=hs.ixc _ (qbk (d:=xd) h)
   have p1:=q0h hX (n:=n) (by omega) a ha (s.2.2.1.getD i xd).2.1 hc
   have p2:=q0h hX (n:=n) (by omega) b hb (s.2.2.1.getD i xd).2.1 hc
   have l1:=qj4 a (s.2.2.1.getD i xd).2.1
   have p3:=qbo8 hX (n:=n) (by omega) (qk a (s.2.2.1.getD i xd).2.1) (by omega)
   have p4:=qbij hX (n:=n) (by omega) (qk a (s.2.2.1.getD i xd).2.1) (qk b (s.2.2.1.getD i xd).2.1) (by omega)
   rw[qn (by exact_mod_cast h),ix h,br_t,Int.toNat_natCast,p1,qf]
   dsimp only
   rw[p2,qf]
   dsimp only
   rw[p3,p4,qs (by omega),if_pos h]
   simp only[qf]
   unfold qxj
   cases (s.2.2.1.getD i xd).2.2.1
   ·rfl
   ·cases decide (qk a (s.2.2.1.getD i xd).2.1=qk b (s.2.2.1.getD i xd).2.1)
    ·rfl
    ·cases q5f (qk a (s.2.2.1.getD i xd).2.1)<;>rfl
  ·rw[qo (by exact_mod_cast h),if_neg h];rfl
 ·unfold qik
  cases qv (qxj s.2.2.1 a b) 0 s.2.2.1.length<;>rfl
end Go.G

namespace Go.G
set_option maxRecDepth 100000
open Go Go.V Go.Proofs
abbrev Rel:=qz×List Row×Unit
instance decRows:DecidableEq (List Row):=inferInstance
instance decRel:DecidableEq Rel:=fun a b=>@instDecidableEqProd _ _ decSchema (@instDecidableEqProd _ _ decRows inferInstance) a b
structure RelSm (r:Rel):Prop where
 sch:SchSm r.1
 rows:r.2.1.length≤M
 row:∀ x∈r.2.1,x.length≤M
end Go.G

namespace Go.G
set_option maxRecDepth 100000
open Go Go.V Go.Proofs
theorem q6c {s:qz} {row:Row} (h:qju s row=true):∀ v∈row,qlf v=true:=by
 intro v hv
 obtain ⟨i,hi,rfl⟩:=List.mem_iff_getElem.1 hv
 simp only[qju,Bool.and_eq_true,Bool.not_eq_true',decide_eq_true_eq] at h
 have k:=qba.1 h.2.2 i (by omega) (by omega)
 simp only[q2f,Bool.or_eq_false_iff,Bool.not_eq_false'] at k
 rw[←qbz (d:=vd) hi];exact k.1
def ql4 (s:qz) (rows:List Row) (i:Nat):Bool:=
 !qju s (rows.getD i [])||((decide (0<i)&&!tlt (qk (rows.getD (i - 1) []) s.2.1) (qk (rows.getD i []) s.2.1))||qv (fun k=>qik s (rows.getD i []) (rows.getD k [])) 0 i)
def qcs (r:Rel):Bool:=!qv (ql4 r.1 r.2.1) 0 r.2.1.length&&(qf3 r.1&&decide ((r.2.1.length:Int)≤12))
theorem qbsg (D:Den ctx) (r:Rel) (row x:Row):qca ctx D (Clo.mk 80 [CapV.rptr (Ty.pair
          (Ty.pair (Ty.sl (Ty.pair Ty.str (Ty.pair (Ty.int IntKind.i64) (Ty.pair Ty.bool Ty.unit))))
           (Ty.pair (Ty.sl (Ty.int IntKind.i64))
            (Ty.pair (Ty.sl (Ty.pair Ty.str (Ty.pair (Ty.sl (Ty.int IntKind.i64)) (Ty.pair Ty.bool Ty.unit)))) Ty.unit)))
          (Ty.pair (Ty.sl (Ty.sl (Ty.pair (Ty.int IntKind.i64) (Ty.pair (Ty.int IntKind.i64) (Ty.pair Ty.str Ty.unit))))) Ty.unit)) r,CapV.rptr (Ty.sl (Ty.pair (Ty.int IntKind.i64) (Ty.pair (Ty.int IntKind.i64) (Ty.pair Ty.str Ty.unit)))) row]) [CapV.val (Ty.sl (Ty.pair (Ty.int IntKind.i64) (Ty.pair (Ty.int IntKind.i64) (Ty.pair Ty.str Ty.unit)))) x] Ty.bool=(q40 D x r row).bind fun q=>some q.1.1:=by kernel_rfl
theorem qbov {α:Type} {l:List α} {i j:Nat} {d:α} (h:j<i):(l.take i).getD j d=l.getD j d:=by
 simp only[List.getD,List.getElem?_take]
 rw[if_pos h]
theorem qbma {X:Ext} (hX:XOk X) {n:Nat} (hn:W+9≤n) (r:Rel) (hr:RelSm r) (i:Nat) (hi:i<r.2.1.length) (hv:∀ v∈r.2.1.getD i [],qlf v=true) :
  qbi (DD X n) (List.drop (Int.toNat 0) (List.take i r.2.1)) (Clo.mk 80 [CapV.rptr (Ty.pair
          (Ty.pair (Ty.sl (Ty.pair Ty.str (Ty.pair (Ty.int IntKind.i64) (Ty.pair Ty.bool Ty.unit))))
           (Ty.pair (Ty.sl (Ty.int IntKind.i64))
            (Ty.pair (Ty.sl (Ty.pair Ty.str (Ty.pair (Ty.sl (Ty.int IntKind.i64)) (Ty.pair Ty.bool Ty.unit)))) Ty.unit)))
          (Ty.pair (Ty.sl (Ty.sl (Ty.pair (Ty.int IntKind.i64) (Ty.pair (Ty.int IntKind.i64) (Ty.pair Ty.str Ty.unit))))) Ty.unit)) r,CapV.rptr (Ty.sl (Ty.pair (Ty.int IntKind.i64) (Ty.pair (Ty.int IntKind.i64) (Ty.pair Ty.str Ty.unit)))) (r.2.1.getD i [])])
   = some ((qv (fun k=>qik r.1 (r.2.1.getD i []) (r.2.1.getD k [])) 0 i,()),()):=by
 have hM:=qbl
 have hd:=qcw
 have h2:=hr.rows
 have hl:(List.drop (Int.toNat 0) (List.take i r.2.1)).length=i:=by
  show (List.take i r.2.1).length=i
  rw[List.length_take];omega
 have e:=qbiv hX (n:=n) (by omega) (List.drop (Int.toNat 0) (List.take i r.2.1)) (by rw[hl];omega) (Clo.mk 80 [CapV.rptr (Ty.pair
          (Ty.pair (Ty.sl (Ty.pair Ty.str (Ty.pair (Ty.int IntKind.i64) (Ty.pair Ty.bool Ty.unit))))
           (Ty.pair (Ty.sl (Ty.int IntKind.i64))
            (Ty.pair (Ty.sl (Ty.pair Ty.str (Ty.pair (Ty.sl (Ty.int IntKind.i64)) (Ty.pair Ty.bool Ty.unit)))) Ty.unit)))
          (Ty.pair (Ty.sl (Ty.sl (Ty.pair (Ty.int IntKind.i64) (Ty.pair (Ty.int IntKind.i64) (Ty.pair Ty.str Ty.unit))))) Ty.unit)) r,CapV.rptr (Ty.sl (Ty.pair (Ty.int IntKind.i64) (Ty.pair (Ty.int IntKind.i64) (Ty.pair Ty.str Ty.unit)))) (r.2.1.getD i [])])
  (fun k=>qik r.1 (r.2.1.getD i []) (r.2.1.getD k [])) (fun k hk=>by
   rw[hl] at hk
   obtain ⟨n,rfl⟩:∃ k,n=k+3:=⟨n - 3,by omega⟩
   rw[qbsg,show n+3 - 2=n+1 from rfl,qbh2 hX]
   simp only[qwx,q5c]
   have hg:(List.drop (Int.toNat 0) (List.take i r.2.1)).getD k []=r.2.1.getD k []:=qbov hk
   rw[hg,q4k hX (by omega) r.1 hr.sch _ _ (hr.row _ (qbk hi)) (hr.row _ (qbk (by omega))) hv,qf]
   rfl)
 rw[hl] at e
 exact e
theorem qil {X:Ext} (hX:XC X) {n:Nat} (hn:W+10≤n) (r:Rel) (hr:RelSm r):qch (DD X n) r=some ((qcs r,()),()):=by
 obtain ⟨n,rfl⟩:∃ k,n=k+1:=⟨n - 1,by omega⟩
 have hW:=qcb
 have hM:=qbl
 have h2:=hr.rows
 have hk:=hr.sch.key
 rw[qbk8 hX.ok]
 simp only[q27,q2q,qxx]
 refine Eq.trans (qfi (L:=fun m i=>qld (DD X n) n _ _ m r.2.1 r.2.1.length (i:Int) r) (N:=r.2.1.length) (P:=ql4 r.1 r.2.1)
  (A:=some ((false,()),())) (B:=some ((qf3 r.1&&decide ((r.2.1.length:Int)≤12),()),())) (fun m i hi=>?_) (m:=n) (by omega)) ?_
 ·simp only[qld,qz8]
  by_cases h:i<r.2.1.length
  ·have hc1:(decide ((0:Nat)≤0)&&decide ((0:Int)≤(i:Int))&&decide ((i:Int)≤(r.2.1.length:Int)))=true:=by
    rw[decide_eq_true (by omega),decide_eq_true (by omega),decide_eq_true (by omega)];rfl
   have hri:=hr.row _ (qbk (d:=[]) h)
   rw[qn (by exact_mod_cast h),ix h,br_t,Int.toNat_natCast,q4m hX.ok (n:=n) (by omega) r.1 hr.sch _ hri,qf,qs (by omega),if_pos h,hc1]
   dsimp only
   unfold ql4
   cases hok:qju r.1 (r.2.1.getD i [])
   ·rfl
   ·have ec:=qbma hX.ok (n:=n) (by omega) r hr i h (q6c hok)
    rw[Bool.not_true,br_f,br_t,ec,qf,Bool.false_or]
    dsimp only
    by_cases h0:0<i
    ·have w1:IntKind.wrap IntKind.i64 ((i:Int) - 1)=((i - 1:Nat):Int):=by rw[qeb (by omega) (by omega)];omega
     have hrj:=hr.row _ (qbk (d:=[]) (show i - 1<r.2.1.length by omega))
     have l1:=qj4 (r.2.1.getD (i - 1) []) r.1.2.1
     rw[qn (by omega),w1,ix (i:=i - 1) (by omega),br_t,Int.toNat_natCast,qj6 hX.ok (by omega) r.1 _ hrj hk,qf]
     dsimp only
     rw[qj6 hX.ok (by omega) r.1 _ hri hk,qf]
     dsimp only
     rw[q3w hX (by omega) _ _ (by omega),qf,decide_eq_true h0]
     dsimp only
     cases tlt (qk (r.2.1.getD (i - 1) []) r.1.2.1) (qk (r.2.1.getD i []) r.1.2.1)<;>rfl
    ·rw[qo (by omega),decide_eq_false h0];rfl
  ·rw[qo (by exact_mod_cast h),if_neg h]
   simp only[qvf]
   rw[q5m hX.ok (by omega) r.1 hr.sch,qf,qh2]
 ·unfold qcs
  cases qv (ql4 r.1 r.2.1) 0 r.2.1.length<;>rfl
theorem qo0 {X:Ext} (hX:XOk X) {n:Nat} (hn:W+8≤n) (r:Rel) (hr:RelSm r):qiy (DD X n) r=some ((qcs r,()),()):=by
 obtain ⟨n,rfl⟩:∃ k,n=k+1:=⟨n - 1,by omega⟩
 have hW:=qcb
 have hM:=qbl
 have h2:=hr.rows
 have hk:=hr.sch.key
 rw[qblr hX]
 simp only[q1u,q18,qxc]
 refine Eq.trans (qfi (L:=fun m i=>qe7 (DD X n) n _ _ m (i:Int) r) (N:=r.2.1.length) (P:=ql4 r.1 r.2.1)
  (A:=some ((false,()),())) (B:=some ((qf3 r.1&&decide ((r.2.1.length:Int)≤12),()),())) (fun m i hi=>?_) (m:=n) (by omega)) ?_
 ·simp only[qe7,qzo,qx9]
  by_cases h:i<r.2.1.length
  ·have hri:=hr.row _ (qbk (d:=[]) h)
   have el:=qfi (L:=fun q k=>qlc (DD X n) n (fun v0_0 v0_1 v0_2=>qvw (DD X n) n (qe7 (DD X n) n (fun v0_0 v0_1=>qgt (DD X n) n v0_0 v0_1) (fun v1_0=>qfj (DD X n) n v1_0) m) (fun v0_0 v0_1=>qgt (DD X n) n v0_0 v0_1) (fun v1_0=>qfj (DD X n) n v1_0) v0_0 v0_1 v0_2)
      (fun v1_0 v1_1=>qps (DD X n) n (qe7 (DD X n) n (fun v0_0 v0_1=>qgt (DD X n) n v0_0 v0_1) (fun v1_0=>qfj (DD X n) n v1_0) m) (fun v0_0 v0_1=>qgt (DD X n) n v0_0 v0_1) (fun v1_0=>qfj (DD X n) n v1_0) v1_0 v1_1) q (i:Int) (k:Int) r)
     (N:=i) (P:=fun k=>qik r.1 (r.2.1.getD i []) (r.2.1.getD k []))
     (A:=some ((false,()),())) (B:=qe7 (DD X n) n (fun v0_0 v0_1=>qgt (DD X n) n v0_0 v0_1) (fun v1_0=>qfj (DD X n) n v1_0) m ((i+1:Nat):Int) r) (fun q k hk2=>by
    simp only[qlc,qz9]
    by_cases h3:k<i
    ·rw[qn (by exact_mod_cast h3),ix (i:=k) (by omega),br_t,ix h,br_t,Int.toNat_natCast,Int.toNat_natCast,qbco hX (by omega) r.1 hr.sch _ _ (hr.row _ (qbk (by omega))) hri,qf,qs (by omega),if_pos h3,qn3]
     rfl
    ·rw[qo (by exact_mod_cast h3),if_neg h3]
     simp only[qps]
     rw[qs (by omega)]) (m:=n) (by omega)
   simp only[Int.natCast_zero] at el
   rw[qn (by exact_mod_cast h),ix h,br_t,Int.toNat_natCast,q4l hX (n:=n) (by omega) r.1 hr.sch _ hri,qf,if_pos h]
   dsimp only
   unfold ql4
   cases hok:qju r.1 (r.2.1.getD i [])
   ·rfl
   ·rw[Bool.not_true,br_f,Bool.false_or]
    by_cases h0:0<i
    ·have w1:IntKind.wrap IntKind.i64 ((i:Int) - 1)=((i - 1:Nat):Int):=by rw[qeb (by omega) (by omega)];omega
     have hrj:=hr.row _ (qbk (d:=[]) (show i - 1<r.2.1.length by omega))
     have l1:=qj4 (r.2.1.getD (i - 1) []) r.1.2.1
     rw[qn (by omega),w1,ix (i:=i - 1) (by omega),br_t,Int.toNat_natCast,qea hX (by omega) r.1 _ hrj hk,qf]
     dsimp only
     rw[br_t,qea hX (by omega) r.1 _ hri hk,qf]
     dsimp only
     rw[q3c hX (by omega) _ _ (by omega),qf,decide_eq_true h0]
     dsimp only
     cases tlt (qk (r.2.1.getD (i - 1) []) r.1.2.1) (qk (r.2.1.getD i []) r.1.2.1)
     ·rfl
     ·exact el
    ·rw[qo (by omega),decide_eq_false h0];exact el
  ·rw[qo (by exact_mod_cast h),if_neg h]
   simp only[qfj]
   rw[q4s hX (by omega) r.1 hr.sch,qf,qh2]
 ·unfold qcs
  cases qv (ql4 r.1 r.2.1) 0 r.2.1.length<;>rfl
def q95 (r:Rel) (key:Row) (i:Nat):Bool:=decide (qk (r.2.1.getD i []) r.1.2.1=key)
def qgm (r:Rel) (key:Row):Option Nat:=qy (q95 r key) 0 r.2.1.length
theorem qxm {r:Rel} {key:Row} {j:Nat} (h:qgm r key=some j):j<r.2.1.length:=by
 have:=qd9 h;omega
theorem qbpj (D:Den ctx) (r:Rel) (key x:Row):qca ctx D (Clo.mk 153 [CapV.rptr (Ty.pair
          (Ty.pair (Ty.sl (Ty.pair Ty.str (Ty.pair (Ty.int IntKind.i64) (Ty.pair Ty.bool Ty.unit))))
           (Ty.pair (Ty.sl (Ty.int IntKind.i64))
            (Ty.pair (Ty.sl (Ty.pair Ty.str (Ty.pair (Ty.sl (Ty.int IntKind.i64)) (Ty.pair Ty.bool Ty.unit)))) Ty.unit)))
          (Ty.pair (Ty.sl (Ty.sl (Ty.pair (Ty.int IntKind.i64) (Ty.pair (Ty.int IntKind.i64) (Ty.pair Ty.str Ty.unit))))) Ty.unit)) r,CapV.rptr (Ty.sl (Ty.pair (Ty.int IntKind.i64) (Ty.pair (Ty.int IntKind.i64) (Ty.pair Ty.str Ty.unit)))) key]) [CapV.val (Ty.sl (Ty.pair (Ty.int IntKind.i64) (Ty.pair (Ty.int IntKind.i64) (Ty.pair Ty.str Ty.unit)))) x] Ty.bool=(q5d D x r key).bind fun q=>some q.1.1:=by kernel_rfl
theorem q99 {X:Ext} (hX:XOk X) {n:Nat} (hn:W+6≤n) (r:Rel) (hr:RelSm r) (key:Row):qnm (DD X n) r key=some ((match qgm r key with | some j=>(j:Int) | none=>-1,()),()):=by
 obtain ⟨n,rfl⟩:∃ k,n=k+1:=⟨n - 1,by omega⟩
 have hM:=qbl
 have hd:=qcw
 have h2:=hr.rows
 have hk:=hr.sch.key
 rw[qbkq hX]
 simp only[q22,q88]
 rw[qbcz hX (n:=n) (by omega) _ (by omega) _ (q95 r key) (fun i hi=>by
  obtain ⟨n,rfl⟩:∃ k,n=k+2:=⟨n - 2,by omega⟩
  rw[qbpj,show n+2 - 1=n+1 from rfl,qbg8 hX]
  simp only[qxt,q4q]
  have l1:=qj4 (r.2.1.getD i []) r.1.2.1
  rw[qj6 hX (by omega) r.1 _ (hr.row _ (qbk hi)) hk,qf]
  dsimp only
  rw[qbm4 hX (by omega) _ _ (by omega),qf]
  rfl),qf]
 rfl
theorem q97 {X:Ext} (hX:XOk X) {n:Nat} (hn:W+6≤n) (r:Rel) (hr:RelSm r) (key:Row):qng (DD X n) r key=some ((match qgm r key with | some j=>(j:Int) | none=>-1,()),()):=by
 obtain ⟨n,rfl⟩:∃ k,n=k+1:=⟨n - 1,by omega⟩
 have hM:=qbl
 have hW:=qcb
 have h2:=hr.rows
 have hk:=hr.sch.key
 rw[qblo hX]
 simp only[q14,q26,qxf]
 refine Eq.trans (qvn (L:=fun m i=>qk2 (DD X n) n _ _ m key (i:Int) r) (N:=r.2.1.length) (P:=q95 r key)
  (A:=fun j=>some (((j:Int),()),())) (B:=some ((-1,()),())) (fun m i hi=>?_) (m:=n) (by omega)) ?_
 ·simp only[qk2,qzq]
  by_cases h:i<r.2.1.length
  ·have l1:=qj4 (r.2.1.getD i []) r.1.2.1
   rw[qn (by exact_mod_cast h),ix h,br_t,Int.toNat_natCast,qea hX (by omega) r.1 _ (hr.row _ (qbk h)) hk,qf]
   dsimp only
   rw[qbij hX (by omega) _ _ (by omega),qf,qs (by omega),if_pos h]
   rfl
  ·rw[qo (by exact_mod_cast h),if_neg h];rfl
 ·unfold qgm
  cases qy (q95 r key) 0 r.2.1.length<;>rfl
theorem qvj {X:Ext} (hX:XOk X) {n:Nat} (hn:1≤n) (a:Row) (ha:a.length≤qbj):qbn (DD X n) a=some ((a,()),()):=by
 obtain ⟨n,rfl⟩:∃ k,n=k+1:=⟨n - 1,by omega⟩
 rw[qqc hX]
 simp only[qe6,qiv]
 have hc:decide (0+a.length≤qbj)=true:=decide_eq_true (by omega)
 rw[hc,br_t,List.nil_append]
 cases a with
 | nil=>simp[qbl2,both]
 | cons x a=>rw[qo (by simp)]
def lookup (r:Rel) (key:Row):Row×Bool:=match qgm r key with | some j=>if qcs r=true then (r.2.1.getD j [],true) else ([],false) | none=>([],false)
theorem qbkv {X:Ext} (hX:XC X) {n:Nat} (hn:W+11≤n) (r:Rel) (hr:RelSm r) (key:Row):qzs (DD X n) r key=some (((lookup r key).1,(lookup r key).2,()),()):=by
 obtain ⟨n,rfl⟩:∃ k,n=k+1:=⟨n - 1,by omega⟩
 have hM:=qbl
 have hb:=qcu
 rw[qbjs hX.ok]
 simp only[qz6,q63]
 rw[q99 hX.ok (by omega) r hr,qf,qil hX (by omega) r hr,qf]
 unfold lookup
 cases hk:qgm r key with
 | none=>cases qcs r<;>rfl
 | some j=>
  have hj:=qxm hk
  dsimp only
  rw[ix hj,br_t,Int.toNat_natCast]
  cases qcs r
  ·rfl
  ·have:=hr.row _ (qbk (d:=[]) hj)
   rw[qvj hX.ok (by omega) _ (by omega),qf,Bool.not_true,cond_false,qo (by omega)];rfl
theorem qbkk {X:Ext} (hX:XOk X) {n:Nat} (hn:W+9≤n) (r:Rel) (hr:RelSm r) (key:Row):qzt (DD X n) r key=some (((lookup r key).1,(lookup r key).2,()),()):=by
 obtain ⟨n,rfl⟩:∃ k,n=k+1:=⟨n - 1,by omega⟩
 have hM:=qbl
 have hb:=qcu
 rw[qbi7 hX]
 simp only[qz7,q66]
 rw[q97 hX (by omega) r hr,qf,qo0 hX (by omega) r hr,qf]
 unfold lookup
 cases hk:qgm r key with
 | none=>rfl
 | some j=>
  have hj:=qxm hk
  dsimp only
  have:=hr.row _ (qbk (d:=[]) hj)
  rw[ix hj,br_t,Int.toNat_natCast,qo (by omega)]
  have hc:decide (0+(r.2.1.getD j []).length≤qbj)=true:=decide_eq_true (by omega)
  rw[hc,br_t,List.nil_append]
  cases qcs r<;>rfl
end Go.G

namespace Go.G
set_option maxRecDepth 100000
open Go Go.V Go.Proofs
theorem qbb7 {X:Ext} (hX:XOk X) {n:Nat} (hn:1≤n) (a:List Int) (ha:a.length≤qbj):qio (DD X n) a=some ((a,()),()):=by
 obtain ⟨n,rfl⟩:∃ k,n=k+1:=⟨n - 1,by omega⟩
 rw[q38 hX]
 simp only[ql8,qsz]
 have hc:decide (0+a.length≤qbj)=true:=decide_eq_true (by omega)
 rw[hc,br_t,List.nil_append]
 cases a with
 | nil=>simp[qbl2,both]
 | cons x a=>rw[qo (by simp)]
theorem qbmr {X:Ext} (hX:XOk X) {n:Nat} (hn:1≤n) (a:List Col) (ha:a.length≤qbj):qf7 (DD X n) a=some ((a,()),()):=by
 obtain ⟨n,rfl⟩:∃ k,n=k+1:=⟨n - 1,by omega⟩
 rw[qtg hX]
 simp only[qf6,qki]
 have hc:decide (0+a.length≤qbj)=true:=decide_eq_true (by omega)
 rw[hc,br_t,List.nil_append]
 cases a with
 | nil=>simp[qbl2,both]
 | cons x a=>rw[qo (by simp)]
theorem qbp1 {X:Ext} (hX:XOk X) (N n:Nat) (hN:1≤N) (K:qz→qz→Option ((qz×Unit)×Unit)) (xs:List qhk) (hx:xs.length≤M) (hc:∀ x∈xs,x.2.1.length≤M) (z:qz) (c:List Col) (k:List Int):∀ (m i:Nat) (acc:List qhk),i≤xs.length→xs.length - i<m→acc.length≤i→
  qgj (DD X N) n K m xs xs.length (i:Int) z (c,k,acc,())=K z (c,k,acc++xs.drop i,())
 | 0,_,_,_,h,_=>by omega
 | m+1,i,acc,hi,hf,ha=>by
  have hM:=qbl
  have hb:=qcu
  simp only[qgj,qrb]
  by_cases h:i<xs.length
  ·rw[qn (by exact_mod_cast h),ix h,br_t,Int.toNat_natCast,qs (by omega),qdr h,qbz h]
   have:=hc _ (List.getElem_mem h)
   rw[qbb7 hX hN _ (by omega),qf,qn (by omega)]
   refine Eq.trans (qbp1 hX N n hN K xs hx hc z c k m (i+1) _ (by omega) (by omega) (by simp;omega)) ?_
   rw[List.append_assoc];rfl
  ·rw[qo (by exact_mod_cast h),qf4 h,List.append_nil]
theorem q2v {X:Ext} (hX:XOk X) {n:Nat} (hn:W+3≤n) (s:qz) (hs:SchSm s):qm4 (DD X n) s=some ((s,()),()):=by
 obtain ⟨n,rfl⟩:∃ k,n=k+1:=⟨n - 1,by omega⟩
 have hM:=qbl
 have hb:=qcu
 have hW:=qcb
 have h1:=hs.cols
 have h2:=hs.key
 have h3:=hs.ixs
 rw[qbbi hX]
 simp only[qr9,qsq,qo4]
 rw[qbmr hX (by omega) _ (by omega),qf,qbb7 hX (by omega) _ (by omega),qf]
 dsimp only
 refine Eq.trans (qbp1 hX n n (by omega) _ s.2.2.1 h3 hs.ixc _ s.1 s.2.1 n 0 [] (by omega) (by omega) (by simp)) ?_
 rfl
theorem qbfg {X:Ext} (D:Den ctx) (n:Nat) (K:qz→qz→Option ((qz×Unit)×Unit)) (s:qz) (hx:s.2.2.1.length≤M) (hc:∀ x∈s.2.2.1,x.2.1.length≤M) (z:qz) (c:List Col) (k:List Int):∀ (m i:Nat) (acc:List qhk),i≤s.2.2.1.length→s.2.2.1.length - i<m→acc.length≤i→
  qje D n K m (i:Int) s z (c,k,acc,())=K z (c,k,acc++s.2.2.1.drop i,())
 | 0,_,_,_,h,_=>by omega
 | m+1,i,acc,hi,hf,ha=>by
  have hM:=qbl
  have hb:=qcu
  simp only[qje,qu9]
  by_cases h:i<s.2.2.1.length
  ·have:=hc _ (List.getElem_mem h)
   rw[qn (by exact_mod_cast h),ix h,br_t,Int.toNat_natCast,qs (by omega),qdr h,qbz h,qn (by omega),qn (by omega)]
   refine Eq.trans (qbfg (X:=X) D n K s hx hc z c k m (i+1) _ (by omega) (by omega) (by simp;omega)) ?_
   rw[List.append_assoc];rfl
  ·rw[qo (by exact_mod_cast h),qf4 h,List.append_nil]
theorem q2h {X:Ext} (hX:XOk X) {n:Nat} (hn:W+3≤n) (s:qz) (hs:SchSm s):qrj (DD X n) s=some ((s,()),()):=by
 obtain ⟨n,rfl⟩:∃ k,n=k+1:=⟨n - 1,by omega⟩
 have hM:=qbl
 have hb:=qcu
 have hW:=qcb
 have h1:=hs.cols
 have h2:=hs.key
 have h3:=hs.ixs
 rw[qbgu hX]
 simp only[qxn,qx3,qt5]
 rw[qn (by omega),qn (by omega)]
 refine Eq.trans (qbfg (X:=X) (DD X n) n _ s h3 hs.ixc _ ([]++s.1) ([]++s.2.1) n 0 [] (by omega) (by omega) (by simp)) ?_
 rfl
def qke (s:qz):Rel×Bool:=if qcs (s,[],())=true then ((s,[],()),true) else ((([],[],[],()),[],()),false)
theorem q8e {s:qz} (hs:SchSm s):RelSm (s,[],()):=⟨hs,Nat.zero_le _,fun _ h=>nomatch h⟩
theorem qbkn {X:Ext} (hX:XC X) {n:Nat} (hn:W+11≤n) (s:qz) (hs:SchSm s):q0e (DD X n) s=some (((qke s).1,(qke s).2,()),()):=by
 obtain ⟨n,rfl⟩:∃ k,n=k+1:=⟨n - 1,by omega⟩
 rw[qbjh hX.ok]
 simp only[q0g,q68]
 rw[q2v hX.ok (by omega) s hs,qf]
 dsimp only
 have e:=qil hX (n:=n) (by omega) (s,[],()) (q8e hs)
 refine Eq.trans (congrArg (fun x=>qg x _) e) ?_
 rw[qf]
 unfold qke
 cases qcs (s,[],())<;>rfl
theorem q81 {X:Ext} (hX:XOk X) {n:Nat} (hn:W+9≤n) (s:qz) (hs:SchSm s):qs1 (DD X n) s=some (((qke s).1,(qke s).2,()),()):=by
 obtain ⟨n,rfl⟩:∃ k,n=k+1:=⟨n - 1,by omega⟩
 rw[qbjq hX]
 simp only[qzy,q69]
 rw[q2h hX (by omega) s hs,qf]
 dsimp only
 have e:=qo0 hX (n:=n) (by omega) (s,[],()) (q8e hs)
 refine Eq.trans (congrArg (fun x=>qg x _) e) ?_
 rw[qf]
 unfold qke
 cases qcs (s,[],())<;>rfl
end Go.G

namespace Go.G
set_option maxRecDepth 100000
open Go Go.V Go.Proofs
end Go.G

namespace Go.G
set_option maxRecDepth 100000
open Go Go.V Go.Proofs
theorem qbp6 (D:Den ctx) (n:Nat) (K:List Row→Option ((List Row×Unit)×Unit)) (a:List Row) (ha:a.length≤M) (hr:∀ x∈a,x.length≤M):∀ (m i:Nat) (acc:List Row),i≤a.length→a.length - i<m→acc.length≤i→
  qi3 D n K m a (i:Int) acc=K (acc++a.drop i)
 | 0,_,_,_,h,_=>by omega
 | m+1,i,acc,hi,hf,hl=>by
  have hM:=qbl
  have hb:=qcu
  simp only[qi3,qus]
  by_cases h:i<a.length
  ·have:=hr _ (List.getElem_mem h)
   rw[qn (by exact_mod_cast h),ix h,br_t,Int.toNat_natCast,qbz h,qn (by omega),qn (by omega),qs (by omega),qdr h]
   refine Eq.trans (qbp6 D n K a ha hr m (i+1) _ (by omega) (by omega) (by simp;omega)) ?_
   rw[List.append_assoc];rfl
  ·rw[qo (by exact_mod_cast h),qf4 h,List.append_nil]
theorem qy9 {X:Ext} (hX:XOk X) {n:Nat} (hn:W+1≤n) (a:List Row) (ha:a.length≤M) (hr:∀ x∈a,x.length≤M):qia (DD X n) a=some ((a,()),()):=by
 obtain ⟨n,rfl⟩:∃ k,n=k+1:=⟨n - 1,by omega⟩
 have hM:=qbl
 have hW:=qcb
 rw[qbhk hX]
 simp only[qx8,qxb,qs9]
 refine Eq.trans (qbp6 (DD X n) n _ a ha hr n 0 [] (by omega) (by omega) (by simp)) ?_
 rfl
theorem qbkb {X:Ext} (hX:XOk X) (N n:Nat) (hN:1≤N) (K:List Row→Option ((List Row×Unit)×Unit)) (a:List Row) (ha:a.length≤M) (hr:∀ x∈a,x.length≤M):∀ (m i:Nat) (acc:List Row),i≤a.length→a.length - i<m→acc.length≤i→
  qgk (DD X N) n K m a (a.length:Int) (i:Int) acc=K (acc++a.drop i)
 | 0,_,_,_,h,_=>by omega
 | m+1,i,acc,hi,hf,hl=>by
  have hM:=qbl
  have hb:=qcu
  simp only[qgk,qqh]
  by_cases h:i<a.length
  ·have:=hr _ (List.getElem_mem h)
   rw[qn (by exact_mod_cast h),ix h,br_t,Int.toNat_natCast,qbz h,qvj hX hN _ (by omega),qf,qn (by omega),qs (by omega),qdr h]
   refine Eq.trans (qbkb hX N n hN K a ha hr m (i+1) _ (by omega) (by omega) (by simp;omega)) ?_
   rw[List.append_assoc];rfl
  ·rw[qo (by exact_mod_cast h),qf4 h,List.append_nil]
theorem qblz {X:Ext} (hX:XOk X) {n:Nat} (hn:W+2≤n) (a:List Row) (ha:a.length≤M) (hr:∀ x∈a,x.length≤M):qst (DD X n) a=some ((a,()),()):=by
 obtain ⟨n,rfl⟩:∃ k,n=k+1:=⟨n - 1,by omega⟩
 have hM:=qbl
 have hW:=qcb
 rw[qbap hX]
 simp only[qsd,qsn,qo3]
 refine Eq.trans (qbkb hX n n (by omega) _ a ha hr n 0 [] (by omega) (by omega) (by simp)) ?_
 rfl
theorem q8d {X:Ext} (hX:XOk X) {n:Nat} (hn:W+4≤n) (r:Rel) (hr:RelSm r):qnh (DD X n) r=some ((r,()),()):=by
 obtain ⟨n,rfl⟩:∃ k,n=k+1:=⟨n - 1,by omega⟩
 rw[qbgh hX]
 simp only[qw9,q45]
 rw[q2h hX (by omega) _ hr.sch,qf,qy9 hX (by omega) _ hr.rows hr.row,qf]
theorem qw5 {X:Ext} (hX:XOk X) {n:Nat} (hn:W+4≤n) (r:Rel) (hr:RelSm r):qho (DD X n) r=some ((r,()),()):=by
 obtain ⟨n,rfl⟩:∃ k,n=k+1:=⟨n - 1,by omega⟩
 rw[q7s hX]
 simp only[qo5,qwi]
 rw[q2v hX (by omega) _ hr.sch,qf,qblz hX (by omega) _ hr.rows hr.row,qf]
def others (r:Rel) (row:Row) (j:Int):Bool:=qv (fun k=>!decide ((k:Int)=j)&&qik r.1 (r.2.1.getD k []) row) 0 r.2.1.length
theorem qbb9 {X:Ext} (hX:XOk X) {n:Nat} (hn:W+4≤n) (r:Rel) (hr:RelSm r) (row:Row) (hw:row.length≤M) (j:Int):qnt (DD X n) r row j=some ((others r row j,()),()):=by
 obtain ⟨n,rfl⟩:∃ k,n=k+1:=⟨n - 1,by omega⟩
 have hM:=qbl
 have hW:=qcb
 have h2:=hr.rows
 rw[qbdf hX]
 simp only[qtt,que,qrd]
 refine Eq.trans (qfi (L:=fun m i=>qgy (DD X n) n _ _ m row j (i:Int) r) (N:=r.2.1.length) (P:=fun k=>!decide ((k:Int)=j)&&qik r.1 (r.2.1.getD k []) row)
  (A:=some ((true,()),())) (B:=some ((false,()),())) (fun m i hi=>?_) (m:=n) (by omega)) ?_
 ·simp only[qgy,qr8]
  by_cases h:i<r.2.1.length
  ·rw[qn (by exact_mod_cast h),ix h,br_t,Int.toNat_natCast,qbco hX (by omega) r.1 hr.sch _ _ (hr.row _ (qbk h)) hw,qf,qs (by omega),if_pos h,qhz]
   cases decide ((i:Int)=j)<;>rfl
  ·rw[qo (by exact_mod_cast h),if_neg h];rfl
 ·unfold others
  cases qv (fun k=>!decide ((k:Int)=j)&&qik r.1 (r.2.1.getD k []) row) 0 r.2.1.length<;>rfl
def qh6 (r:Rel) (row:Row):Rel×Int:=
 if qcs r=true∧qju r.1 row=true then
  match qgm r (qk row r.1.2.1) with
  | some j=>if others r row j=true then (r,3) else ((r.1,r.2.1.set j row,()),0)
  | none=>(r,4)
 else (r,1)
theorem q65 {X:Ext} (hX:XOk X) {n:Nat} (hn:W+9≤n) (r:Rel) (hr:RelSm r) (row:Row) (hw:row.length≤M):qro (DD X n) r row=some (((qh6 r row).1,(qh6 r row).2,()),()):=by
 obtain ⟨n,rfl⟩:∃ k,n=k+1:=⟨n - 1,by omega⟩
 have hM:=qbl
 have hb:=qcu
 rw[qbhl hX]
 simp only[qyc,q44]
 rw[q8d hX (by omega) r hr,qf,qo0 hX (by omega) r hr,qf,q4l hX (by omega) r.1 hr.sch row hw,qf,qea hX (by omega) r.1 row hw hr.sch.key,qf]
 dsimp only
 rw[q97 hX (by omega) r hr,qf]
 dsimp only
 rw[qbb9 hX (by omega) r hr row hw,qf]
 unfold qh6
 cases qcs r
 ·rfl
 ·cases qju r.1 row
  ·rfl
  ·cases hk:qgm r (qk row r.1.2.1) with
   | none=>rfl
   | some j=>
    have hj:=qxm hk
    dsimp only
    rw[qo (show ¬ (j:Int)<0 by omega),ix hj,br_t,qn (show 0+row.length≤qbj by omega)]
    cases others r row j<;>rfl
theorem qbjj {X:Ext} (hX:XC X) {n:Nat} (hn:W+11≤n) (r:Rel) (hr:RelSm r) (row:Row) (hw:row.length≤M):qwp (DD X n) r row=some (((qh6 r row).1,(qh6 r row).2,()),()):=by
 obtain ⟨n,rfl⟩:∃ k,n=k+1:=⟨n - 1,by omega⟩
 have hM:=qbl
 have hb:=qcu
 have hW:=qcb
 have h2:=hr.rows
 rw[qbh6 hX.ok]
 simp only[qyf,qyh,qtb]
 have e1:=qw5 hX.ok (n:=n) (by omega) r hr
 have e2:=qil hX (n:=n) (by omega) r hr
 have e3:=q4m hX.ok (n:=n) (by omega) r.1 hr.sch row hw
 have e4:=qj6 hX.ok (n:=n) (by omega) r.1 row hw hr.sch.key
 have e5:=q99 hX.ok (n:=n) (by omega) r hr (qk row r.1.2.1)
 rw[e1,qf]
 dsimp only
 refine Eq.trans (congrArg (fun z=>qg z _) e2) ?_
 rw[qf]
 dsimp only
 unfold qh6
 cases qcs r
 ·rfl
 ·rw[Bool.not_true,br_f]
  refine Eq.trans (congrArg (fun z=>qg z _) e3) ?_
  rw[qf]
  dsimp only
  cases hrow:qju r.1 row
  ·rfl
  ·rw[Bool.not_true,br_f]
   refine Eq.trans (congrArg (fun z=>qg z _) e4) ?_
   rw[qf]
   dsimp only
   refine Eq.trans (congrArg (fun z=>qg z _) e5) ?_
   rw[qf]
   dsimp only
   cases hk:qgm r (qk row r.1.2.1) with
   | none=>rfl
   | some j=>
    have hj:=qxm hk
    dsimp only
    rw[qo (show ¬ (j:Int)<0 by omega),if_pos ⟨rfl,rfl⟩]
    refine Eq.trans (qfi (L:=fun m i=>qi5 (DD X n) n _ _ m row (j:Int) (r.2.1.length:Int) (i:Int) r (([],[],[],()),[],())) (N:=r.2.1.length) (P:=fun k=>!decide ((k:Int)=(j:Int))&&qik r.1 (r.2.1.getD k []) row)
     (A:=some ((r,3,()),())) (B:=some (((r.1,r.2.1.set j row,()),0,()),())) (fun m i hi=>?_) (m:=n) (by omega)) ?_
    ·simp only[qi5,quw]
     by_cases h:i<r.2.1.length
     ·have ec:=q4k hX.ok (n:=n) (by omega) r.1 hr.sch row (r.2.1.getD i []) hw (hr.row _ (qbk h)) (q6c hrow)
      rw[qn (by exact_mod_cast h),ix h,br_t,Int.toNat_natCast,qs (by omega),if_pos h,qhz]
      cases decide ((i:Int)=(j:Int))
      ·rw[Bool.not_false,br_t]
       refine Eq.trans (congrArg (fun z=>qg z _) ec) ?_
       rw[qf,qn3]
       cases qik r.1 (r.2.1.getD i []) row<;>rfl
      ·rfl
     ·rw[qo (by exact_mod_cast h),if_neg h]
      simp only[qsg]
      rw[qvj hX.ok (by omega) row (by omega),qf,ix hj,br_t]
      rfl
    ·unfold others
     cases qv (fun k=>!decide ((k:Int)=(j:Int))&&qik r.1 (r.2.1.getD k []) row) 0 r.2.1.length<;>rfl
end Go.G

namespace Go.G
set_option maxRecDepth 100000
open Go Go.V Go.Proofs
def qdm (r:Rel) (key:Row):Nat:=match qy (fun i=>!tlt (qk (r.2.1.getD i []) r.1.2.1) key) 0 r.2.1.length with | some j=>j | none=>r.2.1.length
theorem q3q (r:Rel) (key:Row):qdm r key≤r.2.1.length:=by
 unfold qdm
 split
 ·rename_i j h
  have:=qd9 h;omega
 ·exact Nat.le_refl _
def qc9 (r:Rel) (row:Row):Rel×Int:=
 if qcs r=true∧qju r.1 row=true then
  match qgm r (qk row r.1.2.1) with
  | some j=>(r,2)
  | none=>if others r row (-1)=true then (r,3) else if (r.2.1.length:Int)≥12 then (r,5) else
   ((r.1,r.2.1.take (qdm r (qk row r.1.2.1))++[row]++r.2.1.drop (qdm r (qk row r.1.2.1)),()),0)
 else (r,1)
theorem qbrw {X:Ext} (hX:XOk X) (N n:Nat) (hN:W+1≤N) (r:Rel) (hr:RelSm r) (row:Row) (hw:row.length≤M) (z:Rel) (p:Nat) (hp:p≤r.2.1.length) :
  qhx (DD X N) n row (p:Int) r z r=some (((r.1,r.2.1.take p++[row]++r.2.1.drop p,()),0,()),()):=by
 have hM:=qbl
 have hb:=qcu
 have h2:=hr.rows
 have c1:(decide ((0:Nat)≤0)&&decide ((0:Int)≤(p:Int))&&decide ((p:Int)≤(r.2.1.length:Int)))=true:=by
  rw[decide_eq_true (by omega),decide_eq_true (by omega),decide_eq_true (by omega)];rfl
 have c2:(decide ((0:Int)≤(p:Int))&&decide ((p:Int)≤(r.2.1.length:Int))&&decide ((r.2.1.length:Int)≤(r.2.1.length:Int)))=true:=by
  rw[decide_eq_true (by omega),decide_eq_true (by omega),decide_eq_true (by omega)];rfl
 have t1:List.drop (Int.toNat 0) (List.take p r.2.1)=r.2.1.take p:=rfl
 simp only[qhx]
 rw[c1,br_t,c2,Int.toNat_natCast,Int.toNat_natCast,t1,List.take_length,qy9 hX hN _ (by rw[List.length_take];omega) (fun x hx=>hr.row x (List.mem_of_mem_take hx)),qf]
 dsimp only
 rw[qn (by omega),qn (by rw[List.length_take];omega),br_t,qy9 hX hN _ (by rw[List.length_drop];omega) (fun x hx=>hr.row x (List.mem_of_mem_drop hx)),qf]
 dsimp only
 rw[qn (by simp only[List.length_append,List.length_take,List.length_drop,List.length_cons,List.length_nil];omega)]
 rfl
theorem q9a {X:Ext} (hX:XOk X) {n:Nat} (hn:W+9≤n) (r:Rel) (hr:RelSm r) (row:Row) (hw:row.length≤M):qs2 (DD X n) r row=some (((qc9 r row).1,(qc9 r row).2,()),()):=by
 obtain ⟨n,rfl⟩:∃ k,n=k+1:=⟨n - 1,by omega⟩
 have hM:=qbl
 have hW:=qcb
 have hb:=qcu
 have h2:=hr.rows
 have hk:=hr.sch.key
 rw[qbi3 hX]
 simp only[qzz,q0f,qvb]
 rw[q8d hX (by omega) r hr,qf,qo0 hX (by omega) r hr,qf,q4l hX (by omega) r.1 hr.sch row hw,qf,qea hX (by omega) r.1 row hw hk,qf]
 dsimp only
 rw[q97 hX (by omega) r hr,qf]
 dsimp only
 rw[qbb9 hX (by omega) r hr row hw,qf]
 unfold qc9
 cases qcs r
 ·rfl
 ·cases qju r.1 row
  ·rfl
  ·rw[if_pos ⟨rfl,rfl⟩,Bool.not_true,br_f,br_f]
   cases hkey:qgm r (qk row r.1.2.1) with
   | some j=>
    dsimp only
    rw[qn (show (j:Int)≥0 by omega)]
   | none=>
    dsimp only
    rw[qo (by decide)]
    cases others r row (-1)
    ·rw[br_f,if_neg Bool.noConfusion]
     by_cases h12:(r.2.1.length:Int)≥12
     ·rw[qn h12,if_pos h12]
     ·rw[qo h12,if_neg h12]
      refine Eq.trans (qvn (L:=fun m i=>qka (DD X n) n _ m row (i:Int) r (([],[],[],()),[],()) r) (N:=r.2.1.length) (P:=fun i=>!tlt (qk (r.2.1.getD i []) r.1.2.1) (qk row r.1.2.1))
       (A:=fun j=>qhx (DD X n) n row (j:Int) r (([],[],[],()),[],()) r) (B:=qhx (DD X n) n row (r.2.1.length:Int) r (([],[],[],()),[],()) r) (fun m i hi=>?_) (m:=n) (by omega)) ?_
      ·simp only[qka,qw1]
       by_cases h:i<r.2.1.length
       ·have l1:=qj4 (r.2.1.getD i []) r.1.2.1
        rw[qn (by exact_mod_cast h),ix h,br_t,Int.toNat_natCast,qea hX (by omega) r.1 _ (hr.row _ (qbk h)) hk,qf,qea hX (by omega) r.1 row hw hk,qf]
        dsimp only
        rw[q3c hX (by omega) _ _ (by omega),qf,qs (by omega),if_pos h]
        dsimp only
        cases tlt (qk (r.2.1.getD i []) r.1.2.1) (qk row r.1.2.1)<;>rfl
       ·have hin:i=r.2.1.length:=by omega
        rw[qo (by exact_mod_cast h),if_neg h,hin]
      ·unfold qdm
       cases hf:qy (fun i=>!tlt (qk (r.2.1.getD i []) r.1.2.1) (qk row r.1.2.1)) 0 r.2.1.length with
       | none=>exact qbrw hX n n (by omega) r hr row hw _ _ (Nat.le_refl _)
       | some j=>
        have:=qd9 hf
        exact qbrw hX n n (by omega) r hr row hw _ j (by omega)
    ·rfl
def qj7 (r:Rel) (key:Row):Rel×Int:=
 if qcs r=true then
  match qgm r key with
  | some j=>((r.1,r.2.1.take j++r.2.1.drop (j+1),()),0)
  | none=>(r,4)
 else (r,1)
theorem q9l {X:Ext} (hX:XOk X) {n:Nat} (hn:W+9≤n) (r:Rel) (hr:RelSm r) (key:Row):qs0 (DD X n) r key=some (((qj7 r key).1,(qj7 r key).2,()),()):=by
 obtain ⟨n,rfl⟩:∃ k,n=k+1:=⟨n - 1,by omega⟩
 have hM:=qbl
 have hW:=qcb
 have hb:=qcu
 have h2:=hr.rows
 rw[qbjp hX]
 simp only[qzk,q7b]
 rw[q8d hX (by omega) r hr,qf,qo0 hX (by omega) r hr,qf,q97 hX (by omega) r hr,qf]
 unfold qj7
 cases qcs r
 ·rfl
 ·rw[if_pos rfl,Bool.not_true,br_f]
  cases hkey:qgm r key with
  | none=>rfl
  | some j=>
   have hj:=qxm hkey
   dsimp only
   have w1:IntKind.wrap IntKind.i64 ((j:Int)+1)=((j+1:Nat):Int):=qs (by omega)
   have c1:(decide ((0:Nat)≤0)&&decide ((0:Int)≤(j:Int))&&decide ((j:Int)≤(r.2.1.length:Int)))=true:=by
    rw[decide_eq_true (by omega),decide_eq_true (by omega),decide_eq_true (by omega)];rfl
   have c2:(decide ((0:Int)≤((j+1:Nat):Int))&&decide (((j+1:Nat):Int)≤(r.2.1.length:Int))&&decide ((r.2.1.length:Int)≤(r.2.1.length:Int)))=true:=by
    rw[decide_eq_true (by omega),decide_eq_true (by omega),decide_eq_true (by omega)];rfl
   have t1:List.drop (Int.toNat 0) (List.take j r.2.1)=r.2.1.take j:=rfl
   rw[qo (show ¬ (j:Int)<0 by omega),c1,br_t,w1,c2,Int.toNat_natCast,Int.toNat_natCast,Int.toNat_natCast,t1,List.take_length,qy9 hX (by omega) _ (by rw[List.length_take];omega) (fun x hx=>hr.row x (List.mem_of_mem_take hx)),qf]
   dsimp only
   rw[br_t,qy9 hX (by omega) _ (by rw[List.length_drop];omega) (fun x hx=>hr.row x (List.mem_of_mem_drop hx)),qf]
   dsimp only
   rw[qn (by simp only[List.length_take,List.length_drop];omega)]
end Go.G

namespace Go.G
set_option maxRecDepth 100000
open Go Go.V Go.Proofs
theorem qbnc:∀ (x y:List UInt8),Op.bytesLess x y=decide (x<y)
 | [],[]=>by simp[Op.bytesLess]
 | _::_,[]=>by simp[Op.bytesLess]
 | [],_::_=>by simp[Op.bytesLess]
 | a::x,b::y=>by
  rw[Op.bytesLess,qbnc x y]
  simp only[List.cons_lt_cons_iff]
  by_cases h1:a<b<;>by_cases h2:a=b<;>by_cases h3:x<y<;>simp[h1,h2,h3]
theorem qbqj {a b:ByteArray} (h:a.toList=b.toList):a=b:=by
 have h2:a.data.toList=b.data.toList:=by simpa [ByteArray.toList_eq] using h
 cases a;cases b
 simp only[ByteArray.mk.injEq]
 exact Array.toList_inj.1 h2
theorem qbah (a b:Value):vlt a b=true↔a.1<b.1∨(a.1=b.1∧(a.2.1<b.2.1∨(a.2.1=b.2.1∧a.2.2.1.toList<b.2.2.1.toList))):=by
 simp only[vlt,qbnc]
 by_cases h1:a.1=b.1
 ·by_cases h2:a.2.1=b.2.1
  ·rw[decide_eq_true h1,decide_eq_true h2];simp[h1,h2]
  ·rw[decide_eq_true h1,decide_eq_false h2];simp[h1,h2]
 ·rw[decide_eq_false h1];simp[h1]
theorem qbn3 (a:Value):¬ vlt a a=true:=by
 rw[qbah]
 rintro (h | ⟨_,h | ⟨_,h⟩⟩)
 ·omega
 ·omega
 ·exact List.lt_irrefl _ h
theorem qbpk {a b c:Value} (h:vlt a b=true) (k:vlt b c=true):vlt a c=true:=by
 rw[qbah] at *
 rcases h with h | ⟨h,h2⟩
 ·rcases k with k | ⟨k,_⟩
  ·exact .inl (by omega)
  ·exact .inl (by omega)
 ·rcases k with k | ⟨k,k2⟩
  ·exact .inl (by omega)
  ·refine .inr ⟨by omega,?_⟩
   rcases h2 with h2 | ⟨h2,h3⟩
   ·rcases k2 with k2 | ⟨k2,_⟩
    ·exact .inl (by omega)
    ·exact .inl (by omega)
   ·rcases k2 with k2 | ⟨k2,k3⟩
    ·exact .inl (by omega)
    ·exact .inr ⟨by omega,List.lt_trans h3 k3⟩
theorem qbo7 (a b:Value):vlt a b=true∨a=b∨vlt b a=true:=by
 rw[qbah,qbah]
 obtain ⟨a1,a2,a3,⟨⟩⟩:=a
 obtain ⟨b1,b2,b3,⟨⟩⟩:=b
 dsimp only
 by_cases h1:a1<b1
 ·exact .inl (.inl h1)
 ·by_cases h2:b1<a1
  ·exact .inr (.inr (.inl h2))
  ·have e1:a1=b1:=by omega
   by_cases h3:a2<b2
   ·exact .inl (.inr ⟨e1,.inl h3⟩)
   ·by_cases h4:b2<a2
    ·exact .inr (.inr (.inr ⟨e1.symm,.inl h4⟩))
    ·have e2:a2=b2:=by omega
     by_cases h5:a3.toList<b3.toList
     ·exact .inl (.inr ⟨e1,.inr ⟨e2,h5⟩⟩)
     ·by_cases h6:b3.toList<a3.toList
      ·exact .inr (.inr (.inr ⟨e1.symm,.inr ⟨e2.symm,h6⟩⟩))
      ·have e3:a3=b3:=qbqj (List.le_antisymm (List.not_lt.1 h6) (List.not_lt.1 h5))
       subst e1;subst e2;subst e3
       exact .inr (.inl rfl)
theorem qbea:∀ (a:Row),tlt a a=false
 | []=>rfl
 | x::a=>by
  show (if x=x then tlt a a else vlt x x)=false
  rw[if_pos rfl];exact qbea a
theorem q3b:∀ {a b c:Row},tlt a b=true→tlt b c=true→tlt a c=true
 | [],[],_,h,_=>by simp[tlt] at h
 | [],_::_,[],_,k=>by simp[tlt] at k
 | [],_::_,_::_,_,_=>rfl
 | _::_,[],_,h,_=>by simp[tlt] at h
 | _::_,_::_,[],_,k=>by simp[tlt] at k
 | x::a,y::b,z::c,h,k=>by
  simp only[tlt] at *
  by_cases e1:x=y
  ·subst e1
   rw[if_pos rfl] at h
   by_cases e2:x=z
   ·rw[if_pos e2] at k ⊢;exact q3b h k
   ·rw[if_neg e2] at k ⊢;exact k
  ·rw[if_neg e1] at h
   by_cases e2:y=z
   ·subst e2;rw[if_neg e1];exact h
   ·rw[if_neg e2] at k
    have:=qbpk h k
    rw[if_neg (fun e=>qbn3 x (by rw[←e] at this;exact this))]
    exact this
theorem q9y:∀ (a b:Row),tlt a b=true∨a=b∨tlt b a=true
 | [],[]=>.inr (.inl rfl)
 | [],_::_=>.inl rfl
 | _::_,[]=>.inr (.inr rfl)
 | x::a,y::b=>by
  simp only[tlt]
  by_cases e:x=y
  ·subst e
   rw[if_pos rfl,if_pos rfl]
   rcases q9y a b with h | h | h
   ·exact .inl h
   ·exact .inr (.inl (by rw[h]))
   ·exact .inr (.inr h)
  ·rw[if_neg e,if_neg (fun k=>e k.symm)]
   rcases qbo7 x y with h | h | h
   ·exact .inl h
   ·exact absurd h e
   ·exact .inr (.inr h)
theorem qbiq {a b:Row} (h:tlt a b=true):tlt b a=false:=by
 cases k:tlt b a
 ·rfl
 ·have:=q3b h k
  rw[qbea] at this;cases this
def qbaj (s:qz) (a b:Row):Prop:=tlt (qk a s.2.1) (qk b s.2.1)=true∧qik s a b=false
theorem qug (r:Rel):qcs r=true↔qf3 r.1=true∧r.2.1.length≤12∧(∀ x∈r.2.1,qju r.1 x=true)∧r.2.1.Pairwise (qbaj r.1):=by
 simp only[qcs,Bool.and_eq_true,Bool.not_eq_true',decide_eq_true_eq]
 constructor
 ·rintro ⟨h1,h2,h3⟩
  have hb:∀ i,i<r.2.1.length→ql4 r.1 r.2.1 i=false:=fun i hi=>qba.1 h1 i (by omega) (by omega)
  refine ⟨h2,by omega,fun x hx=>?_,?_⟩
  ·obtain ⟨i,hi,rfl⟩:=List.mem_iff_getElem.1 hx
   have:=hb i hi
   simp only[ql4,Bool.or_eq_false_iff,Bool.not_eq_false'] at this
   rw[←qbz (d:=[]) hi];exact this.1
  ·have hk:∀ d i,i+d+1<r.2.1.length→tlt (qk (r.2.1.getD i []) r.1.2.1) (qk (r.2.1.getD (i+d+1) []) r.1.2.1)=true:=by
    intro d
    induction d with
    | zero=>
     intro i hi
     have:=hb (i+1) (by omega)
     simp only[ql4,Bool.or_eq_false_iff,Bool.not_eq_false',Bool.and_eq_false_iff,decide_eq_false_iff_not,Nat.add_sub_cancel] at this
     exact this.2.1.resolve_left (by omega)
    | succ d ih=>
     intro i hi
     have h4:=ih i (by omega)
     have:=hb (i+d+2) (by omega)
     simp only[ql4,Bool.or_eq_false_iff,Bool.not_eq_false',Bool.and_eq_false_iff,decide_eq_false_iff_not] at this
     have h5:=this.2.1.resolve_left (by omega)
     exact q3b h4 h5
   refine List.pairwise_iff_getElem.2 fun i j hi hj hij=>⟨?_,?_⟩
   ·obtain ⟨d,rfl⟩:∃ d,j=i+d+1:=⟨j - i - 1,by omega⟩
    have:=hk d i hj
    rw[qbz hi,qbz hj] at this
    exact this
   ·have:=hb j hj
    simp only[ql4,Bool.or_eq_false_iff] at this
    have:=qba.1 this.2.2 i (by omega) (by omega)
    rw[qbz hi,qbz hj,qn3] at this
    exact this
 ·rintro ⟨h1,h2,h3,h4⟩
  have hp:=List.pairwise_iff_getElem.1 h4
  refine ⟨qba.2 fun i _ hi=>?_,h1,by omega⟩
  have hi:i<r.2.1.length:=by omega
  simp only[ql4,Bool.or_eq_false_iff,Bool.not_eq_false']
  refine ⟨h3 _ (qbk hi),?_,qba.2 fun k _ hk=>?_⟩
  ·by_cases h0:0<i
   ·have hi1:i - 1<r.2.1.length:=by omega
    rw[decide_eq_true h0,Bool.true_and,qbz hi,qbz hi1,(hp (i - 1) i hi1 hi (by omega)).1];rfl
   ·rw[decide_eq_false h0,Bool.false_and]
  ·have hk2:k<r.2.1.length:=by omega
   rw[qbz hi,qbz hk2,qn3]
   exact (hp k i hk2 hi (by omega)).2
theorem qbge {r:Rel} {key:Row} (h:qgm r key=none):∀ x∈r.2.1,qk x r.1.2.1≠key:=by
 intro x hx e
 obtain ⟨i,hi,rfl⟩:=List.mem_iff_getElem.1 hx
 have:=qj8 h i (by omega) (by omega)
 simp only[q95,decide_eq_false_iff_not] at this
 rw[qbz hi] at this
 exact this e
theorem qbps {r:Rel} {key:Row} {i:Nat} (hi:i<qdm r key) (hl:i<r.2.1.length):tlt (qk (r.2.1.getD i []) r.1.2.1) key=true:=by
 unfold qdm at hi
 split at hi
 ·rename_i j h
  have:=(qd9 h).2.2.2 i (by omega) hi
  simpa using this
 ·rename_i h
  have:=qj8 h i (by omega) (by omega)
  simpa using this
theorem qbqa {r:Rel} {key:Row} (hl:qdm r key<r.2.1.length):tlt (qk (r.2.1.getD (qdm r key) []) r.1.2.1) key=false:=by
 unfold qdm at *
 split at hl
 ·rename_i j h
  have:=(qd9 h).2.2.1
  simpa using this
 ·omega
theorem qbmn {α:Type} {l:List α} {n:Nat} {x:α} (h:x∈l.take n):∃ i,∃ hi:i<l.length,i<n∧x=l[i]:=by
 obtain ⟨i,hi,rfl⟩:=List.mem_iff_getElem.1 h
 rw[List.length_take] at hi
 exact ⟨i,by omega,by omega,by rw[List.getElem_take]⟩
theorem qbm3 {α:Type} {l:List α} {n:Nat} {x:α} (h:x∈l.drop n):∃ i,∃ hi:i<l.length,n≤i∧x=l[i]:=by
 obtain ⟨i,hi,rfl⟩:=List.mem_iff_getElem.1 h
 rw[List.length_drop] at hi
 exact ⟨n+i,by omega,by omega,by rw[List.getElem_drop]⟩
def put (r:Rel) (row:Row):Rel:=(r.1,r.2.1.take (qdm r (qk row r.1.2.1))++[row]++r.2.1.drop (qdm r (qk row r.1.2.1)),())
theorem qbmp {r:Rel} {row:Row} (h:others r row (-1)=false):∀ x∈r.2.1,qik r.1 x row=false:=by
 intro x hx
 obtain ⟨i,hi,rfl⟩:=List.mem_iff_getElem.1 hx
 have:=qba.1 h i (by omega) (by omega)
 rw[decide_eq_false (show ¬ (i:Int) = -1 by omega),Bool.not_false,Bool.true_and,qbz hi] at this
 exact this
theorem qbqg {r:Rel} {key:Row} (hp:r.2.1.Pairwise (qbaj r.1)) (hk:∀ x∈r.2.1,qk x r.1.2.1≠key) {i:Nat} (hl:i<r.2.1.length) (hi:qdm r key≤i):tlt key (qk (r.2.1.getD i []) r.1.2.1)=true:=by
 have hpl:qdm r key<r.2.1.length:=by omega
 have h0:tlt key (qk (r.2.1.getD (qdm r key) []) r.1.2.1)=true:=by
  rcases q9y (qk (r.2.1.getD (qdm r key) []) r.1.2.1) key with h | h | h
  ·rw[qbqa hpl] at h;cases h
  ·exact absurd h (hk _ (qbk hpl))
  ·exact h
 by_cases e:i=qdm r key
 ·rw[e];exact h0
 ·have:=(List.pairwise_iff_getElem.1 hp (qdm r key) i hpl hl (by omega)).1
  rw[←qbz (d:=[]) hpl,←qbz (d:=[]) hl] at this
  exact q3b h0 this
theorem qbox {r:Rel} {row:Row} (hok:qcs r=true) (hrow:qju r.1 row=true) (hk:qgm r (qk row r.1.2.1)=none) (ho:others r row (-1)=false) (hl:r.2.1.length<12):qcs (put r row)=true:=by
 obtain ⟨h1,h2,h3,h4⟩:=(qug r).1 hok
 have hkn:=qbge hk
 have hon:=qbmp ho
 have hle:=q3q r (qk row r.1.2.1)
 have hsplit:(r.2.1.take (qdm r (qk row r.1.2.1))++r.2.1.drop (qdm r (qk row r.1.2.1))).Pairwise (qbaj r.1):=by rw[List.take_append_drop];exact h4
 obtain ⟨p1,p2,p3⟩:=List.pairwise_append.1 hsplit
 refine (qug _).2 ⟨h1,?_,?_,?_⟩
 ·simp only[put,List.length_append,List.length_take,List.length_drop,List.length_cons,List.length_nil];omega
 ·intro x hx
  simp only[put,List.mem_append,List.mem_singleton] at hx
  rcases hx with (hx | rfl) | hx
  ·exact h3 x (List.mem_of_mem_take hx)
  ·exact hrow
  ·exact h3 x (List.mem_of_mem_drop hx)
 ·show (r.2.1.take (qdm r (qk row r.1.2.1))++[row]++r.2.1.drop (qdm r (qk row r.1.2.1))).Pairwise (qbaj r.1)
  have hlo:∀ a∈r.2.1.take (qdm r (qk row r.1.2.1)),qbaj r.1 a row:=fun a ha=>by
   obtain ⟨i,hi,hip,rfl⟩:=qbmn ha
   have:=qbps hip hi
   rw[qbz hi] at this
   exact ⟨this,hon _ (List.getElem_mem _)⟩
  have hhi:∀ b∈r.2.1.drop (qdm r (qk row r.1.2.1)),qbaj r.1 row b:=fun b hb=>by
   obtain ⟨i,hi,hip,rfl⟩:=qbm3 hb
   have:=qbqg h4 hkn hi hip
   rw[qbz hi] at this
   exact ⟨this,by rw[qn3];exact hon _ (List.getElem_mem _)⟩
  refine List.pairwise_append.2 ⟨List.pairwise_append.2 ⟨p1,List.pairwise_singleton _ _,fun a ha b hb=>?_⟩,p2,fun a ha b hb=>?_⟩
  ·rw[List.mem_singleton] at hb;subst hb;exact hlo a ha
  ·rcases List.mem_append.1 ha with ha | ha
   ·exact p3 a ha b hb
   ·rw[List.mem_singleton] at ha;subst ha;exact hhi b hb
theorem qbow {r:Rel} (hok:qcs r=true) (j:Nat):qcs (r.1,r.2.1.take j++r.2.1.drop (j+1),())=true:=by
 obtain ⟨h1,h2,h3,h4⟩:=(qug r).1 hok
 have hs:(r.2.1.take j++r.2.1.drop (j+1)).Sublist r.2.1:=by
  have:=(List.Sublist.refl (r.2.1.take j)).append (List.drop_sublist 1 (r.2.1.drop j))
  rw[List.take_append_drop,List.drop_drop] at this
  exact this
 exact (qug _).2 ⟨h1,Nat.le_trans hs.length_le h2,fun x hx=>h3 x (hs.subset hx),h4.sublist hs⟩
theorem qbon {r:Rel} (hok:qcs r=true) (row:Row):qcs (qc9 r row).1=true:=by
 unfold qc9
 split
 ·rename_i hc
  split
  ·exact hok
  ·rename_i hk
   split
   ·exact hok
   ·rename_i ho
    split
    ·exact hok
    ·exact qbox hok hc.2 hk (by simpa using ho) (by omega)
 ·exact hok
theorem qboa {r:Rel} (hok:qcs r=true) (key:Row):qcs (qj7 r key).1=true:=by
 unfold qj7
 rw[if_pos hok]
 cases qgm r key with
 | some j=>exact qbow hok _
 | none=>exact hok
theorem qxa {rows:List Row} {j:Nat} {row:Row} (hj:j<rows.length) (i:Nat):(rows.set j row).getD i []=if i=j then row else rows.getD i []:=by
 by_cases e:i=j
 ·subst e
  rw[if_pos rfl,qbz (by rw[List.length_set];exact hj),List.getElem_set_self]
 ·rw[if_neg e]
  simp only[List.getD,List.getElem?_set]
  rw[if_neg (fun k=>e k.symm)]
theorem qbl6 {r:Rel} {row:Row} {j:Nat} (hok:qcs r=true) (hrow:qju r.1 row=true) (hk:qgm r (qk row r.1.2.1)=some j) (ho:others r row j=false) :
  qcs (r.1,r.2.1.set j row,())=true∧qgm (r.1,r.2.1.set j row,()) (qk row r.1.2.1)=some j:=by
 obtain ⟨_,hj,hkj,_⟩:=qd9 hk
 rw[Nat.zero_add] at hj
 have hkey:∀ i,qk ((r.2.1.set j row).getD i []) r.1.2.1=qk (r.2.1.getD i []) r.1.2.1:=by
  intro i
  rw[qxa hj]
  split
  ·rename_i e
   subst e
   simp only[q95,decide_eq_true_eq] at hkj
   exact hkj.symm
  ·rfl
 have hoth:∀ k,k<r.2.1.length→k≠j→qik r.1 (r.2.1.getD k []) row=false:=by
  intro k h1 h2
  have:=qba.1 ho k (by omega) (by omega)
  rw[decide_eq_false (by omega),Bool.not_false,Bool.true_and] at this
  exact this
 simp only[qcs,Bool.and_eq_true,Bool.not_eq_true',decide_eq_true_eq] at hok
 obtain ⟨h1,h2,h3⟩:=hok
 constructor
 ·simp only[qcs,Bool.and_eq_true,Bool.not_eq_true',decide_eq_true_eq,List.length_set]
  refine ⟨qba.2 fun i _ hi=>?_,h2,h3⟩
  have hb:=qba.1 h1 i (by omega) (by omega)
  simp only[ql4,Bool.or_eq_false_iff] at hb ⊢
  obtain ⟨b1,b2,b3⟩:=hb
  refine ⟨?_,?_,qba.2 fun k _ hk=>?_⟩
  ·rw[qxa hj]
   split
   ·rw[hrow];rfl
   ·exact b1
  ·rw[hkey,hkey];exact b2
  ·have b4:=qba.1 b3 k (by omega) (by omega)
   rw[qxa hj,qxa hj]
   by_cases e1:i=j
   ·rw[if_pos e1,if_neg (show ¬ k=j by omega),qn3]
    exact hoth k (by omega) (by omega)
   ·rw[if_neg e1]
    by_cases e2:k=j
    ·rw[if_pos e2];exact hoth i (by omega) e1
    ·rw[if_neg e2];exact b4
 ·refine Eq.trans ?_ hk
  unfold qgm
  show qy _ 0 (r.2.1.set j row).length=_
  rw[List.length_set]
  exact quq fun i _ _=>by
   show decide (qk ((r.2.1.set j row).getD i []) r.1.2.1=_)=decide (qk (r.2.1.getD i []) r.1.2.1=_)
   rw[hkey]
end Go.G

namespace Go.G
set_option maxRecDepth 100000
open Go Go.V Go.Proofs
theorem qbca {X:Ext} (hX:XOk X) {n:Nat} (hn:W+1≤n) (a b:Row) (ha:a.length≤M):qog (DD X n) a b=some ((decide (a=b),()),()):=by
 obtain ⟨n,rfl⟩:∃ k,n=k+1:=⟨n - 1,by omega⟩
 have hM:=qbl
 have hW:=qcb
 rw[qbdp hX]
 simp only[qt8,qtq,qqb]
 rw[qbaf]
 by_cases hl:a.length=b.length
 ·rw[decide_eq_true hl,Bool.not_true,br_f]
  refine Eq.trans (qfi (L:=fun m i=>qgx (DD X n) n _ _ m a b (i:Int)) (N:=a.length) (P:=fun i=>!decide (a.getD i vd=b.getD i vd))
   (A:=some ((false,()),())) (B:=some ((true,()),())) (fun m i hi=>?_) (m:=n) (by omega)) ?_
  ·simp only[qgx,qru]
   by_cases h:i<a.length
   ·rw[qn (by exact_mod_cast h),ix h,br_t,ix (hl ▸ h),br_t,Int.toNat_natCast,q3m,qs (by omega),if_pos h];rfl
   ·rw[qo (by exact_mod_cast h),if_neg h];rfl
  ·by_cases e:a=b
   ·rw[decide_eq_true e,qba.2 (fun j _ _=>by rw[e];simp)];rfl
   ·rw[decide_eq_false e]
    have:qv (fun i=>!decide (a.getD i vd=b.getD i vd)) 0 a.length=true:=by
     rw[←Bool.not_eq_false]
     intro hf
     apply e
     apply List.ext_getElem hl
     intro i h1 h2
     have:=qba.1 hf i (by omega) (by omega)
     rw[qbz h1,qbz h2] at this
     simpa using this
    rw[this];rfl
 ·have:¬ a=b:=fun e=>hl (by rw[e])
  rw[decide_eq_false hl,decide_eq_false this];rfl
theorem q3e {X:Ext} (hX:XOk X) {n:Nat} (hn:W+1≤n) (a:List Int) (ha:a.length≤M):qp1 (DD X n) a a=some ((true,()),()):=by
 obtain ⟨n,rfl⟩:∃ k,n=k+1:=⟨n - 1,by omega⟩
 have hM:=qbl
 have hW:=qcb
 rw[qbel hX]
 simp only[qv2,qvu,qss]
 rw[bne_self_eq_false,br_f]
 refine Eq.trans (qfi (L:=fun m i=>qhs (DD X n) n _ _ m a a (i:Int)) (N:=a.length) (P:=fun i=>false)
  (A:=some ((false,()),())) (B:=some ((true,()),())) (fun m i hi=>?_) (m:=n) (by omega)) ?_
 ·simp only[qhs,qt1]
  by_cases h:i<a.length
  ·rw[qn (by exact_mod_cast h),ix h,br_t,br_t,bne_self_eq_false,br_f,qs (by omega),if_pos h];rfl
  ·rw[qo (by exact_mod_cast h),if_neg h];rfl
 ·rw[qba.2 (fun _ _ _=>rfl)];rfl
theorem qbe8 {X:Ext} (hX:XOk X) {n:Nat} (hn:W+2≤n) (a:List Row) (ha:a.length≤M) (hr:∀ x∈a,x.length≤M):qu3 (DD X n) a a=some ((true,()),()):=by
 obtain ⟨n,rfl⟩:∃ k,n=k+1:=⟨n - 1,by omega⟩
 have hM:=qbl
 have hW:=qcb
 rw[qbfk hX]
 simp only[qva,qvq,qr3]
 rw[bne_self_eq_false,br_f]
 refine Eq.trans (qfi (L:=fun m i=>qhy (DD X n) n _ _ m a a (i:Int)) (N:=a.length) (P:=fun i=>false)
  (A:=some ((false,()),())) (B:=some ((true,()),())) (fun m i hi=>?_) (m:=n) (by omega)) ?_
 ·simp only[qhy,qt7]
  by_cases h:i<a.length
  ·rw[qn (by exact_mod_cast h),ix h,br_t,br_t,qbca hX (by omega) _ _ (hr _ (qbk (by rw[Int.toNat_natCast];exact h))),qf,decide_eq_true rfl,qs (by omega),if_pos h];rfl
  ·rw[qo (by exact_mod_cast h),if_neg h];rfl
 ·rw[qba.2 (fun _ _ _=>rfl)];rfl
theorem qbn8 (a:Col):qkw (Ty.pair Ty.str (Ty.pair (Ty.int IntKind.i64) (Ty.pair Ty.bool Ty.unit))) a a=true:=by
 obtain ⟨a1,a2,a3,⟨⟩⟩:=a
 simp[qkw]
theorem qrh {X:Ext} (hX:XOk X) {n:Nat} (hn:W+3≤n) (r:Rel) (hr:RelSm r):qcy (DD X n) r r=some ((true,()),()):=by
 obtain ⟨n,rfl⟩:∃ k,n=k+1:=⟨n - 1,by omega⟩
 have hM:=qbl
 have hW:=qcb
 have h1:=hr.sch.cols
 have h3:=hr.sch.ixs
 rw[qbhz hX]
 simp only[qw3,qwq,qt9,qto]
 rw[qbe8 hX (by omega) _ hr.rows hr.row,qf,q3e hX (by omega) _ hr.sch.key,qf,bne_self_eq_false,bne_self_eq_false]
 dsimp only
 rw[Bool.not_true,cond_false,br_f,br_f]
 refine Eq.trans (qfi (L:=fun m i=>qi8 (DD X n) n _ _ m (i:Int) r r) (N:=r.1.1.length) (P:=fun i=>false)
  (A:=some ((false,()),())) (B:=some ((true,()),())) (fun m i hi=>?_) (m:=n) (by omega)) ?_
 ·simp only[qi8,qu5]
  by_cases h:i<r.1.1.length
  ·rw[qn (by exact_mod_cast h),ix h,br_t,br_t,qbn8,qs (by omega),if_pos h];rfl
  ·rw[qo (by exact_mod_cast h),if_neg h]
   simp only[qsh]
   refine Eq.trans (qfi (L:=fun m i=>qjc (DD X n) n _ _ m (i:Int) r r) (N:=r.1.2.2.1.length) (P:=fun i=>false)
    (A:=some ((false,()),())) (B:=some ((true,()),())) (fun m i hi=>?_) (m:=n) (by omega)) ?_
   ·simp only[qjc,qv3]
    by_cases h:i<r.1.2.2.1.length
    ·have hc:=hr.sch.ixc _ (qbk (d:=xd) h)
     rw[qn (by exact_mod_cast h),ix h,br_t,br_t,qnq,decide_eq_true rfl,Bool.not_true,br_f,Int.toNat_natCast,q3e hX (by omega) _ hc,qf,qs (by omega),if_pos h]
     simp only[decide_true];rfl
    ·rw[qo (by exact_mod_cast h),if_neg h];rfl
   ·rw[qba.2 (fun _ _ _=>rfl)];rfl
 ·rw[qba.2 (fun _ _ _=>rfl)];rfl
end Go.G

namespace Go.G
open Go Go.V
abbrev Cur:=List Int×Int×Int×Unit
def qdc (c:Cur):Prop:=c.1.length≤1048576∧0≤c.2.1∧c.2.1≤c.1.length
theorem qbai (x:BitVec (IntKind.bits IntKind.i64)):0≤IntKind.wrap IntKind.i64 ((BitVec.toNat (BitVec.and x (BitVec.ofInt (IntKind.bits IntKind.i64) 255)):Nat):Int)∧IntKind.wrap IntKind.i64 ((BitVec.toNat (BitVec.and x (BitVec.ofInt (IntKind.bits IntKind.i64) 255)):Nat):Int)≤255:=by
 have h:BitVec.toNat (BitVec.and x (BitVec.ofInt (IntKind.bits IntKind.i64) 255))≤255:=by
  show BitVec.toNat (x &&&BitVec.ofInt (IntKind.bits IntKind.i64) 255)≤255
  rw[BitVec.toNat_and]
  exact Nat.le_trans Nat.and_le_right (by decide)
 rw[qeb (by omega) (by omega)]
 omega
theorem q2t {X:Ext} (hX:XOk X) {n:Nat} (hn:1≤n) {c:Cur} (hc:qdc c):∃ (x:Int) (c':Cur),0≤x∧x≤255∧qdc c'∧qjk (DD X n) c=some ((x,()),(c',())):=by
 obtain ⟨n,rfl⟩:∃ k,n=k+1:=⟨n - 1,by omega⟩
 obtain ⟨h1,h2,h3⟩:=hc
 rw[qbjb hX]
 simp only[qzw,q64]
 by_cases h:c.2.1<(c.1.length:Int)
 ·rw[qn h,ixn h2 h,br_t,qeb (x:=c.2.1+1) (by omega) (by omega)]
  refine ⟨_,(c.1,c.2.1+1,_,()),(qbai _).1,(qbai _).2,⟨h1,?_,?_⟩,rfl⟩
  ·show 0≤c.2.1+1;omega
  ·show c.2.1+1≤(c.1.length:Int);omega
 ·rw[qo h]
  have k:∀ h u,qdc (c.1,c.2.1,h,u):=fun _ _=>⟨h1,h2,h3⟩
  exact ⟨_,_,(qbai _).1,(qbai _).2,k _ _,rfl⟩
theorem qe1 {X:Ext} (hX:XOk X) {n:Nat} (hn:2≤n) {c:Cur} (hc:qdc c) (k:Int):∃ (x:Int) (c':Cur),(0<k→0≤x∧x<k)∧(k≤0→x=0)∧qdc c'∧qb9 (DD X n) c k=some ((x,()),(c',())):=by
 obtain ⟨n,rfl⟩:∃ k,n=k+1:=⟨n - 1,by omega⟩
 rw[qbhw hX]
 simp only[qwz,q5w]
 by_cases h:k≤0
 ·rw[qn h]
  exact ⟨0,c,fun h2=>by omega,fun _=>rfl,hc,rfl⟩
 ·rw[qo h]
  by_cases h2:k≤256
  ·obtain ⟨x,c',x0,x1,hc',e⟩:=q2t hX (n:=n) (by omega) hc
   rw[qn h2,e,qf]
   dsimp only
   rw[qo (by omega)]
   refine ⟨_,_,fun _=>?_,fun h3=>by omega,hc',rfl⟩
   rw[Int.tmod_eq_emod_of_nonneg x0]
   exact ⟨Int.emod_nonneg _ (by omega),Int.emod_lt_of_pos _ (by omega)⟩
  ·obtain ⟨x,c1,x0,x1,hc1,e1⟩:=q2t hX (n:=n) (by omega) hc
   obtain ⟨y,c2,y0,y1,hc2,e2⟩:=q2t hX (n:=n) (by omega) hc1
   obtain ⟨z,c3,z0,z1,hc3,e3⟩:=q2t hX (n:=n) (by omega) hc2
   obtain ⟨w,c4,w0,w1,hc4,e4⟩:=q2t hX (n:=n) (by omega) hc3
   rw[qo h2,e1,qf]
   dsimp only
   rw[e2,qf]
   dsimp only
   rw[e3,qf]
   dsimp only
   rw[e4,qf]
   dsimp only
   rw[qo (by omega),qeb (x:=x * 16777216) (by omega) (by omega),qeb (x:=y * 65536) (by omega) (by omega),qeb (x:=x * 16777216+y * 65536) (by omega) (by omega),
    qeb (x:=z * 256) (by omega) (by omega),qeb (x:=x * 16777216+y * 65536+z * 256) (by omega) (by omega),qeb (x:=x * 16777216+y * 65536+z * 256+w) (by omega) (by omega)]
   refine ⟨_,_,fun _=>?_,fun h3=>by omega,hc4,rfl⟩
   rw[Int.tmod_eq_emod_of_nonneg (by omega)]
   exact ⟨Int.emod_nonneg _ (by omega),Int.emod_lt_of_pos _ (by omega)⟩
theorem q2k {X:Ext} (hX:XOk X) {n:Nat} (hn:3≤n) {c:Cur} (hc:qdc c) (k:Int):∃ (b:Bool) (c':Cur),qdc c'∧qjo (DD X n) c k=some ((b,()),(c',())):=by
 obtain ⟨n,rfl⟩:∃ k,n=k+1:=⟨n - 1,by omega⟩
 rw[qbjr hX]
 simp only[qzn,q67]
 obtain ⟨x,c',_,_,hc',e⟩:=qe1 hX (n:=n) (by omega) hc k
 rw[e,qf]
 exact ⟨_,_,hc',rfl⟩
theorem qbli {X:Ext} (hX:XOk X) {n:Nat} (hn:3≤n) {c:Cur} (hc:qdc c) (l:List ByteArray) (hl:0<l.length):∃ (x:ByteArray) (c':Cur),x∈l∧qdc c'∧qs5 (DD X n) c l=some ((x,()),(c',())):=by
 obtain ⟨n,rfl⟩:∃ k,n=k+1:=⟨n - 1,by omega⟩
 rw[qbjw hX]
 simp only[q0b,q7a]
 obtain ⟨x,c',h1,_,hc',e⟩:=qe1 hX (n:=n) (by omega) hc (l.length:Int)
 obtain ⟨x0,x1⟩:=h1 (by omega)
 rw[e,qf]
 dsimp only
 rw[ixn x0 x1,br_t,qbz (by omega)]
 exact ⟨_,_,List.getElem_mem _,hc',rfl⟩
theorem qbm8 (D:Den ctx) (n:Nat) {K0:List Int→Int→Option ((Cur×Unit)×Unit)} (a:List Int) (ha:a.length≤1048576):∀ (m i:Nat) (h:Int),i≤a.length→a.length - i<m→∃ h':Int,qli D n K0 m a h i=K0 a h'
 | 0,_,_,_,h=>by omega
 | m+1,i,h,hi,hf=>by
  simp only[qli,q0d]
  by_cases h1:i<a.length
  ·by_cases h2:(i:Int)<4000
   ·rw[decide_eq_true (by omega:(i:Int)<(a.length:Int)),cond_true,qn h2,decide_eq_true (by omega:(0:Int)≤(i:Int)),Bool.and_self,br_t,qs (by omega)]
    exact qbm8 D n a ha m (i+1) _ (by omega) (by omega)
   ·rw[decide_eq_true (by omega:(i:Int)<(a.length:Int)),cond_true,qo h2]
    exact ⟨h,rfl⟩
  ·rw[decide_eq_false (by omega:¬ (i:Int)<(a.length:Int)),cond_false,br_f]
   exact ⟨h,rfl⟩
theorem q1m {X:Ext} (hX:XOk X) {n:Nat} (hn:W+1≤n) (a:List Int) (ha:a.length≤1048576):∃ c:Cur,qdc c∧qiu (DD X n) a=some ((c,()),()):=by
 obtain ⟨n,rfl⟩:∃ k,n=k+1:=⟨n - 1,by omega⟩
 have hW:=qcb
 rw[qbky hX]
 simp only[q16,q2o,qxe]
 obtain ⟨h',e⟩:=qbm8 (DD X n) n (K0:=fun v w=>quv (DD X n) n v w) a ha n 0 (IntKind.wrap IntKind.i64 (27323+(a.length:Int))) (by omega) (by omega)
 rw[show ((0:Nat):Int)=0 from rfl] at e
 exact ⟨(a,0,h',()),⟨ha,by show (0:Int)≤0;omega,by show (0:Int)≤(a.length:Int);omega⟩,e⟩
theorem qbt1 {X:Ext} (hX:XOk X) {n:Nat} (hn:1≤n) (a:List Int):q6t (DD X n) a=some ((decide ((a.length:Int)>1048576),()),()):=by
 obtain ⟨n,rfl⟩:∃ k,n=k+1:=⟨n - 1,by omega⟩
 rw[qbn5 hX];rfl
end Go.G

namespace Go.G
set_option maxRecDepth 100000
open Go Go.V Go.Proofs
theorem q4d {X:Ext} (hX:XOk X) {n:Nat} (hn:3≤n) {c:Cur} (hc:qdc c) (l:List Int) (hl:0<l.length):∃ (x:Int) (c':Cur),x∈l∧qdc c'∧qkg (DD X n) c l=some ((x,()),(c',())):=by
 obtain ⟨n,rfl⟩:∃ k,n=k+1:=⟨n - 1,by omega⟩
 rw[qbdv hX]
 simp only[qtj,q2s]
 obtain ⟨x,c',h1,h2,h3,e⟩:=qe1 hX (n:=n) (by omega) hc l.length
 obtain ⟨h4,h5⟩:=h1 (by omega)
 rw[e,qf]
 dsimp only
 rw[ixn h4 h5,br_t]
 exact ⟨_,c',qbk (by omega),h3,rfl⟩
theorem qbcd {X:Ext} (hX:XOk X) {n:Nat} (hn:4≤n) {c:Cur} (hc:qdc c) (k:Int):∃ (v:Value) (c':Cur),v.2.2.1.size≤3∧qdc c'∧qn0 (DD X n) c k=some ((v,()),(c',())):=by
 obtain ⟨n,rfl⟩:∃ k,n=k+1:=⟨n - 1,by omega⟩
 rw[qbc3 hX]
 simp only[qtd,q2r]
 by_cases h1:k=1
 ·rw[qn h1]
  obtain ⟨x,c',_,_,h3,e⟩:=qe1 hX (n:=n) (by omega) hc 2
  rw[e,qf]
  exact ⟨_,c',Nat.zero_le _,h3,rfl⟩
 ·rw[qo h1]
  by_cases h2:k=2
  ·rw[qn h2]
   obtain ⟨x,c',_,h3,e⟩:=q4d hX (n:=n) (by omega) hc [0,1,-1,7,255,256,-1000000000000,1000000000000] (by decide)
   rw[e,qf]
   exact ⟨_,c',Nat.zero_le _,h3,rfl⟩
  ·rw[qo h2]
   by_cases h4:k=3
   ·rw[qn h4]
    obtain ⟨x,c',hx,h3,e⟩:=qbli hX (n:=n) (by omega) hc [ByteArray.mk #[],ByteArray.mk #[UInt8.ofNat 97],ByteArray.mk #[UInt8.ofNat 97,UInt8.ofNat 98],ByteArray.mk #[UInt8.ofNat 97,UInt8.ofNat 0],ByteArray.mk #[UInt8.ofNat 97,UInt8.ofNat 0,UInt8.ofNat 98],ByteArray.mk #[UInt8.ofNat 0],ByteArray.mk #[UInt8.ofNat 1],ByteArray.mk #[UInt8.ofNat 255],ByteArray.mk #[UInt8.ofNat 98]] (by decide)
    have hs:∀ y∈[ByteArray.mk #[],ByteArray.mk #[UInt8.ofNat 97],ByteArray.mk #[UInt8.ofNat 97,UInt8.ofNat 98],ByteArray.mk #[UInt8.ofNat 97,UInt8.ofNat 0],ByteArray.mk #[UInt8.ofNat 97,UInt8.ofNat 0,UInt8.ofNat 98],ByteArray.mk #[UInt8.ofNat 0],ByteArray.mk #[UInt8.ofNat 1],ByteArray.mk #[UInt8.ofNat 255],ByteArray.mk #[UInt8.ofNat 98]],y.size≤3:=by decide +kernel
    refine ⟨(k,0,x,()),c',hs x hx,h3,?_⟩
    refine Eq.trans (congrArg (fun z=>qg z _) e) ?_
    rw[qf]
   ·rw[qo h4]
    exact ⟨_,c,Nat.zero_le _,hc,rfl⟩
structure DrawnS (s:qz):Prop where
 lo:2≤s.1.length
 hi:s.1.length≤4
 names:∀ c∈s.1,c.1.size≤13
 key:s.2.1.length≤2
 ixs:s.2.2.1.length≤3
 ixn:∀ x∈s.2.2.1,x.1.size≤1
 ixc:∀ x∈s.2.2.1,x.2.1.length≤2
theorem DrawnS.sm {s:qz} (h:DrawnS s):SchSm s:=by
 have hM:=qbl
 obtain ⟨a,b,c,d,e,f,g⟩:=h
 exact ⟨by omega,fun x hx=>by have:=c x hx;omega,by omega,by omega,fun x hx=>by have:=f x hx;omega,fun x hx=>by have:=g x hx;omega⟩
def qiz:List ByteArray:=[ByteArray.mk #[UInt8.ofNat 105,UInt8.ofNat 100],ByteArray.mk #[UInt8.ofNat 110,UInt8.ofNat 97,UInt8.ofNat 109,UInt8.ofNat 101],
    ByteArray.mk #[UInt8.ofNat 115,UInt8.ofNat 105,UInt8.ofNat 122,UInt8.ofNat 101],ByteArray.mk #[UInt8.ofNat 111,UInt8.ofNat 110]]
theorem qbhr:∀ x∈qiz,x.size≤4:=by decide +kernel
theorem qbjx:qiz.length=4:=rfl
theorem qbh9 {α:Type} (l:List α) (x d:α) (j:Nat) (hj:j<(l++[x]).length):(l++[x]).getD j d=if j<l.length then l.getD j d else x:=by
 simp only[List.getD]
 by_cases h:j<l.length
 ·rw[if_pos h,List.getElem?_append_left h]
 ·rw[List.length_append] at hj
  simp only[List.length_cons,List.length_nil] at hj
  have:j=l.length:=by omega
  subst this
  rw[if_neg h,List.getElem?_append_right (Nat.le_refl _),Nat.sub_self];rfl
def q1d (cs:List Col):Prop:=∀ j,j<cs.length→(cs.getD j cd).1=qiz.getD j ByteArray.empty∧inR (cs.getD j cd).2.1 1 3=true∧(j=0→(cs.getD j cd).2.2.1=false)
theorem q1d.push {cs:List Col} (h:q1d cs) {x:Col} (h1:x.1=qiz.getD cs.length ByteArray.empty) (h2:inR x.2.1 1 3=true) (h3:cs.length=0→x.2.2.1=false):q1d (cs++[x]):=by
 intro j hj
 rw[qbh9 _ _ _ _ hj]
 by_cases hl:j<cs.length
 ·rw[if_pos hl];exact h j hl
 ·rw[if_neg hl]
  rw[List.length_append] at hj
  simp only[List.length_cons,List.length_nil] at hj
  have:j=cs.length:=by omega
  subst this
  exact ⟨h1,h2,h3⟩
theorem q1d.set0 {cs:List Col} (h:q1d cs) (h0:0<cs.length) {k:Int} (hk:inR k 1 3=true):q1d (cs.set 0 ((cs.getD 0 cd).1,k,(cs.getD 0 cd).2.2)):=by
 intro j hj
 rw[List.length_set] at hj
 have hg:(cs.set 0 ((cs.getD 0 cd).1,k,(cs.getD 0 cd).2.2)).getD j cd=if j=0 then ((cs.getD 0 cd).1,k,(cs.getD 0 cd).2.2) else cs.getD j cd:=by
  by_cases e:j=0
  ·subst e
   rw[if_pos rfl,qbz (by rw[List.length_set];exact hj),List.getElem_set_self]
  ·rw[if_neg e]
   simp only[List.getD,List.getElem?_set]
   rw[if_neg (fun k=>e k.symm)]
 rw[hg]
 obtain ⟨a,b,c⟩:=h j hj
 by_cases e:j=0
 ·subst e
  rw[if_pos rfl];exact ⟨a,hk,c⟩
 ·rw[if_neg e];exact ⟨a,b,c⟩
theorem qbl3 {x:Int} (h0:0≤x) (h:x<3):inR (IntKind.wrap IntKind.i64 (1+x)) 1 3=true:=by
 rw[qeb (by omega) (by omega)]
 unfold inR
 rw[decide_eq_true (by omega),decide_eq_true (by omega)];rfl
theorem qblx:∀ j,j<4→qoj (qiz.getD j ByteArray.empty)=true:=by decide +kernel
theorem qbjm:∀ j,j<4→∀ k,k<4→qiz.getD j ByteArray.empty=qiz.getD k ByteArray.empty→j=k:=by decide +kernel
theorem q1s {X:Ext} (hX:XOk X) (N n:Nat) (hN:3≤N) (K:Int→Cur→qz→qz→Option ((qz×Unit)×Cur×Unit)) (nn:Nat) (hnn:nn≤4) (z:qz) (xs:List qhk):∀ (m i:Nat) (c:Cur) (acc:List Col),i≤nn→nn - i<m→acc.length=i→(∀ x∈acc,x.1.size≤4)→q1d acc→qdc c→
  ∃ (c':Cur) (cs:List Col),qdc c'∧cs.length=nn∧(∀ x∈cs,x.1.size≤4)∧q1d cs∧qe9 (DD X N) n K m (nn:Int) (i:Int) c z (acc,[],xs,()) qiz=K (nn:Int) c' z (cs,[],xs,())
 | 0,_,_,_,_,h,_,_,_,_=>by omega
 | m+1,i,c,acc,hi,hf,ha,hs,hR,hc=>by
  simp only[qe9,qn9]
  have hb:=qcu
  by_cases h:i<nn
  ·have hi4:i<qiz.length:=by rw[qbjx];omega
   have hname:=qbhr _ (qbk (d:=ByteArray.empty) hi4)
   rw[qn (by exact_mod_cast h),ix hi4,br_t,Int.toNat_natCast,qs (by omega)]
   obtain ⟨x,c1,hx,_,h1,e1⟩:=qe1 hX (n:=N) (by omega) hc 3
   obtain ⟨x0,x3⟩:=hx (by omega)
   rw[e1,qf]
   dsimp only
   by_cases h0:(i:Int)>0
   ·rw[qn h0]
    obtain ⟨b,c2,h2,e2⟩:=q2k hX (n:=N) (by omega) h1 2
    rw[e2,qf]
    dsimp only
    rw[qn (by omega)]
    exact q1s hX N n hN K nn hnn z xs m (i+1) c2 (acc++[(qiz.getD i ByteArray.empty,_,b,())]) (by omega) (by omega) (by simp;omega)
     (fun y hy=>by rcases List.mem_append.1 hy with hy | hy;exact hs y hy;simp only[List.mem_singleton] at hy;subst hy;exact hname) (hR.push (by rw[ha]) (qbl3 x0 x3) (fun e=>by omega)) h2
   ·rw[qo h0,qn (by omega)]
    exact q1s hX N n hN K nn hnn z xs m (i+1) c1 (acc++[(qiz.getD i ByteArray.empty,_,false,())]) (by omega) (by omega) (by simp;omega)
     (fun y hy=>by rcases List.mem_append.1 hy with hy | hy;exact hs y hy;simp only[List.mem_singleton] at hy;subst hy;exact hname) (hR.push (by rw[ha]) (qbl3 x0 x3) (fun _=>rfl)) h1
  ·rw[qo (by exact_mod_cast h)]
   exact ⟨c,acc,hc,by omega,hs,hR,rfl⟩
def qjt:List ByteArray:=[ByteArray.mk #[UInt8.ofNat 120],ByteArray.mk #[UInt8.ofNat 121],ByteArray.mk #[UInt8.ofNat 122]]
theorem qbd6:∀ x∈qjt,x.size≤1:=by decide +kernel
def IxsR (nn:Nat) (xs:List qhk):Prop:=∀ j,j<xs.length→(xs.getD j xd).1=qjt.getD j ByteArray.empty∧qcj nn (xs.getD j xd).2.1 3=true
theorem IxsR.push {nn:Nat} {xs:List qhk} (h:IxsR nn xs) {x:qhk} (h1:x.1=qjt.getD xs.length ByteArray.empty) (h2:qcj nn x.2.1 3=true):IxsR nn (xs++[x]):=by
 intro j hj
 rw[qbh9 _ _ _ _ hj]
 by_cases hl:j<xs.length
 ·rw[if_pos hl];exact h j hl
 ·rw[if_neg hl]
  rw[List.length_append] at hj
  simp only[List.length_cons,List.length_nil] at hj
  have:j=xs.length:=by omega
  subst this
  exact ⟨h1,h2⟩
theorem qbp5 {nn:Nat} {a:Int} (h0:0≤a) (h:a<nn):qcj nn [a] 3=true:=by
 have e:inR a 0 ((nn:Int) - 1)=true:=by unfold inR;rw[decide_eq_true (by omega),decide_eq_true (by omega)];rfl
 simp only[qcj,qv,has,List.length_cons,List.length_nil,List.getD_cons_zero,e,List.take]
 rfl
theorem qbim {nn:Nat} {a b:Int} (h0:0≤a) (h:a<nn) (h1:0≤b) (h2:b<nn) (h3:b≠a):qcj nn [a,b] 3=true:=by
 have e:inR a 0 ((nn:Int) - 1)=true:=by unfold inR;rw[decide_eq_true (by omega),decide_eq_true (by omega)];rfl
 have e2:inR b 0 ((nn:Int) - 1)=true:=by unfold inR;rw[decide_eq_true (by omega),decide_eq_true (by omega)];rfl
 simp only[qcj,qv,has,List.length_cons,List.length_nil,List.getD_cons_zero,List.getD_cons_succ,e,e2,List.take,Bool.not_true,Bool.false_or,Bool.or_false]
 rw[decide_eq_false h3]
 rfl
theorem qbrq {nn:Nat} {y:Int} (hn:nn≤4) (h0:0≤y) (h:y<(nn:Int) - 1):qcj nn [IntKind.wrap IntKind.i64 (1+y)] 3=true:=by
 rw[qeb (by omega) (by omega)]
 exact qbp5 (by omega) (by omega)
theorem qbqq {nn:Nat} {y:Int} (hn:nn≤4) (h0:0≤y) (h:y<(nn:Int) - 1):qcj nn [IntKind.wrap IntKind.i64 (1+y),Int.tmod (IntKind.wrap IntKind.i64 (IntKind.wrap IntKind.i64 (1+y)+1)) (nn:Int)] 3=true:=by
 rw[qeb (show -9223372036854775808≤1+y by omega) (by omega),qeb (by omega) (by omega)]
 by_cases e:1+y+1=nn
 ·rw[e,Int.tmod_self]
  exact qbim (by omega) (by omega) (by omega) (by omega) (by omega)
 ·rw[Int.tmod_eq_of_lt (by omega) (by omega)]
  exact qbim (by omega) (by omega) (by omega) (by omega) (by omega)
theorem qbi4:∀ j,j<3→qoj (qjt.getD j ByteArray.empty)=true:=by decide +kernel
theorem qbgr:∀ j,j<3→∀ k,k<3→qjt.getD j ByteArray.empty=qjt.getD k ByteArray.empty→j=k:=by decide +kernel
theorem qbnt {cs:List Col} {xs:List qhk} (hc:q1d cs) (h2:2≤cs.length) (h4:cs.length≤4) (hx:IxsR cs.length xs) (hl:xs.length≤2):qf3 (cs,[0],xs,())=true:=by
 have a1:qv (qv4 cs) 0 cs.length=false:=qba.2 fun j _ hj=>by
  have hj:j<cs.length:=by omega
  obtain ⟨n1,n2,n3⟩:=hc j hj
  have hcol:qbad cs (cs.getD j cd).1=(j:Int):=by
   unfold qbad
   cases hf:qy (fun i=>decide ((cs.getD i cd).1=(cs.getD j cd).1)) 0 cs.length with
   | none=>
    have:=qj8 hf j (Nat.zero_le _) (by omega)
    rw[decide_eq_true rfl] at this;cases this
   | some k=>
    obtain ⟨_,k2,k3,_⟩:=qd9 hf
    have hk:k<cs.length:=by omega
    simp only[decide_eq_true_eq] at k3
    rw[(hc k hk).1,n1] at k3
    have:=qbjm k (by omega) j (by omega) k3
    rw[this]
  simp only[qv4]
  rw[n1,qblx j (by omega),n2,←n1,hcol,decide_eq_true rfl];rfl
 have a2:qv (qpz cs.length xs) 0 xs.length=false:=qba.2 fun j _ hj=>by
  have hj:j<xs.length:=by omega
  obtain ⟨n1,n2⟩:=hx j hj
  have a3:qv (fun k=>decide ((xs.getD k xd).1=(xs.getD j xd).1)) 0 j=false:=qba.2 fun k _ hk=>by
   have hk:k<j:=by omega
   refine decide_eq_false fun e=>?_
   rw[(hx k (by omega)).1,n1] at e
   have:=qbgr k (by omega) j (by omega) e
   omega
  simp only[qpz]
  rw[a3,n1,qbi4 j (by omega),n2];rfl
 have a3:qcj cs.length [0] 4=true:=by
  have e:inR 0 0 ((cs.length:Int) - 1)=true:=by unfold inR;rw[decide_eq_true (by omega),decide_eq_true (by omega)];rfl
  simp only[qcj,qv,has,List.length_cons,List.length_nil,List.getD_cons_zero,e,List.take]
  rfl
 have a4:qxp cs [0]=false:=by
  have:=(hc 0 (by omega)).2.2 rfl
  show ((cs.getD 0 cd).2.2.1||false)=false
  rw[this];rfl
 have a5:inR (cs.length:Int) 1 5=true:=by unfold inR;rw[decide_eq_true (by omega),decide_eq_true (by omega)];rfl
 unfold qf3
 dsimp only
 rw[a1,a2,a3,a4,a5,decide_eq_true (by omega)];rfl
theorem q2n {X:Ext} (hX:XOk X) (N n:Nat) (hN:3≤N) (K:Cur→qz→qz→Option ((qz×Unit)×Cur×Unit)) (nn:Nat) (hn0:2≤nn) (hnn:nn≤4) (z:qz) (cs:List Col) (key:List Int):∀ (m i:Nat) (c:Cur) (acc:List qhk),3 - i<m→i≤2→acc.length=i→(∀ x∈acc,x.1.size≤1∧x.2.1.length≤2)→IxsR nn acc→qdc c→
  ∃ (c':Cur) (xs:List qhk),qdc c'∧xs.length≤2∧(∀ x∈xs,x.1.size≤1∧x.2.1.length≤2)∧IxsR nn xs∧qfc (DD X N) n K m (nn:Int) (i:Int) c z (cs,key,acc,())=K c' z (cs,key,xs,())
 | 0,_,_,_,h,_,_,_,_,_=>by omega
 | m+1,i,c,acc,hf,hi,ha,hs,hR,hc=>by
  simp only[qfc,qoa]
  have hb:=qcu
  obtain ⟨x,c1,hx,_,h1,e1⟩:=qe1 hX (n:=N) (by omega) hc 3
  obtain ⟨x1,x2⟩:=hx (by omega)
  rw[e1,qf]
  dsimp only
  by_cases h:(i:Int)<x
  ·have hi3:i<qjt.length:=by show i<3;omega
   have hname:=qbd6 _ (qbk (d:=ByteArray.empty) hi3)
   have hc3:(decide ((0:Int)≤(i:Int))&&decide ((i:Int)<3))=true:=by rw[decide_eq_true (by omega),decide_eq_true (by omega)];rfl
   rw[qn h]
   obtain ⟨y,c2,hy,_,h2,e2⟩:=qe1 hX (n:=N) (by omega) h1 (IntKind.wrap IntKind.i64 ((nn:Int) - 1))
   rw[qeb (by omega) (by omega)] at hy
   obtain ⟨y0,y1⟩:=hy (by omega)
   obtain ⟨b,c3,h3,e3⟩:=q2k hX (n:=N) (by omega) h2 2
   obtain ⟨b2,c4,h4,e4⟩:=q2k hX (n:=N) (by omega) h3 2
   rw[e2,qf]
   dsimp only
   rw[hc3,br_t,e3,qf]
   dsimp only
   rw[e4,qf,qs (by omega),Int.toNat_natCast]
   dsimp only
   cases b2
   ·rw[br_f,qn (by omega)]
    exact q2n hX N n hN K nn hn0 hnn z cs key m (i+1) c4 (acc++[(qjt.getD i ByteArray.empty,_,b,())]) (by omega) (by omega) (by simp;omega)
     (fun y hy=>by rcases List.mem_append.1 hy with hy | hy;exact hs y hy;simp only[List.mem_singleton] at hy;subst hy;exact ⟨hname,by simp⟩) (hR.push (by rw[ha]) (qbrq hnn y0 y1)) h4
   ·rw[br_t,qo (by omega),qn (by omega)]
    exact q2n hX N n hN K nn hn0 hnn z cs key m (i+1) c4 (acc++[(qjt.getD i ByteArray.empty,_,b,())]) (by omega) (by omega) (by simp;omega)
     (fun y hy=>by rcases List.mem_append.1 hy with hy | hy;exact hs y hy;simp only[List.mem_singleton] at hy;subst hy;exact ⟨hname,by simp⟩) (hR.push (by rw[ha]) (qbqq hnn y0 y1)) h4
  ·rw[qo h]
   exact ⟨c1,acc,h1,by omega,hs,hR,rfl⟩
theorem qbk2 {l:List Col} {i k:Nat} {x:Col} (h:∀ y∈l,y.1.size≤k) (hx:x.1.size≤k):∀ y∈l.set i x,y.1.size≤k:=by
 intro y hy
 rcases List.mem_or_eq_of_mem_set hy with hy | rfl
 ·exact h y hy
 ·exact hx
theorem q5v {X:Ext} (hX:XOk X) {n:Nat} (hn:W+4≤n) {c:Cur} (hc:qdc c):∃ (s:qz) (c':Cur),DrawnS s∧qf3 s=true∧s.2.1.length≤1∧s.2.2.1.length≤2∧qdc c'∧qkk (DD X n) c=some ((s,()),(c',())):=by
 obtain ⟨n,rfl⟩:∃ k,n=k+1:=⟨n - 1,by omega⟩
 have hW:=qcb
 rw[q7r hX]
 simp only[qo8,qpj,qna]
 obtain ⟨x,c1,hx,_,h1,e1⟩:=qe1 hX (n:=n) (by omega) hc 3
 obtain ⟨x1,x2⟩:=hx (by omega)
 rw[e1,qf]
 dsimp only
 rw[qeb (by omega) (by omega)]
 obtain ⟨nn,hnn⟩:∃ nn:Nat,(nn:Int)=2+x:=⟨(2+x).toNat,by omega⟩
 rw[←hnn]
 obtain ⟨c2,cs,h2,hl,hs,hR,e2⟩:=q1s hX n n (by omega) (fun v0_0 v0_1 v0_2 v0_3=>qim (DD X n) n (qjf (DD X n) n) v0_0 v0_1 v0_2 v0_3) nn (by omega) ([],[],[],()) [] n 0 c1 [] (by omega) (by omega) rfl (fun x hx=>by simp at hx) (fun j hj=>by simp at hj) h1
 obtain ⟨c3,xs,h3,hxl,hxs,hI,e3⟩:=q2n hX n n (by omega) (fun v0_0 v0_1 v0_2=>qis (DD X n) n v0_0 v0_1 v0_2) nn (by omega) (by omega) ([],[],[],()) cs [0] n 0 c2 [] (by omega) (by omega) rfl (fun x hx=>by simp at hx) (fun j hj=>by simp at hj) h2
 obtain ⟨y,c4,hy,h4,e4⟩:=q4d hX (n:=n) (by omega) h3 [2,3] (by decide)
 have hc0:(decide ((0:Nat)≤0)&&decide ((0:Int)<(cs.length:Int)))=true:=by rw[decide_eq_true (by omega),decide_eq_true (by omega)];rfl
 refine ⟨(cs.set 0 ((cs.getD 0 cd).1,y,(cs.getD 0 cd).2.2),[0],xs,()),c4,⟨by simp;omega,by simp;omega,?_,by simp,by simp only;omega,fun x hx=>(hxs x hx).1,fun x hx=>(hxs x hx).2⟩,?_,by simp,by simpa using hxl,h4,?_⟩
 ·have h0:=hs _ (qbk (d:=cd) (show 0<cs.length by omega))
  intro z hz
  have:=qbk2 (i:=0) (x:=((cs.getD 0 cd).1,y,(cs.getD 0 cd).2.2)) hs h0 z hz
  omega
 ·have hk:inR y 1 3=true:=by
   simp only[List.mem_cons,List.not_mem_nil,or_false] at hy
   rcases hy with rfl | rfl<;>rfl
  have hR2:=hR.set0 (by omega) hk
  exact qbnt hR2 (by rw[List.length_set];omega) (by rw[List.length_set];omega) (by rw[List.length_set,hl];exact hI) hxl
 ·refine Eq.trans e2 ?_
  simp only[qim,qjf]
  refine Eq.trans e3 ?_
  simp only[qis]
  rw[e4,qf]
  dsimp only
  rw[hc0,br_t]
theorem DrawnS.setCol {s:qz} (h:DrawnS s) (i:Nat) {x:Col} (hx:x.1.size≤13):DrawnS (s.1.set i x,s.2.1,s.2.2.1,()):=
 ⟨by rw[List.length_set];exact h.lo,by rw[List.length_set];exact h.hi,qbk2 h.names hx,h.key,h.ixs,h.ixn,h.ixc⟩
theorem DrawnS.addKey {s:qz} (h:DrawnS s) (hk:s.2.1.length≤1) (k:Int):DrawnS (s.1,s.2.1++[k],s.2.2.1,()):=
 ⟨h.lo,h.hi,h.names,by rw[List.length_append];exact Nat.add_le_add_right hk 1,h.ixs,h.ixn,h.ixc⟩
theorem DrawnS.addIx {s:qz} (h:DrawnS s) (hk:s.2.2.1.length≤2) {x:qhk} (h1:x.1.size≤1) (h2:x.2.1.length≤2):DrawnS (s.1,s.2.1,s.2.2.1++[x],()):=
 ⟨h.lo,h.hi,h.names,h.key,by rw[List.length_append];exact Nat.add_le_add_right hk 1,
  fun z hz=>by rcases List.mem_append.1 hz with hz | hz;exact h.ixn z hz;simp only[List.mem_singleton] at hz;subst hz;exact h1,
  fun z hz=>by rcases List.mem_append.1 hz with hz | hz;exact h.ixc z hz;simp only[List.mem_singleton] at hz;subst hz;exact h2⟩
theorem qbib {X:Ext} (hX:XOk X) {n:Nat} (hn:W+5≤n) {c:Cur} (hc:qdc c):∃ (s:qz) (c':Cur),DrawnS s∧qdc c'∧qrl (DD X n) c=some ((s,()),(c',())):=by
 obtain ⟨n,rfl⟩:∃ k,n=k+1:=⟨n - 1,by omega⟩
 have hb:=qcu
 rw[qbh1 hX]
 simp only[qw8,q5i]
 obtain ⟨s,c1,hs,_,hk,hx,h1,e1⟩:=q5v hX (n:=n) (by omega) hc
 obtain ⟨x,c2,_,_,h2,e2⟩:=qe1 hX (n:=n) (by omega) h1 12
 have l0:=hs.lo
 have hc1:(decide ((0:Nat)≤1)&&decide ((1:Int)<(s.1.length:Int)))=true:=by rw[decide_eq_true (by omega),decide_eq_true (by omega)];rfl
 have hc0:(decide ((0:Nat)≤0)&&decide ((0:Int)<(s.1.length:Int)))=true:=by rw[decide_eq_true (by omega),decide_eq_true (by omega)];rfl
 rw[e1,qf]
 dsimp only
 rw[e2,qf]
 dsimp only
 by_cases k0:x=0
 ·rw[qn k0]
  obtain ⟨y,c3,hy,h3,e3⟩:=qbli hX (n:=n) (by omega) h2 [ByteArray.mk #[],ByteArray.mk #[UInt8.ofNat 105,UInt8.ofNat 100],ByteArray.mk #[UInt8.ofNat 65],
       ByteArray.mk
        #[UInt8.ofNat 97,UInt8.ofNat 98,UInt8.ofNat 99,UInt8.ofNat 100,UInt8.ofNat 101,UInt8.ofNat 102,UInt8.ofNat 103,UInt8.ofNat 104,
         UInt8.ofNat 105,UInt8.ofNat 106,UInt8.ofNat 107,UInt8.ofNat 108,UInt8.ofNat 109]] (by decide)
  have hsz:∀ y∈[ByteArray.mk #[],ByteArray.mk #[UInt8.ofNat 105,UInt8.ofNat 100],ByteArray.mk #[UInt8.ofNat 65],
       ByteArray.mk
        #[UInt8.ofNat 97,UInt8.ofNat 98,UInt8.ofNat 99,UInt8.ofNat 100,UInt8.ofNat 101,UInt8.ofNat 102,UInt8.ofNat 103,UInt8.ofNat 104,
         UInt8.ofNat 105,UInt8.ofNat 106,UInt8.ofNat 107,UInt8.ofNat 108,UInt8.ofNat 109]],y.size≤13:=by decide +kernel
  rw[e3,qf,hc1,br_t]
  exact ⟨_,c3,hs.setCol 1 (x:=(y,(s.1.getD 1 cd).2)) (hsz y hy),h3,rfl⟩
 ·rw[qo k0]
  by_cases k1:x=1
  ·rw[qn k1]
   obtain ⟨y,c3,hy,h3,e3⟩:=q4d hX (n:=n) (by omega) h2 [0,3,4] (by decide)
   rw[e3,qf,hc1,br_t]
   exact ⟨_,c3,hs.setCol 1 (x:=((s.1.getD 1 cd).1,y,(s.1.getD 1 cd).2.2)) (hs.names (s.1.getD 1 cd) (qbk (by omega))),h3,rfl⟩
  ·rw[qo k1]
   by_cases k2:x=2
   ·rw[qn k2]
    obtain ⟨y,c3,_,_,h3,e3⟩:=qe1 hX (n:=n) (by omega) h2 6
    rw[e3,qf,qn (by omega)]
    exact ⟨_,c3,hs.addKey hk _,h3,rfl⟩
   ·rw[qo k2]
    by_cases k3:x=3
    ·rw[qn k3,hc0,br_t]
     exact ⟨_,c2,hs.setCol 0 (x:=((s.1.getD 0 cd).1,(s.1.getD 0 cd).2.1,true,(s.1.getD 0 cd).2.2.2)) (hs.names (s.1.getD 0 cd) (qbk (by omega))),h2,rfl⟩
    ·rw[qo k3]
     by_cases k4:x=4
     ·rw[qn k4]
      obtain ⟨y,c3,_,_,h3,e3⟩:=qe1 hX (n:=n) (by omega) h2 6
      rw[e3,qf,qn (by omega)]
      exact ⟨_,c3,hs.addIx hx (x:=(ByteArray.mk #[UInt8.ofNat 120],[IntKind.wrap IntKind.i64 (y - 1)],false,())) (Nat.le_refl 1) (by simp),h3,rfl⟩
     ·rw[qo k4]
      exact ⟨s,c2,hs,h2,rfl⟩
theorem qbic {X:Ext} (hX:XOk X) (N n:Nat) (hN:4≤N) (K:Cur→Row→Option ((Row×Unit)×Cur×Unit)) (s:qz) (hs:s.1.length≤4):∀ (m i:Nat) (c:Cur) (acc:Row),i≤s.1.length→s.1.length - i<m→acc.length=i→(∀ v∈acc,v.2.2.1.size≤3)→qdc c→
  ∃ (c':Cur) (row:Row),qdc c'∧row.length=s.1.length∧(∀ v∈row,v.2.2.1.size≤3)∧qew (DD X N) n K m (i:Int) c s acc=K c' row
 | 0,_,_,_,_,h,_,_,_=>by omega
 | m+1,i,c,acc,hi,hf,ha,hv,hc=>by
  simp only[qew,qqe]
  have hb:=qcu
  have step:∀ (c':Cur) (v:Value),qdc c'→v.2.2.1.size≤3→i<s.1.length→∃ (c2:Cur) (row:Row),qdc c2∧row.length=s.1.length∧(∀ v∈row,v.2.2.1.size≤3)∧qew (DD X N) n K m ((i+1:Nat):Int) c' s (acc++[v])=K c2 row:=
   fun c' v hc' hv' h=>qbic hX N n hN K s hs m (i+1) c' (acc++[v]) (by omega) (by omega) (by simp;omega) (fun y hy=>by rcases List.mem_append.1 hy with hy | hy;exact hv y hy;simp only[List.mem_singleton] at hy;subst hy;exact hv') hc'
  by_cases h:i<s.1.length
  ·rw[qn (by exact_mod_cast h),ix h,br_t,Int.toNat_natCast,qs (by omega)]
   cases (s.1.getD i cd).2.2.1
   ·rw[br_f,br_t]
    obtain ⟨v,c2,hv2,h2,e2⟩:=qbcd hX (n:=N) (by omega) hc (s.1.getD i cd).2.1
    rw[e2,qf,qn (show acc.length+1≤qbj by omega)]
    exact step c2 v h2 hv2 h
   ·rw[br_t]
    obtain ⟨b,c1,h1,e1⟩:=q2k hX (n:=N) (by omega) hc 3
    rw[e1,qf]
    dsimp only
    cases b
    ·rw[br_f,br_t]
     obtain ⟨v,c2,hv2,h2,e2⟩:=qbcd hX (n:=N) (by omega) h1 (s.1.getD i cd).2.1
     rw[e2,qf,qn (show acc.length+1≤qbj by omega)]
     exact step c2 v h2 hv2 h
    ·rw[br_t,qn (show acc.length+1≤qbj by omega)]
     exact step c1 vd h1 (Nat.zero_le _) h
  ·rw[qo (by exact_mod_cast h)]
   exact ⟨c,acc,hc,by omega,hv,rfl⟩
theorem q2e {X:Ext} (hX:XOk X) {n:Nat} (hn:W+1≤n) {c:Cur} (hc:qdc c) (s:qz) (hs:s.1.length≤4):∃ (row:Row) (c':Cur),qdc c'∧row.length=s.1.length∧(∀ v∈row,v.2.2.1.size≤3)∧qjr (DD X n) c s=some ((row,()),(c',())):=by
 obtain ⟨n,rfl⟩:∃ k,n=k+1:=⟨n - 1,by omega⟩
 have hW:=qcb
 rw[qbbe hX]
 simp only[qse,qrr,qpc]
 obtain ⟨c',row,h1,h2,h3,e⟩:=qbic hX n n (by omega) (fun v0_0 v0_1=>qnz (DD X n) n v0_0 v0_1) s hs n 0 c [] (by omega) (by omega) rfl (fun v hv=>by simp at hv) hc
 exact ⟨row,c',h1,h2,h3,e⟩
end Go.G

namespace Go.G
set_option maxRecDepth 100000
open Go Go.V Go.Proofs
structure InvR (r:Rel):Prop where
 sch:SchSm r.1
 cols:r.1.1.length≤4
 rows:r.2.1.length≤12
 row:∀ x∈r.2.1,x.length≤5
theorem InvR.sm {r:Rel} (h:InvR r):RelSm r:=by
 have hM:=qbl
 obtain ⟨a,b,c,d⟩:=h
 exact ⟨a,by omega,fun x hx=>by have:=d x hx;omega⟩
theorem qbn9 {r:Rel} (h:InvR r) {row:Row} (hw:row.length≤5):InvR (qc9 r row).1:=by
 unfold qc9
 split
 ·split
  ·exact h
  ·split
   ·exact h
   ·split
    ·exact h
    ·refine ⟨h.sch,h.cols,?_,fun x hx=>?_⟩
     ·have:=q3q r (qk row r.1.2.1)
      simp only[List.length_append,List.length_take,List.length_drop,List.length_cons,List.length_nil];omega
     ·simp only[List.mem_append,List.mem_singleton] at hx
      rcases hx with (hx | rfl) | hx
      ·exact h.row x (List.mem_of_mem_take hx)
      ·exact hw
      ·exact h.row x (List.mem_of_mem_drop hx)
 ·exact h
theorem qbnu {r:Rel} (h:InvR r) (key:Row):InvR (qj7 r key).1:=by
 unfold qj7
 split
 ·split
  ·refine ⟨h.sch,h.cols,?_,fun x hx=>?_⟩
   ·have:=h.rows
    simp only[List.length_append,List.length_take,List.length_drop];omega
   ·simp only[List.mem_append] at hx
    rcases hx with hx | hx
    ·exact h.row x (List.mem_of_mem_take hx)
    ·exact h.row x (List.mem_of_mem_drop hx)
  ·exact h
 ·exact h
theorem qbl8 {r:Rel} (h:InvR r) {row:Row} (hw:row.length≤5):InvR (qh6 r row).1:=by
 unfold qh6
 split
 ·split
  ·split
   ·exact h
   ·refine ⟨h.sch,h.cols,by simp only[List.length_set];exact h.rows,fun x hx=>?_⟩
    rcases List.mem_or_eq_of_mem_set hx with hx | rfl
    ·exact h.row x hx
    ·exact hw
  ·exact h
 ·exact h
theorem qbs7 {s:qz} (h:DrawnS s):InvR (qke s).1:=by
 unfold qke
 split
 ·exact ⟨h.sm,h.hi,Nat.zero_le _,(fun _ h=>nomatch h)⟩
 ·exact ⟨⟨Nat.zero_le _,(fun _ h=>nomatch h),Nat.zero_le _,Nat.zero_le _,(fun _ h=>nomatch h),(fun _ h=>nomatch h)⟩,Nat.zero_le _,Nat.zero_le _,(fun _ h=>nomatch h)⟩
structure InvK (r:Rel):Prop where
 inv:InvR r
 ok:qcs r=true
theorem InvK.sm {r:Rel} (h:InvK r):RelSm r:=h.inv.sm
theorem qbmo {r:Rel} (hok:qcs r=true) (row:Row):qcs (qh6 r row).1=true:=by
 unfold qh6
 split
 ·rename_i hc
  cases hk:qgm r (qk row r.1.2.1) with
  | none=>exact hok
  | some j=>
   dsimp only
   split
   ·exact hok
   ·rename_i ho
    exact (qbl6 hok hc.2 hk (by simpa using ho)).1
 ·exact hok
theorem qbp8 {s:qz} (h:qf3 s=true):qcs (s,[],())=true:=
 (qug _).2 ⟨h,Nat.zero_le _,(fun _ h=>nomatch h),List.Pairwise.nil⟩
theorem qtp (a:Rel):((a.1,a.2.1,()):Rel)=a:=rfl
theorem qbag {X:Ext} (hX:XOk X) (N n:Nat) (hN:W+9≤N) (K:Cur→Rel→Rel→Option ((Rel×Unit)×Cur×Unit)) (z:Rel):∀ (m i:Nat) (c:Cur) (r:Rel),i≤9→9 - i<m→InvK r→qdc c→
  ∃ (c':Cur) (r':Rel),qdc c'∧InvK r'∧qfd (DD X N) n K m (i:Int) c z r=K c' z r'
 | 0,_,_,_,_,h,_,_=>by omega
 | m+1,i,c,r,hi,hf,hr,hc=>by
  have hM:=qbl
  simp only[qfd,qod,qtp]
  obtain ⟨x,c1,hx,_,h1,e1⟩:=qe1 hX (n:=N) (by omega) hc 9
  obtain ⟨x1,x2⟩:=hx (by omega)
  rw[e1,qf]
  dsimp only
  by_cases h:(i:Int)<x
  ·obtain ⟨row,c2,h2,hl,_,e2⟩:=q2e hX (n:=N) (by omega) h1 r.1 hr.inv.cols
   obtain ⟨y,c3,_,_,h3,e3⟩:=qe1 hX (n:=N) (by omega) h2 6
   have hl5:row.length≤5:=by have:=hr.inv.cols;omega
   have hl6:row.length≤M:=by omega
   rw[qn h,e2,qf]
   dsimp only
   rw[e3,qf,qs (by omega)]
   dsimp only
   by_cases k0:y=0
   ·rw[qn k0,qea hX (by omega) r.1 row hl6 hr.inv.sch.key,qf]
    dsimp only
    rw[q9l hX (by omega) r hr.sm,qf]
    exact qbag hX N n hN K z m (i+1) c3 _ (by omega) (by omega) ⟨qbnu hr.inv _,qboa hr.ok _⟩ h3
   ·rw[qo k0]
    by_cases k1:y=1
    ·rw[qn k1,q65 hX (by omega) r hr.sm row hl6,qf]
     exact qbag hX N n hN K z m (i+1) c3 _ (by omega) (by omega) ⟨qbl8 hr.inv hl5,qbmo hr.ok _⟩ h3
    ·rw[qo k1,q9a hX (by omega) r hr.sm row hl6,qf]
     exact qbag hX N n hN K z m (i+1) c3 _ (by omega) (by omega) ⟨qbn9 hr.inv hl5,qbon hr.ok _⟩ h3
  ·rw[qo h]
   exact ⟨c1,r,h1,hr,rfl⟩
theorem qbhv {X:Ext} (hX:XOk X) {n:Nat} (hn:W+10≤n) {c:Cur} (hc:qdc c):∃ (r:Rel) (c':Cur),InvK r∧qdc c'∧qpd (DD X n) c=some ((r,()),(c',())):=by
 obtain ⟨n,rfl⟩:∃ k,n=k+1:=⟨n - 1,by omega⟩
 have hW:=qcb
 rw[q7x hX]
 simp only[qpb,qpa,qnn]
 obtain ⟨s,c1,hs,so,_,_,h1,e1⟩:=q5v hX (n:=n) (by omega) hc
 rw[e1,qf]
 dsimp only
 rw[q81 hX (by omega) s hs.sm,qf]
 dsimp only
 obtain ⟨c2,r,h2,hr,e⟩:=qbag hX n n (by omega) (fun v0_0 v0_1 v0_2=>qmc (DD X n) n v0_0 v0_1 v0_2) (([],[],[],()),[],()) n 0 c1 (qke s).1 (by omega) (by omega) ⟨qbs7 hs,by unfold qke;rw[if_pos (qbp8 so)];exact qbp8 so⟩ h1
 exact ⟨r,c2,hr,h2,e⟩
theorem qu0 {X:Ext} (hX:XOk X) {n:Nat} (hn:W+3≤n) {c:Cur} (hc:qdc c) (r:Rel) (hr:r.1.1.length≤4):∃ (row:Row) (c':Cur),row.length≤5∧qdc c'∧qg1 (DD X n) c r=some ((row,()),(c',())):=by
 obtain ⟨n,rfl⟩:∃ k,n=k+1:=⟨n - 1,by omega⟩
 have hW:=qcb
 rw[qbax hX]
 simp only[qso,q0j]
 obtain ⟨row,c1,h1,hl,_,e1⟩:=q2e hX (n:=n) (by omega) hc r.1 hr
 have hl5:row.length≤5:=by omega
 rw[e1,qf]
 dsimp only
 rw[qh2]
 by_cases ha:(r.2.1.length:Int)>0
 ·by_cases hb:(row.length:Int)>0
  ·rw[decide_eq_true ha,decide_eq_true hb,Bool.true_and,br_t]
   obtain ⟨b,c2,h2,e2⟩:=q2k hX (n:=n) (by omega) h1 2
   rw[e2,qf]
   dsimp only
   cases b
   ·exact ⟨row,c2,hl5,h2,rfl⟩
   ·rw[br_t]
    obtain ⟨x,c3,hx,_,h3,e3⟩:=qe1 hX (n:=n) (by omega) h2 (r.2.1.length:Int)
    obtain ⟨x1,x2⟩:=hx ha
    rw[e3,qf]
    dsimp only
    rw[ixn x1 x2,br_t]
    by_cases h0:((r.2.1.getD x.toNat []).length:Int)>0
    ·have d1:∀ k:Nat,(k:Int)>0→(decide ((0:Nat)≤0)&&decide ((0:Int)<(k:Int)))=true:=fun k hk=>by
      rw[decide_eq_true (by omega),decide_eq_true (by omega)];rfl
     have d2:(decide ((0:Nat)≤0)&&true)=true:=rfl
     rw[qn h0,d1 _ h0,br_t,d2,br_t]
     exact ⟨_,c3,by rw[List.length_set];exact hl5,h3,rfl⟩
    ·rw[qo h0]
     exact ⟨row,c3,hl5,h3,rfl⟩
  ·rw[decide_eq_false hb,Bool.and_false,br_f]
   exact ⟨row,c1,hl5,h1,rfl⟩
 ·rw[decide_eq_false ha,Bool.false_and,br_f]
  exact ⟨row,c1,hl5,h1,rfl⟩
end Go.G

namespace Go.G
set_option maxRecDepth 100000
open Go Go.V Go.Proofs
structure InvD (r:Rel):Prop where
 sch:SchSm r.1
 cols:r.1.1.length≤4
 rows:r.2.1.length≤13
 row:∀ x∈r.2.1,x.length≤5
theorem InvD.sm {r:Rel} (h:InvD r):RelSm r:=by
 have hM:=qbl
 obtain ⟨a,b,c,d⟩:=h
 exact ⟨a,by omega,fun x hx=>by have:=d x hx;omega⟩
theorem qy8 {X:Ext} (hX:XOk X) {n:Nat} (hn:W+11≤n) {c:Cur} (hc:qdc c):∃ (r:Rel) (c':Cur),InvD r∧qdc c'∧qh8 (DD X n) c=some ((r,()),(c',())):=by
 obtain ⟨n,rfl⟩:∃ k,n=k+1:=⟨n - 1,by omega⟩
 have hb:=qcu
 rw[qbhd hX]
 simp only[qw6,q5l,qtp]
 obtain ⟨r,c1,hr,h1,e1⟩:=qbhv hX (n:=n) (by omega) hc
 obtain ⟨x,c2,_,_,h2,e2⟩:=qe1 hX (n:=n) (by omega) h1 10
 obtain ⟨q1,q2,q3,q4⟩:=hr.inv
 rw[e1,qf]
 dsimp only
 rw[e2,qf]
 dsimp only
 by_cases k0:x=0
 ·rw[qn k0]
  obtain ⟨s,c3,hs,h3,e3⟩:=qbib hX (n:=n) (by omega) h2
  rw[e3,qf]
  exact ⟨(s,r.2.1,()),c3,⟨hs.sm,hs.hi,by show r.2.1.length≤13;omega,q4⟩,h3,rfl⟩
 ·rw[qo k0]
  by_cases k1:x=1
  ·rw[qn k1]
   obtain ⟨row,c3,h3,hl,_,e3⟩:=q2e hX (n:=n) (by omega) h2 r.1 q2
   rw[e3,qf]
   dsimp only
   rw[qn (by omega)]
   refine ⟨(r.1,r.2.1++[row],()),c3,⟨q1,q2,by simp only[List.length_append,List.length_cons,List.length_nil];omega,fun y hy=>?_⟩,h3,rfl⟩
   rcases List.mem_append.1 hy with hy | hy
   ·exact q4 y hy
   ·rw[List.mem_singleton] at hy;subst hy;omega
  ·rw[qo k1]
   exact ⟨r,c2,⟨q1,q2,by omega,q4⟩,h2,rfl⟩
end Go.G

namespace Go.G
set_option maxRecDepth 100000
open Go Go.V Go.Proofs
theorem qbln {X:Ext} (hX:XOk X) {n:Nat} (hn:W+12≤n) (a:List Int) (ha:a.length≤1048576):∃ (r:Rel) (row:Row),InvD r∧row.length≤5∧qsl (DD X n) a=some ((r,row,()),()):=by
 obtain ⟨n,rfl⟩:∃ k,n=k+1:=⟨n - 1,by omega⟩
 rw[qbbb hX]
 simp only[qsr,q0x,qtp]
 obtain ⟨c,hc,e⟩:=q1m hX (n:=n) (by omega) a ha
 obtain ⟨r,c1,hr,h1,e1⟩:=qy8 hX (n:=n) (by omega) hc
 obtain ⟨row,c2,hl,h2,e2⟩:=qu0 hX (n:=n) (by omega) h1 r hr.cols
 rw[e,qf];dsimp only
 rw[e1,qf];dsimp only
 refine ⟨r,row,hr,hl,Eq.trans (congrArg (fun z=>qg z _) e2) ?_⟩
 rw[qf]
theorem qbi5 {X:Ext} (hX:XOk X) {n:Nat} (hn:W+12≤n) (a:List Int) (ha:a.length≤1048576):∃ (r:Rel) (row:Row),InvD r∧row.length≤5∧qqo (DD X n) a=some ((r,row,()),()):=by
 obtain ⟨n,rfl⟩:∃ k,n=k+1:=⟨n - 1,by omega⟩
 rw[q9q hX]
 simp only[qqa,qy3,qtp]
 obtain ⟨c,hc,e⟩:=q1m hX (n:=n) (by omega) a ha
 obtain ⟨r,c1,hr,h1,e1⟩:=qy8 hX (n:=n) (by omega) hc
 obtain ⟨row,c2,hl,h2,e2⟩:=qu0 hX (n:=n) (by omega) h1 r hr.cols
 rw[e,qf];dsimp only
 rw[e1,qf];dsimp only
 refine ⟨r,row,hr,hl,Eq.trans (congrArg (fun z=>qg z _) e2) ?_⟩
 rw[qf]
theorem qbk6 {X:Ext} (hX:XOk X) {n:Nat} (hn:W+12≤n) (a:List Int) (ha:a.length≤1048576):∃ (r:Rel) (key:Row),InvD r∧qsa (DD X n) a=some ((r,key,()),()):=by
 obtain ⟨n,rfl⟩:∃ k,n=k+1:=⟨n - 1,by omega⟩
 have hM:=qbl
 rw[qbbd hX]
 simp only[qr4,q0s,qtp]
 obtain ⟨c,hc,e⟩:=q1m hX (n:=n) (by omega) a ha
 obtain ⟨r,c1,hr,h1,e1⟩:=qy8 hX (n:=n) (by omega) hc
 obtain ⟨row,c2,hl,h2,e2⟩:=qu0 hX (n:=n) (by omega) h1 r hr.cols
 have e3:=qea hX (n:=n) (by omega) r.1 row (by omega) hr.sch.key
 rw[e,qf];dsimp only
 rw[e1,qf];dsimp only
 refine ⟨r,qk row r.1.2.1,hr,Eq.trans (congrArg (fun z=>qg z _) e2) ?_⟩
 rw[qf]
 dsimp only
 refine Eq.trans (congrArg (fun z=>qg z _) e3) ?_
 rw[qf]
theorem qbkp {X:Ext} (hX:XOk X) {n:Nat} (hn:W+12≤n) (a:List Int) (ha:a.length≤1048576):∃ (r:Rel) (key:Row),InvD r∧qrv (DD X n) a=some ((r,key,()),()):=by
 obtain ⟨n,rfl⟩:∃ k,n=k+1:=⟨n - 1,by omega⟩
 have hM:=qbl
 rw[qba2 hX]
 simp only[qrt,q04,qtp]
 obtain ⟨c,hc,e⟩:=q1m hX (n:=n) (by omega) a ha
 obtain ⟨r,c1,hr,h1,e1⟩:=qy8 hX (n:=n) (by omega) hc
 obtain ⟨row,c2,hl,h2,e2⟩:=qu0 hX (n:=n) (by omega) h1 r hr.cols
 have e3:=qea hX (n:=n) (by omega) r.1 row (by omega) hr.sch.key
 rw[e,qf];dsimp only
 rw[e1,qf];dsimp only
 refine ⟨r,qk row r.1.2.1,hr,Eq.trans (congrArg (fun z=>qg z _) e2) ?_⟩
 rw[qf]
 dsimp only
 refine Eq.trans (congrArg (fun z=>qg z _) e3) ?_
 rw[qf]
theorem qbmx {X:Ext} (hX:XOk X) {n:Nat} (hn:W+12≤n) (a:List Int) (ha:a.length≤1048576):∃ (r:Rel),InvD r∧qts (DD X n) a=some ((r,()),()):=by
 obtain ⟨n,rfl⟩:∃ k,n=k+1:=⟨n - 1,by omega⟩
 rw[qbc2 hX]
 simp only[qte,q2w]
 obtain ⟨c,hc,e⟩:=q1m hX (n:=n) (by omega) a ha
 obtain ⟨r,c1,hr,h1,e1⟩:=qy8 hX (n:=n) (by omega) hc
 rw[e,qf];dsimp only
 rw[e1,qf]
 exact ⟨r,hr,rfl⟩
theorem qblp {X:Ext} (hX:XOk X) {n:Nat} (hn:W+12≤n) (a:List Int) (ha:a.length≤1048576):∃ (s:qz),SchSm s∧qr1 (DD X n) a=some ((s,()),()):=by
 obtain ⟨n,rfl⟩:∃ k,n=k+1:=⟨n - 1,by omega⟩
 rw[qbba hX]
 simp only[qr6,q0l]
 obtain ⟨c,hc,e⟩:=q1m hX (n:=n) (by omega) a ha
 obtain ⟨s,c1,hs,h1,e1⟩:=qbib hX (n:=n) (by omega) hc
 rw[e,qf];dsimp only
 rw[e1,qf]
 exact ⟨s,hs.sm,rfl⟩
structure Left (r:Rel) (x:Rel×Int):Prop where
 sm:RelSm x.1
 refused:x.2≠0→x.1=r
 done:x.2=0→qcs x.1=true
theorem Left.no {r:Rel} (hr:RelSm r) {k:Int} (hk:k≠0):Left r (r,k):=⟨hr,fun _=>rfl,fun h=>absurd h hk⟩
theorem qbm0 {r:Rel} (hr:RelSm r) {row:Row} (hw:row.length≤M):Left r (qc9 r row):=by
 have hM:=qbl
 unfold qc9
 split
 ·rename_i hc
  split
  ·exact .no hr (by decide)
  ·rename_i hk
   split
   ·exact .no hr (by decide)
   ·rename_i ho
    split
    ·exact .no hr (by decide)
    ·rename_i hl
     refine ⟨⟨hr.sch,?_,fun x hx=>?_⟩,fun h=>absurd rfl h,fun _=>qbox hc.1 hc.2 hk (by simpa using ho) (by omega)⟩
     ·have hle:=q3q r (qk row r.1.2.1)
      simp only[List.length_append,List.length_take,List.length_drop,List.length_cons,List.length_nil];omega
     ·simp only[List.mem_append,List.mem_singleton] at hx
      rcases hx with (hx | rfl) | hx
      ·exact hr.row x (List.mem_of_mem_take hx)
      ·exact hw
      ·exact hr.row x (List.mem_of_mem_drop hx)
 ·exact .no hr (by decide)
theorem qbmz {r:Rel} (hr:RelSm r) (key:Row):Left r (qj7 r key):=by
 have hM:=qbl
 unfold qj7
 split
 ·rename_i hc
  split
  ·rename_i j hj
   refine ⟨⟨hr.sch,?_,fun x hx=>?_⟩,fun h=>absurd rfl h,fun _=>qbow hc j⟩
   ·have:=hr.rows
    simp only[List.length_append,List.length_take,List.length_drop];omega
   ·rcases List.mem_append.1 hx with hx | hx
    ·exact hr.row x (List.mem_of_mem_take hx)
    ·exact hr.row x (List.mem_of_mem_drop hx)
  ·exact .no hr (by decide)
 ·exact .no hr (by decide)
theorem qbld {r:Rel} (hr:RelSm r) {row:Row} (hw:row.length≤M):Left r (qh6 r row):=by
 unfold qh6
 split
 ·rename_i hc
  split
  ·rename_i j hj
   split
   ·exact .no hr (by decide)
   ·rename_i ho
    refine ⟨⟨hr.sch,?_,fun x hx=>?_⟩,fun h=>absurd rfl h,fun _=>(qbl6 hc.1 hc.2 hj (by simpa using ho)).1⟩
    ·have:=hr.rows
     show (r.2.1.set j row).length≤M
     rw[List.length_set];exact this
    ·rcases List.mem_or_eq_of_mem_set hx with hx | rfl
     ·exact hr.row x hx
     ·exact hw
  ·exact .no hr (by decide)
 ·exact .no hr (by decide)
theorem qbms {s:qz} (hs:SchSm s):RelSm (qke s).1∧((qke s).2=true→qcs (qke s).1=true):=by
 unfold qke
 split
 ·rename_i h;exact ⟨q8e hs,fun _=>h⟩
 ·refine ⟨⟨⟨?_,?_,?_,?_,?_,?_⟩,?_,?_⟩,fun h=>nomatch h⟩<;>first | exact Nat.zero_le _ | (intro x hx;nomatch hx)
end Go.G

namespace Go.V
open Go
theorem El.take {h:Array Obj} {Pr:BS} {e:Ty} {mi:Mk} {xs:List e.den} {cells:List Value} {Fs:Nat→BS} (k:El h Pr e mi xs cells Fs) (n:Nat) (hn:n≤xs.length) (hl:cells.length=xs.length * e.width):El h Pr e mi (xs.take n) (cells.take (n * e.width)) Fs:=by
 refine ⟨fun i hi=>?_,k.dis⟩
 rw[List.length_take] at hi
 have hin:i<n:=by omega
 have h1:(xs.take n).getD i e.zero=xs.getD i e.zero:=by
  simp only[List.getD,List.getElem?_take]
  rw[if_pos hin]
 have h2:((cells.take (n * e.width)).drop (i * e.width)).take e.width=(cells.drop (i * e.width)).take e.width:=by
  rw[List.drop_take,List.take_take]
  congr 1
  have:(i+1) * e.width≤n * e.width:=Nat.mul_le_mul_right _ hin
  rw[Nat.succ_mul] at this
  omega
 rw[h1,h2]
 exact k.rep i (by omega)
theorem El.drop {h:Array Obj} {Pr:BS} {e:Ty} {mi:Mk} {xs:List e.den} {cells:List Value} {Fs:Nat→BS} (k:El h Pr e mi xs cells Fs) (n:Nat) (hn:n≤xs.length):El h Pr e mi (xs.drop n) (cells.drop (n * e.width)) (fun i=>Fs (n+i)):=by
 refine ⟨fun i hi=>?_,fun i j hij=>k.dis _ _ (by omega)⟩
 rw[List.length_drop] at hi
 have h1:(xs.drop n).getD i e.zero=xs.getD (n+i) e.zero:=by
  simp only[List.getD,List.getElem?_drop]
 have h2:((cells.drop (n * e.width)).drop (i * e.width)).take e.width=(cells.drop ((n+i) * e.width)).take e.width:=by
  rw[List.drop_drop,Nat.add_mul]
 rw[h1,h2]
 exact k.rep (n+i) (by omega)
def upTo (n:Nat) (Fs:Nat→BS) (i:Nat):BS:=if i<n then Fs i else Nil
theorem q12 (n:Nat) (Fs:Nat→BS) (i:Nat):Sub (upTo n Fs i) (Fs i):=by
 unfold upTo
 split
 ·exact Sub.refl _
 ·exact Sub.nil _
theorem El.upTo {h:Array Obj} {Pr:BS} {e:Ty} {mi:Mk} {xs:List e.den} {cells:List Value} {Fs:Nat→BS} (k:El h Pr e mi xs cells Fs):El h Pr e mi xs cells (upTo xs.length Fs):=by
 refine ⟨fun i hi=>?_,fun i j hij=>(k.dis i j hij).mono (q12 _ _ _) (q12 _ _ _)⟩
 have:Go.V.upTo xs.length Fs i=Fs i:=if_pos hi
 rw[this]
 exact k.rep i hi
theorem El.cut {h:Array Obj} {Pr:BS} {e:Ty} {mi:Mk} {xs:List e.den} {cells:List Value} {Fs:Nat→BS} (k:El h Pr e mi xs cells Fs) (i j:Nat) (hij:i≤j) (hj:j≤xs.length) (hl:cells.length=xs.length * e.width) :
  ∃ FF:Nat→BS,El h Pr e mi (xs.take i++xs.drop j) (cells.take (i * e.width)++cells.drop (j * e.width)) FF∧∀ a b,FF a b→∃ c,Fs c b:=by
 have k1:=(k.take i (by omega) hl).upTo
 have k2:=k.drop j hj
 have hlen:(xs.take i).length=i:=by rw[List.length_take];omega
 rw[hlen] at k1
 have hiw:i * e.width≤cells.length:=by rw[hl];exact Nat.mul_le_mul_right _ (by omega)
 have hjw:j * e.width≤cells.length:=by rw[hl];exact Nat.mul_le_mul_right _ hj
 refine ⟨_,El.append k1 k2 (by rw[List.length_take,hlen];omega) (by rw[List.length_drop,List.length_drop,hl,Nat.sub_mul]) (fun a b=>?_),?_⟩
 ·unfold Go.V.upTo
  split
  ·exact k.dis _ _ (by omega)
  ·exact Dis.nil _
 ·intro a b hb
  split at hb
  ·exact ⟨_,q12 _ _ _ b hb⟩
  ·exact ⟨_,hb⟩
theorem El.insert {h:Array Obj} {Pr:BS} {e:Ty} {mi:Mk} {xs ys:List e.den} {c1 c2:List Value} {F1 F2:Nat→BS} (k1:El h Pr e mi xs c1 F1) (k2:El h Pr e mi ys c2 F2) (i:Nat) (hi:i≤xs.length)
  (hl1:c1.length=xs.length * e.width) (hl2:c2.length=ys.length * e.width) (hd:∀ i j,Dis (F1 i) (F2 j)) :
  ∃ FF:Nat→BS,El h Pr e mi (xs.take i++ys++xs.drop i) (c1.take (i * e.width)++c2++c1.drop (i * e.width)) FF∧∀ a b,FF a b→(∃ c,F1 c b)∨∃ c,F2 c b:=by
 have a1:=(k1.take i hi hl1).upTo
 have a3:=k1.drop i hi
 have hlen:(xs.take i).length=i:=by rw[List.length_take];omega
 rw[hlen] at a1
 have hiw:i * e.width≤c1.length:=by rw[hl1];exact Nat.mul_le_mul_right _ hi
 have a12:=El.append a1 k2 (by rw[List.length_take,hlen];omega) hl2 (fun a b=>(hd a b).mono (q12 _ _ _) (Sub.refl _))
 refine ⟨_,El.append a12 a3 (by rw[List.length_append,List.length_append,List.length_take,hlen,hl2,Nat.add_mul];omega) (by rw[List.length_drop,List.length_drop,hl1,Nat.sub_mul]) (fun a b=>?_),?_⟩
 ·skip
  split
  ·unfold Go.V.upTo
   split
   ·exact k1.dis _ _ (by omega)
   ·exact Dis.nil _
  ·exact fun z h1 h2=>hd (i+b) _ z h2 h1
 ·intro a b hb
  split at hb
  ·split at hb
   ·exact .inl ⟨_,q12 _ _ _ b hb⟩
   ·exact .inr ⟨_,hb⟩
  ·exact .inl ⟨_,hb⟩
theorem qbm9 {w w2:World} {Pr:BS} {Fs:Nat→BS} {ks:List PK} {a:PDen ks} {vs:List Value} (pre:Pre w.heap Pr Fs ks a vs) {e:Ty} {mi:Mk} {zs:List e.den} {v:Value} {G:BS}
  (rep:Rep w2.heap Pr (.sl e) (.own 0 mi) zs [v] G) (hG:∀ z,G z→May w.heap.size Fs z) (hGP:Dis G Pr) (hGl:∀ z,G z→z<w2.heap.size) (hsz:w.heap.size≤w2.heap.size)
  (o:ODen ks) (out:qff w2.heap Pr (fun _=>Nil) 0 ks o vs) (fr:WFr (May w.heap.size Fs) w w2) :
  Pst w w2 Pr Fs ks [.val (.sl e) (.own 0 mi)] (zs,()) o vs v Pr (fun i=>if i=0 then G else Nil) (fun _=>Nil) [v] where
 res:=⟨v,[],rfl,⟨[v],rep,rfl⟩,rfl⟩
 val:=rfl
 out:=out
 pr:=Sub.refl _
 prL:=fun b hb=>.inl hb
 gL:=fun i b hb=>by
  split at hb
  ·exact hG b hb
  ·exact hb.elim
 oL:=fun _ _ hb=>hb.elim
 gdis:=fun i j hij=>by
  split
  ·split
   ·omega
   ·exact fun _ _ h=>h.elim
  ·exact Dis.nil _
 odis:=fun _ _ _=>Dis.nil _
 go:=fun _ _=>fun _ _ h=>h.elim
 gp:=fun i=>by
  split
  ·exact hGP
  ·exact Dis.nil _
 op:=fun _=>Dis.nil _
 glim:=fun i b hb=>by
  split at hb
  ·exact hGl b hb
  ·exact hb.elim
 olim:=fun _ _ hb=>hb.elim
 plim:=fun b hb=>Nat.lt_of_lt_of_le (pre.limPr b hb) hsz
 fr:=fr
end Go.V

namespace Go.V
set_option maxRecDepth 100000
set_option maxHeartbeats 4000000
open Go Go.Proofs Go.RowKit Go.Lib
theorem qbfv:Tryz.f88.ntmps=95:=by kernel_rfl
theorem qbng (a1:Option Addr) (n c m:Nat) (a2:Option Addr) (c2:Nat) (w w3:World) (v3:Value) (hm:0<m) (hc:n≤c) (h1:(∃ b,a1=some ⟨b,0,none⟩)∨(n=0∧c=0))
  (hr:∀ ty,(Builtin.append_ #[29,29] ty #[.slice a1 n c,.slice a2 m c2]).run Tryz.prog w=.ok v3 w3) :
  Calls Tryz.prog 88 #[.slice a1 n c,.int .i64 n,.slice a2 m c2] w fun e w'=>e=.returned v3∧w'=w3:=by
 have mx:=mixed
 have u67:Tryz.prog.underlying 29=some (.slice 32):=by kernel_rfl
 have v67:=run_underlying u67
 have hz1:¬ ((m:Int)=0):=by omega
 rcases h1 with ⟨b,rfl⟩ | ⟨rfl,rfl⟩
 ·go_enter Tryz.func88,qbfv
  go_wp2_with (at_builtin;refine Lib.wpList_append_run _ rfl _ _ _ _ rfl _ _ rfl rfl _ _ (hr _) ?_)
  all_goals (try (go_ret;exact ⟨rfl,rfl⟩))
 ·cases a1 with
  | none=>
   go_enter Tryz.func88,qbfv
   go_wp2_with (at_builtin;refine Lib.wpList_append_run _ rfl _ _ _ _ rfl _ _ rfl rfl _ _ (hr _) ?_)
   all_goals (try (go_ret;exact ⟨rfl,rfl⟩))
  | some a0=>
   go_enter Tryz.func88,qbfv
   go_wp2_with (at_builtin;refine Lib.wpList_append_run _ rfl _ _ _ _ rfl _ _ rfl rfl _ _ (hr _) ?_)
   all_goals (try (go_ret;exact ⟨rfl,rfl⟩))
end Go.V

namespace Go.V
set_option maxRecDepth 100000
set_option maxHeartbeats 4000000
open Go Go.Proofs Go.RowKit Go.Lib
theorem qbqs (b n c i m:Nat) (a2:Addr) (c2 B G:Nat) (w w1 w2 w3:World) (r2 r3:Value) (hi:i<n) (hm:0<m) (hnc:n≤c) (hroom:c<n+m) (hG:n+m≤G) (hs63:n+m≤9223372036854775807)
  (hA:∀ ty,(Builtin.append_ #[29,3] ty #[.slice (some ⟨b,0,none⟩) i c,.int .i64 ((n:Int)+(m:Int) - (i:Int))]).run Tryz.prog w=.ok (.slice (some ⟨B,0,none⟩) (n+m) G) w1)
  (hB:∀ ty,(Builtin.copy_ #[29,29] ty #[.slice (some ⟨B,i,none⟩) (n+m - i) (G - i),.slice (some a2) m c2]).run Tryz.prog w1=.ok r2 w2)
  (hC:∀ ty,(Builtin.copy_ #[29,29] ty #[.slice (some ⟨B,i+m,none⟩) (n+m - (i+m)) (G - (i+m)),.slice (some ⟨b,i,none⟩) (n - i) (c - i)]).run Tryz.prog w2.drew=.ok r3 w3) :
  Calls Tryz.prog 88 #[.slice (some ⟨b,0,none⟩) n c,.int .i64 i,.slice (some a2) m c2] w fun e w'=>e=.returned (.slice (some ⟨B,0,none⟩) (n+m) G)∧w'=w3:=by
 have mx:=mixed
 have u67:Tryz.prog.underlying 29=some (.slice 32):=by kernel_rfl
 have u3:Tryz.prog.underlying 3=some (.int .i64):=by kernel_rfl
 have v67:=run_underlying u67
 have v3:=run_underlying u3
 have s38:(Tryz.prog.info? 32).map (·.size)=some 1:=by kernel_rfl
 obtain ⟨i0,hi0⟩:∃ i0,Tryz.prog.info? 32=some i0:=by cases h:Tryz.prog.info? 32 with | none=>rw[h] at s38;cases s38 | some x=>exact ⟨x,rfl⟩
 have hs0:i0.size=1:=by rw[hi0] at s38;simpa using s38
 have hz1:¬ ((m:Int)=0):=by omega
 have hz2:¬ ((i:Int)=(n:Int)):=by omega
 have hz3:(c:Int)<(n:Int)+(m:Int):=by omega
 have hw1:IntKind.i64.wrap ((i:Int)+(m:Int))=(i:Int)+(m:Int):=by rw[IntKind.wrap_i64];omega
 have hb1:(0:Int)≤(i:Int)+(m:Int):=by omega
 have hin:i≤n:=by omega
 have htn:((i:Int)+(m:Int)).toNat=i+m:=by omega
 have hb3:(i:Int)≤(n:Int):=by omega
 have hGi:¬ (G=i):=by omega
 have hGim:¬ (G=i+m):=by omega
 have hci:¬ (c=i):=by omega
 go_enter Tryz.func88,qbfv
 go_wp2_with (first
  | (at_builtin;refine Lib.wpList_append_run _ rfl _ _ _ _ rfl _ _ rfl rfl _ _ (hA _) ?_)
  | (at_builtin;refine wpList_copy_runI _ rfl _ _ 29 29 rfl _ _ rfl rfl (hB _) ?_))
 go_region_law_o (refine step_copy_runI rfl _ _ 29 29 rfl (.slice (some ⟨B,i+m,none⟩) (n+m - (i+m)) (G - (i+m))) (.slice (some ⟨b,i,none⟩) (n - i) (c - i)) (by simp[Act.eval,Act.put]) (by simp[Act.eval,Act.put]) (hC _) ?_)
 go_wp2
 go_ret
 exact ⟨rfl,rfl⟩
theorem qbo4 (b n c i m:Nat) (a2:Addr) (c2:Nat) (w w1 w2:World) (r1 r2:Value) (hi:i<n) (hm:0<m) (hroom:n+m≤c) (hs63:n+m≤9223372036854775807)
  (hov:∀ lb cb,(callFunc 154 #[.slice (some a2) m c2,.slice (some ⟨b,i+m,none⟩) lb cb]).run Tryz.prog w=.ok (.value (.bool false)) w)
  (hB:∀ ty dc sc,(Builtin.copy_ #[29,29] ty #[.slice (some ⟨b,i+m,none⟩) (n+m - (i+m)) dc,.slice (some ⟨b,i,none⟩) (n+m - i) sc]).run Tryz.prog w.drew=.ok r1 w1)
  (hC:∀ ty dc,(Builtin.copy_ #[29,29] ty #[.slice (some ⟨b,i,none⟩) (n+m - i) dc,.slice (some a2) m c2]).run Tryz.prog w1=.ok r2 w2) :
  Calls Tryz.prog 88 #[.slice (some ⟨b,0,none⟩) n c,.int .i64 i,.slice (some a2) m c2] w fun e w'=>e=.returned (.slice (some ⟨b,0,none⟩) (n+m) c)∧w'=w2:=by
 have mx:=mixed
 have u67:Tryz.prog.underlying 29=some (.slice 32):=by kernel_rfl
 have u3:Tryz.prog.underlying 3=some (.int .i64):=by kernel_rfl
 have v67:=run_underlying u67
 have v3:=run_underlying u3
 have s38:(Tryz.prog.info? 32).map (·.size)=some 1:=by kernel_rfl
 obtain ⟨i0,hi0⟩:∃ i0,Tryz.prog.info? 32=some i0:=by cases h:Tryz.prog.info? 32 with | none=>rw[h] at s38;cases s38 | some x=>exact ⟨x,rfl⟩
 have hs0:i0.size=1:=by rw[hi0] at s38;simpa using s38
 have hz1:¬ ((m:Int)=0):=by omega
 have hz2:¬ ((i:Int)=(n:Int)):=by omega
 have hw1:IntKind.i64.wrap ((i:Int)+(m:Int))=(i:Int)+(m:Int):=by rw[IntKind.wrap_i64];omega
 have hb1:(0:Int)≤(i:Int)+(m:Int):=by omega
 have hin:i≤n:=by omega
 have htn:((i:Int)+(m:Int)).toNat=i+m:=by omega
 have hb2:¬ (c=i+m):=by omega
 have hb3:(i:Int)≤(n:Int)+(m:Int):=by omega
 have hb4:¬ (c=i):=by omega
 go_enter Tryz.func88,qbfv
 go_wp2_with (simp only[hov])
 go_region_law_o (refine step_copy_runI rfl _ _ 29 29 rfl _ _ (by simp[Act.eval,Act.put]) (by simp[Act.eval,Act.put]) (hB _ _ _) ?_)
 go_wp2_with (at_builtin;refine wpList_copy_runI _ rfl _ _ 29 29 rfl _ _ rfl rfl (hC _ _) ?_)
 go_ret
 exact ⟨rfl,rfl⟩
end Go.V

namespace Go.V
set_option maxRecDepth 100000
set_option maxHeartbeats 4000000
open Go Go.Proofs Go.RowKit Go.Lib
theorem qbty:Tryz.f95.ntmps=33:=by kernel_rfl
theorem qbcu {P:Program} {ops:Array Oper} {o:Oper} {a:Act} {w:World} {K:Act→World→Prop} {Q:Exit→Act→World→Prop} {E:Prop}
  (hg:o.guard=none) (d x:Operand) (dT sT:TypeId) (hop:o.op=Op.call { callee:=Callee.builtin Builtin.append,args:=#[d,x],argTypes:=#[dT,sT] })
  (v u:Value) (hd:a.eval d=v) (hx:a.eval x=u) {v':Value} {w':World} (hr:(Builtin.append_ #[dT,sT] o.type #[v,u]).run P w=.ok v' w') (hK:K (a.put o.dst v') w') :
  if Region.wanted o (yielded ops a.tmps)=true then Oper.wp P o a w K Q else E:=by
 have hw:Region.wanted o (yielded ops a.tmps)=true:=by simp[Region.wanted,hg]
 rw[if_pos hw]
 exact Lib.wp_append_run w d x dT sT hop v u hd hx v' w' hr hK
theorem qbqr (b n c i j:Nat) (w w1 w2:World) (r2:Value) (hij:i<j) (hj:j≤n) (hnc:n≤c) (hn63:n≤9223372036854775807)
  (hA:∀ ty a,(a=(if c=j then some (⟨b,0,none⟩:Addr) else some ⟨b,j,none⟩))→(Builtin.append_ #[29,29] ty #[.slice (some ⟨b,0,none⟩) i c,.slice a (n - j) (c - j)]).run Tryz.prog w.drew=.ok (.slice (some ⟨b,0,none⟩) (i+(n - j)) c) w1)
  (hC:∀ ty,(Builtin.clear_ #[29] ty #[.slice (some ⟨b,i+(n - j),none⟩) (n - (i+(n - j))) (c - (i+(n - j)))]).run Tryz.prog w1=.ok r2 w2) :
  Calls Tryz.prog 95 #[.slice (some ⟨b,0,none⟩) n c,.int .i64 i,.int .i64 j] w fun e w'=>e=.returned (.slice (some ⟨b,0,none⟩) (i+(n - j)) c)∧w'=w2:=by
 have mx:=mixed
 have u67:Tryz.prog.underlying 29=some (.slice 32):=by kernel_rfl
 have u3:Tryz.prog.underlying 3=some (.int .i64):=by kernel_rfl
 have v67:=run_underlying u67
 have v3:=run_underlying u3
 have s38:(Tryz.prog.info? 32).map (·.size)=some 1:=by kernel_rfl
 obtain ⟨i0,hi0⟩:∃ i0,Tryz.prog.info? 32=some i0:=by cases h:Tryz.prog.info? 32 with | none=>rw[h] at s38;cases s38 | some x=>exact ⟨x,rfl⟩
 have hs0:i0.size=1:=by rw[hi0] at s38;simpa using s38
 have hz2:¬ ((i:Int)=(j:Int)):=by omega
 have hij':i≤j:=by omega
 have hic:i≤c:=by omega
 have hjc:j≤c:=by omega
 have hin:i≤n:=by omega
 have hk1:i+(n - j)≤n:=by omega
 have hk2:i+(n - j)≤c:=by omega
 have hk3:¬ (c=i+(n - j)):=by omega
 obtain ⟨A,hAe⟩:∃ A:Option Addr,A=(if c=j then some (⟨b,0,none⟩:Addr) else some ⟨b,j,none⟩):=⟨_,rfl⟩
 go_enter Tryz.func95,qbty
 go_wp2_with fail
 go_region_law_o (refine qbcu rfl (.tmp 22) (.tmp 25) 29 29 rfl _ _ (by simp[Act.eval,Act.put]) (by simp[Act.eval,Act.put]) (hA _ _ rfl) ?_)
 all_goals (go_wp2_with (simp only[hC]))
 all_goals (try (go_ret;exact ⟨rfl,rfl⟩))
end Go.V

namespace Go.V
set_option maxRecDepth 100000
open Go Go.Proofs Go.RowKit
abbrev TVal:Ty:=.pair (.int .i64) (.pair (.int .i64) (.pair .str .unit))
abbrev TRow:Ty:=.sl TVal
abbrev SigD:Sig:=⟨[.own (.sl TRow) (Mk.top (.sl TRow)),.val (.int .i64),.val (.int .i64)],[.val (.sl TRow) (Mk.top (.sl TRow))]⟩
theorem sigD:ctx.sig 95=SigD:=by kernel_rfl
def delD (xs:List TRow.den) (i j:Int):Option (List TRow.den):=if 0≤i∧i<j∧j≤xs.length∧xs.length≤qbj then some (xs.take i.toNat++xs.drop j.toNat) else none
theorem qbtp:qbfx Tryz.prog SigD 95 fun a=>(delD a.1 a.2.1 a.2.2.1).map fun r=>((r,()),()):=by
 intro a r h w Pr Fs vs pre
 obtain ⟨xs,i,j,⟨⟩⟩:=a
 change List TRow.den at xs
 change Int at i
 change Int at j
 obtain ⟨v1,vs1,rfl,⟨c1,rep1,rfl⟩,v2,vs2,rfl,⟨c2,r2,rfl⟩,v3,vs3,rfl,⟨c3,r3,rfl⟩,k3⟩:=pre.rel
 obtain rfl:vs3=[]:=k3
 simp only[Rep] at r2 r3
 subst r2
 subst r3
 dsimp only at h
 unfold delD at h
 split at h
 ·rename_i hc
  obtain ⟨h0,hij,hj,hbd⟩:=hc
  replace hbd:xs.length≤274877906944:=hbd
  replace h0:0≤i:=h0
  replace hij:i<j:=hij
  replace hj:j≤xs.length:=hj
  simp only[Option.map_some,Option.some.injEq] at h
  subst h
  obtain ⟨i,rfl⟩:=Int.eq_ofNat_of_zero_le h0
  obtain ⟨j,rfl⟩:=Int.eq_ofNat_of_zero_le (show 0≤j by omega)
  obtain ⟨ad,cap,cells,F,rfl,hl,hlc,hsrc,el,hF,hown⟩:=qlq (by simp[Mk.top]) (by simp[Mk.top]) rep1
  rcases hown 0 _ rfl with hc0 | ⟨b,cs,rfl,hbF,hbo,hcapb,hFb,hcells⟩
  ·replace hlc:xs.length≤cap:=hlc
   omega
  ·have hw1:TRow.width=1:=rfl
   replace hlc:xs.length≤cap:=hlc
   replace hl:cells.length=xs.length:=by rw[hl,hw1,Nat.mul_one]
   replace hcapb:cap≤cs.size:=by rw[hw1,Nat.mul_one] at hcapb;exact hcapb
   replace hcells:cells=sub cs 0 xs.length:=by rw[hcells,hw1,Nat.mul_one]
   have hij2:i<j:=by omega
   have hj2:j≤xs.length:=by omega
   have u67:Tryz.prog.underlying 29=some (.slice 32):=by kernel_rfl
   have s38:(Tryz.prog.info? 32).map (·.size)=some 1:=by kernel_rfl
   obtain ⟨i0,hi0⟩:∃ i0,Tryz.prog.info? 32=some i0:=by cases h:Tryz.prog.info? 32 with | none=>rw[h] at s38;cases s38 | some x=>exact ⟨x,rfl⟩
   have hs0:i0.size=1:=by rw[hi0] at s38;simpa using s38
   have hcd:cells.drop j=sub cs j (xs.length - j):=by
    rw[hcells]
    simp only[sub,List.drop_zero,List.drop_take]
   have hdl:(cells.drop j).length=xs.length - j:=by rw[List.length_drop,hl]
   have hone:∀ u∈cells.drop j,u.oneCell'=true:=by
    intro u hu
    obtain ⟨k,hk,rfl⟩:=List.getElem_of_mem hu
    rw[hdl] at hk
    have hk2:j+k<xs.length:=by omega
    have r:=el.rep (j+k) hk2
    refine Rep.one _ r _ ?_
    rw[hw1,Nat.mul_one,List.mem_iff_getElem?]
    refine ⟨0,?_⟩
    rw[List.getElem?_take,if_pos (by omega),List.getElem?_drop,Nat.add_zero,List.getElem_drop,List.getElem?_eq_getElem]
   have hA:∀ ty a,(a=(if cap=j then some (⟨b,0,none⟩:Addr) else some ⟨b,j,none⟩))→(Builtin.append_ #[29,29] ty #[.slice (some ⟨b,0,none⟩) i cap,.slice a (xs.length - j) (cap - j)]).run Tryz.prog w.drew=.ok (.slice (some ⟨b,0,none⟩) (i+(xs.length - j)) cap) (w.drew.setCells b i (cells.drop j)):=by
    intro ty a ha
    refine qkf (P:=Tryz.prog) w.drew (ty:=ty) rfl rfl u67 u67 hi0 (news:=cells.drop j) ?_ (by omega) (fun ad e=>?_) (fun e=>by simp at e)
    ·rw[hs0]
     refine qf5 (by rw[hdl,Nat.mul_one]) ?_
     by_cases h0:xs.length - j=0
     ·exact .inl ⟨h0,List.length_eq_zero_iff.1 (by rw[hdl,h0])⟩
     ·refine .inr ⟨b,j,by rw[ha,if_neg (by omega)],?_⟩
      rw[hcd]
      exact qc6 (qbt hbo.blk (by omega))
    ·simp only[Option.some.injEq] at e
     subst e
     rw[Addr.add_mid,Nat.zero_add,hs0,Nat.mul_one]
     have th:=qec (w:=w) (o:=i) (n:=(cells.drop j).length) hbo (by rw[hdl];omega)
     have:=run_storeCells_cells (P:=Tryz.prog) b i (cells.drop j) 0 w.drew (fun t ht=>by simpa using (th t ht).1) (fun t ht=>by simpa using (th t ht).2) hone
     simpa using this
   obtain ⟨ty,lo,hi,he,hfz⟩:=hbo
   have hfit:i+(cells.drop j).length≤cs.size:=by rw[hdl];omega
   obtain ⟨cs1,hcs1,hcs1l⟩:=qda (cells.drop j) i w.drew cs he hfit
   have hsz1:cs1.size=cs.size:=by rw[←Array.length_toList,hcs1l,qcf (by simpa using hfit),Array.length_toList]
   have hob1:qbf (w.drew.setCells b i (cells.drop j)).heap b cs1:=⟨ty,lo,hi,hcs1,fun t ht=>hfz t (by omega)⟩
   let zs:List Value:=List.replicate (xs.length - (i+(xs.length - j))) (.slice none 0 0)
   have hzl:zs.length=xs.length - (i+(xs.length - j)):=List.length_replicate
   have hfit2:i+(xs.length - j)+zs.length≤cs1.size:=by rw[hzl];omega
   have th1:=qec (w:=w.drew.setCells b i (cells.drop j)) (o:=i+(xs.length - j)) (n:=zs.length) hob1 hfit2
   have hC:∀ ty,(Builtin.clear_ #[29] ty #[.slice (some ⟨b,i+(xs.length - j),none⟩) (xs.length - (i+(xs.length - j))) (cap - (i+(xs.length - j)))]).run Tryz.prog (w.drew.setCells b i (cells.drop j))=.ok (.tuple #[]) ((w.drew.setCells b i (cells.drop j)).setCells b (i+(xs.length - j)) zs):=fun ty=>
    Lib.run_clear_slice _ 29 32 ty (.slice none 0 0) u67 (fun w=>by kernel_rfl) rfl rfl b _ _ _ (by omega) (fun t ht=>(th1 t (by rw[hzl];exact ht)).1) (fun t ht=>(th1 t (by rw[hzl];exact ht)).2)
   obtain ⟨cs2,hcs2,hcs2l⟩:=qda zs (i+(xs.length - j)) _ cs1 hcs1 hfit2
   have hsz2:cs2.size=cs1.size:=by rw[←Array.length_toList,hcs2l,qcf (by simpa using hfit2),Array.length_toList]
   have hob2:qbf ((w.drew.setCells b i (cells.drop j)).setCells b (i+(xs.length - j)) zs).heap b cs2:=⟨ty,lo,hi,hcs2,fun t ht=>hfz t (by omega)⟩
   have hother:∀ b',b'≠b→((w.drew.setCells b i (cells.drop j)).setCells b (i+(xs.length - j)) zs).heap[b']? = w.heap[b']?:=fun b' hb'=>(qbg zs _ _ b' hb').trans (qbg (cells.drop j) _ w.drew b' hb')
   have hPb:¬ Pr b:=fun hb=>pre.prot 0 b hbF hb
   obtain ⟨FF,elc,hFF⟩:=el.cut i j (by omega) hj2 (by rw[hw1,Nat.mul_one];exact hl)
   have hFFb:∀ a,¬ FF a b:=fun a hb=>by obtain ⟨c,hc⟩:=hFF a b hb;exact hFb c hc
   have el2:=elc.mono (h':=((w.drew.setCells b i (cells.drop j)).setCells b (i+(xs.length - j)) zs).heap) (Sub.refl _) (fun b' hb'=>hother b' (fun e0=>hPb (e0 ▸ hb'))) (fun a b' hb'=>hother b' (fun e0=>hFFb a (e0 ▸ hb')))
   have hlen:(xs.take i++xs.drop j).length=i+(xs.length - j):=by rw[List.length_append,List.length_take,List.length_drop];omega
   have htake:cs2.toList.take (i+(xs.length - j))=cells.take (i * TRow.width)++cells.drop (j * TRow.width):=by
    have h7:cs.toList.length=cs.size:=Array.length_toList
    rw[hcs2l,hw1,Nat.mul_one,Nat.mul_one]
    have e1:cs1.toList.take (i+(xs.length - j))=cells.take i++cells.drop j:=by
     rw[hcs1l]
     simp only[repl]
     rw[List.take_append_of_le_length (by rw[List.length_append,List.length_take,hdl];omega),List.take_of_length_le (by rw[List.length_append,List.length_take,hdl];omega)]
     congr 1
     rw[hcells]
     simp only[sub,List.drop_zero,List.take_take]
     congr 1;omega
    rw[←e1]
    simp only[repl]
    have h8:cs1.toList.length=cs1.size:=Array.length_toList
    rw[List.append_assoc,List.take_append_of_le_length (by rw[List.length_take];omega),List.take_take,Nat.min_self]
   have rep2:=el2.row hob2 (cap:=cap) (by rw[hw1,Nat.mul_one];omega) (by rw[hlen];omega) (fun t ht=>qow htake (by rw[hw1,Nat.mul_one];rw[hlen] at ht;omega)) hFFb 0
   rw[hlen] at rep2
   have hrest1:=qce (b:=b) (cells.drop j) i w.drew
   have hrest2:=qce (b:=b) zs (i+(xs.length - j)) (w.drew.setCells b i (cells.drop j))
   have hsize:((w.drew.setCells b i (cells.drop j)).setCells b (i+(xs.length - j)) zs).heap.size=w.heap.size:=by rw[q7,q7];rfl
   have hGF:∀ z,(z=b∨∃ t,FF t z)→Fs 0 z:=by
    rintro z (rfl | ⟨t,ht⟩)
    ·exact hbF
    ·obtain ⟨c,hc⟩:=hFF t z ht;exact hF c z hc
   refine (qbqr b xs.length cap i j w _ _ _ hij2 hj2 hlc (by omega) hA hC).mono ?_
   rintro e w' ⟨rfl,rfl⟩
   exact ⟨_,Pr,_,_,_,rfl,qbm9 pre rep2 (fun z hz=>.inr ⟨0,hGF z hz⟩) (fun z hz hp=>pre.prot 0 z (hGF z hz) hp) (fun z hz=>by rw[hsize];exact pre.lim 0 z (hGF z hz)) (by rw[hsize];exact Nat.le_refl _) () ⟨_,_,rfl,_,_,rfl,_,_,rfl,rfl⟩
    ⟨hrest2.1.trans hrest1.1,hrest2.2.1.trans hrest1.2.1,hrest2.2.2.trans hrest1.2.2,by rw[hsize];exact Nat.le_refl _,fun b' _ hb'=>hother b' (fun e0=>hb' (e0 ▸ .inr ⟨0,hbF⟩))⟩⟩
 ·simp at h
end Go.V

namespace Go.V
set_option maxRecDepth 100000
open Go Go.Proofs Go.RowKit
abbrev SigI:Sig:=⟨[.own (.sl TRow) (Mk.top (.sl TRow)),.val (.int .i64),.own (.sl TRow) (Mk.top (.sl TRow))],[.val (.sl TRow) (Mk.top (.sl TRow))]⟩
theorem sigI:ctx.sig 88=SigI:=by kernel_rfl
def insD (xs:List TRow.den) (i:Int) (ys:List TRow.den):Option (List TRow.den):=if 0≤i∧i≤xs.length∧0<ys.length∧xs.length+ys.length≤qbj then some (xs.take i.toNat++ys++xs.drop i.toNat) else none
theorem quf {w w2:World} {Pr:BS} {Fs:Nat→BS} {ks:List PK} {a:PDen ks} {vs:List Value} (pre:Pre w.heap Pr Fs ks a vs) {e:Ty} {mi:Mk} {zs:List e.den} {cells:List Value} {FF:Nat→BS} {B cap:Nat} {cs:Array Value}
  (el:El w.heap Pr e mi zs cells FF) (hFF:∀ t b,FF t b→∃ k,Fs k b) (hob:qbf w2.heap B cs) (hcap:cap * e.width≤cs.size) (hl:zs.length≤cap) (htake:cs.toList.take (zs.length * e.width)=cells)
  (hB:B=w.heap.size∨(∃ k,Fs k B)) (hFB:∀ t,¬ FF t B) (hother:∀ b',b'<w.heap.size→b'≠B→w2.heap[b']? = w.heap[b']?) (hsz:w.heap.size≤w2.heap.size) (hBl:B<w2.heap.size)
  (h1:w2.os=w.os) (h2:w2.tape=w.tape) (h3:w2.output=w.output) (o:ODen ks) (out:qff w2.heap Pr (fun _=>Nil) 0 ks o vs) :
  ∃ val Pr' Gs Os us,(Value.slice (some ⟨B,0,none⟩) zs.length cap)=val∧Pst w w2 Pr Fs ks [.val (.sl e) (.own 0 mi)] (zs,()) o vs val Pr' Gs Os us:=by
 have hFl:∀ t b,FF t b→b<w.heap.size:=fun t b hb=>by obtain ⟨k,hk⟩:=hFF t b hb;exact pre.lim k b hk
 have hPB:¬ Pr B:=fun hb=>by
  rcases hB with rfl | ⟨k,hk⟩
  ·exact Nat.lt_irrefl _ (pre.limPr _ hb)
  ·exact pre.prot k B hk hb
 have el2:=el.mono (h':=w2.heap) (Sub.refl _) (fun b' hb'=>hother b' (pre.limPr b' hb') (fun e0=>hPB (e0 ▸ hb'))) (fun t b' hb'=>hother b' (hFl t b' hb') (fun e0=>hFB t (e0 ▸ hb')))
 have rep:=el2.row hob (cap:=cap) hcap hl (fun t ht=>qow htake (by
  have:=Nat.mul_le_mul_right e.width (show t+1≤zs.length by exact ht)
  rw[Nat.succ_mul] at this;exact this)) hFB 0
 have hG:∀ z,(z=B∨∃ t,FF t z)→May w.heap.size Fs z:=by
  rintro z (rfl | ⟨t,ht⟩)
  ·rcases hB with e0 | hk
   ·exact .inl (by omega)
   ·exact .inr hk
  ·exact .inr (hFF t z ht)
 refine ⟨_,Pr,_,_,_,rfl,qbm9 pre rep hG (fun z hz hp=>?_) (fun z hz=>?_) hsz o out ⟨h1,h2,h3,hsz,fun b' hb1 hb'=>hother b' hb1 (fun e0=>hb' ?_)⟩⟩
 ·rcases hz with rfl | ⟨t,ht⟩
  ·exact hPB hp
  ·obtain ⟨k,hk⟩:=hFF t z ht;exact pre.prot k z hk hp
 ·rcases hz with rfl | ⟨t,ht⟩
  ·exact hBl
  ·exact Nat.lt_of_lt_of_le (hFl t z ht) hsz
 ·subst e0
  exact hG b' (.inl rfl)
theorem El.one {h:Array Obj} {Pr:BS} {mi:Mk} {xs:List TRow.den} {cells:List Value} {F:Nat→BS} (el:El h Pr TRow mi xs cells F) (hl:cells.length=xs.length):∀ u∈cells,u.oneCell'=true:=by
 intro u hu
 obtain ⟨k,hk,rfl⟩:=List.getElem_of_mem hu
 have hk2:k<xs.length:=by omega
 have r:=el.rep k hk2
 have hw1:TRow.width=1:=rfl
 refine Rep.one _ r _ ?_
 rw[hw1,Nat.mul_one,List.mem_iff_getElem?]
 refine ⟨0,?_⟩
 rw[List.getElem?_take,if_pos (by omega),List.getElem?_drop,Nat.add_zero,List.getElem?_eq_getElem]
theorem qbrz {l D C:List Value} {i m:Nat} (hC:C.length=m) (hl:i+m+D.length≤l.length):(repl (repl l (i+m) D) i C).take (i+m+D.length)=l.take i++C++D:=by
 have hA:(l.take (i+m)).length=i+m:=by rw[List.length_take];omega
 have e1:(repl l (i+m) D).take i=l.take i:=by
  simp only[repl]
  rw[List.append_assoc,List.take_append_of_le_length (by omega),List.take_take]
  congr 1;omega
 have e2:(repl l (i+m) D).drop (i+m)=D++l.drop (i+m+D.length):=by
  simp only[repl]
  rw[List.append_assoc,List.drop_append_of_le_length (by omega),List.drop_eq_nil_of_le (by omega),List.nil_append]
 have e3:repl (repl l (i+m) D) i C=(l.take i++C++D)++l.drop (i+m+D.length):=by
  show (repl l (i+m) D).take i++C++(repl l (i+m) D).drop (i+C.length)=_
  rw[e1,hC,e2];simp only[List.append_assoc]
 rw[e3,List.take_append_of_le_length (by simp only[List.length_append,List.length_take];omega),List.take_of_length_le (by simp only[List.length_append,List.length_take];omega)]
theorem qbr5 {l D C:List Value} {i m:Nat} (hC:C.length=m) (hl:i+m+D.length≤l.length):(repl (repl l i C) (i+m) D).take (i+m+D.length)=l.take i++C++D:=by
 have hA:(l.take i++C).length=i+m:=by rw[List.length_append,List.length_take];omega
 have e1:(repl l i C).take (i+m)=l.take i++C:=by
  show (l.take i++C++l.drop (i+C.length)).take (i+m)=_
  rw[List.take_append_of_le_length (by omega),List.take_of_length_le (by omega)]
 show ((repl l i C).take (i+m)++D++(repl l i C).drop (i+m+D.length)).take (i+m+D.length)=_
 rw[e1,List.take_append_of_le_length (by rw[List.length_append];omega),List.take_of_length_le (by rw[List.length_append];omega)]
theorem qbti:qbfx Tryz.prog SigI 88 fun a=>(insD a.1 a.2.1 a.2.2.1).map fun r=>((r,()),()):=by
 intro a r h w Pr Fs vs pre
 obtain ⟨xs,i,ys,⟨⟩⟩:=a
 change List TRow.den at xs
 change Int at i
 change List TRow.den at ys
 obtain ⟨v1,vs1,rfl,⟨c1,rep1,rfl⟩,v2,vs2,rfl,⟨c2,r2,rfl⟩,v3,vs3,rfl,⟨c3,rep3,rfl⟩,k3⟩:=pre.rel
 obtain rfl:vs3=[]:=k3
 simp only[Rep] at r2
 subst r2
 dsimp only at h
 unfold insD at h
 split at h
 ·rename_i hc
  obtain ⟨h0,hi,hm,hbd⟩:=hc
  replace h0:0≤i:=h0
  replace hi:i≤xs.length:=hi
  replace hm:0<ys.length:=hm
  replace hbd:xs.length+ys.length≤274877906944:=hbd
  simp only[Option.map_some,Option.some.injEq] at h
  subst h
  obtain ⟨i,rfl⟩:=Int.eq_ofNat_of_zero_le h0
  have hi2:i≤xs.length:=by omega
  obtain ⟨ad1,cap1,cells1,F1,rfl,hl1,hlc1,hsrc1,el1,hF1,hown1⟩:=qlq (by simp[Mk.top]) (by simp[Mk.top]) rep1
  obtain ⟨ad2,cap2,cells2,F2,rfl,hl2,hlc2,hsrc2,el2,hF2,hown2⟩:=qlq (by simp[Mk.top]) (by simp[Mk.top]) rep3
  have hw1:TRow.width=1:=rfl
  replace hlc1:xs.length≤cap1:=hlc1
  replace hlc2:ys.length≤cap2:=hlc2
  have hl1':cells1.length=xs.length:=by rw[hl1,hw1,Nat.mul_one]
  have hl2':cells2.length=ys.length:=by rw[hl2,hw1,Nat.mul_one]
  rcases hown2 0 _ rfl with hc0 | ⟨b2,cs2,rfl,hbF2,hbo2,hcapb2,hFb2,hcells2⟩
  ·exact absurd hc0 (by omega)
  replace hcapb2:cap2≤cs2.size:=by rw[hw1,Nat.mul_one] at hcapb2;exact hcapb2
  replace hcells2:cells2=sub cs2 0 ys.length:=by rw[hcells2,hw1,Nat.mul_one]
  have hd12:∀ p q,Dis (F1 p) (F2 q):=fun p q=>(pre.dis 0 2 (by decide)).mono (hF1 p) (hF2 q)
  obtain ⟨FF,elz,hFF⟩:=El.insert el1 el2 i hi2 (by rw[hl1]) (by rw[hl2]) hd12
  rw[hw1,Nat.mul_one] at elz
  have hFs:∀ t b,FF t b→∃ k,Fs k b:=fun t b hb=>by
   rcases hFF t b hb with ⟨c,hc⟩ | ⟨c,hc⟩
   ·exact ⟨0,hF1 c b hc⟩
   ·exact ⟨2,hF2 c b hc⟩
  have hlz:(xs.take i++ys++xs.drop i).length=xs.length+ys.length:=by simp only[List.length_append,List.length_take,List.length_drop];omega
  have hone1:=el1.one hl1'
  have hone2:=el2.one hl2'
  have u67:Tryz.prog.underlying 29=some (.slice 32):=by kernel_rfl
  have u3:Tryz.prog.underlying 3=some (.int .i64):=by kernel_rfl
  obtain ⟨i0,hi0,hs0,hz0,hb0⟩:∃ i0,Tryz.prog.info? 32=some i0∧i0.size=1∧i0.zero=some (.slice none 0 0)∧i0.bytes=24:=by
   have k:((Tryz.prog.info? 32).map fun x=>(x.size,x.zero,x.bytes))=some (1,some (.slice none 0 0),24):=by kernel_rfl
   cases h:Tryz.prog.info? 32 with
   | none=>rw[h] at k;cases k
   | some x=>
    rw[h] at k
    simp only[Option.map_some,Option.some.injEq,Prod.mk.injEq] at k
    exact ⟨x,rfl,k.1,k.2.1,k.2.2⟩
  have hn2:(Builtin.firstCells i0.size ys.length (.slice (some ⟨b2,0,none⟩) ys.length cap2)).run Tryz.prog w=.ok cells2.toArray w:=by
   rw[hs0]
   exact qf5 (by rw[hl2',Nat.mul_one]) (.inr ⟨b2,0,rfl,by rw[hcells2];exact qbt hbo2.blk (by omega)⟩)
  have ht0:cells1.take xs.length=cells1:=List.take_of_length_le (by omega)
  have hd0:cells1.drop xs.length=[]:=List.drop_eq_nil_of_le (by omega)
  have houts:∀ (h:Array Obj) (v1 v2 v3:Value),qff h Pr (fun _=>Nil) 0 SigI.params () [v1,v2,v3]:=fun h v1 v2 v3=>⟨_,_,rfl,_,_,rfl,_,_,rfl,rfl⟩
  by_cases hend:i=xs.length
  ·subst hend
   rw[ht0,hd0,List.append_nil] at elz
   by_cases hroom:xs.length+ys.length≤cap1
   ·rcases hown1 0 _ rfl with hc0 | ⟨b1,cs1,rfl,hbF1,hbo1,hcapb1,hFb1,hcells1⟩
    ·exact absurd hc0 (by omega)
    replace hcapb1:cap1≤cs1.size:=by rw[hw1,Nat.mul_one] at hcapb1;exact hcapb1
    replace hcells1:cells1=sub cs1 0 xs.length:=by rw[hcells1,hw1,Nat.mul_one]
    have hfit:xs.length+cells2.length≤cs1.size:=by omega
    have hr:∀ ty,(Builtin.append_ #[29,29] ty #[.slice (some ⟨b1,0,none⟩) xs.length cap1,.slice (some ⟨b2,0,none⟩) ys.length cap2]).run Tryz.prog w=.ok (.slice (some ⟨b1,0,none⟩) (xs.length+ys.length) cap1) (w.setCells b1 xs.length cells2):=fun ty=>
     qkf (P:=Tryz.prog) w (ty:=ty) rfl rfl u67 u67 hi0 hn2 hroom (fun ad e=>by
      simp only[Option.some.injEq] at e
      subst e
      rw[Addr.add_mid,Nat.zero_add,hs0,Nat.mul_one]
      have th:=qec (w:=w) (o:=xs.length) (n:=cells2.length) hbo1 hfit
      have:=run_storeCells_cells (P:=Tryz.prog) b1 xs.length cells2 0 w (fun t ht=>by simpa using (th t ht).1) (fun t ht=>by simpa using (th t ht).2) hone2
      simpa using this) (fun e=>by simp at e)
    obtain ⟨ty,lo,hi',he,hfz⟩:=hbo1
    obtain ⟨cs3,hcs3,hcs3l⟩:=qda cells2 xs.length w cs1 he hfit
    have hsz3:cs3.size=cs1.size:=by rw[←Array.length_toList,hcs3l,qcf (by simpa using hfit),Array.length_toList]
    have hob3:qbf (w.setCells b1 xs.length cells2).heap b1 cs3:=⟨ty,lo,hi',hcs3,fun t ht=>hfz t (by omega)⟩
    have h7:cs1.toList.length=cs1.size:=Array.length_toList
    have htake:cs3.toList.take ((xs.take xs.length++ys++xs.drop xs.length).length * TRow.width)=cells1++cells2:=by
     rw[hw1,Nat.mul_one,hlz,hcs3l,hcells1]
     simp only[repl,sub,List.drop_zero]
     rw[List.take_append_of_le_length (by rw[List.length_append,List.length_take,hl2'];omega),List.take_of_length_le (by rw[List.length_append,List.length_take,hl2'];omega)]
    have hrest:=qce (b:=b1) cells2 xs.length w
    have hFBb:∀ t,¬ FF t b1:=fun t hb=>by
     rcases hFF t b1 hb with ⟨c,hc⟩ | ⟨c,hc⟩
     ·exact hFb1 c hc
     ·exact pre.dis 0 2 (by decide) b1 hbF1 (hF2 c b1 hc)
    refine (qbng (some ⟨b1,0,none⟩) xs.length cap1 ys.length (some ⟨b2,0,none⟩) cap2 w _ _ hm hlc1 (.inl ⟨b1,rfl⟩) hr).mono ?_
    rintro e w' ⟨rfl,rfl⟩
    obtain ⟨val,Pr',Gs,Os,us,hv,hp⟩:=quf pre elz hFs hob3 (cap:=cap1) (by rw[hw1,Nat.mul_one];omega) (by rw[hlz];exact hroom) htake (.inr ⟨0,hbF1⟩) hFBb (fun b' _ hb'=>qbg cells2 _ w b' hb') (by rw[q7];exact Nat.le_refl _) (by rw[q7];exact pre.lim 0 b1 hbF1) hrest.1 hrest.2.1 hrest.2.2 () (houts _ _ _ _)
    exact ⟨val,Pr',Gs,Os,us,by rw[←hv,hlz],hp⟩
   ·have hg:cap1<xs.length+ys.length:=by omega
    have hn2d:(Builtin.firstCells i0.size ys.length (.slice (some ⟨b2,0,none⟩) ys.length cap2)).run Tryz.prog w.drew=.ok cells2.toArray w.drew:=by
     rw[hs0]
     exact qf5 (by rw[hl2',Nat.mul_one]) (.inr ⟨b2,0,rfl,qc6 (by rw[hcells2];exact qbt hbo2.blk (by omega))⟩)
    have hn1d:(Builtin.firstCells i0.size xs.length (.slice ad1 xs.length cap1)).run Tryz.prog w.drew=.ok cells1.toArray w.drew:=by
     rw[hs0]
     refine qf5 (by rw[hl1',Nat.mul_one]) ?_
     rcases hsrc1 with ⟨h1,h2⟩ | ⟨b,o,cs,h1,h2,h3,h4⟩
     ·exact .inl ⟨h1,h2⟩
     ·exact .inr ⟨b,o,h1,qc6 (h4 ▸ qbt h2 h3)⟩
    have hfit:Builtin.nextslicecap (xs.length+ys.length) cap1 * i0.bytes≤281474976710656:=by
     have:=Room.nextslicecap_le' (need:=xs.length+ys.length) (old:=cap1) hg
     rw[hb0];omega
    have hr:=fun ty=>qut (P:=Tryz.prog) w (ats:=#[29,29]) (ty:=ty) rfl rfl u67 u67 hi0 hz0 hn2d hn1d hg (by omega) hfit
    have hge:=grownCap_ge w (xs.length+ys.length) cap1 32
    generalize grownCap w (xs.length+ys.length) cap1 32=cap' at hr hge
    have hzs:(Value.slice none 0 0).cells.size=1:=rfl
    have hcss:(cells1.toArray++cells2.toArray++Builtin.zeroCells (Value.slice none 0 0).cells (cap' - (xs.length+ys.length))).size=cap':=by
     simp only[Array.size_append,List.size_toArray,size_zeroCells,hzs,hl1',hl2'];omega
    have htk:(cells1.toArray++cells2.toArray++Builtin.zeroCells (Value.slice none 0 0).cells (cap' - (xs.length+ys.length))).toList.take (xs.length+ys.length)=cells1++cells2:=by
     simp only[Array.toList_append,List.append_assoc]
     rw[←List.append_assoc,List.take_append_of_le_length (by rw[List.length_append];omega),List.take_of_length_le (by rw[List.length_append];omega)]
    generalize cells1.toArray++cells2.toArray++Builtin.zeroCells (Value.slice none 0 0).cells (cap' - (xs.length+ys.length))=cs at hr hcss htk
    have h1a:(∃ b,ad1=some ⟨b,0,none⟩)∨(xs.length=0∧cap1=0):=by
     rcases hown1 0 _ rfl with hc0 | ⟨b1,cs1,rfl,_⟩
     ·exact .inr ⟨by omega,hc0⟩
     ·exact .inl ⟨b1,rfl⟩
    refine (qbng ad1 xs.length cap1 ys.length (some ⟨b2,0,none⟩) cap2 w _ _ hm hlc1 h1a hr).mono ?_
    rintro e w' ⟨rfl,rfl⟩
    obtain ⟨val,Pr',Gs,Os,us,hv,hp⟩:=quf (w2:=w.drew.alloc (.cells cs 32)) pre elz hFs (B:=w.heap.size) (cs:=cs) qbf.new (cap:=cap') (by rw[hw1,Nat.mul_one,hcss];exact Nat.le_refl _) (by rw[hlz];exact hge) (by rw[hw1,Nat.mul_one,hlz];exact htk) (.inl rfl)
     (fun t hb=>by obtain ⟨k,hk⟩:=hFs t _ hb;exact Nat.lt_irrefl _ (pre.lim k _ hk)) (fun b' hb1 _=>qgs b' hb1) (by show w.heap.size≤(w.heap.push _).size;simp) (by show w.heap.size<(w.heap.push _).size;simp) rfl rfl rfl () (houts _ _ _ _)
    exact ⟨val,Pr',Gs,Os,us,by rw[←hv,hlz],hp⟩
  ·have hlt:i<xs.length:=by omega
   rcases hown1 0 _ rfl with hc0 | ⟨b1,cs1,rfl,hbF1,hbo1,hcapb1,hFb1,hcells1⟩
   ·exact absurd hc0 (by omega)
   replace hcapb1:cap1≤cs1.size:=by rw[hw1,Nat.mul_one] at hcapb1;exact hcapb1
   replace hcells1:cells1=sub cs1 0 xs.length:=by rw[hcells1,hw1,Nat.mul_one]
   have hb12:b2≠b1:=fun e=>pre.dis 0 2 (by decide) b1 hbF1 (e ▸ hbF2)
   have hcd:cells1.drop i=sub cs1 i (xs.length - i):=by
    rw[hcells1]
    simp only[sub,List.drop_zero,List.drop_take]
   have hct:cells1.take i=cs1.toList.take i:=by
    rw[hcells1]
    simp only[sub,List.drop_zero,List.take_take]
    congr 1;omega
   have hdl:(cells1.drop i).length=xs.length - i:=by rw[List.length_drop,hl1']
   have honed:∀ u∈cells1.drop i,u.oneCell'=true:=fun u hu=>hone1 u (List.mem_of_mem_drop hu)
   have hFBb:∀ t,¬ FF t b1:=fun t hb=>by
    rcases hFF t b1 hb with ⟨c,hc⟩ | ⟨c,hc⟩
    ·exact hFb1 c hc
    ·exact pre.dis 0 2 (by decide) b1 hbF1 (hF2 c b1 hc)
   have hsz38:(Tryz.prog.info? 32).map (·.size)=some 1:=by rw[hi0];simp[hs0]
   have hel:cells1.take i++cells2++cells1.drop i=(cells1.take i++cells2++cells1.drop i):=rfl
   by_cases hroom:xs.length+ys.length≤cap1
   ·have hov:∀ lb cb,(callFunc 154 #[.slice (some ⟨b2,0,none⟩) ys.length cap2,.slice (some ⟨b1,i+ys.length,none⟩) lb cb]).run Tryz.prog w=.ok (.value (.bool false)) w:=by
     intro lb cb
     obtain ⟨e2,lo2,hi2,he2,hf2⟩:=hbo2
     obtain ⟨e1,lo1,hi1,he1,hf1⟩:=hbo1
     have hnf:∀ k,k≤cs2.size→w.frozen? ⟨b2,k,none⟩=false:=fun k hk=>by
      have:=hf2 k hk
      simp only[World.frozen?,he2]
      simpa using this
     rw[run_callFunc_extern (P:=Tryz.prog) (f:=154) (fn:=Tryz.f154) Tryz.func154 (by kernel_rfl) (by kernel_rfl) (by kernel_rfl) (e:=Extern.SlicesOverlaps.overlaps #[29,29] #[4]) (by kernel_rfl),
      Lib.run_overlaps_apart w 29 4 32 u67 1 (fun w=>by simp[sizeOf,typeInfo,hi0,hs0]) ⟨b2,0,none⟩ ⟨b1,i+ys.length,none⟩ ys.length cap2 lb cb hb12 e2 e1 cs2.size cs1.size (by simp[World.shape?,he2]) (by simp[World.shape?,he1]) (by omega) (hnf 0 (by omega)) (hnf _ (Nat.le_refl _))]
     rfl
    have hfitA:i+ys.length+(cells1.drop i).length≤cs1.size:=by rw[hdl];omega
    have thA:=qec (w:=w) (o:=i+ys.length) (n:=(cells1.drop i).length) hbo1 hfitA
    have hB:∀ ty dc sc,(Builtin.copy_ #[29,29] ty #[.slice (some ⟨b1,i+ys.length,none⟩) (xs.length+ys.length - (i+ys.length)) dc,.slice (some ⟨b1,i,none⟩) (xs.length+ys.length - i) sc]).run Tryz.prog w.drew=.ok (goInt (cells1.drop i).length) (w.drew.setCells b1 (i+ys.length) (cells1.drop i)):=fun ty dc sc=>
     run_copy_cells w.drew 29 29 ty 32 b1 (i+ys.length) _ dc ⟨b1,i,none⟩ _ sc (cells1.drop i) u67 hsz38 (by rw[hdl];simp only[Nat.min_def];split<;>omega)
      (fun k v hk=>by rw[Addr.add_mid];exact qc6 (w:=w) (b:=b1) (o:=i) (cs:=cells1.drop i) (by rw[hcd];exact qbt hbo1.blk (by omega)) k v hk) (fun k hk=>(thA k hk).1) (fun k hk=>(thA k hk).2) honed
    have hbo1':=hbo1
    obtain ⟨ty,lo,hi',he,hfz⟩:=hbo1
    obtain ⟨cs3,hcs3,hcs3l⟩:=qda (cells1.drop i) (i+ys.length) w.drew cs1 he hfitA
    have hsz3:cs3.size=cs1.size:=by rw[←Array.length_toList,hcs3l,qcf (by simpa using hfitA),Array.length_toList]
    have hob3:qbf (w.drew.setCells b1 (i+ys.length) (cells1.drop i)).heap b1 cs3:=⟨ty,lo,hi',hcs3,fun t ht=>hfz t (by omega)⟩
    have hfitB:i+cells2.length≤cs3.size:=by omega
    have thB:=qec (w:=w.drew.setCells b1 (i+ys.length) (cells1.drop i)) (o:=i) (n:=cells2.length) hob3 hfitB
    have hr2:(w.drew.setCells b1 (i+ys.length) (cells1.drop i)).rangeAt b2 0 cells2:=by
     rw[hcells2]
     exact qbt (Blk.congr hbo2.blk (qbg (cells1.drop i) _ w.drew b2 hb12)) (by omega)
    have hC:∀ ty dc,(Builtin.copy_ #[29,29] ty #[.slice (some ⟨b1,i,none⟩) (xs.length+ys.length - i) dc,.slice (some ⟨b2,0,none⟩) ys.length cap2]).run Tryz.prog (w.drew.setCells b1 (i+ys.length) (cells1.drop i))=.ok (goInt cells2.length) ((w.drew.setCells b1 (i+ys.length) (cells1.drop i)).setCells b1 i cells2):=fun ty dc=>
     run_copy_cells _ 29 29 ty 32 b1 i _ dc ⟨b2,0,none⟩ _ cap2 cells2 u67 hsz38 (by rw[hl2'];simp only[Nat.min_def];split<;>omega)
      (fun k v hk=>by rw[Addr.add_mid];exact hr2 k v hk) (fun k hk=>(thB k hk).1) (fun k hk=>(thB k hk).2) hone2
    obtain ⟨cs4,hcs4,hcs4l⟩:=qda cells2 i _ cs3 hcs3 hfitB
    have hsz4:cs4.size=cs3.size:=by rw[←Array.length_toList,hcs4l,qcf (by simpa using hfitB),Array.length_toList]
    have hob4:qbf ((w.drew.setCells b1 (i+ys.length) (cells1.drop i)).setCells b1 i cells2).heap b1 cs4:=⟨ty,lo,hi',hcs4,fun t ht=>hfz t (by omega)⟩
    have h7:cs1.toList.length=cs1.size:=Array.length_toList
    have htake:cs4.toList.take ((xs.take i++ys++xs.drop i).length * TRow.width)=cells1.take i++cells2++cells1.drop i:=by
     have e:=qbrz (l:=cs1.toList) (D:=cells1.drop i) (C:=cells2) (i:=i) (m:=ys.length) hl2' (by rw[h7];exact hfitA)
     rw[hw1,Nat.mul_one,hlz,hcs4l,hcs3l,hct]
     rw[show xs.length+ys.length=i+ys.length+(cells1.drop i).length by rw[hdl];omega]
     exact e
    have hrest1:=qce (b:=b1) (cells1.drop i) (i+ys.length) w.drew
    have hrest2:=qce (b:=b1) cells2 i (w.drew.setCells b1 (i+ys.length) (cells1.drop i))
    have hsize:((w.drew.setCells b1 (i+ys.length) (cells1.drop i)).setCells b1 i cells2).heap.size=w.heap.size:=by rw[q7,q7];rfl
    refine (qbo4 b1 xs.length cap1 i ys.length ⟨b2,0,none⟩ cap2 w _ _ _ _ hlt hm hroom (by omega) hov hB hC).mono ?_
    rintro e w' ⟨rfl,rfl⟩
    obtain ⟨val,Pr',Gs,Os,us,hv,hp⟩:=quf pre elz hFs hob4 (cap:=cap1) (by rw[hw1,Nat.mul_one];omega) (by rw[hlz];exact hroom) htake (.inr ⟨0,hbF1⟩) hFBb
     (fun b' _ hb'=>(qbg cells2 _ _ b' hb').trans (qbg (cells1.drop i) _ w.drew b' hb')) (by rw[hsize];exact Nat.le_refl _) (by rw[hsize];exact pre.lim 0 b1 hbF1) (hrest2.1.trans hrest1.1) (hrest2.2.1.trans hrest1.2.1) (hrest2.2.2.trans hrest1.2.2) () (houts _ _ _ _)
    exact ⟨val,Pr',Gs,Os,us,by rw[←hv,hlz],hp⟩
   ·have hg:cap1<xs.length+ys.length:=by omega
    obtain ⟨K,hK⟩:∃ K,K=xs.length+ys.length - i:=⟨_,rfl⟩
    have hKi:i+K=xs.length+ys.length:=by omega
    have hn1d:(Builtin.firstCells i0.size i (.slice (some ⟨b1,0,none⟩) i cap1)).run Tryz.prog w.drew=.ok (cells1.take i).toArray w.drew:=by
     rw[hs0]
     refine qf5 (by rw[List.length_take,hl1',Nat.mul_one];omega) (.inr ⟨b1,0,rfl,qc6 ?_⟩)
     have e:cells1.take i=sub cs1 0 i:=by rw[hct];simp only[sub,List.drop_zero]
     rw[e];exact qbt hbo1.blk (by omega)
    have hfit:Builtin.nextslicecap (i+K) cap1 * i0.bytes≤281474976710656:=by
     have:=Room.nextslicecap_le' (need:=i+K) (old:=cap1) (by omega)
     rw[hb0];omega
    have hr:=fun ty=>Lib.run_append_grow_zeros (P:=Tryz.prog) w 29 3 ty 32 i0 _ .i64 .i64 u67 u3 hi0 hz0 (some ⟨b1,0,none⟩) i cap1 (cells1.take i) hn1d K (by omega) (by omega) (by omega) (by omega) (by rw[hb0];omega) hfit
    have hge:=grownCap_ge w (i+K) cap1 32
    generalize grownCap w (i+K) cap1 32=cap' at hr hge
    have hzs:(Value.slice none 0 0).cells.size=1:=rfl
    have hcss:((cells1.take i).toArray++Builtin.zeroCells (Value.slice none 0 0).cells K++Builtin.zeroCells (Value.slice none 0 0).cells (cap' - (i+K))).size=cap':=by
     simp only[Array.size_append,List.size_toArray,size_zeroCells,hzs,List.length_take,hl1'];omega
    have htk:((cells1.take i).toArray++Builtin.zeroCells (Value.slice none 0 0).cells K++Builtin.zeroCells (Value.slice none 0 0).cells (cap' - (i+K))).toList.take i=cells1.take i:=by
     simp only[Array.toList_append,List.append_assoc]
     rw[List.take_append_of_le_length (by rw[List.length_take,hl1'];omega),List.take_of_length_le (by rw[List.length_take,hl1'];omega)]
    generalize (cells1.take i).toArray++Builtin.zeroCells (Value.slice none 0 0).cells K++Builtin.zeroCells (Value.slice none 0 0).cells (cap' - (i+K))=cs0 at hr hcss htk
    rw[hKi] at hr hge
    have hKI:((K:Nat):Int)=(xs.length:Int)+(ys.length:Int) - (i:Int):=by omega
    rw[hKI] at hr
    have hob0:qbf (w.drew.alloc (.cells cs0 32)).heap w.heap.size cs0:=qbf.new
    have hb1lt:=pre.lim 0 b1 hbF1
    have hb2lt:=pre.lim 2 b2 hbF2
    have hb1B:b1≠w.heap.size:=by omega
    have hb2B:b2≠w.heap.size:=by omega
    have hold:∀ b',b'<w.heap.size→(w.drew.alloc (.cells cs0 32)).heap[b']? = w.heap[b']?:=fun b' hb'=>qgs b' hb'
    have hfitA:i+cells2.length≤cs0.size:=by omega
    have thA:=qec (w:=w.drew.alloc (.cells cs0 32)) (o:=i) (n:=cells2.length) hob0 hfitA
    have hr2:(w.drew.alloc (.cells cs0 32)).rangeAt b2 0 cells2:=by
     rw[hcells2]
     exact qbt (Blk.congr hbo2.blk (hold b2 hb2lt)) (by omega)
    have hB:∀ ty,(Builtin.copy_ #[29,29] ty #[.slice (some ⟨w.heap.size,i,none⟩) (xs.length+ys.length - i) (cap' - i),.slice (some ⟨b2,0,none⟩) ys.length cap2]).run Tryz.prog (w.drew.alloc (.cells cs0 32))=.ok (goInt cells2.length) ((w.drew.alloc (.cells cs0 32)).setCells w.heap.size i cells2):=fun ty=>
     run_copy_cells _ 29 29 ty 32 w.heap.size i _ _ ⟨b2,0,none⟩ _ cap2 cells2 u67 hsz38 (by rw[hl2'];simp only[Nat.min_def];split<;>omega)
      (fun k v hk=>by rw[Addr.add_mid];exact hr2 k v hk) (fun k hk=>(thA k hk).1) (fun k hk=>(thA k hk).2) hone2
    obtain ⟨ty,lo,hi',he,hfz⟩:=hob0
    obtain ⟨cs3,hcs3,hcs3l⟩:=qda cells2 i (w.drew.alloc (.cells cs0 32)) cs0 he hfitA
    have h7:cs0.toList.length=cs0.size:=Array.length_toList
    have hsz3:cs3.size=cs0.size:=by rw[←Array.length_toList,hcs3l,qcf (by simpa using hfitA),Array.length_toList]
    have hob3:qbf ((w.drew.alloc (.cells cs0 32)).setCells w.heap.size i cells2).drew.heap w.heap.size cs3:=⟨ty,lo,hi',hcs3,fun t ht=>hfz t (by omega)⟩
    have hfitB:i+ys.length+(cells1.drop i).length≤cs3.size:=by rw[hdl];omega
    have thB:=qec (w:=((w.drew.alloc (.cells cs0 32)).setCells w.heap.size i cells2).drew) (o:=i+ys.length) (n:=(cells1.drop i).length) hob3 hfitB
    have hr1:((w.drew.alloc (.cells cs0 32)).setCells w.heap.size i cells2).drew.rangeAt b1 i (cells1.drop i):=by
     rw[hcd]
     exact qc6 (qbt (Blk.congr hbo1.blk ((qbg cells2 _ _ b1 hb1B).trans (hold b1 hb1lt))) (by omega))
    have hC:∀ ty,(Builtin.copy_ #[29,29] ty #[.slice (some ⟨w.heap.size,i+ys.length,none⟩) (xs.length+ys.length - (i+ys.length)) (cap' - (i+ys.length)),.slice (some ⟨b1,i,none⟩) (xs.length - i) (cap1 - i)]).run Tryz.prog ((w.drew.alloc (.cells cs0 32)).setCells w.heap.size i cells2).drew=.ok (goInt (cells1.drop i).length) (((w.drew.alloc (.cells cs0 32)).setCells w.heap.size i cells2).drew.setCells w.heap.size (i+ys.length) (cells1.drop i)):=fun ty=>
     run_copy_cells _ 29 29 ty 32 w.heap.size (i+ys.length) _ _ ⟨b1,i,none⟩ _ _ (cells1.drop i) u67 hsz38 (by rw[hdl];simp only[Nat.min_def];split<;>omega)
      (fun k v hk=>by rw[Addr.add_mid];exact hr1 k v hk) (fun k hk=>(thB k hk).1) (fun k hk=>(thB k hk).2) honed
    obtain ⟨cs4,hcs4,hcs4l⟩:=qda (cells1.drop i) (i+ys.length) ((w.drew.alloc (.cells cs0 32)).setCells w.heap.size i cells2).drew cs3 hcs3 hfitB
    have hsz4:cs4.size=cs3.size:=by rw[←Array.length_toList,hcs4l,qcf (by simpa using hfitB),Array.length_toList]
    have hob4:qbf (((w.drew.alloc (.cells cs0 32)).setCells w.heap.size i cells2).drew.setCells w.heap.size (i+ys.length) (cells1.drop i)).heap w.heap.size cs4:=⟨ty,lo,hi',hcs4,fun t ht=>hfz t (by omega)⟩
    have htake:cs4.toList.take ((xs.take i++ys++xs.drop i).length * TRow.width)=cells1.take i++cells2++cells1.drop i:=by
     have e:=qbr5 (l:=cs0.toList) (D:=cells1.drop i) (C:=cells2) (i:=i) (m:=ys.length) hl2' (by rw[h7];omega)
     rw[hw1,Nat.mul_one,hlz,hcs4l,hcs3l,←htk]
     rw[show xs.length+ys.length=i+ys.length+(cells1.drop i).length by rw[hdl];omega]
     exact e
    have hrest1:=qce (b:=w.heap.size) cells2 i (w.drew.alloc (.cells cs0 32))
    have hrest2:=qce (b:=w.heap.size) (cells1.drop i) (i+ys.length) ((w.drew.alloc (.cells cs0 32)).setCells w.heap.size i cells2).drew
    have hsize:(((w.drew.alloc (.cells cs0 32)).setCells w.heap.size i cells2).drew.setCells w.heap.size (i+ys.length) (cells1.drop i)).heap.size=w.heap.size+1:=by
     rw[q7]
     show ((w.drew.alloc (.cells cs0 32)).setCells w.heap.size i cells2).heap.size=_
     rw[q7];show (w.heap.push _).size=_;simp
    refine (qbqs b1 xs.length cap1 i ys.length ⟨b2,0,none⟩ cap2 w.heap.size cap' w _ _ _ _ _ hlt hm hlc1 hg hge (by omega) hr hB hC).mono ?_
    rintro e w' ⟨rfl,rfl⟩
    obtain ⟨val,Pr',Gs,Os,us,hv,hp⟩:=quf pre elz hFs hob4 (cap:=cap') (by rw[hw1,Nat.mul_one];omega) (by rw[hlz];exact hge) htake (.inl rfl)
     (fun t hb=>by obtain ⟨k,hk⟩:=hFs t _ hb;exact Nat.lt_irrefl _ (pre.lim k _ hk))
     (fun b' hb1 hb'=>(qbg (cells1.drop i) _ _ b' hb').trans ((qbg cells2 _ _ b' hb').trans (hold b' hb1))) (by rw[hsize];omega) (by rw[hsize];omega) (hrest2.1.trans hrest1.1) (hrest2.2.1.trans hrest1.2.1) (hrest2.2.2.trans hrest1.2.2) () (houts _ _ _ _)
    exact ⟨val,Pr',Gs,Os,us,by rw[←hv,hlz],hp⟩
 ·simp at h
end Go.V

namespace Go.V
set_option maxRecDepth 100000
set_option maxHeartbeats 4000000
open Go Go.Proofs Go.RowKit Go.Lib
theorem nt2:Tryz.f93.ntmps=95:=by kernel_rfl
theorem qbkt (a1:Option Addr) (n c m:Nat) (a2:Option Addr) (c2:Nat) (w w3:World) (v3:Value) (hm:0<m) (hc:n≤c) (h1:(∃ b,a1=some ⟨b,0,none⟩)∨(n=0∧c=0))
  (hr:∀ ty,(Builtin.append_ #[35,35] ty #[.slice a1 n c,.slice a2 m c2]).run Tryz.prog w=.ok v3 w3) :
  Calls Tryz.prog 93 #[.slice a1 n c,.int .i64 n,.slice a2 m c2] w fun e w'=>e=.returned v3∧w'=w3:=by
 have mx:=mixed
 have uT:Tryz.prog.underlying 35=some (.slice 42):=by kernel_rfl
 have u3:Tryz.prog.underlying 3=some (.int .i64):=by kernel_rfl
 have vT:=run_underlying uT
 have v3:=run_underlying u3
 have sE:(Tryz.prog.info? 42).map (·.size)=some 2:=by kernel_rfl
 obtain ⟨i0,hi0⟩:∃ i0,Tryz.prog.info? 42=some i0:=by cases h:Tryz.prog.info? 42 with | none=>rw[h] at sE;cases sE | some x=>exact ⟨x,rfl⟩
 have hs0:i0.size=2:=by rw[hi0] at sE;simpa using sE
 have hz1:¬ ((m:Int)=0):=by omega
 rcases h1 with ⟨b,rfl⟩ | ⟨rfl,rfl⟩
 ·go_enter Tryz.func93,nt2
  go_wp2_with (at_builtin;refine Lib.wpList_append_run _ rfl _ _ _ _ rfl _ _ rfl rfl _ _ (hr _) ?_)
  all_goals (try (go_ret;exact ⟨rfl,rfl⟩))
 ·cases a1 with
  | none=>
   go_enter Tryz.func93,nt2
   go_wp2_with (at_builtin;refine Lib.wpList_append_run _ rfl _ _ _ _ rfl _ _ rfl rfl _ _ (hr _) ?_)
   all_goals (try (go_ret;exact ⟨rfl,rfl⟩))
  | some a0=>
   go_enter Tryz.func93,nt2
   go_wp2_with (at_builtin;refine Lib.wpList_append_run _ rfl _ _ _ _ rfl _ _ rfl rfl _ _ (hr _) ?_)
   all_goals (try (go_ret;exact ⟨rfl,rfl⟩))
theorem qbpe (b n c i m:Nat) (a2:Addr) (c2 B G:Nat) (w w1 w2 w3:World) (r2 r3:Value) (hi:i<n) (hm:0<m) (hnc:n≤c) (hroom:c<n+m) (hG:n+m≤G) (hs63:n+m≤9223372036854775807)
  (hA:∀ ty,(Builtin.append_ #[35,3] ty #[.slice (some ⟨b,0,none⟩) i c,.int .i64 ((n:Int)+(m:Int) - (i:Int))]).run Tryz.prog w=.ok (.slice (some ⟨B,0,none⟩) (n+m) G) w1)
  (hB:∀ ty,(Builtin.copy_ #[35,35] ty #[.slice (some ⟨B,i * 2,none⟩) (n+m - i) (G - i),.slice (some a2) m c2]).run Tryz.prog w1=.ok r2 w2)
  (hC:∀ ty,(Builtin.copy_ #[35,35] ty #[.slice (some ⟨B,(i+m) * 2,none⟩) (n+m - (i+m)) (G - (i+m)),.slice (some ⟨b,i * 2,none⟩) (n - i) (c - i)]).run Tryz.prog w2.drew=.ok r3 w3) :
  Calls Tryz.prog 93 #[.slice (some ⟨b,0,none⟩) n c,.int .i64 i,.slice (some a2) m c2] w fun e w'=>e=.returned (.slice (some ⟨B,0,none⟩) (n+m) G)∧w'=w3:=by
 have mx:=mixed
 have uT:Tryz.prog.underlying 35=some (.slice 42):=by kernel_rfl
 have u3:Tryz.prog.underlying 3=some (.int .i64):=by kernel_rfl
 have vT:=run_underlying uT
 have v3:=run_underlying u3
 have sE:(Tryz.prog.info? 42).map (·.size)=some 2:=by kernel_rfl
 obtain ⟨i0,hi0⟩:∃ i0,Tryz.prog.info? 42=some i0:=by cases h:Tryz.prog.info? 42 with | none=>rw[h] at sE;cases sE | some x=>exact ⟨x,rfl⟩
 have hs0:i0.size=2:=by rw[hi0] at sE;simpa using sE
 have hz1:¬ ((m:Int)=0):=by omega
 have hz2:¬ ((i:Int)=(n:Int)):=by omega
 have hz3:(c:Int)<(n:Int)+(m:Int):=by omega
 have hw1:IntKind.i64.wrap ((i:Int)+(m:Int))=(i:Int)+(m:Int):=by rw[IntKind.wrap_i64];omega
 have hb1:(0:Int)≤(i:Int)+(m:Int):=by omega
 have hin:i≤n:=by omega
 have htn:((i:Int)+(m:Int)).toNat=i+m:=by omega
 have hb3:(i:Int)≤(n:Int):=by omega
 have hGi:¬ (G=i):=by omega
 have hGim:¬ (G=i+m):=by omega
 have hci:¬ (c=i):=by omega
 go_enter Tryz.func93,nt2
 go_wp2_with (first
  | (at_builtin;refine Lib.wpList_append_run _ rfl _ _ _ _ rfl _ _ rfl rfl _ _ (hA _) ?_)
  | (at_builtin;refine wpList_copy_runI _ rfl _ _ 35 35 rfl _ _ rfl rfl (hB _) ?_))
 go_region_law_o (refine step_copy_runI rfl _ _ 35 35 rfl (.slice (some ⟨B,(i+m) * 2,none⟩) (n+m - (i+m)) (G - (i+m))) (.slice (some ⟨b,i * 2,none⟩) (n - i) (c - i)) (by simp[Act.eval,Act.put]) (by simp[Act.eval,Act.put]) (hC _) ?_)
 go_wp2
 go_ret
 exact ⟨rfl,rfl⟩
theorem qbof (b n c i m:Nat) (a2:Addr) (c2:Nat) (w w1 w2:World) (r1 r2:Value) (hi:i<n) (hm:0<m) (hroom:n+m≤c) (hs63:n+m≤9223372036854775807)
  (hov:∀ lb cb,(callFunc 156 #[.slice (some a2) m c2,.slice (some ⟨b,(i+m) * 2,none⟩) lb cb]).run Tryz.prog w=.ok (.value (.bool false)) w)
  (hB:∀ ty dc sc,(Builtin.copy_ #[35,35] ty #[.slice (some ⟨b,(i+m) * 2,none⟩) (n+m - (i+m)) dc,.slice (some ⟨b,i * 2,none⟩) (n+m - i) sc]).run Tryz.prog w.drew=.ok r1 w1)
  (hC:∀ ty dc,(Builtin.copy_ #[35,35] ty #[.slice (some ⟨b,i * 2,none⟩) (n+m - i) dc,.slice (some a2) m c2]).run Tryz.prog w1=.ok r2 w2) :
  Calls Tryz.prog 93 #[.slice (some ⟨b,0,none⟩) n c,.int .i64 i,.slice (some a2) m c2] w fun e w'=>e=.returned (.slice (some ⟨b,0,none⟩) (n+m) c)∧w'=w2:=by
 have mx:=mixed
 have uT:Tryz.prog.underlying 35=some (.slice 42):=by kernel_rfl
 have u3:Tryz.prog.underlying 3=some (.int .i64):=by kernel_rfl
 have vT:=run_underlying uT
 have v3:=run_underlying u3
 have sE:(Tryz.prog.info? 42).map (·.size)=some 2:=by kernel_rfl
 obtain ⟨i0,hi0⟩:∃ i0,Tryz.prog.info? 42=some i0:=by cases h:Tryz.prog.info? 42 with | none=>rw[h] at sE;cases sE | some x=>exact ⟨x,rfl⟩
 have hs0:i0.size=2:=by rw[hi0] at sE;simpa using sE
 have hz1:¬ ((m:Int)=0):=by omega
 have hz2:¬ ((i:Int)=(n:Int)):=by omega
 have hw1:IntKind.i64.wrap ((i:Int)+(m:Int))=(i:Int)+(m:Int):=by rw[IntKind.wrap_i64];omega
 have hb1:(0:Int)≤(i:Int)+(m:Int):=by omega
 have hin:i≤n:=by omega
 have htn:((i:Int)+(m:Int)).toNat=i+m:=by omega
 have hb2:¬ (c=i+m):=by omega
 have hb3:(i:Int)≤(n:Int)+(m:Int):=by omega
 have hb4:¬ (c=i):=by omega
 go_enter Tryz.func93,nt2
 go_wp2_with (simp only[hov])
 go_region_law_o (refine step_copy_runI rfl _ _ 35 35 rfl _ _ (by simp[Act.eval,Act.put]) (by simp[Act.eval,Act.put]) (hB _ _ _) ?_)
 go_wp2_with (at_builtin;refine wpList_copy_runI _ rfl _ _ 35 35 rfl _ _ rfl rfl (hC _ _) ?_)
 go_ret
 exact ⟨rfl,rfl⟩
end Go.V


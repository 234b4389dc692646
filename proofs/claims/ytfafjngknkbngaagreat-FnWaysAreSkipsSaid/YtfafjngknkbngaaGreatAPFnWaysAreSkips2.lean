import Derived.WalkKit
import Derived.Lib.Walk
import Derived.Lib.SliceRun
import Derived.Lib.JoinLaws
import Derived.Lib.AppendZeros
import Derived.Lib.Overlaps
import Derived.Laws.Externs
import Derived.Laws.IdiomCopy
import Derived.Lib.AppendZerosOnto
import Derived.Shelf.Spec.SlicesInsert
import Derived.Test.YtfafjngknkbngaaGreatAPFnWaysAreSkips1
set_option linter.unusedVariables false
set_option linter.unusedSimpArgs false
set_option linter.unusedSectionVars false
namespace Go.G
open Go Go.V
theorem br_t {R:Type} {a b:Option R}:br true a b=a:=rfl
theorem br_f {R:Type} {a b:Option R}:br false a b=b:=rfl
theorem qk {R:Type} {a b:Option R} {p:Prop} [Decidable p] (h:p):br (decide p) a b=a:=by simp[br,h]
theorem qp {R:Type} {a b:Option R} {p:Prop} [Decidable p] (h:¬ p):br (decide p) a b=b:=by simp[br,h]
theorem qf {α R:Type} {a:α} {f:α→Option R}:qi (some a) f=f a:=rfl
theorem qbb8 {R:Type} {c:Bool} {a b:Option R}:br c a b=if c=true then a else b:=by cases c<;>rfl
theorem qbvl (x:Int):IntKind.wrap IntKind.i64 x=if x % 18446744073709551616≥9223372036854775808 then x % 18446744073709551616 - 18446744073709551616 else x % 18446744073709551616:=by
 by_cases h:x % 18446744073709551616≥9223372036854775808<;>simp[IntKind.wrap,IntKind.signed,IntKind.bits,h]
theorem qby {x:Int} (h1 : -9223372036854775808≤x) (h2:x≤9223372036854775807):IntKind.wrap IntKind.i64 x=x:=by
 rw[qbvl]
 split<;>omega
def W:Nat:=9223372036854775808
theorem qbt:W=9223372036854775808:=rfl
theorem qch:maxLen=9223372036854775807:=rfl
theorem qco:qbi=274877906944:=rfl
theorem ix {α:Type} {l:List α} {i:Nat} (h:i<l.length):(decide (0≤(i:Int))&&decide ((i:Int)<(l.length:Int)))=true:=by
 simp only[Bool.and_eq_true,decide_eq_true_eq];omega
theorem ixn {α:Type} {l:List α} {i:Int} (h0:0≤i) (h:i<l.length):(decide (0≤i)&&decide (i<(l.length:Int)))=true:=by
 simp only[Bool.and_eq_true,decide_eq_true_eq];omega
theorem qr {i:Nat} (h:i<9223372036854775807):IntKind.wrap IntKind.i64 ((i:Int)+1)=((i+1:Nat):Int):=by
 rw[qby]<;>omega
theorem qz {α:Type} {l:List α} {i:Nat} {d:α} (h:i<l.length):l.getD i d=l[i]:=by
 simp[List.getD,h]
theorem qc8 {α:Type} {l:List α} {i:Nat} (h:i<l.length):l.drop i=l[i]::l.drop (i+1):=List.drop_eq_getElem_cons h
theorem qe7 {α:Type} {l:List α} {i:Nat} (h:¬ i<l.length):l.drop i=[]:=List.drop_eq_nil_of_le (by omega)
def tot:(t:Ty)→t.den→Nat
 | .unit,_=>0
 | .int _,_=>0
 | .bool,_=>0
 | .str,s=>s.size
 | .sl t,xs=>xs.length+(xs.map (tot t)).sum
 | .pair a b,x=>tot a x.1+tot b x.2
def left (t:Ty) (a:t.den) (k:Int):Int:=if (tot t a:Int)≤k then k - tot t a else -1
theorem qj4 {a b:ByteArray}:List.beq a.toList b.toList=decide (a=b):=by
 have h1:List.beq a.toList b.toList=decide (a.toList=b.toList):=by
  have:(a.toList == b.toList)=decide (a.toList=b.toList):=by
   by_cases h:a.toList=b.toList<;>simp[h]
  exact this
 rw[h1]
 by_cases h:a=b
 ·simp[h]
 ·have:a.toList≠b.toList:=fun e=>h (by
   have h2:a.data.toList=b.data.toList:=by
    have:=e
    simpa [ByteArray.toList_eq] using this
   cases a;cases b
   simp only[ByteArray.mk.injEq]
   exact Array.toList_inj.1 h2)
  simp[h,this]
end Go.G

namespace Go.G
open Go Go.V
theorem qbxu {a:Nat} (h:a≤qbi):(decide (0≤(a:Int))&&decide ((a:Int)≤(a:Int))&&decide ((a:Int)≤((qbi:Nat):Int)))=true:=by
 simp only[Bool.and_eq_true,decide_eq_true_eq];omega
end Go.G

namespace Go.G
open Go Go.V
end Go.G

namespace Go.G
open Go Go.V
def Fit (b:Nat):(t:Ty)→t.den→Prop
 | .sl t,xs=>xs.length≤b∧∀ x∈xs,Fit b t x
 | .pair s t,x=>Fit b s x.1∧Fit b t x.2
 | _,_=>True
theorem Fit.mono {b c:Nat} (h:b≤c):∀ {t:Ty} {x:t.den},Fit b t x→Fit c t x
 | .unit,_,_=>trivial
 | .int _,_,_=>trivial
 | .bool,_,_=>trivial
 | .str,_,_=>trivial
 | .sl t,xs,f=>⟨Nat.le_trans f.1 h,fun x hx=>(f.2 x hx).mono h⟩
 | .pair s t,x,f=>⟨f.1.mono h,f.2.mono h⟩
end Go.G

namespace Go.G
open Go Go.V
abbrev Value:=Int×Int×ByteArray×Unit
abbrev Col:=ByteArray×Int×Bool×Unit
abbrev qk4:=ByteArray×List Int×Bool×Unit
end Go.G

namespace Go.G
open Go Go.V Go.Proofs
def qw (P:Nat→Bool):Nat→Nat→Bool
 | _,0=>false
 | i,k+1=>P i||qw P (i+1) k
theorem q09 {P:Nat→Bool}:∀ {k i:Nat},qw P i k=true↔∃ j,i≤j∧j<i+k∧P j=true
 | 0,i=>by simp[qw];intro j h1 h2;omega
 | k+1,i=>by
  simp only[qw,Bool.or_eq_true,q09 (k:=k) (i:=i+1)]
  constructor
  ·rintro (h | ⟨j,h1,h2,h3⟩)
   ·exact ⟨i,Nat.le_refl _,by omega,h⟩
   ·exact ⟨j,by omega,by omega,h3⟩
  ·rintro ⟨j,h1,h2,h3⟩
   rcases Nat.eq_or_lt_of_le h1 with rfl | h1
   ·exact .inl h3
   ·exact .inr ⟨j,by omega,by omega,h3⟩
theorem qbj {P:Nat→Bool} {k i:Nat}:qw P i k=false↔∀ j,i≤j→j<i+k→P j=false:=by
 rw[←Bool.not_eq_true,q09]
 constructor
 ·intro h j h1 h2
  cases hp:P j with
  | false=>rfl
  | true=>exact absurd ⟨j,h1,h2,hp⟩ h
 ·rintro h ⟨j,h1,h2,h3⟩
  rw[h j h1 h2] at h3;exact Bool.noConfusion h3
theorem qvh {P Q:Nat→Bool}:∀ {k i:Nat},(∀ j,i≤j→j<i+k→P j=Q j)→qw P i k=qw Q i k
 | 0,_,_=>rfl
 | k+1,i,h=>by
  simp only[qw]
  rw[h i (Nat.le_refl _) (by omega),qvh fun j h1 h2=>h j (by omega) (by omega)]
theorem scan {R:Type} {L:Nat→Nat→Option R} {N:Nat} {P:Nat→Bool} {A B:Option R}
  (hs:∀ m i,i≤N→L (m+1) i=if i<N then br (P i) A (L m (i+1)) else B):∀ m i,i≤N→N - i<m→L m i=br (qw P i (N - i)) A B
 | 0,_,_,h=>by omega
 | m+1,i,hi,hm=>by
  rw[hs m i hi]
  by_cases h:i<N
  ·rw[if_pos h]
   obtain ⟨k,hk⟩:∃ k,N - i=k+1:=⟨N - i - 1,by omega⟩
   rw[hk,scan hs m (i+1) (by omega) (by omega)]
   have:N - (i+1)=k:=by omega
   rw[this]
   show br (P i) A (br (qw P (i+1) k) A B)=br (P i||qw P (i+1) k) A B
   cases P i<;>rfl
  ·rw[if_neg h]
   have:N - i=0:=by omega
   rw[this];rfl
theorem qkc {R:Type} {L:Nat→Nat→Option R} {N:Nat} {P:Nat→Bool} {A B:Option R}
  (hs:∀ m i,i≤N→L (m+1) i=if i<N then br (P i) A (L m (i+1)) else B) {m:Nat} (hm:N<m):L m 0=br (qw P 0 N) A B:=by
 have:=scan hs m 0 (by omega) (by omega)
 rwa [Nat.sub_zero] at this
def qy (P:Nat→Bool):Nat→Nat→Option Nat
 | _,0=>none
 | i,k+1=>if P i=true then some i else qy P (i+1) k
theorem qc9 {P:Nat→Bool}:∀ {k i j:Nat},qy P i k=some j→i≤j∧j<i+k∧P j=true∧∀ l,i≤l→l<j→P l=false
 | 0,i,j,h=>by simp[qy] at h
 | k+1,i,j,h=>by
  simp only[qy] at h
  split at h
  ·rename_i hp
   simp only[Option.some.injEq] at h
   subst h
   exact ⟨Nat.le_refl _,by omega,hp,fun l h1 h2=>by omega⟩
  ·rename_i hp
   obtain ⟨h1,h2,h3,h4⟩:=qc9 h
   refine ⟨by omega,by omega,h3,fun l h5 h6=>?_⟩
   rcases Nat.eq_or_lt_of_le h5 with rfl | h5
   ·simpa using hp
   ·exact h4 l h5 h6
theorem qja {P:Nat→Bool}:∀ {k i:Nat},qy P i k=none→∀ j,i≤j→j<i+k→P j=false
 | 0,i,_,j,h1,h2=>by omega
 | k+1,i,h,j,h1,h2=>by
  simp only[qy] at h
  split at h
  ·simp at h
  ·rename_i hp
   rcases Nat.eq_or_lt_of_le h1 with rfl | h1
   ·simpa using hp
   ·exact qja h j (by omega) (by omega)
theorem q6y {P Q:Nat→Bool}:∀ {k i:Nat},(∀ j,i≤j→j<i+k→P j=Q j)→qy P i k=qy Q i k
 | 0,_,_=>rfl
 | k+1,i,h=>by
  simp only[qy]
  rw[h i (Nat.le_refl _) (by omega),q6y fun j h1 h2=>h j (by omega) (by omega)]
theorem qbxj {R:Type} {L:Nat→Nat→Option R} {N:Nat} {P:Nat→Bool} {A:Nat→Option R} {B:Option R}
  (hs:∀ m i,i≤N→L (m+1) i=if i<N then br (P i) (A i) (L m (i+1)) else B):∀ m i,i≤N→N - i<m→L m i=match qy P i (N - i) with | some j=>A j | none=>B
 | 0,_,_,h=>by omega
 | m+1,i,hi,hm=>by
  rw[hs m i hi]
  by_cases h:i<N
  ·rw[if_pos h]
   obtain ⟨k,hk⟩:∃ k,N - i=k+1:=⟨N - i - 1,by omega⟩
   rw[hk]
   simp only[qy]
   by_cases hp:P i=true
   ·rw[if_pos hp,hp];rfl
   ·rw[if_neg hp,qbxj hs m (i+1) (by omega) (by omega)]
    simp only[Bool.not_eq_true] at hp
    have:N - (i+1)=k:=by omega
    rw[this,hp];rfl
  ·rw[if_neg h]
   have:N - i=0:=by omega
   rw[this];rfl
theorem qsn {R:Type} {L:Nat→Nat→Option R} {N:Nat} {P:Nat→Bool} {A:Nat→Option R} {B:Option R}
  (hs:∀ m i,i≤N→L (m+1) i=if i<N then br (P i) (A i) (L m (i+1)) else B) {m:Nat} (hm:N<m):L m 0=match qy P 0 N with | some j=>A j | none=>B:=by
 have:=qbxj hs m 0 (by omega) (by omega)
 rwa [Nat.sub_zero] at this
theorem qjc (a b:Bool):(bif a then b else false)=(a&&b):=by cases a<;>rfl
theorem qbsb (a b:Bool):(bif a then true else b)=(a||b):=by cases a<;>rfl
def inR (x a b:Int):Bool:=decide (a≤x)&&decide (x≤b)
theorem qw7 {X:Ext} (hX:XOk X) {n:Nat} (hn:1≤n) (x a b:Int):qev (DD X n) x a b=some ((inR x a b,()),()):=by
 obtain ⟨n,rfl⟩:∃ k,n=k+1:=⟨n - 1,by omega⟩
 rw[qbfe hX]
 simp only[q1b,q7l,qjc,inR]
theorem q1j {X:Ext} (hX:XOk X) {n:Nat} (hn:1≤n) (x a b:Int):qhn (DD X n) x a b=some ((inR x a b,()),()):=by
 obtain ⟨n,rfl⟩:∃ k,n=k+1:=⟨n - 1,by omega⟩
 rw[qbqw hX]
 simp only[q7o,qbey,qjc,inR]
def qir (s:ByteArray) (i:Nat):Int:=((s.data.getD i (UInt8.ofNat 0)).toNat:Int)
def qqq (s:ByteArray):Bool:=!(qw (fun i=>decide (qir s i<97)||decide (qir s i>122)) 0 s.size)&&inR s.size 1 12
theorem ixs {s:ByteArray} {i:Nat} (h:i<s.size):(decide (0≤(i:Int))&&decide ((i:Int)<(s.size:Int)))=true:=by
 simp only[Bool.and_eq_true,decide_eq_true_eq];omega
theorem qbcj {X:Ext} (hX:XOk X) {n:Nat} (hn:W+2≤n) (s:ByteArray) (hs:s.size≤maxLen):qp1 (DD X n) s=some ((qqq s,()),()):=by
 obtain ⟨n,rfl⟩:∃ k,n=k+1:=⟨n - 1,by omega⟩
 have hd:=qch
 have hW:=qbt
 rw[qbg1 hX]
 simp only[qwl,qv1,qtj]
 refine Eq.trans (qkc (L:=fun m i=>qh4 (DD X n) n _ _ m s s.size (i:Int)) (N:=s.size) (P:=fun i=>decide (qir s i<97)||decide (qir s i>122))
  (A:=some ((false,()),())) (B:=some ((inR s.size 1 12,()),())) (fun m i hi=>?_) (m:=n) (by omega)) ?_
 ·simp only[qh4,qur]
  by_cases h:i<s.size
  ·rw[qk (by exact_mod_cast h),ixs h,br_t,br_t,Int.toNat_natCast,qr (by omega),if_pos h]
   change br (decide (qir s i<97)) _ (br (decide (qir s i>122)) _ _)=_
   by_cases h1:qir s i<97
   ·rw[qk h1,decide_eq_true h1];rfl
   ·rw[qp h1,decide_eq_false h1]
    by_cases h2:qir s i>122
    ·rw[qk h2,decide_eq_true h2];rfl
    ·rw[qp h2,decide_eq_false h2];rfl
  ·rw[qp (by exact_mod_cast h),if_neg h]
   simp only[qrh,qw7 hX (show 1≤n by omega),qf]
 ·unfold qqq
  cases qw (fun i=>decide (qir s i<97)||decide (qir s i>122)) 0 s.size<;>rfl
theorem qbc2 {X:Ext} (hX:XOk X) {n:Nat} (hn:W+2≤n) (s:ByteArray) (hs:s.size≤maxLen):qp0 (DD X n) s=some ((qqq s,()),()):=by
 obtain ⟨n,rfl⟩:∃ k,n=k+1:=⟨n - 1,by omega⟩
 have hd:=qch
 have hW:=qbt
 rw[qbgr hX]
 simp only[qwq,qvu,qta]
 refine Eq.trans (qkc (L:=fun m i=>qh7 (DD X n) n _ _ m s (i:Int)) (N:=s.size) (P:=fun i=>decide (qir s i<97)||decide (qir s i>122))
  (A:=some ((false,()),())) (B:=some ((inR s.size 1 12,()),())) (fun m i hi=>?_) (m:=n) (by omega)) ?_
 ·simp only[qh7,qui]
  by_cases h:i<s.size
  ·rw[qk (by exact_mod_cast h),ixs h,br_t,br_t,Int.toNat_natCast,qr (by omega),if_pos h]
   change br (decide (qir s i<97)) _ (br (decide (qir s i>122)) _ _)=_
   by_cases h1:qir s i<97
   ·rw[qk h1,decide_eq_true h1];rfl
   ·rw[qp h1,decide_eq_false h1]
    by_cases h2:qir s i>122
    ·rw[qk h2,decide_eq_true h2];rfl
    ·rw[qp h2,decide_eq_false h2];rfl
  ·rw[qp (by exact_mod_cast h),if_neg h]
   simp only[qrf,q1j hX (show 1≤n by omega),qf]
 ·unfold qqq
  cases qw (fun i=>decide (qir s i<97)||decide (qir s i>122)) 0 s.size<;>rfl
def has (l:List Int) (x:Int):Bool:=qw (fun j=>decide (x=l.getD j 0)) 0 l.length
theorem qbs6 {X:Ext} (hX:XOk X) {n:Nat} (hn:W+2≤n) (l:List Int) (x:Int) (hl:l.length≤maxLen):qk1 (DD X n) l x=some ((has l x,()),()):=by
 obtain ⟨n,rfl⟩:∃ k,n=k+2:=⟨n - 2,by omega⟩
 have hd:=qch
 have hW:=qbt
 rw[q31 hX]
 simp only[qk7,qsl]
 have e:qn0 (DD X (n+1)) l x=some ((match qy (fun j=>decide (x=l.getD j 0)) 0 l.length with | some j=>(j:Int) | none=>-1,()),()):=by
  rw[q7h hX]
  simp only[qnr,qnz,qlr]
  refine Eq.trans (qsn (L:=fun m i=>qei (DD X n) n _ _ m l x l.length (i:Int)) (N:=l.length) (P:=fun j=>decide (x=l.getD j 0))
   (A:=fun j=>some (((j:Int),()),())) (B:=some ((-1,()),())) (fun m i hi=>?_) (m:=n) (by omega)) ?_
  ·simp only[qei,qma]
   by_cases h:i<l.length
   ·rw[qk (by exact_mod_cast h),ix h,br_t,Int.toNat_natCast,qr (by omega),if_pos h];rfl
   ·rw[qp (by exact_mod_cast h),if_neg h];rfl
  ·cases qy (fun j=>decide (x=l.getD j 0)) 0 l.length<;>rfl
 rw[e,qf]
 congr 3
 unfold has
 cases hf:qy (fun j=>decide (x=l.getD j 0)) 0 l.length with
 | none=>
  have:=qja hf
  rw[qbj.2 this];rfl
 | some j=>
  obtain ⟨h1,h2,h3,_⟩:=qc9 hf
  rw[q09.2 ⟨j,h1,h2,h3⟩]
  simp
def qcr (n:Nat) (l:List Int) (most:Int):Bool:=!(qw (fun i=>!inR (l.getD i 0) 0 ((n:Int) - 1)||has (l.take i) (l.getD i 0)) 0 l.length)&&inR l.length 1 most
theorem q74 {X:Ext} (hX:XOk X) {n:Nat} (hn:W+3≤n) (s:List Col×List Int×List qk4×Unit) (l:List Int) (most:Int) (hc:s.1.length≤maxLen) (hl:l.length≤maxLen) :
  qse (DD X n) s l most=some ((qcr s.1.length l most,()),()):=by
 obtain ⟨n,rfl⟩:∃ k,n=k+1:=⟨n - 1,by omega⟩
 have hd:=qch
 have hW:=qbt
 rw[qbj2 hX]
 simp only[qxv,qyk,quh]
 refine Eq.trans (qkc (L:=fun m i=>qi8 (DD X n) n _ _ m l most l l.length (i:Int) s) (N:=l.length) (P:=fun i=>!inR (l.getD i 0) 0 ((s.1.length:Int) - 1)||has (l.take i) (l.getD i 0))
  (A:=some ((false,()),())) (B:=some ((inR l.length 1 most,()),())) (fun m i hi=>?_) (m:=n) (by omega)) ?_
 ·simp only[qi8,qwa]
  by_cases h:i<l.length
  ·have hc1:(decide ((0:Nat)≤0)&&decide ((0:Int)≤(i:Int))&&decide ((i:Int)≤(l.length:Int)))=true:=by
    rw[decide_eq_true (by omega),decide_eq_true (by omega),decide_eq_true (by omega)];rfl
   rw[qk (by exact_mod_cast h),ix h,br_t,qw7 hX (show 1≤n by omega),qf,hc1,br_t,Int.toNat_natCast,qr (by omega),if_pos h,qby (by omega) (by omega)]
   have ht:(List.drop (Int.toNat 0) (List.take i l))=l.take i:=rfl
   rw[ht,qbs6 hX (by omega) _ _ (by rw[List.length_take];omega),qf]
   dsimp only
   cases inR (l.getD i 0) 0 ((s.1.length:Int) - 1)
   ·rfl
   ·cases has (l.take i) (l.getD i 0)<;>rfl
  ·rw[qp (by exact_mod_cast h),if_neg h]
   simp only[qs0,qw7 hX (show 1≤n by omega),qf]
 ·unfold qcr
  cases qw (fun i=>!inR (l.getD i 0) 0 ((s.1.length:Int) - 1)||has (l.take i) (l.getD i 0)) 0 l.length<;>rfl
theorem qbv3 {l:List Int} {i:Nat} (hi:i≤l.length) (x:Int):has (l.take i) x=qw (fun k=>decide (l.getD k 0=x)) 0 i:=by
 unfold has
 rw[List.length_take,Nat.min_eq_left hi]
 refine qvh fun j _ h=>?_
 have e:(l.take i).getD j 0=l.getD j 0:=by
  simp only[List.getD,List.getElem?_take]
  rw[if_pos (by omega)]
 rw[e]
 by_cases h:x=l.getD j 0
 ·rw[decide_eq_true h,decide_eq_true h.symm]
 ·rw[decide_eq_false h,decide_eq_false fun k=>h k.symm]
theorem q7r {X:Ext} (hX:XOk X) {n:Nat} (hn:W+3≤n) (s:List Col×List Int×List qk4×Unit) (l:List Int) (most:Int) (hc:s.1.length≤maxLen) (hl:l.length≤maxLen) :
  qps (DD X n) s l most=some ((qcr s.1.length l most,()),()):=by
 obtain ⟨n,rfl⟩:∃ k,n=k+1:=⟨n - 1,by omega⟩
 have hd:=qch
 have hW:=qbt
 rw[qbge hX]
 simp only[qv3,qwj,qtg]
 refine Eq.trans (qkc (L:=fun m i=>qe0 (DD X n) n _ _ m l most (i:Int) s) (N:=l.length) (P:=fun i=>!inR (l.getD i 0) 0 ((s.1.length:Int) - 1)||has (l.take i) (l.getD i 0))
  (A:=some ((false,()),())) (B:=some ((inR l.length 1 most,()),())) (fun m i hi=>?_) (m:=n) (by omega)) ?_
 ·simp only[qe0,qt8]
  by_cases h:i<l.length
  ·rw[qk (by exact_mod_cast h),ix h,br_t,q1j hX (show 1≤n by omega),qf,Int.toNat_natCast,if_pos h,qby (by omega) (by omega)]
   dsimp only
   cases hin:inR (l.getD i 0) 0 ((s.1.length:Int) - 1)
   ·rfl
   ·rw[Bool.not_true,br_f,Bool.false_or,qbv3 (by omega)]
    simp only[qtf]
    refine Eq.trans (qkc (L:=fun q k=>qh5 (DD X n) n _ _ q l most (i:Int) (k:Int) s) (N:=i) (P:=fun k=>decide (l.getD k 0=l.getD i 0))
     (A:=some ((false,()),())) (B:=qe0 (DD X n) n (fun v0_0 v0_1 v0_2=>qq8 (DD X n) n v0_0 v0_1 v0_2) (fun v1_0 v1_1=>ql8 (DD X n) n v1_0 v1_1) m l most ((i+1:Nat):Int) s) (fun q k hk=>?_) (m:=n) (by omega)) rfl
    simp only[qh5,quc]
    by_cases h2:k<i
    ·rw[qk (by exact_mod_cast h2),ix (i:=k) (by omega),br_t,ix h,br_t,Int.toNat_natCast,Int.toNat_natCast,qr (by omega),if_pos h2];rfl
    ·rw[qp (by exact_mod_cast h2),if_neg h2]
     simp only[qrc]
     rw[qr (by omega)]
  ·rw[qp (by exact_mod_cast h),if_neg h]
   simp only[ql8,q1j hX (show 1≤n by omega),qf]
 ·unfold qcr
  cases qw (fun i=>!inR (l.getD i 0) 0 ((s.1.length:Int) - 1)||has (l.take i) (l.getD i 0)) 0 l.length<;>rfl
end Go.G

namespace Go.G
set_option maxRecDepth 100000
open Go Go.V Go.Proofs
theorem q1g (P:Nat→Bool) (n:Nat):decide ((match qy P 0 n with | some j=>(j:Int) | none=>-1)≥0)=qw P 0 n:=by
 cases hf:qy P 0 n with
 | none=>rw[qbj.2 (qja hf)];rfl
 | some j=>
  obtain ⟨h1,h2,h3,_⟩:=qc9 hf
  rw[q09.2 ⟨j,h1,h2,h3⟩]
  simp
theorem qbwu {X:Ext} (hX:XOk X) {n:Nat} (hn:W+1≤n) (l:List (Col)) (hl:l.length≤maxLen) (c:Clo) (P:Nat→Bool)
  (hP:∀ i,i<l.length→qbn ctx (DD X (n - 1)) c [CapV.val (Ty.pair Ty.str (Ty.pair (Ty.int IntKind.i64) (Ty.pair Ty.bool Ty.unit))) (l.getD i (ByteArray.empty,0,false,()))] Ty.bool=some (P i)) :
  qfp (DD X n) l c=some ((match qy P 0 l.length with | some j=>(j:Int) | none=>-1,()),()):=by
 obtain ⟨n,rfl⟩:∃ k,n=k+1:=⟨n - 1,by omega⟩
 have hd:=qch
 have hW:=qbt
 rw[qsq hX]
 simp only[qf0,qfr,qe1]
 refine Eq.trans (qsn (L:=fun m i=>qca (DD X n) n c _ _ m l l.length (i:Int)) (N:=l.length) (P:=P)
  (A:=fun j=>some (((j:Int),()),())) (B:=some ((-1,()),())) (fun m i hi=>?_) (m:=n) (by omega)) ?_
 ·simp only[qca,qfh]
  by_cases h:i<l.length
  ·have hp:qbn ctx (DD X n) c [CapV.val (Ty.pair Ty.str (Ty.pair (Ty.int IntKind.i64) (Ty.pair Ty.bool Ty.unit))) (l.getD i (ByteArray.empty,0,false,()))] Ty.bool=some (P i):=hP i h
   rw[qk (by exact_mod_cast h),ix h,br_t,Int.toNat_natCast,hp,qf,qr (by omega),if_pos h];rfl
  ·rw[qp (by exact_mod_cast h),if_neg h];rfl
 ·cases qy P 0 l.length<;>rfl
theorem qbsm {X:Ext} (hX:XOk X) {n:Nat} (hn:W+1≤n) (l:List (qk4)) (hl:l.length≤maxLen) (c:Clo) (P:Nat→Bool)
  (hP:∀ i,i<l.length→qbn ctx (DD X (n - 1)) c [CapV.val (Ty.pair Ty.str (Ty.pair (Ty.sl (Ty.int IntKind.i64)) (Ty.pair Ty.bool Ty.unit))) (l.getD i (ByteArray.empty,[],false,()))] Ty.bool=some (P i)) :
  qes (DD X n) l c=some ((match qy P 0 l.length with | some j=>(j:Int) | none=>-1,()),()):=by
 obtain ⟨n,rfl⟩:∃ k,n=k+1:=⟨n - 1,by omega⟩
 have hd:=qch
 have hW:=qbt
 rw[qpm hX]
 simp only[qeo,qep,qd4]
 refine Eq.trans (qsn (L:=fun m i=>qbr (DD X n) n c _ _ m l l.length (i:Int)) (N:=l.length) (P:=P)
  (A:=fun j=>some (((j:Int),()),())) (B:=some ((-1,()),())) (fun m i hi=>?_) (m:=n) (by omega)) ?_
 ·simp only[qbr,qeb]
  by_cases h:i<l.length
  ·have hp:qbn ctx (DD X n) c [CapV.val (Ty.pair Ty.str (Ty.pair (Ty.sl (Ty.int IntKind.i64)) (Ty.pair Ty.bool Ty.unit))) (l.getD i (ByteArray.empty,[],false,()))] Ty.bool=some (P i):=hP i h
   rw[qk (by exact_mod_cast h),ix h,br_t,Int.toNat_natCast,hp,qf,qr (by omega),if_pos h];rfl
  ·rw[qp (by exact_mod_cast h),if_neg h];rfl
 ·cases qy P 0 l.length<;>rfl
theorem qbv6 {X:Ext} (hX:XOk X) {n:Nat} (hn:W+1≤n) (l:List (Int)) (hl:l.length≤maxLen) (c:Clo) (P:Nat→Bool)
  (hP:∀ i,i<l.length→qbn ctx (DD X (n - 1)) c [CapV.val (Ty.int IntKind.i64) (l.getD i 0)] Ty.bool=some (P i)) :
  qku (DD X n) l c=some ((match qy P 0 l.length with | some j=>(j:Int) | none=>-1,()),()):=by
 obtain ⟨n,rfl⟩:∃ k,n=k+1:=⟨n - 1,by omega⟩
 have hd:=qch
 have hW:=qbt
 rw[q2a hX]
 simp only[qkq,qkv,qi5]
 refine Eq.trans (qsn (L:=fun m i=>qdl (DD X n) n c _ _ m l l.length (i:Int)) (N:=l.length) (P:=P)
  (A:=fun j=>some (((j:Int),()),())) (B:=some ((-1,()),())) (fun m i hi=>?_) (m:=n) (by omega)) ?_
 ·simp only[qdl,qj5]
  by_cases h:i<l.length
  ·have hp:qbn ctx (DD X n) c [CapV.val (Ty.int IntKind.i64) (l.getD i 0)] Ty.bool=some (P i):=hP i h
   rw[qk (by exact_mod_cast h),ix h,br_t,Int.toNat_natCast,hp,qf,qr (by omega),if_pos h];rfl
  ·rw[qp (by exact_mod_cast h),if_neg h];rfl
 ·cases qy P 0 l.length<;>rfl
theorem qbte {X:Ext} (hX:XOk X) {n:Nat} (hn:W+1≤n) (l:List (Value)) (hl:l.length≤maxLen) (c:Clo) (P:Nat→Bool)
  (hP:∀ i,i<l.length→qbn ctx (DD X (n - 1)) c [CapV.val (Ty.pair (Ty.int IntKind.i64) (Ty.pair (Ty.int IntKind.i64) (Ty.pair Ty.str Ty.unit))) (l.getD i (0,0,ByteArray.empty,()))] Ty.bool=some (P i)) :
  qec (DD X n) l c=some ((match qy P 0 l.length with | some j=>(j:Int) | none=>-1,()),()):=by
 obtain ⟨n,rfl⟩:∃ k,n=k+1:=⟨n - 1,by omega⟩
 have hd:=qch
 have hW:=qbt
 rw[qpj hX]
 simp only[qd9,qd8,qdx]
 refine Eq.trans (qsn (L:=fun m i=>qbm (DD X n) n c _ _ m l l.length (i:Int)) (N:=l.length) (P:=P)
  (A:=fun j=>some (((j:Int),()),())) (B:=some ((-1,()),())) (fun m i hi=>?_) (m:=n) (by omega)) ?_
 ·simp only[qbm,qd3]
  by_cases h:i<l.length
  ·have hp:qbn ctx (DD X n) c [CapV.val (Ty.pair (Ty.int IntKind.i64) (Ty.pair (Ty.int IntKind.i64) (Ty.pair Ty.str Ty.unit))) (l.getD i (0,0,ByteArray.empty,()))] Ty.bool=some (P i):=hP i h
   rw[qk (by exact_mod_cast h),ix h,br_t,Int.toNat_natCast,hp,qf,qr (by omega),if_pos h];rfl
  ·rw[qp (by exact_mod_cast h),if_neg h];rfl
 ·cases qy P 0 l.length<;>rfl
theorem qbwd {X:Ext} (hX:XOk X) {n:Nat} (hn:W+1≤n) (l:List (List Value)) (hl:l.length≤maxLen) (c:Clo) (P:Nat→Bool)
  (hP:∀ i,i<l.length→qbn ctx (DD X (n - 1)) c [CapV.val (Ty.sl (Ty.pair (Ty.int IntKind.i64) (Ty.pair (Ty.int IntKind.i64) (Ty.pair Ty.str Ty.unit)))) (l.getD i [])] Ty.bool=some (P i)) :
  qeq (DD X n) l c=some ((match qy P 0 l.length with | some j=>(j:Int) | none=>-1,()),()):=by
 obtain ⟨n,rfl⟩:∃ k,n=k+1:=⟨n - 1,by omega⟩
 have hd:=qch
 have hW:=qbt
 rw[qpq hX]
 simp only[qek,qej,qd1]
 refine Eq.trans (qsn (L:=fun m i=>qbp (DD X n) n c _ _ m l l.length (i:Int)) (N:=l.length) (P:=P)
  (A:=fun j=>some (((j:Int),()),())) (B:=some ((-1,()),())) (fun m i hi=>?_) (m:=n) (by omega)) ?_
 ·simp only[qbp,qea]
  by_cases h:i<l.length
  ·have hp:qbn ctx (DD X n) c [CapV.val (Ty.sl (Ty.pair (Ty.int IntKind.i64) (Ty.pair (Ty.int IntKind.i64) (Ty.pair Ty.str Ty.unit)))) (l.getD i [])] Ty.bool=some (P i):=hP i h
   rw[qk (by exact_mod_cast h),ix h,br_t,Int.toNat_natCast,hp,qf,qr (by omega),if_pos h];rfl
  ·rw[qp (by exact_mod_cast h),if_neg h];rfl
 ·cases qy P 0 l.length<;>rfl
theorem qbff {X:Ext} (hX:XOk X) {n:Nat} (hn:W+2≤n) (l:List (qk4)) (hl:l.length≤maxLen) (c:Clo) (P:Nat→Bool)
  (hP:∀ i,i<l.length→qbn ctx (DD X (n - 2)) c [CapV.val (Ty.pair Ty.str (Ty.pair (Ty.sl (Ty.int IntKind.i64)) (Ty.pair Ty.bool Ty.unit))) (l.getD i (ByteArray.empty,[],false,()))] Ty.bool=some (P i)) :
  qc0 (DD X n) l c=some ((qw P 0 l.length,()),()):=by
 obtain ⟨n,rfl⟩:∃ k,n=k+1:=⟨n - 1,by omega⟩
 rw[qoe hX]
 simp only[qdz,qgx]
 rw[qbsm hX (n:=n) (by omega) l hl c P (fun i h=>hP i h),qf]
 congr 3
 exact q1g P l.length
theorem qbve {X:Ext} (hX:XOk X) {n:Nat} (hn:W+2≤n) (l:List (Int)) (hl:l.length≤maxLen) (c:Clo) (P:Nat→Bool)
  (hP:∀ i,i<l.length→qbn ctx (DD X (n - 2)) c [CapV.val (Ty.int IntKind.i64) (l.getD i 0)] Ty.bool=some (P i)) :
  qip (DD X n) l c=some ((qw P 0 l.length,()),()):=by
 obtain ⟨n,rfl⟩:∃ k,n=k+1:=⟨n - 1,by omega⟩
 rw[qyp hX]
 simp only[qio,qn6]
 rw[qbv6 hX (n:=n) (by omega) l hl c P (fun i h=>hP i h),qf]
 congr 3
 exact q1g P l.length
theorem qbq9 {X:Ext} (hX:XOk X) {n:Nat} (hn:W+2≤n) (l:List (Value)) (hl:l.length≤maxLen) (c:Clo) (P:Nat→Bool)
  (hP:∀ i,i<l.length→qbn ctx (DD X (n - 2)) c [CapV.val (Ty.pair (Ty.int IntKind.i64) (Ty.pair (Ty.int IntKind.i64) (Ty.pair Ty.str Ty.unit))) (l.getD i (0,0,ByteArray.empty,()))] Ty.bool=some (P i)) :
  qdt (DD X n) l c=some ((qw P 0 l.length,()),()):=by
 obtain ⟨n,rfl⟩:∃ k,n=k+1:=⟨n - 1,by omega⟩
 rw[qn2 hX]
 simp only[qdv,qgj]
 rw[qbte hX (n:=n) (by omega) l hl c P (fun i h=>hP i h),qf]
 congr 3
 exact q1g P l.length
theorem qbur {X:Ext} (hX:XOk X) {n:Nat} (hn:W+2≤n) (l:List (List Value)) (hl:l.length≤maxLen) (c:Clo) (P:Nat→Bool)
  (hP:∀ i,i<l.length→qbn ctx (DD X (n - 2)) c [CapV.val (Ty.sl (Ty.pair (Ty.int IntKind.i64) (Ty.pair (Ty.int IntKind.i64) (Ty.pair Ty.str Ty.unit)))) (l.getD i [])] Ty.bool=some (P i)) :
  qcd (DD X n) l c=some ((qw P 0 l.length,()),()):=by
 obtain ⟨n,rfl⟩:∃ k,n=k+1:=⟨n - 1,by omega⟩
 rw[qn9 hX]
 simp only[qdy,qgw]
 rw[qbwd hX (n:=n) (by omega) l hl c P (fun i h=>hP i h),qf]
 congr 3
 exact q1g P l.length
end Go.G

namespace Go.G
set_option maxRecDepth 100000
open Go Go.V Go.Proofs
abbrev qbc:=List Col×List Int×List qk4×Unit
def M:Nat:=4194304
theorem qcn:M=4194304:=rfl
structure SchSm (s:qbc):Prop where
 cols:s.1.length≤M
 names:∀ c∈s.1,c.1.size≤M
 key:s.2.1.length≤M
 ixs:s.2.2.1.length≤M
 ixn:∀ x∈s.2.2.1,x.1.size≤M
 ixc:∀ x∈s.2.2.1,x.2.1.length≤M
abbrev cd:Col:=(ByteArray.empty,0,false,())
abbrev xd:qk4:=(ByteArray.empty,[],false,())
theorem qck {α:Type} {l:List α} {i:Nat} {d:α} (h:i<l.length):l.getD i d∈l:=by rw[qz h];exact List.getElem_mem _
def qbc7 (cs:List Col) (name:ByteArray):Int:=match qy (fun i=>decide ((cs.getD i cd).1=name)) 0 cs.length with | some j=>(j:Int) | none=>-1
theorem qbvk (D:Den ctx) (name:ByteArray) (x:Col):qbn ctx D (Clo.mk 196 [CapV.rptr Ty.str name]) [CapV.val (Ty.pair Ty.str (Ty.pair (Ty.int IntKind.i64) (Ty.pair Ty.bool Ty.unit))) x] Ty.bool=(q8s D x name).bind fun r=>some r.1.1:=by kernel_rfl
theorem qbrl {X:Ext} (hX:XOk X) {n:Nat} (hn:W+3≤n) (s:qbc) (hs:SchSm s) (name:ByteArray):q5l (DD X n) s name=some ((qbc7 s.1 name,()),()):=by
 obtain ⟨n,rfl⟩:∃ k,n=k+1:=⟨n - 1,by omega⟩
 have hd:=qch
 have hM:=qcn
 have:=hs.cols
 rw[qbqn hX]
 simp only[q41,qbcs]
 rw[qbwu hX (n:=n) (by omega) s.1 (by omega) _ (fun i=>decide ((s.1.getD i cd).1=name)) (fun i h=>by
  obtain ⟨n,rfl⟩:∃ k,n=k+2:=⟨n - 2,by omega⟩
  rw[qbvk]
  rw[show n+2 - 1=n+1 from rfl,qblf hX]
  simp only[qz8,q8w,Option.bind_some,qj4]),qf]
 rfl
theorem qbrk {X:Ext} (hX:XOk X) {n:Nat} (hn:W+1≤n) (s:qbc) (hs:SchSm s) (name:ByteArray):q56 (DD X n) s name=some ((qbc7 s.1 name,()),()):=by
 obtain ⟨n,rfl⟩:∃ k,n=k+1:=⟨n - 1,by omega⟩
 have hd:=qch
 have hW:=qbt
 have hM:=qcn
 have:=hs.cols
 rw[qbp8 hX]
 simp only[q45,q6a,q0b]
 refine Eq.trans (qsn (L:=fun m i=>qmi (DD X n) n _ _ m name (i:Int) s) (N:=s.1.length) (P:=fun i=>decide ((s.1.getD i cd).1=name))
  (A:=fun j=>some (((j:Int),()),())) (B:=some ((-1,()),())) (fun m i hi=>?_) (m:=n) (by omega)) ?_
 ·simp only[qmi,q2o]
  by_cases h:i<s.1.length
  ·rw[qk (by exact_mod_cast h),ix h,br_t,Int.toNat_natCast,qr (by omega),if_pos h,qj4];rfl
  ·rw[qp (by exact_mod_cast h),if_neg h];rfl
 ·unfold qbc7
  cases qy (fun i=>decide ((s.1.getD i cd).1=name)) 0 s.1.length<;>rfl
def qxl (cs:List Col) (i:Nat):Bool:=!qqq (cs.getD i cd).1||(!inR (cs.getD i cd).2.1 1 3||!decide (qbc7 cs (cs.getD i cd).1=(i:Int)))
def qpv (nc:Nat) (xs:List qk4) (i:Nat):Bool:=!qqq (xs.getD i xd).1||(!qcr nc (xs.getD i xd).2.1 3||qw (fun k=>decide ((xs.getD k xd).1=(xs.getD i xd).1)) 0 i)
def qzn (cs:List Col) (key:List Int):Bool:=qw (fun j=>(cs.getD (key.getD j 0).toNat cd).2.2.1) 0 key.length
def qe5 (s:qbc):Bool:=
 !qw (qxl s.1) 0 s.1.length&&(!qw (qpv s.1.length s.2.2.1) 0 s.2.2.1.length&&(inR s.1.length 1 5&&(qcr s.1.length s.2.1 4&&(!qzn s.1 s.2.1&&decide ((s.2.2.1.length:Int)≤3)))))
theorem qbmw {n:Nat} {l:List Int} {most:Int} (h:qcr n l most=true) {j:Nat} (hj:j<l.length):0≤l.getD j 0∧l.getD j 0<n:=by
 simp only[qcr,Bool.and_eq_true,Bool.not_eq_true'] at h
 have:=qbj.1 h.1 j (by omega) (by omega)
 simp only[Bool.or_eq_false_iff,Bool.not_eq_false',inR,Bool.and_eq_true,decide_eq_true_eq] at this
 omega
theorem qw4 (a b:Int):(a != b)=!decide (a=b):=by by_cases h:a=b<;>simp[h]
theorem qbtk (D:Den ctx) (y x:qk4):qbn ctx D (Clo.mk 149 [CapV.rptr (Ty.pair Ty.str (Ty.pair (Ty.sl (Ty.int IntKind.i64)) (Ty.pair Ty.bool Ty.unit))) y]) [CapV.val (Ty.pair Ty.str (Ty.pair (Ty.sl (Ty.int IntKind.i64)) (Ty.pair Ty.bool Ty.unit))) x] Ty.bool=(q3l D x y).bind fun r=>some r.1.1:=by kernel_rfl
theorem qbrb (D:Den ctx) (s:qbc) (x:Int):qbn ctx D (Clo.mk 151 [CapV.rptr (Ty.pair (Ty.sl (Ty.pair Ty.str (Ty.pair (Ty.int IntKind.i64) (Ty.pair Ty.bool Ty.unit)))) (Ty.pair (Ty.sl (Ty.int IntKind.i64)) (Ty.pair (Ty.sl (Ty.pair Ty.str (Ty.pair (Ty.sl (Ty.int IntKind.i64)) (Ty.pair Ty.bool Ty.unit)))) Ty.unit))) s]) [CapV.val (Ty.int IntKind.i64) x] Ty.bool=(q3k D x s).bind fun r=>some r.1.1:=by kernel_rfl
theorem q7v {X:Ext} (hX:XOk X) {n:Nat} (hn:W+5≤n) (s:qbc) (hs:SchSm s):qsj (DD X n) s=some ((qe5 s,()),()):=by
 obtain ⟨n,rfl⟩:∃ k,n=k+1:=⟨n - 1,by omega⟩
 have hd:=qch
 have hW:=qbt
 have hM:=qcn
 have h1:=hs.cols
 have h2:=hs.ixs
 have h3:=hs.key
 rw[qbhs hX]
 simp only[qyi,qxh,qut]
 refine Eq.trans (qkc (L:=fun m i=>qiz (DD X n) n _ _ m s.1 s.1.length (i:Int) s) (N:=s.1.length) (P:=qxl s.1)
  (A:=some ((false,()),())) (B:=br (qw (qpv s.1.length s.2.2.1) 0 s.2.2.1.length) (some ((false,()),())) (some ((inR s.1.length 1 5&&(qcr s.1.length s.2.1 4&&(!qzn s.1 s.2.1&&decide ((s.2.2.1.length:Int)≤3))),()),()))) (fun m i hi=>?_) (m:=n) (by omega)) ?_
 ·simp only[qiz,qvy]
  by_cases h:i<s.1.length
  ·have hsz:=hs.names _ (qck (d:=cd) h)
   rw[qk (by exact_mod_cast h),ix h,br_t,Int.toNat_natCast,qbcj hX (by omega) _ (Nat.le_trans hsz (by omega)),qf,qw7 hX (by omega),qf,qbrl hX (by omega) s hs,qf,qr (by omega),if_pos h,qw4]
   dsimp only[qxl]
   cases qqq (s.1.getD i cd).1
   ·rfl
   ·cases inR (s.1.getD i cd).2.1 1 3
    ·rfl
    ·rw[Bool.not_true,br_f,br_f,Bool.false_or,Bool.false_or];rfl
  ·rw[qp (by exact_mod_cast h),if_neg h]
   simp only[qth,qt9]
   refine (qkc (L:=fun m i=>qi9 (DD X n) n _ _ m s.2.2.1 s.2.2.1.length (i:Int) s) (N:=s.2.2.1.length) (P:=qpv s.1.length s.2.2.1)
    (A:=some ((false,()),())) (B:=some ((inR s.1.length 1 5&&(qcr s.1.length s.2.1 4&&(!qzn s.1 s.2.1&&decide ((s.2.2.1.length:Int)≤3))),()),())) (fun m i hi=>?_) (m:=n) (by omega))
   simp only[qi9,qwm]
   by_cases h:i<s.2.2.1.length
   ·have hm:=qck (d:=xd) h
    have hsz:=hs.ixn _ hm
    have hsl:=hs.ixc _ hm
    have hc1:(decide ((0:Nat)≤0)&&decide ((0:Int)≤(i:Int))&&decide ((i:Int)≤(s.2.2.1.length:Int)))=true:=by
     rw[decide_eq_true (by omega),decide_eq_true (by omega),decide_eq_true (by omega)];rfl
    have hlen:(s.2.2.1.take i).length=i:=by rw[List.length_take];omega
    rw[qk (by exact_mod_cast h),ix h,br_t,Int.toNat_natCast,qbcj hX (by omega) _ (Nat.le_trans hsz (by omega)),qf,q74 hX (by omega) s _ _ (by omega) (Nat.le_trans hsl (by omega)),qf,hc1,br_t,qr (by omega),if_pos h]
    have ht:(List.drop (Int.toNat 0) (List.take i s.2.2.1))=s.2.2.1.take i:=rfl
    rw[ht,qbff hX (n:=n) (by omega) _ (by omega) _ (fun k=>decide ((s.2.2.1.getD k xd).1=(s.2.2.1.getD i xd).1)) (fun k hk=>by
     rw[hlen] at hk
     obtain ⟨n,rfl⟩:∃ k,n=k+3:=⟨n - 3,by omega⟩
     rw[qbtk,show n+3 - 2=n+1 from rfl,qbd5 hX]
     have e:(s.2.2.1.take i).getD k xd=s.2.2.1.getD k xd:=by
      simp only[List.getD,List.getElem?_take]
      rw[if_pos hk]
     simp only[qux,q3e,Option.bind_some,qj4,e]),qf,hlen]
    dsimp only[qpv]
    cases qqq (s.2.2.1.getD i xd).1
    ·rfl
    ·cases qcr s.1.length (s.2.2.1.getD i xd).2.1 3
     ·rfl
     ·rw[Bool.not_true,br_f,br_f,Bool.false_or,Bool.false_or];rfl
   ·rw[qp (by exact_mod_cast h),if_neg h]
    simp only[qs6]
    rw[qw7 hX (by omega),qf,q74 hX (by omega) s _ _ (by omega) (by omega),qf]
    dsimp only
    cases inR s.1.length 1 5
    ·rfl
    ·rw[br_t,Bool.true_and]
     cases hp:qcr s.1.length s.2.1 4
     ·rfl
     ·rw[br_t,Bool.true_and,qbve hX (n:=n) (by omega) s.2.1 (by omega) _ (fun j=>(s.1.getD (s.2.1.getD j 0).toNat cd).2.2.1) (fun k hk=>by
       obtain ⟨n,rfl⟩:∃ k,n=k+3:=⟨n - 3,by omega⟩
       obtain ⟨p1,p2⟩:=qbmw hp hk
       rw[qbrb,show n+3 - 2=n+1 from rfl,qbek hX]
       simp only[quj,q3o]
       rw[ixn p1 p2,br_t];rfl),qf,qjc]
      rfl
 ·unfold qe5
  cases qw (qxl s.1) 0 s.1.length
  ·cases qw (qpv s.1.length s.2.2.1) 0 s.2.2.1.length<;>rfl
  ·rfl
theorem qbnr {X:Ext} (hX:XOk X) {n:Nat} (hn:W+4≤n) (s:qbc) (hs:SchSm s):qul (DD X n) s=some ((!qw (qpv s.1.length s.2.2.1) 0 s.2.2.1.length&&decide ((s.2.2.1.length:Int)≤3),()),()):=by
 obtain ⟨n,rfl⟩:∃ k,n=k+1:=⟨n - 1,by omega⟩
 have hd:=qch
 have hW:=qbt
 have hM:=qcn
 have h1:=hs.cols
 have h2:=hs.ixs
 rw[qbd3 hX]
 simp only[quv,que,qrn]
 refine Eq.trans (qkc (L:=fun m i=>qef (DD X n) n _ _ m (i:Int) s) (N:=s.2.2.1.length) (P:=qpv s.1.length s.2.2.1)
  (A:=some ((false,()),())) (B:=some ((decide ((s.2.2.1.length:Int)≤3),()),())) (fun m i hi=>?_) (m:=n) (by omega)) ?_
 ·simp only[qef,qsw]
  by_cases h:i<s.2.2.1.length
  ·have hm:=qck (d:=xd) h
   have hsz:=hs.ixn _ hm
   have hsl:=hs.ixc _ hm
   rw[qk (by exact_mod_cast h),ix h,br_t,Int.toNat_natCast,qbc2 hX (by omega) _ (Nat.le_trans hsz (by omega)),qf,q7r hX (by omega) s _ _ (by omega) (Nat.le_trans hsl (by omega)),qf,if_pos h]
   dsimp only[qpv]
   cases qqq (s.2.2.1.getD i xd).1
   ·rfl
   ·cases qcr s.1.length (s.2.2.1.getD i xd).2.1 3
    ·rfl
    ·rw[Bool.not_true,br_f,br_f,Bool.false_or,Bool.false_or]
     simp only[qq6]
     refine Eq.trans (qkc (L:=fun q k=>qg6 (DD X n) n _ _ q (i:Int) (k:Int) s (s.2.2.1.getD i xd)) (N:=i) (P:=fun k=>decide ((s.2.2.1.getD k xd).1=(s.2.2.1.getD i xd).1))
      (A:=some ((false,()),())) (B:=qef (DD X n) n (fun v0_0 v0_1=>qp8 (DD X n) n v0_0 v0_1) (fun v1_0=>qpw (DD X n) n v1_0) m ((i+1:Nat):Int) s) (fun q k hk=>?_) (m:=n) (by omega)) rfl
     simp only[qg6,qsr]
     by_cases h2:k<i
     ·rw[qk (by exact_mod_cast h2),ix (i:=k) (by omega),br_t,Int.toNat_natCast,qr (by omega),if_pos h2,qj4];rfl
     ·rw[qp (by exact_mod_cast h2),if_neg h2]
      simp only[qqi]
      rw[qr (by omega)]
  ·rw[qp (by exact_mod_cast h),if_neg h];rfl
 ·cases qw (qpv s.1.length s.2.2.1) 0 s.2.2.1.length<;>rfl
theorem q79 {X:Ext} (hX:XOk X) {n:Nat} (hn:W+5≤n) (s:qbc) (hs:SchSm s):qr7 (DD X n) s=some ((qe5 s,()),()):=by
 obtain ⟨n,rfl⟩:∃ k,n=k+1:=⟨n - 1,by omega⟩
 have hd:=qch
 have hW:=qbt
 have hM:=qcn
 have h1:=hs.cols
 have h2:=hs.ixs
 have h3:=hs.key
 rw[qbh1 hX]
 simp only[qx1,qx8,quq]
 refine Eq.trans (qkc (L:=fun m i=>qjf (DD X n) n _ _ m (i:Int) s) (N:=s.1.length) (P:=qxl s.1)
  (A:=some ((false,()),())) (B:=some ((inR s.1.length 1 5&&(qcr s.1.length s.2.1 4&&((!qw (qpv s.1.length s.2.2.1) 0 s.2.2.1.length&&decide ((s.2.2.1.length:Int)≤3))&&!qzn s.1 s.2.1)),()),())) (fun m i hi=>?_) (m:=n) (by omega)) ?_
 ·simp only[qjf,qv8]
  by_cases h:i<s.1.length
  ·have hsz:=hs.names _ (qck (d:=cd) h)
   rw[qk (by exact_mod_cast h),ix h,br_t,br_t,br_t,Int.toNat_natCast,qbc2 hX (by omega) _ (Nat.le_trans hsz (by omega)),qf,q1j hX (by omega),qf,qbrk hX (by omega) s hs,qf,qr (by omega),if_pos h,qw4]
   dsimp only[qxl]
   cases qqq (s.1.getD i cd).1
   ·rfl
   ·cases inR (s.1.getD i cd).2.1 1 3
    ·rfl
    ·rw[Bool.not_true,br_f,br_f,Bool.false_or,Bool.false_or];rfl
  ·rw[qp (by exact_mod_cast h),if_neg h]
   simp only[qtl,qus]
   rw[q1j hX (by omega),qf,q7r hX (by omega) s _ _ (by omega) (by omega),qf,qbnr hX (by omega) s hs,qf]
   dsimp only
   cases inR s.1.length 1 5
   ·rfl
   ·cases hp:qcr s.1.length s.2.1 4
    ·rfl
    ·cases (!qw (qpv s.1.length s.2.2.1) 0 s.2.2.1.length&&decide ((s.2.2.1.length:Int)≤3))
     ·rfl
     ·simp only[Bool.not_true,br_f,Bool.true_and]
      refine Eq.trans (qkc (L:=fun m i=>qje (DD X n) n _ _ m (i:Int) s) (N:=s.2.1.length) (P:=fun j=>(s.1.getD (s.2.1.getD j 0).toNat cd).2.2.1)
       (A:=some ((false,()),())) (B:=some ((true,()),())) (fun m i hi=>?_) (m:=n) (by omega)) ?_
      ·simp only[qje,qvt]
       by_cases h:i<s.2.1.length
       ·obtain ⟨p1,p2⟩:=qbmw hp h
        rw[qk (by exact_mod_cast h),ix h,br_t,Int.toNat_natCast,ixn p1 p2,br_t,qr (by omega),if_pos h];rfl
       ·rw[qp (by exact_mod_cast h),if_neg h];rfl
      ·unfold qzn
       cases qw (fun j=>(s.1.getD (s.2.1.getD j 0).toNat cd).2.2.1) 0 s.2.1.length<;>rfl
 ·unfold qe5
  cases qw (qxl s.1) 0 s.1.length<;>cases qw (qpv s.1.length s.2.2.1) 0 s.2.2.1.length<;>cases inR s.1.length 1 5<;>cases qcr s.1.length s.2.1 4<;>cases qzn s.1 s.2.1<;>simp[br]
end Go.G

namespace Go.G
open Go Go.V Go.Proofs
instance decCols:DecidableEq (List Col):=inferInstance
instance decIxs:DecidableEq (List qk4):=inferInstance
instance decSchema:DecidableEq qbc:=fun a b=>@instDecidableEqProd _ _ decCols (@instDecidableEqProd _ _ inferInstance (@instDecidableEqProd _ _ decIxs inferInstance)) a b
end Go.G

namespace Go.G
set_option maxRecDepth 100000
open Go Go.V Go.Proofs
abbrev vd:Value:=(0,0,ByteArray.empty,())
abbrev Row:=List Value
def ql (row:Row) (cols:List Int):Row:=(cols.filter fun c=>inR c 0 ((row.length:Int) - 1)).map fun c=>row.getD c.toNat vd
theorem qhm (row:Row) (cols:List Int):(ql row cols).length≤cols.length:=by
 unfold ql;rw[List.length_map];exact List.length_filter_le _ _
theorem qbbw (row:Row) (c:Int) (cols:List Int):ql row (c::cols)=if inR c 0 ((row.length:Int) - 1)=true then row.getD c.toNat vd::ql row cols else ql row cols:=by
 unfold ql
 rw[List.filter_cons]
 split<;>simp
theorem qbhw {c:Int} {n:Nat} (h:inR c 0 ((n:Int) - 1)=true):0≤c∧c<n:=by
 simp only[inR,Bool.and_eq_true,decide_eq_true_eq] at h;omega
theorem q2q {X:Ext} (hX:XOk X) (N n:Nat) (hN:1≤N) (K:Row→Option ((Row×Unit)×Unit)) (row:Row) (hr:row.length≤M) (cols:List Int) (hc:cols.length≤M):∀ (m i:Nat) (acc:Row),i≤cols.length→cols.length - i<m→acc.length≤i→
  qkk (DD X N) n K m row cols cols.length (i:Int) acc=K (acc++ql row (cols.drop i))
 | 0,_,_,_,h,_=>by omega
 | m+1,i,acc,hi,hf,ha=>by
  simp only[qkk,qxy]
  have hM:=qcn
  have hb:=qco
  by_cases h:i<cols.length
  ·rw[qk (by exact_mod_cast h),ix h,br_t,Int.toNat_natCast,qby (by omega) (by omega),qw7 hX hN,qf,qr (by omega),qc8 h,qbbw,qz h]
   dsimp only
   by_cases hin:inR cols[i] 0 ((row.length:Int) - 1)=true
   ·obtain ⟨p1,p2⟩:=qbhw hin
    rw[hin,br_t,ixn p1 p2,br_t,qk (by omega),if_pos rfl]
    refine Eq.trans (q2q hX N n hN K row hr cols hc m (i+1) _ (by omega) (by omega) (by simp;omega)) ?_
    rw[List.append_assoc];rfl
   ·rw[Bool.not_eq_true] at hin
    rw[hin,br_f,if_neg Bool.noConfusion]
    exact q2q hX N n hN K row hr cols hc m (i+1) acc (by omega) (by omega) (by omega)
  ·rw[qp (by exact_mod_cast h),qe7 h]
   simp[ql]
theorem q2p {X:Ext} (hX:XOk X) (N n:Nat) (hN:1≤N) (K:Row→Option ((Row×Unit)×Unit)) (row:Row) (hr:row.length≤M) (cols:List Int) (hc:cols.length≤M):∀ (m i:Nat) (acc:Row),i≤cols.length→cols.length - i<m→acc.length≤i→
  qkh (DD X N) n K m row cols (i:Int) acc=K (acc++ql row (cols.drop i))
 | 0,_,_,_,h,_=>by omega
 | m+1,i,acc,hi,hf,ha=>by
  simp only[qkh,qx5]
  have hM:=qcn
  have hb:=qco
  by_cases h:i<cols.length
  ·rw[qk (by exact_mod_cast h),ix h,br_t,Int.toNat_natCast,qby (by omega) (by omega),q1j hX hN,qf,qr (by omega),qc8 h,qbbw,qz h]
   dsimp only
   by_cases hin:inR cols[i] 0 ((row.length:Int) - 1)=true
   ·obtain ⟨p1,p2⟩:=qbhw hin
    rw[hin,br_t,br_t,ixn p1 p2,br_t,qk (by omega),if_pos rfl]
    refine Eq.trans (q2p hX N n hN K row hr cols hc m (i+1) _ (by omega) (by omega) (by simp;omega)) ?_
    rw[List.append_assoc];rfl
   ·rw[Bool.not_eq_true] at hin
    rw[hin,br_f,if_neg Bool.noConfusion]
    exact q2p hX N n hN K row hr cols hc m (i+1) acc (by omega) (by omega) (by omega)
  ·rw[qp (by exact_mod_cast h),qe7 h]
   simp[ql]
theorem qvc {X:Ext} (hX:XOk X) {n:Nat} (hn:W+1≤n) (row:Row) (hr:row.length≤M) (cols:List Int) (hc:cols.length≤M):qlp (DD X n) row cols=some ((ql row cols,()),()):=by
 obtain ⟨n,rfl⟩:∃ k,n=k+1:=⟨n - 1,by omega⟩
 have hW:=qbt
 have hM:=qcn
 rw[qbj9 hX]
 simp only[qzj,q0q,qvk]
 refine Eq.trans (q2q hX n n (by omega) _ row hr cols hc n 0 [] (by omega) (by omega) (by simp)) ?_
 rfl
theorem q18 {X:Ext} (hX:XOk X) {n:Nat} (hn:W+1≤n) (row:Row) (hr:row.length≤M) (cols:List Int) (hc:cols.length≤M):qo7 (DD X n) row cols=some ((ql row cols,()),()):=by
 obtain ⟨n,rfl⟩:∃ k,n=k+1:=⟨n - 1,by omega⟩
 have hW:=qbt
 have hM:=qcn
 rw[qbk4 hX]
 simp only[q00,q0e,qwo]
 refine Eq.trans (q2p hX n n (by omega) _ row hr cols hc n 0 [] (by omega) (by omega) (by simp)) ?_
 rfl
theorem qzt {X:Ext} (hX:XOk X) {n:Nat} (hn:W+2≤n) (s:qbc) (row:Row) (hr:row.length≤M) (hc:s.2.1.length≤M):qmv (DD X n) s row=some ((ql row s.2.1,()),()):=by
 obtain ⟨n,rfl⟩:∃ k,n=k+1:=⟨n - 1,by omega⟩
 rw[qbih hX]
 simp only[qyj,q6g]
 rw[qvc hX (by omega) row hr _ hc,qf]
theorem qhb {X:Ext} (hX:XOk X) {n:Nat} (hn:W+2≤n) (s:qbc) (row:Row) (hr:row.length≤M) (hc:s.2.1.length≤M):qd7 (DD X n) s row=some ((ql row s.2.1,()),()):=by
 obtain ⟨n,rfl⟩:∃ k,n=k+1:=⟨n - 1,by omega⟩
 rw[qbje hX]
 simp only[qx7,q6j]
 rw[q18 hX (by omega) row hr _ hc,qf]
def qm4 (v:Value):Bool:=decide (v.2.2.1=ByteArray.mk #[])
def qc3 (v:Value):Bool:=
 bif decide (v.1=0) then decide (v.2.1=0)&&qm4 v else
 bif decide (v.1=1) then inR v.2.1 0 1&&qm4 v else
 bif decide (v.1=2) then inR v.2.1 (-1000000000000) 1000000000000&&qm4 v else
 bif decide (v.1=3) then decide (v.2.1=0)&&decide ((v.2.2.1.size:Int)≤20) else false
theorem qbae {X:Ext} (hX:XOk X) {n:Nat} (hn:2≤n) (v:Value):qtt (DD X n) v=some ((qc3 v,()),()):=by
 obtain ⟨n,rfl⟩:∃ k,n=k+1:=⟨n - 1,by omega⟩
 rw[qbk8 hX]
 simp only[q0a,q7x]
 rw[qw7 hX (by omega),qw7 hX (by omega)]
 simp only[qf,qjc,qj4]
 unfold qc3 qm4
 cases decide (v.1=0)<;>cases decide (v.1=1)<;>cases decide (v.1=2)<;>cases decide (v.1=3)<;>rfl
theorem qbne {X:Ext} (hX:XOk X) {n:Nat} (hn:2≤n) (v:Value):q0s (DD X n) v=some ((qc3 v,()),()):=by
 obtain ⟨n,rfl⟩:∃ k,n=k+1:=⟨n - 1,by omega⟩
 rw[qbkc hX]
 simp only[qzf,q70]
 rw[q1j hX (by omega),q1j hX (by omega)]
 simp only[qf,qjc,qj4]
 unfold qc3 qm4
 cases decide (v.1=0)<;>cases decide (v.1=1)<;>cases decide (v.1=2)<;>cases decide (v.1=3)<;>rfl
def q5b (cs:List Col) (row:Row) (i:Nat):Bool:=!qc3 (row.getD i vd)||(!decide ((row.getD i vd).1=(cs.getD i cd).2.1)&&!(decide ((row.getD i vd).1=0)&&(cs.getD i cd).2.2.1))
def qjp (s:qbc) (row:Row):Bool:=qe5 s&&(decide (row.length=s.1.length)&&!qw (q5b s.1 row) 0 row.length)
theorem qbkd (a b:Nat):((a:Int) != (b:Int))=!decide (a=b):=by
 by_cases h:a=b
 ·simp[h]
 ·have:¬ (a:Int)=(b:Int):=by omega
  rw[qw4,decide_eq_false this,decide_eq_false h]
theorem qbra {X:Ext} (hX:XOk X) {n:Nat} (hn:W+6≤n) (s:qbc) (hs:SchSm s) (row:Row) (hr:row.length≤M):q58 (DD X n) s row=some ((qjp s row,()),()):=by
 obtain ⟨n,rfl⟩:∃ k,n=k+1:=⟨n - 1,by omega⟩
 have hW:=qbt
 have hM:=qcn
 rw[qbp5 hX]
 simp only[q5s,q4a,q04]
 rw[q7v hX (by omega) s hs,qf,qbkd]
 dsimp only
 unfold qjp
 cases qe5 s
 ·rfl
 ·by_cases hl:row.length=s.1.length
  ·rw[decide_eq_true hl]
   refine Eq.trans (qkc (L:=fun m i=>qmk (DD X n) n _ _ m row row.length (i:Int) s) (N:=row.length) (P:=q5b s.1 row)
    (A:=some ((false,()),())) (B:=some ((true,()),())) (fun m i hi=>?_) (m:=n) (by omega)) ?_
   ·simp only[qmk,q2d]
    by_cases h:i<row.length
    ·rw[qk (by exact_mod_cast h),ix h,br_t,ix (i:=i) (hl ▸ h),br_t,Int.toNat_natCast,qbae hX (by omega),qf,qr (by omega),if_pos h,qw4,qjc,qjc,qbsb]
     rfl
    ·rw[qp (by exact_mod_cast h),if_neg h];rfl
   ·cases qw (q5b s.1 row) 0 row.length<;>rfl
  ·rw[decide_eq_false hl];rfl
theorem q69 {X:Ext} (hX:XOk X) {n:Nat} (hn:W+6≤n) (s:qbc) (hs:SchSm s) (row:Row) (hr:row.length≤M):qsz (DD X n) s row=some ((qjp s row,()),()):=by
 obtain ⟨n,rfl⟩:∃ k,n=k+1:=⟨n - 1,by omega⟩
 have hW:=qbt
 have hM:=qcn
 rw[qboq hX]
 simp only[q5d,q4t,q0x]
 rw[q79 hX (by omega) s hs,qf,qbkd]
 dsimp only
 unfold qjp
 cases qe5 s
 ·rfl
 ·by_cases hl:row.length=s.1.length
  ·rw[decide_eq_true hl]
   refine Eq.trans (qkc (L:=fun m i=>qmp (DD X n) n _ _ m row (i:Int) s) (N:=row.length) (P:=q5b s.1 row)
    (A:=some ((false,()),())) (B:=some ((true,()),())) (fun m i hi=>?_) (m:=n) (by omega)) ?_
   ·simp only[qmp,q21]
    by_cases h:i<row.length
    ·rw[qk (by exact_mod_cast h),ix h,br_t,br_t,ix (i:=i) (hl ▸ h),br_t,br_t,br_t,Int.toNat_natCast,qbne hX (by omega),qf,qr (by omega),if_pos h,qw4]
     dsimp only[q5b]
     cases qc3 (row.getD i vd)
     ·rfl
     ·cases decide ((row.getD i vd).1=(s.1.getD i cd).2.1)
      ·cases (s.1.getD i cd).2.2.1
       ·cases decide ((row.getD i vd).1=0)<;>rfl
       ·cases decide ((row.getD i vd).1=0)<;>rfl
      ·rfl
    ·rw[qp (by exact_mod_cast h),if_neg h];rfl
   ·cases qw (q5b s.1 row) 0 row.length<;>rfl
  ·rw[decide_eq_false hl];rfl
theorem qbcu (a b:Value):qnk (Ty.pair (Ty.int IntKind.i64) (Ty.pair (Ty.int IntKind.i64) (Ty.pair Ty.str Ty.unit))) a b=decide (a=b):=by
 obtain ⟨a1,a2,a3,⟨⟩⟩:=a
 obtain ⟨b1,b2,b3,⟨⟩⟩:=b
 have e:∀ x y:ByteArray,(x.toList == y.toList)=decide (x=y):=fun x y=>qj4
 have e2:∀ x y:Int,(x == y)=decide (x=y):=fun x y=>by by_cases h:x=y<;>simp[h]
 simp only[qnk,e,e2]
 by_cases h1:a1=b1<;>by_cases h2:a2=b2<;>by_cases h3:a3=b3<;>simp[h1,h2,h3]
theorem qbqu (D:Den ctx) (x:Value):qbn ctx D (Clo.mk 208 []) [CapV.val (Ty.pair (Ty.int IntKind.i64) (Ty.pair (Ty.int IntKind.i64) (Ty.pair Ty.str Ty.unit))) x] Ty.bool=(q46 D x).bind fun r=>some r.1.1:=by kernel_rfl
def qwz (a:Row):Bool:=decide ((a.length:Int)≤4)&&!qw (fun i=>!qc3 (a.getD i vd)) 0 a.length
theorem qbnk {X:Ext} (hX:XOk X) {n:Nat} (hn:W+4≤n) (a:Row) (ha:a.length≤M):qzh (DD X n) a=some ((qwz a,()),()):=by
 obtain ⟨n,rfl⟩:∃ k,n=k+1:=⟨n - 1,by omega⟩
 have hM:=qcn
 have hd:=qch
 have hW:=qbt
 rw[qbly hX]
 simp only[qy4,q7q]
 unfold qwz
 by_cases h:(a.length:Int)≤4
 ·rw[qk h,decide_eq_true h,qbq9 hX (n:=n) (by omega) a (by omega) _ (fun i=>!qc3 (a.getD i vd)) (fun i hi=>by
   obtain ⟨n,rfl⟩:∃ k,n=k+3:=⟨n - 3,by omega⟩
   rw[qbqu,show n+3 - 2=n+1 from rfl,qbgf hX]
   simp only[qvs,q5n]
   rw[qbae hX (by omega),qf];rfl),qf];rfl
 ·rw[qp h,decide_eq_false h];rfl
end Go.G

namespace Go.G
open Go Go.V
abbrev Cur:=List Int×Int×Int×Unit
def qd6 (c:Cur):Prop:=c.1.length≤1048576∧0≤c.2.1∧c.2.1≤c.1.length
theorem qbdh (x:BitVec (IntKind.bits IntKind.i64)):0≤IntKind.wrap IntKind.i64 ((BitVec.toNat (BitVec.and x (BitVec.ofInt (IntKind.bits IntKind.i64) 255)):Nat):Int)∧IntKind.wrap IntKind.i64 ((BitVec.toNat (BitVec.and x (BitVec.ofInt (IntKind.bits IntKind.i64) 255)):Nat):Int)≤255:=by
 have h:BitVec.toNat (BitVec.and x (BitVec.ofInt (IntKind.bits IntKind.i64) 255))≤255:=by
  show BitVec.toNat (x &&&BitVec.ofInt (IntKind.bits IntKind.i64) 255)≤255
  rw[BitVec.toNat_and]
  exact Nat.le_trans Nat.and_le_right (by decide)
 rw[qby (by omega) (by omega)]
 omega
theorem q52 {X:Ext} (hX:XOk X) {n:Nat} (hn:1≤n) {c:Cur} (hc:qd6 c):∃ (x:Int) (c':Cur),0≤x∧x≤255∧qd6 c'∧qkw (DD X n) c=some ((x,()),(c',())):=by
 obtain ⟨n,rfl⟩:∃ k,n=k+1:=⟨n - 1,by omega⟩
 obtain ⟨h1,h2,h3⟩:=hc
 rw[qbn7 hX]
 simp only[q2k,qbag]
 by_cases h:c.2.1<(c.1.length:Int)
 ·rw[qk h,ixn h2 h,br_t,qby (x:=c.2.1+1) (by omega) (by omega)]
  refine ⟨_,(c.1,c.2.1+1,_,()),(qbdh _).1,(qbdh _).2,⟨h1,?_,?_⟩,rfl⟩
  ·show 0≤c.2.1+1;omega
  ·show c.2.1+1≤(c.1.length:Int);omega
 ·rw[qp h]
  have k:∀ h u,qd6 (c.1,c.2.1,h,u):=fun _ _=>⟨h1,h2,h3⟩
  exact ⟨_,_,(qbdh _).1,(qbdh _).2,k _ _,rfl⟩
theorem qj6 {X:Ext} (hX:XOk X) {n:Nat} (hn:2≤n) {c:Cur} (hc:qd6 c) (k:Int):∃ (x:Int) (c':Cur),(0<k→0≤x∧x<k)∧(k≤0→x=0)∧qd6 c'∧qda (DD X n) c k=some ((x,()),(c',())):=by
 obtain ⟨n,rfl⟩:∃ k,n=k+1:=⟨n - 1,by omega⟩
 rw[qblw hX]
 simp only[q0z,q80]
 by_cases h:k≤0
 ·rw[qk h]
  exact ⟨0,c,fun h2=>by omega,fun _=>rfl,hc,rfl⟩
 ·rw[qp h]
  by_cases h2:k≤256
  ·obtain ⟨x,c',x0,x1,hc',e⟩:=q52 hX (n:=n) (by omega) hc
   rw[qk h2,e,qf]
   dsimp only
   rw[qp (by omega)]
   refine ⟨_,_,fun _=>?_,fun h3=>by omega,hc',rfl⟩
   rw[Int.tmod_eq_emod_of_nonneg x0]
   exact ⟨Int.emod_nonneg _ (by omega),Int.emod_lt_of_pos _ (by omega)⟩
  ·obtain ⟨x,c1,x0,x1,hc1,e1⟩:=q52 hX (n:=n) (by omega) hc
   obtain ⟨y,c2,y0,y1,hc2,e2⟩:=q52 hX (n:=n) (by omega) hc1
   obtain ⟨z,c3,z0,z1,hc3,e3⟩:=q52 hX (n:=n) (by omega) hc2
   obtain ⟨w,c4,w0,w1,hc4,e4⟩:=q52 hX (n:=n) (by omega) hc3
   rw[qp h2,e1,qf]
   dsimp only
   rw[e2,qf]
   dsimp only
   rw[e3,qf]
   dsimp only
   rw[e4,qf]
   dsimp only
   rw[qp (by omega),qby (x:=x * 16777216) (by omega) (by omega),qby (x:=y * 65536) (by omega) (by omega),qby (x:=x * 16777216+y * 65536) (by omega) (by omega),
    qby (x:=z * 256) (by omega) (by omega),qby (x:=x * 16777216+y * 65536+z * 256) (by omega) (by omega),qby (x:=x * 16777216+y * 65536+z * 256+w) (by omega) (by omega)]
   refine ⟨_,_,fun _=>?_,fun h3=>by omega,hc4,rfl⟩
   rw[Int.tmod_eq_emod_of_nonneg (by omega)]
   exact ⟨Int.emod_nonneg _ (by omega),Int.emod_lt_of_pos _ (by omega)⟩
theorem q5j {X:Ext} (hX:XOk X) {n:Nat} (hn:3≤n) {c:Cur} (hc:qd6 c) (k:Int):∃ (b:Bool) (c':Cur),qd6 c'∧qkx (DD X n) c k=some ((b,()),(c',())):=by
 obtain ⟨n,rfl⟩:∃ k,n=k+1:=⟨n - 1,by omega⟩
 rw[qbn3 hX]
 simp only[q2s,qbad]
 obtain ⟨x,c',_,_,hc',e⟩:=qj6 hX (n:=n) (by omega) hc k
 rw[e,qf]
 exact ⟨_,_,hc',rfl⟩
theorem qbwc {X:Ext} (hX:XOk X) {n:Nat} (hn:3≤n) {c:Cur} (hc:qd6 c) (l:List ByteArray) (hl:0<l.length):∃ (x:ByteArray) (c':Cur),x∈l∧qd6 c'∧q2e (DD X n) c l=some ((x,()),(c',())):=by
 obtain ⟨n,rfl⟩:∃ k,n=k+1:=⟨n - 1,by omega⟩
 rw[qbnu hX]
 simp only[q2f,qbaf]
 obtain ⟨x,c',h1,_,hc',e⟩:=qj6 hX (n:=n) (by omega) hc (l.length:Int)
 obtain ⟨x0,x1⟩:=h1 (by omega)
 rw[e,qf]
 dsimp only
 rw[ixn x0 x1,br_t,qz (by omega)]
 exact ⟨_,_,List.getElem_mem _,hc',rfl⟩
theorem qbr6 (D:Den ctx) (n:Nat) {K0:List Int→Int→Option ((Cur×Unit)×Unit)} (a:List Int) (ha:a.length≤1048576):∀ (m i:Nat) (h:Int),i≤a.length→a.length - i<m→∃ h':Int,qmn D n K0 m a h i=K0 a h'
 | 0,_,_,_,h=>by omega
 | m+1,i,h,hi,hf=>by
  simp only[qmn,q2z]
  by_cases h1:i<a.length
  ·by_cases h2:(i:Int)<4000
   ·rw[decide_eq_true (by omega:(i:Int)<(a.length:Int)),cond_true,qk h2,decide_eq_true (by omega:(0:Int)≤(i:Int)),Bool.and_self,br_t,qr (by omega)]
    exact qbr6 D n a ha m (i+1) _ (by omega) (by omega)
   ·rw[decide_eq_true (by omega:(i:Int)<(a.length:Int)),cond_true,qp h2]
    exact ⟨h,rfl⟩
  ·rw[decide_eq_false (by omega:¬ (i:Int)<(a.length:Int)),cond_false,br_f]
   exact ⟨h,rfl⟩
theorem qbx8 {X:Ext} (hX:XOk X) {n:Nat} (hn:W+1≤n) (a:List Int) (ha:a.length≤1048576):∃ c:Cur,qd6 c∧q4z (DD X n) a=some ((c,()),()):=by
 obtain ⟨n,rfl⟩:∃ k,n=k+1:=⟨n - 1,by omega⟩
 have hW:=qbt
 rw[qbqi hX]
 simp only[q51,q5m,q0l]
 obtain ⟨h',e⟩:=qbr6 (DD X n) n (K0:=fun v w=>qyc (DD X n) n v w) a ha n 0 (IntKind.wrap IntKind.i64 (27323+(a.length:Int))) (by omega) (by omega)
 rw[show ((0:Nat):Int)=0 from rfl] at e
 exact ⟨(a,0,h',()),⟨ha,by show (0:Int)≤0;omega,by show (0:Int)≤(a.length:Int);omega⟩,e⟩
theorem qbz0 {X:Ext} (hX:XOk X) {n:Nat} (hn:1≤n) (a:List Int):q9b (DD X n) a=some ((decide ((a.length:Int)>1048576),()),()):=by
 obtain ⟨n,rfl⟩:∃ k,n=k+1:=⟨n - 1,by omega⟩
 rw[qbtb hX];rfl
end Go.G

namespace Go.G
set_option maxRecDepth 100000
open Go Go.V Go.Proofs
theorem qbfc {X:Ext} (hX:XOk X) {n:Nat} (hn:3≤n) {c:Cur} (hc:qd6 c) (l:List Int) (hl:0<l.length):∃ (x:Int) (c':Cur),x∈l∧qd6 c'∧qqa (DD X n) c l=some ((x,()),(c',())):=by
 obtain ⟨n,rfl⟩:∃ k,n=k+1:=⟨n - 1,by omega⟩
 rw[qbhf hX]
 simp only[qwi,q40]
 obtain ⟨x,c',h1,h2,h3,e⟩:=qj6 hX (n:=n) (by omega) hc l.length
 obtain ⟨h4,h5⟩:=h1 (by omega)
 rw[e,qf]
 dsimp only
 rw[ixn h4 h5,br_t]
 exact ⟨_,c',qck (by omega),h3,rfl⟩
theorem qbe5 {X:Ext} (hX:XOk X) {n:Nat} (hn:4≤n) {c:Cur} (hc:qd6 c) (k:Int):∃ (v:Value) (c':Cur),v.2.2.1.size≤3∧qd6 c'∧qpt (DD X n) c k=some ((v,()),(c',())):=by
 obtain ⟨n,rfl⟩:∃ k,n=k+1:=⟨n - 1,by omega⟩
 rw[qbga hX]
 simp only[qvz,q5e]
 by_cases h1:k=1
 ·rw[qk h1]
  obtain ⟨x,c',_,_,h3,e⟩:=qj6 hX (n:=n) (by omega) hc 2
  rw[e,qf]
  exact ⟨_,c',Nat.zero_le _,h3,rfl⟩
 ·rw[qp h1]
  by_cases h2:k=2
  ·rw[qk h2]
   obtain ⟨x,c',_,h3,e⟩:=qbfc hX (n:=n) (by omega) hc [0,1,-1,7,255,256,-1000000000000,1000000000000] (by decide)
   rw[e,qf]
   exact ⟨_,c',Nat.zero_le _,h3,rfl⟩
  ·rw[qp h2]
   by_cases h4:k=3
   ·rw[qk h4]
    obtain ⟨x,c',hx,h3,e⟩:=qbwc hX (n:=n) (by omega) hc [ByteArray.mk #[],ByteArray.mk #[UInt8.ofNat 97],ByteArray.mk #[UInt8.ofNat 97,UInt8.ofNat 98],ByteArray.mk #[UInt8.ofNat 97,UInt8.ofNat 0],ByteArray.mk #[UInt8.ofNat 97,UInt8.ofNat 0,UInt8.ofNat 98],ByteArray.mk #[UInt8.ofNat 0],ByteArray.mk #[UInt8.ofNat 1],ByteArray.mk #[UInt8.ofNat 255],ByteArray.mk #[UInt8.ofNat 98]] (by decide)
    have hs:∀ y∈[ByteArray.mk #[],ByteArray.mk #[UInt8.ofNat 97],ByteArray.mk #[UInt8.ofNat 97,UInt8.ofNat 98],ByteArray.mk #[UInt8.ofNat 97,UInt8.ofNat 0],ByteArray.mk #[UInt8.ofNat 97,UInt8.ofNat 0,UInt8.ofNat 98],ByteArray.mk #[UInt8.ofNat 0],ByteArray.mk #[UInt8.ofNat 1],ByteArray.mk #[UInt8.ofNat 255],ByteArray.mk #[UInt8.ofNat 98]],y.size≤3:=by decide +kernel
    refine ⟨(k,0,x,()),c',hs x hx,h3,?_⟩
    refine Eq.trans (congrArg (fun z=>qi z _) e) ?_
    rw[qf]
   ·rw[qp h4]
    exact ⟨_,c,Nat.zero_le _,hc,rfl⟩
structure DrawnS (s:qbc):Prop where
 lo:2≤s.1.length
 hi:s.1.length≤4
 names:∀ c∈s.1,c.1.size≤13
 key:s.2.1.length≤2
 ixs:s.2.2.1.length≤3
 ixn:∀ x∈s.2.2.1,x.1.size≤1
 ixc:∀ x∈s.2.2.1,x.2.1.length≤2
theorem DrawnS.sm {s:qbc} (h:DrawnS s):SchSm s:=by
 have hM:=qcn
 obtain ⟨a,b,c,d,e,f,g⟩:=h
 exact ⟨by omega,fun x hx=>by have:=c x hx;omega,by omega,by omega,fun x hx=>by have:=f x hx;omega,fun x hx=>by have:=g x hx;omega⟩
def qj2:List ByteArray:=[ByteArray.mk #[UInt8.ofNat 105,UInt8.ofNat 100],ByteArray.mk #[UInt8.ofNat 110,UInt8.ofNat 97,UInt8.ofNat 109,UInt8.ofNat 101],
    ByteArray.mk #[UInt8.ofNat 115,UInt8.ofNat 105,UInt8.ofNat 122,UInt8.ofNat 101],ByteArray.mk #[UInt8.ofNat 111,UInt8.ofNat 110]]
theorem qbl6:∀ x∈qj2,x.size≤4:=by decide +kernel
theorem qbn4:qj2.length=4:=rfl
theorem qbmd {α:Type} (l:List α) (x d:α) (j:Nat) (hj:j<(l++[x]).length):(l++[x]).getD j d=if j<l.length then l.getD j d else x:=by
 simp only[List.getD]
 by_cases h:j<l.length
 ·rw[if_pos h,List.getElem?_append_left h]
 ·rw[List.length_append] at hj
  simp only[List.length_cons,List.length_nil] at hj
  have:j=l.length:=by omega
  subst this
  rw[if_neg h,List.getElem?_append_right (Nat.le_refl _),Nat.sub_self];rfl
def q3r (cs:List Col):Prop:=∀ j,j<cs.length→(cs.getD j cd).1=qj2.getD j ByteArray.empty∧inR (cs.getD j cd).2.1 1 3=true∧(j=0→(cs.getD j cd).2.2.1=false)
theorem q3r.push {cs:List Col} (h:q3r cs) {x:Col} (h1:x.1=qj2.getD cs.length ByteArray.empty) (h2:inR x.2.1 1 3=true) (h3:cs.length=0→x.2.2.1=false):q3r (cs++[x]):=by
 intro j hj
 rw[qbmd _ _ _ _ hj]
 by_cases hl:j<cs.length
 ·rw[if_pos hl];exact h j hl
 ·rw[if_neg hl]
  rw[List.length_append] at hj
  simp only[List.length_cons,List.length_nil] at hj
  have:j=cs.length:=by omega
  subst this
  exact ⟨h1,h2,h3⟩
theorem q3r.set0 {cs:List Col} (h:q3r cs) (h0:0<cs.length) {k:Int} (hk:inR k 1 3=true):q3r (cs.set 0 ((cs.getD 0 cd).1,k,(cs.getD 0 cd).2.2)):=by
 intro j hj
 rw[List.length_set] at hj
 have hg:(cs.set 0 ((cs.getD 0 cd).1,k,(cs.getD 0 cd).2.2)).getD j cd=if j=0 then ((cs.getD 0 cd).1,k,(cs.getD 0 cd).2.2) else cs.getD j cd:=by
  by_cases e:j=0
  ·subst e
   rw[if_pos rfl,qz (by rw[List.length_set];exact hj),List.getElem_set_self]
  ·rw[if_neg e]
   simp only[List.getD,List.getElem?_set]
   rw[if_neg (fun k=>e k.symm)]
 rw[hg]
 obtain ⟨a,b,c⟩:=h j hj
 by_cases e:j=0
 ·subst e
  rw[if_pos rfl];exact ⟨a,hk,c⟩
 ·rw[if_neg e];exact ⟨a,b,c⟩
theorem qboe {x:Int} (h0:0≤x) (h:x<3):inR (IntKind.wrap IntKind.i64 (1+x)) 1 3=true:=by
 rw[qby (by omega) (by omega)]
 unfold inR
 rw[decide_eq_true (by omega),decide_eq_true (by omega)];rfl
theorem qbql:∀ j,j<4→qqq (qj2.getD j ByteArray.empty)=true:=by decide +kernel
theorem qbnh:∀ j,j<4→∀ k,k<4→qj2.getD j ByteArray.empty=qj2.getD k ByteArray.empty→j=k:=by decide +kernel
theorem q5t {X:Ext} (hX:XOk X) (N n:Nat) (hN:3≤N) (K:Int→Cur→qbc→qbc→Option ((qbc×Unit)×Cur×Unit)) (nn:Nat) (hnn:nn≤4) (z:qbc) (xs:List qk4):∀ (m i:Nat) (c:Cur) (acc:List Col),i≤nn→nn - i<m→acc.length=i→(∀ x∈acc,x.1.size≤4)→q3r acc→qd6 c→
  ∃ (c':Cur) (cs:List Col),qd6 c'∧cs.length=nn∧(∀ x∈cs,x.1.size≤4)∧q3r cs∧qf8 (DD X N) n K m (nn:Int) (i:Int) c z (acc,[],xs,()) qj2=K (nn:Int) c' z (cs,[],xs,())
 | 0,_,_,_,_,h,_,_,_,_=>by omega
 | m+1,i,c,acc,hi,hf,ha,hs,hR,hc=>by
  simp only[qf8,qqe]
  have hb:=qco
  by_cases h:i<nn
  ·have hi4:i<qj2.length:=by rw[qbn4];omega
   have hname:=qbl6 _ (qck (d:=ByteArray.empty) hi4)
   rw[qk (by exact_mod_cast h),ix hi4,br_t,Int.toNat_natCast,qr (by omega)]
   obtain ⟨x,c1,hx,_,h1,e1⟩:=qj6 hX (n:=N) (by omega) hc 3
   obtain ⟨x0,x3⟩:=hx (by omega)
   rw[e1,qf]
   dsimp only
   by_cases h0:(i:Int)>0
   ·rw[qk h0]
    obtain ⟨b,c2,h2,e2⟩:=q5j hX (n:=N) (by omega) h1 2
    rw[e2,qf]
    dsimp only
    rw[qk (by omega)]
    exact q5t hX N n hN K nn hnn z xs m (i+1) c2 (acc++[(qj2.getD i ByteArray.empty,_,b,())]) (by omega) (by omega) (by simp;omega)
     (fun y hy=>by rcases List.mem_append.1 hy with hy | hy;exact hs y hy;simp only[List.mem_singleton] at hy;subst hy;exact hname) (hR.push (by rw[ha]) (qboe x0 x3) (fun e=>by omega)) h2
   ·rw[qp h0,qk (by omega)]
    exact q5t hX N n hN K nn hnn z xs m (i+1) c1 (acc++[(qj2.getD i ByteArray.empty,_,false,())]) (by omega) (by omega) (by simp;omega)
     (fun y hy=>by rcases List.mem_append.1 hy with hy | hy;exact hs y hy;simp only[List.mem_singleton] at hy;subst hy;exact hname) (hR.push (by rw[ha]) (qboe x0 x3) (fun _=>rfl)) h1
  ·rw[qp (by exact_mod_cast h)]
   exact ⟨c,acc,hc,by omega,hs,hR,rfl⟩
def qla:List ByteArray:=[ByteArray.mk #[UInt8.ofNat 120],ByteArray.mk #[UInt8.ofNat 121],ByteArray.mk #[UInt8.ofNat 122]]
theorem qbh6:∀ x∈qla,x.size≤1:=by decide +kernel
def IxsR (nn:Nat) (xs:List qk4):Prop:=∀ j,j<xs.length→(xs.getD j xd).1=qla.getD j ByteArray.empty∧qcr nn (xs.getD j xd).2.1 3=true
theorem IxsR.push {nn:Nat} {xs:List qk4} (h:IxsR nn xs) {x:qk4} (h1:x.1=qla.getD xs.length ByteArray.empty) (h2:qcr nn x.2.1 3=true):IxsR nn (xs++[x]):=by
 intro j hj
 rw[qbmd _ _ _ _ hj]
 by_cases hl:j<xs.length
 ·rw[if_pos hl];exact h j hl
 ·rw[if_neg hl]
  rw[List.length_append] at hj
  simp only[List.length_cons,List.length_nil] at hj
  have:j=xs.length:=by omega
  subst this
  exact ⟨h1,h2⟩
theorem qbv2 {nn:Nat} {a:Int} (h0:0≤a) (h:a<nn):qcr nn [a] 3=true:=by
 have e:inR a 0 ((nn:Int) - 1)=true:=by unfold inR;rw[decide_eq_true (by omega),decide_eq_true (by omega)];rfl
 simp only[qcr,qw,has,List.length_cons,List.length_nil,List.getD_cons_zero,e,List.take]
 rfl
theorem qbmp {nn:Nat} {a b:Int} (h0:0≤a) (h:a<nn) (h1:0≤b) (h2:b<nn) (h3:b≠a):qcr nn [a,b] 3=true:=by
 have e:inR a 0 ((nn:Int) - 1)=true:=by unfold inR;rw[decide_eq_true (by omega),decide_eq_true (by omega)];rfl
 have e2:inR b 0 ((nn:Int) - 1)=true:=by unfold inR;rw[decide_eq_true (by omega),decide_eq_true (by omega)];rfl
 simp only[qcr,qw,has,List.length_cons,List.length_nil,List.getD_cons_zero,List.getD_cons_succ,e,e2,List.take,Bool.not_true,Bool.false_or,Bool.or_false]
 rw[decide_eq_false h3]
 rfl
theorem qbws {nn:Nat} {y:Int} (hn:nn≤4) (h0:0≤y) (h:y<(nn:Int) - 1):qcr nn [IntKind.wrap IntKind.i64 (1+y)] 3=true:=by
 rw[qby (by omega) (by omega)]
 exact qbv2 (by omega) (by omega)
theorem qbxc {nn:Nat} {y:Int} (hn:nn≤4) (h0:0≤y) (h:y<(nn:Int) - 1):qcr nn [IntKind.wrap IntKind.i64 (1+y),Int.tmod (IntKind.wrap IntKind.i64 (IntKind.wrap IntKind.i64 (1+y)+1)) (nn:Int)] 3=true:=by
 rw[qby (show -9223372036854775808≤1+y by omega) (by omega),qby (by omega) (by omega)]
 by_cases e:1+y+1=nn
 ·rw[e,Int.tmod_self]
  exact qbmp (by omega) (by omega) (by omega) (by omega) (by omega)
 ·rw[Int.tmod_eq_of_lt (by omega) (by omega)]
  exact qbmp (by omega) (by omega) (by omega) (by omega) (by omega)
theorem qbn6:∀ j,j<3→qqq (qla.getD j ByteArray.empty)=true:=by decide +kernel
theorem qbla:∀ j,j<3→∀ k,k<3→qla.getD j ByteArray.empty=qla.getD k ByteArray.empty→j=k:=by decide +kernel
theorem qbtg {cs:List Col} {xs:List qk4} (hc:q3r cs) (h2:2≤cs.length) (h4:cs.length≤4) (hx:IxsR cs.length xs) (hl:xs.length≤2):qe5 (cs,[0],xs,())=true:=by
 have a1:qw (qxl cs) 0 cs.length=false:=qbj.2 fun j _ hj=>by
  have hj:j<cs.length:=by omega
  obtain ⟨n1,n2,n3⟩:=hc j hj
  have hcol:qbc7 cs (cs.getD j cd).1=(j:Int):=by
   unfold qbc7
   cases hf:qy (fun i=>decide ((cs.getD i cd).1=(cs.getD j cd).1)) 0 cs.length with
   | none=>
    have:=qja hf j (Nat.zero_le _) (by omega)
    rw[decide_eq_true rfl] at this;cases this
   | some k=>
    obtain ⟨_,k2,k3,_⟩:=qc9 hf
    have hk:k<cs.length:=by omega
    simp only[decide_eq_true_eq] at k3
    rw[(hc k hk).1,n1] at k3
    have:=qbnh k (by omega) j (by omega) k3
    rw[this]
  simp only[qxl]
  rw[n1,qbql j (by omega),n2,←n1,hcol,decide_eq_true rfl];rfl
 have a2:qw (qpv cs.length xs) 0 xs.length=false:=qbj.2 fun j _ hj=>by
  have hj:j<xs.length:=by omega
  obtain ⟨n1,n2⟩:=hx j hj
  have a3:qw (fun k=>decide ((xs.getD k xd).1=(xs.getD j xd).1)) 0 j=false:=qbj.2 fun k _ hk=>by
   have hk:k<j:=by omega
   refine decide_eq_false fun e=>?_
   rw[(hx k (by omega)).1,n1] at e
   have:=qbla k (by omega) j (by omega) e
   omega
  simp only[qpv]
  rw[a3,n1,qbn6 j (by omega),n2];rfl
 have a3:qcr cs.length [0] 4=true:=by
  have e:inR 0 0 ((cs.length:Int) - 1)=true:=by unfold inR;rw[decide_eq_true (by omega),decide_eq_true (by omega)];rfl
  simp only[qcr,qw,has,List.length_cons,List.length_nil,List.getD_cons_zero,e,List.take]
  rfl
 have a4:qzn cs [0]=false:=by
  have:=(hc 0 (by omega)).2.2 rfl
  show ((cs.getD 0 cd).2.2.1||false)=false
  rw[this];rfl
 have a5:inR (cs.length:Int) 1 5=true:=by unfold inR;rw[decide_eq_true (by omega),decide_eq_true (by omega)];rfl
 unfold qe5
 dsimp only
 rw[a1,a2,a3,a4,a5,decide_eq_true (by omega)];rfl
theorem q48 {X:Ext} (hX:XOk X) (N n:Nat) (hN:3≤N) (K:Cur→qbc→qbc→Option ((qbc×Unit)×Cur×Unit)) (nn:Nat) (hn0:2≤nn) (hnn:nn≤4) (z:qbc) (cs:List Col) (key:List Int):∀ (m i:Nat) (c:Cur) (acc:List qk4),3 - i<m→i≤2→acc.length=i→(∀ x∈acc,x.1.size≤1∧x.2.1.length≤2)→IxsR nn acc→qd6 c→
  ∃ (c':Cur) (xs:List qk4),qd6 c'∧xs.length≤2∧(∀ x∈xs,x.1.size≤1∧x.2.1.length≤2)∧IxsR nn xs∧qf7 (DD X N) n K m (nn:Int) (i:Int) c z (cs,key,acc,())=K c' z (cs,key,xs,())
 | 0,_,_,_,h,_,_,_,_,_=>by omega
 | m+1,i,c,acc,hf,hi,ha,hs,hR,hc=>by
  simp only[qf7,qpn]
  have hb:=qco
  obtain ⟨x,c1,hx,_,h1,e1⟩:=qj6 hX (n:=N) (by omega) hc 3
  obtain ⟨x1,x2⟩:=hx (by omega)
  rw[e1,qf]
  dsimp only
  by_cases h:(i:Int)<x
  ·have hi3:i<qla.length:=by show i<3;omega
   have hname:=qbh6 _ (qck (d:=ByteArray.empty) hi3)
   have hc3:(decide ((0:Int)≤(i:Int))&&decide ((i:Int)<3))=true:=by rw[decide_eq_true (by omega),decide_eq_true (by omega)];rfl
   rw[qk h]
   obtain ⟨y,c2,hy,_,h2,e2⟩:=qj6 hX (n:=N) (by omega) h1 (IntKind.wrap IntKind.i64 ((nn:Int) - 1))
   rw[qby (by omega) (by omega)] at hy
   obtain ⟨y0,y1⟩:=hy (by omega)
   obtain ⟨b,c3,h3,e3⟩:=q5j hX (n:=N) (by omega) h2 2
   obtain ⟨b2,c4,h4,e4⟩:=q5j hX (n:=N) (by omega) h3 2
   rw[e2,qf]
   dsimp only
   rw[hc3,br_t,e3,qf]
   dsimp only
   rw[e4,qf,qr (by omega),Int.toNat_natCast]
   dsimp only
   cases b2
   ·rw[br_f,qk (by omega)]
    exact q48 hX N n hN K nn hn0 hnn z cs key m (i+1) c4 (acc++[(qla.getD i ByteArray.empty,_,b,())]) (by omega) (by omega) (by simp;omega)
     (fun y hy=>by rcases List.mem_append.1 hy with hy | hy;exact hs y hy;simp only[List.mem_singleton] at hy;subst hy;exact ⟨hname,by simp⟩) (hR.push (by rw[ha]) (qbws hnn y0 y1)) h4
   ·rw[br_t,qp (by omega),qk (by omega)]
    exact q48 hX N n hN K nn hn0 hnn z cs key m (i+1) c4 (acc++[(qla.getD i ByteArray.empty,_,b,())]) (by omega) (by omega) (by simp;omega)
     (fun y hy=>by rcases List.mem_append.1 hy with hy | hy;exact hs y hy;simp only[List.mem_singleton] at hy;subst hy;exact ⟨hname,by simp⟩) (hR.push (by rw[ha]) (qbxc hnn y0 y1)) h4
  ·rw[qp h]
   exact ⟨c1,acc,h1,by omega,hs,hR,rfl⟩
theorem qbw1 {l:List Col} {i k:Nat} {x:Col} (h:∀ y∈l,y.1.size≤k) (hx:x.1.size≤k):∀ y∈l.set i x,y.1.size≤k:=by
 intro y hy
 rcases List.mem_or_eq_of_mem_set hy with hy | rfl
 ·exact h y hy
 ·exact hx
theorem qbld {X:Ext} (hX:XOk X) {n:Nat} (hn:W+4≤n) {c:Cur} (hc:qd6 c):∃ (s:qbc) (c':Cur),DrawnS s∧qe5 s=true∧s.2.1.length≤1∧s.2.2.1.length≤2∧qd6 c'∧qrq (DD X n) c=some ((s,()),(c',())):=by
 obtain ⟨n,rfl⟩:∃ k,n=k+1:=⟨n - 1,by omega⟩
 have hW:=qbt
 rw[qba2 hX]
 simp only[qrj,qrr,qpc]
 obtain ⟨x,c1,hx,_,h1,e1⟩:=qj6 hX (n:=n) (by omega) hc 3
 obtain ⟨x1,x2⟩:=hx (by omega)
 rw[e1,qf]
 dsimp only
 rw[qby (by omega) (by omega)]
 obtain ⟨nn,hnn⟩:∃ nn:Nat,(nn:Int)=2+x:=⟨(2+x).toNat,by omega⟩
 rw[←hnn]
 obtain ⟨c2,cs,h2,hl,hs,hR,e2⟩:=q5t hX n n (by omega) (fun v0_0 v0_1 v0_2 v0_3=>qjq (DD X n) n (qki (DD X n) n) v0_0 v0_1 v0_2 v0_3) nn (by omega) ([],[],[],()) [] n 0 c1 [] (by omega) (by omega) rfl (fun x hx=>by simp at hx) (fun j hj=>by simp at hj) h1
 obtain ⟨c3,xs,h3,hxl,hxs,hI,e3⟩:=q48 hX n n (by omega) (fun v0_0 v0_1 v0_2=>qju (DD X n) n v0_0 v0_1 v0_2) nn (by omega) (by omega) ([],[],[],()) cs [0] n 0 c2 [] (by omega) (by omega) rfl (fun x hx=>by simp at hx) (fun j hj=>by simp at hj) h2
 obtain ⟨y,c4,hy,h4,e4⟩:=qbfc hX (n:=n) (by omega) h3 [2,3] (by decide)
 have hc0:(decide ((0:Nat)≤0)&&decide ((0:Int)<(cs.length:Int)))=true:=by rw[decide_eq_true (by omega),decide_eq_true (by omega)];rfl
 refine ⟨(cs.set 0 ((cs.getD 0 cd).1,y,(cs.getD 0 cd).2.2),[0],xs,()),c4,⟨by simp;omega,by simp;omega,?_,by simp,by simp only;omega,fun x hx=>(hxs x hx).1,fun x hx=>(hxs x hx).2⟩,?_,by simp,by simpa using hxl,h4,?_⟩
 ·have h0:=hs _ (qck (d:=cd) (show 0<cs.length by omega))
  intro z hz
  have:=qbw1 (i:=0) (x:=((cs.getD 0 cd).1,y,(cs.getD 0 cd).2.2)) hs h0 z hz
  omega
 ·have hk:inR y 1 3=true:=by
   simp only[List.mem_cons,List.not_mem_nil,or_false] at hy
   rcases hy with rfl | rfl<;>rfl
  have hR2:=hR.set0 (by omega) hk
  exact qbtg hR2 (by rw[List.length_set];omega) (by rw[List.length_set];omega) (by rw[List.length_set,hl];exact hI) hxl
 ·refine Eq.trans e2 ?_
  simp only[qjq,qki]
  refine Eq.trans e3 ?_
  simp only[qju]
  rw[e4,qf]
  dsimp only
  rw[hc0,br_t]
theorem qbmy {X:Ext} (hX:XOk X) (N n:Nat) (hN:4≤N) (K:Cur→Row→Option ((Row×Unit)×Cur×Unit)) (s:qbc) (hs:s.1.length≤4):∀ (m i:Nat) (c:Cur) (acc:Row),i≤s.1.length→s.1.length - i<m→acc.length=i→(∀ v∈acc,v.2.2.1.size≤3)→qd6 c→
  ∃ (c':Cur) (row:Row),qd6 c'∧row.length=s.1.length∧(∀ v∈row,v.2.2.1.size≤3)∧qfm (DD X N) n K m (i:Int) c s acc=K c' row
 | 0,_,_,_,_,h,_,_,_=>by omega
 | m+1,i,c,acc,hi,hf,ha,hv,hc=>by
  simp only[qfm,qs2]
  have hb:=qco
  have step:∀ (c':Cur) (v:Value),qd6 c'→v.2.2.1.size≤3→i<s.1.length→∃ (c2:Cur) (row:Row),qd6 c2∧row.length=s.1.length∧(∀ v∈row,v.2.2.1.size≤3)∧qfm (DD X N) n K m ((i+1:Nat):Int) c' s (acc++[v])=K c2 row:=
   fun c' v hc' hv' h=>qbmy hX N n hN K s hs m (i+1) c' (acc++[v]) (by omega) (by omega) (by simp;omega) (fun y hy=>by rcases List.mem_append.1 hy with hy | hy;exact hv y hy;simp only[List.mem_singleton] at hy;subst hy;exact hv') hc'
  by_cases h:i<s.1.length
  ·rw[qk (by exact_mod_cast h),ix h,br_t,Int.toNat_natCast,qr (by omega)]
   cases (s.1.getD i cd).2.2.1
   ·rw[br_f,br_t]
    obtain ⟨v,c2,hv2,h2,e2⟩:=qbe5 hX (n:=N) (by omega) hc (s.1.getD i cd).2.1
    rw[e2,qf,qk (show acc.length+1≤qbi by omega)]
    exact step c2 v h2 hv2 h
   ·rw[br_t]
    obtain ⟨b,c1,h1,e1⟩:=q5j hX (n:=N) (by omega) hc 3
    rw[e1,qf]
    dsimp only
    cases b
    ·rw[br_f,br_t]
     obtain ⟨v,c2,hv2,h2,e2⟩:=qbe5 hX (n:=N) (by omega) h1 (s.1.getD i cd).2.1
     rw[e2,qf,qk (show acc.length+1≤qbi by omega)]
     exact step c2 v h2 hv2 h
    ·rw[br_t,qk (show acc.length+1≤qbi by omega)]
     exact step c1 vd h1 (Nat.zero_le _) h
  ·rw[qp (by exact_mod_cast h)]
   exact ⟨c,acc,hc,by omega,hv,rfl⟩
theorem qbc4 {X:Ext} (hX:XOk X) {n:Nat} (hn:W+1≤n) {c:Cur} (hc:qd6 c) (s:qbc) (hs:s.1.length≤4):∃ (row:Row) (c':Cur),qd6 c'∧row.length=s.1.length∧(∀ v∈row,v.2.2.1.size≤3)∧qom (DD X n) c s=some ((row,()),(c',())):=by
 obtain ⟨n,rfl⟩:∃ k,n=k+1:=⟨n - 1,by omega⟩
 have hW:=qbt
 rw[qbed hX]
 simp only[qua,quf,qro]
 obtain ⟨c',row,h1,h2,h3,e⟩:=qbmy hX n n (by omega) (fun v0_0 v0_1=>qpl (DD X n) n v0_0 v0_1) s hs n 0 c [] (by omega) (by omega) rfl (fun v hv=>by simp at hv) hc
 exact ⟨row,c',h1,h2,h3,e⟩
end Go.G

namespace Go.G
set_option maxRecDepth 100000
open Go Go.V Go.Proofs
structure XC (X:Ext):Prop where
 ok:XOk X
 cmp:∀ n a b,q3f (DD X (n+1)) a b=some ((scmp a b,()),())
theorem q9q:∀ (a b:List UInt8),(Lib.compareBytes a b<0↔Op.bytesLess a b=true)∧(Lib.compareBytes a b=0↔a=b)
 | [],[]=>by simp[Lib.compareBytes,Op.bytesLess]
 | [],_::_=>by simp[Lib.compareBytes,Op.bytesLess]
 | _::_,[]=>by simp[Lib.compareBytes,Op.bytesLess]
 | x::a,y::b=>by
  obtain ⟨h1,h2⟩:=q9q a b
  simp only[Lib.compareBytes,Op.bytesLess]
  by_cases hxy:x<y
  ·have hne:x≠y:=fun e=>by subst e;exact absurd hxy (UInt8.lt_irrefl x)
   simp[hxy,hne]
  ·by_cases hyx:y<x
   ·have hne:x≠y:=fun e=>by subst e;exact absurd hyx (UInt8.lt_irrefl x)
    simp[hxy,hyx,hne]
   ·have e:x=y:=UInt8.le_antisymm (UInt8.not_lt.1 hyx) (UInt8.not_lt.1 hxy)
    subst e
    simp[hxy,h1,h2]
theorem qbx9 (a b:ByteArray):scmp a b<0↔Op.bytesLess a.toList b.toList=true:=by
 unfold scmp
 rw[(q9q _ _).1,ByteArray.toList_eq,ByteArray.toList_eq]
theorem qbyh (a b:ByteArray):scmp a b=0↔a=b:=by
 unfold scmp
 rw[(q9q _ _).2]
 constructor
 ·intro h;cases a;cases b;simp only[ByteArray.mk.injEq];exact Array.toList_inj.1 h
 ·rintro rfl;rfl
def byv (a b:Value):Int:=bif decide (a.1<b.1)||(decide (a.1=b.1)&&decide (a.2.1<b.2.1)) then -1 else bif decide (a.1>b.1)||decide (a.2.1>b.2.1) then 1 else scmp a.2.2.1 b.2.2.1
def vlt (a b:Value):Bool:=bif !decide (a.1=b.1) then decide (a.1<b.1) else bif !decide (a.2.1=b.2.1) then decide (a.2.1<b.2.1) else Op.bytesLess a.2.2.1.toList b.2.2.1.toList
theorem qbu3 (a b:Value):(byv a b<0↔vlt a b=true)∧(byv a b=0↔a=b):=by
 obtain ⟨a1,a2,a3,⟨⟩⟩:=a
 obtain ⟨b1,b2,b3,⟨⟩⟩:=b
 have h1:=qbx9 a3 b3
 have h2:=qbyh a3 b3
 simp only[byv,vlt]
 by_cases k1:a1<b1
 ·have:¬ a1=b1:=by omega
  simp[k1,this]
 ·by_cases k2:a1=b1
  ·subst k2
   by_cases k3:a2<b2
   ·have:¬ a2=b2:=by omega
    simp[k3,this]
   ·by_cases k4:a2=b2
    ·subst k4
     simp[h1,h2]
    ·have:a2>b2:=by omega
     simp[k3,k4,this]
  ·have:a1>b1:=by omega
   simp[k1,k2,this]
theorem qbva {X:Ext} (hX:XC X) {n:Nat} (hn:2≤n) (a b:Value):q06 (DD X n) a b=some ((byv a b,()),()):=by
 obtain ⟨n,rfl⟩:∃ k,n=k+2:=⟨n - 2,by omega⟩
 rw[qbkj hX.ok]
 simp only[qzb,q7y]
 rw[hX.cmp]
 simp only[qf,qjc,qbsb]
 unfold byv
 cases (decide (a.1<b.1)||(decide (a.1=b.1)&&decide (a.2.1<b.2.1)))<;>cases (decide (a.1>b.1)||decide (a.2.1>b.2.1))<;>rfl
theorem qbrg (D:Den ctx) (x y:Value):qbn ctx D (Clo.mk 141 []) [CapV.val (Ty.pair (Ty.int IntKind.i64) (Ty.pair (Ty.int IntKind.i64) (Ty.pair Ty.str Ty.unit))) x,CapV.val (Ty.pair (Ty.int IntKind.i64) (Ty.pair (Ty.int IntKind.i64) (Ty.pair Ty.str Ty.unit))) y] (Ty.int IntKind.i64)=(q06 D x y).bind fun r=>some r.1.1:=by kernel_rfl
def tcmp:Row→Row→Int
 | [],[]=>0
 | [],_::_=>-1
 | _::_,[]=>1
 | x::a,y::b=>if byv x y=0 then tcmp a b else byv x y
def tlt:Row→Row→Bool
 | [],[]=>false
 | [],_::_=>true
 | _::_,[]=>false
 | x::a,y::b=>if x=y then tlt a b else vlt x y
theorem qbrs:∀ (a b:Row),(decide (tcmp a b<0))=tlt a b
 | [],[]=>rfl
 | [],_::_=>rfl
 | _::_,[]=>rfl
 | x::a,y::b=>by
  obtain ⟨h1,h2⟩:=qbu3 x y
  simp only[tcmp,tlt]
  by_cases e:x=y
  ·simp only[if_pos (h2.2 e),if_pos e];exact qbrs a b
  ·simp only[if_neg (fun k=>e (h2.1 k)),if_neg e]
   by_cases k:byv x y<0
   ·rw[decide_eq_true k,h1.1 k]
   ·rw[decide_eq_false k]
    cases hv:vlt x y
    ·rfl
    ·exact absurd (h1.2 hv) k
theorem qbm1 {X:Ext} (hX:XC X) (N n:Nat) (hN:2≤N) (a b:Row) (ha:a.length≤M):∀ (m i:Nat),i≤a.length→i≤b.length→a.length - i<m→
  qv (DD X N) n (Clo.mk 141 []) (fun v w u=>qbx (DD X N) n (Clo.mk 141 []) v w u) (fun v w=>qbe (DD X N) n (Clo.mk 141 []) v w) m a b a a.length (i:Int)=some ((tcmp (a.drop i) (b.drop i),()),())
 | 0,_,_,_,h=>by omega
 | m+1,i,hi,hj,hf=>by
  have hM:=qcn
  simp only[qv,qb3]
  by_cases h:i<a.length
  ·rw[qk (by exact_mod_cast h),ix h,br_t,qc8 h]
   by_cases h2:i<b.length
   ·rw[qp (by omega),ix h2,br_t,qbrg,Int.toNat_natCast,qbva hX hN,qc8 h2,Option.bind_some,qf,qr (by omega),qz h,qz h2,qw4]
    simp only[tcmp]
    by_cases e:byv a[i] b[i]=0
    ·rw[decide_eq_true e,if_pos e,Bool.not_true,br_f]
     exact qbm1 hX N n hN a b ha m (i+1) (by omega) (by omega) (by omega)
    ·rw[decide_eq_false e,if_neg e,Bool.not_false,br_t];rfl
   ·rw[qk (by omega),qe7 h2];rfl
  ·rw[qp (by exact_mod_cast h),qe7 h]
   simp only[qbe]
   by_cases h2:i<b.length
   ·rw[qk (by omega),qc8 h2];rfl
   ·rw[qp (by omega),qe7 h2];rfl
theorem qbh5 {X:Ext} (hX:XC X) {n:Nat} (hn:W+3≤n) (a b:Row) (ha:a.length≤M):qvo (DD X n) a b=some ((tlt a b,()),()):=by
 obtain ⟨n,rfl⟩:∃ k,n=k+2:=⟨n - 2,by omega⟩
 have hW:=qbt
 have hM:=qcn
 rw[qbgd hX.ok]
 simp only[qv7,q5o]
 have e:qce (DD X (n+1)) a b (Clo.mk 141 [])=some ((tcmp a b,()),()):=by
  rw[qg1 hX.ok]
  simp only[qcg,qcf,qb0]
  exact qbm1 hX n n (by omega) a b ha n 0 (by omega) (by omega) (by omega)
 rw[e,qf]
 dsimp only
 rw[qbrs]
theorem qbe7 {X:Ext} (hX:XOk X) {n:Nat} (hn:1≤n) (a b:Value):qp4 (DD X n) a b=some ((decide (a=b),()),()):=by
 obtain ⟨n,rfl⟩:∃ k,n=k+1:=⟨n - 1,by omega⟩
 rw[qbfz hX]
 simp only[qvq,q4l,qbcu]
theorem qbrc {X:Ext} (hX:XOk X) {n:Nat} (hn:1≤n) (a b:Value):qwh (DD X n) a b=some ((vlt a b,()),()):=by
 obtain ⟨n,rfl⟩:∃ k,n=k+1:=⟨n - 1,by omega⟩
 rw[qbgx hX]
 simp only[qwf,q5k,qw4]
 unfold vlt
 cases decide (a.1=b.1)<;>cases decide (a.2.1=b.2.1)<;>rfl
theorem qbjd {X:Ext} (hX:XOk X) (N n:Nat) (hN:1≤N) (a b:Row) (ha:a.length≤M):∀ (m i:Nat),i≤a.length→i≤b.length→a.length - i<m→
  qh9 (DD X N) n (fun v w u=>qrs (DD X N) n v w u) (fun v w=>qix (DD X N) n v w) m a b (i:Int)=some ((tlt (a.drop i) (b.drop i),()),())
 | 0,_,_,_,h=>by omega
 | m+1,i,hi,hj,hf=>by
  have hM:=qcn
  simp only[qh9,qt6,qjc]
  by_cases h:i<a.length
  ·by_cases h2:i<b.length
   ·rw[decide_eq_true (show (i:Int)<a.length by omega),decide_eq_true (show (i:Int)<b.length by omega)]
    have c0:decide ((0:Int)≤(i:Int))=true:=decide_eq_true (by omega)
    rw[c0,Bool.true_and,br_t,br_t,br_t,qbe7 hX hN,qf,Int.toNat_natCast,qr (by omega),qc8 h,qc8 h2,qz h,qz h2]
    simp only[tlt]
    by_cases e:a[i]=b[i]
    ·rw[decide_eq_true e,if_pos e,Bool.not_true,br_f]
     exact qbjd hX N n hN a b ha m (i+1) (by omega) (by omega) (by omega)
    ·rw[decide_eq_false e,if_neg e,Bool.not_false,br_t,br_t,br_t,qbrc hX hN,qf];rfl
   ·rw[decide_eq_true (show (i:Int)<a.length by omega),decide_eq_false (show ¬ (i:Int)<b.length by omega),qc8 h,qe7 h2]
    simp only[Bool.and_false,br_f,qix,tlt]
    rw[decide_eq_false (by omega)]
  ·rw[decide_eq_false (show ¬ (i:Int)<a.length by omega),qe7 h]
   simp only[Bool.false_and,br_f,qix]
   by_cases h2:i<b.length
   ·rw[decide_eq_true (by omega),qc8 h2];rfl
   ·rw[decide_eq_false (by omega),qe7 h2];rfl
theorem q6i {X:Ext} (hX:XOk X) {n:Nat} (hn:W+1≤n) (a b:Row) (ha:a.length≤M):qqb (DD X n) a b=some ((tlt a b,()),()):=by
 obtain ⟨n,rfl⟩:∃ k,n=k+1:=⟨n - 1,by omega⟩
 have hW:=qbt
 have hM:=qcn
 rw[qbfy hX]
 simp only[qvl,qvn,qte]
 exact qbjd hX n n (by omega) a b ha n 0 (by omega) (by omega) (by omega)
theorem qbun {X:Ext} (hX:XOk X) (N n:Nat) (hN:1≤N) (a b:Row) (ha:a.length≤M):∀ (m i:Nat),i≤a.length→i≤b.length→a.length - i<m→
  qj9 (DD X N) n (fun v w u=>quu (DD X N) n v w u) (fun v w=>qk0 (DD X N) n v w) m a b (i:Int)=some ((decide (a.drop i=b.drop i),()),())
 | 0,_,_,_,h=>by omega
 | m+1,i,hi,hj,hf=>by
  have hM:=qcn
  simp only[qj9,qx0,qjc]
  by_cases h:i<a.length
  ·by_cases h2:i<b.length
   ·rw[decide_eq_true (show (i:Int)<a.length by omega),decide_eq_true (show (i:Int)<b.length by omega)]
    have c0:decide ((0:Int)≤(i:Int))=true:=decide_eq_true (by omega)
    rw[c0,Bool.true_and,br_t,br_t,br_t,qbe7 hX hN,qf,Int.toNat_natCast,qr (by omega),qc8 h,qc8 h2,qz h,qz h2]
    by_cases e:a[i]=b[i]
    ·rw[decide_eq_true e,Bool.not_true,br_f]
     refine Eq.trans (qbun hX N n hN a b ha m (i+1) (by omega) (by omega) (by omega)) ?_
     simp only[e,List.cons.injEq,true_and]
    ·rw[decide_eq_false e,Bool.not_false,br_t]
     simp only[e,List.cons.injEq,false_and,decide_false];rfl
   ·rw[decide_eq_true (show (i:Int)<a.length by omega),decide_eq_false (show ¬ (i:Int)<b.length by omega),qc8 h,qe7 h2]
    simp only[Bool.and_false,br_f,qk0]
    rw[decide_eq_false (by omega)];simp[h]
  ·rw[decide_eq_false (show ¬ (i:Int)<a.length by omega),qe7 h]
   simp only[Bool.false_and,br_f,qk0]
   by_cases h2:i<b.length
   ·rw[decide_eq_false (by omega),qc8 h2];simp[h2]
   ·rw[decide_eq_true (by omega),qe7 h2];simp
theorem qbmm {X:Ext} (hX:XOk X) {n:Nat} (hn:W+1≤n) (a b:Row) (ha:a.length≤M):qtq (DD X n) a b=some ((decide (a=b),()),()):=by
 obtain ⟨n,rfl⟩:∃ k,n=k+1:=⟨n - 1,by omega⟩
 have hW:=qbt
 have hM:=qcn
 rw[qbj7 hX]
 simp only[q0d,q0w,qwe]
 exact qbun hX n n (by omega) a b ha n 0 (by omega) (by omega) (by omega)
theorem qbv5 {a b:Row} (hl:a.length=b.length):qw (fun i=>!decide (a.getD i vd=b.getD i vd)) 0 a.length=!decide (a=b):=by
 by_cases e:a=b
 ·rw[decide_eq_true e,qbj.2 (fun j _ _=>by rw[e];simp)];rfl
 ·rw[decide_eq_false e]
  show _=true
  rw[←Bool.not_eq_false]
  intro hf
  apply e
  apply List.ext_getElem hl
  intro i h1 h2
  have:=qbj.1 hf i (by omega) (by omega)
  rw[qz h1,qz h2] at this
  simpa using this
theorem qby5 {X:Ext} (hX:XOk X) {n:Nat} (hn:W+1≤n) (a b:Row) (ha:a.length≤M):qfz (DD X n) a b=some ((decide (a=b),()),()):=by
 obtain ⟨n,rfl⟩:∃ k,n=k+1:=⟨n - 1,by omega⟩
 have hM:=qcn
 have hW:=qbt
 rw[qtd hX]
 simp only[qfv,qfo,qe3]
 rw[qbkd]
 by_cases hl:a.length=b.length
 ·rw[decide_eq_true hl,Bool.not_true,br_f]
  refine Eq.trans (qkc (L:=fun m i=>qb5 (DD X n) n _ _ m a b a.length (i:Int)) (N:=a.length) (P:=fun i=>!decide (a.getD i vd=b.getD i vd))
   (A:=some ((false,()),())) (B:=some ((true,()),())) (fun m i hi=>?_) (m:=n) (by omega)) ?_
  ·simp only[qb5,qfe]
   by_cases h:i<a.length
   ·rw[qk (by exact_mod_cast h),ix h,br_t,ix (hl ▸ h),br_t,Int.toNat_natCast,qbcu,qr (by omega),if_pos h];rfl
   ·rw[qp (by exact_mod_cast h),if_neg h];rfl
  ·rw[qbv5 hl]
   cases decide (a=b)<;>rfl
 ·have:¬ a=b:=fun e=>hl (by rw[e])
  rw[decide_eq_false hl,decide_eq_false this];rfl
def hasV (l:Row) (x:Value):Bool:=qw (fun j=>decide (x=l.getD j vd)) 0 l.length
theorem qbrj {X:Ext} (hX:XOk X) {n:Nat} (hn:W+2≤n) (l:Row) (x:Value) (hl:l.length≤M):qeu (DD X n) l x=some ((hasV l x,()),()):=by
 obtain ⟨n,rfl⟩:∃ k,n=k+2:=⟨n - 2,by omega⟩
 have hM:=qcn
 have hW:=qbt
 rw[qqt hX]
 simp only[qet,qij]
 have e:qft (DD X (n+1)) l x=some ((match qy (fun j=>decide (x=l.getD j vd)) 0 l.length with | some j=>(j:Int) | none=>-1,()),()):=by
  rw[qs5 hX]
  simp only[qfu,qfx,qe2]
  refine Eq.trans (qsn (L:=fun m i=>qcc (DD X n) n _ _ m l l.length (i:Int) x) (N:=l.length) (P:=fun j=>decide (x=l.getD j vd))
   (A:=fun j=>some (((j:Int),()),())) (B:=some ((-1,()),())) (fun m i hi=>?_) (m:=n) (by omega)) ?_
  ·simp only[qcc,qfg]
   by_cases h:i<l.length
   ·rw[qk (by exact_mod_cast h),ix h,br_t,Int.toNat_natCast,qr (by omega),if_pos h,qbcu];rfl
   ·rw[qp (by exact_mod_cast h),if_neg h];rfl
  ·cases qy (fun j=>decide (x=l.getD j vd)) 0 l.length<;>rfl
 rw[e,qf]
 congr 3
 exact q1g _ _
def q8k (l:Row):Bool:=qw (fun j=>decide ((l.getD j vd).1=0)) 0 l.length
theorem qbu8 {X:Ext} (hX:XOk X) {n:Nat} (hn:W+1≤n) (l:Row) (hl:l.length≤M):q0h (DD X n) l=some ((q8k l,()),()):=by
 obtain ⟨n,rfl⟩:∃ k,n=k+1:=⟨n - 1,by omega⟩
 have hM:=qcn
 have hW:=qbt
 rw[qblj hX]
 simp only[q02,q0o,qvp]
 refine Eq.trans (qkc (L:=fun m i=>qkd (DD X n) n _ _ m l (i:Int)) (N:=l.length) (P:=fun j=>decide ((l.getD j vd).1=0))
  (A:=some ((true,()),())) (B:=some ((false,()),())) (fun m i hi=>?_) (m:=n) (by omega)) ?_
 ·simp only[qkd,qyd]
  by_cases h:i<l.length
  ·rw[qk (by exact_mod_cast h),ix h,br_t,Int.toNat_natCast,qr (by omega),if_pos h];rfl
  ·rw[qp (by exact_mod_cast h),if_neg h];rfl
 ·unfold q8k
  cases qw (fun j=>decide ((l.getD j vd).1=0)) 0 l.length<;>rfl
theorem qby6 {v:Value} (h:qc3 v=true):decide (vd=v)=decide (v.1=0):=by
 obtain ⟨v1,v2,v3,⟨⟩⟩:=v
 by_cases h0:v1=0
 ·subst h0
  simp only[qc3,qm4,decide_true,cond_true,Bool.and_eq_true,decide_eq_true_eq] at h
  obtain ⟨rfl,rfl⟩:=h
  rfl
 ·have:¬ vd=(v1,v2,v3,()):=fun e=>h0 (by rw[←(Prod.mk.inj e).1])
  rw[decide_eq_false this,decide_eq_false h0]
theorem qbvg {l:Row} (h:∀ v∈l,qc3 v=true):hasV l vd=q8k l:=
 qvh fun j _ hj=>qby6 (h _ (qck (by omega)))
theorem q7c {row:Row} {cols:List Int}:∀ v∈ql row cols,v∈row:=by
 intro v hv
 unfold ql at hv
 obtain ⟨c,hc,rfl⟩:=List.mem_map.1 hv
 have:=qbhw (List.mem_filter.1 hc).2
 exact qck (by omega)
def qz5 (xs:List qk4) (a b:Row) (i:Nat):Bool:=(xs.getD i xd).2.2.1&&(decide (ql a (xs.getD i xd).2.1=ql b (xs.getD i xd).2.1)&&!q8k (ql a (xs.getD i xd).2.1))
def qpk (s:qbc) (a b:Row):Bool:=qw (qz5 s.2.2.1 a b) 0 s.2.2.1.length
theorem qxo (s:qbc) (a b:Row):qpk s a b=qpk s b a:=by
 refine qvh fun j _ _=>?_
 unfold qz5
 by_cases e:ql a (s.2.2.1.getD j xd).2.1=ql b (s.2.2.1.getD j xd).2.1
 ·rw[decide_eq_true e,decide_eq_true e.symm,e]
 ·rw[decide_eq_false e,decide_eq_false fun k=>e k.symm];simp
theorem qbvz (D:Den ctx) (a b:Row) (x:qk4):qbn ctx D (Clo.mk 143 [CapV.rptr (Ty.sl (Ty.pair (Ty.int IntKind.i64) (Ty.pair (Ty.int IntKind.i64) (Ty.pair Ty.str Ty.unit)))) a,CapV.rptr (Ty.sl (Ty.pair (Ty.int IntKind.i64) (Ty.pair (Ty.int IntKind.i64) (Ty.pair Ty.str Ty.unit)))) b]) [CapV.val (Ty.pair Ty.str (Ty.pair (Ty.sl (Ty.int IntKind.i64)) (Ty.pair Ty.bool Ty.unit))) x] Ty.bool=(q8f D x a b).bind fun r=>some r.1.1:=by kernel_rfl
theorem qbq1 {X:Ext} (hX:XOk X) {n:Nat} (hn:W+6≤n) (s:qbc) (hs:SchSm s) (a b:Row) (ha:a.length≤M) (hb:b.length≤M) (hv:∀ v∈a,qc3 v=true):q4j (DD X n) s a b=some ((qpk s a b,()),()):=by
 obtain ⟨n,rfl⟩:∃ k,n=k+1:=⟨n - 1,by omega⟩
 have hM:=qcn
 have hd:=qch
 have h2:=hs.ixs
 rw[qbp2 hX]
 simp only[q5z,qbcv]
 rw[qbff hX (n:=n) (by omega) _ (by omega) _ (qz5 s.2.2.1 a b) (fun i hi=>by
  have hc:=hs.ixc _ (qck (d:=xd) hi)
  obtain ⟨n,rfl⟩:∃ k,n=k+3:=⟨n - 3,by omega⟩
  rw[qbvz,show n+3 - 2=n+1 from rfl,qblu hX]
  simp only[qz1,q8v]
  have p1:=qvc hX (n:=n) (by omega) a ha (s.2.2.1.getD i xd).2.1 hc
  have p2:=qvc hX (n:=n) (by omega) b hb (s.2.2.1.getD i xd).2.1 hc
  have l1:=qhm a (s.2.2.1.getD i xd).2.1
  have p3:=qbrj hX (n:=n) (by omega) (ql a (s.2.2.1.getD i xd).2.1) vd (by omega)
  have p4:=qby5 hX (n:=n) (by omega) (ql a (s.2.2.1.getD i xd).2.1) (ql b (s.2.2.1.getD i xd).2.1) (by omega)
  rw[p1,qf]
  dsimp only
  rw[p2,p3]
  simp only[qf]
  rw[p4,qf,qbvg (fun v h=>hv v (q7c v h))]
  unfold qz5
  cases (s.2.2.1.getD i xd).2.2.1
  ·rfl
  ·cases q8k (ql a (s.2.2.1.getD i xd).2.1)<;>simp[br]),qf]
 rfl
theorem qbfh {X:Ext} (hX:XOk X) {n:Nat} (hn:W+3≤n) (s:qbc) (hs:SchSm s) (a b:Row) (ha:a.length≤M) (hb:b.length≤M):qsb (DD X n) s a b=some ((qpk s a b,()),()):=by
 obtain ⟨n,rfl⟩:∃ k,n=k+1:=⟨n - 1,by omega⟩
 have hM:=qcn
 have hW:=qbt
 have h2:=hs.ixs
 rw[qbil hX]
 simp only[qw8,qxt,qud]
 refine Eq.trans (qkc (L:=fun m i=>qjg (DD X n) n _ _ m a b (i:Int) s) (N:=s.2.2.1.length) (P:=qz5 s.2.2.1 a b)
  (A:=some ((true,()),())) (B:=some ((false,()),())) (fun m i hi=>?_) (m:=n) (by omega)) ?_
 ·simp only[qjg,qwp]
  by_cases h:i<s.2.2.1.length
  ·have hc:=hs.ixc _ (qck (d:=xd) h)
   have p1:=q18 hX (n:=n) (by omega) a ha (s.2.2.1.getD i xd).2.1 hc
   have p2:=q18 hX (n:=n) (by omega) b hb (s.2.2.1.getD i xd).2.1 hc
   have l1:=qhm a (s.2.2.1.getD i xd).2.1
   have p3:=qbu8 hX (n:=n) (by omega) (ql a (s.2.2.1.getD i xd).2.1) (by omega)
   have p4:=qbmm hX (n:=n) (by omega) (ql a (s.2.2.1.getD i xd).2.1) (ql b (s.2.2.1.getD i xd).2.1) (by omega)
   rw[qk (by exact_mod_cast h),ix h,br_t,Int.toNat_natCast,p1,qf]
   dsimp only
   rw[p2,qf]
   dsimp only
   rw[p3,p4,qr (by omega),if_pos h]
   simp only[qf]
   unfold qz5
   cases (s.2.2.1.getD i xd).2.2.1
   ·rfl
   ·cases decide (ql a (s.2.2.1.getD i xd).2.1=ql b (s.2.2.1.getD i xd).2.1)
    ·rfl
    ·cases q8k (ql a (s.2.2.1.getD i xd).2.1)<;>rfl
  ·rw[qp (by exact_mod_cast h),if_neg h];rfl
 ·unfold qpk
  cases qw (qz5 s.2.2.1 a b) 0 s.2.2.1.length<;>rfl
end Go.G

namespace Go.G
set_option maxRecDepth 100000
open Go Go.V Go.Proofs
abbrev Rel:=qbc×List Row×Unit
instance decRows:DecidableEq (List Row):=inferInstance
instance decRel:DecidableEq Rel:=fun a b=>@instDecidableEqProd _ _ decSchema (@instDecidableEqProd _ _ decRows inferInstance) a b
structure RelSm (r:Rel):Prop where
 sch:SchSm r.1
 rows:r.2.1.length≤M
 row:∀ x∈r.2.1,x.length≤M
end Go.G

namespace Go.G
set_option maxRecDepth 100000
open Go Go.V Go.Proofs
theorem q9e {s:qbc} {row:Row} (h:qjp s row=true):∀ v∈row,qc3 v=true:=by
 intro v hv
 obtain ⟨i,hi,rfl⟩:=List.mem_iff_getElem.1 hv
 simp only[qjp,Bool.and_eq_true,Bool.not_eq_true',decide_eq_true_eq] at h
 have k:=qbj.1 h.2.2 i (by omega) (by omega)
 simp only[q5b,Bool.or_eq_false_iff,Bool.not_eq_false'] at k
 rw[←qz (d:=vd) hi];exact k.1
def qnc (s:qbc) (rows:List Row) (i:Nat):Bool:=
 !qjp s (rows.getD i [])||((decide (0<i)&&!tlt (ql (rows.getD (i - 1) []) s.2.1) (ql (rows.getD i []) s.2.1))||qw (fun k=>qpk s (rows.getD i []) (rows.getD k [])) 0 i)
def qdo (r:Rel):Bool:=!qw (qnc r.1 r.2.1) 0 r.2.1.length&&(qe5 r.1&&decide ((r.2.1.length:Int)≤12))
theorem qbyk (D:Den ctx) (r:Rel) (row x:Row):qbn ctx D (Clo.mk 80 [CapV.rptr (Ty.pair
          (Ty.pair (Ty.sl (Ty.pair Ty.str (Ty.pair (Ty.int IntKind.i64) (Ty.pair Ty.bool Ty.unit))))
           (Ty.pair (Ty.sl (Ty.int IntKind.i64))
            (Ty.pair (Ty.sl (Ty.pair Ty.str (Ty.pair (Ty.sl (Ty.int IntKind.i64)) (Ty.pair Ty.bool Ty.unit)))) Ty.unit)))
          (Ty.pair (Ty.sl (Ty.sl (Ty.pair (Ty.int IntKind.i64) (Ty.pair (Ty.int IntKind.i64) (Ty.pair Ty.str Ty.unit))))) Ty.unit)) r,CapV.rptr (Ty.sl (Ty.pair (Ty.int IntKind.i64) (Ty.pair (Ty.int IntKind.i64) (Ty.pair Ty.str Ty.unit)))) row]) [CapV.val (Ty.sl (Ty.pair (Ty.int IntKind.i64) (Ty.pair (Ty.int IntKind.i64) (Ty.pair Ty.str Ty.unit)))) x] Ty.bool=(q8x D x r row).bind fun q=>some q.1.1:=by kernel_rfl
theorem qbt0 {α:Type} {l:List α} {i j:Nat} {d:α} (h:j<i):(l.take i).getD j d=l.getD j d:=by
 simp only[List.getD,List.getElem?_take]
 rw[if_pos h]
theorem qbq6 {X:Ext} (hX:XOk X) {n:Nat} (hn:W+9≤n) (r:Rel) (hr:RelSm r) (i:Nat) (hi:i<r.2.1.length) (hv:∀ v∈r.2.1.getD i [],qc3 v=true) :
  qcd (DD X n) (List.drop (Int.toNat 0) (List.take i r.2.1)) (Clo.mk 80 [CapV.rptr (Ty.pair
          (Ty.pair (Ty.sl (Ty.pair Ty.str (Ty.pair (Ty.int IntKind.i64) (Ty.pair Ty.bool Ty.unit))))
           (Ty.pair (Ty.sl (Ty.int IntKind.i64))
            (Ty.pair (Ty.sl (Ty.pair Ty.str (Ty.pair (Ty.sl (Ty.int IntKind.i64)) (Ty.pair Ty.bool Ty.unit)))) Ty.unit)))
          (Ty.pair (Ty.sl (Ty.sl (Ty.pair (Ty.int IntKind.i64) (Ty.pair (Ty.int IntKind.i64) (Ty.pair Ty.str Ty.unit))))) Ty.unit)) r,CapV.rptr (Ty.sl (Ty.pair (Ty.int IntKind.i64) (Ty.pair (Ty.int IntKind.i64) (Ty.pair Ty.str Ty.unit)))) (r.2.1.getD i [])])
   = some ((qw (fun k=>qpk r.1 (r.2.1.getD i []) (r.2.1.getD k [])) 0 i,()),()):=by
 have hM:=qcn
 have hd:=qch
 have h2:=hr.rows
 have hl:(List.drop (Int.toNat 0) (List.take i r.2.1)).length=i:=by
  show (List.take i r.2.1).length=i
  rw[List.length_take];omega
 have e:=qbur hX (n:=n) (by omega) (List.drop (Int.toNat 0) (List.take i r.2.1)) (by rw[hl];omega) (Clo.mk 80 [CapV.rptr (Ty.pair
          (Ty.pair (Ty.sl (Ty.pair Ty.str (Ty.pair (Ty.int IntKind.i64) (Ty.pair Ty.bool Ty.unit))))
           (Ty.pair (Ty.sl (Ty.int IntKind.i64))
            (Ty.pair (Ty.sl (Ty.pair Ty.str (Ty.pair (Ty.sl (Ty.int IntKind.i64)) (Ty.pair Ty.bool Ty.unit)))) Ty.unit)))
          (Ty.pair (Ty.sl (Ty.sl (Ty.pair (Ty.int IntKind.i64) (Ty.pair (Ty.int IntKind.i64) (Ty.pair Ty.str Ty.unit))))) Ty.unit)) r,CapV.rptr (Ty.sl (Ty.pair (Ty.int IntKind.i64) (Ty.pair (Ty.int IntKind.i64) (Ty.pair Ty.str Ty.unit)))) (r.2.1.getD i [])])
  (fun k=>qpk r.1 (r.2.1.getD i []) (r.2.1.getD k [])) (fun k hk=>by
   rw[hl] at hk
   obtain ⟨n,rfl⟩:∃ k,n=k+3:=⟨n - 3,by omega⟩
   rw[qbyk,show n+3 - 2=n+1 from rfl,qbko hX]
   simp only[qze,q8l]
   have hg:(List.drop (Int.toNat 0) (List.take i r.2.1)).getD k []=r.2.1.getD k []:=qbt0 hk
   rw[hg,qbq1 hX (by omega) r.1 hr.sch _ _ (hr.row _ (qck hi)) (hr.row _ (qck (by omega))) hv,qf]
   rfl)
 rw[hl] at e
 exact e
theorem qbfi {X:Ext} (hX:XC X) {n:Nat} (hn:W+10≤n) (r:Rel) (hr:RelSm r):qx6 (DD X n) r=some ((qdo r,()),()):=by
 obtain ⟨n,rfl⟩:∃ k,n=k+1:=⟨n - 1,by omega⟩
 have hW:=qbt
 have hM:=qcn
 have h2:=hr.rows
 have hk:=hr.sch.key
 rw[qbpp hX.ok]
 simp only[q4r,q4s,qzz]
 refine Eq.trans (qkc (L:=fun m i=>qmd (DD X n) n _ _ m r.2.1 r.2.1.length (i:Int) r) (N:=r.2.1.length) (P:=qnc r.1 r.2.1)
  (A:=some ((false,()),())) (B:=some ((qe5 r.1&&decide ((r.2.1.length:Int)≤12),()),())) (fun m i hi=>?_) (m:=n) (by omega)) ?_
 ·simp only[qmd,q16]
  by_cases h:i<r.2.1.length
  ·have hc1:(decide ((0:Nat)≤0)&&decide ((0:Int)≤(i:Int))&&decide ((i:Int)≤(r.2.1.length:Int)))=true:=by
    rw[decide_eq_true (by omega),decide_eq_true (by omega),decide_eq_true (by omega)];rfl
   have hri:=hr.row _ (qck (d:=[]) h)
   rw[qk (by exact_mod_cast h),ix h,br_t,Int.toNat_natCast,qbra hX.ok (n:=n) (by omega) r.1 hr.sch _ hri,qf,qr (by omega),if_pos h,hc1]
   dsimp only
   unfold qnc
   cases hok:qjp r.1 (r.2.1.getD i [])
   ·rfl
   ·have ec:=qbq6 hX.ok (n:=n) (by omega) r hr i h (q9e hok)
    rw[Bool.not_true,br_f,br_t,ec,qf,Bool.false_or]
    dsimp only
    by_cases h0:0<i
    ·have w1:IntKind.wrap IntKind.i64 ((i:Int) - 1)=((i - 1:Nat):Int):=by rw[qby (by omega) (by omega)];omega
     have hrj:=hr.row _ (qck (d:=[]) (show i - 1<r.2.1.length by omega))
     have l1:=qhm (r.2.1.getD (i - 1) []) r.1.2.1
     rw[qk (by omega),w1,ix (i:=i - 1) (by omega),br_t,Int.toNat_natCast,qzt hX.ok (by omega) r.1 _ hrj hk,qf]
     dsimp only
     rw[qzt hX.ok (by omega) r.1 _ hri hk,qf]
     dsimp only
     rw[qbh5 hX (by omega) _ _ (by omega),qf,decide_eq_true h0]
     dsimp only
     cases tlt (ql (r.2.1.getD (i - 1) []) r.1.2.1) (ql (r.2.1.getD i []) r.1.2.1)<;>rfl
    ·rw[qp (by omega),decide_eq_false h0];rfl
  ·rw[qp (by exact_mod_cast h),if_neg h]
   simp only[qxs]
   rw[q7v hX.ok (by omega) r.1 hr.sch,qf,qjc]
 ·unfold qdo
  cases qw (qnc r.1 r.2.1) 0 r.2.1.length<;>rfl
theorem q1c {X:Ext} (hX:XOk X) {n:Nat} (hn:W+8≤n) (r:Rel) (hr:RelSm r):qo2 (DD X n) r=some ((qdo r,()),()):=by
 obtain ⟨n,rfl⟩:∃ k,n=k+1:=⟨n - 1,by omega⟩
 have hW:=qbt
 have hM:=qcn
 have h2:=hr.rows
 have hk:=hr.sch.key
 rw[qbqe hX]
 simp only[q5a,q5h,qzo]
 refine Eq.trans (qkc (L:=fun m i=>qf2 (DD X n) n _ _ m (i:Int) r) (N:=r.2.1.length) (P:=qnc r.1 r.2.1)
  (A:=some ((false,()),())) (B:=some ((qe5 r.1&&decide ((r.2.1.length:Int)≤12),()),())) (fun m i hi=>?_) (m:=n) (by omega)) ?_
 ·simp only[qf2,q2h,q0c]
  by_cases h:i<r.2.1.length
  ·have hri:=hr.row _ (qck (d:=[]) h)
   have el:=qkc (L:=fun q k=>qmh (DD X n) n (fun v0_0 v0_1 v0_2=>qxc (DD X n) n (qf2 (DD X n) n (fun v0_0 v0_1=>qh2 (DD X n) n v0_0 v0_1) (fun v1_0=>qgb (DD X n) n v1_0) m) (fun v0_0 v0_1=>qh2 (DD X n) n v0_0 v0_1) (fun v1_0=>qgb (DD X n) n v1_0) v0_0 v0_1 v0_2)
      (fun v1_0 v1_1=>qsf (DD X n) n (qf2 (DD X n) n (fun v0_0 v0_1=>qh2 (DD X n) n v0_0 v0_1) (fun v1_0=>qgb (DD X n) n v1_0) m) (fun v0_0 v0_1=>qh2 (DD X n) n v0_0 v0_1) (fun v1_0=>qgb (DD X n) n v1_0) v1_0 v1_1) q (i:Int) (k:Int) r)
     (N:=i) (P:=fun k=>qpk r.1 (r.2.1.getD i []) (r.2.1.getD k []))
     (A:=some ((false,()),())) (B:=qf2 (DD X n) n (fun v0_0 v0_1=>qh2 (DD X n) n v0_0 v0_1) (fun v1_0=>qgb (DD X n) n v1_0) m ((i+1:Nat):Int) r) (fun q k hk2=>by
    simp only[qmh,q24]
    by_cases h3:k<i
    ·rw[qk (by exact_mod_cast h3),ix (i:=k) (by omega),br_t,ix h,br_t,Int.toNat_natCast,Int.toNat_natCast,qbfh hX (by omega) r.1 hr.sch _ _ (hr.row _ (qck (by omega))) hri,qf,qr (by omega),if_pos h3,qxo]
     rfl
    ·rw[qp (by exact_mod_cast h3),if_neg h3]
     simp only[qsf]
     rw[qr (by omega)]) (m:=n) (by omega)
   simp only[Int.natCast_zero] at el
   rw[qk (by exact_mod_cast h),ix h,br_t,Int.toNat_natCast,q69 hX (n:=n) (by omega) r.1 hr.sch _ hri,qf,if_pos h]
   dsimp only
   unfold qnc
   cases hok:qjp r.1 (r.2.1.getD i [])
   ·rfl
   ·rw[Bool.not_true,br_f,Bool.false_or]
    by_cases h0:0<i
    ·have w1:IntKind.wrap IntKind.i64 ((i:Int) - 1)=((i - 1:Nat):Int):=by rw[qby (by omega) (by omega)];omega
     have hrj:=hr.row _ (qck (d:=[]) (show i - 1<r.2.1.length by omega))
     have l1:=qhm (r.2.1.getD (i - 1) []) r.1.2.1
     rw[qk (by omega),w1,ix (i:=i - 1) (by omega),br_t,Int.toNat_natCast,qhb hX (by omega) r.1 _ hrj hk,qf]
     dsimp only
     rw[br_t,qhb hX (by omega) r.1 _ hri hk,qf]
     dsimp only
     rw[q6i hX (by omega) _ _ (by omega),qf,decide_eq_true h0]
     dsimp only
     cases tlt (ql (r.2.1.getD (i - 1) []) r.1.2.1) (ql (r.2.1.getD i []) r.1.2.1)
     ·rfl
     ·exact el
    ·rw[qp (by omega),decide_eq_false h0];exact el
  ·rw[qp (by exact_mod_cast h),if_neg h]
   simp only[qgb]
   rw[q79 hX (by omega) r.1 hr.sch,qf,qjc]
 ·unfold qdo
  cases qw (qnc r.1 r.2.1) 0 r.2.1.length<;>rfl
def qbjl (r:Rel) (key:Row) (i:Nat):Bool:=decide (ql (r.2.1.getD i []) r.1.2.1=key)
def qna (r:Rel) (key:Row):Option Nat:=qy (qbjl r key) 0 r.2.1.length
theorem qbog {r:Rel} {key:Row} {j:Nat} (h:qna r key=some j):j<r.2.1.length:=by
 have:=qc9 h;omega
theorem qbk9 {X:Ext} (hX:XOk X) {n:Nat} (hn:W+6≤n) (r:Rel) (hr:RelSm r) (key:Row):qto (DD X n) r key=some ((match qna r key with | some j=>(j:Int) | none=>-1,()),()):=by
 obtain ⟨n,rfl⟩:∃ k,n=k+1:=⟨n - 1,by omega⟩
 have hM:=qcn
 have hW:=qbt
 have h2:=hr.rows
 have hk:=hr.sch.key
 rw[qbo0 hX]
 simp only[q4g,q4v,qzs]
 refine Eq.trans (qsn (L:=fun m i=>qme (DD X n) n _ _ m key (i:Int) r) (N:=r.2.1.length) (P:=qbjl r key)
  (A:=fun j=>some (((j:Int),()),())) (B:=some ((-1,()),())) (fun m i hi=>?_) (m:=n) (by omega)) ?_
 ·simp only[qme,q17]
  by_cases h:i<r.2.1.length
  ·have l1:=qhm (r.2.1.getD i []) r.1.2.1
   rw[qk (by exact_mod_cast h),ix h,br_t,Int.toNat_natCast,qhb hX (by omega) r.1 _ (hr.row _ (qck h)) hk,qf]
   dsimp only
   rw[qbmm hX (by omega) _ _ (by omega),qf,qr (by omega),if_pos h]
   rfl
  ·rw[qp (by exact_mod_cast h),if_neg h];rfl
 ·unfold qna
  cases qy (qbjl r key) 0 r.2.1.length<;>rfl
def lookup (r:Rel) (key:Row):Row×Bool:=match qna r key with | some j=>if qdo r=true then (r.2.1.getD j [],true) else ([],false) | none=>([],false)
end Go.G

namespace Go.G
set_option maxRecDepth 100000
open Go Go.V Go.Proofs
theorem qbhr {X:Ext} (D:Den ctx) (n:Nat) (K:qbc→qbc→Option ((qbc×Unit)×Unit)) (s:qbc) (hx:s.2.2.1.length≤M) (hc:∀ x∈s.2.2.1,x.2.1.length≤M) (z:qbc) (c:List Col) (k:List Int):∀ (m i:Nat) (acc:List qk4),i≤s.2.2.1.length→s.2.2.1.length - i<m→acc.length≤i→
  qkf D n K m (i:Int) s z (c,k,acc,())=K z (c,k,acc++s.2.2.1.drop i,())
 | 0,_,_,_,h,_=>by omega
 | m+1,i,acc,hi,hf,ha=>by
  have hM:=qcn
  have hb:=qco
  simp only[qkf,qxd]
  by_cases h:i<s.2.2.1.length
  ·have:=hc _ (List.getElem_mem h)
   rw[qk (by exact_mod_cast h),ix h,br_t,Int.toNat_natCast,qr (by omega),qc8 h,qz h,qk (by omega),qk (by omega)]
   refine Eq.trans (qbhr (X:=X) D n K s hx hc z c k m (i+1) _ (by omega) (by omega) (by simp;omega)) ?_
   rw[List.append_assoc];rfl
  ·rw[qp (by exact_mod_cast h),qe7 h,List.append_nil]
theorem q4o {X:Ext} (hX:XOk X) {n:Nat} (hn:W+3≤n) (s:qbc) (hs:SchSm s):qt0 (DD X n) s=some ((s,()),()):=by
 obtain ⟨n,rfl⟩:∃ k,n=k+1:=⟨n - 1,by omega⟩
 have hM:=qcn
 have hb:=qco
 have hW:=qbt
 have h1:=hs.cols
 have h2:=hs.key
 have h3:=hs.ixs
 rw[qbkt hX]
 simp only[qz7,q0r,qvm]
 rw[qk (by omega),qk (by omega)]
 refine Eq.trans (qbhr (X:=X) (DD X n) n _ s h3 hs.ixc _ ([]++s.1) ([]++s.2.1) n 0 [] (by omega) (by omega) (by simp)) ?_
 rfl
def q4b (s:qbc):Rel×Bool:=if qdo (s,[],())=true then ((s,[],()),true) else ((([],[],[],()),[],()),false)
theorem qbua {s:qbc} (hs:SchSm s):RelSm (s,[],()):=⟨hs,Nat.zero_le _,fun _ h=>nomatch h⟩
theorem qbo3 {X:Ext} (hX:XOk X) {n:Nat} (hn:W+9≤n) (s:qbc) (hs:SchSm s):q2w (DD X n) s=some (((q4b s).1,(q4b s).2,()),()):=by
 obtain ⟨n,rfl⟩:∃ k,n=k+1:=⟨n - 1,by omega⟩
 rw[qbny hX]
 simp only[q2g,qbaj]
 rw[q4o hX (by omega) s hs,qf]
 dsimp only
 have e:=q1c hX (n:=n) (by omega) (s,[],()) (qbua hs)
 refine Eq.trans (congrArg (fun x=>qi x _) e) ?_
 rw[qf]
 unfold q4b
 cases qdo (s,[],())<;>rfl
end Go.G

namespace Go.G
set_option maxRecDepth 100000
open Go Go.V Go.Proofs
theorem q33 (x:Int):IntKind.wrap IntKind.u8 x=x % 256:=by
 simp[IntKind.wrap,IntKind.signed,IntKind.bits]
def qbjj (y:Int) (k:Nat):Int:=IntKind.wrap IntKind.u8 (Int.fdiv y (Int.pow 2 (8 * k)))
def qu2 (y:Int):Nat→List Int
 | 0=>[]
 | k+1=>qbjj y k::qu2 y k
theorem qxk (y:Int):∀ k,(qu2 y k).length=k
 | 0=>rfl
 | k+1=>by rw[qu2,List.length_cons,qxk y k]
theorem qbwz {x:Int} {k:Nat} (h:x=8 * k) (hk:k<8):(if Int.toNat x≤IntKind.bits IntKind.i64 then Int.toNat x else IntKind.bits IntKind.i64)=8 * k:=by
 have:IntKind.bits IntKind.i64=64:=rfl
 rw[this,if_pos (by omega)];omega
def escF (t:ByteArray):Nat→Nat→List Int
 | _,0=>[]
 | i,k+1=>((t.data.getD i (UInt8.ofNat 0)).toNat:Int)::((if ((t.data.getD i (UInt8.ofNat 0)).toNat:Int)=0 then [255] else [])++escF t (i+1) k)
theorem qbfq (t:ByteArray):∀ k i,(escF t i k).length≤2 * k
 | 0,_=>Nat.le_refl _
 | k+1,i=>by
  have:=qbfq t k (i+1)
  simp only[escF,List.length_cons,List.length_append]
  split<;>simp<;>omega
def tagI (v:Value):Int:=IntKind.wrap IntKind.u8 (IntKind.wrap IntKind.i64 (v.1+1))
def qbu (v:Value):List Int:=
 if v.1=1 then [tagI v,IntKind.wrap IntKind.u8 v.2.1] else
 if v.1=2 then tagI v::qu2 (IntKind.wrap IntKind.i64 (v.2.1+4611686018427387904)) 8 else
 if v.1=3 then tagI v::(escF v.2.2.1 0 v.2.2.1.size++[0,1]) else [tagI v]
theorem q8u {v:Value} (h:qc3 v=true):(qbu v).length≤43:=by
 unfold qbu
 split
 ·simp
 ·split
  ·rw[List.length_cons,qxk];omega
  ·split
   ·rename_i h1 h2 h3
    have hs:v.2.2.1.size≤20:=by
     unfold qc3 at h
     rw[h3] at h
     simp at h
     omega
    have:=qbfq v.2.2.1 v.2.2.1.size 0
    simp only[List.length_cons,List.length_append,List.length_nil];omega
   ·simp
def qfb (a:Row):List Int:=if qwz a=true then a.flatMap qbu else []
theorem qvd {a:Row} (h:qwz a=true):a.length≤4∧∀ v∈a,qc3 v=true:=by
 simp only[qwz,Bool.and_eq_true,decide_eq_true_eq,Bool.not_eq_true'] at h
 refine ⟨by omega,fun v hv=>?_⟩
 obtain ⟨i,hi,rfl⟩:=List.mem_iff_getElem.1 hv
 have k:=qbj.1 h.2 i (by omega) (by omega)
 rw[qz hi,Bool.not_eq_false'] at k
 exact k
theorem qbmx (D:Den ctx) (n:Nat) (K:Row→Int→Int→List Int→Option ((List Int×Unit)×Unit)) (a:Row) (p q:Int) (v:Value):∀ (k m:Nat) (acc:List Int),k≤8→k<m→acc.length+k≤qbi→
  qfn D n K m ((k:Int) - 1) a p q acc v=K a p q (acc++qu2 (IntKind.wrap IntKind.i64 (v.2.1+4611686018427387904)) k)
 | 0,m+1,acc,hk,hm,hb=>by
  simp only[qfn,qnm]
  rw[qp (by omega),qu2,List.append_nil]
 | k+1,m+1,acc,hk,hm,hb=>by
  have hbd:=qco
  simp only[qfn,qnm]
  have e:((k+1:Nat):Int) - 1=(k:Int):=by omega
  have e2:IntKind.wrap IntKind.i64 (8 * (k:Int))=8 * (k:Int):=qby (by omega) (by omega)
  have e3:IntKind.wrap IntKind.i64 ((k:Int) - 1)=(k:Int) - 1:=qby (by omega) (by omega)
  rw[e,e2,e3,qk (by omega),qp (by omega),qk (by omega),qbwz rfl (by omega)]
  refine Eq.trans (qbmx D n K a p q v k m _ (by omega) (by omega) (by simp;omega)) ?_
  rw[List.append_assoc];rfl
theorem q9p (D:Den ctx) (n:Nat) (K:Row→Int→Int→List Int→Option ((List Int×Unit)×Unit)) (a:Row) (p q:Int) (v:Value) (hv:v.2.2.1.size≤20):∀ (m i:Nat) (acc:List Int),i≤v.2.2.1.size→v.2.2.1.size - i<m→acc.length+2 * (v.2.2.1.size - i)≤qbi→
  qhh D n K m a p q (v.2.2.1.size:Int) (i:Int) acc v=K a p q (acc++escF v.2.2.1 i (v.2.2.1.size - i))
 | 0,i,acc,hi,hm,hb=>by omega
 | m+1,i,acc,hi,hm,hb=>by
  have hbd:=qco
  simp only[qhh,qs7]
  by_cases h:i<v.2.2.1.size
  ·have hc:(decide (0≤(i:Int))&&decide ((i:Int)<(v.2.2.1.size:Int)))=true:=by
    simp only[Bool.and_eq_true,decide_eq_true_eq];omega
   obtain ⟨k,hk⟩:∃ k,v.2.2.1.size - i=k+1:=⟨v.2.2.1.size - i - 1,by omega⟩
   have hk2:v.2.2.1.size - (i+1)=k:=by omega
   rw[qk (by exact_mod_cast h),hc,br_t,qk (by omega),br_t,Int.toNat_natCast,qr (by omega),hk]
   simp only[escF]
   by_cases h0:((v.2.2.1.data.getD i (UInt8.ofNat 0)).toNat:Int)=0
   ·rw[qk h0,if_pos h0,qk (by simp;omega)]
    refine Eq.trans (q9p D n K a p q v hv m (i+1) _ (by omega) (by omega) (by simp;omega)) ?_
    rw[hk2];simp
   ·rw[qp h0,if_neg h0]
    refine Eq.trans (q9p D n K a p q v hv m (i+1) _ (by omega) (by omega) (by simp;omega)) ?_
    rw[hk2];simp
  ·have:v.2.2.1.size - i=0:=by omega
   rw[qp (by exact_mod_cast h),this,escF,List.append_nil]
theorem qbe1 (D:Den ctx) (n:Nat) (hn:W≤n) (K:List Int→Option ((List Int×Unit)×Unit)) (a:Row) (ha:a.length≤4) (hv:∀ v∈a,qc3 v=true):∀ (m i:Nat) (acc:List Int),i≤a.length→a.length - i<m→acc.length≤43 * i→
  qeg D n K m a (a.length:Int) (i:Int) acc=K (acc++(a.drop i).flatMap qbu)
 | 0,i,acc,hi,hm,hb=>by omega
 | m+1,i,acc,hi,hm,hb=>by
  have hbd:=qco
  have hW:=qbt
  simp only[qeg,qst,qrd,qq7]
  by_cases h:i<a.length
  ·have hvi:=hv _ (List.getElem_mem h)
   have l1:=q8u hvi
   have ih:=fun acc2 h2=>qbe1 D n hn K a ha hv m (i+1) acc2 (by omega) (by omega) h2
   rw[qk (by exact_mod_cast h),ix h,br_t,Int.toNat_natCast,qz h,qr (by omega),qc8 h,List.flatMap_cons,qk (by omega)]
   unfold qbu at l1 ⊢
   by_cases h1:a[i].1=1
   ·rw[qk h1,if_pos h1,qk (by simp;omega)]
    rw[if_pos h1] at l1
    refine Eq.trans (ih _ (by simp;omega)) ?_
    rw[List.append_assoc,List.append_assoc];rfl
   ·rw[qp h1,if_neg h1]
    rw[if_neg h1] at l1
    by_cases h2:a[i].1=2
    ·rw[qk h2,if_pos h2]
     rw[if_pos h2] at l1
     refine Eq.trans (qbmx D n _ a (a.length:Int) (i:Int) a[i] 8 n _ (by omega) (by omega) (by simp;omega)) ?_
     simp only[qqj]
     rw[qr (by omega)]
     refine Eq.trans (ih _ (by simp[qxk];omega)) ?_
     rw[List.append_assoc,List.append_assoc];rfl
    ·rw[qp h2,if_neg h2]
     rw[if_neg h2] at l1
     by_cases h3:a[i].1=3
     ·have hs:a[i].2.2.1.size≤20:=by
       unfold qc3 at hvi
       rw[h3] at hvi
       simp at hvi
       omega
      have hl:=qbfq a[i].2.2.1 a[i].2.2.1.size 0
      rw[qk h3,if_pos h3]
      rw[if_pos h3] at l1
      refine Eq.trans (q9p D n _ a (a.length:Int) (i:Int) a[i] hs n 0 _ (by omega) (by omega) (by simp;omega)) ?_
      simp only[qqk,Nat.sub_zero]
      rw[qk (by simp;omega),qr (by omega)]
      refine Eq.trans (ih _ (by simp;omega)) ?_
      simp only[tagI,List.append_assoc,List.cons_append,List.nil_append]
      rfl
     ·rw[qp h3,if_neg h3]
      rw[if_neg h3] at l1
      refine Eq.trans (ih _ (by simp;omega)) ?_
      rw[List.append_assoc];rfl
  ·rw[qp (by exact_mod_cast h),qe7 h];simp
theorem q4m {X:Ext} (hX:XOk X) {n:Nat} (hn:W+5≤n) (a:Row) (ha:a.length≤M):qok (DD X n) a=some ((qfb a,()),()):=by
 obtain ⟨n,rfl⟩:∃ k,n=k+1:=⟨n - 1,by omega⟩
 have hM:=qcn
 have hW:=qbt
 rw[qbee hX]
 simp only[quk,qt5,qrk]
 rw[qbnk hX (n:=n) (by omega) a ha,qf]
 unfold qfb
 cases ht:qwz a
 ·rfl
 ·obtain ⟨h1,h2⟩:=qvd ht
  refine Eq.trans (qbe1 (DD X n) n (by omega) _ a h1 h2 n 0 [] (by omega) (by omega) (by simp)) ?_
  rfl
def qo8 (l:List Int):ByteArray:=ByteArray.mk (List.toArray (List.map (fun n↦UInt8.ofNat (Int.toNat n)) l))
abbrev Way:=ByteArray×ByteArray×Unit
end Go.G

namespace Go.G
set_option maxRecDepth 100000
open Go Go.V Go.Proofs
theorem qbu2 (D:Den ctx) (n:Nat) (K:List Row→Option ((List Row×Unit)×Unit)) (a:List Row) (ha:a.length≤M) (hr:∀ x∈a,x.length≤M):∀ (m i:Nat) (acc:List Row),i≤a.length→a.length - i<m→acc.length≤i→
  qkj D n K m a (i:Int) acc=K (acc++a.drop i)
 | 0,_,_,_,h,_=>by omega
 | m+1,i,acc,hi,hf,hl=>by
  have hM:=qcn
  have hb:=qco
  simp only[qkj,qxq]
  by_cases h:i<a.length
  ·have:=hr _ (List.getElem_mem h)
   rw[qk (by exact_mod_cast h),ix h,br_t,Int.toNat_natCast,qz h,qk (by omega),qk (by omega),qr (by omega),qc8 h]
   refine Eq.trans (qbu2 D n K a ha hr m (i+1) _ (by omega) (by omega) (by simp;omega)) ?_
   rw[List.append_assoc];rfl
  ·rw[qp (by exact_mod_cast h),qe7 h,List.append_nil]
theorem q1d {X:Ext} (hX:XOk X) {n:Nat} (hn:W+1≤n) (a:List Row) (ha:a.length≤M) (hr:∀ x∈a,x.length≤M):qi1 (DD X n) a=some ((a,()),()):=by
 obtain ⟨n,rfl⟩:∃ k,n=k+1:=⟨n - 1,by omega⟩
 have hM:=qcn
 have hW:=qbt
 rw[qblh hX]
 simp only[q0j,qzg,qwb]
 refine Eq.trans (qbu2 (DD X n) n _ a ha hr n 0 [] (by omega) (by omega) (by simp)) ?_
 rfl
theorem qbcw {X:Ext} (hX:XOk X) {n:Nat} (hn:W+4≤n) (r:Rel) (hr:RelSm r):qph (DD X n) r=some ((r,()),()):=by
 obtain ⟨n,rfl⟩:∃ k,n=k+1:=⟨n - 1,by omega⟩
 rw[qbl4 hX]
 simp only[qy8,q76]
 rw[q4o hX (by omega) _ hr.sch,qf,q1d hX (by omega) _ hr.rows hr.row,qf]
def others (r:Rel) (row:Row) (j:Int):Bool:=qw (fun k=>!decide ((k:Int)=j)&&qpk r.1 (r.2.1.getD k []) row) 0 r.2.1.length
theorem qbfl {X:Ext} (hX:XOk X) {n:Nat} (hn:W+4≤n) (r:Rel) (hr:RelSm r) (row:Row) (hw:row.length≤M) (j:Int):qqf (DD X n) r row j=some ((others r row j,()),()):=by
 obtain ⟨n,rfl⟩:∃ k,n=k+1:=⟨n - 1,by omega⟩
 have hM:=qcn
 have hW:=qbt
 have h2:=hr.rows
 rw[qbha hX]
 simp only[qvr,qv2,qso]
 refine Eq.trans (qkc (L:=fun m i=>qib (DD X n) n _ _ m row j (i:Int) r) (N:=r.2.1.length) (P:=fun k=>!decide ((k:Int)=j)&&qpk r.1 (r.2.1.getD k []) row)
  (A:=some ((true,()),())) (B:=some ((false,()),())) (fun m i hi=>?_) (m:=n) (by omega)) ?_
 ·simp only[qib,qup]
  by_cases h:i<r.2.1.length
  ·rw[qk (by exact_mod_cast h),ix h,br_t,Int.toNat_natCast,qbfh hX (by omega) r.1 hr.sch _ _ (hr.row _ (qck h)) hw,qf,qr (by omega),if_pos h,qw4]
   cases decide ((i:Int)=j)<;>rfl
  ·rw[qp (by exact_mod_cast h),if_neg h];rfl
 ·unfold others
  cases qw (fun k=>!decide ((k:Int)=j)&&qpk r.1 (r.2.1.getD k []) row) 0 r.2.1.length<;>rfl
def qv4 (r:Rel) (row:Row):Rel×Int:=
 if qdo r=true∧qjp r.1 row=true then
  match qna r (ql row r.1.2.1) with
  | some j=>if others r row j=true then (r,3) else ((r.1,r.2.1.set j row,()),0)
  | none=>(r,4)
 else (r,1)
theorem qbnf {X:Ext} (hX:XOk X) {n:Nat} (hn:W+9≤n) (r:Rel) (hr:RelSm r) (row:Row) (hw:row.length≤M):qzq (DD X n) r row=some (((qv4 r row).1,(qv4 r row).2,()),()):=by
 obtain ⟨n,rfl⟩:∃ k,n=k+1:=⟨n - 1,by omega⟩
 have hM:=qcn
 have hb:=qco
 rw[qbkf hX]
 simp only[q0t,q77]
 rw[qbcw hX (by omega) r hr,qf,q1c hX (by omega) r hr,qf,q69 hX (by omega) r.1 hr.sch row hw,qf,qhb hX (by omega) r.1 row hw hr.sch.key,qf]
 dsimp only
 rw[qbk9 hX (by omega) r hr,qf]
 dsimp only
 rw[qbfl hX (by omega) r hr row hw,qf]
 unfold qv4
 cases qdo r
 ·rfl
 ·cases qjp r.1 row
  ·rfl
  ·cases hk:qna r (ql row r.1.2.1) with
   | none=>rfl
   | some j=>
    have hj:=qbog hk
    dsimp only
    rw[qp (show ¬ (j:Int)<0 by omega),ix hj,br_t,qk (show 0+row.length≤qbi by omega)]
    cases others r row j<;>rfl
end Go.G

namespace Go.G
set_option maxRecDepth 100000
open Go Go.V Go.Proofs
def qfa (r:Rel) (key:Row):Nat:=match qy (fun i=>!tlt (ql (r.2.1.getD i []) r.1.2.1) key) 0 r.2.1.length with | some j=>j | none=>r.2.1.length
theorem qbmu (r:Rel) (key:Row):qfa r key≤r.2.1.length:=by
 unfold qfa
 split
 ·rename_i j h
  have:=qc9 h;omega
 ·exact Nat.le_refl _
def q0v (r:Rel) (row:Row):Rel×Int:=
 if qdo r=true∧qjp r.1 row=true then
  match qna r (ql row r.1.2.1) with
  | some j=>(r,2)
  | none=>if others r row (-1)=true then (r,3) else if (r.2.1.length:Int)≥12 then (r,5) else
   ((r.1,r.2.1.take (qfa r (ql row r.1.2.1))++[row]++r.2.1.drop (qfa r (ql row r.1.2.1)),()),0)
 else (r,1)
theorem qbxn {X:Ext} (hX:XOk X) (N n:Nat) (hN:W+1≤N) (r:Rel) (hr:RelSm r) (row:Row) (hw:row.length≤M) (z:Rel) (p:Nat) (hp:p≤r.2.1.length) :
  qjb (DD X N) n row (p:Int) r z r=some (((r.1,r.2.1.take p++[row]++r.2.1.drop p,()),0,()),()):=by
 have hM:=qcn
 have hb:=qco
 have h2:=hr.rows
 have c1:(decide ((0:Nat)≤0)&&decide ((0:Int)≤(p:Int))&&decide ((p:Int)≤(r.2.1.length:Int)))=true:=by
  rw[decide_eq_true (by omega),decide_eq_true (by omega),decide_eq_true (by omega)];rfl
 have c2:(decide ((0:Int)≤(p:Int))&&decide ((p:Int)≤(r.2.1.length:Int))&&decide ((r.2.1.length:Int)≤(r.2.1.length:Int)))=true:=by
  rw[decide_eq_true (by omega),decide_eq_true (by omega),decide_eq_true (by omega)];rfl
 have t1:List.drop (Int.toNat 0) (List.take p r.2.1)=r.2.1.take p:=rfl
 simp only[qjb]
 rw[c1,br_t,c2,Int.toNat_natCast,Int.toNat_natCast,t1,List.take_length,q1d hX hN _ (by rw[List.length_take];omega) (fun x hx=>hr.row x (List.mem_of_mem_take hx)),qf]
 dsimp only
 rw[qk (by omega),qk (by rw[List.length_take];omega),br_t,q1d hX hN _ (by rw[List.length_drop];omega) (fun x hx=>hr.row x (List.mem_of_mem_drop hx)),qf]
 dsimp only
 rw[qk (by simp only[List.length_append,List.length_take,List.length_drop,List.length_cons,List.length_nil];omega)]
 rfl
theorem qbos {X:Ext} (hX:XOk X) {n:Nat} (hn:W+9≤n) (r:Rel) (hr:RelSm r) (row:Row) (hw:row.length≤M):q2n (DD X n) r row=some (((q0v r row).1,(q0v r row).2,()),()):=by
 obtain ⟨n,rfl⟩:∃ k,n=k+1:=⟨n - 1,by omega⟩
 have hM:=qcn
 have hW:=qbt
 have hb:=qco
 have h2:=hr.rows
 have hk:=hr.sch.key
 rw[qbni hX]
 simp only[q19,q25,qxm]
 rw[qbcw hX (by omega) r hr,qf,q1c hX (by omega) r hr,qf,q69 hX (by omega) r.1 hr.sch row hw,qf,qhb hX (by omega) r.1 row hw hk,qf]
 dsimp only
 rw[qbk9 hX (by omega) r hr,qf]
 dsimp only
 rw[qbfl hX (by omega) r hr row hw,qf]
 unfold q0v
 cases qdo r
 ·rfl
 ·cases qjp r.1 row
  ·rfl
  ·rw[if_pos ⟨rfl,rfl⟩,Bool.not_true,br_f,br_f]
   cases hkey:qna r (ql row r.1.2.1) with
   | some j=>
    dsimp only
    rw[qk (show (j:Int)≥0 by omega)]
   | none=>
    dsimp only
    rw[qp (by decide)]
    cases others r row (-1)
    ·rw[br_f,if_neg Bool.noConfusion]
     by_cases h12:(r.2.1.length:Int)≥12
     ·rw[qk h12,if_pos h12]
     ·rw[qp h12,if_neg h12]
      refine Eq.trans (qsn (L:=fun m i=>qlm (DD X n) n _ m row (i:Int) r (([],[],[],()),[],()) r) (N:=r.2.1.length) (P:=fun i=>!tlt (ql (r.2.1.getD i []) r.1.2.1) (ql row r.1.2.1))
       (A:=fun j=>qjb (DD X n) n row (j:Int) r (([],[],[],()),[],()) r) (B:=qjb (DD X n) n row (r.2.1.length:Int) r (([],[],[],()),[],()) r) (fun m i hi=>?_) (m:=n) (by omega)) ?_
      ·simp only[qlm,qzr]
       by_cases h:i<r.2.1.length
       ·have l1:=qhm (r.2.1.getD i []) r.1.2.1
        rw[qk (by exact_mod_cast h),ix h,br_t,Int.toNat_natCast,qhb hX (by omega) r.1 _ (hr.row _ (qck h)) hk,qf,qhb hX (by omega) r.1 row hw hk,qf]
        dsimp only
        rw[q6i hX (by omega) _ _ (by omega),qf,qr (by omega),if_pos h]
        dsimp only
        cases tlt (ql (r.2.1.getD i []) r.1.2.1) (ql row r.1.2.1)<;>rfl
       ·have hin:i=r.2.1.length:=by omega
        rw[qp (by exact_mod_cast h),if_neg h,hin]
      ·unfold qfa
       cases hf:qy (fun i=>!tlt (ql (r.2.1.getD i []) r.1.2.1) (ql row r.1.2.1)) 0 r.2.1.length with
       | none=>exact qbxn hX n n (by omega) r hr row hw _ _ (Nat.le_refl _)
       | some j=>
        have:=qc9 hf
        exact qbxn hX n n (by omega) r hr row hw _ j (by omega)
    ·rfl
def q0p (r:Rel) (key:Row):Rel×Int:=
 if qdo r=true then
  match qna r key with
  | some j=>((r.1,r.2.1.take j++r.2.1.drop (j+1),()),0)
  | none=>(r,4)
 else (r,1)
theorem qbqq {X:Ext} (hX:XOk X) {n:Nat} (hn:W+9≤n) (r:Rel) (hr:RelSm r) (key:Row):q2m (DD X n) r key=some (((q0p r key).1,(q0p r key).2,()),()):=by
 obtain ⟨n,rfl⟩:∃ k,n=k+1:=⟨n - 1,by omega⟩
 have hM:=qcn
 have hW:=qbt
 have hb:=qco
 have h2:=hr.rows
 rw[qbnp hX]
 simp only[q23,qbak]
 rw[qbcw hX (by omega) r hr,qf,q1c hX (by omega) r hr,qf,qbk9 hX (by omega) r hr,qf]
 unfold q0p
 cases qdo r
 ·rfl
 ·rw[if_pos rfl,Bool.not_true,br_f]
  cases hkey:qna r key with
  | none=>rfl
  | some j=>
   have hj:=qbog hkey
   dsimp only
   have w1:IntKind.wrap IntKind.i64 ((j:Int)+1)=((j+1:Nat):Int):=qr (by omega)
   have c1:(decide ((0:Nat)≤0)&&decide ((0:Int)≤(j:Int))&&decide ((j:Int)≤(r.2.1.length:Int)))=true:=by
    rw[decide_eq_true (by omega),decide_eq_true (by omega),decide_eq_true (by omega)];rfl
   have c2:(decide ((0:Int)≤((j+1:Nat):Int))&&decide (((j+1:Nat):Int)≤(r.2.1.length:Int))&&decide ((r.2.1.length:Int)≤(r.2.1.length:Int)))=true:=by
    rw[decide_eq_true (by omega),decide_eq_true (by omega),decide_eq_true (by omega)];rfl
   have t1:List.drop (Int.toNat 0) (List.take j r.2.1)=r.2.1.take j:=rfl
   rw[qp (show ¬ (j:Int)<0 by omega),c1,br_t,w1,c2,Int.toNat_natCast,Int.toNat_natCast,Int.toNat_natCast,t1,List.take_length,q1d hX (by omega) _ (by rw[List.length_take];omega) (fun x hx=>hr.row x (List.mem_of_mem_take hx)),qf]
   dsimp only
   rw[br_t,q1d hX (by omega) _ (by rw[List.length_drop];omega) (fun x hx=>hr.row x (List.mem_of_mem_drop hx)),qf]
   dsimp only
   rw[qk (by simp only[List.length_take,List.length_drop];omega)]
end Go.G

namespace Go.G
set_option maxRecDepth 100000
open Go Go.V Go.Proofs
theorem qtu:∀ (x y:List UInt8),Op.bytesLess x y=decide (x<y)
 | [],[]=>by simp[Op.bytesLess]
 | _::_,[]=>by simp[Op.bytesLess]
 | [],_::_=>by simp[Op.bytesLess]
 | a::x,b::y=>by
  rw[Op.bytesLess,qtu x y]
  simp only[List.cons_lt_cons_iff]
  by_cases h1:a<b<;>by_cases h2:a=b<;>by_cases h3:x<y<;>simp[h1,h2,h3]
theorem q1l {a b:ByteArray} (h:a.toList=b.toList):a=b:=by
 have h2:a.data.toList=b.data.toList:=by simpa [ByteArray.toList_eq] using h
 cases a;cases b
 simp only[ByteArray.mk.injEq]
 exact Array.toList_inj.1 h2
theorem qbdf (a b:Value):vlt a b=true↔a.1<b.1∨(a.1=b.1∧(a.2.1<b.2.1∨(a.2.1=b.2.1∧a.2.2.1.toList<b.2.2.1.toList))):=by
 simp only[vlt,qtu]
 by_cases h1:a.1=b.1
 ·by_cases h2:a.2.1=b.2.1
  ·rw[decide_eq_true h1,decide_eq_true h2];simp[h1,h2]
  ·rw[decide_eq_true h1,decide_eq_false h2];simp[h1,h2]
 ·rw[decide_eq_false h1];simp[h1]
theorem qbtm (a:Value):¬ vlt a a=true:=by
 rw[qbdf]
 rintro (h | ⟨_,h | ⟨_,h⟩⟩)
 ·omega
 ·omega
 ·exact List.lt_irrefl _ h
theorem qbup {a b c:Value} (h:vlt a b=true) (k:vlt b c=true):vlt a c=true:=by
 rw[qbdf] at *
 rcases h with h | ⟨h,h2⟩
 ·rcases k with k | ⟨k,_⟩
  ·exact .inl (by omega)
  ·exact .inl (by omega)
 ·rcases k with k | ⟨k,k2⟩
  ·exact .inl (by omega)
  ·refine .inr ⟨by omega,?_⟩
   rcases h2 with h2 | ⟨h2,h3⟩
   ·rcases k2 with k2 | ⟨k2,_⟩
    ·exact .inl (by omega)
    ·exact .inl (by omega)
   ·rcases k2 with k2 | ⟨k2,k3⟩
    ·exact .inl (by omega)
    ·exact .inr ⟨by omega,List.lt_trans h3 k3⟩
theorem qbtv (a b:Value):vlt a b=true∨a=b∨vlt b a=true:=by
 rw[qbdf,qbdf]
 obtain ⟨a1,a2,a3,⟨⟩⟩:=a
 obtain ⟨b1,b2,b3,⟨⟩⟩:=b
 dsimp only
 by_cases h1:a1<b1
 ·exact .inl (.inl h1)
 ·by_cases h2:b1<a1
  ·exact .inr (.inr (.inl h2))
  ·have e1:a1=b1:=by omega
   by_cases h3:a2<b2
   ·exact .inl (.inr ⟨e1,.inl h3⟩)
   ·by_cases h4:b2<a2
    ·exact .inr (.inr (.inr ⟨e1.symm,.inl h4⟩))
    ·have e2:a2=b2:=by omega
     by_cases h5:a3.toList<b3.toList
     ·exact .inl (.inr ⟨e1,.inr ⟨e2,h5⟩⟩)
     ·by_cases h6:b3.toList<a3.toList
      ·exact .inr (.inr (.inr ⟨e1.symm,.inr ⟨e2.symm,h6⟩⟩))
      ·have e3:a3=b3:=q1l (List.le_antisymm (List.not_lt.1 h6) (List.not_lt.1 h5))
       subst e1;subst e2;subst e3
       exact .inr (.inl rfl)
theorem qbcp:∀ {a b c:Row},tlt a b=true→tlt b c=true→tlt a c=true
 | [],[],_,h,_=>by simp[tlt] at h
 | [],_::_,[],_,k=>by simp[tlt] at k
 | [],_::_,_::_,_,_=>rfl
 | _::_,[],_,h,_=>by simp[tlt] at h
 | _::_,_::_,[],_,k=>by simp[tlt] at k
 | x::a,y::b,z::c,h,k=>by
  simp only[tlt] at *
  by_cases e1:x=y
  ·subst e1
   rw[if_pos rfl] at h
   by_cases e2:x=z
   ·rw[if_pos e2] at k ⊢;exact qbcp h k
   ·rw[if_neg e2] at k ⊢;exact k
  ·rw[if_neg e1] at h
   by_cases e2:y=z
   ·subst e2;rw[if_neg e1];exact h
   ·rw[if_neg e2] at k
    have:=qbup h k
    rw[if_neg (fun e=>qbtm x (by rw[←e] at this;exact this))]
    exact this
theorem qbmo:∀ (a b:Row),tlt a b=true∨a=b∨tlt b a=true
 | [],[]=>.inr (.inl rfl)
 | [],_::_=>.inl rfl
 | _::_,[]=>.inr (.inr rfl)
 | x::a,y::b=>by
  simp only[tlt]
  by_cases e:x=y
  ·subst e
   rw[if_pos rfl,if_pos rfl]
   rcases qbmo a b with h | h | h
   ·exact .inl h
   ·exact .inr (.inl (by rw[h]))
   ·exact .inr (.inr h)
  ·rw[if_neg e,if_neg (fun k=>e k.symm)]
   rcases qbtv x y with h | h | h
   ·exact .inl h
   ·exact absurd h e
   ·exact .inr (.inr h)
def qbc9 (s:qbc) (a b:Row):Prop:=tlt (ql a s.2.1) (ql b s.2.1)=true∧qpk s a b=false
theorem qwt (r:Rel):qdo r=true↔qe5 r.1=true∧r.2.1.length≤12∧(∀ x∈r.2.1,qjp r.1 x=true)∧r.2.1.Pairwise (qbc9 r.1):=by
 simp only[qdo,Bool.and_eq_true,Bool.not_eq_true',decide_eq_true_eq]
 constructor
 ·rintro ⟨h1,h2,h3⟩
  have hb:∀ i,i<r.2.1.length→qnc r.1 r.2.1 i=false:=fun i hi=>qbj.1 h1 i (by omega) (by omega)
  refine ⟨h2,by omega,fun x hx=>?_,?_⟩
  ·obtain ⟨i,hi,rfl⟩:=List.mem_iff_getElem.1 hx
   have:=hb i hi
   simp only[qnc,Bool.or_eq_false_iff,Bool.not_eq_false'] at this
   rw[←qz (d:=[]) hi];exact this.1
  ·have hk:∀ d i,i+d+1<r.2.1.length→tlt (ql (r.2.1.getD i []) r.1.2.1) (ql (r.2.1.getD (i+d+1) []) r.1.2.1)=true:=by
    intro d
    induction d with
    | zero=>
     intro i hi
     have:=hb (i+1) (by omega)
     simp only[qnc,Bool.or_eq_false_iff,Bool.not_eq_false',Bool.and_eq_false_iff,decide_eq_false_iff_not,Nat.add_sub_cancel] at this
     exact this.2.1.resolve_left (by omega)
    | succ d ih=>
     intro i hi
     have h4:=ih i (by omega)
     have:=hb (i+d+2) (by omega)
     simp only[qnc,Bool.or_eq_false_iff,Bool.not_eq_false',Bool.and_eq_false_iff,decide_eq_false_iff_not] at this
     have h5:=this.2.1.resolve_left (by omega)
     exact qbcp h4 h5
   refine List.pairwise_iff_getElem.2 fun i j hi hj hij=>⟨?_,?_⟩
   ·obtain ⟨d,rfl⟩:∃ d,j=i+d+1:=⟨j - i - 1,by omega⟩
    have:=hk d i hj
    rw[qz hi,qz hj] at this
    exact this
   ·have:=hb j hj
    simp only[qnc,Bool.or_eq_false_iff] at this
    have:=qbj.1 this.2.2 i (by omega) (by omega)
    rw[qz hi,qz hj,qxo] at this
    exact this
 ·rintro ⟨h1,h2,h3,h4⟩
  have hp:=List.pairwise_iff_getElem.1 h4
  refine ⟨qbj.2 fun i _ hi=>?_,h1,by omega⟩
  have hi:i<r.2.1.length:=by omega
  simp only[qnc,Bool.or_eq_false_iff,Bool.not_eq_false']
  refine ⟨h3 _ (qck hi),?_,qbj.2 fun k _ hk=>?_⟩
  ·by_cases h0:0<i
   ·have hi1:i - 1<r.2.1.length:=by omega
    rw[decide_eq_true h0,Bool.true_and,qz hi,qz hi1,(hp (i - 1) i hi1 hi (by omega)).1];rfl
   ·rw[decide_eq_false h0,Bool.false_and]
  ·have hk2:k<r.2.1.length:=by omega
   rw[qz hi,qz hk2,qxo]
   exact (hp k i hk2 hi (by omega)).2
theorem qbsu {r:Rel} {key:Row} (h:qna r key=none):∀ x∈r.2.1,ql x r.1.2.1≠key:=by
 intro x hx e
 obtain ⟨i,hi,rfl⟩:=List.mem_iff_getElem.1 hx
 have:=qja h i (by omega) (by omega)
 simp only[qbjl,decide_eq_false_iff_not] at this
 rw[qz hi] at this
 exact this e
theorem qbuc {r:Rel} {key:Row} {i:Nat} (hi:i<qfa r key) (hl:i<r.2.1.length):tlt (ql (r.2.1.getD i []) r.1.2.1) key=true:=by
 unfold qfa at hi
 split at hi
 ·rename_i j h
  have:=(qc9 h).2.2.2 i (by omega) hi
  simpa using this
 ·rename_i h
  have:=qja h i (by omega) (by omega)
  simpa using this
theorem qbut {r:Rel} {key:Row} (hl:qfa r key<r.2.1.length):tlt (ql (r.2.1.getD (qfa r key) []) r.1.2.1) key=false:=by
 unfold qfa at *
 split at hl
 ·rename_i j h
  have:=(qc9 h).2.2.1
  simpa using this
 ·omega
theorem qbfk {α:Type} {l:List α} {n:Nat} {x:α} (h:x∈l.take n):∃ i,∃ hi:i<l.length,i<n∧x=l[i]:=by
 obtain ⟨i,hi,rfl⟩:=List.mem_iff_getElem.1 h
 rw[List.length_take] at hi
 exact ⟨i,by omega,by omega,by rw[List.getElem_take]⟩
theorem q7e {α:Type} {l:List α} {n:Nat} {x:α} (h:x∈l.drop n):∃ i,∃ hi:i<l.length,n≤i∧x=l[i]:=by
 obtain ⟨i,hi,rfl⟩:=List.mem_iff_getElem.1 h
 rw[List.length_drop] at hi
 exact ⟨n+i,by omega,by omega,by rw[List.getElem_drop]⟩
def put (r:Rel) (row:Row):Rel:=(r.1,r.2.1.take (qfa r (ql row r.1.2.1))++[row]++r.2.1.drop (qfa r (ql row r.1.2.1)),())
theorem qbq4 {r:Rel} {row:Row} (h:others r row (-1)=false):∀ x∈r.2.1,qpk r.1 x row=false:=by
 intro x hx
 obtain ⟨i,hi,rfl⟩:=List.mem_iff_getElem.1 hx
 have:=qbj.1 h i (by omega) (by omega)
 rw[decide_eq_false (show ¬ (i:Int) = -1 by omega),Bool.not_false,Bool.true_and,qz hi] at this
 exact this
theorem qbt2 {r:Rel} {key:Row} (hp:r.2.1.Pairwise (qbc9 r.1)) (hk:∀ x∈r.2.1,ql x r.1.2.1≠key) {i:Nat} (hl:i<r.2.1.length) (hi:qfa r key≤i):tlt key (ql (r.2.1.getD i []) r.1.2.1)=true:=by
 have hpl:qfa r key<r.2.1.length:=by omega
 have h0:tlt key (ql (r.2.1.getD (qfa r key) []) r.1.2.1)=true:=by
  rcases qbmo (ql (r.2.1.getD (qfa r key) []) r.1.2.1) key with h | h | h
  ·rw[qbut hpl] at h;cases h
  ·exact absurd h (hk _ (qck hpl))
  ·exact h
 by_cases e:i=qfa r key
 ·rw[e];exact h0
 ·have:=(List.pairwise_iff_getElem.1 hp (qfa r key) i hpl hl (by omega)).1
  rw[←qz (d:=[]) hpl,←qz (d:=[]) hl] at this
  exact qbcp h0 this
theorem qbzi {r:Rel} {row:Row} (hok:qdo r=true) (hrow:qjp r.1 row=true) (hk:qna r (ql row r.1.2.1)=none) (ho:others r row (-1)=false) (hl:r.2.1.length<12):qdo (put r row)=true:=by
 obtain ⟨h1,h2,h3,h4⟩:=(qwt r).1 hok
 have hkn:=qbsu hk
 have hon:=qbq4 ho
 have hle:=qbmu r (ql row r.1.2.1)
 have hsplit:(r.2.1.take (qfa r (ql row r.1.2.1))++r.2.1.drop (qfa r (ql row r.1.2.1))).Pairwise (qbc9 r.1):=by rw[List.take_append_drop];exact h4
 obtain ⟨p1,p2,p3⟩:=List.pairwise_append.1 hsplit
 refine (qwt _).2 ⟨h1,?_,?_,?_⟩
 ·simp only[put,List.length_append,List.length_take,List.length_drop,List.length_cons,List.length_nil];omega
 ·intro x hx
  simp only[put,List.mem_append,List.mem_singleton] at hx
  rcases hx with (hx | rfl) | hx
  ·exact h3 x (List.mem_of_mem_take hx)
  ·exact hrow
  ·exact h3 x (List.mem_of_mem_drop hx)
 ·show (r.2.1.take (qfa r (ql row r.1.2.1))++[row]++r.2.1.drop (qfa r (ql row r.1.2.1))).Pairwise (qbc9 r.1)
  have hlo:∀ a∈r.2.1.take (qfa r (ql row r.1.2.1)),qbc9 r.1 a row:=fun a ha=>by
   obtain ⟨i,hi,hip,rfl⟩:=qbfk ha
   have:=qbuc hip hi
   rw[qz hi] at this
   exact ⟨this,hon _ (List.getElem_mem _)⟩
  have hhi:∀ b∈r.2.1.drop (qfa r (ql row r.1.2.1)),qbc9 r.1 row b:=fun b hb=>by
   obtain ⟨i,hi,hip,rfl⟩:=q7e hb
   have:=qbt2 h4 hkn hi hip
   rw[qz hi] at this
   exact ⟨this,by rw[qxo];exact hon _ (List.getElem_mem _)⟩
  refine List.pairwise_append.2 ⟨List.pairwise_append.2 ⟨p1,List.pairwise_singleton _ _,fun a ha b hb=>?_⟩,p2,fun a ha b hb=>?_⟩
  ·rw[List.mem_singleton] at hb;subst hb;exact hlo a ha
  ·rcases List.mem_append.1 ha with ha | ha
   ·exact p3 a ha b hb
   ·rw[List.mem_singleton] at ha;subst ha;exact hhi b hb
theorem qbzq {r:Rel} (hok:qdo r=true) (j:Nat):qdo (r.1,r.2.1.take j++r.2.1.drop (j+1),())=true:=by
 obtain ⟨h1,h2,h3,h4⟩:=(qwt r).1 hok
 have hs:(r.2.1.take j++r.2.1.drop (j+1)).Sublist r.2.1:=by
  have:=(List.Sublist.refl (r.2.1.take j)).append (List.drop_sublist 1 (r.2.1.drop j))
  rw[List.take_append_drop,List.drop_drop] at this
  exact this
 exact (qwt _).2 ⟨h1,Nat.le_trans hs.length_le h2,fun x hx=>h3 x (hs.subset hx),h4.sublist hs⟩
theorem qbts {r:Rel} (hok:qdo r=true) (row:Row):qdo (q0v r row).1=true:=by
 unfold q0v
 split
 ·rename_i hc
  split
  ·exact hok
  ·rename_i hk
   split
   ·exact hok
   ·rename_i ho
    split
    ·exact hok
    ·exact qbzi hok hc.2 hk (by simpa using ho) (by omega)
 ·exact hok
theorem qbtj {r:Rel} (hok:qdo r=true) (key:Row):qdo (q0p r key).1=true:=by
 unfold q0p
 rw[if_pos hok]
 cases qna r key with
 | some j=>exact qbzq hok _
 | none=>exact hok
theorem q0u {rows:List Row} {j:Nat} {row:Row} (hj:j<rows.length) (i:Nat):(rows.set j row).getD i []=if i=j then row else rows.getD i []:=by
 by_cases e:i=j
 ·subst e
  rw[if_pos rfl,qz (by rw[List.length_set];exact hj),List.getElem_set_self]
 ·rw[if_neg e]
  simp only[List.getD,List.getElem?_set]
  rw[if_neg (fun k=>e k.symm)]
theorem qbwt {r:Rel} {row:Row} {j:Nat} (hok:qdo r=true) (hrow:qjp r.1 row=true) (hk:qna r (ql row r.1.2.1)=some j) (ho:others r row j=false) :
  qdo (r.1,r.2.1.set j row,())=true∧qna (r.1,r.2.1.set j row,()) (ql row r.1.2.1)=some j:=by
 obtain ⟨_,hj,hkj,_⟩:=qc9 hk
 rw[Nat.zero_add] at hj
 have hkey:∀ i,ql ((r.2.1.set j row).getD i []) r.1.2.1=ql (r.2.1.getD i []) r.1.2.1:=by
  intro i
  rw[q0u hj]
  split
  ·rename_i e
   subst e
   simp only[qbjl,decide_eq_true_eq] at hkj
   exact hkj.symm
  ·rfl
 have hoth:∀ k,k<r.2.1.length→k≠j→qpk r.1 (r.2.1.getD k []) row=false:=by
  intro k h1 h2
  have:=qbj.1 ho k (by omega) (by omega)
  rw[decide_eq_false (by omega),Bool.not_false,Bool.true_and] at this
  exact this
 simp only[qdo,Bool.and_eq_true,Bool.not_eq_true',decide_eq_true_eq] at hok
 obtain ⟨h1,h2,h3⟩:=hok
 constructor
 ·simp only[qdo,Bool.and_eq_true,Bool.not_eq_true',decide_eq_true_eq,List.length_set]
  refine ⟨qbj.2 fun i _ hi=>?_,h2,h3⟩
  have hb:=qbj.1 h1 i (by omega) (by omega)
  simp only[qnc,Bool.or_eq_false_iff] at hb ⊢
  obtain ⟨b1,b2,b3⟩:=hb
  refine ⟨?_,?_,qbj.2 fun k _ hk=>?_⟩
  ·rw[q0u hj]
   split
   ·rw[hrow];rfl
   ·exact b1
  ·rw[hkey,hkey];exact b2
  ·have b4:=qbj.1 b3 k (by omega) (by omega)
   rw[q0u hj,q0u hj]
   by_cases e1:i=j
   ·rw[if_pos e1,if_neg (show ¬ k=j by omega),qxo]
    exact hoth k (by omega) (by omega)
   ·rw[if_neg e1]
    by_cases e2:k=j
    ·rw[if_pos e2];exact hoth i (by omega) e1
    ·rw[if_neg e2];exact b4
 ·refine Eq.trans ?_ hk
  unfold qna
  show qy _ 0 (r.2.1.set j row).length=_
  rw[List.length_set]
  exact q6y fun i _ _=>by
   show decide (ql ((r.2.1.set j row).getD i []) r.1.2.1=_)=decide (ql (r.2.1.getD i []) r.1.2.1=_)
   rw[hkey]
end Go.G

namespace Go.V
open Go
theorem El.take {h:Array Obj} {Pr:BS} {e:Ty} {mi:Mk} {xs:List e.den} {cells:List Value} {Fs:Nat→BS} (k:El h Pr e mi xs cells Fs) (n:Nat) (hn:n≤xs.length) (hl:cells.length=xs.length * e.width):El h Pr e mi (xs.take n) (cells.take (n * e.width)) Fs:=by
 refine ⟨fun i hi=>?_,k.dis⟩
 rw[List.length_take] at hi
 have hin:i<n:=by omega
 have h1:(xs.take n).getD i e.zero=xs.getD i e.zero:=by
  simp only[List.getD,List.getElem?_take]
  rw[if_pos hin]
 have h2:((cells.take (n * e.width)).drop (i * e.width)).take e.width=(cells.drop (i * e.width)).take e.width:=by
  rw[List.drop_take,List.take_take]
  congr 1
  have:(i+1) * e.width≤n * e.width:=Nat.mul_le_mul_right _ hin
  rw[Nat.succ_mul] at this
  omega
 rw[h1,h2]
 exact k.rep i (by omega)
theorem El.drop {h:Array Obj} {Pr:BS} {e:Ty} {mi:Mk} {xs:List e.den} {cells:List Value} {Fs:Nat→BS} (k:El h Pr e mi xs cells Fs) (n:Nat) (hn:n≤xs.length):El h Pr e mi (xs.drop n) (cells.drop (n * e.width)) (fun i=>Fs (n+i)):=by
 refine ⟨fun i hi=>?_,fun i j hij=>k.dis _ _ (by omega)⟩
 rw[List.length_drop] at hi
 have h1:(xs.drop n).getD i e.zero=xs.getD (n+i) e.zero:=by
  simp only[List.getD,List.getElem?_drop]
 have h2:((cells.drop (n * e.width)).drop (i * e.width)).take e.width=(cells.drop ((n+i) * e.width)).take e.width:=by
  rw[List.drop_drop,Nat.add_mul]
 rw[h1,h2]
 exact k.rep (n+i) (by omega)
def upTo (n:Nat) (Fs:Nat→BS) (i:Nat):BS:=if i<n then Fs i else Nil
theorem q59 (n:Nat) (Fs:Nat→BS) (i:Nat):Sub (upTo n Fs i) (Fs i):=by
 unfold upTo
 split
 ·exact Sub.refl _
 ·exact Sub.nil _
theorem El.upTo {h:Array Obj} {Pr:BS} {e:Ty} {mi:Mk} {xs:List e.den} {cells:List Value} {Fs:Nat→BS} (k:El h Pr e mi xs cells Fs):El h Pr e mi xs cells (upTo xs.length Fs):=by
 refine ⟨fun i hi=>?_,fun i j hij=>(k.dis i j hij).mono (q59 _ _ _) (q59 _ _ _)⟩
 have:Go.V.upTo xs.length Fs i=Fs i:=if_pos hi
 rw[this]
 exact k.rep i hi
theorem El.cut {h:Array Obj} {Pr:BS} {e:Ty} {mi:Mk} {xs:List e.den} {cells:List Value} {Fs:Nat→BS} (k:El h Pr e mi xs cells Fs) (i j:Nat) (hij:i≤j) (hj:j≤xs.length) (hl:cells.length=xs.length * e.width) :
  ∃ FF:Nat→BS,El h Pr e mi (xs.take i++xs.drop j) (cells.take (i * e.width)++cells.drop (j * e.width)) FF∧∀ a b,FF a b→∃ c,Fs c b:=by
 have k1:=(k.take i (by omega) hl).upTo
 have k2:=k.drop j hj
 have hlen:(xs.take i).length=i:=by rw[List.length_take];omega
 rw[hlen] at k1
 have hiw:i * e.width≤cells.length:=by rw[hl];exact Nat.mul_le_mul_right _ (by omega)
 have hjw:j * e.width≤cells.length:=by rw[hl];exact Nat.mul_le_mul_right _ hj
 refine ⟨_,El.append k1 k2 (by rw[List.length_take,hlen];omega) (by rw[List.length_drop,List.length_drop,hl,Nat.sub_mul]) (fun a b=>?_),?_⟩
 ·unfold Go.V.upTo
  split
  ·exact k.dis _ _ (by omega)
  ·exact Dis.nil _
 ·intro a b hb
  split at hb
  ·exact ⟨_,q59 _ _ _ b hb⟩
  ·exact ⟨_,hb⟩
theorem El.insert {h:Array Obj} {Pr:BS} {e:Ty} {mi:Mk} {xs ys:List e.den} {c1 c2:List Value} {F1 F2:Nat→BS} (k1:El h Pr e mi xs c1 F1) (k2:El h Pr e mi ys c2 F2) (i:Nat) (hi:i≤xs.length)
  (hl1:c1.length=xs.length * e.width) (hl2:c2.length=ys.length * e.width) (hd:∀ i j,Dis (F1 i) (F2 j)) :
  ∃ FF:Nat→BS,El h Pr e mi (xs.take i++ys++xs.drop i) (c1.take (i * e.width)++c2++c1.drop (i * e.width)) FF∧∀ a b,FF a b→(∃ c,F1 c b)∨∃ c,F2 c b:=by
 have a1:=(k1.take i hi hl1).upTo
 have a3:=k1.drop i hi
 have hlen:(xs.take i).length=i:=by rw[List.length_take];omega
 rw[hlen] at a1
 have hiw:i * e.width≤c1.length:=by rw[hl1];exact Nat.mul_le_mul_right _ hi
 have a12:=El.append a1 k2 (by rw[List.length_take,hlen];omega) hl2 (fun a b=>(hd a b).mono (q59 _ _ _) (Sub.refl _))
 refine ⟨_,El.append a12 a3 (by rw[List.length_append,List.length_append,List.length_take,hlen,hl2,Nat.add_mul];omega) (by rw[List.length_drop,List.length_drop,hl1,Nat.sub_mul]) (fun a b=>?_),?_⟩
 ·skip
  split
  ·unfold Go.V.upTo
   split
   ·exact k1.dis _ _ (by omega)
   ·exact Dis.nil _
  ·exact fun z h1 h2=>hd (i+b) _ z h2 h1
 ·intro a b hb
  split at hb
  ·split at hb
   ·exact .inl ⟨_,q59 _ _ _ b hb⟩
   ·exact .inr ⟨_,hb⟩
  ·exact .inl ⟨_,hb⟩
theorem qbx4 {w w2:World} {Pr:BS} {Fs:Nat→BS} {ks:List PK} {a:PDen ks} {vs:List Value} (pre:Pre w.heap Pr Fs ks a vs) {e:Ty} {mi:Mk} {zs:List e.den} {v:Value} {G:BS}
  (rep:Rep w2.heap Pr (.sl e) (.own 0 mi) zs [v] G) (hG:∀ z,G z→May w.heap.size Fs z) (hGP:Dis G Pr) (hGl:∀ z,G z→z<w2.heap.size) (hsz:w.heap.size≤w2.heap.size)
  (o:ODen ks) (out:qgc w2.heap Pr (fun _=>Nil) 0 ks o vs) (fr:WFr (May w.heap.size Fs) w w2) :
  Pst w w2 Pr Fs ks [.val (.sl e) (.own 0 mi)] (zs,()) o vs v Pr (fun i=>if i=0 then G else Nil) (fun _=>Nil) [v] where
 res:=⟨v,[],rfl,⟨[v],rep,rfl⟩,rfl⟩
 val:=rfl
 out:=out
 pr:=Sub.refl _
 prL:=fun b hb=>.inl hb
 gL:=fun i b hb=>by
  split at hb
  ·exact hG b hb
  ·exact hb.elim
 oL:=fun _ _ hb=>hb.elim
 gdis:=fun i j hij=>by
  split
  ·split
   ·omega
   ·exact fun _ _ h=>h.elim
  ·exact Dis.nil _
 odis:=fun _ _ _=>Dis.nil _
 go:=fun _ _=>fun _ _ h=>h.elim
 gp:=fun i=>by
  split
  ·exact hGP
  ·exact Dis.nil _
 op:=fun _=>Dis.nil _
 glim:=fun i b hb=>by
  split at hb
  ·exact hGl b hb
  ·exact hb.elim
 olim:=fun _ _ hb=>hb.elim
 plim:=fun b hb=>Nat.lt_of_lt_of_le (pre.limPr b hb) hsz
 fr:=fr
end Go.V

namespace Go.V
set_option maxRecDepth 100000
set_option maxHeartbeats 4000000
open Go Go.Proofs Go.RowKit Go.Lib
theorem nt2:Tryz.f93.ntmps=95:=by kernel_rfl
theorem qbpy (a1:Option Addr) (n c m:Nat) (a2:Option Addr) (c2:Nat) (w w3:World) (v3:Value) (hm:0<m) (hc:n≤c) (h1:(∃ b,a1=some ⟨b,0,none⟩)∨(n=0∧c=0))
  (hr:∀ ty,(Builtin.append_ #[35,35] ty #[.slice a1 n c,.slice a2 m c2]).run Tryz.prog w=.ok v3 w3) :
  Calls Tryz.prog 93 #[.slice a1 n c,.int .i64 n,.slice a2 m c2] w fun e w'=>e=.returned v3∧w'=w3:=by
 have mx:=mixed
 have uT:Tryz.prog.underlying 35=some (.slice 42):=by kernel_rfl
 have u3:Tryz.prog.underlying 3=some (.int .i64):=by kernel_rfl
 have vT:=run_underlying uT
 have v3:=run_underlying u3
 have sE:(Tryz.prog.info? 42).map (·.size)=some 2:=by kernel_rfl
 obtain ⟨i0,hi0⟩:∃ i0,Tryz.prog.info? 42=some i0:=by cases h:Tryz.prog.info? 42 with | none=>rw[h] at sE;cases sE | some x=>exact ⟨x,rfl⟩
 have hs0:i0.size=2:=by rw[hi0] at sE;simpa using sE
 have hz1:¬ ((m:Int)=0):=by omega
 rcases h1 with ⟨b,rfl⟩ | ⟨rfl,rfl⟩
 ·go_enter Tryz.func93,nt2
  go_wp2_with (at_builtin;refine Lib.wpList_append_run _ rfl _ _ _ _ rfl _ _ rfl rfl _ _ (hr _) ?_)
  all_goals (try (go_ret;exact ⟨rfl,rfl⟩))
 ·cases a1 with
  | none=>
   go_enter Tryz.func93,nt2
   go_wp2_with (at_builtin;refine Lib.wpList_append_run _ rfl _ _ _ _ rfl _ _ rfl rfl _ _ (hr _) ?_)
   all_goals (try (go_ret;exact ⟨rfl,rfl⟩))
  | some a0=>
   go_enter Tryz.func93,nt2
   go_wp2_with (at_builtin;refine Lib.wpList_append_run _ rfl _ _ _ _ rfl _ _ rfl rfl _ _ (hr _) ?_)
   all_goals (try (go_ret;exact ⟨rfl,rfl⟩))
theorem qbui (b n c i m:Nat) (a2:Addr) (c2 B G:Nat) (w w1 w2 w3:World) (r2 r3:Value) (hi:i<n) (hm:0<m) (hnc:n≤c) (hroom:c<n+m) (hG:n+m≤G) (hs63:n+m≤9223372036854775807)
  (hA:∀ ty,(Builtin.append_ #[35,3] ty #[.slice (some ⟨b,0,none⟩) i c,.int .i64 ((n:Int)+(m:Int) - (i:Int))]).run Tryz.prog w=.ok (.slice (some ⟨B,0,none⟩) (n+m) G) w1)
  (hB:∀ ty,(Builtin.copy_ #[35,35] ty #[.slice (some ⟨B,i * 2,none⟩) (n+m - i) (G - i),.slice (some a2) m c2]).run Tryz.prog w1=.ok r2 w2)
  (hC:∀ ty,(Builtin.copy_ #[35,35] ty #[.slice (some ⟨B,(i+m) * 2,none⟩) (n+m - (i+m)) (G - (i+m)),.slice (some ⟨b,i * 2,none⟩) (n - i) (c - i)]).run Tryz.prog w2.drew=.ok r3 w3) :
  Calls Tryz.prog 93 #[.slice (some ⟨b,0,none⟩) n c,.int .i64 i,.slice (some a2) m c2] w fun e w'=>e=.returned (.slice (some ⟨B,0,none⟩) (n+m) G)∧w'=w3:=by
 have mx:=mixed
 have uT:Tryz.prog.underlying 35=some (.slice 42):=by kernel_rfl
 have u3:Tryz.prog.underlying 3=some (.int .i64):=by kernel_rfl
 have vT:=run_underlying uT
 have v3:=run_underlying u3
 have sE:(Tryz.prog.info? 42).map (·.size)=some 2:=by kernel_rfl
 obtain ⟨i0,hi0⟩:∃ i0,Tryz.prog.info? 42=some i0:=by cases h:Tryz.prog.info? 42 with | none=>rw[h] at sE;cases sE | some x=>exact ⟨x,rfl⟩
 have hs0:i0.size=2:=by rw[hi0] at sE;simpa using sE
 have hz1:¬ ((m:Int)=0):=by omega
 have hz2:¬ ((i:Int)=(n:Int)):=by omega
 have hz3:(c:Int)<(n:Int)+(m:Int):=by omega
 have hw1:IntKind.i64.wrap ((i:Int)+(m:Int))=(i:Int)+(m:Int):=by rw[IntKind.wrap_i64];omega
 have hb1:(0:Int)≤(i:Int)+(m:Int):=by omega
 have hin:i≤n:=by omega
 have htn:((i:Int)+(m:Int)).toNat=i+m:=by omega
 have hb3:(i:Int)≤(n:Int):=by omega
 have hGi:¬ (G=i):=by omega
 have hGim:¬ (G=i+m):=by omega
 have hci:¬ (c=i):=by omega
 go_enter Tryz.func93,nt2
 go_wp2_with (first
  | (at_builtin;refine Lib.wpList_append_run _ rfl _ _ _ _ rfl _ _ rfl rfl _ _ (hA _) ?_)
  | (at_builtin;refine wpList_copy_runI _ rfl _ _ 35 35 rfl _ _ rfl rfl (hB _) ?_))
 go_region_law_o (refine step_copy_runI rfl _ _ 35 35 rfl (.slice (some ⟨B,(i+m) * 2,none⟩) (n+m - (i+m)) (G - (i+m))) (.slice (some ⟨b,i * 2,none⟩) (n - i) (c - i)) (by simp[Act.eval,Act.put]) (by simp[Act.eval,Act.put]) (hC _) ?_)
 go_wp2
 go_ret
 exact ⟨rfl,rfl⟩
theorem qbtr (b n c i m:Nat) (a2:Addr) (c2:Nat) (w w1 w2:World) (r1 r2:Value) (hi:i<n) (hm:0<m) (hroom:n+m≤c) (hs63:n+m≤9223372036854775807)
  (hov:∀ lb cb,(callFunc 156 #[.slice (some a2) m c2,.slice (some ⟨b,(i+m) * 2,none⟩) lb cb]).run Tryz.prog w=.ok (.value (.bool false)) w)
  (hB:∀ ty dc sc,(Builtin.copy_ #[35,35] ty #[.slice (some ⟨b,(i+m) * 2,none⟩) (n+m - (i+m)) dc,.slice (some ⟨b,i * 2,none⟩) (n+m - i) sc]).run Tryz.prog w.drew=.ok r1 w1)
  (hC:∀ ty dc,(Builtin.copy_ #[35,35] ty #[.slice (some ⟨b,i * 2,none⟩) (n+m - i) dc,.slice (some a2) m c2]).run Tryz.prog w1=.ok r2 w2) :
  Calls Tryz.prog 93 #[.slice (some ⟨b,0,none⟩) n c,.int .i64 i,.slice (some a2) m c2] w fun e w'=>e=.returned (.slice (some ⟨b,0,none⟩) (n+m) c)∧w'=w2:=by
 have mx:=mixed
 have uT:Tryz.prog.underlying 35=some (.slice 42):=by kernel_rfl
 have u3:Tryz.prog.underlying 3=some (.int .i64):=by kernel_rfl
 have vT:=run_underlying uT
 have v3:=run_underlying u3
 have sE:(Tryz.prog.info? 42).map (·.size)=some 2:=by kernel_rfl
 obtain ⟨i0,hi0⟩:∃ i0,Tryz.prog.info? 42=some i0:=by cases h:Tryz.prog.info? 42 with | none=>rw[h] at sE;cases sE | some x=>exact ⟨x,rfl⟩
 have hs0:i0.size=2:=by rw[hi0] at sE;simpa using sE
 have hz1:¬ ((m:Int)=0):=by omega
 have hz2:¬ ((i:Int)=(n:Int)):=by omega
 have hw1:IntKind.i64.wrap ((i:Int)+(m:Int))=(i:Int)+(m:Int):=by rw[IntKind.wrap_i64];omega
 have hb1:(0:Int)≤(i:Int)+(m:Int):=by omega
 have hin:i≤n:=by omega
 have htn:((i:Int)+(m:Int)).toNat=i+m:=by omega
 have hb2:¬ (c=i+m):=by omega
 have hb3:(i:Int)≤(n:Int)+(m:Int):=by omega
 have hb4:¬ (c=i):=by omega
 go_enter Tryz.func93,nt2
 go_wp2_with (simp only[hov])
 go_region_law_o (refine step_copy_runI rfl _ _ 35 35 rfl _ _ (by simp[Act.eval,Act.put]) (by simp[Act.eval,Act.put]) (hB _ _ _) ?_)
 go_wp2_with (at_builtin;refine wpList_copy_runI _ rfl _ _ 35 35 rfl _ _ rfl rfl (hC _ _) ?_)
 go_ret
 exact ⟨rfl,rfl⟩
end Go.V

namespace Go.V
set_option maxRecDepth 100000
open Go Go.Proofs Go.RowKit
abbrev TWay:Ty:=.pair .str (.pair .str .unit)
abbrev SigW:Sig:=⟨[.own (.sl TWay) (Mk.top (.sl TWay)),.val (.int .i64),.own (.sl TWay) (Mk.top (.sl TWay))],[.val (.sl TWay) (Mk.top (.sl TWay))]⟩
theorem sigW:ctx.sig 93=SigW:=by kernel_rfl
def insW (xs:List TWay.den) (i:Int) (ys:List TWay.den):Option (List TWay.den):=if 0≤i∧i≤xs.length∧0<ys.length∧xs.length+ys.length≤qbi then some (xs.take i.toNat++ys++xs.drop i.toNat) else none
theorem qbdm {w w2:World} {Pr:BS} {Fs:Nat→BS} {ks:List PK} {a:PDen ks} {vs:List Value} (pre:Pre w.heap Pr Fs ks a vs) {e:Ty} {mi:Mk} {zs:List e.den} {cells:List Value} {FF:Nat→BS} {B cap:Nat} {cs:Array Value}
  (el:El w.heap Pr e mi zs cells FF) (hFF:∀ t b,FF t b→∃ k,Fs k b) (hob:qbw w2.heap B cs) (hcap:cap * e.width≤cs.size) (hl:zs.length≤cap) (htake:cs.toList.take (zs.length * e.width)=cells)
  (hB:B=w.heap.size∨(∃ k,Fs k B)) (hFB:∀ t,¬ FF t B) (hother:∀ b',b'<w.heap.size→b'≠B→w2.heap[b']? = w.heap[b']?) (hsz:w.heap.size≤w2.heap.size) (hBl:B<w2.heap.size)
  (h1:w2.os=w.os) (h2:w2.tape=w.tape) (h3:w2.output=w.output) (o:ODen ks) (out:qgc w2.heap Pr (fun _=>Nil) 0 ks o vs) :
  ∃ val Pr' Gs Os us,(Value.slice (some ⟨B,0,none⟩) zs.length cap)=val∧Pst w w2 Pr Fs ks [.val (.sl e) (.own 0 mi)] (zs,()) o vs val Pr' Gs Os us:=by
 have hFl:∀ t b,FF t b→b<w.heap.size:=fun t b hb=>by obtain ⟨k,hk⟩:=hFF t b hb;exact pre.lim k b hk
 have hPB:¬ Pr B:=fun hb=>by
  rcases hB with rfl | ⟨k,hk⟩
  ·exact Nat.lt_irrefl _ (pre.limPr _ hb)
  ·exact pre.prot k B hk hb
 have el2:=el.mono (h':=w2.heap) (Sub.refl _) (fun b' hb'=>hother b' (pre.limPr b' hb') (fun e0=>hPB (e0 ▸ hb'))) (fun t b' hb'=>hother b' (hFl t b' hb') (fun e0=>hFB t (e0 ▸ hb')))
 have rep:=el2.row hob (cap:=cap) hcap hl (fun t ht=>qu6 htake (by
  have:=Nat.mul_le_mul_right e.width (show t+1≤zs.length by exact ht)
  rw[Nat.succ_mul] at this;exact this)) hFB 0
 have hG:∀ z,(z=B∨∃ t,FF t z)→May w.heap.size Fs z:=by
  rintro z (rfl | ⟨t,ht⟩)
  ·rcases hB with e0 | hk
   ·exact .inl (by omega)
   ·exact .inr hk
  ·exact .inr (hFF t z ht)
 refine ⟨_,Pr,_,_,_,rfl,qbx4 pre rep hG (fun z hz hp=>?_) (fun z hz=>?_) hsz o out ⟨h1,h2,h3,hsz,fun b' hb1 hb'=>hother b' hb1 (fun e0=>hb' ?_)⟩⟩
 ·rcases hz with rfl | ⟨t,ht⟩
  ·exact hPB hp
  ·obtain ⟨k,hk⟩:=hFF t z ht;exact pre.prot k z hk hp
 ·rcases hz with rfl | ⟨t,ht⟩
  ·exact hBl
  ·exact Nat.lt_of_lt_of_le (hFl t z ht) hsz
 ·subst e0
  exact hG b' (.inl rfl)
theorem qbz6 {l D C:List Value} {i m:Nat} (hC:C.length=m) (hl:i+m+D.length≤l.length):(repl (repl l (i+m) D) i C).take (i+m+D.length)=l.take i++C++D:=by
 have hA:(l.take (i+m)).length=i+m:=by rw[List.length_take];omega
 have e1:(repl l (i+m) D).take i=l.take i:=by
  simp only[repl]
  rw[List.append_assoc,List.take_append_of_le_length (by omega),List.take_take]
  congr 1;omega
 have e2:(repl l (i+m) D).drop (i+m)=D++l.drop (i+m+D.length):=by
  simp only[repl]
  rw[List.append_assoc,List.drop_append_of_le_length (by omega),List.drop_eq_nil_of_le (by omega),List.nil_append]
 have e3:repl (repl l (i+m) D) i C=(l.take i++C++D)++l.drop (i+m+D.length):=by
  show (repl l (i+m) D).take i++C++(repl l (i+m) D).drop (i+C.length)=_
  rw[e1,hC,e2];simp only[List.append_assoc]
 rw[e3,List.take_append_of_le_length (by simp only[List.length_append,List.length_take];omega),List.take_of_length_le (by simp only[List.length_append,List.length_take];omega)]
theorem qbz4 {l D C:List Value} {i m:Nat} (hC:C.length=m) (hl:i+m+D.length≤l.length):(repl (repl l i C) (i+m) D).take (i+m+D.length)=l.take i++C++D:=by
 have hA:(l.take i++C).length=i+m:=by rw[List.length_append,List.length_take];omega
 have e1:(repl l i C).take (i+m)=l.take i++C:=by
  show (l.take i++C++l.drop (i+C.length)).take (i+m)=_
  rw[List.take_append_of_le_length (by omega),List.take_of_length_le (by omega)]
 show ((repl l i C).take (i+m)++D++(repl l i C).drop (i+m+D.length)).take (i+m+D.length)=_
 rw[e1,List.take_append_of_le_length (by rw[List.length_append];omega),List.take_of_length_le (by rw[List.length_append];omega)]
theorem qve {P:Program} (w:World) (dT sT ty elem:TypeId) {i:TypeInfo} (b o dLen dCap:Nat) (a:Addr) (sLen sCap:Nat) (cs:List Value)
  (hu:P.underlying dT=some (.slice elem)) (hi:P.info? elem=some i) (hn:Nat.min sLen dLen * i.size=cs.length)
  (hsrc:∀ j v,cs[j]? = some v→w.cell? (a.add j)=some v) (hc:∀ j,j<cs.length→(w.cell? ⟨b,o+j,none⟩).isSome=true) (hf:∀ j,j<cs.length→w.frozen? ⟨b,o+j,none⟩=false) (h1:∀ v∈cs,v.oneCell'=true) :
  (Builtin.copy_ #[dT,sT] ty #[.slice (some ⟨b,o,none⟩) dLen dCap,.slice (some a) sLen sCap]).run P w=.ok (goInt (Nat.min sLen dLen)) (w.setCells b o cs):=by
 have hl:=run_loadCells_list (P:=P) w a cs hsrc
 have hst:=run_storeCells_cells (P:=P) b o cs 0 w (by simpa using hc) (by simpa using hf) h1
 simp[Builtin.copy_,run_underlying hu,Builtin.lenOf,Builtin.firstCells,sizeOf,typeInfo,hi,hn,hl,hst]
theorem El.all {h:Array Obj} {Pr:BS} {e:Ty} {mi:Mk} {xs:List e.den} {cells:List Value} {F:Nat→BS} (el:El h Pr e mi xs cells F) (hw:0<e.width) (hl:cells.length=xs.length * e.width):∀ u∈cells,u.oneCell'=true:=by
 intro u hu
 obtain ⟨k,hk,rfl⟩:=List.getElem_of_mem hu
 have hk2:k / e.width<xs.length:=by rw[Nat.div_lt_iff_lt_mul hw];omega
 have r:=el.rep (k / e.width) hk2
 refine Rep.one _ r _ ?_
 rw[List.mem_iff_getElem?]
 refine ⟨k % e.width,?_⟩
 have e1:k / e.width * e.width+k % e.width=k:=by rw[Nat.mul_comm];exact Nat.div_add_mod k e.width
 rw[List.getElem?_take,if_pos (Nat.mod_lt _ hw),List.getElem?_drop,e1,List.getElem?_eq_getElem]
theorem qbx0:qbsv Tryz.prog SigW 93 fun a=>(insW a.1 a.2.1 a.2.2.1).map fun r=>((r,()),()):=by
 intro a r h w Pr Fs vs pre
 obtain ⟨xs,i,ys,⟨⟩⟩:=a
 change List TWay.den at xs
 change Int at i
 change List TWay.den at ys
 obtain ⟨v1,vs1,rfl,⟨c1,rep1,rfl⟩,v2,vs2,rfl,⟨c2,r2,rfl⟩,v3,vs3,rfl,⟨c3,rep3,rfl⟩,k3⟩:=pre.rel
 obtain rfl:vs3=[]:=k3
 simp only[Rep] at r2
 subst r2
 dsimp only at h
 unfold insW at h
 split at h
 ·rename_i hc
  obtain ⟨h0,hi,hm,hbd⟩:=hc
  replace h0:0≤i:=h0
  replace hi:i≤xs.length:=hi
  replace hm:0<ys.length:=hm
  replace hbd:xs.length+ys.length≤274877906944:=hbd
  simp only[Option.map_some,Option.some.injEq] at h
  subst h
  obtain ⟨i,rfl⟩:=Int.eq_ofNat_of_zero_le h0
  have hi2:i≤xs.length:=by omega
  obtain ⟨ad1,cap1,cells1,F1,rfl,hl1,hlc1,hsrc1,el1,hF1,hown1⟩:=qwy (by simp[Mk.top]) (by simp[Mk.top]) rep1
  obtain ⟨ad2,cap2,cells2,F2,rfl,hl2,hlc2,hsrc2,el2,hF2,hown2⟩:=qwy (by simp[Mk.top]) (by simp[Mk.top]) rep3
  have hw1:TWay.width=2:=rfl
  replace hlc1:xs.length≤cap1:=hlc1
  replace hlc2:ys.length≤cap2:=hlc2
  have hl1':cells1.length=xs.length * 2:=by rw[hl1,hw1]
  have hl2':cells2.length=ys.length * 2:=by rw[hl2,hw1]
  rcases hown2 0 _ rfl with hc0 | ⟨b2,cs2,rfl,hbF2,hbo2,hcapb2,hFb2,hcells2⟩
  ·exact absurd hc0 (by omega)
  replace hcapb2:cap2 * 2≤cs2.size:=by rw[hw1] at hcapb2;exact hcapb2
  replace hcells2:cells2=sub cs2 0 (ys.length * 2):=by rw[hcells2,hw1]
  have hd12:∀ p q,Dis (F1 p) (F2 q):=fun p q=>(pre.dis 0 2 (by decide)).mono (hF1 p) (hF2 q)
  obtain ⟨FF,elz,hFF⟩:=El.insert el1 el2 i hi2 (by rw[hl1]) (by rw[hl2]) hd12
  rw[hw1] at elz
  have hFs:∀ t b,FF t b→∃ k,Fs k b:=fun t b hb=>by
   rcases hFF t b hb with ⟨c,hc⟩ | ⟨c,hc⟩
   ·exact ⟨0,hF1 c b hc⟩
   ·exact ⟨2,hF2 c b hc⟩
  have hlz:(xs.take i++ys++xs.drop i).length=xs.length+ys.length:=by simp only[List.length_append,List.length_take,List.length_drop];omega
  have hone1:=el1.all (by decide) hl1
  have hone2:=el2.all (by decide) hl2
  have uT:Tryz.prog.underlying 35=some (.slice 42):=by kernel_rfl
  have u3:Tryz.prog.underlying 3=some (.int .i64):=by kernel_rfl
  obtain ⟨i0,z0,hi0,hs0,hz0,hzs,hb0⟩:∃ i0 z0,Tryz.prog.info? 42=some i0∧i0.size=2∧i0.zero=some z0∧z0.cells.size=2∧i0.bytes=32:=by
   have k:((Tryz.prog.info? 42).map fun x=>(x.size,x.zero.map (·.cells.size),x.bytes))=some (2,some 2,32):=by kernel_rfl
   cases h:Tryz.prog.info? 42 with
   | none=>rw[h] at k;cases k
   | some x=>
    rw[h] at k
    simp only[Option.map_some,Option.some.injEq,Prod.mk.injEq] at k
    cases hz:x.zero with
    | none=>rw[hz] at k;cases k.2.1
    | some z=>
     rw[hz] at k
     simp only[Option.map_some,Option.some.injEq] at k
     exact ⟨x,z,rfl,k.1,hz,k.2.1,k.2.2⟩
  have hn2:(Builtin.firstCells i0.size ys.length (.slice (some ⟨b2,0,none⟩) ys.length cap2)).run Tryz.prog w=.ok cells2.toArray w:=by
   rw[hs0]
   exact qnp hl2' (.inr ⟨b2,0,rfl,by rw[hcells2];exact qds hbo2.blk (by omega)⟩)
  have ht0:cells1.take (xs.length * 2)=cells1:=List.take_of_length_le (by omega)
  have hd0:cells1.drop (xs.length * 2)=[]:=List.drop_eq_nil_of_le (by omega)
  have houts:∀ (h:Array Obj) (v1 v2 v3:Value),qgc h Pr (fun _=>Nil) 0 SigW.params () [v1,v2,v3]:=fun h v1 v2 v3=>⟨_,_,rfl,_,_,rfl,_,_,rfl,rfl⟩
  by_cases hend:i=xs.length
  ·subst hend
   rw[ht0,hd0,List.append_nil] at elz
   by_cases hroom:xs.length+ys.length≤cap1
   ·rcases hown1 0 _ rfl with hc0 | ⟨b1,cs1,rfl,hbF1,hbo1,hcapb1,hFb1,hcells1⟩
    ·exact absurd hc0 (by omega)
    replace hcapb1:cap1 * 2≤cs1.size:=by rw[hw1] at hcapb1;exact hcapb1
    replace hcells1:cells1=sub cs1 0 (xs.length * 2):=by rw[hcells1,hw1]
    have hfit:xs.length * 2+cells2.length≤cs1.size:=by omega
    have hr:∀ ty,(Builtin.append_ #[35,35] ty #[.slice (some ⟨b1,0,none⟩) xs.length cap1,.slice (some ⟨b2,0,none⟩) ys.length cap2]).run Tryz.prog w=.ok (.slice (some ⟨b1,0,none⟩) (xs.length+ys.length) cap1) (w.setCells b1 (xs.length * 2) cells2):=fun ty=>
     qtk (P:=Tryz.prog) w (ty:=ty) rfl rfl uT uT hi0 hn2 hroom (fun ad e=>by
      simp only[Option.some.injEq] at e
      subst e
      rw[Addr.add_mid,Nat.zero_add,hs0]
      have th:=qmz (w:=w) (o:=xs.length * 2) (n:=cells2.length) hbo1 hfit
      have:=run_storeCells_cells (P:=Tryz.prog) b1 (xs.length * 2) cells2 0 w (fun t ht=>by simpa using (th t ht).1) (fun t ht=>by simpa using (th t ht).2) hone2
      simpa using this) (fun e=>by simp at e)
    obtain ⟨ty,lo,hi',he,hfz⟩:=hbo1
    obtain ⟨cs3,hcs3,hcs3l⟩:=qjw cells2 (xs.length * 2) w cs1 he hfit
    have hsz3:cs3.size=cs1.size:=by rw[←Array.length_toList,hcs3l,qew (by simpa using hfit),Array.length_toList]
    have hob3:qbw (w.setCells b1 (xs.length * 2) cells2).heap b1 cs3:=⟨ty,lo,hi',hcs3,fun t ht=>hfz t (by omega)⟩
    have h7:cs1.toList.length=cs1.size:=Array.length_toList
    have htake:cs3.toList.take ((xs.take xs.length++ys++xs.drop xs.length).length * TWay.width)=cells1++cells2:=by
     rw[hw1,hlz,hcs3l,hcells1]
     simp only[repl,sub,List.drop_zero]
     rw[List.take_append_of_le_length (by rw[List.length_append,List.length_take,hl2'];omega),List.take_of_length_le (by rw[List.length_append,List.length_take,hl2'];omega)]
    have hrest:=qf1 (b:=b1) cells2 (xs.length * 2) w
    have hFBb:∀ t,¬ FF t b1:=fun t hb=>by
     rcases hFF t b1 hb with ⟨c,hc⟩ | ⟨c,hc⟩
     ·exact hFb1 c hc
     ·exact pre.dis 0 2 (by decide) b1 hbF1 (hF2 c b1 hc)
    refine (qbpy (some ⟨b1,0,none⟩) xs.length cap1 ys.length (some ⟨b2,0,none⟩) cap2 w _ _ hm hlc1 (.inl ⟨b1,rfl⟩) hr).mono ?_
    rintro e w' ⟨rfl,rfl⟩
    obtain ⟨val,Pr',Gs,Os,us,hv,hp⟩:=qbdm pre elz hFs hob3 (cap:=cap1) (by rw[hw1];omega) (by rw[hlz];exact hroom) htake (.inr ⟨0,hbF1⟩) hFBb (fun b' _ hb'=>qdb cells2 _ w b' hb') (by rw[qci];exact Nat.le_refl _) (by rw[qci];exact pre.lim 0 b1 hbF1) hrest.1 hrest.2.1 hrest.2.2 () (houts _ _ _ _)
    exact ⟨val,Pr',Gs,Os,us,by rw[←hv,hlz],hp⟩
   ·have hg:cap1<xs.length+ys.length:=by omega
    have hn2d:(Builtin.firstCells i0.size ys.length (.slice (some ⟨b2,0,none⟩) ys.length cap2)).run Tryz.prog w.drew=.ok cells2.toArray w.drew:=by
     rw[hs0]
     exact qnp hl2' (.inr ⟨b2,0,rfl,qhv (by rw[hcells2];exact qds hbo2.blk (by omega))⟩)
    have hn1d:(Builtin.firstCells i0.size xs.length (.slice ad1 xs.length cap1)).run Tryz.prog w.drew=.ok cells1.toArray w.drew:=by
     rw[hs0]
     refine qnp hl1' ?_
     rcases hsrc1 with ⟨h1,h2⟩ | ⟨b,o,cs,h1,h2,h3,h4⟩
     ·exact .inl ⟨h1,h2⟩
     ·exact .inr ⟨b,o,h1,qhv (h4 ▸ qds h2 h3)⟩
    have hfit:Builtin.nextslicecap (xs.length+ys.length) cap1 * i0.bytes≤281474976710656:=by
     have:=Room.nextslicecap_le' (need:=xs.length+ys.length) (old:=cap1) hg
     rw[hb0];omega
    have hr:=fun ty=>q4e (P:=Tryz.prog) w (ats:=#[35,35]) (ty:=ty) rfl rfl uT uT hi0 hz0 hn2d hn1d hg (by omega) hfit
    have hge:=grownCap_ge w (xs.length+ys.length) cap1 42
    generalize grownCap w (xs.length+ys.length) cap1 42=cap' at hr hge
    have hcss:(cells1.toArray++cells2.toArray++Builtin.zeroCells z0.cells (cap' - (xs.length+ys.length))).size=cap' * 2:=by
     simp only[Array.size_append,List.size_toArray,size_zeroCells,hzs,hl1',hl2'];omega
    have htk:(cells1.toArray++cells2.toArray++Builtin.zeroCells z0.cells (cap' - (xs.length+ys.length))).toList.take ((xs.length+ys.length) * 2)=cells1++cells2:=by
     simp only[Array.toList_append,List.append_assoc]
     rw[←List.append_assoc,List.take_append_of_le_length (by rw[List.length_append];omega),List.take_of_length_le (by rw[List.length_append];omega)]
    generalize cells1.toArray++cells2.toArray++Builtin.zeroCells z0.cells (cap' - (xs.length+ys.length))=cs at hr hcss htk
    have h1a:(∃ b,ad1=some ⟨b,0,none⟩)∨(xs.length=0∧cap1=0):=by
     rcases hown1 0 _ rfl with hc0 | ⟨b1,cs1,rfl,_⟩
     ·exact .inr ⟨by omega,hc0⟩
     ·exact .inl ⟨b1,rfl⟩
    refine (qbpy ad1 xs.length cap1 ys.length (some ⟨b2,0,none⟩) cap2 w _ _ hm hlc1 h1a hr).mono ?_
    rintro e w' ⟨rfl,rfl⟩
    obtain ⟨val,Pr',Gs,Os,us,hv,hp⟩:=qbdm (w2:=w.drew.alloc (.cells cs 42)) pre elz hFs (B:=w.heap.size) (cs:=cs) qbw.new (cap:=cap') (by rw[hw1,hcss];exact Nat.le_refl _) (by rw[hlz];exact hge) (by rw[hw1,hlz];exact htk) (.inl rfl)
     (fun t hb=>by obtain ⟨k,hk⟩:=hFs t _ hb;exact Nat.lt_irrefl _ (pre.lim k _ hk)) (fun b' hb1 _=>qkr b' hb1) (by show w.heap.size≤(w.heap.push _).size;simp) (by show w.heap.size<(w.heap.push _).size;simp) rfl rfl rfl () (houts _ _ _ _)
    exact ⟨val,Pr',Gs,Os,us,by rw[←hv,hlz],hp⟩
  ·have hlt:i<xs.length:=by omega
   rcases hown1 0 _ rfl with hc0 | ⟨b1,cs1,rfl,hbF1,hbo1,hcapb1,hFb1,hcells1⟩
   ·exact absurd hc0 (by omega)
   replace hcapb1:cap1 * 2≤cs1.size:=by rw[hw1] at hcapb1;exact hcapb1
   replace hcells1:cells1=sub cs1 0 (xs.length * 2):=by rw[hcells1,hw1]
   have hb12:b2≠b1:=fun e=>pre.dis 0 2 (by decide) b1 hbF1 (e ▸ hbF2)
   have hcd:cells1.drop (i * 2)=sub cs1 (i * 2) ((xs.length - i) * 2):=by
    rw[hcells1]
    simp only[sub,List.drop_zero,List.drop_take]
    congr 1;omega
   have hct:cells1.take (i * 2)=cs1.toList.take (i * 2):=by
    rw[hcells1]
    simp only[sub,List.drop_zero,List.take_take]
    congr 1;omega
   have hdl:(cells1.drop (i * 2)).length=(xs.length - i) * 2:=by rw[List.length_drop,hl1'];omega
   have honed:∀ u∈cells1.drop (i * 2),u.oneCell'=true:=fun u hu=>hone1 u (List.mem_of_mem_drop hu)
   have hFBb:∀ t,¬ FF t b1:=fun t hb=>by
    rcases hFF t b1 hb with ⟨c,hc⟩ | ⟨c,hc⟩
    ·exact hFb1 c hc
    ·exact pre.dis 0 2 (by decide) b1 hbF1 (hF2 c b1 hc)
   by_cases hroom:xs.length+ys.length≤cap1
   ·have hov:∀ lb cb,(callFunc 156 #[.slice (some ⟨b2,0,none⟩) ys.length cap2,.slice (some ⟨b1,(i+ys.length) * 2,none⟩) lb cb]).run Tryz.prog w=.ok (.value (.bool false)) w:=by
     intro lb cb
     obtain ⟨e2,lo2,hi2,he2,hf2⟩:=hbo2
     obtain ⟨e1,lo1,hi1,he1,hf1⟩:=hbo1
     have hnf:∀ k,k≤cs2.size→w.frozen? ⟨b2,k,none⟩=false:=fun k hk=>by
      have:=hf2 k hk
      simp only[World.frozen?,he2]
      simpa using this
     rw[run_callFunc_extern (P:=Tryz.prog) (f:=156) (fn:=Tryz.f156) Tryz.func156 (by kernel_rfl) (by kernel_rfl) (by kernel_rfl) (e:=Extern.SlicesOverlaps.overlaps #[35,35] #[4]) (by kernel_rfl),
      Lib.run_overlaps_apart w 35 4 42 uT 2 (fun w=>by simp[sizeOf,typeInfo,hi0,hs0]) ⟨b2,0,none⟩ ⟨b1,(i+ys.length) * 2,none⟩ ys.length cap2 lb cb hb12 e2 e1 cs2.size cs1.size (by simp[World.shape?,he2]) (by simp[World.shape?,he1]) (by omega) (hnf 0 (by omega)) (hnf _ (Nat.le_refl _))]
     rfl
    have hfitA:(i+ys.length) * 2+(cells1.drop (i * 2)).length≤cs1.size:=by rw[hdl];omega
    have thA:=qmz (w:=w) (o:=(i+ys.length) * 2) (n:=(cells1.drop (i * 2)).length) hbo1 hfitA
    have hB:∀ ty dc sc,(Builtin.copy_ #[35,35] ty #[.slice (some ⟨b1,(i+ys.length) * 2,none⟩) (xs.length+ys.length - (i+ys.length)) dc,.slice (some ⟨b1,i * 2,none⟩) (xs.length+ys.length - i) sc]).run Tryz.prog w.drew=.ok (goInt (Nat.min (xs.length+ys.length - i) (xs.length+ys.length - (i+ys.length)))) (w.drew.setCells b1 ((i+ys.length) * 2) (cells1.drop (i * 2))):=fun ty dc sc=>
     qve w.drew 35 35 ty 42 b1 ((i+ys.length) * 2) _ dc ⟨b1,i * 2,none⟩ _ sc (cells1.drop (i * 2)) uT hi0 (by rw[hdl,hs0];simp only[Nat.min_def];split<;>omega)
      (fun k v hk=>by rw[Addr.add_mid];exact qhv (w:=w) (b:=b1) (o:=i * 2) (cs:=cells1.drop (i * 2)) (by rw[hcd];exact qds hbo1.blk (by omega)) k v hk) (fun k hk=>(thA k hk).1) (fun k hk=>(thA k hk).2) honed
    obtain ⟨ty,lo,hi',he,hfz⟩:=hbo1
    obtain ⟨cs3,hcs3,hcs3l⟩:=qjw (cells1.drop (i * 2)) ((i+ys.length) * 2) w.drew cs1 he hfitA
    have hsz3:cs3.size=cs1.size:=by rw[←Array.length_toList,hcs3l,qew (by simpa using hfitA),Array.length_toList]
    have hob3:qbw (w.drew.setCells b1 ((i+ys.length) * 2) (cells1.drop (i * 2))).heap b1 cs3:=⟨ty,lo,hi',hcs3,fun t ht=>hfz t (by omega)⟩
    have hfitB:i * 2+cells2.length≤cs3.size:=by omega
    have thB:=qmz (w:=w.drew.setCells b1 ((i+ys.length) * 2) (cells1.drop (i * 2))) (o:=i * 2) (n:=cells2.length) hob3 hfitB
    have hr2:(w.drew.setCells b1 ((i+ys.length) * 2) (cells1.drop (i * 2))).rangeAt b2 0 cells2:=by
     rw[hcells2]
     exact qds (Blk.congr hbo2.blk (qdb (cells1.drop (i * 2)) _ w.drew b2 hb12)) (by omega)
    have hC:∀ ty dc,(Builtin.copy_ #[35,35] ty #[.slice (some ⟨b1,i * 2,none⟩) (xs.length+ys.length - i) dc,.slice (some ⟨b2,0,none⟩) ys.length cap2]).run Tryz.prog (w.drew.setCells b1 ((i+ys.length) * 2) (cells1.drop (i * 2)))=.ok (goInt (Nat.min ys.length (xs.length+ys.length - i))) ((w.drew.setCells b1 ((i+ys.length) * 2) (cells1.drop (i * 2))).setCells b1 (i * 2) cells2):=fun ty dc=>
     qve _ 35 35 ty 42 b1 (i * 2) _ dc ⟨b2,0,none⟩ _ cap2 cells2 uT hi0 (by rw[hl2',hs0];simp only[Nat.min_def];split<;>omega)
      (fun k v hk=>by rw[Addr.add_mid];exact hr2 k v hk) (fun k hk=>(thB k hk).1) (fun k hk=>(thB k hk).2) hone2
    obtain ⟨cs4,hcs4,hcs4l⟩:=qjw cells2 (i * 2) _ cs3 hcs3 hfitB
    have hsz4:cs4.size=cs3.size:=by rw[←Array.length_toList,hcs4l,qew (by simpa using hfitB),Array.length_toList]
    have hob4:qbw ((w.drew.setCells b1 ((i+ys.length) * 2) (cells1.drop (i * 2))).setCells b1 (i * 2) cells2).heap b1 cs4:=⟨ty,lo,hi',hcs4,fun t ht=>hfz t (by omega)⟩
    have h7:cs1.toList.length=cs1.size:=Array.length_toList
    have htake:cs4.toList.take ((xs.take i++ys++xs.drop i).length * TWay.width)=cells1.take (i * 2)++cells2++cells1.drop (i * 2):=by
     have e:=qbz6 (l:=cs1.toList) (D:=cells1.drop (i * 2)) (C:=cells2) (i:=i * 2) (m:=ys.length * 2) hl2' (by rw[h7,←Nat.add_mul];exact hfitA)
     rw[hw1,hlz,hcs4l,hcs3l,hct,Nat.add_mul i]
     rw[show (xs.length+ys.length) * 2=i * 2+ys.length * 2+(cells1.drop (i * 2)).length by rw[hdl];omega]
     exact e
    have hrest1:=qf1 (b:=b1) (cells1.drop (i * 2)) ((i+ys.length) * 2) w.drew
    have hrest2:=qf1 (b:=b1) cells2 (i * 2) (w.drew.setCells b1 ((i+ys.length) * 2) (cells1.drop (i * 2)))
    have hsize:((w.drew.setCells b1 ((i+ys.length) * 2) (cells1.drop (i * 2))).setCells b1 (i * 2) cells2).heap.size=w.heap.size:=by rw[qci,qci];rfl
    refine (qbtr b1 xs.length cap1 i ys.length ⟨b2,0,none⟩ cap2 w _ _ _ _ hlt hm hroom (by omega) hov hB hC).mono ?_
    rintro e w' ⟨rfl,rfl⟩
    obtain ⟨val,Pr',Gs,Os,us,hv,hp⟩:=qbdm pre elz hFs hob4 (cap:=cap1) (by rw[hw1];omega) (by rw[hlz];exact hroom) htake (.inr ⟨0,hbF1⟩) hFBb
     (fun b' _ hb'=>(qdb cells2 _ _ b' hb').trans (qdb (cells1.drop (i * 2)) _ w.drew b' hb')) (by rw[hsize];exact Nat.le_refl _) (by rw[hsize];exact pre.lim 0 b1 hbF1) (hrest2.1.trans hrest1.1) (hrest2.2.1.trans hrest1.2.1) (hrest2.2.2.trans hrest1.2.2) () (houts _ _ _ _)
    exact ⟨val,Pr',Gs,Os,us,by rw[←hv,hlz],hp⟩
   ·have hg:cap1<xs.length+ys.length:=by omega
    obtain ⟨K,hK⟩:∃ K,K=xs.length+ys.length - i:=⟨_,rfl⟩
    have hKi:i+K=xs.length+ys.length:=by omega
    have hn1d:(Builtin.firstCells i0.size i (.slice (some ⟨b1,0,none⟩) i cap1)).run Tryz.prog w.drew=.ok (cells1.take (i * 2)).toArray w.drew:=by
     rw[hs0]
     refine qnp (by rw[List.length_take,hl1'];omega) (.inr ⟨b1,0,rfl,qhv ?_⟩)
     have e:cells1.take (i * 2)=sub cs1 0 (i * 2):=by rw[hct];simp only[sub,List.drop_zero]
     rw[e];exact qds hbo1.blk (by omega)
    have hfit:Builtin.nextslicecap (i+K) cap1 * i0.bytes≤281474976710656:=by
     have:=Room.nextslicecap_le' (need:=i+K) (old:=cap1) (by omega)
     rw[hb0];omega
    have hr:=fun ty=>Lib.run_append_grow_zeros (P:=Tryz.prog) w 35 3 ty 42 i0 _ .i64 .i64 uT u3 hi0 hz0 (some ⟨b1,0,none⟩) i cap1 (cells1.take (i * 2)) hn1d K (by omega) (by omega) (by omega) (by omega) (by rw[hb0];omega) hfit
    have hge:=grownCap_ge w (i+K) cap1 42
    generalize grownCap w (i+K) cap1 42=cap' at hr hge
    have hcss:((cells1.take (i * 2)).toArray++Builtin.zeroCells z0.cells K++Builtin.zeroCells z0.cells (cap' - (i+K))).size=cap' * 2:=by
     simp only[Array.size_append,List.size_toArray,size_zeroCells,hzs,List.length_take,hl1'];omega
    have htk:((cells1.take (i * 2)).toArray++Builtin.zeroCells z0.cells K++Builtin.zeroCells z0.cells (cap' - (i+K))).toList.take (i * 2)=cells1.take (i * 2):=by
     simp only[Array.toList_append,List.append_assoc]
     rw[List.take_append_of_le_length (by rw[List.length_take,hl1'];omega),List.take_of_length_le (by rw[List.length_take,hl1'];omega)]
    generalize (cells1.take (i * 2)).toArray++Builtin.zeroCells z0.cells K++Builtin.zeroCells z0.cells (cap' - (i+K))=cs0 at hr hcss htk
    rw[hKi] at hr hge
    have hKI:((K:Nat):Int)=(xs.length:Int)+(ys.length:Int) - (i:Int):=by omega
    rw[hKI] at hr
    have hob0:qbw (w.drew.alloc (.cells cs0 42)).heap w.heap.size cs0:=qbw.new
    have hb1lt:=pre.lim 0 b1 hbF1
    have hb2lt:=pre.lim 2 b2 hbF2
    have hb1B:b1≠w.heap.size:=by omega
    have hb2B:b2≠w.heap.size:=by omega
    have hold:∀ b',b'<w.heap.size→(w.drew.alloc (.cells cs0 42)).heap[b']? = w.heap[b']?:=fun b' hb'=>qkr b' hb'
    have hfitA:i * 2+cells2.length≤cs0.size:=by omega
    have thA:=qmz (w:=w.drew.alloc (.cells cs0 42)) (o:=i * 2) (n:=cells2.length) hob0 hfitA
    have hr2:(w.drew.alloc (.cells cs0 42)).rangeAt b2 0 cells2:=by
     rw[hcells2]
     exact qds (Blk.congr hbo2.blk (hold b2 hb2lt)) (by omega)
    have hB:∀ ty,(Builtin.copy_ #[35,35] ty #[.slice (some ⟨w.heap.size,i * 2,none⟩) (xs.length+ys.length - i) (cap' - i),.slice (some ⟨b2,0,none⟩) ys.length cap2]).run Tryz.prog (w.drew.alloc (.cells cs0 42))=.ok (goInt (Nat.min ys.length (xs.length+ys.length - i))) ((w.drew.alloc (.cells cs0 42)).setCells w.heap.size (i * 2) cells2):=fun ty=>
     qve _ 35 35 ty 42 w.heap.size (i * 2) _ _ ⟨b2,0,none⟩ _ cap2 cells2 uT hi0 (by rw[hl2',hs0];simp only[Nat.min_def];split<;>omega)
      (fun k v hk=>by rw[Addr.add_mid];exact hr2 k v hk) (fun k hk=>(thA k hk).1) (fun k hk=>(thA k hk).2) hone2
    obtain ⟨ty,lo,hi',he,hfz⟩:=hob0
    obtain ⟨cs3,hcs3,hcs3l⟩:=qjw cells2 (i * 2) (w.drew.alloc (.cells cs0 42)) cs0 he hfitA
    have h7:cs0.toList.length=cs0.size:=Array.length_toList
    have hsz3:cs3.size=cs0.size:=by rw[←Array.length_toList,hcs3l,qew (by simpa using hfitA),Array.length_toList]
    have hob3:qbw ((w.drew.alloc (.cells cs0 42)).setCells w.heap.size (i * 2) cells2).drew.heap w.heap.size cs3:=⟨ty,lo,hi',hcs3,fun t ht=>hfz t (by omega)⟩
    have hfitB:(i+ys.length) * 2+(cells1.drop (i * 2)).length≤cs3.size:=by rw[hdl];omega
    have thB:=qmz (w:=((w.drew.alloc (.cells cs0 42)).setCells w.heap.size (i * 2) cells2).drew) (o:=(i+ys.length) * 2) (n:=(cells1.drop (i * 2)).length) hob3 hfitB
    have hr1:((w.drew.alloc (.cells cs0 42)).setCells w.heap.size (i * 2) cells2).drew.rangeAt b1 (i * 2) (cells1.drop (i * 2)):=by
     rw[hcd]
     exact qhv (qds (Blk.congr hbo1.blk ((qdb cells2 _ _ b1 hb1B).trans (hold b1 hb1lt))) (by omega))
    have hC:∀ ty,(Builtin.copy_ #[35,35] ty #[.slice (some ⟨w.heap.size,(i+ys.length) * 2,none⟩) (xs.length+ys.length - (i+ys.length)) (cap' - (i+ys.length)),.slice (some ⟨b1,i * 2,none⟩) (xs.length - i) (cap1 - i)]).run Tryz.prog ((w.drew.alloc (.cells cs0 42)).setCells w.heap.size (i * 2) cells2).drew=.ok (goInt (Nat.min (xs.length - i) (xs.length+ys.length - (i+ys.length)))) (((w.drew.alloc (.cells cs0 42)).setCells w.heap.size (i * 2) cells2).drew.setCells w.heap.size ((i+ys.length) * 2) (cells1.drop (i * 2))):=fun ty=>
     qve _ 35 35 ty 42 w.heap.size ((i+ys.length) * 2) _ _ ⟨b1,i * 2,none⟩ _ _ (cells1.drop (i * 2)) uT hi0 (by rw[hdl,hs0];simp only[Nat.min_def];split<;>omega)
      (fun k v hk=>by rw[Addr.add_mid];exact hr1 k v hk) (fun k hk=>(thB k hk).1) (fun k hk=>(thB k hk).2) honed
    obtain ⟨cs4,hcs4,hcs4l⟩:=qjw (cells1.drop (i * 2)) ((i+ys.length) * 2) ((w.drew.alloc (.cells cs0 42)).setCells w.heap.size (i * 2) cells2).drew cs3 hcs3 hfitB
    have hsz4:cs4.size=cs3.size:=by rw[←Array.length_toList,hcs4l,qew (by simpa using hfitB),Array.length_toList]
    have hob4:qbw (((w.drew.alloc (.cells cs0 42)).setCells w.heap.size (i * 2) cells2).drew.setCells w.heap.size ((i+ys.length) * 2) (cells1.drop (i * 2))).heap w.heap.size cs4:=⟨ty,lo,hi',hcs4,fun t ht=>hfz t (by omega)⟩
    have htake:cs4.toList.take ((xs.take i++ys++xs.drop i).length * TWay.width)=cells1.take (i * 2)++cells2++cells1.drop (i * 2):=by
     have e:=qbz4 (l:=cs0.toList) (D:=cells1.drop (i * 2)) (C:=cells2) (i:=i * 2) (m:=ys.length * 2) hl2' (by rw[h7];omega)
     rw[hw1,hlz,hcs4l,hcs3l,←htk,Nat.add_mul i]
     rw[show (xs.length+ys.length) * 2=i * 2+ys.length * 2+(cells1.drop (i * 2)).length by rw[hdl];omega]
     exact e
    have hrest1:=qf1 (b:=w.heap.size) cells2 (i * 2) (w.drew.alloc (.cells cs0 42))
    have hrest2:=qf1 (b:=w.heap.size) (cells1.drop (i * 2)) ((i+ys.length) * 2) ((w.drew.alloc (.cells cs0 42)).setCells w.heap.size (i * 2) cells2).drew
    have hsize:(((w.drew.alloc (.cells cs0 42)).setCells w.heap.size (i * 2) cells2).drew.setCells w.heap.size ((i+ys.length) * 2) (cells1.drop (i * 2))).heap.size=w.heap.size+1:=by
     rw[qci]
     show ((w.drew.alloc (.cells cs0 42)).setCells w.heap.size (i * 2) cells2).heap.size=_
     rw[qci];show (w.heap.push _).size=_;simp
    refine (qbui b1 xs.length cap1 i ys.length ⟨b2,0,none⟩ cap2 w.heap.size cap' w _ _ _ _ _ hlt hm hlc1 hg hge (by omega) hr hB hC).mono ?_
    rintro e w' ⟨rfl,rfl⟩
    obtain ⟨val,Pr',Gs,Os,us,hv,hp⟩:=qbdm pre elz hFs hob4 (cap:=cap') (by rw[hw1];omega) (by rw[hlz];exact hge) htake (.inl rfl)
     (fun t hb=>by obtain ⟨k,hk⟩:=hFs t _ hb;exact Nat.lt_irrefl _ (pre.lim k _ hk))
     (fun b' hb1 hb'=>(qdb (cells1.drop (i * 2)) _ _ b' hb').trans ((qdb cells2 _ _ b' hb').trans (hold b' hb1))) (by rw[hsize];omega) (by rw[hsize];omega) (hrest2.1.trans hrest1.1) (hrest2.2.1.trans hrest1.2.1) (hrest2.2.2.trans hrest1.2.2) () (houts _ _ _ _)
    exact ⟨val,Pr',Gs,Os,us,by rw[←hv,hlz],hp⟩
 ·simp at h
end Go.V

namespace Go.V
set_option maxRecDepth 100000
open Go Go.Proofs Go.RowKit
def qbi5 (a:PDen SigW.params):Option (RDen SigW.res×ODen SigW.params):=(insW a.1 a.2.1 a.2.2.1).map fun r=>((r,()),())
def cmpA (a:PDen SigC.params):Option (RDen SigC.res×ODen SigC.params):=some ((scmp a.1 a.2.1,()),())
noncomputable def qbcm:Den ctx:=fun g a=>
 if h:g=192 then q9t (f:=g) (by rw[h];exact sigC) cmpA a else
 if h:g=93 then q9t (f:=g) (by rw[h];exact sigW) qbi5 a else
 none
theorem qbpl:qbcm 192=q9t sigC cmpA:=by
 funext a
 simp only[qbcm,dif_pos]
theorem qbqf:qbcm 93=q9t sigW qbi5:=by
 funext a
 simp only[qbcm,dif_pos,dif_neg (show ¬ (93:Nat)=192 by decide)]
def qbhk (f:FuncId):Bool:=f.beq 192||f.beq 93
theorem qbqj {f:FuncId} (h:qbhk f=true):f=192∨f=93:=by
 simp only[qbhk,Bool.or_eq_true] at h
 rcases h with h1 | h2
 ·exact .inl (Nat.eq_of_beq_eq_true h1)
 ·exact .inr (Nat.eq_of_beq_eq_true h2)
theorem qbzh:qs4 Tryz.prog 93:=⟨Tryz.f93,Tryz.func93,by decide +kernel,rfl⟩
noncomputable def qyh:Ext where
 den:=qbcm
 is:=qbhk
 ok:=fun f hf=>by
  rcases qbqj hf with rfl | rfl
  ·exact qbry sigC qbpl qbzd
  ·exact qbry sigW qbqf qbx0
 call:=fun f a r hf _=>by
  rcases qbqj hf with rfl | rfl
  ·exact qbqa
  ·exact qbzh
theorem qbz3 (a b:ByteArray):q9t sigC cmpA (a,b,())=cmpA (a,b,()):=by kernel_rfl
theorem qbyy (n:Nat) (a b:ByteArray):DD qyh (n+1) 192 (a,b,())=cmpA (a,b,()):=
 (qbu5 qyh (g:=192) rfl n (a,b,())).trans ((congrFun qbpl (a,b,())).trans (qbz3 a b))
theorem qbzw (xs:List TWay.den) (i:Int) (ys:List TWay.den):q9t sigW qbi5 (xs,i,ys,())=qbi5 (xs,i,ys,()):=by kernel_rfl
theorem qby0 (n:Nat) (xs:List TWay.den) (i:Int) (ys:List TWay.den):DD qyh (n+1) 93 (xs,i,ys,())=qbi5 (xs,i,ys,()):=
 (qbu5 qyh (g:=93) rfl n (xs,i,ys,())).trans ((congrFun qbqf (xs,i,ys,())).trans (qbzw xs i ys))
theorem qbwy {k:Nat} (h192:Nat.beq k 192=false) (h93:Nat.beq k 93=false):qbhk k=false:=by
 simp only[qbhk,Bool.or_eq_false_iff]
 exact ⟨h192,h93⟩
end Go.V

namespace Go.G
set_option maxRecDepth 100000
open Go Go.V Go.Proofs
theorem qbt9:XC qyh where
 ok:=fun k h=>by
  simp only[Bool.or_eq_false_iff] at h
  obtain ⟨⟨⟨a,b⟩,c⟩,d⟩:=h
  exact qbwy (by assumption) (by assumption)
 cmp:=qbyy
end Go.G

namespace Go.G
set_option maxRecDepth 100000
open Go Go.V Go.Proofs
structure InvR (r:Rel):Prop where
 sch:SchSm r.1
 cols:r.1.1.length≤4
 rows:r.2.1.length≤12
 row:∀ x∈r.2.1,x.length≤5
theorem InvR.sm {r:Rel} (h:InvR r):RelSm r:=by
 have hM:=qcn
 obtain ⟨a,b,c,d⟩:=h
 exact ⟨a,by omega,fun x hx=>by have:=d x hx;omega⟩
theorem qbs8 {r:Rel} (h:InvR r) {row:Row} (hw:row.length≤5):InvR (q0v r row).1:=by
 unfold q0v
 split
 ·split
  ·exact h
  ·split
   ·exact h
   ·split
    ·exact h
    ·refine ⟨h.sch,h.cols,?_,fun x hx=>?_⟩
     ·have:=qbmu r (ql row r.1.2.1)
      simp only[List.length_append,List.length_take,List.length_drop,List.length_cons,List.length_nil];omega
     ·simp only[List.mem_append,List.mem_singleton] at hx
      rcases hx with (hx | rfl) | hx
      ·exact h.row x (List.mem_of_mem_take hx)
      ·exact hw
      ·exact h.row x (List.mem_of_mem_drop hx)
 ·exact h
theorem qbti {r:Rel} (h:InvR r) (key:Row):InvR (q0p r key).1:=by
 unfold q0p
 split
 ·split
  ·refine ⟨h.sch,h.cols,?_,fun x hx=>?_⟩
   ·have:=h.rows
    simp only[List.length_append,List.length_take,List.length_drop];omega
   ·simp only[List.mem_append] at hx
    rcases hx with hx | hx
    ·exact h.row x (List.mem_of_mem_take hx)
    ·exact h.row x (List.mem_of_mem_drop hx)
  ·exact h
 ·exact h
theorem qbrf {r:Rel} (h:InvR r) {row:Row} (hw:row.length≤5):InvR (qv4 r row).1:=by
 unfold qv4
 split
 ·split
  ·split
   ·exact h
   ·refine ⟨h.sch,h.cols,by simp only[List.length_set];exact h.rows,fun x hx=>?_⟩
    rcases List.mem_or_eq_of_mem_set hx with hx | rfl
    ·exact h.row x hx
    ·exact hw
  ·exact h
 ·exact h
theorem qby7 {s:qbc} (h:DrawnS s):InvR (q4b s).1:=by
 unfold q4b
 split
 ·exact ⟨h.sm,h.hi,Nat.zero_le _,(fun _ h=>nomatch h)⟩
 ·exact ⟨⟨Nat.zero_le _,(fun _ h=>nomatch h),Nat.zero_le _,Nat.zero_le _,(fun _ h=>nomatch h),(fun _ h=>nomatch h)⟩,Nat.zero_le _,Nat.zero_le _,(fun _ h=>nomatch h)⟩
structure InvK (r:Rel):Prop where
 inv:InvR r
 ok:qdo r=true
theorem InvK.sm {r:Rel} (h:InvK r):RelSm r:=h.inv.sm
theorem qbqv {r:Rel} (hok:qdo r=true) (row:Row):qdo (qv4 r row).1=true:=by
 unfold qv4
 split
 ·rename_i hc
  cases hk:qna r (ql row r.1.2.1) with
  | none=>exact hok
  | some j=>
   dsimp only
   split
   ·exact hok
   ·rename_i ho
    exact (qbwt hok hc.2 hk (by simpa using ho)).1
 ·exact hok
theorem qbuz {s:qbc} (h:qe5 s=true):qdo (s,[],())=true:=
 (qwt _).2 ⟨h,Nat.zero_le _,(fun _ h=>nomatch h),List.Pairwise.nil⟩
theorem qbpx (a:Rel):((a.1,a.2.1,()):Rel)=a:=rfl
theorem qbdk {X:Ext} (hX:XOk X) (N n:Nat) (hN:W+9≤N) (K:Cur→Rel→Rel→Option ((Rel×Unit)×Cur×Unit)) (z:Rel):∀ (m i:Nat) (c:Cur) (r:Rel),i≤9→9 - i<m→InvK r→qd6 c→
  ∃ (c':Cur) (r':Rel),qd6 c'∧InvK r'∧qf9 (DD X N) n K m (i:Int) c z r=K c' z r'
 | 0,_,_,_,_,h,_,_=>by omega
 | m+1,i,c,r,hi,hf,hr,hc=>by
  have hM:=qcn
  simp only[qf9,qqc,qbpx]
  obtain ⟨x,c1,hx,_,h1,e1⟩:=qj6 hX (n:=N) (by omega) hc 9
  obtain ⟨x1,x2⟩:=hx (by omega)
  rw[e1,qf]
  dsimp only
  by_cases h:(i:Int)<x
  ·obtain ⟨row,c2,h2,hl,_,e2⟩:=qbc4 hX (n:=N) (by omega) h1 r.1 hr.inv.cols
   obtain ⟨y,c3,_,_,h3,e3⟩:=qj6 hX (n:=N) (by omega) h2 6
   have hl5:row.length≤5:=by have:=hr.inv.cols;omega
   have hl6:row.length≤M:=by omega
   rw[qk h,e2,qf]
   dsimp only
   rw[e3,qf,qr (by omega)]
   dsimp only
   by_cases k0:y=0
   ·rw[qk k0,qhb hX (by omega) r.1 row hl6 hr.inv.sch.key,qf]
    dsimp only
    rw[qbqq hX (by omega) r hr.sm,qf]
    exact qbdk hX N n hN K z m (i+1) c3 _ (by omega) (by omega) ⟨qbti hr.inv _,qbtj hr.ok _⟩ h3
   ·rw[qp k0]
    by_cases k1:y=1
    ·rw[qk k1,qbnf hX (by omega) r hr.sm row hl6,qf]
     exact qbdk hX N n hN K z m (i+1) c3 _ (by omega) (by omega) ⟨qbrf hr.inv hl5,qbqv hr.ok _⟩ h3
    ·rw[qp k1,qbos hX (by omega) r hr.sm row hl6,qf]
     exact qbdk hX N n hN K z m (i+1) c3 _ (by omega) (by omega) ⟨qbs8 hr.inv hl5,qbts hr.ok _⟩ h3
  ·rw[qp h]
   exact ⟨c1,r,h1,hr,rfl⟩
theorem qbku {X:Ext} (hX:XOk X) {n:Nat} (hn:W+10≤n) {c:Cur} (hc:qd6 c):∃ (r:Rel) (c':Cur),InvK r∧qd6 c'∧qri (DD X n) c=some ((r,()),(c',())):=by
 obtain ⟨n,rfl⟩:∃ k,n=k+1:=⟨n - 1,by omega⟩
 have hW:=qbt
 rw[qbao hX]
 simp only[qq9,qrg,qox]
 obtain ⟨s,c1,hs,so,_,_,h1,e1⟩:=qbld hX (n:=n) (by omega) hc
 rw[e1,qf]
 dsimp only
 rw[qbo3 hX (by omega) s hs.sm,qf]
 dsimp only
 obtain ⟨c2,r,h2,hr,e⟩:=qbdk hX n n (by omega) (fun v0_0 v0_1 v0_2=>qn3 (DD X n) n v0_0 v0_1 v0_2) (([],[],[],()),[],()) n 0 c1 (q4b s).1 (by omega) (by omega) ⟨qby7 hs,by unfold q4b;rw[if_pos (qbuz so)];exact qbuz so⟩ h1
 exact ⟨r,c2,hr,h2,e⟩
theorem qbp6 {X:Ext} (hX:XOk X) {n:Nat} (hn:W+3≤n) {c:Cur} (hc:qd6 c) (r:Rel) (hr:r.1.1.length≤4):∃ (row:Row) (c':Cur),row.length≤5∧qd6 c'∧quw (DD X n) c r=some ((row,()),(c',())):=by
 obtain ⟨n,rfl⟩:∃ k,n=k+1:=⟨n - 1,by omega⟩
 have hW:=qbt
 rw[qbem hX]
 simp only[qum,q28]
 obtain ⟨row,c1,h1,hl,_,e1⟩:=qbc4 hX (n:=n) (by omega) hc r.1 hr
 have hl5:row.length≤5:=by omega
 rw[e1,qf]
 dsimp only
 rw[qjc]
 by_cases ha:(r.2.1.length:Int)>0
 ·by_cases hb:(row.length:Int)>0
  ·rw[decide_eq_true ha,decide_eq_true hb,Bool.true_and,br_t]
   obtain ⟨b,c2,h2,e2⟩:=q5j hX (n:=n) (by omega) h1 2
   rw[e2,qf]
   dsimp only
   cases b
   ·exact ⟨row,c2,hl5,h2,rfl⟩
   ·rw[br_t]
    obtain ⟨x,c3,hx,_,h3,e3⟩:=qj6 hX (n:=n) (by omega) h2 (r.2.1.length:Int)
    obtain ⟨x1,x2⟩:=hx ha
    rw[e3,qf]
    dsimp only
    rw[ixn x1 x2,br_t]
    by_cases h0:((r.2.1.getD x.toNat []).length:Int)>0
    ·have d1:∀ k:Nat,(k:Int)>0→(decide ((0:Nat)≤0)&&decide ((0:Int)<(k:Int)))=true:=fun k hk=>by
      rw[decide_eq_true (by omega),decide_eq_true (by omega)];rfl
     have d2:(decide ((0:Nat)≤0)&&true)=true:=rfl
     rw[qk h0,d1 _ h0,br_t,d2,br_t]
     exact ⟨_,c3,by rw[List.length_set];exact hl5,h3,rfl⟩
    ·rw[qp h0]
     exact ⟨row,c3,hl5,h3,rfl⟩
  ·rw[decide_eq_false hb,Bool.and_false,br_f]
   exact ⟨row,c1,hl5,h1,rfl⟩
 ·rw[decide_eq_false ha,Bool.false_and,br_f]
  exact ⟨row,c1,hl5,h1,rfl⟩
theorem qbkw {X:Ext} (hX:XOk X) {n:Nat} (hn:W+11≤n) (a:List Int) (ha:a.length≤1048576):∃ (r:Rel) (row:Row),InvK r∧row.length≤5∧qrl (DD X n) a=some ((r,row,()),()):=by
 obtain ⟨n,rfl⟩:∃ k,n=k+1:=⟨n - 1,by omega⟩
 rw[qbar hX]
 simp only[qrp,qy2,qbpx]
 obtain ⟨c,hc,e⟩:=qbx8 hX (n:=n) (by omega) a ha
 obtain ⟨r,c1,hr,h1,e1⟩:=qbku hX (n:=n) (by omega) hc
 obtain ⟨row,c2,hl,h2,e2⟩:=qbp6 hX (n:=n) (by omega) h1 r hr.inv.cols
 rw[e,qf];dsimp only
 rw[e1,qf];dsimp only
 refine ⟨r,row,hr,hl,Eq.trans (congrArg (fun z=>qi z _) e2) ?_⟩
 rw[qf]
end Go.G

namespace Go.G
set_option maxRecDepth 100000
open Go Go.V Go.Proofs
abbrev wd:Way:=(ByteArray.empty,ByteArray.empty,())
def wlt (a b:Way):Bool:=bif Op.bytesLess (ByteArray.toList a.1) (ByteArray.toList b.1) then true else bif List.beq (ByteArray.toList a.1) (ByteArray.toList b.1) then Op.bytesLess (ByteArray.toList a.2.1) (ByteArray.toList b.2.1) else false
theorem qbvh (a b:Way):qnk (Ty.pair Ty.str (Ty.pair Ty.str Ty.unit)) a b=decide (a=b):=by
 obtain ⟨a1,a2,⟨⟩⟩:=a
 obtain ⟨b1,b2,⟨⟩⟩:=b
 have e:∀ x y:ByteArray,(x.toList == y.toList)=decide (x=y):=fun x y=>qj4
 simp only[qnk,e]
 by_cases h1:a1=b1<;>by_cases h2:a2=b2<;>simp[h1,h2]
theorem qbnt {X:Ext} (hX:XOk X) {n:Nat} (hn:1≤n) (a b:Way):qy7 (DD X n) a b=some ((wlt a b,()),()):=by
 obtain ⟨n,rfl⟩:∃ k,n=k+1:=⟨n - 1,by omega⟩
 rw[qbk1 hX];rfl
def qu5 (l:List Way) (w:Way):List Way:=match qy (fun i=>!wlt (l.getD i wd) w) 0 l.length with
 | some j=>if l.getD j wd=w then l else l.take j++[w]++l.drop j
 | none=>l++[w]
theorem qbs0 (D:Den ctx) (w x:Way):qbn ctx D (Clo.mk 92 [CapV.rptr (Ty.pair Ty.str (Ty.pair Ty.str Ty.unit)) w]) [CapV.val (Ty.pair Ty.str (Ty.pair Ty.str Ty.unit)) x] Ty.bool=(q6o D x w).bind fun q=>some q.1.1:=by kernel_rfl
theorem qbw5 {X:Ext} (hX:XOk X) {n:Nat} (hn:W+1≤n) (l:List Way) (hl:l.length≤maxLen) (c:Clo) (P:Nat→Bool)
  (hP:∀ i,i<l.length→qbn ctx (DD X (n - 1)) c [CapV.val (Ty.pair Ty.str (Ty.pair Ty.str Ty.unit)) (l.getD i wd)] Ty.bool=some (P i)) :
  qfq (DD X n) l c=some ((match qy P 0 l.length with | some j=>(j:Int) | none=>-1,()),()):=by
 obtain ⟨n,rfl⟩:∃ k,n=k+1:=⟨n - 1,by omega⟩
 have hd:=qch
 have hW:=qbt
 rw[qs3 hX]
 simp only[qfw,qfy,qe6]
 refine Eq.trans (qsn (L:=fun m i=>qb8 (DD X n) n c _ _ m l l.length (i:Int)) (N:=l.length) (P:=P)
  (A:=fun j=>some (((j:Int),()),())) (B:=some ((-1,()),())) (fun m i hi=>?_) (m:=n) (by omega)) ?_
 ·simp only[qb8,qff]
  by_cases h:i<l.length
  ·have hp:qbn ctx (DD X n) c [CapV.val (Ty.pair Ty.str (Ty.pair Ty.str Ty.unit)) (l.getD i wd)] Ty.bool=some (P i):=hP i h
   rw[qk (by exact_mod_cast h),ix h,br_t,Int.toNat_natCast,hp,qf,qr (by omega),if_pos h];rfl
  ·rw[qp (by exact_mod_cast h),if_neg h];rfl
 ·cases qy P 0 l.length<;>rfl
theorem qbsx {X:Ext} (hX:XOk X) {n:Nat} (hn:1≤n) (a:List Way) (ha:a.length≤qbi):qg2 (DD X n) a=some ((a,()),()):=by
 obtain ⟨n,rfl⟩:∃ k,n=k+1:=⟨n - 1,by omega⟩
 rw[qwr hX]
 simp only[qg0,qls]
 cases a with
 | nil=>simp[qbb8,both,qco]
 | cons x a=>simp[qbb8];simpa using ha
theorem qbom {X:Ext} (hX:XOk X) (hI:∀ n xs i ys,qcp (DD X (n+1)) xs i ys=(insW xs i ys).map fun r=>((r,()),())) {n:Nat} (hn:W+3≤n) (l:List Way) (hl:l.length≤M) (w:Way) :
  q2x (DD X n) l w=some ((qu5 l w,()),()):=by
 obtain ⟨n,rfl⟩:∃ k,n=k+2:=⟨n - 2,by omega⟩
 have hd:=qch
 have hM:=qcn
 have hb:=qco
 have hW:=qbt
 rw[qbnv hX]
 simp only[q14,qbah]
 rw[qbsx hX (by omega) l (by omega),qf,qbw5 hX (n:=n+1) (by omega) l (by omega) _ (fun i=>!wlt (l.getD i wd) w) (fun i hi=>by
  obtain ⟨n,rfl⟩:∃ k,n=k+1:=⟨n - 1,by omega⟩
  rw[qbs0,show n+1+1 - 1=n+1 from rfl,qbj6 hX]
  simp only[qx3,q6z]
  rw[qbnt hX (by omega),qf]
  rfl),qf]
 dsimp only
 unfold qu5
 cases hf:qy (fun i=>!wlt (l.getD i wd) w) 0 l.length with
 | none=>
  dsimp only
  rw[qk (by decide),hI]
  unfold insW
  rw[if_pos ⟨by omega,by omega,by simp,by simp;omega⟩,Int.toNat_natCast,List.take_length,List.drop_length,List.append_nil]
  rfl
 | some j=>
  have hj:=(qc9 hf).2.1
  have hj:j<l.length:=by omega
  dsimp only
  rw[qp (show ¬ (j:Int)<0 by omega),ix hj,br_t,Int.toNat_natCast,qbvh,hI]
  by_cases e:l.getD j wd=w
  ·rw[decide_eq_true e,br_t,if_pos e]
  ·rw[decide_eq_false e,br_f,if_neg e]
   unfold insW
   rw[if_pos ⟨by omega,by omega,by simp,by simp;omega⟩,Int.toNat_natCast]
   rfl
theorem qbi0 (l:List Way) (w:Way):(qu5 l w).length≤l.length+1:=by
 unfold qu5
 split
 ·split
  ·omega
  ·simp only[List.length_append,List.length_take,List.length_drop,List.length_cons,List.length_nil];omega
 ·simp
end Go.G

namespace Go.G
set_option maxRecDepth 100000
open Go Go.V Go.Proofs
def qsh (s:qbc) (i:Nat) (row:Row):Way:=(qo8 (qfb (ql row (s.2.2.1.getD i xd).2.1)),qo8 (qfb (ql row s.2.1)),())
def qp7 (s:qbc) (i:Nat):List Row→List Way→List Way
 | [],l=>l
 | row::rows,l=>qp7 s i rows (qu5 l (qsh s i row))
def qlv (r:Rel) (i:Int):List Way:=if (qdo r&&inR i 0 ((r.1.2.2.1.length:Int) - 1))=true then qp7 r.1 i.toNat r.2.1 [] else []
theorem qbv1 {X:Ext} (hX:XOk X) {n:Nat} (hn:W+7≤n) (s:qbc) (hs:SchSm s) (i:Nat) (hi:i<s.2.2.1.length) (row:Row) (hw:row.length≤M):q9s (DD X n) s (i:Int) row=some ((qsh s i row,()),()):=by
 obtain ⟨n,rfl⟩:∃ k,n=k+1:=⟨n - 1,by omega⟩
 have hM:=qcn
 have l1:=qhm row (s.2.2.1.getD i xd).2.1
 have l2:=qhm row s.2.1
 have l3:=hs.ixc _ (qck (d:=xd) hi)
 have l4:=hs.key
 rw[qbs7 hX]
 simp only[q91,qbjw]
 rw[ix hi,br_t,Int.toNat_natCast,qvc hX (by omega) row hw _ l3,qf]
 dsimp only
 rw[q4m hX (by omega) _ (by omega),qf,qzt hX (by omega) s row hw l4,qf]
 dsimp only
 rw[q4m hX (by omega) _ (by omega),qf]
 rfl
section
variable {X:Ext} (hX:XOk X) (hI:∀ n xs i ys,qcp (DD X (n+1)) xs i ys=(insW xs i ys).map fun r=>((r,()),()))
include hX hI
theorem qbbz (N n:Nat) (hN:W+7≤N) (K:List Way→Option ((List Way×Unit)×Unit)) (r:Rel) (hr:RelSm r) (i:Nat) (hi:i<r.1.2.2.1.length):∀ (m k:Nat) (l:List Way),k≤r.2.1.length→r.2.1.length - k<m→l.length≤k→
  qlh (DD X N) n K m (i:Int) r.2.1 (r.2.1.length:Int) (k:Int) r l=K (qp7 r.1 i (r.2.1.drop k) l)
 | 0,_,_,_,h,_=>by omega
 | m+1,k,l,hk,hf,hl=>by
  have hM:=qcn
  have h2:=hr.rows
  simp only[qlh,q0y]
  by_cases h:k<r.2.1.length
  ·rw[qk (by exact_mod_cast h),ix h,br_t,Int.toNat_natCast,qbv1 hX (by omega) r.1 hr.sch i hi _ (hr.row _ (qck h)),qf]
   dsimp only
   have hp:=qbi0 l (qsh r.1 i (r.2.1.getD k []))
   rw[qbom hX hI (by omega) l (by omega),qf,qr (by omega),qc8 h,qz h]
   rw[qz h] at hp
   dsimp only
   exact qbbz N n hN K r hr i hi m (k+1) _ (by omega) (by omega) (by omega)
  ·rw[qp (by exact_mod_cast h),qe7 h];rfl
end
section
variable {X:Ext} (hX:XC X) (hI:∀ n xs i ys,qcp (DD X (n+1)) xs i ys=(insW xs i ys).map fun r=>((r,()),()))
include hX hI
theorem qbor {n:Nat} (hn:W+11≤n) (r:Rel) (hr:RelSm r) (i:Int):q2v (DD X n) r i=some ((qlv r i,()),()):=by
 obtain ⟨n,rfl⟩:∃ k,n=k+1:=⟨n - 1,by omega⟩
 have hM:=qcn
 have hW:=qbt
 have h2:=hr.rows
 have h3:=hr.sch.ixs
 rw[qbnq hX.ok]
 simp only[q22,q2y,qw9]
 rw[qbfi hX (by omega) r hr,qf,qw7 hX.ok (by omega),qf,qby (by omega) (by omega)]
 unfold qlv
 dsimp only
 cases qdo r
 ·rfl
 ·cases hin:inR i 0 ((r.1.2.2.1.length:Int) - 1)
  ·rfl
  ·obtain ⟨p1,p2⟩:=qbhw hin
   obtain ⟨i,rfl⟩:=Int.eq_ofNat_of_zero_le p1
   rw[Bool.not_true,br_f,br_f]
   have e:=qbbz hX.ok hI n n (by omega) (fun v0_0=>qvv (DD X n) n v0_0) r hr i (by omega) n 0 [] (Nat.zero_le _) (by omega) (Nat.le_refl _)
   rw[show ((0:Nat):Int)=0 from rfl] at e
   rw[e];rfl
end
theorem qbcr (s:qbc) (i:Nat):∀ (rows:List Row) (l:List Way),(qp7 s i rows l).length≤l.length+rows.length
 | [],l=>Nat.le_refl _
 | row::rows,l=>by
  have h1:=qbcr s i rows (qu5 l (qsh s i row))
  have h2:=qbi0 l (qsh s i row)
  simp only[qp7,List.length_cons];omega
theorem qbs3 (r:Rel) (i:Int):(qlv r i).length≤r.2.1.length:=by
 unfold qlv
 split
 ·have:=qbcr r.1 i.toNat r.2.1 []
  simpa using this
 ·exact Nat.zero_le _
end Go.G

namespace Go.G
set_option maxRecDepth 100000
open Go Go.V Go.Proofs
theorem qbdo (a b:Way):wlt a b=true↔a.1.toList<b.1.toList∨(a.1=b.1∧a.2.1.toList<b.2.1.toList):=by
 have e:(ByteArray.toList a.1 == ByteArray.toList b.1)=decide (a.1=b.1):=qj4
 have e2:List.beq (ByteArray.toList a.1) (ByteArray.toList b.1)=decide (a.1=b.1):=e
 unfold wlt
 rw[qtu,qtu,e2]
 by_cases h:a.1.toList<b.1.toList
 ·simp[h]
 ·by_cases h2:a.1=b.1
  ·rw[decide_eq_false h,decide_eq_true h2];simp[h2,List.lt_irrefl]
  ·rw[decide_eq_false h,decide_eq_false h2];simp[h,h2]
theorem qbtw {a b c:Way} (h:wlt a b=true) (k:wlt b c=true):wlt a c=true:=by
 rw[qbdo] at *
 rcases h with h | ⟨h,h2⟩
 ·rcases k with k | ⟨k,_⟩
  ·exact .inl (List.lt_trans h k)
  ·exact .inl (k ▸ h)
 ·rcases k with k | ⟨k,k2⟩
  ·exact .inl (h ▸ k)
  ·exact .inr ⟨h.trans k,List.lt_trans h2 k2⟩
theorem qbuv (a b:Way):wlt a b=true∨a=b∨wlt b a=true:=by
 rw[qbdo,qbdo]
 obtain ⟨a1,a2,⟨⟩⟩:=a
 obtain ⟨b1,b2,⟨⟩⟩:=b
 dsimp only
 by_cases h1:a1.toList<b1.toList
 ·exact .inl (.inl h1)
 ·by_cases h2:b1.toList<a1.toList
  ·exact .inr (.inr (.inl h2))
  ·have e1:a1=b1:=q1l (List.le_antisymm (List.not_lt.1 h2) (List.not_lt.1 h1))
   subst e1
   by_cases h3:a2.toList<b2.toList
   ·exact .inl (.inr ⟨rfl,h3⟩)
   ·by_cases h4:b2.toList<a2.toList
    ·exact .inr (.inr (.inr ⟨rfl,h4⟩))
    ·have e2:a2=b2:=q1l (List.le_antisymm (List.not_lt.1 h4) (List.not_lt.1 h3))
     exact .inr (.inl (by rw[e2]))
def qbjn (l:List Way):Prop:=l.Pairwise fun a b=>wlt a b=true
theorem qbxz {α:Type} (l:List α) (j:Nat) (w x:α):x∈l.take j++[w]++l.drop j↔x=w∨x∈l:=by
 have:x∈l↔x∈l.take j∨x∈l.drop j:=by rw[←List.mem_append,List.take_append_drop]
 simp only[List.mem_append,List.mem_singleton,this]
 constructor
 ·rintro ((h | h) | h)
  ·exact .inr (.inl h)
  ·exact .inl h
  ·exact .inr (.inr h)
 ·rintro (h | h | h)
  ·exact .inl (.inr h)
  ·exact .inl (.inl h)
  ·exact .inr h
theorem qbza (l:List Way) (w x:Way):x∈qu5 l w↔x=w∨x∈l:=by
 unfold qu5
 cases hf:qy (fun i=>!wlt (l.getD i wd) w) 0 l.length with
 | none=>simp only[List.mem_append,List.mem_singleton];exact Or.comm
 | some j=>
  have hj:j<l.length:=by have:=(qc9 hf).2.1;omega
  dsimp only
  by_cases e:l.getD j wd=w
  ·rw[if_pos e]
   exact ⟨.inr,fun k=>k.elim (fun k=>by rw[k,←e];exact qck hj) id⟩
  ·rw[if_neg e];exact qbxz l j w x
theorem qbtf {l:List Way} (h:qbjn l) (w:Way):qbjn (qu5 l w):=by
 unfold qu5
 have hp:=List.pairwise_iff_getElem.1 h
 cases hf:qy (fun i=>!wlt (l.getD i wd) w) 0 l.length with
 | none=>
  have hn:=qja hf
  refine List.pairwise_append.2 ⟨h,List.pairwise_singleton _ _,fun a ha b hb=>?_⟩
  rw[List.mem_singleton] at hb;subst hb
  obtain ⟨i,hi,rfl⟩:=List.mem_iff_getElem.1 ha
  have:=hn i (Nat.zero_le _) (by omega)
  rw[qz hi] at this
  simpa using this
 | some j=>
  obtain ⟨_,hj,hjp,hjl⟩:=qc9 hf
  have hj:j<l.length:=by omega
  dsimp only
  by_cases e:l.getD j wd=w
  ·rw[if_pos e];exact h
  ·rw[if_neg e]
   have hw:wlt w l[j]=true:=by
    rw[qz hj] at hjp e
    rcases qbuv w l[j] with k | k | k
    ·exact k
    ·exact absurd k.symm e
    ·rw[k] at hjp;cases hjp
   have hlo:∀ a∈l.take j,wlt a w=true:=fun a ha=>by
    obtain ⟨i,hi,hij,rfl⟩:=qbfk ha
    have:=hjl i (Nat.zero_le _) hij
    rw[qz hi] at this
    simpa using this
   have hhi:∀ b∈l.drop j,wlt w b=true:=fun b hb=>by
    obtain ⟨i,hi,hij,rfl⟩:=q7e hb
    by_cases k:i=j
    ·subst k;exact hw
    ·exact qbtw hw (hp j i hj hi (by omega))
   have hs:(l.take j++l.drop j).Pairwise fun a b=>wlt a b=true:=by rw[List.take_append_drop];exact h
   obtain ⟨p1,p2,p3⟩:=List.pairwise_append.1 hs
   refine List.pairwise_append.2 ⟨List.pairwise_append.2 ⟨p1,List.pairwise_singleton _ _,fun a ha b hb=>?_⟩,p2,fun a ha b hb=>?_⟩
   ·rw[List.mem_singleton] at hb;subst hb;exact hlo a ha
   ·rcases List.mem_append.1 ha with ha | ha
    ·exact p3 a ha b hb
    ·rw[List.mem_singleton] at ha;subst ha;exact hhi b hb
theorem qbez (s:qbc) (i:Nat):∀ (rows:List Row) {l:List Way},qbjn l→qbjn (qp7 s i rows l)
 | [],_,h=>h
 | row::rows,_,h=>qbez s i rows (qbtf h _)
theorem qbov (s:qbc) (i:Nat) (x:Way):∀ (rows:List Row) (l:List Way),x∈qp7 s i rows l↔x∈l∨∃ row∈rows,x=qsh s i row
 | [],l=>by simp[qp7]
 | row::rows,l=>by
  simp only[qp7]
  rw[qbov s i x rows,qbza]
  constructor
  ·rintro ((h | h) | ⟨y,hy,h⟩)
   ·exact .inr ⟨row,by simp,h⟩
   ·exact .inl h
   ·exact .inr ⟨y,by simp[hy],h⟩
  ·rintro (h | ⟨y,hy,h⟩)
   ·exact .inl (.inr h)
   ·rcases List.mem_cons.1 hy with rfl | hy
    ·exact .inl (.inl h)
    ·exact .inr ⟨y,hy,h⟩
theorem qbvr (r:Rel) (i:Int):qbjn (qlv r i):=by
 unfold qlv
 split
 ·exact qbez _ _ _ List.Pairwise.nil
 ·exact List.Pairwise.nil
theorem qbqr {r:Rel} {i:Nat} (hok:qdo r=true) (hi:i<r.1.2.2.1.length) (x:Way):x∈qlv r (i:Int)↔∃ row∈r.2.1,x=qsh r.1 i row:=by
 have hin:inR (i:Int) 0 ((r.1.2.2.1.length:Int) - 1)=true:=by unfold inR;rw[decide_eq_true (by omega),decide_eq_true (by omega)];rfl
 unfold qlv
 rw[hok,hin,Bool.and_true,if_pos rfl,qbov,Int.toNat_natCast]
 simp
theorem qbw3 (y:Int) (k:Nat):0≤qbjj y k∧qbjj y k<256:=by
 unfold qbjj
 rw[q33]
 exact ⟨Int.emod_nonneg _ (by decide),Int.emod_lt_of_pos _ (by decide)⟩
def Byt (l:List Int):Prop:=∀ x∈l,0≤x∧x<256
theorem qbjm (y:Int):∀ k,Byt (qu2 y k)
 | 0=>fun _ h=>nomatch h
 | k+1=>fun x hx=>by
  rcases List.mem_cons.1 hx with rfl | hx
  ·exact qbw3 y k
  ·exact qbjm y k x hx
theorem qbpo (t:ByteArray):∀ k i,Byt (escF t i k)
 | 0,_=>fun _ h=>nomatch h
 | k+1,i=>fun x hx=>by
  simp only[escF,List.mem_cons,List.mem_append] at hx
  have hu:=UInt8.toNat_lt (t.data.getD i (UInt8.ofNat 0))
  rcases hx with rfl | hx | hx
  ·omega
  ·split at hx
   ·simp only[List.mem_singleton] at hx;omega
   ·simp at hx
  ·exact qbpo t k (i+1) x hx
theorem qbkl (v:Value):Byt (qbu v):=by
 have ht:0≤tagI v∧tagI v<256:=by
  unfold tagI
  rw[q33]
  exact ⟨Int.emod_nonneg _ (by decide),Int.emod_lt_of_pos _ (by decide)⟩
 intro x hx
 unfold qbu at hx
 split at hx
 ·simp only[List.mem_cons,List.not_mem_nil,or_false] at hx
  rcases hx with rfl | rfl
  ·exact ht
  ·rw[q33];exact ⟨Int.emod_nonneg _ (by decide),Int.emod_lt_of_pos _ (by decide)⟩
 ·split at hx
  ·rcases List.mem_cons.1 hx with rfl | hx
   ·exact ht
   ·exact qbjm _ _ x hx
  ·split at hx
   ·rcases List.mem_cons.1 hx with rfl | hx
    ·exact ht
    ·rcases List.mem_append.1 hx with hx | hx
     ·exact qbpo _ _ _ x hx
     ·simp only[List.mem_cons,List.not_mem_nil,or_false] at hx
      rcases hx with rfl | rfl<;>omega
   ·simp only[List.mem_singleton] at hx
    subst hx;exact ht
theorem qbqz:∀ {a b:List Int},Byt a→Byt b→qo8 a=qo8 b→a=b:=by
 intro a b ha hb h
 have h2:a.map (fun n=>UInt8.ofNat (Int.toNat n))=b.map (fun n=>UInt8.ofNat (Int.toNat n)):=by
  have:=congrArg (fun z:ByteArray=>z.data.toList) h
  simpa [qo8] using this
 have key:∀ (a b:List Int),Byt a→Byt b→a.map (fun n=>UInt8.ofNat (Int.toNat n))=b.map (fun n=>UInt8.ofNat (Int.toNat n))→a=b:=by
  intro a
  induction a with
  | nil=>intro b _ _ h;cases b with | nil=>rfl | cons y b=>simp at h
  | cons x a ih=>
   intro b ha hb h
   cases b with
   | nil=>simp at h
   | cons y b=>
    simp only[List.map_cons,List.cons.injEq] at h
    have hx:=ha x (by simp)
    have hy:=hb y (by simp)
    have e:=congrArg UInt8.toNat h.1
    simp only[UInt8.toNat_ofNat'] at e
    have:x=y:=by omega
    rw[this,ih b (fun z hz=>ha z (by simp[hz])) (fun z hz=>hb z (by simp[hz])) h.2]
 exact key a b ha hb h2
def escL:List UInt8→List Int
 | []=>[]
 | b::l=>(b.toNat:Int)::((if (b.toNat:Int)=0 then [255] else [])++escL l)
theorem qbcg (t:ByteArray):∀ (k i:Nat),i+k=t.size→escF t i k=escL (t.data.toList.drop i)
 | 0,i,h=>by
  have:t.data.toList.length=t.size:=rfl
  rw[List.drop_eq_nil_of_le (by omega)];rfl
 | k+1,i,h=>by
  have hl:t.data.toList.length=t.size:=rfl
  have hi:i<t.data.toList.length:=by omega
  have hg:t.data.getD i (UInt8.ofNat 0)=t.data.toList[i]:=by
   simp only[Array.getD,Array.length_toList] at hi ⊢
   rw[dif_pos hi];rfl
  rw[List.drop_eq_getElem_cons hi]
  simp only[escF,escL]
  rw[hg,qbcg t k (i+1) (by omega)]
theorem qblo:∀ {l l':List UInt8} {R R':List Int},escL l++0::1::R=escL l'++0::1::R'→l=l'∧R=R'
 | [],[],R,R',h=>by simp only[escL,List.nil_append,List.cons.injEq,true_and] at h;exact ⟨rfl,h⟩
 | [],b::l',R,R',h=>by
  simp only[escL,List.nil_append,List.cons_append,List.cons.injEq] at h
  obtain ⟨h1,h2⟩:=h
  rw[if_pos h1.symm] at h2
  simp at h2
 | b::l,[],R,R',h=>by
  simp only[escL,List.nil_append,List.cons_append,List.cons.injEq] at h
  obtain ⟨h1,h2⟩:=h
  rw[if_pos h1] at h2
  simp at h2
 | b::l,b'::l',R,R',h=>by
  simp only[escL,List.cons_append,List.cons.injEq] at h
  obtain ⟨h1,h2⟩:=h
  have hb:b=b':=UInt8.toNat_inj.1 (by omega)
  subst hb
  by_cases h0:(b.toNat:Int)=0
  ·rw[if_pos h0] at h2
   simp only[List.cons_append,List.nil_append,List.cons.injEq,true_and] at h2
   obtain ⟨e1,e2⟩:=qblo h2
   exact ⟨by rw[e1],e2⟩
  ·rw[if_neg h0] at h2
   simp only[List.nil_append] at h2
   obtain ⟨e1,e2⟩:=qblo h2
   exact ⟨by rw[e1],e2⟩
theorem qbzc {y z:Int} (hy:0≤y) (hy2:y<9223372036854775808) (hz:0≤z) (hz2:z<9223372036854775808) (h:qu2 y 8=qu2 z 8):y=z:=by
 simp only[qu2,qbjj,q33,List.cons.injEq,and_true] at h
 obtain ⟨h7,h6,h5,h4,h3,h2,h1,h0⟩:=h
 have p:∀ (x:Int) (k:Nat),Int.fdiv x (Int.pow 2 k)=x / (Int.pow 2 k):=fun x k=>Int.fdiv_eq_ediv_of_nonneg x (by
  have:(0:Int)≤2 ^ k:=Int.pow_nonneg (by decide)
  exact this)
 rw[p,p] at h7 h6 h5 h4 h3 h2 h1 h0
 have q7:Int.pow 2 (8 * 7)=72057594037927936:=by decide
 have q6:Int.pow 2 (8 * 6)=281474976710656:=by decide
 have q5:Int.pow 2 (8 * 5)=1099511627776:=by decide
 have q4:Int.pow 2 (8 * 4)=4294967296:=by decide
 have q3:Int.pow 2 (8 * 3)=16777216:=by decide
 have q2:Int.pow 2 (8 * 2)=65536:=by decide
 have q1:Int.pow 2 (8 * 1)=256:=by decide
 have q0:Int.pow 2 (8 * 0)=1:=by decide
 rw[q7] at h7;rw[q6] at h6;rw[q5] at h5;rw[q4] at h4;rw[q3] at h3;rw[q2] at h2;rw[q1] at h1;rw[q0] at h0
 omega
theorem qbpe {v:Value}:∃ l,qbu v=tagI v::l:=by
 unfold qbu
 split
 ·exact ⟨_,rfl⟩
 ·split
  ·exact ⟨_,rfl⟩
  ·split<;>exact ⟨_,rfl⟩
theorem q9i {v:Value} (h:qc3 v=true):0≤v.1∧v.1≤3:=by
 unfold qc3 at h
 by_cases h0:v.1=0
 ·omega
 ·by_cases h1:v.1=1
  ·omega
  ·by_cases h2:v.1=2
   ·omega
   ·by_cases h3:v.1=3
    ·omega
    ·rw[decide_eq_false h0,decide_eq_false h1,decide_eq_false h2,decide_eq_false h3] at h;cases h
theorem qbuu {v:Value} (h:qc3 v=true):tagI v=v.1+1:=by
 obtain ⟨h0,h3⟩:=q9i h
 unfold tagI
 rw[qby (by omega) (by omega),q33]
 omega
theorem qws {v:Value} (h:qm4 v=true):v.2.2.1=ByteArray.mk #[]:=by simpa [qm4] using h
theorem qbud {v v':Value} (h:qc3 v=true) (h':qc3 v'=true) {R R':List Int} (e:qbu v++R=qbu v'++R'):v=v'∧R=R':=by
 obtain ⟨k0,k3⟩:=q9i h
 obtain ⟨k0',k3'⟩:=q9i h'
 have hk:v.1=v'.1:=by
  obtain ⟨l,hl⟩:=qbpe (v:=v)
  obtain ⟨l',hl'⟩:=qbpe (v:=v')
  rw[hl,hl'] at e
  simp only[List.cons_append,List.cons.injEq] at e
  have:=e.1
  rw[qbuu h,qbuu h'] at this
  omega
 obtain ⟨a,b,c,⟨⟩⟩:=v
 obtain ⟨a',b',c',⟨⟩⟩:=v'
 dsimp only at hk k0 k3
 subst hk
 unfold qc3 at h h'
 unfold qbu at e
 dsimp only at h h' e
 by_cases h1:a=1
 ·subst h1
  replace h:(inR b 0 1&&qm4 (1,b,c,()))=true:=h
  replace h':(inR b' 0 1&&qm4 (1,b',c',()))=true:=h'
  simp only[Bool.and_eq_true,inR,decide_eq_true_eq] at h h'
  have t:=qws h.2
  have t':=qws h'.2
  dsimp only at t t'
  subst t;subst t'
  simp only[if_true,tagI,q33,List.cons_append,List.nil_append,List.cons.injEq,true_and] at e
  have:b=b':=by omega
  exact ⟨by rw[this],e.2⟩
 ·by_cases h2:a=2
  ·subst h2
   replace h:(inR b (-1000000000000) 1000000000000&&qm4 (2,b,c,()))=true:=h
   replace h':(inR b' (-1000000000000) 1000000000000&&qm4 (2,b',c',()))=true:=h'
   simp only[Bool.and_eq_true,inR,decide_eq_true_eq] at h h'
   have t:=qws h.2
   have t':=qws h'.2
   dsimp only at t t'
   subst t;subst t'
   rw[if_neg (by decide),if_pos rfl,if_neg (by decide),if_pos rfl] at e
   simp only[tagI,List.cons_append,List.cons.injEq,true_and] at e
   obtain ⟨e1,e2⟩:=List.append_inj e (by rw[qxk,qxk])
   rw[qby (by omega) (by omega),qby (by omega) (by omega)] at e1
   have:=qbzc (by omega) (by omega) (by omega) (by omega) e1
   have:b=b':=by omega
   exact ⟨by rw[this],e2⟩
  ·by_cases h3:a=3
   ·subst h3
    replace h:(decide (b=0)&&decide ((c.size:Int)≤20))=true:=h
    replace h':(decide (b'=0)&&decide ((c'.size:Int)≤20))=true:=h'
    simp only[Bool.and_eq_true,inR,decide_eq_true_eq] at h h'
    rw[if_neg (by decide),if_neg (by decide),if_pos rfl,if_neg (by decide),if_neg (by decide),if_pos rfl] at e
    simp only[tagI,List.cons_append,List.cons.injEq,true_and,List.append_assoc,List.nil_append] at e
    rw[qbcg c c.size 0 (by omega),qbcg c' c'.size 0 (by omega),List.drop_zero,List.drop_zero] at e
    obtain ⟨e1,e2⟩:=qblo e
    have hc:c=c':=by
     cases c;cases c'
     simp only[ByteArray.mk.injEq]
     exact Array.toList_inj.1 e1
    exact ⟨by rw[hc,h.1,h'.1],e2⟩
   ·have h0:a=0:=by omega
    subst h0
    replace h:(decide (b=0)&&qm4 (0,b,c,()))=true:=h
    replace h':(decide (b'=0)&&qm4 (0,b',c',()))=true:=h'
    simp only[Bool.and_eq_true,inR,decide_eq_true_eq] at h h'
    have t:=qws h.2
    have t':=qws h'.2
    dsimp only at t t'
    subst t;subst t'
    rw[if_neg (by decide),if_neg (by decide),if_neg (by decide),if_neg (by decide),if_neg (by decide),if_neg (by decide)] at e
    simp only[tagI,List.cons_append,List.nil_append,List.cons.injEq,true_and] at e
    exact ⟨by rw[h.1,h'.1],e⟩
theorem qbjo {a:Row} (hl:a.length≤4) (hv:∀ v∈a,qc3 v=true):qwz a=true:=by
 unfold qwz
 rw[decide_eq_true (by omega),qbj.2 (fun j _ hj=>?_)]
 ·rfl
 ·have hj:j<a.length:=by omega
  rw[qz hj,hv _ (List.getElem_mem hj)];rfl
end Go.G


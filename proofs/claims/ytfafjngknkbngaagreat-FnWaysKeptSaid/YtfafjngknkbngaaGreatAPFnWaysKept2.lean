import Derived.WalkKit
import Derived.Lib.Walk
import Derived.Lib.SliceRun
import Derived.Lib.JoinLaws
import Derived.Lib.AppendZeros
import Derived.Lib.Overlaps
import Derived.Laws.Externs
import Derived.Laws.IdiomCopy
import Derived.Lib.AppendZerosOnto
import Derived.Shelf.Spec.SlicesInsert
import Derived.Test.YtfafjngknkbngaaGreatAPFnWaysKept1
set_option linter.unusedVariables false
set_option linter.unusedSimpArgs false
set_option linter.unusedSectionVars false
namespace Go.G
open Go Go.V
theorem br_t {R:Type} {a b:Option R}:br true a b=a:=rfl
theorem br_f {R:Type} {a b:Option R}:br false a b=b:=rfl
theorem qm {R:Type} {a b:Option R} {p:Prop} [Decidable p] (h:p):br (decide p) a b=a:=by simp[br,h]
theorem qn {R:Type} {a b:Option R} {p:Prop} [Decidable p] (h:¬ p):br (decide p) a b=b:=by simp[br,h]
theorem qf {α R:Type} {a:α} {f:α→Option R}:qg (some a) f=f a:=rfl
theorem qba5 {R:Type} {c:Bool} {a b:Option R}:br c a b=if c=true then a else b:=by cases c<;>rfl
theorem qbsq (x:Int):IntKind.wrap IntKind.i64 x=if x % 18446744073709551616≥9223372036854775808 then x % 18446744073709551616 - 18446744073709551616 else x % 18446744073709551616:=by
 by_cases h:x % 18446744073709551616≥9223372036854775808<;>simp[IntKind.wrap,IntKind.signed,IntKind.bits,h]
theorem qc8 {x:Int} (h1 : -9223372036854775808≤x) (h2:x≤9223372036854775807):IntKind.wrap IntKind.i64 x=x:=by
 rw[qbsq]
 split<;>omega
def W:Nat:=9223372036854775808
theorem qb2:W=9223372036854775808:=rfl
theorem qb0:maxLen=9223372036854775807:=rfl
theorem qcm:qbh=274877906944:=rfl
theorem ix {α:Type} {l:List α} {i:Nat} (h:i<l.length):(decide (0≤(i:Int))&&decide ((i:Int)<(l.length:Int)))=true:=by
 simp only[Bool.and_eq_true,decide_eq_true_eq];omega
theorem ixn {α:Type} {l:List α} {i:Int} (h0:0≤i) (h:i<l.length):(decide (0≤i)&&decide (i<(l.length:Int)))=true:=by
 simp only[Bool.and_eq_true,decide_eq_true_eq];omega
theorem qp {i:Nat} (h:i<9223372036854775807):IntKind.wrap IntKind.i64 ((i:Int)+1)=((i+1:Nat):Int):=by
 rw[qc8]<;>omega
theorem qbc {α:Type} {l:List α} {i:Nat} {d:α} (h:i<l.length):l.getD i d=l[i]:=by
 simp[List.getD,h]
theorem qcx {α:Type} {l:List α} {i:Nat} (h:i<l.length):l.drop i=l[i]::l.drop (i+1):=List.drop_eq_getElem_cons h
theorem qf3 {α:Type} {l:List α} {i:Nat} (h:¬ i<l.length):l.drop i=[]:=List.drop_eq_nil_of_le (by omega)
def tot:(t:Ty)→t.den→Nat
 | .unit,_=>0
 | .int _,_=>0
 | .bool,_=>0
 | .str,s=>s.size
 | .sl t,xs=>xs.length+(xs.map (tot t)).sum
 | .pair a b,x=>tot a x.1+tot b x.2
def left (t:Ty) (a:t.den) (k:Int):Int:=if (tot t a:Int)≤k then k - tot t a else -1
theorem qng {a b:ByteArray}:List.beq a.toList b.toList=decide (a=b):=by
 have h1:List.beq a.toList b.toList=decide (a.toList=b.toList):=by
  have:(a.toList == b.toList)=decide (a.toList=b.toList):=by
   by_cases h:a.toList=b.toList<;>simp[h]
  exact this
 rw[h1]
 by_cases h:a=b
 ·simp[h]
 ·have:a.toList≠b.toList:=fun e=>h (by
   have h2:a.data.toList=b.data.toList:=by
    have:=e
    simpa [ByteArray.toList_eq] using this
   cases a;cases b
   simp only[ByteArray.mk.injEq]
   exact Array.toList_inj.1 h2)
  simp[h,this]
end Go.G

namespace Go.G
open Go Go.V
theorem qbuc {α:Type} {l:List α} {i:Nat} {x:α} (h:i<l.length):(l.set i x).take (i+1)=l.take i++[x]:=by
 rw[List.take_add_one,List.take_set_of_le (Nat.le_refl _)]
 simp[List.getElem?_set,h]
end Go.G

namespace Go.G
open Go Go.V
end Go.G

namespace Go.G
open Go Go.V
def Fit (b:Nat):(t:Ty)→t.den→Prop
 | .sl t,xs=>xs.length≤b∧∀ x∈xs,Fit b t x
 | .pair s t,x=>Fit b s x.1∧Fit b t x.2
 | _,_=>True
theorem Fit.mono {b c:Nat} (h:b≤c):∀ {t:Ty} {x:t.den},Fit b t x→Fit c t x
 | .unit,_,_=>trivial
 | .int _,_,_=>trivial
 | .bool,_,_=>trivial
 | .str,_,_=>trivial
 | .sl t,xs,f=>⟨Nat.le_trans f.1 h,fun x hx=>(f.2 x hx).mono h⟩
 | .pair s t,x,f=>⟨f.1.mono h,f.2.mono h⟩
end Go.G

namespace Go.G
open Go Go.V
abbrev Value:=Int×Int×ByteArray×Unit
abbrev Col:=ByteArray×Int×Bool×Unit
abbrev qj6:=ByteArray×List Int×Bool×Unit
end Go.G

namespace Go.G
open Go Go.V Go.Proofs
def qt (P:Nat→Bool):Nat→Nat→Bool
 | _,0=>false
 | i,k+1=>P i||qt P (i+1) k
theorem q0c {P:Nat→Bool}:∀ {k i:Nat},qt P i k=true↔∃ j,i≤j∧j<i+k∧P j=true
 | 0,i=>by simp[qt];intro j h1 h2;omega
 | k+1,i=>by
  simp only[qt,Bool.or_eq_true,q0c (k:=k) (i:=i+1)]
  constructor
  ·rintro (h | ⟨j,h1,h2,h3⟩)
   ·exact ⟨i,Nat.le_refl _,by omega,h⟩
   ·exact ⟨j,by omega,by omega,h3⟩
  ·rintro ⟨j,h1,h2,h3⟩
   rcases Nat.eq_or_lt_of_le h1 with rfl | h1
   ·exact .inl h3
   ·exact .inr ⟨j,by omega,by omega,h3⟩
theorem qbn {P:Nat→Bool} {k i:Nat}:qt P i k=false↔∀ j,i≤j→j<i+k→P j=false:=by
 rw[←Bool.not_eq_true,q0c]
 constructor
 ·intro h j h1 h2
  cases hp:P j with
  | false=>rfl
  | true=>exact absurd ⟨j,h1,h2,hp⟩ h
 ·rintro h ⟨j,h1,h2,h3⟩
  rw[h j h1 h2] at h3;exact Bool.noConfusion h3
theorem quz {P Q:Nat→Bool}:∀ {k i:Nat},(∀ j,i≤j→j<i+k→P j=Q j)→qt P i k=qt Q i k
 | 0,_,_=>rfl
 | k+1,i,h=>by
  simp only[qt]
  rw[h i (Nat.le_refl _) (by omega),quz fun j h1 h2=>h j (by omega) (by omega)]
theorem scan {R:Type} {L:Nat→Nat→Option R} {N:Nat} {P:Nat→Bool} {A B:Option R}
  (hs:∀ m i,i≤N→L (m+1) i=if i<N then br (P i) A (L m (i+1)) else B):∀ m i,i≤N→N - i<m→L m i=br (qt P i (N - i)) A B
 | 0,_,_,h=>by omega
 | m+1,i,hi,hm=>by
  rw[hs m i hi]
  by_cases h:i<N
  ·rw[if_pos h]
   obtain ⟨k,hk⟩:∃ k,N - i=k+1:=⟨N - i - 1,by omega⟩
   rw[hk,scan hs m (i+1) (by omega) (by omega)]
   have:N - (i+1)=k:=by omega
   rw[this]
   show br (P i) A (br (qt P (i+1) k) A B)=br (P i||qt P (i+1) k) A B
   cases P i<;>rfl
  ·rw[if_neg h]
   have:N - i=0:=by omega
   rw[this];rfl
theorem qi0 {R:Type} {L:Nat→Nat→Option R} {N:Nat} {P:Nat→Bool} {A B:Option R}
  (hs:∀ m i,i≤N→L (m+1) i=if i<N then br (P i) A (L m (i+1)) else B) {m:Nat} (hm:N<m):L m 0=br (qt P 0 N) A B:=by
 have:=scan hs m 0 (by omega) (by omega)
 rwa [Nat.sub_zero] at this
def qw (P:Nat→Bool):Nat→Nat→Option Nat
 | _,0=>none
 | i,k+1=>if P i=true then some i else qw P (i+1) k
theorem qdg {P:Nat→Bool}:∀ {k i j:Nat},qw P i k=some j→i≤j∧j<i+k∧P j=true∧∀ l,i≤l→l<j→P l=false
 | 0,i,j,h=>by simp[qw] at h
 | k+1,i,j,h=>by
  simp only[qw] at h
  split at h
  ·rename_i hp
   simp only[Option.some.injEq] at h
   subst h
   exact ⟨Nat.le_refl _,by omega,hp,fun l h1 h2=>by omega⟩
  ·rename_i hp
   obtain ⟨h1,h2,h3,h4⟩:=qdg h
   refine ⟨by omega,by omega,h3,fun l h5 h6=>?_⟩
   rcases Nat.eq_or_lt_of_le h5 with rfl | h5
   ·simpa using hp
   ·exact h4 l h5 h6
theorem qjl {P:Nat→Bool}:∀ {k i:Nat},qw P i k=none→∀ j,i≤j→j<i+k→P j=false
 | 0,i,_,j,h1,h2=>by omega
 | k+1,i,h,j,h1,h2=>by
  simp only[qw] at h
  split at h
  ·simp at h
  ·rename_i hp
   rcases Nat.eq_or_lt_of_le h1 with rfl | h1
   ·simpa using hp
   ·exact qjl h j (by omega) (by omega)
theorem qwy {P Q:Nat→Bool}:∀ {k i:Nat},(∀ j,i≤j→j<i+k→P j=Q j)→qw P i k=qw Q i k
 | 0,_,_=>rfl
 | k+1,i,h=>by
  simp only[qw]
  rw[h i (Nat.le_refl _) (by omega),qwy fun j h1 h2=>h j (by omega) (by omega)]
theorem qbum {R:Type} {L:Nat→Nat→Option R} {N:Nat} {P:Nat→Bool} {A:Nat→Option R} {B:Option R}
  (hs:∀ m i,i≤N→L (m+1) i=if i<N then br (P i) (A i) (L m (i+1)) else B):∀ m i,i≤N→N - i<m→L m i=match qw P i (N - i) with | some j=>A j | none=>B
 | 0,_,_,h=>by omega
 | m+1,i,hi,hm=>by
  rw[hs m i hi]
  by_cases h:i<N
  ·rw[if_pos h]
   obtain ⟨k,hk⟩:∃ k,N - i=k+1:=⟨N - i - 1,by omega⟩
   rw[hk]
   simp only[qw]
   by_cases hp:P i=true
   ·rw[if_pos hp,hp];rfl
   ·rw[if_neg hp,qbum hs m (i+1) (by omega) (by omega)]
    simp only[Bool.not_eq_true] at hp
    have:N - (i+1)=k:=by omega
    rw[this,hp];rfl
  ·rw[if_neg h]
   have:N - i=0:=by omega
   rw[this];rfl
theorem qss {R:Type} {L:Nat→Nat→Option R} {N:Nat} {P:Nat→Bool} {A:Nat→Option R} {B:Option R}
  (hs:∀ m i,i≤N→L (m+1) i=if i<N then br (P i) (A i) (L m (i+1)) else B) {m:Nat} (hm:N<m):L m 0=match qw P 0 N with | some j=>A j | none=>B:=by
 have:=qbum hs m 0 (by omega) (by omega)
 rwa [Nat.sub_zero] at this
theorem qjs (a b:Bool):(bif a then b else false)=(a&&b):=by cases a<;>rfl
theorem qbpe (a b:Bool):(bif a then true else b)=(a||b):=by cases a<;>rfl
def inR (x a b:Int):Bool:=decide (a≤x)&&decide (x≤b)
theorem qux {X:Ext} (hX:XOk X) {n:Nat} (hn:1≤n) (x a b:Int):qge (DD X n) x a b=some ((inR x a b,()),()):=by
 obtain ⟨n,rfl⟩:∃ k,n=k+1:=⟨n - 1,by omega⟩
 rw[qbo4 hX]
 simp only[q5z,qbeg,qjs,inR]
theorem q0m {X:Ext} (hX:XOk X) {n:Nat} (hn:1≤n) (x a b:Int):qh4 (DD X n) x a b=some ((inR x a b,()),()):=by
 obtain ⟨n,rfl⟩:∃ k,n=k+1:=⟨n - 1,by omega⟩
 rw[qbot hX]
 simp only[q57,qbdz,qjs,inR]
def qi9 (s:ByteArray) (i:Nat):Int:=((s.data.getD i (UInt8.ofNat 0)).toNat:Int)
def qqi (s:ByteArray):Bool:=!(qt (fun i=>decide (qi9 s i<97)||decide (qi9 s i>122)) 0 s.size)&&inR s.size 1 12
theorem ixs {s:ByteArray} {i:Nat} (h:i<s.size):(decide (0≤(i:Int))&&decide ((i:Int)<(s.size:Int)))=true:=by
 simp only[Bool.and_eq_true,decide_eq_true_eq];omega
theorem qbbb {X:Ext} (hX:XOk X) {n:Nat} (hn:W+2≤n) (s:ByteArray) (hs:s.size≤maxLen):qpc (DD X n) s=some ((qqi s,()),()):=by
 obtain ⟨n,rfl⟩:∃ k,n=k+1:=⟨n - 1,by omega⟩
 have hd:=qb0
 have hW:=qb2
 rw[qbe7 hX]
 simp only[qvs,qvl,qta]
 refine Eq.trans (qi0 (L:=fun m i=>qid (DD X n) n _ _ m s s.size (i:Int)) (N:=s.size) (P:=fun i=>decide (qi9 s i<97)||decide (qi9 s i>122))
  (A:=some ((false,()),())) (B:=some ((inR s.size 1 12,()),())) (fun m i hi=>?_) (m:=n) (by omega)) ?_
 ·simp only[qid,qup]
  by_cases h:i<s.size
  ·rw[qm (by exact_mod_cast h),ixs h,br_t,br_t,Int.toNat_natCast,qp (by omega),if_pos h]
   change br (decide (qi9 s i<97)) _ (br (decide (qi9 s i>122)) _ _)=_
   by_cases h1:qi9 s i<97
   ·rw[qm h1,decide_eq_true h1];rfl
   ·rw[qn h1,decide_eq_false h1]
    by_cases h2:qi9 s i>122
    ·rw[qm h2,decide_eq_true h2];rfl
    ·rw[qn h2,decide_eq_false h2];rfl
  ·rw[qn (by exact_mod_cast h),if_neg h]
   simp only[qrh,qux hX (show 1≤n by omega),qf]
 ·unfold qqi
  cases qt (fun i=>decide (qi9 s i<97)||decide (qi9 s i>122)) 0 s.size<;>rfl
theorem qbbw {X:Ext} (hX:XOk X) {n:Nat} (hn:W+2≤n) (s:ByteArray) (hs:s.size≤maxLen):qpb (DD X n) s=some ((qqi s,()),()):=by
 obtain ⟨n,rfl⟩:∃ k,n=k+1:=⟨n - 1,by omega⟩
 have hd:=qb0
 have hW:=qb2
 rw[qbeu hX]
 simp only[qvh,qvx,qsh]
 refine Eq.trans (qi0 (L:=fun m i=>qin (DD X n) n _ _ m s (i:Int)) (N:=s.size) (P:=fun i=>decide (qi9 s i<97)||decide (qi9 s i>122))
  (A:=some ((false,()),())) (B:=some ((inR s.size 1 12,()),())) (fun m i hi=>?_) (m:=n) (by omega)) ?_
 ·simp only[qin,qub]
  by_cases h:i<s.size
  ·rw[qm (by exact_mod_cast h),ixs h,br_t,br_t,Int.toNat_natCast,qp (by omega),if_pos h]
   change br (decide (qi9 s i<97)) _ (br (decide (qi9 s i>122)) _ _)=_
   by_cases h1:qi9 s i<97
   ·rw[qm h1,decide_eq_true h1];rfl
   ·rw[qn h1,decide_eq_false h1]
    by_cases h2:qi9 s i>122
    ·rw[qm h2,decide_eq_true h2];rfl
    ·rw[qn h2,decide_eq_false h2];rfl
  ·rw[qn (by exact_mod_cast h),if_neg h]
   simp only[qq8,q0m hX (show 1≤n by omega),qf]
 ·unfold qqi
  cases qt (fun i=>decide (qi9 s i<97)||decide (qi9 s i>122)) 0 s.size<;>rfl
def has (l:List Int) (x:Int):Bool:=qt (fun j=>decide (x=l.getD j 0)) 0 l.length
theorem qbqb {X:Ext} (hX:XOk X) {n:Nat} (hn:W+2≤n) (l:List Int) (x:Int) (hl:l.length≤maxLen):qlf (DD X n) l x=some ((has l x,()),()):=by
 obtain ⟨n,rfl⟩:∃ k,n=k+2:=⟨n - 2,by omega⟩
 have hd:=qb0
 have hW:=qb2
 rw[q24 hX]
 simp only[qlh,qrw]
 have e:qnl (DD X (n+1)) l x=some ((match qw (fun j=>decide (x=l.getD j 0)) 0 l.length with | some j=>(j:Int) | none=>-1,()),()):=by
  rw[q6c hX]
  simp only[qnp,qns,qlw]
  refine Eq.trans (qss (L:=fun m i=>qeu (DD X n) n _ _ m l x l.length (i:Int)) (N:=l.length) (P:=fun j=>decide (x=l.getD j 0))
   (A:=fun j=>some (((j:Int),()),())) (B:=some ((-1,()),())) (fun m i hi=>?_) (m:=n) (by omega)) ?_
  ·simp only[qeu,ql9]
   by_cases h:i<l.length
   ·rw[qm (by exact_mod_cast h),ix h,br_t,Int.toNat_natCast,qp (by omega),if_pos h];rfl
   ·rw[qn (by exact_mod_cast h),if_neg h];rfl
  ·cases qw (fun j=>decide (x=l.getD j 0)) 0 l.length<;>rfl
 rw[e,qf]
 congr 3
 unfold has
 cases hf:qw (fun j=>decide (x=l.getD j 0)) 0 l.length with
 | none=>
  have:=qjl hf
  rw[qbn.2 this];rfl
 | some j=>
  obtain ⟨h1,h2,h3,_⟩:=qdg hf
  rw[q0c.2 ⟨j,h1,h2,h3⟩]
  simp
def qcs (n:Nat) (l:List Int) (most:Int):Bool:=!(qt (fun i=>!inR (l.getD i 0) 0 ((n:Int) - 1)||has (l.take i) (l.getD i 0)) 0 l.length)&&inR l.length 1 most
theorem q7k {X:Ext} (hX:XOk X) {n:Nat} (hn:W+3≤n) (s:List Col×List Int×List qj6×Unit) (l:List Int) (most:Int) (hc:s.1.length≤maxLen) (hl:l.length≤maxLen) :
  qro (DD X n) s l most=some ((qcs s.1.length l most,()),()):=by
 obtain ⟨n,rfl⟩:∃ k,n=k+1:=⟨n - 1,by omega⟩
 have hd:=qb0
 have hW:=qb2
 rw[qbib hX]
 simp only[qxt,qxl,qt4]
 refine Eq.trans (qi0 (L:=fun m i=>qji (DD X n) n _ _ m l most l l.length (i:Int) s) (N:=l.length) (P:=fun i=>!inR (l.getD i 0) 0 ((s.1.length:Int) - 1)||has (l.take i) (l.getD i 0))
  (A:=some ((false,()),())) (B:=some ((inR l.length 1 most,()),())) (fun m i hi=>?_) (m:=n) (by omega)) ?_
 ·simp only[qji,qvm]
  by_cases h:i<l.length
  ·have hc1:(decide ((0:Nat)≤0)&&decide ((0:Int)≤(i:Int))&&decide ((i:Int)≤(l.length:Int)))=true:=by
    rw[decide_eq_true (by omega),decide_eq_true (by omega),decide_eq_true (by omega)];rfl
   rw[qm (by exact_mod_cast h),ix h,br_t,qux hX (show 1≤n by omega),qf,hc1,br_t,Int.toNat_natCast,qp (by omega),if_pos h,qc8 (by omega) (by omega)]
   have ht:(List.drop (Int.toNat 0) (List.take i l))=l.take i:=rfl
   rw[ht,qbqb hX (by omega) _ _ (by rw[List.length_take];omega),qf]
   dsimp only
   cases inR (l.getD i 0) 0 ((s.1.length:Int) - 1)
   ·rfl
   ·cases has (l.take i) (l.getD i 0)<;>rfl
  ·rw[qn (by exact_mod_cast h),if_neg h]
   simp only[qtf,qux hX (show 1≤n by omega),qf]
 ·unfold qcs
  cases qt (fun i=>!inR (l.getD i 0) 0 ((s.1.length:Int) - 1)||has (l.take i) (l.getD i 0)) 0 l.length<;>rfl
theorem qbtb {l:List Int} {i:Nat} (hi:i≤l.length) (x:Int):has (l.take i) x=qt (fun k=>decide (l.getD k 0=x)) 0 i:=by
 unfold has
 rw[List.length_take,Nat.min_eq_left hi]
 refine quz fun j _ h=>?_
 have e:(l.take i).getD j 0=l.getD j 0:=by
  simp only[List.getD,List.getElem?_take]
  rw[if_pos (by omega)]
 rw[e]
 by_cases h:x=l.getD j 0
 ·rw[decide_eq_true h,decide_eq_true h.symm]
 ·rw[decide_eq_false h,decide_eq_false fun k=>h k.symm]
theorem q6t {X:Ext} (hX:XOk X) {n:Nat} (hn:W+3≤n) (s:List Col×List Int×List qj6×Unit) (l:List Int) (most:Int) (hc:s.1.length≤maxLen) (hl:l.length≤maxLen) :
  qpe (DD X n) s l most=some ((qcs s.1.length l most,()),()):=by
 obtain ⟨n,rfl⟩:∃ k,n=k+1:=⟨n - 1,by omega⟩
 have hd:=qb0
 have hW:=qb2
 rw[qbeq hX]
 simp only[qvd,qv6,qsp]
 refine Eq.trans (qi0 (L:=fun m i=>qfd (DD X n) n _ _ m l most (i:Int) s) (N:=l.length) (P:=fun i=>!inR (l.getD i 0) 0 ((s.1.length:Int) - 1)||has (l.take i) (l.getD i 0))
  (A:=some ((false,()),())) (B:=some ((inR l.length 1 most,()),())) (fun m i hi=>?_) (m:=n) (by omega)) ?_
 ·simp only[qfd,qty]
  by_cases h:i<l.length
  ·rw[qm (by exact_mod_cast h),ix h,br_t,q0m hX (show 1≤n by omega),qf,Int.toNat_natCast,if_pos h,qc8 (by omega) (by omega)]
   dsimp only
   cases hin:inR (l.getD i 0) 0 ((s.1.length:Int) - 1)
   ·rfl
   ·rw[Bool.not_true,br_f,Bool.false_or,qbtb (by omega)]
    simp only[qsx]
    refine Eq.trans (qi0 (L:=fun q k=>qif (DD X n) n _ _ q l most (i:Int) (k:Int) s) (N:=i) (P:=fun k=>decide (l.getD k 0=l.getD i 0))
     (A:=some ((false,()),())) (B:=qfd (DD X n) n (fun v0_0 v0_1 v0_2=>qrd (DD X n) n v0_0 v0_1 v0_2) (fun v1_0 v1_1=>ql7 (DD X n) n v1_0 v1_1) m l most ((i+1:Nat):Int) s) (fun q k hk=>?_) (m:=n) (by omega)) rfl
    simp only[qif,qt3]
    by_cases h2:k<i
    ·rw[qm (by exact_mod_cast h2),ix (i:=k) (by omega),br_t,ix h,br_t,Int.toNat_natCast,Int.toNat_natCast,qp (by omega),if_pos h2];rfl
    ·rw[qn (by exact_mod_cast h2),if_neg h2]
     simp only[qqv]
     rw[qp (by omega)]
  ·rw[qn (by exact_mod_cast h),if_neg h]
   simp only[ql7,q0m hX (show 1≤n by omega),qf]
 ·unfold qcs
  cases qt (fun i=>!inR (l.getD i 0) 0 ((s.1.length:Int) - 1)||has (l.take i) (l.getD i 0)) 0 l.length<;>rfl
end Go.G

namespace Go.G
set_option maxRecDepth 100000
open Go Go.V Go.Proofs
theorem q04 (P:Nat→Bool) (n:Nat):decide ((match qw P 0 n with | some j=>(j:Int) | none=>-1)≥0)=qt P 0 n:=by
 cases hf:qw P 0 n with
 | none=>rw[qbn.2 (qjl hf)];rfl
 | some j=>
  obtain ⟨h1,h2,h3,_⟩:=qdg hf
  rw[q0c.2 ⟨j,h1,h2,h3⟩]
  simp
theorem qbua {X:Ext} (hX:XOk X) {n:Nat} (hn:W+1≤n) (l:List (Col)) (hl:l.length≤maxLen) (c:Clo) (P:Nat→Bool)
  (hP:∀ i,i<l.length→qbe ctx (DD X (n - 1)) c [CapV.val (Ty.pair Ty.str (Ty.pair (Ty.int IntKind.i64) (Ty.pair Ty.bool Ty.unit))) (l.getD i (ByteArray.empty,0,false,()))] Ty.bool=some (P i)) :
  qgb (DD X n) l c=some ((match qw P 0 l.length with | some j=>(j:Int) | none=>-1,()),()):=by
 obtain ⟨n,rfl⟩:∃ k,n=k+1:=⟨n - 1,by omega⟩
 have hd:=qb0
 have hW:=qb2
 rw[qs2 hX]
 simp only[qf6,qf5,qfk]
 refine Eq.trans (qss (L:=fun m i=>qcc (DD X n) n c _ _ m l l.length (i:Int)) (N:=l.length) (P:=P)
  (A:=fun j=>some (((j:Int),()),())) (B:=some ((-1,()),())) (fun m i hi=>?_) (m:=n) (by omega)) ?_
 ·simp only[qcc,qfu]
  by_cases h:i<l.length
  ·have hp:qbe ctx (DD X n) c [CapV.val (Ty.pair Ty.str (Ty.pair (Ty.int IntKind.i64) (Ty.pair Ty.bool Ty.unit))) (l.getD i (ByteArray.empty,0,false,()))] Ty.bool=some (P i):=hP i h
   rw[qm (by exact_mod_cast h),ix h,br_t,Int.toNat_natCast,hp,qf,qp (by omega),if_pos h];rfl
  ·rw[qn (by exact_mod_cast h),if_neg h];rfl
 ·cases qw P 0 l.length<;>rfl
theorem qbq2 {X:Ext} (hX:XOk X) {n:Nat} (hn:W+1≤n) (l:List (qj6)) (hl:l.length≤maxLen) (c:Clo) (P:Nat→Bool)
  (hP:∀ i,i<l.length→qbe ctx (DD X (n - 1)) c [CapV.val (Ty.pair Ty.str (Ty.pair (Ty.sl (Ty.int IntKind.i64)) (Ty.pair Ty.bool Ty.unit))) (l.getD i (ByteArray.empty,[],false,()))] Ty.bool=some (P i)) :
  qex (DD X n) l c=some ((match qw P 0 l.length with | some j=>(j:Int) | none=>-1,()),()):=by
 obtain ⟨n,rfl⟩:∃ k,n=k+1:=⟨n - 1,by omega⟩
 have hd:=qb0
 have hW:=qb2
 rw[qo5 hX]
 simp only[qev,qe2,qec]
 refine Eq.trans (qss (L:=fun m i=>qby (DD X n) n c _ _ m l l.length (i:Int)) (N:=l.length) (P:=P)
  (A:=fun j=>some (((j:Int),()),())) (B:=some ((-1,()),())) (fun m i hi=>?_) (m:=n) (by omega)) ?_
 ·simp only[qby,qel]
  by_cases h:i<l.length
  ·have hp:qbe ctx (DD X n) c [CapV.val (Ty.pair Ty.str (Ty.pair (Ty.sl (Ty.int IntKind.i64)) (Ty.pair Ty.bool Ty.unit))) (l.getD i (ByteArray.empty,[],false,()))] Ty.bool=some (P i):=hP i h
   rw[qm (by exact_mod_cast h),ix h,br_t,Int.toNat_natCast,hp,qf,qp (by omega),if_pos h];rfl
  ·rw[qn (by exact_mod_cast h),if_neg h];rfl
 ·cases qw P 0 l.length<;>rfl
theorem qbtg {X:Ext} (hX:XOk X) {n:Nat} (hn:W+1≤n) (l:List (Int)) (hl:l.length≤maxLen) (c:Clo) (P:Nat→Bool)
  (hP:∀ i,i<l.length→qbe ctx (DD X (n - 1)) c [CapV.val (Ty.int IntKind.i64) (l.getD i 0)] Ty.bool=some (P i)) :
  qku (DD X n) l c=some ((match qw P 0 l.length with | some j=>(j:Int) | none=>-1,()),()):=by
 obtain ⟨n,rfl⟩:∃ k,n=k+1:=⟨n - 1,by omega⟩
 have hd:=qb0
 have hW:=qb2
 rw[q1l hX]
 simp only[qkx,qkz,qjd]
 refine Eq.trans (qss (L:=fun m i=>qdu (DD X n) n c _ _ m l l.length (i:Int)) (N:=l.length) (P:=P)
  (A:=fun j=>some (((j:Int),()),())) (B:=some ((-1,()),())) (fun m i hi=>?_) (m:=n) (by omega)) ?_
 ·simp only[qdu,qkd]
  by_cases h:i<l.length
  ·have hp:qbe ctx (DD X n) c [CapV.val (Ty.int IntKind.i64) (l.getD i 0)] Ty.bool=some (P i):=hP i h
   rw[qm (by exact_mod_cast h),ix h,br_t,Int.toNat_natCast,hp,qf,qp (by omega),if_pos h];rfl
  ·rw[qn (by exact_mod_cast h),if_neg h];rfl
 ·cases qw P 0 l.length<;>rfl
theorem qbqu {X:Ext} (hX:XOk X) {n:Nat} (hn:W+1≤n) (l:List (Value)) (hl:l.length≤maxLen) (c:Clo) (P:Nat→Bool)
  (hP:∀ i,i<l.length→qbe ctx (DD X (n - 1)) c [CapV.val (Ty.pair (Ty.int IntKind.i64) (Ty.pair (Ty.int IntKind.i64) (Ty.pair Ty.str Ty.unit))) (l.getD i (0,0,ByteArray.empty,()))] Ty.bool=some (P i)) :
  qeo (DD X n) l c=some ((match qw P 0 l.length with | some j=>(j:Int) | none=>-1,()),()):=by
 obtain ⟨n,rfl⟩:∃ k,n=k+1:=⟨n - 1,by omega⟩
 have hd:=qb0
 have hW:=qb2
 rw[qo3 hX]
 simp only[qem,qep,qea]
 refine Eq.trans (qss (L:=fun m i=>qbr (DD X n) n c _ _ m l l.length (i:Int)) (N:=l.length) (P:=P)
  (A:=fun j=>some (((j:Int),()),())) (B:=some ((-1,()),())) (fun m i hi=>?_) (m:=n) (by omega)) ?_
 ·simp only[qbr,qef]
  by_cases h:i<l.length
  ·have hp:qbe ctx (DD X n) c [CapV.val (Ty.pair (Ty.int IntKind.i64) (Ty.pair (Ty.int IntKind.i64) (Ty.pair Ty.str Ty.unit))) (l.getD i (0,0,ByteArray.empty,()))] Ty.bool=some (P i):=hP i h
   rw[qm (by exact_mod_cast h),ix h,br_t,Int.toNat_natCast,hp,qf,qp (by omega),if_pos h];rfl
  ·rw[qn (by exact_mod_cast h),if_neg h];rfl
 ·cases qw P 0 l.length<;>rfl
theorem qbet {X:Ext} (hX:XOk X) {n:Nat} (hn:W+1≤n) (l:List (List Value)) (hl:l.length≤maxLen) (c:Clo) (P:Nat→Bool)
  (hP:∀ i,i<l.length→qbe ctx (DD X (n - 1)) c [CapV.val (Ty.sl (Ty.pair (Ty.int IntKind.i64) (Ty.pair (Ty.int IntKind.i64) (Ty.pair Ty.str Ty.unit)))) (l.getD i [])] Ty.bool=some (P i)) :
  qcn (DD X n) l c=some ((match qw P 0 l.length with | some j=>(j:Int) | none=>-1,()),()):=by
 obtain ⟨n,rfl⟩:∃ k,n=k+1:=⟨n - 1,by omega⟩
 have hd:=qb0
 have hW:=qb2
 rw[qo8 hX]
 simp only[qe3,qe0,qed]
 refine Eq.trans (qss (L:=fun m i=>qbx (DD X n) n c _ _ m l l.length (i:Int)) (N:=l.length) (P:=P)
  (A:=fun j=>some (((j:Int),()),())) (B:=some ((-1,()),())) (fun m i hi=>?_) (m:=n) (by omega)) ?_
 ·simp only[qbx,qen]
  by_cases h:i<l.length
  ·have hp:qbe ctx (DD X n) c [CapV.val (Ty.sl (Ty.pair (Ty.int IntKind.i64) (Ty.pair (Ty.int IntKind.i64) (Ty.pair Ty.str Ty.unit)))) (l.getD i [])] Ty.bool=some (P i):=hP i h
   rw[qm (by exact_mod_cast h),ix h,br_t,Int.toNat_natCast,hp,qf,qp (by omega),if_pos h];rfl
  ·rw[qn (by exact_mod_cast h),if_neg h];rfl
 ·cases qw P 0 l.length<;>rfl
theorem qbd3 {X:Ext} (hX:XOk X) {n:Nat} (hn:W+2≤n) (l:List (qj6)) (hl:l.length≤maxLen) (c:Clo) (P:Nat→Bool)
  (hP:∀ i,i<l.length→qbe ctx (DD X (n - 2)) c [CapV.val (Ty.pair Ty.str (Ty.pair (Ty.sl (Ty.int IntKind.i64)) (Ty.pair Ty.bool Ty.unit))) (l.getD i (ByteArray.empty,[],false,()))] Ty.bool=some (P i)) :
  qc3 (DD X n) l c=some ((qt P 0 l.length,()),()):=by
 obtain ⟨n,rfl⟩:∃ k,n=k+1:=⟨n - 1,by omega⟩
 rw[qnx hX]
 simp only[qd8,qg7]
 rw[qbq2 hX (n:=n) (by omega) l hl c P (fun i h=>hP i h),qf]
 congr 3
 exact q04 P l.length
theorem qbrg {X:Ext} (hX:XOk X) {n:Nat} (hn:W+2≤n) (l:List (Int)) (hl:l.length≤maxLen) (c:Clo) (P:Nat→Bool)
  (hP:∀ i,i<l.length→qbe ctx (DD X (n - 2)) c [CapV.val (Ty.int IntKind.i64) (l.getD i 0)] Ty.bool=some (P i)) :
  qiz (DD X n) l c=some ((qt P 0 l.length,()),()):=by
 obtain ⟨n,rfl⟩:∃ k,n=k+1:=⟨n - 1,by omega⟩
 rw[qxw hX]
 simp only[qiy,qnu]
 rw[qbtg hX (n:=n) (by omega) l hl c P (fun i h=>hP i h),qf]
 congr 3
 exact q04 P l.length
theorem qbo9 {X:Ext} (hX:XOk X) {n:Nat} (hn:W+2≤n) (l:List (Value)) (hl:l.length≤maxLen) (c:Clo) (P:Nat→Bool)
  (hP:∀ i,i<l.length→qbe ctx (DD X (n - 2)) c [CapV.val (Ty.pair (Ty.int IntKind.i64) (Ty.pair (Ty.int IntKind.i64) (Ty.pair Ty.str Ty.unit))) (l.getD i (0,0,ByteArray.empty,()))] Ty.bool=some (P i)) :
  qd5 (DD X n) l c=some ((qt P 0 l.length,()),()):=by
 obtain ⟨n,rfl⟩:∃ k,n=k+1:=⟨n - 1,by omega⟩
 rw[qnr hX]
 simp only[qd6,qgw]
 rw[qbqu hX (n:=n) (by omega) l hl c P (fun i h=>hP i h),qf]
 congr 3
 exact q04 P l.length
theorem qble {X:Ext} (hX:XOk X) {n:Nat} (hn:W+2≤n) (l:List (List Value)) (hl:l.length≤maxLen) (c:Clo) (P:Nat→Bool)
  (hP:∀ i,i<l.length→qbe ctx (DD X (n - 2)) c [CapV.val (Ty.sl (Ty.pair (Ty.int IntKind.i64) (Ty.pair (Ty.int IntKind.i64) (Ty.pair Ty.str Ty.unit)))) (l.getD i [])] Ty.bool=some (P i)) :
  qbo (DD X n) l c=some ((qt P 0 l.length,()),()):=by
 obtain ⟨n,rfl⟩:∃ k,n=k+1:=⟨n - 1,by omega⟩
 rw[qny hX]
 simp only[qd9,qg5]
 rw[qbet hX (n:=n) (by omega) l hl c P (fun i h=>hP i h),qf]
 congr 3
 exact q04 P l.length
end Go.G

namespace Go.G
set_option maxRecDepth 100000
open Go Go.V Go.Proofs
abbrev q8:=List Col×List Int×List qj6×Unit
def M:Nat:=4194304
theorem qbt:M=4194304:=rfl
structure SchSm (s:q8):Prop where
 cols:s.1.length≤M
 names:∀ c∈s.1,c.1.size≤M
 key:s.2.1.length≤M
 ixs:s.2.2.1.length≤M
 ixn:∀ x∈s.2.2.1,x.1.size≤M
 ixc:∀ x∈s.2.2.1,x.2.1.length≤M
abbrev cd:Col:=(ByteArray.empty,0,false,())
abbrev xd:qj6:=(ByteArray.empty,[],false,())
theorem qbp {α:Type} {l:List α} {i:Nat} {d:α} (h:i<l.length):l.getD i d∈l:=by rw[qbc h];exact List.getElem_mem _
def qbb7 (cs:List Col) (name:ByteArray):Int:=match qw (fun i=>decide ((cs.getD i cd).1=name)) 0 cs.length with | some j=>(j:Int) | none=>-1
theorem qbrb (D:Den ctx) (name:ByteArray) (x:Col):qbe ctx D (Clo.mk 196 [CapV.rptr Ty.str name]) [CapV.val (Ty.pair Ty.str (Ty.pair (Ty.int IntKind.i64) (Ty.pair Ty.bool Ty.unit))) x] Ty.bool=(q7j D x name).bind fun r=>some r.1.1:=by kernel_rfl
theorem qbo6 {X:Ext} (hX:XOk X) {n:Nat} (hn:W+3≤n) (s:q8) (hs:SchSm s) (name:ByteArray):q33 (DD X n) s name=some ((qbb7 s.1 name,()),()):=by
 obtain ⟨n,rfl⟩:∃ k,n=k+1:=⟨n - 1,by omega⟩
 have hd:=qb0
 have hM:=qbt
 have:=hs.cols
 rw[qbn4 hX]
 simp only[q3t,qbbo]
 rw[qbua hX (n:=n) (by omega) s.1 (by omega) _ (fun i=>decide ((s.1.getD i cd).1=name)) (fun i h=>by
  obtain ⟨n,rfl⟩:∃ k,n=k+2:=⟨n - 2,by omega⟩
  rw[qbrb]
  rw[show n+2 - 1=n+1 from rfl,qbjt hX]
  simp only[qy5,q6v,Option.bind_some,qng]),qf]
 rfl
theorem qbom {X:Ext} (hX:XOk X) {n:Nat} (hn:W+1≤n) (s:q8) (hs:SchSm s) (name:ByteArray):q3y (DD X n) s name=some ((qbb7 s.1 name,()),()):=by
 obtain ⟨n,rfl⟩:∃ k,n=k+1:=⟨n - 1,by omega⟩
 have hd:=qb0
 have hW:=qb2
 have hM:=qbt
 have:=hs.cols
 rw[qbm0 hX]
 simp only[q4h,q4g,qyp]
 refine Eq.trans (qss (L:=fun m i=>qmn (DD X n) n _ _ m name (i:Int) s) (N:=s.1.length) (P:=fun i=>decide ((s.1.getD i cd).1=name))
  (A:=fun j=>some (((j:Int),()),())) (B:=some ((-1,()),())) (fun m i hi=>?_) (m:=n) (by omega)) ?_
 ·simp only[qmn,q10]
  by_cases h:i<s.1.length
  ·rw[qm (by exact_mod_cast h),ix h,br_t,Int.toNat_natCast,qp (by omega),if_pos h,qng];rfl
  ·rw[qn (by exact_mod_cast h),if_neg h];rfl
 ·unfold qbb7
  cases qw (fun i=>decide ((s.1.getD i cd).1=name)) 0 s.1.length<;>rfl
def qxn (cs:List Col) (i:Nat):Bool:=!qqi (cs.getD i cd).1||(!inR (cs.getD i cd).2.1 1 3||!decide (qbb7 cs (cs.getD i cd).1=(i:Int)))
def qr7 (nc:Nat) (xs:List qj6) (i:Nat):Bool:=!qqi (xs.getD i xd).1||(!qcs nc (xs.getD i xd).2.1 3||qt (fun k=>decide ((xs.getD k xd).1=(xs.getD i xd).1)) 0 i)
def qzg (cs:List Col) (key:List Int):Bool:=qt (fun j=>(cs.getD (key.getD j 0).toNat cd).2.2.1) 0 key.length
def qfh (s:q8):Bool:=
 !qt (qxn s.1) 0 s.1.length&&(!qt (qr7 s.1.length s.2.2.1) 0 s.2.2.1.length&&(inR s.1.length 1 5&&(qcs s.1.length s.2.1 4&&(!qzg s.1 s.2.1&&decide ((s.2.2.1.length:Int)≤3)))))
theorem qbko {n:Nat} {l:List Int} {most:Int} (h:qcs n l most=true) {j:Nat} (hj:j<l.length):0≤l.getD j 0∧l.getD j 0<n:=by
 simp only[qcs,Bool.and_eq_true,Bool.not_eq_true'] at h
 have:=qbn.1 h.1 j (by omega) (by omega)
 simp only[Bool.or_eq_false_iff,Bool.not_eq_false',inR,Bool.and_eq_true,decide_eq_true_eq] at this
 omega
theorem qtk (a b:Int):(a != b)=!decide (a=b):=by by_cases h:a=b<;>simp[h]
theorem qbqo (D:Den ctx) (y x:qj6):qbe ctx D (Clo.mk 149 [CapV.rptr (Ty.pair Ty.str (Ty.pair (Ty.sl (Ty.int IntKind.i64)) (Ty.pair Ty.bool Ty.unit))) y]) [CapV.val (Ty.pair Ty.str (Ty.pair (Ty.sl (Ty.int IntKind.i64)) (Ty.pair Ty.bool Ty.unit))) x] Ty.bool=(q16 D x y).bind fun r=>some r.1.1:=by kernel_rfl
theorem qbo0 (D:Den ctx) (s:q8) (x:Int):qbe ctx D (Clo.mk 151 [CapV.rptr (Ty.pair (Ty.sl (Ty.pair Ty.str (Ty.pair (Ty.int IntKind.i64) (Ty.pair Ty.bool Ty.unit)))) (Ty.pair (Ty.sl (Ty.int IntKind.i64)) (Ty.pair (Ty.sl (Ty.pair Ty.str (Ty.pair (Ty.sl (Ty.int IntKind.i64)) (Ty.pair Ty.bool Ty.unit)))) Ty.unit))) s]) [CapV.val (Ty.int IntKind.i64) x] Ty.bool=(q2p D x s).bind fun r=>some r.1.1:=by kernel_rfl
theorem q7a {X:Ext} (hX:XOk X) {n:Nat} (hn:W+5≤n) (s:q8) (hs:SchSm s):qr5 (DD X n) s=some ((qfh s,()),()):=by
 obtain ⟨n,rfl⟩:∃ k,n=k+1:=⟨n - 1,by omega⟩
 have hd:=qb0
 have hW:=qb2
 have hM:=qbt
 have h1:=hs.cols
 have h2:=hs.ixs
 have h3:=hs.key
 rw[qbhz hX]
 simp only[qxg,qxi,qui]
 refine Eq.trans (qi0 (L:=fun m i=>qje (DD X n) n _ _ m s.1 s.1.length (i:Int) s) (N:=s.1.length) (P:=qxn s.1)
  (A:=some ((false,()),())) (B:=br (qt (qr7 s.1.length s.2.2.1) 0 s.2.2.1.length) (some ((false,()),())) (some ((inR s.1.length 1 5&&(qcs s.1.length s.2.1 4&&(!qzg s.1 s.2.1&&decide ((s.2.2.1.length:Int)≤3))),()),()))) (fun m i hi=>?_) (m:=n) (by omega)) ?_
 ·simp only[qje,qvg]
  by_cases h:i<s.1.length
  ·have hsz:=hs.names _ (qbp (d:=cd) h)
   rw[qm (by exact_mod_cast h),ix h,br_t,Int.toNat_natCast,qbbb hX (by omega) _ (Nat.le_trans hsz (by omega)),qf,qux hX (by omega),qf,qbo6 hX (by omega) s hs,qf,qp (by omega),if_pos h,qtk]
   dsimp only[qxn]
   cases qqi (s.1.getD i cd).1
   ·rfl
   ·cases inR (s.1.getD i cd).2.1 1 3
    ·rfl
    ·rw[Bool.not_true,br_f,br_f,Bool.false_or,Bool.false_or];rfl
  ·rw[qn (by exact_mod_cast h),if_neg h]
   simp only[qtg,qum]
   refine (qi0 (L:=fun m i=>qjf (DD X n) n _ _ m s.2.2.1 s.2.2.1.length (i:Int) s) (N:=s.2.2.1.length) (P:=qr7 s.1.length s.2.2.1)
    (A:=some ((false,()),())) (B:=some ((inR s.1.length 1 5&&(qcs s.1.length s.2.1 4&&(!qzg s.1 s.2.1&&decide ((s.2.2.1.length:Int)≤3))),()),())) (fun m i hi=>?_) (m:=n) (by omega))
   simp only[qjf,qvi]
   by_cases h:i<s.2.2.1.length
   ·have hm:=qbp (d:=xd) h
    have hsz:=hs.ixn _ hm
    have hsl:=hs.ixc _ hm
    have hc1:(decide ((0:Nat)≤0)&&decide ((0:Int)≤(i:Int))&&decide ((i:Int)≤(s.2.2.1.length:Int)))=true:=by
     rw[decide_eq_true (by omega),decide_eq_true (by omega),decide_eq_true (by omega)];rfl
    have hlen:(s.2.2.1.take i).length=i:=by rw[List.length_take];omega
    rw[qm (by exact_mod_cast h),ix h,br_t,Int.toNat_natCast,qbbb hX (by omega) _ (Nat.le_trans hsz (by omega)),qf,q7k hX (by omega) s _ _ (by omega) (Nat.le_trans hsl (by omega)),qf,hc1,br_t,qp (by omega),if_pos h]
    have ht:(List.drop (Int.toNat 0) (List.take i s.2.2.1))=s.2.2.1.take i:=rfl
    rw[ht,qbd3 hX (n:=n) (by omega) _ (by omega) _ (fun k=>decide ((s.2.2.1.getD k xd).1=(s.2.2.1.getD i xd).1)) (fun k hk=>by
     rw[hlen] at hk
     obtain ⟨n,rfl⟩:∃ k,n=k+3:=⟨n - 3,by omega⟩
     rw[qbqo,show n+3 - 2=n+1 from rfl,qbdn hX]
     have e:(s.2.2.1.take i).getD k xd=s.2.2.1.getD k xd:=by
      simp only[List.getD,List.getElem?_take]
      rw[if_pos hk]
     simp only[qur,q2g,Option.bind_some,qng,e]),qf,hlen]
    dsimp only[qr7]
    cases qqi (s.2.2.1.getD i xd).1
    ·rfl
    ·cases qcs s.1.length (s.2.2.1.getD i xd).2.1 3
     ·rfl
     ·rw[Bool.not_true,br_f,br_f,Bool.false_or,Bool.false_or];rfl
   ·rw[qn (by exact_mod_cast h),if_neg h]
    simp only[qsn]
    rw[qux hX (by omega),qf,q7k hX (by omega) s _ _ (by omega) (by omega),qf]
    dsimp only
    cases inR s.1.length 1 5
    ·rfl
    ·rw[br_t,Bool.true_and]
     cases hp:qcs s.1.length s.2.1 4
     ·rfl
     ·rw[br_t,Bool.true_and,qbrg hX (n:=n) (by omega) s.2.1 (by omega) _ (fun j=>(s.1.getD (s.2.1.getD j 0).toNat cd).2.2.1) (fun k hk=>by
       obtain ⟨n,rfl⟩:∃ k,n=k+3:=⟨n - 3,by omega⟩
       obtain ⟨p1,p2⟩:=qbko hp hk
       rw[qbo0,show n+3 - 2=n+1 from rfl,qbdi hX]
       simp only[qul,q2k]
       rw[ixn p1 p2,br_t];rfl),qf,qjs]
      rfl
 ·unfold qfh
  cases qt (qxn s.1) 0 s.1.length
  ·cases qt (qr7 s.1.length s.2.2.1) 0 s.2.2.1.length<;>rfl
  ·rfl
theorem qblu {X:Ext} (hX:XOk X) {n:Nat} (hn:W+4≤n) (s:q8) (hs:SchSm s):qt2 (DD X n) s=some ((!qt (qr7 s.1.length s.2.2.1) 0 s.2.2.1.length&&decide ((s.2.2.1.length:Int)≤3),()),()):=by
 obtain ⟨n,rfl⟩:∃ k,n=k+1:=⟨n - 1,by omega⟩
 have hd:=qb0
 have hW:=qb2
 have hM:=qbt
 have h1:=hs.cols
 have h2:=hs.ixs
 rw[qbdm hX]
 simp only[qtx,qt8,qq2]
 refine Eq.trans (qi0 (L:=fun m i=>qer (DD X n) n _ _ m (i:Int) s) (N:=s.2.2.1.length) (P:=qr7 s.1.length s.2.2.1)
  (A:=some ((false,()),())) (B:=some ((decide ((s.2.2.1.length:Int)≤3),()),())) (fun m i hi=>?_) (m:=n) (by omega)) ?_
 ·simp only[qer,qsb]
  by_cases h:i<s.2.2.1.length
  ·have hm:=qbp (d:=xd) h
   have hsz:=hs.ixn _ hm
   have hsl:=hs.ixc _ hm
   rw[qm (by exact_mod_cast h),ix h,br_t,Int.toNat_natCast,qbbw hX (by omega) _ (Nat.le_trans hsz (by omega)),qf,q6t hX (by omega) s _ _ (by omega) (Nat.le_trans hsl (by omega)),qf,if_pos h]
   dsimp only[qr7]
   cases qqi (s.2.2.1.getD i xd).1
   ·rfl
   ·cases qcs s.1.length (s.2.2.1.getD i xd).2.1 3
    ·rfl
    ·rw[Bool.not_true,br_f,br_f,Bool.false_or,Bool.false_or]
     simp only[qqt]
     refine Eq.trans (qi0 (L:=fun q k=>qhu (DD X n) n _ _ q (i:Int) (k:Int) s (s.2.2.1.getD i xd)) (N:=i) (P:=fun k=>decide ((s.2.2.1.getD k xd).1=(s.2.2.1.getD i xd).1))
      (A:=some ((false,()),())) (B:=qer (DD X n) n (fun v0_0 v0_1=>qpl (DD X n) n v0_0 v0_1) (fun v1_0=>qo6 (DD X n) n v1_0) m ((i+1:Nat):Int) s) (fun q k hk=>?_) (m:=n) (by omega)) rfl
     simp only[qhu,qsa]
     by_cases h2:k<i
     ·rw[qm (by exact_mod_cast h2),ix (i:=k) (by omega),br_t,Int.toNat_natCast,qp (by omega),if_pos h2,qng];rfl
     ·rw[qn (by exact_mod_cast h2),if_neg h2]
      simp only[qps]
      rw[qp (by omega)]
  ·rw[qn (by exact_mod_cast h),if_neg h];rfl
 ·cases qt (qr7 s.1.length s.2.2.1) 0 s.2.2.1.length<;>rfl
theorem q6r {X:Ext} (hX:XOk X) {n:Nat} (hn:W+5≤n) (s:q8) (hs:SchSm s):qrp (DD X n) s=some ((qfh s,()),()):=by
 obtain ⟨n,rfl⟩:∃ k,n=k+1:=⟨n - 1,by omega⟩
 have hd:=qb0
 have hW:=qb2
 have hM:=qbt
 have h1:=hs.cols
 have h2:=hs.ixs
 have h3:=hs.key
 rw[qbgt hX]
 simp only[qwn,qxo,quq]
 refine Eq.trans (qi0 (L:=fun m i=>qjb (DD X n) n _ _ m (i:Int) s) (N:=s.1.length) (P:=qxn s.1)
  (A:=some ((false,()),())) (B:=some ((inR s.1.length 1 5&&(qcs s.1.length s.2.1 4&&((!qt (qr7 s.1.length s.2.2.1) 0 s.2.2.1.length&&decide ((s.2.2.1.length:Int)≤3))&&!qzg s.1 s.2.1)),()),())) (fun m i hi=>?_) (m:=n) (by omega)) ?_
 ·simp only[qjb,qva]
  by_cases h:i<s.1.length
  ·have hsz:=hs.names _ (qbp (d:=cd) h)
   rw[qm (by exact_mod_cast h),ix h,br_t,br_t,br_t,Int.toNat_natCast,qbbw hX (by omega) _ (Nat.le_trans hsz (by omega)),qf,q0m hX (by omega),qf,qbom hX (by omega) s hs,qf,qp (by omega),if_pos h,qtk]
   dsimp only[qxn]
   cases qqi (s.1.getD i cd).1
   ·rfl
   ·cases inR (s.1.getD i cd).2.1 1 3
    ·rfl
    ·rw[Bool.not_true,br_f,br_f,Bool.false_or,Bool.false_or];rfl
  ·rw[qn (by exact_mod_cast h),if_neg h]
   simp only[qsu,qt6]
   rw[q0m hX (by omega),qf,q6t hX (by omega) s _ _ (by omega) (by omega),qf,qblu hX (by omega) s hs,qf]
   dsimp only
   cases inR s.1.length 1 5
   ·rfl
   ·cases hp:qcs s.1.length s.2.1 4
    ·rfl
    ·cases (!qt (qr7 s.1.length s.2.2.1) 0 s.2.2.1.length&&decide ((s.2.2.1.length:Int)≤3))
     ·rfl
     ·simp only[Bool.not_true,br_f,Bool.true_and]
      refine Eq.trans (qi0 (L:=fun m i=>qjp (DD X n) n _ _ m (i:Int) s) (N:=s.2.1.length) (P:=fun j=>(s.1.getD (s.2.1.getD j 0).toNat cd).2.2.1)
       (A:=some ((false,()),())) (B:=some ((true,()),())) (fun m i hi=>?_) (m:=n) (by omega)) ?_
      ·simp only[qjp,qvu]
       by_cases h:i<s.2.1.length
       ·obtain ⟨p1,p2⟩:=qbko hp h
        rw[qm (by exact_mod_cast h),ix h,br_t,Int.toNat_natCast,ixn p1 p2,br_t,qp (by omega),if_pos h];rfl
       ·rw[qn (by exact_mod_cast h),if_neg h];rfl
      ·unfold qzg
       cases qt (fun j=>(s.1.getD (s.2.1.getD j 0).toNat cd).2.2.1) 0 s.2.1.length<;>rfl
 ·unfold qfh
  cases qt (qxn s.1) 0 s.1.length<;>cases qt (qr7 s.1.length s.2.2.1) 0 s.2.2.1.length<;>cases inR s.1.length 1 5<;>cases qcs s.1.length s.2.1 4<;>cases qzg s.1 s.2.1<;>simp[br]
end Go.G

namespace Go.G
open Go Go.V Go.Proofs
instance decCols:DecidableEq (List Col):=inferInstance
instance decIxs:DecidableEq (List qj6):=inferInstance
instance decSchema:DecidableEq q8:=fun a b=>@instDecidableEqProd _ _ decCols (@instDecidableEqProd _ _ inferInstance (@instDecidableEqProd _ _ decIxs inferInstance)) a b
end Go.G

namespace Go.G
set_option maxRecDepth 100000
open Go Go.V Go.Proofs
abbrev vd:Value:=(0,0,ByteArray.empty,())
abbrev Row:=List Value
def qj (row:Row) (cols:List Int):Row:=(cols.filter fun c=>inR c 0 ((row.length:Int) - 1)).map fun c=>row.getD c.toNat vd
theorem qeh (row:Row) (cols:List Int):(qj row cols).length≤cols.length:=by
 unfold qj;rw[List.length_map];exact List.length_filter_le _ _
theorem qbai (row:Row) (c:Int) (cols:List Int):qj row (c::cols)=if inR c 0 ((row.length:Int) - 1)=true then row.getD c.toNat vd::qj row cols else qj row cols:=by
 unfold qj
 rw[List.filter_cons]
 split<;>simp
theorem qbbc {c:Int} {n:Nat} (h:inR c 0 ((n:Int) - 1)=true):0≤c∧c<n:=by
 simp only[inR,Bool.and_eq_true,decide_eq_true_eq] at h;omega
theorem q1m {X:Ext} (hX:XOk X) (N n:Nat) (hN:1≤N) (K:Row→Option ((Row×Unit)×Unit)) (row:Row) (hr:row.length≤M) (cols:List Int) (hc:cols.length≤M):∀ (m i:Nat) (acc:Row),i≤cols.length→cols.length - i<m→acc.length≤i→
  qkg (DD X N) n K m row cols cols.length (i:Int) acc=K (acc++qj row (cols.drop i))
 | 0,_,_,_,h,_=>by omega
 | m+1,i,acc,hi,hf,ha=>by
  simp only[qkg,qwq]
  have hM:=qbt
  have hb:=qcm
  by_cases h:i<cols.length
  ·rw[qm (by exact_mod_cast h),ix h,br_t,Int.toNat_natCast,qc8 (by omega) (by omega),qux hX hN,qf,qp (by omega),qcx h,qbai,qbc h]
   dsimp only
   by_cases hin:inR cols[i] 0 ((row.length:Int) - 1)=true
   ·obtain ⟨p1,p2⟩:=qbbc hin
    rw[hin,br_t,ixn p1 p2,br_t,qm (by omega),if_pos rfl]
    refine Eq.trans (q1m hX N n hN K row hr cols hc m (i+1) _ (by omega) (by omega) (by simp;omega)) ?_
    rw[List.append_assoc];rfl
   ·rw[Bool.not_eq_true] at hin
    rw[hin,br_f,if_neg Bool.noConfusion]
    exact q1m hX N n hN K row hr cols hc m (i+1) acc (by omega) (by omega) (by omega)
  ·rw[qn (by exact_mod_cast h),qf3 h]
   simp[qj]
theorem q1o {X:Ext} (hX:XOk X) (N n:Nat) (hN:1≤N) (K:Row→Option ((Row×Unit)×Unit)) (row:Row) (hr:row.length≤M) (cols:List Int) (hc:cols.length≤M):∀ (m i:Nat) (acc:Row),i≤cols.length→cols.length - i<m→acc.length≤i→
  qki (DD X N) n K m row cols (i:Int) acc=K (acc++qj row (cols.drop i))
 | 0,_,_,_,h,_=>by omega
 | m+1,i,acc,hi,hf,ha=>by
  simp only[qki,qxs]
  have hM:=qbt
  have hb:=qcm
  by_cases h:i<cols.length
  ·rw[qm (by exact_mod_cast h),ix h,br_t,Int.toNat_natCast,qc8 (by omega) (by omega),q0m hX hN,qf,qp (by omega),qcx h,qbai,qbc h]
   dsimp only
   by_cases hin:inR cols[i] 0 ((row.length:Int) - 1)=true
   ·obtain ⟨p1,p2⟩:=qbbc hin
    rw[hin,br_t,br_t,ixn p1 p2,br_t,qm (by omega),if_pos rfl]
    refine Eq.trans (q1o hX N n hN K row hr cols hc m (i+1) _ (by omega) (by omega) (by simp;omega)) ?_
    rw[List.append_assoc];rfl
   ·rw[Bool.not_eq_true] at hin
    rw[hin,br_f,if_neg Bool.noConfusion]
    exact q1o hX N n hN K row hr cols hc m (i+1) acc (by omega) (by omega) (by omega)
  ·rw[qn (by exact_mod_cast h),qf3 h]
   simp[qj]
theorem qp5 {X:Ext} (hX:XOk X) {n:Nat} (hn:W+1≤n) (row:Row) (hr:row.length≤M) (cols:List Int) (hc:cols.length≤M):qlp (DD X n) row cols=some ((qj row cols,()),()):=by
 obtain ⟨n,rfl⟩:∃ k,n=k+1:=⟨n - 1,by omega⟩
 have hW:=qb2
 have hM:=qbt
 rw[qbj4 hX]
 simp only[qyz,qze,qvv]
 refine Eq.trans (q1m hX n n (by omega) _ row hr cols hc n 0 [] (by omega) (by omega) (by simp)) ?_
 rfl
theorem q1u {X:Ext} (hX:XOk X) {n:Nat} (hn:W+1≤n) (row:Row) (hr:row.length≤M) (cols:List Int) (hc:cols.length≤M):qos (DD X n) row cols=some ((qj row cols,()),()):=by
 obtain ⟨n,rfl⟩:∃ k,n=k+1:=⟨n - 1,by omega⟩
 have hW:=qb2
 have hM:=qbt
 rw[qbka hX]
 simp only[qys,qz6,qvb]
 refine Eq.trans (q1o hX n n (by omega) _ row hr cols hc n 0 [] (by omega) (by omega) (by simp)) ?_
 rfl
theorem qgh {X:Ext} (hX:XOk X) {n:Nat} (hn:W+2≤n) (s:q8) (row:Row) (hr:row.length≤M) (hc:s.2.1.length≤M):qc5 (DD X n) s row=some ((qj row s.2.1,()),()):=by
 obtain ⟨n,rfl⟩:∃ k,n=k+1:=⟨n - 1,by omega⟩
 rw[qbgc hX]
 simp only[qwo,q4x]
 rw[qp5 hX (by omega) row hr _ hc,qf]
theorem qhm {X:Ext} (hX:XOk X) {n:Nat} (hn:W+2≤n) (s:q8) (row:Row) (hr:row.length≤M) (hc:s.2.1.length≤M):qek (DD X n) s row=some ((qj row s.2.1,()),()):=by
 obtain ⟨n,rfl⟩:∃ k,n=k+1:=⟨n - 1,by omega⟩
 rw[qbgw hX]
 simp only[qwk,q5c]
 rw[q1u hX (by omega) row hr _ hc,qf]
def qmx (v:Value):Bool:=decide (v.2.2.1=ByteArray.mk #[])
def qc9 (v:Value):Bool:=
 bif decide (v.1=0) then decide (v.2.1=0)&&qmx v else
 bif decide (v.1=1) then inR v.2.1 0 1&&qmx v else
 bif decide (v.1=2) then inR v.2.1 (-1000000000000) 1000000000000&&qmx v else
 bif decide (v.1=3) then decide (v.2.1=0)&&decide ((v.2.2.1.size:Int)≤20) else false
theorem q83 {X:Ext} (hX:XOk X) {n:Nat} (hn:2≤n) (v:Value):qts (DD X n) v=some ((qc9 v,()),()):=by
 obtain ⟨n,rfl⟩:∃ k,n=k+1:=⟨n - 1,by omega⟩
 rw[qbi1 hX]
 simp only[qyl,q6i]
 rw[qux hX (by omega),qux hX (by omega)]
 simp only[qf,qjs,qng]
 unfold qc9 qmx
 cases decide (v.1=0)<;>cases decide (v.1=1)<;>cases decide (v.1=2)<;>cases decide (v.1=3)<;>rfl
theorem qbmc {X:Ext} (hX:XOk X) {n:Nat} (hn:2≤n) (v:Value):qym (DD X n) v=some ((qc9 v,()),()):=by
 obtain ⟨n,rfl⟩:∃ k,n=k+1:=⟨n - 1,by omega⟩
 rw[qbjo hX]
 simp only[qz4,q68]
 rw[q0m hX (by omega),q0m hX (by omega)]
 simp only[qf,qjs,qng]
 unfold qc9 qmx
 cases decide (v.1=0)<;>cases decide (v.1=1)<;>cases decide (v.1=2)<;>cases decide (v.1=3)<;>rfl
def q39 (cs:List Col) (row:Row) (i:Nat):Bool:=!qc9 (row.getD i vd)||(!decide ((row.getD i vd).1=(cs.getD i cd).2.1)&&!(decide ((row.getD i vd).1=0)&&(cs.getD i cd).2.2.1))
def qey (s:q8) (row:Row):Bool:=qfh s&&(decide (row.length=s.1.length)&&!qt (q39 s.1 row) 0 row.length)
theorem qbb9 (a b:Nat):((a:Int) != (b:Int))=!decide (a=b):=by
 by_cases h:a=b
 ·simp[h]
 ·have:¬ (a:Int)=(b:Int):=by omega
  rw[qtk,decide_eq_false this,decide_eq_false h]
theorem qz9 {X:Ext} (hX:XOk X) {n:Nat} (hn:W+6≤n) (s:q8) (hs:SchSm s) (row:Row) (hr:row.length≤M):qop (DD X n) s row=some ((qey s row,()),()):=by
 obtain ⟨n,rfl⟩:∃ k,n=k+1:=⟨n - 1,by omega⟩
 have hW:=qb2
 have hM:=qbt
 rw[qbne hX]
 simp only[q3z,q3x,qzu]
 rw[q7a hX (by omega) s hs,qf,qbb9]
 dsimp only
 unfold qey
 cases qfh s
 ·rfl
 ·by_cases hl:row.length=s.1.length
  ·rw[decide_eq_true hl]
   refine Eq.trans (qi0 (L:=fun m i=>qmi (DD X n) n _ _ m row row.length (i:Int) s) (N:=row.length) (P:=q39 s.1 row)
    (A:=some ((false,()),())) (B:=some ((true,()),())) (fun m i hi=>?_) (m:=n) (by omega)) ?_
   ·simp only[qmi,q1t]
    by_cases h:i<row.length
    ·rw[qm (by exact_mod_cast h),ix h,br_t,ix (i:=i) (hl ▸ h),br_t,Int.toNat_natCast,q83 hX (by omega),qf,qp (by omega),if_pos h,qtk,qjs,qjs,qbpe]
     rfl
    ·rw[qn (by exact_mod_cast h),if_neg h];rfl
   ·cases qt (q39 s.1 row) 0 row.length<;>rfl
  ·rw[decide_eq_false hl];rfl
theorem q6d {X:Ext} (hX:XOk X) {n:Nat} (hn:W+6≤n) (s:q8) (hs:SchSm s) (row:Row) (hr:row.length≤M):qs7 (DD X n) s row=some ((qey s row,()),()):=by
 obtain ⟨n,rfl⟩:∃ k,n=k+1:=⟨n - 1,by omega⟩
 have hW:=qb2
 have hM:=qbt
 rw[qboc hX]
 simp only[q3l,q3h,qy8]
 rw[q6r hX (by omega) s hs,qf,qbb9]
 dsimp only
 unfold qey
 cases qfh s
 ·rfl
 ·by_cases hl:row.length=s.1.length
  ·rw[decide_eq_true hl]
   refine Eq.trans (qi0 (L:=fun m i=>qma (DD X n) n _ _ m row (i:Int) s) (N:=row.length) (P:=q39 s.1 row)
    (A:=some ((false,()),())) (B:=some ((true,()),())) (fun m i hi=>?_) (m:=n) (by omega)) ?_
   ·simp only[qma,q1h]
    by_cases h:i<row.length
    ·rw[qm (by exact_mod_cast h),ix h,br_t,br_t,ix (i:=i) (hl ▸ h),br_t,br_t,br_t,Int.toNat_natCast,qbmc hX (by omega),qf,qp (by omega),if_pos h,qtk]
     dsimp only[q39]
     cases qc9 (row.getD i vd)
     ·rfl
     ·cases decide ((row.getD i vd).1=(s.1.getD i cd).2.1)
      ·cases (s.1.getD i cd).2.2.1
       ·cases decide ((row.getD i vd).1=0)<;>rfl
       ·cases decide ((row.getD i vd).1=0)<;>rfl
      ·rfl
    ·rw[qn (by exact_mod_cast h),if_neg h];rfl
   ·cases qt (q39 s.1 row) 0 row.length<;>rfl
  ·rw[decide_eq_false hl];rfl
theorem qbap (a b:Value):qld (Ty.pair (Ty.int IntKind.i64) (Ty.pair (Ty.int IntKind.i64) (Ty.pair Ty.str Ty.unit))) a b=decide (a=b):=by
 obtain ⟨a1,a2,a3,⟨⟩⟩:=a
 obtain ⟨b1,b2,b3,⟨⟩⟩:=b
 have e:∀ x y:ByteArray,(x.toList == y.toList)=decide (x=y):=fun x y=>qng
 have e2:∀ x y:Int,(x == y)=decide (x=y):=fun x y=>by by_cases h:x=y<;>simp[h]
 simp only[qld,e,e2]
 by_cases h1:a1=b1<;>by_cases h2:a2=b2<;>by_cases h3:a3=b3<;>simp[h1,h2,h3]
theorem qbpb (D:Den ctx) (x:Value):qbe ctx D (Clo.mk 208 []) [CapV.val (Ty.pair (Ty.int IntKind.i64) (Ty.pair (Ty.int IntKind.i64) (Ty.pair Ty.str Ty.unit))) x] Ty.bool=(q4j D x).bind fun r=>some r.1.1:=by kernel_rfl
def qqn (a:Row):Bool:=decide ((a.length:Int)≤4)&&!qt (fun i=>!qc9 (a.getD i vd)) 0 a.length
theorem qblq {X:Ext} (hX:XOk X) {n:Nat} (hn:W+4≤n) (a:Row) (ha:a.length≤M):qzm (DD X n) a=some ((qqn a,()),()):=by
 obtain ⟨n,rfl⟩:∃ k,n=k+1:=⟨n - 1,by omega⟩
 have hM:=qbt
 have hd:=qb0
 have hW:=qb2
 rw[qbiy hX]
 simp only[qyh,q67]
 unfold qqn
 by_cases h:(a.length:Int)≤4
 ·rw[qm h,decide_eq_true h,qbo9 hX (n:=n) (by omega) a (by omega) _ (fun i=>!qc9 (a.getD i vd)) (fun i hi=>by
   obtain ⟨n,rfl⟩:∃ k,n=k+3:=⟨n - 3,by omega⟩
   rw[qbpb,show n+3 - 2=n+1 from rfl,qbep hX]
   simp only[qu9,q3w]
   rw[q83 hX (by omega),qf];rfl),qf];rfl
 ·rw[qn h,decide_eq_false h];rfl
end Go.G

namespace Go.G
open Go Go.V
abbrev Cur:=List Int×Int×Int×Unit
def qej (c:Cur):Prop:=c.1.length≤1048576∧0≤c.2.1∧c.2.1≤c.1.length
theorem qbcf (x:BitVec (IntKind.bits IntKind.i64)):0≤IntKind.wrap IntKind.i64 ((BitVec.toNat (BitVec.and x (BitVec.ofInt (IntKind.bits IntKind.i64) 255)):Nat):Int)∧IntKind.wrap IntKind.i64 ((BitVec.toNat (BitVec.and x (BitVec.ofInt (IntKind.bits IntKind.i64) 255)):Nat):Int)≤255:=by
 have h:BitVec.toNat (BitVec.and x (BitVec.ofInt (IntKind.bits IntKind.i64) 255))≤255:=by
  show BitVec.toNat (x &&&BitVec.ofInt (IntKind.bits IntKind.i64) 255)≤255
  rw[BitVec.toNat_and]
  exact Nat.le_trans Nat.and_le_right (by decide)
 rw[qc8 (by omega) (by omega)]
 omega
theorem q4a {X:Ext} (hX:XOk X) {n:Nat} (hn:1≤n) {c:Cur} (hc:qej c):∃ (x:Int) (c':Cur),0≤x∧x≤255∧qej c'∧qkv (DD X n) c=some ((x,()),(c',())):=by
 obtain ⟨n,rfl⟩:∃ k,n=k+1:=⟨n - 1,by omega⟩
 obtain ⟨h1,h2,h3⟩:=hc
 rw[qbl1 hX]
 simp only[q1j,q84]
 by_cases h:c.2.1<(c.1.length:Int)
 ·rw[qm h,ixn h2 h,br_t,qc8 (x:=c.2.1+1) (by omega) (by omega)]
  refine ⟨_,(c.1,c.2.1+1,_,()),(qbcf _).1,(qbcf _).2,⟨h1,?_,?_⟩,rfl⟩
  ·show 0≤c.2.1+1;omega
  ·show c.2.1+1≤(c.1.length:Int);omega
 ·rw[qn h]
  have k:∀ h u,qej (c.1,c.2.1,h,u):=fun _ _=>⟨h1,h2,h3⟩
  exact ⟨_,_,(qbcf _).1,(qbcf _).2,k _ _,rfl⟩
theorem qka {X:Ext} (hX:XOk X) {n:Nat} (hn:2≤n) {c:Cur} (hc:qej c) (k:Int):∃ (x:Int) (c':Cur),(0<k→0≤x∧x<k)∧(k≤0→x=0)∧qej c'∧qdf (DD X n) c k=some ((x,()),(c',())):=by
 obtain ⟨n,rfl⟩:∃ k,n=k+1:=⟨n - 1,by omega⟩
 rw[qbjy hX]
 simp only[qzp,q6n]
 by_cases h:k≤0
 ·rw[qm h]
  exact ⟨0,c,fun h2=>by omega,fun _=>rfl,hc,rfl⟩
 ·rw[qn h]
  by_cases h2:k≤256
  ·obtain ⟨x,c',x0,x1,hc',e⟩:=q4a hX (n:=n) (by omega) hc
   rw[qm h2,e,qf]
   dsimp only
   rw[qn (by omega)]
   refine ⟨_,_,fun _=>?_,fun h3=>by omega,hc',rfl⟩
   rw[Int.tmod_eq_emod_of_nonneg x0]
   exact ⟨Int.emod_nonneg _ (by omega),Int.emod_lt_of_pos _ (by omega)⟩
  ·obtain ⟨x,c1,x0,x1,hc1,e1⟩:=q4a hX (n:=n) (by omega) hc
   obtain ⟨y,c2,y0,y1,hc2,e2⟩:=q4a hX (n:=n) (by omega) hc1
   obtain ⟨z,c3,z0,z1,hc3,e3⟩:=q4a hX (n:=n) (by omega) hc2
   obtain ⟨w,c4,w0,w1,hc4,e4⟩:=q4a hX (n:=n) (by omega) hc3
   rw[qn h2,e1,qf]
   dsimp only
   rw[e2,qf]
   dsimp only
   rw[e3,qf]
   dsimp only
   rw[e4,qf]
   dsimp only
   rw[qn (by omega),qc8 (x:=x * 16777216) (by omega) (by omega),qc8 (x:=y * 65536) (by omega) (by omega),qc8 (x:=x * 16777216+y * 65536) (by omega) (by omega),
    qc8 (x:=z * 256) (by omega) (by omega),qc8 (x:=x * 16777216+y * 65536+z * 256) (by omega) (by omega),qc8 (x:=x * 16777216+y * 65536+z * 256+w) (by omega) (by omega)]
   refine ⟨_,_,fun _=>?_,fun h3=>by omega,hc4,rfl⟩
   rw[Int.tmod_eq_emod_of_nonneg (by omega)]
   exact ⟨Int.emod_nonneg _ (by omega),Int.emod_lt_of_pos _ (by omega)⟩
theorem q3e {X:Ext} (hX:XOk X) {n:Nat} (hn:3≤n) {c:Cur} (hc:qej c) (k:Int):∃ (b:Bool) (c':Cur),qej c'∧qky (DD X n) c k=some ((b,()),(c',())):=by
 obtain ⟨n,rfl⟩:∃ k,n=k+1:=⟨n - 1,by omega⟩
 rw[qblw hX]
 simp only[q1w,q81]
 obtain ⟨x,c',_,_,hc',e⟩:=qka hX (n:=n) (by omega) hc k
 rw[e,qf]
 exact ⟨_,_,hc',rfl⟩
theorem qbta {X:Ext} (hX:XOk X) {n:Nat} (hn:3≤n) {c:Cur} (hc:qej c) (l:List ByteArray) (hl:0<l.length):∃ (x:ByteArray) (c':Cur),x∈l∧qej c'∧q1f (DD X n) c l=some ((x,()),(c',())):=by
 obtain ⟨n,rfl⟩:∃ k,n=k+1:=⟨n - 1,by omega⟩
 rw[qbl2 hX]
 simp only[q1i,q87]
 obtain ⟨x,c',h1,_,hc',e⟩:=qka hX (n:=n) (by omega) hc (l.length:Int)
 obtain ⟨x0,x1⟩:=h1 (by omega)
 rw[e,qf]
 dsimp only
 rw[ixn x0 x1,br_t,qbc (by omega)]
 exact ⟨_,_,List.getElem_mem _,hc',rfl⟩
theorem qbpy (D:Den ctx) (n:Nat) {K0:List Int→Int→Option ((Cur×Unit)×Unit)} (a:List Int) (ha:a.length≤1048576):∀ (m i:Nat) (h:Int),i≤a.length→a.length - i<m→∃ h':Int,qmo D n K0 m a h i=K0 a h'
 | 0,_,_,_,h=>by omega
 | m+1,i,h,hi,hf=>by
  simp only[qmo,q08]
  by_cases h1:i<a.length
  ·by_cases h2:(i:Int)<4000
   ·rw[decide_eq_true (by omega:(i:Int)<(a.length:Int)),cond_true,qm h2,decide_eq_true (by omega:(0:Int)≤(i:Int)),Bool.and_self,br_t,qp (by omega)]
    exact qbpy D n a ha m (i+1) _ (by omega) (by omega)
   ·rw[decide_eq_true (by omega:(i:Int)<(a.length:Int)),cond_true,qn h2]
    exact ⟨h,rfl⟩
  ·rw[decide_eq_false (by omega:¬ (i:Int)<(a.length:Int)),cond_false,br_f]
   exact ⟨h,rfl⟩
theorem qbuv {X:Ext} (hX:XOk X) {n:Nat} (hn:W+1≤n) (a:List Int) (ha:a.length≤1048576):∃ c:Cur,qej c∧q3r (DD X n) a=some ((c,()),()):=by
 obtain ⟨n,rfl⟩:∃ k,n=k+1:=⟨n - 1,by omega⟩
 have hW:=qb2
 rw[qbnl hX]
 simp only[q3m,q4d,qzj]
 obtain ⟨h',e⟩:=qbpy (DD X n) n (K0:=fun v w=>qxq (DD X n) n v w) a ha n 0 (IntKind.wrap IntKind.i64 (27323+(a.length:Int))) (by omega) (by omega)
 rw[show ((0:Nat):Int)=0 from rfl] at e
 exact ⟨(a,0,h',()),⟨ha,by show (0:Int)≤0;omega,by show (0:Int)≤(a.length:Int);omega⟩,e⟩
theorem qbwq {X:Ext} (hX:XOk X) {n:Nat} (hn:1≤n) (a:List Int):q8o (DD X n) a=some ((decide ((a.length:Int)>1048576),()),()):=by
 obtain ⟨n,rfl⟩:∃ k,n=k+1:=⟨n - 1,by omega⟩
 rw[qbqt hX];rfl
end Go.G

namespace Go.G
set_option maxRecDepth 100000
open Go Go.V Go.Proofs
theorem qben {X:Ext} (hX:XOk X) {n:Nat} (hn:3≤n) {c:Cur} (hc:qej c) (l:List Int) (hl:0<l.length):∃ (x:Int) (c':Cur),x∈l∧qej c'∧qpz (DD X n) c l=some ((x,()),(c',())):=by
 obtain ⟨n,rfl⟩:∃ k,n=k+1:=⟨n - 1,by omega⟩
 rw[qbfb hX]
 simp only[qvw,q3f]
 obtain ⟨x,c',h1,h2,h3,e⟩:=qka hX (n:=n) (by omega) hc l.length
 obtain ⟨h4,h5⟩:=h1 (by omega)
 rw[e,qf]
 dsimp only
 rw[ixn h4 h5,br_t]
 exact ⟨_,c',qbp (by omega),h3,rfl⟩
theorem qbef {X:Ext} (hX:XOk X) {n:Nat} (hn:4≤n) {c:Cur} (hc:qej c) (k:Int):∃ (v:Value) (c':Cur),v.2.2.1.size≤3∧qej c'∧qpt (DD X n) c k=some ((v,()),(c',())):=by
 obtain ⟨n,rfl⟩:∃ k,n=k+1:=⟨n - 1,by omega⟩
 rw[qbff hX]
 simp only[qve,q4t]
 by_cases h1:k=1
 ·rw[qm h1]
  obtain ⟨x,c',_,_,h3,e⟩:=qka hX (n:=n) (by omega) hc 2
  rw[e,qf]
  exact ⟨_,c',Nat.zero_le _,h3,rfl⟩
 ·rw[qn h1]
  by_cases h2:k=2
  ·rw[qm h2]
   obtain ⟨x,c',_,h3,e⟩:=qben hX (n:=n) (by omega) hc [0,1,-1,7,255,256,-1000000000000,1000000000000] (by decide)
   rw[e,qf]
   exact ⟨_,c',Nat.zero_le _,h3,rfl⟩
  ·rw[qn h2]
   by_cases h4:k=3
   ·rw[qm h4]
    obtain ⟨x,c',hx,h3,e⟩:=qbta hX (n:=n) (by omega) hc [ByteArray.mk #[],ByteArray.mk #[UInt8.ofNat 97],ByteArray.mk #[UInt8.ofNat 97,UInt8.ofNat 98],ByteArray.mk #[UInt8.ofNat 97,UInt8.ofNat 0],ByteArray.mk #[UInt8.ofNat 97,UInt8.ofNat 0,UInt8.ofNat 98],ByteArray.mk #[UInt8.ofNat 0],ByteArray.mk #[UInt8.ofNat 1],ByteArray.mk #[UInt8.ofNat 255],ByteArray.mk #[UInt8.ofNat 98]] (by decide)
    have hs:∀ y∈[ByteArray.mk #[],ByteArray.mk #[UInt8.ofNat 97],ByteArray.mk #[UInt8.ofNat 97,UInt8.ofNat 98],ByteArray.mk #[UInt8.ofNat 97,UInt8.ofNat 0],ByteArray.mk #[UInt8.ofNat 97,UInt8.ofNat 0,UInt8.ofNat 98],ByteArray.mk #[UInt8.ofNat 0],ByteArray.mk #[UInt8.ofNat 1],ByteArray.mk #[UInt8.ofNat 255],ByteArray.mk #[UInt8.ofNat 98]],y.size≤3:=by decide +kernel
    refine ⟨(k,0,x,()),c',hs x hx,h3,?_⟩
    refine Eq.trans (congrArg (fun z=>qg z _) e) ?_
    rw[qf]
   ·rw[qn h4]
    exact ⟨_,c,Nat.zero_le _,hc,rfl⟩
structure DrawnS (s:q8):Prop where
 lo:2≤s.1.length
 hi:s.1.length≤4
 names:∀ c∈s.1,c.1.size≤13
 key:s.2.1.length≤2
 ixs:s.2.2.1.length≤3
 ixn:∀ x∈s.2.2.1,x.1.size≤1
 ixc:∀ x∈s.2.2.1,x.2.1.length≤2
theorem DrawnS.sm {s:q8} (h:DrawnS s):SchSm s:=by
 have hM:=qbt
 obtain ⟨a,b,c,d,e,f,g⟩:=h
 exact ⟨by omega,fun x hx=>by have:=c x hx;omega,by omega,by omega,fun x hx=>by have:=f x hx;omega,fun x hx=>by have:=g x hx;omega⟩
def qj8:List ByteArray:=[ByteArray.mk #[UInt8.ofNat 105,UInt8.ofNat 100],ByteArray.mk #[UInt8.ofNat 110,UInt8.ofNat 97,UInt8.ofNat 109,UInt8.ofNat 101],
    ByteArray.mk #[UInt8.ofNat 115,UInt8.ofNat 105,UInt8.ofNat 122,UInt8.ofNat 101],ByteArray.mk #[UInt8.ofNat 111,UInt8.ofNat 110]]
theorem qbip:∀ x∈qj8,x.size≤4:=by decide +kernel
theorem qblk:qj8.length=4:=rfl
theorem qbkp {α:Type} (l:List α) (x d:α) (j:Nat) (hj:j<(l++[x]).length):(l++[x]).getD j d=if j<l.length then l.getD j d else x:=by
 simp only[List.getD]
 by_cases h:j<l.length
 ·rw[if_pos h,List.getElem?_append_left h]
 ·rw[List.length_append] at hj
  simp only[List.length_cons,List.length_nil] at hj
  have:j=l.length:=by omega
  subst this
  rw[if_neg h,List.getElem?_append_right (Nat.le_refl _),Nat.sub_self];rfl
def q2z (cs:List Col):Prop:=∀ j,j<cs.length→(cs.getD j cd).1=qj8.getD j ByteArray.empty∧inR (cs.getD j cd).2.1 1 3=true∧(j=0→(cs.getD j cd).2.2.1=false)
theorem q2z.push {cs:List Col} (h:q2z cs) {x:Col} (h1:x.1=qj8.getD cs.length ByteArray.empty) (h2:inR x.2.1 1 3=true) (h3:cs.length=0→x.2.2.1=false):q2z (cs++[x]):=by
 intro j hj
 rw[qbkp _ _ _ _ hj]
 by_cases hl:j<cs.length
 ·rw[if_pos hl];exact h j hl
 ·rw[if_neg hl]
  rw[List.length_append] at hj
  simp only[List.length_cons,List.length_nil] at hj
  have:j=cs.length:=by omega
  subst this
  exact ⟨h1,h2,h3⟩
theorem q2z.set0 {cs:List Col} (h:q2z cs) (h0:0<cs.length) {k:Int} (hk:inR k 1 3=true):q2z (cs.set 0 ((cs.getD 0 cd).1,k,(cs.getD 0 cd).2.2)):=by
 intro j hj
 rw[List.length_set] at hj
 have hg:(cs.set 0 ((cs.getD 0 cd).1,k,(cs.getD 0 cd).2.2)).getD j cd=if j=0 then ((cs.getD 0 cd).1,k,(cs.getD 0 cd).2.2) else cs.getD j cd:=by
  by_cases e:j=0
  ·subst e
   rw[if_pos rfl,qbc (by rw[List.length_set];exact hj),List.getElem_set_self]
  ·rw[if_neg e]
   simp only[List.getD,List.getElem?_set]
   rw[if_neg (fun k=>e k.symm)]
 rw[hg]
 obtain ⟨a,b,c⟩:=h j hj
 by_cases e:j=0
 ·subst e
  rw[if_pos rfl];exact ⟨a,hk,c⟩
 ·rw[if_neg e];exact ⟨a,b,c⟩
theorem qbms {x:Int} (h0:0≤x) (h:x<3):inR (IntKind.wrap IntKind.i64 (1+x)) 1 3=true:=by
 rw[qc8 (by omega) (by omega)]
 unfold inR
 rw[decide_eq_true (by omega),decide_eq_true (by omega)];rfl
theorem qbn2:∀ j,j<4→qqi (qj8.getD j ByteArray.empty)=true:=by decide +kernel
theorem qblo:∀ j,j<4→∀ k,k<4→qj8.getD j ByteArray.empty=qj8.getD k ByteArray.empty→j=k:=by decide +kernel
theorem q4o {X:Ext} (hX:XOk X) (N n:Nat) (hN:3≤N) (K:Int→Cur→q8→q8→Option ((q8×Unit)×Cur×Unit)) (nn:Nat) (hnn:nn≤4) (z:q8) (xs:List qj6):∀ (m i:Nat) (c:Cur) (acc:List Col),i≤nn→nn - i<m→acc.length=i→(∀ x∈acc,x.1.size≤4)→q2z acc→qej c→
  ∃ (c':Cur) (cs:List Col),qej c'∧cs.length=nn∧(∀ x∈cs,x.1.size≤4)∧q2z cs∧qgm (DD X N) n K m (nn:Int) (i:Int) c z (acc,[],xs,()) qj8=K (nn:Int) c' z (cs,[],xs,())
 | 0,_,_,_,_,h,_,_,_,_=>by omega
 | m+1,i,c,acc,hi,hf,ha,hs,hR,hc=>by
  simp only[qgm,qpw]
  have hb:=qcm
  by_cases h:i<nn
  ·have hi4:i<qj8.length:=by rw[qblk];omega
   have hname:=qbip _ (qbp (d:=ByteArray.empty) hi4)
   rw[qm (by exact_mod_cast h),ix hi4,br_t,Int.toNat_natCast,qp (by omega)]
   obtain ⟨x,c1,hx,_,h1,e1⟩:=qka hX (n:=N) (by omega) hc 3
   obtain ⟨x0,x3⟩:=hx (by omega)
   rw[e1,qf]
   dsimp only
   by_cases h0:(i:Int)>0
   ·rw[qm h0]
    obtain ⟨b,c2,h2,e2⟩:=q3e hX (n:=N) (by omega) h1 2
    rw[e2,qf]
    dsimp only
    rw[qm (by omega)]
    exact q4o hX N n hN K nn hnn z xs m (i+1) c2 (acc++[(qj8.getD i ByteArray.empty,_,b,())]) (by omega) (by omega) (by simp;omega)
     (fun y hy=>by rcases List.mem_append.1 hy with hy | hy;exact hs y hy;simp only[List.mem_singleton] at hy;subst hy;exact hname) (hR.push (by rw[ha]) (qbms x0 x3) (fun e=>by omega)) h2
   ·rw[qn h0,qm (by omega)]
    exact q4o hX N n hN K nn hnn z xs m (i+1) c1 (acc++[(qj8.getD i ByteArray.empty,_,false,())]) (by omega) (by omega) (by simp;omega)
     (fun y hy=>by rcases List.mem_append.1 hy with hy | hy;exact hs y hy;simp only[List.mem_singleton] at hy;subst hy;exact hname) (hR.push (by rw[ha]) (qbms x0 x3) (fun _=>rfl)) h1
  ·rw[qn (by exact_mod_cast h)]
   exact ⟨c,acc,hc,by omega,hs,hR,rfl⟩
def qk5:List ByteArray:=[ByteArray.mk #[UInt8.ofNat 120],ByteArray.mk #[UInt8.ofNat 121],ByteArray.mk #[UInt8.ofNat 122]]
theorem qbg6:∀ x∈qk5,x.size≤1:=by decide +kernel
def IxsR (nn:Nat) (xs:List qj6):Prop:=∀ j,j<xs.length→(xs.getD j xd).1=qk5.getD j ByteArray.empty∧qcs nn (xs.getD j xd).2.1 3=true
theorem IxsR.push {nn:Nat} {xs:List qj6} (h:IxsR nn xs) {x:qj6} (h1:x.1=qk5.getD xs.length ByteArray.empty) (h2:qcs nn x.2.1 3=true):IxsR nn (xs++[x]):=by
 intro j hj
 rw[qbkp _ _ _ _ hj]
 by_cases hl:j<xs.length
 ·rw[if_pos hl];exact h j hl
 ·rw[if_neg hl]
  rw[List.length_append] at hj
  simp only[List.length_cons,List.length_nil] at hj
  have:j=xs.length:=by omega
  subst this
  exact ⟨h1,h2⟩
theorem qbr8 {nn:Nat} {a:Int} (h0:0≤a) (h:a<nn):qcs nn [a] 3=true:=by
 have e:inR a 0 ((nn:Int) - 1)=true:=by unfold inR;rw[decide_eq_true (by omega),decide_eq_true (by omega)];rfl
 simp only[qcs,qt,has,List.length_cons,List.length_nil,List.getD_cons_zero,e,List.take]
 rfl
theorem qbkx {nn:Nat} {a b:Int} (h0:0≤a) (h:a<nn) (h1:0≤b) (h2:b<nn) (h3:b≠a):qcs nn [a,b] 3=true:=by
 have e:inR a 0 ((nn:Int) - 1)=true:=by unfold inR;rw[decide_eq_true (by omega),decide_eq_true (by omega)];rfl
 have e2:inR b 0 ((nn:Int) - 1)=true:=by unfold inR;rw[decide_eq_true (by omega),decide_eq_true (by omega)];rfl
 simp only[qcs,qt,has,List.length_cons,List.length_nil,List.getD_cons_zero,List.getD_cons_succ,e,e2,List.take,Bool.not_true,Bool.false_or,Bool.or_false]
 rw[decide_eq_false h3]
 rfl
theorem qbs7 {nn:Nat} {y:Int} (hn:nn≤4) (h0:0≤y) (h:y<(nn:Int) - 1):qcs nn [IntKind.wrap IntKind.i64 (1+y)] 3=true:=by
 rw[qc8 (by omega) (by omega)]
 exact qbr8 (by omega) (by omega)
theorem qbs3 {nn:Nat} {y:Int} (hn:nn≤4) (h0:0≤y) (h:y<(nn:Int) - 1):qcs nn [IntKind.wrap IntKind.i64 (1+y),Int.tmod (IntKind.wrap IntKind.i64 (IntKind.wrap IntKind.i64 (1+y)+1)) (nn:Int)] 3=true:=by
 rw[qc8 (show -9223372036854775808≤1+y by omega) (by omega),qc8 (by omega) (by omega)]
 by_cases e:1+y+1=nn
 ·rw[e,Int.tmod_self]
  exact qbkx (by omega) (by omega) (by omega) (by omega) (by omega)
 ·rw[Int.tmod_eq_of_lt (by omega) (by omega)]
  exact qbkx (by omega) (by omega) (by omega) (by omega) (by omega)
theorem qblx:∀ j,j<3→qqi (qk5.getD j ByteArray.empty)=true:=by decide +kernel
theorem qbjz:∀ j,j<3→∀ k,k<3→qk5.getD j ByteArray.empty=qk5.getD k ByteArray.empty→j=k:=by decide +kernel
theorem qbp7 {cs:List Col} {xs:List qj6} (hc:q2z cs) (h2:2≤cs.length) (h4:cs.length≤4) (hx:IxsR cs.length xs) (hl:xs.length≤2):qfh (cs,[0],xs,())=true:=by
 have a1:qt (qxn cs) 0 cs.length=false:=qbn.2 fun j _ hj=>by
  have hj:j<cs.length:=by omega
  obtain ⟨n1,n2,n3⟩:=hc j hj
  have hcol:qbb7 cs (cs.getD j cd).1=(j:Int):=by
   unfold qbb7
   cases hf:qw (fun i=>decide ((cs.getD i cd).1=(cs.getD j cd).1)) 0 cs.length with
   | none=>
    have:=qjl hf j (Nat.zero_le _) (by omega)
    rw[decide_eq_true rfl] at this;cases this
   | some k=>
    obtain ⟨_,k2,k3,_⟩:=qdg hf
    have hk:k<cs.length:=by omega
    simp only[decide_eq_true_eq] at k3
    rw[(hc k hk).1,n1] at k3
    have:=qblo k (by omega) j (by omega) k3
    rw[this]
  simp only[qxn]
  rw[n1,qbn2 j (by omega),n2,←n1,hcol,decide_eq_true rfl];rfl
 have a2:qt (qr7 cs.length xs) 0 xs.length=false:=qbn.2 fun j _ hj=>by
  have hj:j<xs.length:=by omega
  obtain ⟨n1,n2⟩:=hx j hj
  have a3:qt (fun k=>decide ((xs.getD k xd).1=(xs.getD j xd).1)) 0 j=false:=qbn.2 fun k _ hk=>by
   have hk:k<j:=by omega
   refine decide_eq_false fun e=>?_
   rw[(hx k (by omega)).1,n1] at e
   have:=qbjz k (by omega) j (by omega) e
   omega
  simp only[qr7]
  rw[a3,n1,qblx j (by omega),n2];rfl
 have a3:qcs cs.length [0] 4=true:=by
  have e:inR 0 0 ((cs.length:Int) - 1)=true:=by unfold inR;rw[decide_eq_true (by omega),decide_eq_true (by omega)];rfl
  simp only[qcs,qt,has,List.length_cons,List.length_nil,List.getD_cons_zero,e,List.take]
  rfl
 have a4:qzg cs [0]=false:=by
  have:=(hc 0 (by omega)).2.2 rfl
  show ((cs.getD 0 cd).2.2.1||false)=false
  rw[this];rfl
 have a5:inR (cs.length:Int) 1 5=true:=by unfold inR;rw[decide_eq_true (by omega),decide_eq_true (by omega)];rfl
 unfold qfh
 dsimp only
 rw[a1,a2,a3,a4,a5,decide_eq_true (by omega)];rfl
theorem q4w {X:Ext} (hX:XOk X) (N n:Nat) (hN:3≤N) (K:Cur→q8→q8→Option ((q8×Unit)×Cur×Unit)) (nn:Nat) (hn0:2≤nn) (hnn:nn≤4) (z:q8) (cs:List Col) (key:List Int):∀ (m i:Nat) (c:Cur) (acc:List qj6),3 - i<m→i≤2→acc.length=i→(∀ x∈acc,x.1.size≤1∧x.2.1.length≤2)→IxsR nn acc→qej c→
  ∃ (c':Cur) (xs:List qj6),qej c'∧xs.length≤2∧(∀ x∈xs,x.1.size≤1∧x.2.1.length≤2)∧IxsR nn xs∧qgk (DD X N) n K m (nn:Int) (i:Int) c z (cs,key,acc,())=K c' z (cs,key,xs,())
 | 0,_,_,_,h,_,_,_,_,_=>by omega
 | m+1,i,c,acc,hf,hi,ha,hs,hR,hc=>by
  simp only[qgk,qp1]
  have hb:=qcm
  obtain ⟨x,c1,hx,_,h1,e1⟩:=qka hX (n:=N) (by omega) hc 3
  obtain ⟨x1,x2⟩:=hx (by omega)
  rw[e1,qf]
  dsimp only
  by_cases h:(i:Int)<x
  ·have hi3:i<qk5.length:=by show i<3;omega
   have hname:=qbg6 _ (qbp (d:=ByteArray.empty) hi3)
   have hc3:(decide ((0:Int)≤(i:Int))&&decide ((i:Int)<3))=true:=by rw[decide_eq_true (by omega),decide_eq_true (by omega)];rfl
   rw[qm h]
   obtain ⟨y,c2,hy,_,h2,e2⟩:=qka hX (n:=N) (by omega) h1 (IntKind.wrap IntKind.i64 ((nn:Int) - 1))
   rw[qc8 (by omega) (by omega)] at hy
   obtain ⟨y0,y1⟩:=hy (by omega)
   obtain ⟨b,c3,h3,e3⟩:=q3e hX (n:=N) (by omega) h2 2
   obtain ⟨b2,c4,h4,e4⟩:=q3e hX (n:=N) (by omega) h3 2
   rw[e2,qf]
   dsimp only
   rw[hc3,br_t,e3,qf]
   dsimp only
   rw[e4,qf,qp (by omega),Int.toNat_natCast]
   dsimp only
   cases b2
   ·rw[br_f,qm (by omega)]
    exact q4w hX N n hN K nn hn0 hnn z cs key m (i+1) c4 (acc++[(qk5.getD i ByteArray.empty,_,b,())]) (by omega) (by omega) (by simp;omega)
     (fun y hy=>by rcases List.mem_append.1 hy with hy | hy;exact hs y hy;simp only[List.mem_singleton] at hy;subst hy;exact ⟨hname,by simp⟩) (hR.push (by rw[ha]) (qbs7 hnn y0 y1)) h4
   ·rw[br_t,qn (by omega),qm (by omega)]
    exact q4w hX N n hN K nn hn0 hnn z cs key m (i+1) c4 (acc++[(qk5.getD i ByteArray.empty,_,b,())]) (by omega) (by omega) (by simp;omega)
     (fun y hy=>by rcases List.mem_append.1 hy with hy | hy;exact hs y hy;simp only[List.mem_singleton] at hy;subst hy;exact ⟨hname,by simp⟩) (hR.push (by rw[ha]) (qbs3 hnn y0 y1)) h4
  ·rw[qn h]
   exact ⟨c1,acc,h1,by omega,hs,hR,rfl⟩
theorem qbs0 {l:List Col} {i k:Nat} {x:Col} (h:∀ y∈l,y.1.size≤k) (hx:x.1.size≤k):∀ y∈l.set i x,y.1.size≤k:=by
 intro y hy
 rcases List.mem_or_eq_of_mem_set hy with hy | rfl
 ·exact h y hy
 ·exact hx
theorem qbi2 {X:Ext} (hX:XOk X) {n:Nat} (hn:W+4≤n) {c:Cur} (hc:qej c):∃ (s:q8) (c':Cur),DrawnS s∧qfh s=true∧s.2.1.length≤1∧s.2.2.1.length≤2∧qej c'∧qri (DD X n) c=some ((s,()),(c',())):=by
 obtain ⟨n,rfl⟩:∃ k,n=k+1:=⟨n - 1,by omega⟩
 have hW:=qb2
 rw[qbac hX]
 simp only[qre,qrc,qox]
 obtain ⟨x,c1,hx,_,h1,e1⟩:=qka hX (n:=n) (by omega) hc 3
 obtain ⟨x1,x2⟩:=hx (by omega)
 rw[e1,qf]
 dsimp only
 rw[qc8 (by omega) (by omega)]
 obtain ⟨nn,hnn⟩:∃ nn:Nat,(nn:Int)=2+x:=⟨(2+x).toNat,by omega⟩
 rw[←hnn]
 obtain ⟨c2,cs,h2,hl,hs,hR,e2⟩:=q4o hX n n (by omega) (fun v0_0 v0_1 v0_2 v0_3=>qj0 (DD X n) n (qkl (DD X n) n) v0_0 v0_1 v0_2 v0_3) nn (by omega) ([],[],[],()) [] n 0 c1 [] (by omega) (by omega) rfl (fun x hx=>by simp at hx) (fun j hj=>by simp at hj) h1
 obtain ⟨c3,xs,h3,hxl,hxs,hI,e3⟩:=q4w hX n n (by omega) (fun v0_0 v0_1 v0_2=>qj4 (DD X n) n v0_0 v0_1 v0_2) nn (by omega) (by omega) ([],[],[],()) cs [0] n 0 c2 [] (by omega) (by omega) rfl (fun x hx=>by simp at hx) (fun j hj=>by simp at hj) h2
 obtain ⟨y,c4,hy,h4,e4⟩:=qben hX (n:=n) (by omega) h3 [2,3] (by decide)
 have hc0:(decide ((0:Nat)≤0)&&decide ((0:Int)<(cs.length:Int)))=true:=by rw[decide_eq_true (by omega),decide_eq_true (by omega)];rfl
 refine ⟨(cs.set 0 ((cs.getD 0 cd).1,y,(cs.getD 0 cd).2.2),[0],xs,()),c4,⟨by simp;omega,by simp;omega,?_,by simp,by simp only;omega,fun x hx=>(hxs x hx).1,fun x hx=>(hxs x hx).2⟩,?_,by simp,by simpa using hxl,h4,?_⟩
 ·have h0:=hs _ (qbp (d:=cd) (show 0<cs.length by omega))
  intro z hz
  have:=qbs0 (i:=0) (x:=((cs.getD 0 cd).1,y,(cs.getD 0 cd).2.2)) hs h0 z hz
  omega
 ·have hk:inR y 1 3=true:=by
   simp only[List.mem_cons,List.not_mem_nil,or_false] at hy
   rcases hy with rfl | rfl<;>rfl
  have hR2:=hR.set0 (by omega) hk
  exact qbp7 hR2 (by rw[List.length_set];omega) (by rw[List.length_set];omega) (by rw[List.length_set,hl];exact hI) hxl
 ·refine Eq.trans e2 ?_
  simp only[qj0,qkl]
  refine Eq.trans e3 ?_
  simp only[qj4]
  rw[e4,qf]
  dsimp only
  rw[hc0,br_t]
theorem qbk8 {X:Ext} (hX:XOk X) (N n:Nat) (hN:4≤N) (K:Cur→Row→Option ((Row×Unit)×Cur×Unit)) (s:q8) (hs:s.1.length≤4):∀ (m i:Nat) (c:Cur) (acc:Row),i≤s.1.length→s.1.length - i<m→acc.length=i→(∀ v∈acc,v.2.2.1.size≤3)→qej c→
  ∃ (c':Cur) (row:Row),qej c'∧row.length=s.1.length∧(∀ v∈row,v.2.2.1.size≤3)∧qfz (DD X N) n K m (i:Int) c s acc=K c' row
 | 0,_,_,_,_,h,_,_,_=>by omega
 | m+1,i,c,acc,hi,hf,ha,hv,hc=>by
  simp only[qfz,qs3]
  have hb:=qcm
  have step:∀ (c':Cur) (v:Value),qej c'→v.2.2.1.size≤3→i<s.1.length→∃ (c2:Cur) (row:Row),qej c2∧row.length=s.1.length∧(∀ v∈row,v.2.2.1.size≤3)∧qfz (DD X N) n K m ((i+1:Nat):Int) c' s (acc++[v])=K c2 row:=
   fun c' v hc' hv' h=>qbk8 hX N n hN K s hs m (i+1) c' (acc++[v]) (by omega) (by omega) (by simp;omega) (fun y hy=>by rcases List.mem_append.1 hy with hy | hy;exact hv y hy;simp only[List.mem_singleton] at hy;subst hy;exact hv') hc'
  by_cases h:i<s.1.length
  ·rw[qm (by exact_mod_cast h),ix h,br_t,Int.toNat_natCast,qp (by omega)]
   cases (s.1.getD i cd).2.2.1
   ·rw[br_f,br_t]
    obtain ⟨v,c2,hv2,h2,e2⟩:=qbef hX (n:=N) (by omega) hc (s.1.getD i cd).2.1
    rw[e2,qf,qm (show acc.length+1≤qbh by omega)]
    exact step c2 v h2 hv2 h
   ·rw[br_t]
    obtain ⟨b,c1,h1,e1⟩:=q3e hX (n:=N) (by omega) hc 3
    rw[e1,qf]
    dsimp only
    cases b
    ·rw[br_f,br_t]
     obtain ⟨v,c2,hv2,h2,e2⟩:=qbef hX (n:=N) (by omega) h1 (s.1.getD i cd).2.1
     rw[e2,qf,qm (show acc.length+1≤qbh by omega)]
     exact step c2 v h2 hv2 h
    ·rw[br_t,qm (show acc.length+1≤qbh by omega)]
     exact step c1 vd h1 (Nat.zero_le _) h
  ·rw[qn (by exact_mod_cast h)]
   exact ⟨c,acc,hc,by omega,hv,rfl⟩
theorem qbbu {X:Ext} (hX:XOk X) {n:Nat} (hn:W+1≤n) {c:Cur} (hc:qej c) (s:q8) (hs:s.1.length≤4):∃ (row:Row) (c':Cur),qej c'∧row.length=s.1.length∧(∀ v∈row,v.2.2.1.size≤3)∧qn8 (DD X n) c s=some ((row,()),(c',())):=by
 obtain ⟨n,rfl⟩:∃ k,n=k+1:=⟨n - 1,by omega⟩
 have hW:=qb2
 rw[qbcy hX]
 simp only[qt7,qud,qra]
 obtain ⟨c',row,h1,h2,h3,e⟩:=qbk8 hX n n (by omega) (fun v0_0 v0_1=>qpv (DD X n) n v0_0 v0_1) s hs n 0 c [] (by omega) (by omega) rfl (fun v hv=>by simp at hv) hc
 exact ⟨row,c',h1,h2,h3,e⟩
end Go.G

namespace Go.G
set_option maxRecDepth 100000
open Go Go.V Go.Proofs
structure XC (X:Ext):Prop where
 ok:XOk X
 cmp:∀ n a b,q19 (DD X (n+1)) a b=some ((scmp a b,()),())
theorem q8h:∀ (a b:List UInt8),(Lib.compareBytes a b<0↔Op.bytesLess a b=true)∧(Lib.compareBytes a b=0↔a=b)
 | [],[]=>by simp[Lib.compareBytes,Op.bytesLess]
 | [],_::_=>by simp[Lib.compareBytes,Op.bytesLess]
 | _::_,[]=>by simp[Lib.compareBytes,Op.bytesLess]
 | x::a,y::b=>by
  obtain ⟨h1,h2⟩:=q8h a b
  simp only[Lib.compareBytes,Op.bytesLess]
  by_cases hxy:x<y
  ·have hne:x≠y:=fun e=>by subst e;exact absurd hxy (UInt8.lt_irrefl x)
   simp[hxy,hne]
  ·by_cases hyx:y<x
   ·have hne:x≠y:=fun e=>by subst e;exact absurd hyx (UInt8.lt_irrefl x)
    simp[hxy,hyx,hne]
   ·have e:x=y:=UInt8.le_antisymm (UInt8.not_lt.1 hyx) (UInt8.not_lt.1 hxy)
    subst e
    simp[hxy,h1,h2]
theorem qbvl (a b:ByteArray):scmp a b<0↔Op.bytesLess a.toList b.toList=true:=by
 unfold scmp
 rw[(q8h _ _).1,ByteArray.toList_eq,ByteArray.toList_eq]
theorem qbu6 (a b:ByteArray):scmp a b=0↔a=b:=by
 unfold scmp
 rw[(q8h _ _).2]
 constructor
 ·intro h;cases a;cases b;simp only[ByteArray.mk.injEq];exact Array.toList_inj.1 h
 ·rintro rfl;rfl
def byv (a b:Value):Int:=bif decide (a.1<b.1)||(decide (a.1=b.1)&&decide (a.2.1<b.2.1)) then -1 else bif decide (a.1>b.1)||decide (a.2.1>b.2.1) then 1 else scmp a.2.2.1 b.2.2.1
def vlt (a b:Value):Bool:=bif !decide (a.1=b.1) then decide (a.1<b.1) else bif !decide (a.2.1=b.2.1) then decide (a.2.1<b.2.1) else Op.bytesLess a.2.2.1.toList b.2.2.1.toList
theorem qbr6 (a b:Value):(byv a b<0↔vlt a b=true)∧(byv a b=0↔a=b):=by
 obtain ⟨a1,a2,a3,⟨⟩⟩:=a
 obtain ⟨b1,b2,b3,⟨⟩⟩:=b
 have h1:=qbvl a3 b3
 have h2:=qbu6 a3 b3
 simp only[byv,vlt]
 by_cases k1:a1<b1
 ·have:¬ a1=b1:=by omega
  simp[k1,this]
 ·by_cases k2:a1=b1
  ·subst k2
   by_cases k3:a2<b2
   ·have:¬ a2=b2:=by omega
    simp[k3,this]
   ·by_cases k4:a2=b2
    ·subst k4
     simp[h1,h2]
    ·have:a2>b2:=by omega
     simp[k3,k4,this]
  ·have:a1>b1:=by omega
   simp[k1,k2,this]
theorem qbrv {X:Ext} (hX:XC X) {n:Nat} (hn:2≤n) (a b:Value):qyx (DD X n) a b=some ((byv a b,()),()):=by
 obtain ⟨n,rfl⟩:∃ k,n=k+2:=⟨n - 2,by omega⟩
 rw[qbji hX.ok]
 simp only[qzt,q6u]
 rw[hX.cmp]
 simp only[qf,qjs,qbpe]
 unfold byv
 cases (decide (a.1<b.1)||(decide (a.1=b.1)&&decide (a.2.1<b.2.1)))<;>cases (decide (a.1>b.1)||decide (a.2.1>b.2.1))<;>rfl
theorem qbo3 (D:Den ctx) (x y:Value):qbe ctx D (Clo.mk 141 []) [CapV.val (Ty.pair (Ty.int IntKind.i64) (Ty.pair (Ty.int IntKind.i64) (Ty.pair Ty.str Ty.unit))) x,CapV.val (Ty.pair (Ty.int IntKind.i64) (Ty.pair (Ty.int IntKind.i64) (Ty.pair Ty.str Ty.unit))) y] (Ty.int IntKind.i64)=(qyx D x y).bind fun r=>some r.1.1:=by kernel_rfl
def tcmp:Row→Row→Int
 | [],[]=>0
 | [],_::_=>-1
 | _::_,[]=>1
 | x::a,y::b=>if byv x y=0 then tcmp a b else byv x y
def tlt:Row→Row→Bool
 | [],[]=>false
 | [],_::_=>true
 | _::_,[]=>false
 | x::a,y::b=>if x=y then tlt a b else vlt x y
theorem qbpm:∀ (a b:Row),(decide (tcmp a b<0))=tlt a b
 | [],[]=>rfl
 | [],_::_=>rfl
 | _::_,[]=>rfl
 | x::a,y::b=>by
  obtain ⟨h1,h2⟩:=qbr6 x y
  simp only[tcmp,tlt]
  by_cases e:x=y
  ·simp only[if_pos (h2.2 e),if_pos e];exact qbpm a b
  ·simp only[if_neg (fun k=>e (h2.1 k)),if_neg e]
   by_cases k:byv x y<0
   ·rw[decide_eq_true k,h1.1 k]
   ·rw[decide_eq_false k]
    cases hv:vlt x y
    ·rfl
    ·exact absurd (h1.2 hv) k
theorem qbk0 {X:Ext} (hX:XC X) (N n:Nat) (hN:2≤N) (a b:Row) (ha:a.length≤M):∀ (m i:Nat),i≤a.length→i≤b.length→a.length - i<m→
  qv (DD X N) n (Clo.mk 141 []) (fun v w u=>qb3 (DD X N) n (Clo.mk 141 []) v w u) (fun v w=>qbg (DD X N) n (Clo.mk 141 []) v w) m a b a a.length (i:Int)=some ((tcmp (a.drop i) (b.drop i),()),())
 | 0,_,_,_,h=>by omega
 | m+1,i,hi,hj,hf=>by
  have hM:=qbt
  simp only[qv,qb9]
  by_cases h:i<a.length
  ·rw[qm (by exact_mod_cast h),ix h,br_t,qcx h]
   by_cases h2:i<b.length
   ·rw[qn (by omega),ix h2,br_t,qbo3,Int.toNat_natCast,qbrv hX hN,qcx h2,Option.bind_some,qf,qp (by omega),qbc h,qbc h2,qtk]
    simp only[tcmp]
    by_cases e:byv a[i] b[i]=0
    ·rw[decide_eq_true e,if_pos e,Bool.not_true,br_f]
     exact qbk0 hX N n hN a b ha m (i+1) (by omega) (by omega) (by omega)
    ·rw[decide_eq_false e,if_neg e,Bool.not_false,br_t];rfl
   ·rw[qm (by omega),qf3 h2];rfl
  ·rw[qn (by exact_mod_cast h),qf3 h]
   simp only[qbg]
   by_cases h2:i<b.length
   ·rw[qm (by omega),qcx h2];rfl
   ·rw[qn (by omega),qf3 h2];rfl
theorem q4y {X:Ext} (hX:XC X) {n:Nat} (hn:W+3≤n) (a b:Row) (ha:a.length≤M):qo7 (DD X n) a b=some ((tlt a b,()),()):=by
 obtain ⟨n,rfl⟩:∃ k,n=k+2:=⟨n - 2,by omega⟩
 have hW:=qb2
 have hM:=qbt
 rw[qbfa hX.ok]
 simp only[qv1,q4r]
 have e:qch (DD X (n+1)) a b (Clo.mk 141 [])=some ((tcmp a b,()),()):=by
  rw[qhc hX.ok]
  simp only[qcj,qci,qb7]
  exact qbk0 hX n n (by omega) a b ha n 0 (by omega) (by omega) (by omega)
 rw[e,qf]
 dsimp only
 rw[qbpm]
theorem qbed {X:Ext} (hX:XOk X) {n:Nat} (hn:1≤n) (a b:Value):qpp (DD X n) a b=some ((decide (a=b),()),()):=by
 obtain ⟨n,rfl⟩:∃ k,n=k+1:=⟨n - 1,by omega⟩
 rw[qbe8 hX]
 simp only[qvk,q31,qbap]
theorem qbow {X:Ext} (hX:XOk X) {n:Nat} (hn:1≤n) (a b:Value):qv7 (DD X n) a b=some ((vlt a b,()),()):=by
 obtain ⟨n,rfl⟩:∃ k,n=k+1:=⟨n - 1,by omega⟩
 rw[qbes hX]
 simp only[qvp,q4b,qtk]
 unfold vlt
 cases decide (a.1=b.1)<;>cases decide (a.2.1=b.2.1)<;>rfl
theorem qbhh {X:Ext} (hX:XOk X) (N n:Nat) (hN:1≤N) (a b:Row) (ha:a.length≤M):∀ (m i:Nat),i≤a.length→i≤b.length→a.length - i<m→
  qim (DD X N) n (fun v w u=>qq4 (DD X N) n v w u) (fun v w=>qi6 (DD X N) n v w) m a b (i:Int)=some ((tlt (a.drop i) (b.drop i),()),())
 | 0,_,_,_,h=>by omega
 | m+1,i,hi,hj,hf=>by
  have hM:=qbt
  simp only[qim,qtu,qjs]
  by_cases h:i<a.length
  ·by_cases h2:i<b.length
   ·rw[decide_eq_true (show (i:Int)<a.length by omega),decide_eq_true (show (i:Int)<b.length by omega)]
    have c0:decide ((0:Int)≤(i:Int))=true:=decide_eq_true (by omega)
    rw[c0,Bool.true_and,br_t,br_t,br_t,qbed hX hN,qf,Int.toNat_natCast,qp (by omega),qcx h,qcx h2,qbc h,qbc h2]
    simp only[tlt]
    by_cases e:a[i]=b[i]
    ·rw[decide_eq_true e,if_pos e,Bool.not_true,br_f]
     exact qbhh hX N n hN a b ha m (i+1) (by omega) (by omega) (by omega)
    ·rw[decide_eq_false e,if_neg e,Bool.not_false,br_t,br_t,br_t,qbow hX hN,qf];rfl
   ·rw[decide_eq_true (show (i:Int)<a.length by omega),decide_eq_false (show ¬ (i:Int)<b.length by omega),qcx h,qf3 h2]
    simp only[Bool.and_false,br_f,qi6,tlt]
    rw[decide_eq_false (by omega)]
  ·rw[decide_eq_false (show ¬ (i:Int)<a.length by omega),qf3 h]
   simp only[Bool.false_and,br_f,qi6]
   by_cases h2:i<b.length
   ·rw[decide_eq_true (by omega),qcx h2];rfl
   ·rw[decide_eq_false (by omega),qf3 h2];rfl
theorem q42 {X:Ext} (hX:XOk X) {n:Nat} (hn:W+1≤n) (a b:Row) (ha:a.length≤M):qpd (DD X n) a b=some ((tlt a b,()),()):=by
 obtain ⟨n,rfl⟩:∃ k,n=k+1:=⟨n - 1,by omega⟩
 have hW:=qb2
 have hM:=qbt
 rw[qbfr hX]
 simp only[qvq,qu8,qsj]
 exact qbhh hX n n (by omega) a b ha n 0 (by omega) (by omega) (by omega)
theorem qbr4 {X:Ext} (hX:XOk X) (N n:Nat) (hN:1≤N) (a b:Row) (ha:a.length≤M):∀ (m i:Nat),i≤a.length→i≤b.length→a.length - i<m→
  qkh (DD X N) n (fun v w u=>qus (DD X N) n v w u) (fun v w=>qk0 (DD X N) n v w) m a b (i:Int)=some ((decide (a.drop i=b.drop i),()),())
 | 0,_,_,_,h=>by omega
 | m+1,i,hi,hj,hf=>by
  have hM:=qbt
  simp only[qkh,qw7,qjs]
  by_cases h:i<a.length
  ·by_cases h2:i<b.length
   ·rw[decide_eq_true (show (i:Int)<a.length by omega),decide_eq_true (show (i:Int)<b.length by omega)]
    have c0:decide ((0:Int)≤(i:Int))=true:=decide_eq_true (by omega)
    rw[c0,Bool.true_and,br_t,br_t,br_t,qbed hX hN,qf,Int.toNat_natCast,qp (by omega),qcx h,qcx h2,qbc h,qbc h2]
    by_cases e:a[i]=b[i]
    ·rw[decide_eq_true e,Bool.not_true,br_f]
     refine Eq.trans (qbr4 hX N n hN a b ha m (i+1) (by omega) (by omega) (by omega)) ?_
     simp only[e,List.cons.injEq,true_and]
    ·rw[decide_eq_false e,Bool.not_false,br_t]
     simp only[e,List.cons.injEq,false_and,decide_false];rfl
   ·rw[decide_eq_true (show (i:Int)<a.length by omega),decide_eq_false (show ¬ (i:Int)<b.length by omega),qcx h,qf3 h2]
    simp only[Bool.and_false,br_f,qk0]
    rw[decide_eq_false (by omega)];simp[h]
  ·rw[decide_eq_false (show ¬ (i:Int)<a.length by omega),qf3 h]
   simp only[Bool.false_and,br_f,qk0]
   by_cases h2:i<b.length
   ·rw[decide_eq_false (by omega),qcx h2];simp[h2]
   ·rw[decide_eq_true (by omega),qf3 h2];simp
theorem qbkj {X:Ext} (hX:XOk X) {n:Nat} (hn:W+1≤n) (a b:Row) (ha:a.length≤M):qtn (DD X n) a b=some ((decide (a=b),()),()):=by
 obtain ⟨n,rfl⟩:∃ k,n=k+1:=⟨n - 1,by omega⟩
 have hW:=qb2
 have hM:=qbt
 rw[qbj5 hX]
 simp only[qz1,qy1,qv0]
 exact qbr4 hX n n (by omega) a b ha n 0 (by omega) (by omega) (by omega)
theorem qbtx {a b:Row} (hl:a.length=b.length):qt (fun i=>!decide (a.getD i vd=b.getD i vd)) 0 a.length=!decide (a=b):=by
 by_cases e:a=b
 ·rw[decide_eq_true e,qbn.2 (fun j _ _=>by rw[e];simp)];rfl
 ·rw[decide_eq_false e]
  show _=true
  rw[←Bool.not_eq_false]
  intro hf
  apply e
  apply List.ext_getElem hl
  intro i h1 h2
  have:=qbn.1 hf i (by omega) (by omega)
  rw[qbc h1,qbc h2] at this
  simpa using this
theorem qbpt {X:Ext} (hX:XOk X) {n:Nat} (hn:W+1≤n) (a b:Row) (ha:a.length≤M):qd3 (DD X n) a b=some ((decide (a=b),()),()):=by
 obtain ⟨n,rfl⟩:∃ k,n=k+1:=⟨n - 1,by omega⟩
 have hM:=qbt
 have hW:=qb2
 rw[qs5 hX]
 simp only[qf2,qf9,qfi]
 rw[qbb9]
 by_cases hl:a.length=b.length
 ·rw[decide_eq_true hl,Bool.not_true,br_f]
  refine Eq.trans (qi0 (L:=fun m i=>qcd (DD X n) n _ _ m a b a.length (i:Int)) (N:=a.length) (P:=fun i=>!decide (a.getD i vd=b.getD i vd))
   (A:=some ((false,()),())) (B:=some ((true,()),())) (fun m i hi=>?_) (m:=n) (by omega)) ?_
  ·simp only[qcd,qfo]
   by_cases h:i<a.length
   ·rw[qm (by exact_mod_cast h),ix h,br_t,ix (hl ▸ h),br_t,Int.toNat_natCast,qbap,qp (by omega),if_pos h];rfl
   ·rw[qn (by exact_mod_cast h),if_neg h];rfl
  ·rw[qbtx hl]
   cases decide (a=b)<;>rfl
 ·have:¬ a=b:=fun e=>hl (by rw[e])
  rw[decide_eq_false hl,decide_eq_false this];rfl
def hasV (l:Row) (x:Value):Bool:=qt (fun j=>decide (x=l.getD j vd)) 0 l.length
theorem qbox {X:Ext} (hX:XOk X) {n:Nat} (hn:W+2≤n) (l:Row) (x:Value) (hl:l.length≤M):qe9 (DD X n) l x=some ((hasV l x,()),()):=by
 obtain ⟨n,rfl⟩:∃ k,n=k+2:=⟨n - 2,by omega⟩
 have hM:=qbt
 have hW:=qb2
 rw[qqd hX]
 simp only[qe8,qiw]
 have e:qf4 (DD X (n+1)) l x=some ((match qw (fun j=>decide (x=l.getD j vd)) 0 l.length with | some j=>(j:Int) | none=>-1,()),()):=by
  rw[qsi hX]
  simp only[qf8,qf1,qff]
  refine Eq.trans (qss (L:=fun m i=>qca (DD X n) n _ _ m l l.length (i:Int) x) (N:=l.length) (P:=fun j=>decide (x=l.getD j vd))
   (A:=fun j=>some (((j:Int),()),())) (B:=some ((-1,()),())) (fun m i hi=>?_) (m:=n) (by omega)) ?_
  ·simp only[qca,qfq]
   by_cases h:i<l.length
   ·rw[qm (by exact_mod_cast h),ix h,br_t,Int.toNat_natCast,qp (by omega),if_pos h,qbap];rfl
   ·rw[qn (by exact_mod_cast h),if_neg h];rfl
  ·cases qw (fun j=>decide (x=l.getD j vd)) 0 l.length<;>rfl
 rw[e,qf]
 congr 3
 exact q04 _ _
def q6h (l:Row):Bool:=qt (fun j=>decide ((l.getD j vd).1=0)) 0 l.length
theorem qbsm {X:Ext} (hX:XOk X) {n:Nat} (hn:W+1≤n) (l:Row) (hl:l.length≤M):qyt (DD X n) l=some ((q6h l,()),()):=by
 obtain ⟨n,rfl⟩:∃ k,n=k+1:=⟨n - 1,by omega⟩
 have hM:=qbt
 have hW:=qb2
 rw[qbjr hX]
 simp only[qzw,qyw,qvr]
 refine Eq.trans (qi0 (L:=fun m i=>qks (DD X n) n _ _ m l (i:Int)) (N:=l.length) (P:=fun j=>decide ((l.getD j vd).1=0))
  (A:=some ((true,()),())) (B:=some ((false,()),())) (fun m i hi=>?_) (m:=n) (by omega)) ?_
 ·simp only[qks,qw0]
  by_cases h:i<l.length
  ·rw[qm (by exact_mod_cast h),ix h,br_t,Int.toNat_natCast,qp (by omega),if_pos h];rfl
  ·rw[qn (by exact_mod_cast h),if_neg h];rfl
 ·unfold q6h
  cases qt (fun j=>decide ((l.getD j vd).1=0)) 0 l.length<;>rfl
theorem qbux {v:Value} (h:qc9 v=true):decide (vd=v)=decide (v.1=0):=by
 obtain ⟨v1,v2,v3,⟨⟩⟩:=v
 by_cases h0:v1=0
 ·subst h0
  simp only[qc9,qmx,decide_true,cond_true,Bool.and_eq_true,decide_eq_true_eq] at h
  obtain ⟨rfl,rfl⟩:=h
  rfl
 ·have:¬ vd=(v1,v2,v3,()):=fun e=>h0 (by rw[←(Prod.mk.inj e).1])
  rw[decide_eq_false this,decide_eq_false h0]
theorem qbr3 {l:Row} (h:∀ v∈l,qc9 v=true):hasV l vd=q6h l:=
 quz fun j _ hj=>qbux (h _ (qbp (by omega)))
theorem q5y {row:Row} {cols:List Int}:∀ v∈qj row cols,v∈row:=by
 intro v hv
 unfold qj at hv
 obtain ⟨c,hc,rfl⟩:=List.mem_map.1 hv
 have:=qbbc (List.mem_filter.1 hc).2
 exact qbp (by omega)
def qzy (xs:List qj6) (a b:Row) (i:Nat):Bool:=(xs.getD i xd).2.2.1&&(decide (qj a (xs.getD i xd).2.1=qj b (xs.getD i xd).2.1)&&!q6h (qj a (xs.getD i xd).2.1))
def qj1 (s:q8) (a b:Row):Bool:=qt (qzy s.2.2.1 a b) 0 s.2.2.1.length
theorem qpq (s:q8) (a b:Row):qj1 s a b=qj1 s b a:=by
 refine quz fun j _ _=>?_
 unfold qzy
 by_cases e:qj a (s.2.2.1.getD j xd).2.1=qj b (s.2.2.1.getD j xd).2.1
 ·rw[decide_eq_true e,decide_eq_true e.symm,e]
 ·rw[decide_eq_false e,decide_eq_false fun k=>e k.symm];simp
theorem qbq4 (D:Den ctx) (a b:Row) (x:qj6):qbe ctx D (Clo.mk 143 [CapV.rptr (Ty.sl (Ty.pair (Ty.int IntKind.i64) (Ty.pair (Ty.int IntKind.i64) (Ty.pair Ty.str Ty.unit)))) a,CapV.rptr (Ty.sl (Ty.pair (Ty.int IntKind.i64) (Ty.pair (Ty.int IntKind.i64) (Ty.pair Ty.str Ty.unit)))) b]) [CapV.val (Ty.pair Ty.str (Ty.pair (Ty.sl (Ty.int IntKind.i64)) (Ty.pair Ty.bool Ty.unit))) x] Ty.bool=(q7l D x a b).bind fun r=>some r.1.1:=by kernel_rfl
theorem q5w {X:Ext} (hX:XOk X) {n:Nat} (hn:W+6≤n) (s:q8) (hs:SchSm s) (a b:Row) (ha:a.length≤M) (hb:b.length≤M) (hv:∀ v∈a,qc9 v=true):qsg (DD X n) s a b=some ((qj1 s a b,()),()):=by
 obtain ⟨n,rfl⟩:∃ k,n=k+1:=⟨n - 1,by omega⟩
 have hM:=qbt
 have hd:=qb0
 have h2:=hs.ixs
 rw[qbn1 hX]
 simp only[q4v,qbat]
 rw[qbd3 hX (n:=n) (by omega) _ (by omega) _ (qzy s.2.2.1 a b) (fun i hi=>by
  have hc:=hs.ixc _ (qbp (d:=xd) hi)
  obtain ⟨n,rfl⟩:∃ k,n=k+3:=⟨n - 3,by omega⟩
  rw[qbq4,show n+3 - 2=n+1 from rfl,qbio hX]
  simp only[qzd,q62]
  have p1:=qp5 hX (n:=n) (by omega) a ha (s.2.2.1.getD i xd).2.1 hc
  have p2:=qp5 hX (n:=n) (by omega) b hb (s.2.2.1.getD i xd).2.1 hc
  have l1:=qeh a (s.2.2.1.getD i xd).2.1
  have p3:=qbox hX (n:=n) (by omega) (qj a (s.2.2.1.getD i xd).2.1) vd (by omega)
  have p4:=qbpt hX (n:=n) (by omega) (qj a (s.2.2.1.getD i xd).2.1) (qj b (s.2.2.1.getD i xd).2.1) (by omega)
  rw[p1,qf]
  dsimp only
  rw[p2,p3]
  simp only[qf]
  rw[p4,qf,qbr3 (fun v h=>hv v (q5y v h))]
  unfold qzy
  cases (s.2.2.1.getD i xd).2.2.1
  ·rfl
  ·cases q6h (qj a (s.2.2.1.getD i xd).2.1)<;>simp[br]),qf]
 rfl
theorem qbd9 {X:Ext} (hX:XOk X) {n:Nat} (hn:W+3≤n) (s:q8) (hs:SchSm s) (a b:Row) (ha:a.length≤M) (hb:b.length≤M):qr0 (DD X n) s a b=some ((qj1 s a b,()),()):=by
 obtain ⟨n,rfl⟩:∃ k,n=k+1:=⟨n - 1,by omega⟩
 have hM:=qbt
 have hW:=qb2
 have h2:=hs.ixs
 rw[qbg1 hX]
 simp only[qwi,qwm,qtv]
 refine Eq.trans (qi0 (L:=fun m i=>qjj (DD X n) n _ _ m a b (i:Int) s) (N:=s.2.2.1.length) (P:=qzy s.2.2.1 a b)
  (A:=some ((true,()),())) (B:=some ((false,()),())) (fun m i hi=>?_) (m:=n) (by omega)) ?_
 ·simp only[qjj,qv5]
  by_cases h:i<s.2.2.1.length
  ·have hc:=hs.ixc _ (qbp (d:=xd) h)
   have p1:=q1u hX (n:=n) (by omega) a ha (s.2.2.1.getD i xd).2.1 hc
   have p2:=q1u hX (n:=n) (by omega) b hb (s.2.2.1.getD i xd).2.1 hc
   have l1:=qeh a (s.2.2.1.getD i xd).2.1
   have p3:=qbsm hX (n:=n) (by omega) (qj a (s.2.2.1.getD i xd).2.1) (by omega)
   have p4:=qbkj hX (n:=n) (by omega) (qj a (s.2.2.1.getD i xd).2.1) (qj b (s.2.2.1.getD i xd).2.1) (by omega)
   rw[qm (by exact_mod_cast h),ix h,br_t,Int.toNat_natCast,p1,qf]
   dsimp only
   rw[p2,qf]
   dsimp only
   rw[p3,p4,qp (by omega),if_pos h]
   simp only[qf]
   unfold qzy
   cases (s.2.2.1.getD i xd).2.2.1
   ·rfl
   ·cases decide (qj a (s.2.2.1.getD i xd).2.1=qj b (s.2.2.1.getD i xd).2.1)
    ·rfl
    ·cases q6h (qj a (s.2.2.1.getD i xd).2.1)<;>rfl
  ·rw[qn (by exact_mod_cast h),if_neg h];rfl
 ·unfold qj1
  cases qt (qzy s.2.2.1 a b) 0 s.2.2.1.length<;>rfl
end Go.G

namespace Go.G
set_option maxRecDepth 100000
open Go Go.V Go.Proofs
abbrev Rel:=q8×List Row×Unit
instance decRows:DecidableEq (List Row):=inferInstance
instance decRel:DecidableEq Rel:=fun a b=>@instDecidableEqProd _ _ decSchema (@instDecidableEqProd _ _ decRows inferInstance) a b
structure RelSm (r:Rel):Prop where
 sch:SchSm r.1
 rows:r.2.1.length≤M
 row:∀ x∈r.2.1,x.length≤M
end Go.G

namespace Go.G
set_option maxRecDepth 100000
open Go Go.V Go.Proofs
theorem qxb {s:q8} {row:Row} (h:qey s row=true):∀ v∈row,qc9 v=true:=by
 intro v hv
 obtain ⟨i,hi,rfl⟩:=List.mem_iff_getElem.1 hv
 simp only[qey,Bool.and_eq_true,Bool.not_eq_true',decide_eq_true_eq] at h
 have k:=qbn.1 h.2.2 i (by omega) (by omega)
 simp only[q39,Bool.or_eq_false_iff,Bool.not_eq_false'] at k
 rw[←qbc (d:=vd) hi];exact k.1
def qm0 (s:q8) (rows:List Row) (i:Nat):Bool:=
 !qey s (rows.getD i [])||((decide (0<i)&&!tlt (qj (rows.getD (i - 1) []) s.2.1) (qj (rows.getD i []) s.2.1))||qt (fun k=>qj1 s (rows.getD i []) (rows.getD k [])) 0 i)
def qcl (r:Rel):Bool:=!qt (qm0 r.1 r.2.1) 0 r.2.1.length&&(qfh r.1&&decide ((r.2.1.length:Int)≤12))
theorem qbuu (D:Den ctx) (r:Rel) (row x:Row):qbe ctx D (Clo.mk 80 [CapV.rptr (Ty.pair
          (Ty.pair (Ty.sl (Ty.pair Ty.str (Ty.pair (Ty.int IntKind.i64) (Ty.pair Ty.bool Ty.unit))))
           (Ty.pair (Ty.sl (Ty.int IntKind.i64))
            (Ty.pair (Ty.sl (Ty.pair Ty.str (Ty.pair (Ty.sl (Ty.int IntKind.i64)) (Ty.pair Ty.bool Ty.unit)))) Ty.unit)))
          (Ty.pair (Ty.sl (Ty.sl (Ty.pair (Ty.int IntKind.i64) (Ty.pair (Ty.int IntKind.i64) (Ty.pair Ty.str Ty.unit))))) Ty.unit)) r,CapV.rptr (Ty.sl (Ty.pair (Ty.int IntKind.i64) (Ty.pair (Ty.int IntKind.i64) (Ty.pair Ty.str Ty.unit)))) row]) [CapV.val (Ty.sl (Ty.pair (Ty.int IntKind.i64) (Ty.pair (Ty.int IntKind.i64) (Ty.pair Ty.str Ty.unit)))) x] Ty.bool=(q6o D x r row).bind fun q=>some q.1.1:=by kernel_rfl
theorem qbq9 {α:Type} {l:List α} {i j:Nat} {d:α} (h:j<i):(l.take i).getD j d=l.getD j d:=by
 simp only[List.getD,List.getElem?_take]
 rw[if_pos h]
theorem qbpa {X:Ext} (hX:XOk X) {n:Nat} (hn:W+9≤n) (r:Rel) (hr:RelSm r) (i:Nat) (hi:i<r.2.1.length) (hv:∀ v∈r.2.1.getD i [],qc9 v=true) :
  qbo (DD X n) (List.drop (Int.toNat 0) (List.take i r.2.1)) (Clo.mk 80 [CapV.rptr (Ty.pair
          (Ty.pair (Ty.sl (Ty.pair Ty.str (Ty.pair (Ty.int IntKind.i64) (Ty.pair Ty.bool Ty.unit))))
           (Ty.pair (Ty.sl (Ty.int IntKind.i64))
            (Ty.pair (Ty.sl (Ty.pair Ty.str (Ty.pair (Ty.sl (Ty.int IntKind.i64)) (Ty.pair Ty.bool Ty.unit)))) Ty.unit)))
          (Ty.pair (Ty.sl (Ty.sl (Ty.pair (Ty.int IntKind.i64) (Ty.pair (Ty.int IntKind.i64) (Ty.pair Ty.str Ty.unit))))) Ty.unit)) r,CapV.rptr (Ty.sl (Ty.pair (Ty.int IntKind.i64) (Ty.pair (Ty.int IntKind.i64) (Ty.pair Ty.str Ty.unit)))) (r.2.1.getD i [])])
   = some ((qt (fun k=>qj1 r.1 (r.2.1.getD i []) (r.2.1.getD k [])) 0 i,()),()):=by
 have hM:=qbt
 have hd:=qb0
 have h2:=hr.rows
 have hl:(List.drop (Int.toNat 0) (List.take i r.2.1)).length=i:=by
  show (List.take i r.2.1).length=i
  rw[List.length_take];omega
 have e:=qble hX (n:=n) (by omega) (List.drop (Int.toNat 0) (List.take i r.2.1)) (by rw[hl];omega) (Clo.mk 80 [CapV.rptr (Ty.pair
          (Ty.pair (Ty.sl (Ty.pair Ty.str (Ty.pair (Ty.int IntKind.i64) (Ty.pair Ty.bool Ty.unit))))
           (Ty.pair (Ty.sl (Ty.int IntKind.i64))
            (Ty.pair (Ty.sl (Ty.pair Ty.str (Ty.pair (Ty.sl (Ty.int IntKind.i64)) (Ty.pair Ty.bool Ty.unit)))) Ty.unit)))
          (Ty.pair (Ty.sl (Ty.sl (Ty.pair (Ty.int IntKind.i64) (Ty.pair (Ty.int IntKind.i64) (Ty.pair Ty.str Ty.unit))))) Ty.unit)) r,CapV.rptr (Ty.sl (Ty.pair (Ty.int IntKind.i64) (Ty.pair (Ty.int IntKind.i64) (Ty.pair Ty.str Ty.unit)))) (r.2.1.getD i [])])
  (fun k=>qj1 r.1 (r.2.1.getD i []) (r.2.1.getD k [])) (fun k hk=>by
   rw[hl] at hk
   obtain ⟨n,rfl⟩:∃ k,n=k+3:=⟨n - 3,by omega⟩
   rw[qbuu,show n+3 - 2=n+1 from rfl,qbja hX]
   simp only[qyr,q6j]
   have hg:(List.drop (Int.toNat 0) (List.take i r.2.1)).getD k []=r.2.1.getD k []:=qbq9 hk
   rw[hg,q5w hX (by omega) r.1 hr.sch _ _ (hr.row _ (qbp hi)) (hr.row _ (qbp (by omega))) hv,qf]
   rfl)
 rw[hl] at e
 exact e
theorem qqp {X:Ext} (hX:XC X) {n:Nat} (hn:W+10≤n) (r:Rel) (hr:RelSm r):qkc (DD X n) r=some ((qcl r,()),()):=by
 obtain ⟨n,rfl⟩:∃ k,n=k+1:=⟨n - 1,by omega⟩
 have hW:=qb2
 have hM:=qbt
 have h2:=hr.rows
 have hk:=hr.sch.key
 rw[qboj hX.ok]
 simp only[q4q,q3s,qyv]
 refine Eq.trans (qi0 (L:=fun m i=>qmj (DD X n) n _ _ m r.2.1 r.2.1.length (i:Int) r) (N:=r.2.1.length) (P:=qm0 r.1 r.2.1)
  (A:=some ((false,()),())) (B:=some ((qfh r.1&&decide ((r.2.1.length:Int)≤12),()),())) (fun m i hi=>?_) (m:=n) (by omega)) ?_
 ·simp only[qmj,q1n]
  by_cases h:i<r.2.1.length
  ·have hc1:(decide ((0:Nat)≤0)&&decide ((0:Int)≤(i:Int))&&decide ((i:Int)≤(r.2.1.length:Int)))=true:=by
    rw[decide_eq_true (by omega),decide_eq_true (by omega),decide_eq_true (by omega)];rfl
   have hri:=hr.row _ (qbp (d:=[]) h)
   rw[qm (by exact_mod_cast h),ix h,br_t,Int.toNat_natCast,qz9 hX.ok (n:=n) (by omega) r.1 hr.sch _ hri,qf,qp (by omega),if_pos h,hc1]
   dsimp only
   unfold qm0
   cases hok:qey r.1 (r.2.1.getD i [])
   ·rfl
   ·have ec:=qbpa hX.ok (n:=n) (by omega) r hr i h (qxb hok)
    rw[Bool.not_true,br_f,br_t,ec,qf,Bool.false_or]
    dsimp only
    by_cases h0:0<i
    ·have w1:IntKind.wrap IntKind.i64 ((i:Int) - 1)=((i - 1:Nat):Int):=by rw[qc8 (by omega) (by omega)];omega
     have hrj:=hr.row _ (qbp (d:=[]) (show i - 1<r.2.1.length by omega))
     have l1:=qeh (r.2.1.getD (i - 1) []) r.1.2.1
     rw[qm (by omega),w1,ix (i:=i - 1) (by omega),br_t,Int.toNat_natCast,qgh hX.ok (by omega) r.1 _ hrj hk,qf]
     dsimp only
     rw[qgh hX.ok (by omega) r.1 _ hri hk,qf]
     dsimp only
     rw[q4y hX (by omega) _ _ (by omega),qf,decide_eq_true h0]
     dsimp only
     cases tlt (qj (r.2.1.getD (i - 1) []) r.1.2.1) (qj (r.2.1.getD i []) r.1.2.1)<;>rfl
    ·rw[qn (by omega),decide_eq_false h0];rfl
  ·rw[qn (by exact_mod_cast h),if_neg h]
   simp only[qxe]
   rw[q7a hX.ok (by omega) r.1 hr.sch,qf,qjs]
 ·unfold qcl
  cases qt (qm0 r.1 r.2.1) 0 r.2.1.length<;>rfl
theorem q0e {X:Ext} (hX:XOk X) {n:Nat} (hn:W+8≤n) (r:Rel) (hr:RelSm r):qo0 (DD X n) r=some ((qcl r,()),()):=by
 obtain ⟨n,rfl⟩:∃ k,n=k+1:=⟨n - 1,by omega⟩
 have hW:=qb2
 have hM:=qbt
 have h2:=hr.rows
 have hk:=hr.sch.key
 rw[qbn6 hX]
 simp only[q4m,q4e,qzx]
 refine Eq.trans (qi0 (L:=fun m i=>qgf (DD X n) n _ _ m (i:Int) r) (N:=r.2.1.length) (P:=qm0 r.1 r.2.1)
  (A:=some ((false,()),())) (B:=some ((qfh r.1&&decide ((r.2.1.length:Int)≤12),()),())) (fun m i hi=>?_) (m:=n) (by omega)) ?_
 ·simp only[qgf,q1y,qyy]
  by_cases h:i<r.2.1.length
  ·have hri:=hr.row _ (qbp (d:=[]) h)
   have el:=qi0 (L:=fun q k=>qmg (DD X n) n (fun v0_0 v0_1 v0_2=>qwl (DD X n) n (qgf (DD X n) n (fun v0_0 v0_1=>qh6 (DD X n) n v0_0 v0_1) (fun v1_0=>qgp (DD X n) n v1_0) m) (fun v0_0 v0_1=>qh6 (DD X n) n v0_0 v0_1) (fun v1_0=>qgp (DD X n) n v1_0) v0_0 v0_1 v0_2)
      (fun v1_0 v1_1=>qry (DD X n) n (qgf (DD X n) n (fun v0_0 v0_1=>qh6 (DD X n) n v0_0 v0_1) (fun v1_0=>qgp (DD X n) n v1_0) m) (fun v0_0 v0_1=>qh6 (DD X n) n v0_0 v0_1) (fun v1_0=>qgp (DD X n) n v1_0) v1_0 v1_1) q (i:Int) (k:Int) r)
     (N:=i) (P:=fun k=>qj1 r.1 (r.2.1.getD i []) (r.2.1.getD k []))
     (A:=some ((false,()),())) (B:=qgf (DD X n) n (fun v0_0 v0_1=>qh6 (DD X n) n v0_0 v0_1) (fun v1_0=>qgp (DD X n) n v1_0) m ((i+1:Nat):Int) r) (fun q k hk2=>by
    simp only[qmg,q06]
    by_cases h3:k<i
    ·rw[qm (by exact_mod_cast h3),ix (i:=k) (by omega),br_t,ix h,br_t,Int.toNat_natCast,Int.toNat_natCast,qbd9 hX (by omega) r.1 hr.sch _ _ (hr.row _ (qbp (by omega))) hri,qf,qp (by omega),if_pos h3,qpq]
     rfl
    ·rw[qn (by exact_mod_cast h3),if_neg h3]
     simp only[qry]
     rw[qp (by omega)]) (m:=n) (by omega)
   simp only[Int.natCast_zero] at el
   rw[qm (by exact_mod_cast h),ix h,br_t,Int.toNat_natCast,q6d hX (n:=n) (by omega) r.1 hr.sch _ hri,qf,if_pos h]
   dsimp only
   unfold qm0
   cases hok:qey r.1 (r.2.1.getD i [])
   ·rfl
   ·rw[Bool.not_true,br_f,Bool.false_or]
    by_cases h0:0<i
    ·have w1:IntKind.wrap IntKind.i64 ((i:Int) - 1)=((i - 1:Nat):Int):=by rw[qc8 (by omega) (by omega)];omega
     have hrj:=hr.row _ (qbp (d:=[]) (show i - 1<r.2.1.length by omega))
     have l1:=qeh (r.2.1.getD (i - 1) []) r.1.2.1
     rw[qm (by omega),w1,ix (i:=i - 1) (by omega),br_t,Int.toNat_natCast,qhm hX (by omega) r.1 _ hrj hk,qf]
     dsimp only
     rw[br_t,qhm hX (by omega) r.1 _ hri hk,qf]
     dsimp only
     rw[q42 hX (by omega) _ _ (by omega),qf,decide_eq_true h0]
     dsimp only
     cases tlt (qj (r.2.1.getD (i - 1) []) r.1.2.1) (qj (r.2.1.getD i []) r.1.2.1)
     ·rfl
     ·exact el
    ·rw[qn (by omega),decide_eq_false h0];exact el
  ·rw[qn (by exact_mod_cast h),if_neg h]
   simp only[qgp]
   rw[q6r hX (by omega) r.1 hr.sch,qf,qjs]
 ·unfold qcl
  cases qt (qm0 r.1 r.2.1) 0 r.2.1.length<;>rfl
def qbcg (r:Rel) (key:Row) (i:Nat):Bool:=decide (qj (r.2.1.getD i []) r.1.2.1=key)
def qfb (r:Rel) (key:Row):Option Nat:=qw (qbcg r key) 0 r.2.1.length
theorem qsz {r:Rel} {key:Row} {j:Nat} (h:qfb r key=some j):j<r.2.1.length:=by
 have:=qdg h;omega
theorem qbr9 (D:Den ctx) (r:Rel) (key x:Row):qbe ctx D (Clo.mk 153 [CapV.rptr (Ty.pair
          (Ty.pair (Ty.sl (Ty.pair Ty.str (Ty.pair (Ty.int IntKind.i64) (Ty.pair Ty.bool Ty.unit))))
           (Ty.pair (Ty.sl (Ty.int IntKind.i64))
            (Ty.pair (Ty.sl (Ty.pair Ty.str (Ty.pair (Ty.sl (Ty.int IntKind.i64)) (Ty.pair Ty.bool Ty.unit)))) Ty.unit)))
          (Ty.pair (Ty.sl (Ty.sl (Ty.pair (Ty.int IntKind.i64) (Ty.pair (Ty.int IntKind.i64) (Ty.pair Ty.str Ty.unit))))) Ty.unit)) r,CapV.rptr (Ty.sl (Ty.pair (Ty.int IntKind.i64) (Ty.pair (Ty.int IntKind.i64) (Ty.pair Ty.str Ty.unit)))) key]) [CapV.val (Ty.sl (Ty.pair (Ty.int IntKind.i64) (Ty.pair (Ty.int IntKind.i64) (Ty.pair Ty.str Ty.unit)))) x] Ty.bool=(q61 D x r key).bind fun q=>some q.1.1:=by kernel_rfl
theorem qbch {X:Ext} (hX:XOk X) {n:Nat} (hn:W+6≤n) (r:Rel) (hr:RelSm r) (key:Row):qok (DD X n) r key=some ((match qfb r key with | some j=>(j:Int) | none=>-1,()),()):=by
 obtain ⟨n,rfl⟩:∃ k,n=k+1:=⟨n - 1,by omega⟩
 have hM:=qbt
 have hd:=qb0
 have h2:=hr.rows
 have hk:=hr.sch.key
 rw[qbnu hX]
 simp only[q3g,qbbt]
 rw[qbet hX (n:=n) (by omega) _ (by omega) _ (qbcg r key) (fun i hi=>by
  obtain ⟨n,rfl⟩:∃ k,n=k+2:=⟨n - 2,by omega⟩
  rw[qbr9,show n+2 - 1=n+1 from rfl,qbkd hX]
  simp only[qy6,q6s]
  have l1:=qeh (r.2.1.getD i []) r.1.2.1
  rw[qgh hX (by omega) r.1 _ (hr.row _ (qbp hi)) hk,qf]
  dsimp only
  rw[qbpt hX (by omega) _ _ (by omega),qf]
  rfl),qf]
 rfl
theorem qbj7 {X:Ext} (hX:XOk X) {n:Nat} (hn:W+6≤n) (r:Rel) (hr:RelSm r) (key:Row):qso (DD X n) r key=some ((match qfb r key with | some j=>(j:Int) | none=>-1,()),()):=by
 obtain ⟨n,rfl⟩:∃ k,n=k+1:=⟨n - 1,by omega⟩
 have hM:=qbt
 have hW:=qb2
 have h2:=hr.rows
 have hk:=hr.sch.key
 rw[qbml hX]
 simp only[q3i,q3d,qz5]
 refine Eq.trans (qss (L:=fun m i=>qmf (DD X n) n _ _ m key (i:Int) r) (N:=r.2.1.length) (P:=qbcg r key)
  (A:=fun j=>some (((j:Int),()),())) (B:=some ((-1,()),())) (fun m i hi=>?_) (m:=n) (by omega)) ?_
 ·simp only[qmf,q1d]
  by_cases h:i<r.2.1.length
  ·have l1:=qeh (r.2.1.getD i []) r.1.2.1
   rw[qm (by exact_mod_cast h),ix h,br_t,Int.toNat_natCast,qhm hX (by omega) r.1 _ (hr.row _ (qbp h)) hk,qf]
   dsimp only
   rw[qbkj hX (by omega) _ _ (by omega),qf,qp (by omega),if_pos h]
   rfl
  ·rw[qn (by exact_mod_cast h),if_neg h];rfl
 ·unfold qfb
  cases qw (qbcg r key) 0 r.2.1.length<;>rfl
theorem qw9 {X:Ext} (hX:XOk X) {n:Nat} (hn:1≤n) (a:Row) (ha:a.length≤qbh):qbu (DD X n) a=some ((a,()),()):=by
 obtain ⟨n,rfl⟩:∃ k,n=k+1:=⟨n - 1,by omega⟩
 rw[qs8 hX]
 simp only[qga,qj7]
 have hc:decide (0+a.length≤qbh)=true:=decide_eq_true (by omega)
 rw[hc,br_t,List.nil_append]
 cases a with
 | nil=>simp[qba5,both]
 | cons x a=>rw[qn (by simp)]
def lookup (r:Rel) (key:Row):Row×Bool:=match qfb r key with | some j=>if qcl r=true then (r.2.1.getD j [],true) else ([],false) | none=>([],false)
theorem qbqz {r:Rel} (hr:RelSm r) (key:Row):(lookup r key).1.length≤M:=by
 unfold lookup
 split
 ·rename_i j hj
  split
  ·exact hr.row _ (qbp (qsz hj))
  ·simp
 ·simp
theorem qbng {X:Ext} (hX:XC X) {n:Nat} (hn:W+11≤n) (r:Rel) (hr:RelSm r) (key:Row):qu1 (DD X n) r key=some (((lookup r key).1,(lookup r key).2,()),()):=by
 obtain ⟨n,rfl⟩:∃ k,n=k+1:=⟨n - 1,by omega⟩
 have hM:=qbt
 have hb:=qcm
 rw[qblr hX.ok]
 simp only[q11,q89]
 rw[qbch hX.ok (by omega) r hr,qf,qqp hX (by omega) r hr,qf]
 unfold lookup
 cases hk:qfb r key with
 | none=>cases qcl r<;>rfl
 | some j=>
  have hj:=qsz hk
  dsimp only
  rw[ix hj,br_t,Int.toNat_natCast]
  cases qcl r
  ·rfl
  ·have:=hr.row _ (qbp (d:=[]) hj)
   rw[qw9 hX.ok (by omega) _ (by omega),qf,Bool.not_true,cond_false,qn (by omega)];rfl
end Go.G

namespace Go.G
set_option maxRecDepth 100000
open Go Go.V Go.Proofs
theorem qbd1 {X:Ext} (hX:XOk X) {n:Nat} (hn:1≤n) (a:List Int) (ha:a.length≤qbh):qjz (DD X n) a=some ((a,()),()):=by
 obtain ⟨n,rfl⟩:∃ k,n=k+1:=⟨n - 1,by omega⟩
 rw[q5v hX]
 simp only[qnt,quv]
 have hc:decide (0+a.length≤qbh)=true:=decide_eq_true (by omega)
 rw[hc,br_t,List.nil_append]
 cases a with
 | nil=>simp[qba5,both]
 | cons x a=>rw[qn (by simp)]
theorem qbor {X:Ext} (hX:XOk X) {n:Nat} (hn:1≤n) (a:List Col) (ha:a.length≤qbh):qhf (DD X n) a=some ((a,()),()):=by
 obtain ⟨n,rfl⟩:∃ k,n=k+1:=⟨n - 1,by omega⟩
 rw[qu6 hX]
 simp only[qhd,qlv]
 have hc:decide (0+a.length≤qbh)=true:=decide_eq_true (by omega)
 rw[hc,br_t,List.nil_append]
 cases a with
 | nil=>simp[qba5,both]
 | cons x a=>rw[qn (by simp)]
theorem qbsb {X:Ext} (hX:XOk X) (N n:Nat) (hN:1≤N) (K:q8→q8→Option ((q8×Unit)×Unit)) (xs:List qj6) (hx:xs.length≤M) (hc:∀ x∈xs,x.2.1.length≤M) (z:q8) (c:List Col) (k:List Int):∀ (m i:Nat) (acc:List qj6),i≤xs.length→xs.length - i<m→acc.length≤i→
  qhy (DD X N) n K m xs xs.length (i:Int) z (c,k,acc,())=K z (c,k,acc++xs.drop i,())
 | 0,_,_,_,h,_=>by omega
 | m+1,i,acc,hi,hf,ha=>by
  have hM:=qbt
  have hb:=qcm
  simp only[qhy,qsy]
  by_cases h:i<xs.length
  ·rw[qm (by exact_mod_cast h),ix h,br_t,Int.toNat_natCast,qp (by omega),qcx h,qbc h]
   have:=hc _ (List.getElem_mem h)
   rw[qbd1 hX hN _ (by omega),qf,qm (by omega)]
   refine Eq.trans (qbsb hX N n hN K xs hx hc z c k m (i+1) _ (by omega) (by omega) (by simp;omega)) ?_
   rw[List.append_assoc];rfl
  ·rw[qn (by exact_mod_cast h),qf3 h,List.append_nil]
theorem qbe1 {X:Ext} (hX:XOk X) {n:Nat} (hn:W+3≤n) (s:q8) (hs:SchSm s):quj (DD X n) s=some ((s,()),()):=by
 obtain ⟨n,rfl⟩:∃ k,n=k+1:=⟨n - 1,by omega⟩
 have hM:=qbt
 have hb:=qcm
 have hW:=qb2
 have h1:=hs.cols
 have h2:=hs.key
 have h3:=hs.ixs
 rw[qbcq hX]
 simp only[qt0,qt1,qq7]
 rw[qbor hX (by omega) _ (by omega),qf,qbd1 hX (by omega) _ (by omega),qf]
 dsimp only
 refine Eq.trans (qbsb hX n n (by omega) _ s.2.2.1 h3 hs.ixc _ s.1 s.2.1 n 0 [] (by omega) (by omega) (by simp)) ?_
 rfl
theorem qbhd {X:Ext} (D:Den ctx) (n:Nat) (K:q8→q8→Option ((q8×Unit)×Unit)) (s:q8) (hx:s.2.2.1.length≤M) (hc:∀ x∈s.2.2.1,x.2.1.length≤M) (z:q8) (c:List Col) (k:List Int):∀ (m i:Nat) (acc:List qj6),i≤s.2.2.1.length→s.2.2.1.length - i<m→acc.length≤i→
  qkj D n K m (i:Int) s z (c,k,acc,())=K z (c,k,acc++s.2.2.1.drop i,())
 | 0,_,_,_,h,_=>by omega
 | m+1,i,acc,hi,hf,ha=>by
  have hM:=qbt
  have hb:=qcm
  simp only[qkj,qww]
  by_cases h:i<s.2.2.1.length
  ·have:=hc _ (List.getElem_mem h)
   rw[qm (by exact_mod_cast h),ix h,br_t,Int.toNat_natCast,qp (by omega),qcx h,qbc h,qm (by omega),qm (by omega)]
   refine Eq.trans (qbhd (X:=X) D n K s hx hc z c k m (i+1) _ (by omega) (by omega) (by simp;omega)) ?_
   rw[List.append_assoc];rfl
  ·rw[qn (by exact_mod_cast h),qf3 h,List.append_nil]
theorem q3u {X:Ext} (hX:XOk X) {n:Nat} (hn:W+3≤n) (s:q8) (hs:SchSm s):qtm (DD X n) s=some ((s,()),()):=by
 obtain ⟨n,rfl⟩:∃ k,n=k+1:=⟨n - 1,by omega⟩
 have hM:=qbt
 have hb:=qcm
 have hW:=qb2
 have h1:=hs.cols
 have h2:=hs.key
 have h3:=hs.ixs
 rw[qbiz hX]
 simp only[qzr,qzf,qvt]
 rw[qm (by omega),qm (by omega)]
 refine Eq.trans (qbhd (X:=X) (DD X n) n _ s h3 hs.ixc _ ([]++s.1) ([]++s.2.1) n 0 [] (by omega) (by omega) (by simp)) ?_
 rfl
def q32 (s:q8):Rel×Bool:=if qcl (s,[],())=true then ((s,[],()),true) else ((([],[],[],()),[],()),false)
theorem qbq7 {s:q8} (hs:SchSm s):RelSm (s,[],()):=⟨hs,Nat.zero_le _,fun _ h=>nomatch h⟩
theorem qbnm {X:Ext} (hX:XOk X) {n:Nat} (hn:W+9≤n) (s:q8) (hs:SchSm s):q1p (DD X n) s=some (((q32 s).1,(q32 s).2,()),()):=by
 obtain ⟨n,rfl⟩:∃ k,n=k+1:=⟨n - 1,by omega⟩
 rw[qbly hX]
 simp only[q13,q88]
 rw[q3u hX (by omega) s hs,qf]
 dsimp only
 have e:=q0e hX (n:=n) (by omega) (s,[],()) (qbq7 hs)
 refine Eq.trans (congrArg (fun x=>qg x _) e) ?_
 rw[qf]
 unfold q32
 cases qcl (s,[],())<;>rfl
end Go.G

namespace Go.G
set_option maxRecDepth 100000
open Go Go.V Go.Proofs
theorem q29 (x:Int):IntKind.wrap IntKind.u8 x=x % 256:=by
 simp[IntKind.wrap,IntKind.signed,IntKind.bits]
def qbgv (y:Int) (k:Nat):Int:=IntKind.wrap IntKind.u8 (Int.fdiv y (Int.pow 2 (8 * k)))
def quw (y:Int):Nat→List Int
 | 0=>[]
 | k+1=>qbgv y k::quw y k
theorem qxf (y:Int):∀ k,(quw y k).length=k
 | 0=>rfl
 | k+1=>by rw[quw,List.length_cons,qxf y k]
theorem qbt8 {x:Int} {k:Nat} (h:x=8 * k) (hk:k<8):(if Int.toNat x≤IntKind.bits IntKind.i64 then Int.toNat x else IntKind.bits IntKind.i64)=8 * k:=by
 have:IntKind.bits IntKind.i64=64:=rfl
 rw[this,if_pos (by omega)];omega
def escF (t:ByteArray):Nat→Nat→List Int
 | _,0=>[]
 | i,k+1=>((t.data.getD i (UInt8.ofNat 0)).toNat:Int)::((if ((t.data.getD i (UInt8.ofNat 0)).toNat:Int)=0 then [255] else [])++escF t (i+1) k)
theorem qbe4 (t:ByteArray):∀ k i,(escF t i k).length≤2 * k
 | 0,_=>Nat.le_refl _
 | k+1,i=>by
  have:=qbe4 t k (i+1)
  simp only[escF,List.length_cons,List.length_append]
  split<;>simp<;>omega
def tagI (v:Value):Int:=IntKind.wrap IntKind.u8 (IntKind.wrap IntKind.i64 (v.1+1))
def qe4 (v:Value):List Int:=
 if v.1=1 then [tagI v,IntKind.wrap IntKind.u8 v.2.1] else
 if v.1=2 then tagI v::quw (IntKind.wrap IntKind.i64 (v.2.1+4611686018427387904)) 8 else
 if v.1=3 then tagI v::(escF v.2.2.1 0 v.2.2.1.size++[0,1]) else [tagI v]
theorem qbjg {v:Value} (h:qc9 v=true):(qe4 v).length≤43:=by
 unfold qe4
 split
 ·simp
 ·split
  ·rw[List.length_cons,qxf];omega
  ·split
   ·rename_i h1 h2 h3
    have hs:v.2.2.1.size≤20:=by
     unfold qc9 at h
     rw[h3] at h
     simp at h
     omega
    have:=qbe4 v.2.2.1 v.2.2.1.size 0
    simp only[List.length_cons,List.length_append,List.length_nil];omega
   ·simp
def qle (a:Row):List Int:=if qqn a=true then a.flatMap qe4 else []
theorem q1r {a:Row} (h:qqn a=true):a.length≤4∧∀ v∈a,qc9 v=true:=by
 simp only[qqn,Bool.and_eq_true,decide_eq_true_eq,Bool.not_eq_true'] at h
 refine ⟨by omega,fun v hv=>?_⟩
 obtain ⟨i,hi,rfl⟩:=List.mem_iff_getElem.1 hv
 have k:=qbn.1 h.2 i (by omega) (by omega)
 rw[qbc hi,Bool.not_eq_false'] at k
 exact k
theorem qbkq (D:Den ctx) (n:Nat) (K:Row→Int→Int→List Int→Option ((List Int×Unit)×Unit)) (a:Row) (p q:Int) (v:Value):∀ (k m:Nat) (acc:List Int),k≤8→k<m→acc.length+k≤qbh→
  qf7 D n K m ((k:Int) - 1) a p q acc v=K a p q (acc++quw (IntKind.wrap IntKind.i64 (v.2.1+4611686018427387904)) k)
 | 0,m+1,acc,hk,hm,hb=>by
  simp only[qf7,qmy]
  rw[qn (by omega),quw,List.append_nil]
 | k+1,m+1,acc,hk,hm,hb=>by
  have hbd:=qcm
  simp only[qf7,qmy]
  have e:((k+1:Nat):Int) - 1=(k:Int):=by omega
  have e2:IntKind.wrap IntKind.i64 (8 * (k:Int))=8 * (k:Int):=qc8 (by omega) (by omega)
  have e3:IntKind.wrap IntKind.i64 ((k:Int) - 1)=(k:Int) - 1:=qc8 (by omega) (by omega)
  rw[e,e2,e3,qm (by omega),qn (by omega),qm (by omega),qbt8 rfl (by omega)]
  refine Eq.trans (qbkq D n K a p q v k m _ (by omega) (by omega) (by simp;omega)) ?_
  rw[List.append_assoc];rfl
theorem q7p (D:Den ctx) (n:Nat) (K:Row→Int→Int→List Int→Option ((List Int×Unit)×Unit)) (a:Row) (p q:Int) (v:Value) (hv:v.2.2.1.size≤20):∀ (m i:Nat) (acc:List Int),i≤v.2.2.1.size→v.2.2.1.size - i<m→acc.length+2 * (v.2.2.1.size - i)≤qbh→
  qhx D n K m a p q (v.2.2.1.size:Int) (i:Int) acc v=K a p q (acc++escF v.2.2.1 i (v.2.2.1.size - i))
 | 0,i,acc,hi,hm,hb=>by omega
 | m+1,i,acc,hi,hm,hb=>by
  have hbd:=qcm
  simp only[qhx,qsk]
  by_cases h:i<v.2.2.1.size
  ·have hc:(decide (0≤(i:Int))&&decide ((i:Int)<(v.2.2.1.size:Int)))=true:=by
    simp only[Bool.and_eq_true,decide_eq_true_eq];omega
   obtain ⟨k,hk⟩:∃ k,v.2.2.1.size - i=k+1:=⟨v.2.2.1.size - i - 1,by omega⟩
   have hk2:v.2.2.1.size - (i+1)=k:=by omega
   rw[qm (by exact_mod_cast h),hc,br_t,qm (by omega),br_t,Int.toNat_natCast,qp (by omega),hk]
   simp only[escF]
   by_cases h0:((v.2.2.1.data.getD i (UInt8.ofNat 0)).toNat:Int)=0
   ·rw[qm h0,if_pos h0,qm (by simp;omega)]
    refine Eq.trans (q7p D n K a p q v hv m (i+1) _ (by omega) (by omega) (by simp;omega)) ?_
    rw[hk2];simp
   ·rw[qn h0,if_neg h0]
    refine Eq.trans (q7p D n K a p q v hv m (i+1) _ (by omega) (by omega) (by simp;omega)) ?_
    rw[hk2];simp
  ·have:v.2.2.1.size - i=0:=by omega
   rw[qn (by exact_mod_cast h),this,escF,List.append_nil]
theorem qbea (D:Den ctx) (n:Nat) (hn:W≤n) (K:List Int→Option ((List Int×Unit)×Unit)) (a:Row) (ha:a.length≤4) (hv:∀ v∈a,qc9 v=true):∀ (m i:Nat) (acc:List Int),i≤a.length→a.length - i<m→acc.length≤43 * i→
  qeq D n K m a (a.length:Int) (i:Int) acc=K (acc++(a.drop i).flatMap qe4)
 | 0,i,acc,hi,hm,hb=>by omega
 | m+1,i,acc,hi,hm,hb=>by
  have hbd:=qcm
  have hW:=qb2
  simp only[qeq,qsc,qq3,qqu]
  by_cases h:i<a.length
  ·have hvi:=hv _ (List.getElem_mem h)
   have l1:=qbjg hvi
   have ih:=fun acc2 h2=>qbea D n hn K a ha hv m (i+1) acc2 (by omega) (by omega) h2
   rw[qm (by exact_mod_cast h),ix h,br_t,Int.toNat_natCast,qbc h,qp (by omega),qcx h,List.flatMap_cons,qm (by omega)]
   unfold qe4 at l1 ⊢
   by_cases h1:a[i].1=1
   ·rw[qm h1,if_pos h1,qm (by simp;omega)]
    rw[if_pos h1] at l1
    refine Eq.trans (ih _ (by simp;omega)) ?_
    rw[List.append_assoc,List.append_assoc];rfl
   ·rw[qn h1,if_neg h1]
    rw[if_neg h1] at l1
    by_cases h2:a[i].1=2
    ·rw[qm h2,if_pos h2]
     rw[if_pos h2] at l1
     refine Eq.trans (qbkq D n _ a (a.length:Int) (i:Int) a[i] 8 n _ (by omega) (by omega) (by simp;omega)) ?_
     simp only[qpf]
     rw[qp (by omega)]
     refine Eq.trans (ih _ (by simp[qxf];omega)) ?_
     rw[List.append_assoc,List.append_assoc];rfl
    ·rw[qn h2,if_neg h2]
     rw[if_neg h2] at l1
     by_cases h3:a[i].1=3
     ·have hs:a[i].2.2.1.size≤20:=by
       unfold qc9 at hvi
       rw[h3] at hvi
       simp at hvi
       omega
      have hl:=qbe4 a[i].2.2.1 a[i].2.2.1.size 0
      rw[qm h3,if_pos h3]
      rw[if_pos h3] at l1
      refine Eq.trans (q7p D n _ a (a.length:Int) (i:Int) a[i] hs n 0 _ (by omega) (by omega) (by simp;omega)) ?_
      simp only[qo9,Nat.sub_zero]
      rw[qm (by simp;omega),qp (by omega)]
      refine Eq.trans (ih _ (by simp;omega)) ?_
      simp only[tagI,List.append_assoc,List.cons_append,List.nil_append]
      rfl
     ·rw[qn h3,if_neg h3]
      rw[if_neg h3] at l1
      refine Eq.trans (ih _ (by simp;omega)) ?_
      rw[List.append_assoc];rfl
  ·rw[qn (by exact_mod_cast h),qf3 h];simp
theorem qpg {X:Ext} (hX:XOk X) {n:Nat} (hn:W+5≤n) (a:Row) (ha:a.length≤M):qob (DD X n) a=some ((qle a,()),()):=by
 obtain ⟨n,rfl⟩:∃ k,n=k+1:=⟨n - 1,by omega⟩
 have hM:=qbt
 have hW:=qb2
 rw[qbdf hX]
 simp only[quk,qt5,qqw]
 rw[qblq hX (n:=n) (by omega) a ha,qf]
 unfold qle
 cases ht:qqn a
 ·rfl
 ·obtain ⟨h1,h2⟩:=q1r ht
  refine Eq.trans (qbea (DD X n) n (by omega) _ a h1 h2 n 0 [] (by omega) (by omega) (by simp)) ?_
  rfl
def qth (l:List Int):ByteArray:=ByteArray.mk (List.toArray (List.map (fun n↦UInt8.ofNat (Int.toNat n)) l))
abbrev Way:=ByteArray×ByteArray×Unit
def qbho (r:Rel) (i:Int) (row:Row):Way×Bool:=
 if (qey r.1 row&&inR i 0 ((r.1.2.2.1.length:Int) - 1))=true then ((qth (qle (qj row (r.1.2.2.1.getD i.toNat xd).2.1)),qth (qle (qj row r.1.2.1)),()),true) else ((ByteArray.empty,ByteArray.empty,()),false)
theorem qbeb {X:Ext} (hX:XOk X) {n:Nat} (hn:W+8≤n) (r:Rel) (hr:RelSm r) (i:Int) (row:Row) (hw:row.length≤M):qsd (DD X n) r i row=some (((qbho r i row).1,(qbho r i row).2,()),()):=by
 obtain ⟨n,rfl⟩:∃ k,n=k+2:=⟨n - 2,by omega⟩
 have hM:=qbt
 have h3:=hr.sch.ixs
 rw[qbmz hX]
 simp only[q37,qbaj]
 rw[qz9 hX (by omega) r.1 hr.sch row hw,qf,qux hX (by omega),qf,qc8 (by omega) (by omega)]
 unfold qbho
 dsimp only
 cases qey r.1 row
 ·rfl
 ·cases hin:inR i 0 ((r.1.2.2.1.length:Int) - 1)
  ·rfl
  ·obtain ⟨p1,p2⟩:=qbbc hin
   have hp:i.toNat<r.1.2.2.1.length:=by omega
   have l1:=qeh row (r.1.2.2.1.getD i.toNat xd).2.1
   have l2:=qeh row r.1.2.1
   have l3:=hr.sch.ixc _ (qbp (d:=xd) hp)
   have l4:=hr.sch.key
   rw[qbgh hX]
   simp only[q2x,q8l]
   rw[ixn p1 p2,br_t,qp5 hX (by omega) row hw _ l3,qf]
   dsimp only
   rw[qpg hX (by omega) _ (by omega),qf,qgh hX (by omega) r.1 row hw l4,qf]
   dsimp only
   rw[qpg hX (by omega) _ (by omega),qf]
   rfl
end Go.G

namespace Go.G
set_option maxRecDepth 100000
open Go Go.V Go.Proofs
theorem qbso (D:Den ctx) (n:Nat) (K:List Row→Option ((List Row×Unit)×Unit)) (a:List Row) (ha:a.length≤M) (hr:∀ x∈a,x.length≤M):∀ (m i:Nat) (acc:List Row),i≤a.length→a.length - i<m→acc.length≤i→
  qkf D n K m a (i:Int) acc=K (acc++a.drop i)
 | 0,_,_,_,h,_=>by omega
 | m+1,i,acc,hi,hf,hl=>by
  have hM:=qbt
  have hb:=qcm
  simp only[qkf,qwt]
  by_cases h:i<a.length
  ·have:=hr _ (List.getElem_mem h)
   rw[qm (by exact_mod_cast h),ix h,br_t,Int.toNat_natCast,qbc h,qm (by omega),qm (by omega),qp (by omega),qcx h]
   refine Eq.trans (qbso D n K a ha hr m (i+1) _ (by omega) (by omega) (by simp;omega)) ?_
   rw[List.append_assoc];rfl
  ·rw[qn (by exact_mod_cast h),qf3 h,List.append_nil]
theorem q0v {X:Ext} (hX:XOk X) {n:Nat} (hn:W+1≤n) (a:List Row) (ha:a.length≤M) (hr:∀ x∈a,x.length≤M):qjq (DD X n) a=some ((a,()),()):=by
 obtain ⟨n,rfl⟩:∃ k,n=k+1:=⟨n - 1,by omega⟩
 have hM:=qbt
 have hW:=qb2
 rw[qbjd hX]
 simp only[qyu,qzo,qvn]
 refine Eq.trans (qbso (DD X n) n _ a ha hr n 0 [] (by omega) (by omega) (by simp)) ?_
 rfl
theorem qbm1 {X:Ext} (hX:XOk X) (N n:Nat) (hN:1≤N) (K:List Row→Option ((List Row×Unit)×Unit)) (a:List Row) (ha:a.length≤M) (hr:∀ x∈a,x.length≤M):∀ (m i:Nat) (acc:List Row),i≤a.length→a.length - i<m→acc.length≤i→
  qhw (DD X N) n K m a (a.length:Int) (i:Int) acc=K (acc++a.drop i)
 | 0,_,_,_,h,_=>by omega
 | m+1,i,acc,hi,hf,hl=>by
  have hM:=qbt
  have hb:=qcm
  simp only[qhw,qte]
  by_cases h:i<a.length
  ·have:=hr _ (List.getElem_mem h)
   rw[qm (by exact_mod_cast h),ix h,br_t,Int.toNat_natCast,qbc h,qw9 hX hN _ (by omega),qf,qm (by omega),qp (by omega),qcx h]
   refine Eq.trans (qbm1 hX N n hN K a ha hr m (i+1) _ (by omega) (by omega) (by simp;omega)) ?_
   rw[List.append_assoc];rfl
  ·rw[qn (by exact_mod_cast h),qf3 h,List.append_nil]
theorem qbm4 {X:Ext} (hX:XOk X) {n:Nat} (hn:W+2≤n) (a:List Row) (ha:a.length≤M) (hr:∀ x∈a,x.length≤M):qua (DD X n) a=some ((a,()),()):=by
 obtain ⟨n,rfl⟩:∃ k,n=k+1:=⟨n - 1,by omega⟩
 have hM:=qbt
 have hW:=qb2
 rw[qbc9 hX]
 simp only[que,qun,qrf]
 refine Eq.trans (qbm1 hX n n (by omega) _ a ha hr n 0 [] (by omega) (by omega) (by simp)) ?_
 rfl
theorem qbbv {X:Ext} (hX:XOk X) {n:Nat} (hn:W+4≤n) (r:Rel) (hr:RelSm r):qor (DD X n) r=some ((r,()),()):=by
 obtain ⟨n,rfl⟩:∃ k,n=k+1:=⟨n - 1,by omega⟩
 rw[qbjs hX]
 simp only[qzn,q6x]
 rw[q3u hX (by omega) _ hr.sch,qf,q0v hX (by omega) _ hr.rows hr.row,qf]
theorem qz2 {X:Ext} (hX:XOk X) {n:Nat} (hn:W+4≤n) (r:Rel) (hr:RelSm r):qi1 (DD X n) r=some ((r,()),()):=by
 obtain ⟨n,rfl⟩:∃ k,n=k+1:=⟨n - 1,by omega⟩
 rw[q9s hX]
 simp only[qq9,qyf]
 rw[qbe1 hX (by omega) _ hr.sch,qf,qbm4 hX (by omega) _ hr.rows hr.row,qf]
def others (r:Rel) (row:Row) (j:Int):Bool:=qt (fun k=>!decide ((k:Int)=j)&&qj1 r.1 (r.2.1.getD k []) row) 0 r.2.1.length
theorem qbd7 {X:Ext} (hX:XOk X) {n:Nat} (hn:W+4≤n) (r:Rel) (hr:RelSm r) (row:Row) (hw:row.length≤M) (j:Int):qpu (DD X n) r row j=some ((others r row j,()),()):=by
 obtain ⟨n,rfl⟩:∃ k,n=k+1:=⟨n - 1,by omega⟩
 have hM:=qbt
 have hW:=qb2
 have h2:=hr.rows
 rw[qbfc hX]
 simp only[qvj,qv3,qs0]
 refine Eq.trans (qi0 (L:=fun m i=>qie (DD X n) n _ _ m row j (i:Int) r) (N:=r.2.1.length) (P:=fun k=>!decide ((k:Int)=j)&&qj1 r.1 (r.2.1.getD k []) row)
  (A:=some ((true,()),())) (B:=some ((false,()),())) (fun m i hi=>?_) (m:=n) (by omega)) ?_
 ·simp only[qie,qt9]
  by_cases h:i<r.2.1.length
  ·rw[qm (by exact_mod_cast h),ix h,br_t,Int.toNat_natCast,qbd9 hX (by omega) r.1 hr.sch _ _ (hr.row _ (qbp h)) hw,qf,qp (by omega),if_pos h,qtk]
   cases decide ((i:Int)=j)<;>rfl
  ·rw[qn (by exact_mod_cast h),if_neg h];rfl
 ·unfold others
  cases qt (fun k=>!decide ((k:Int)=j)&&qj1 r.1 (r.2.1.getD k []) row) 0 r.2.1.length<;>rfl
def qgc (r:Rel) (row:Row):Rel×Int:=
 if qcl r=true∧qey r.1 row=true then
  match qfb r (qj row r.1.2.1) with
  | some j=>if others r row j=true then (r,3) else ((r.1,r.2.1.set j row,()),0)
  | none=>(r,4)
 else (r,1)
theorem qbmf {X:Ext} (hX:XOk X) {n:Nat} (hn:W+9≤n) (r:Rel) (hr:RelSm r) (row:Row) (hw:row.length≤M):qy3 (DD X n) r row=some (((qgc r row).1,(qgc r row).2,()),()):=by
 obtain ⟨n,rfl⟩:∃ k,n=k+1:=⟨n - 1,by omega⟩
 have hM:=qbt
 have hb:=qcm
 rw[qbjm hX]
 simp only[qyj,q6f]
 rw[qbbv hX (by omega) r hr,qf,q0e hX (by omega) r hr,qf,q6d hX (by omega) r.1 hr.sch row hw,qf,qhm hX (by omega) r.1 row hw hr.sch.key,qf]
 dsimp only
 rw[qbj7 hX (by omega) r hr,qf]
 dsimp only
 rw[qbd7 hX (by omega) r hr row hw,qf]
 unfold qgc
 cases qcl r
 ·rfl
 ·cases qey r.1 row
  ·rfl
  ·cases hk:qfb r (qj row r.1.2.1) with
   | none=>rfl
   | some j=>
    have hj:=qsz hk
    dsimp only
    rw[qn (show ¬ (j:Int)<0 by omega),ix hj,br_t,qm (show 0+row.length≤qbh by omega)]
    cases others r row j<;>rfl
theorem qblt {X:Ext} (hX:XC X) {n:Nat} (hn:W+11≤n) (r:Rel) (hr:RelSm r) (row:Row) (hw:row.length≤M):qlm (DD X n) r row=some (((qgc r row).1,(qgc r row).2,()),()):=by
 obtain ⟨n,rfl⟩:∃ k,n=k+1:=⟨n - 1,by omega⟩
 have hM:=qbt
 have hb:=qcm
 have hW:=qb2
 have h2:=hr.rows
 rw[qbjp hX.ok]
 simp only[qy9,qyq,qu7]
 have e1:=qz2 hX.ok (n:=n) (by omega) r hr
 have e2:=qqp hX (n:=n) (by omega) r hr
 have e3:=qz9 hX.ok (n:=n) (by omega) r.1 hr.sch row hw
 have e4:=qgh hX.ok (n:=n) (by omega) r.1 row hw hr.sch.key
 have e5:=qbch hX.ok (n:=n) (by omega) r hr (qj row r.1.2.1)
 rw[e1,qf]
 dsimp only
 refine Eq.trans (congrArg (fun z=>qg z _) e2) ?_
 rw[qf]
 dsimp only
 unfold qgc
 cases qcl r
 ·rfl
 ·rw[Bool.not_true,br_f]
  refine Eq.trans (congrArg (fun z=>qg z _) e3) ?_
  rw[qf]
  dsimp only
  cases hrow:qey r.1 row
  ·rfl
  ·rw[Bool.not_true,br_f]
   refine Eq.trans (congrArg (fun z=>qg z _) e4) ?_
   rw[qf]
   dsimp only
   refine Eq.trans (congrArg (fun z=>qg z _) e5) ?_
   rw[qf]
   dsimp only
   cases hk:qfb r (qj row r.1.2.1) with
   | none=>rfl
   | some j=>
    have hj:=qsz hk
    dsimp only
    rw[qn (show ¬ (j:Int)<0 by omega),if_pos ⟨rfl,rfl⟩]
    refine Eq.trans (qi0 (L:=fun m i=>qkn (DD X n) n _ _ m row (j:Int) (r.2.1.length:Int) (i:Int) r (([],[],[],()),[],())) (N:=r.2.1.length) (P:=fun k=>!decide ((k:Int)=(j:Int))&&qj1 r.1 (r.2.1.getD k []) row)
     (A:=some ((r,3,()),())) (B:=some (((r.1,r.2.1.set j row,()),0,()),())) (fun m i hi=>?_) (m:=n) (by omega)) ?_
    ·simp only[qkn,qxa]
     by_cases h:i<r.2.1.length
     ·have ec:=q5w hX.ok (n:=n) (by omega) r.1 hr.sch row (r.2.1.getD i []) hw (hr.row _ (qbp h)) (qxb hrow)
      rw[qm (by exact_mod_cast h),ix h,br_t,Int.toNat_natCast,qp (by omega),if_pos h,qtk]
      cases decide ((i:Int)=(j:Int))
      ·rw[Bool.not_false,br_t]
       refine Eq.trans (congrArg (fun z=>qg z _) ec) ?_
       rw[qf,qpq]
       cases qj1 r.1 (r.2.1.getD i []) row<;>rfl
      ·rfl
     ·rw[qn (by exact_mod_cast h),if_neg h]
      simp only[qtw]
      rw[qw9 hX.ok (by omega) row (by omega),qf,ix hj,br_t]
      rfl
    ·unfold others
     cases qt (fun k=>!decide ((k:Int)=(j:Int))&&qj1 r.1 (r.2.1.getD k []) row) 0 r.2.1.length<;>rfl
end Go.G

namespace Go.G
set_option maxRecDepth 100000
open Go Go.V Go.Proofs
def qdz (r:Rel) (key:Row):Nat:=match qw (fun i=>!tlt (qj (r.2.1.getD i []) r.1.2.1) key) 0 r.2.1.length with | some j=>j | none=>r.2.1.length
theorem qba8 (r:Rel) (key:Row):qdz r key≤r.2.1.length:=by
 unfold qdz
 split
 ·rename_i j h
  have:=qdg h;omega
 ·exact Nat.le_refl _
def qcv (r:Rel) (row:Row):Rel×Int:=
 if qcl r=true∧qey r.1 row=true then
  match qfb r (qj row r.1.2.1) with
  | some j=>(r,2)
  | none=>if others r row (-1)=true then (r,3) else if (r.2.1.length:Int)≥12 then (r,5) else
   ((r.1,r.2.1.take (qdz r (qj row r.1.2.1))++[row]++r.2.1.drop (qdz r (qj row r.1.2.1)),()),0)
 else (r,1)
theorem qbut {X:Ext} (hX:XOk X) (N n:Nat) (hN:W+1≤N) (r:Rel) (hr:RelSm r) (row:Row) (hw:row.length≤M) (z:Rel) (p:Nat) (hp:p≤r.2.1.length) :
  qjo (DD X N) n row (p:Int) r z r=some (((r.1,r.2.1.take p++[row]++r.2.1.drop p,()),0,()),()):=by
 have hM:=qbt
 have hb:=qcm
 have h2:=hr.rows
 have c1:(decide ((0:Nat)≤0)&&decide ((0:Int)≤(p:Int))&&decide ((p:Int)≤(r.2.1.length:Int)))=true:=by
  rw[decide_eq_true (by omega),decide_eq_true (by omega),decide_eq_true (by omega)];rfl
 have c2:(decide ((0:Int)≤(p:Int))&&decide ((p:Int)≤(r.2.1.length:Int))&&decide ((r.2.1.length:Int)≤(r.2.1.length:Int)))=true:=by
  rw[decide_eq_true (by omega),decide_eq_true (by omega),decide_eq_true (by omega)];rfl
 have t1:List.drop (Int.toNat 0) (List.take p r.2.1)=r.2.1.take p:=rfl
 simp only[qjo]
 rw[c1,br_t,c2,Int.toNat_natCast,Int.toNat_natCast,t1,List.take_length,q0v hX hN _ (by rw[List.length_take];omega) (fun x hx=>hr.row x (List.mem_of_mem_take hx)),qf]
 dsimp only
 rw[qm (by omega),qm (by rw[List.length_take];omega),br_t,q0v hX hN _ (by rw[List.length_drop];omega) (fun x hx=>hr.row x (List.mem_of_mem_drop hx)),qf]
 dsimp only
 rw[qm (by simp only[List.length_append,List.length_take,List.length_drop,List.length_cons,List.length_nil];omega)]
 rfl
theorem qbni {X:Ext} (hX:XOk X) {n:Nat} (hn:W+9≤n) (r:Rel) (hr:RelSm r) (row:Row) (hw:row.length≤M):q1k (DD X n) r row=some (((qcv r row).1,(qcv r row).2,()),()):=by
 obtain ⟨n,rfl⟩:∃ k,n=k+1:=⟨n - 1,by omega⟩
 have hM:=qbt
 have hW:=qb2
 have hb:=qcm
 have h2:=hr.rows
 have hk:=hr.sch.key
 rw[qblj hX]
 simp only[q12,q05,qxc]
 rw[qbbv hX (by omega) r hr,qf,q0e hX (by omega) r hr,qf,q6d hX (by omega) r.1 hr.sch row hw,qf,qhm hX (by omega) r.1 row hw hk,qf]
 dsimp only
 rw[qbj7 hX (by omega) r hr,qf]
 dsimp only
 rw[qbd7 hX (by omega) r hr row hw,qf]
 unfold qcv
 cases qcl r
 ·rfl
 ·cases qey r.1 row
  ·rfl
  ·rw[if_pos ⟨rfl,rfl⟩,Bool.not_true,br_f,br_f]
   cases hkey:qfb r (qj row r.1.2.1) with
   | some j=>
    dsimp only
    rw[qm (show (j:Int)≥0 by omega)]
   | none=>
    dsimp only
    rw[qn (by decide)]
    cases others r row (-1)
    ·rw[br_f,if_neg Bool.noConfusion]
     by_cases h12:(r.2.1.length:Int)≥12
     ·rw[qm h12,if_pos h12]
     ·rw[qn h12,if_neg h12]
      refine Eq.trans (qss (L:=fun m i=>qlr (DD X n) n _ m row (i:Int) r (([],[],[],()),[],()) r) (N:=r.2.1.length) (P:=fun i=>!tlt (qj (r.2.1.getD i []) r.1.2.1) (qj row r.1.2.1))
       (A:=fun j=>qjo (DD X n) n row (j:Int) r (([],[],[],()),[],()) r) (B:=qjo (DD X n) n row (r.2.1.length:Int) r (([],[],[],()),[],()) r) (fun m i hi=>?_) (m:=n) (by omega)) ?_
      ·simp only[qlr,qzi]
       by_cases h:i<r.2.1.length
       ·have l1:=qeh (r.2.1.getD i []) r.1.2.1
        rw[qm (by exact_mod_cast h),ix h,br_t,Int.toNat_natCast,qhm hX (by omega) r.1 _ (hr.row _ (qbp h)) hk,qf,qhm hX (by omega) r.1 row hw hk,qf]
        dsimp only
        rw[q42 hX (by omega) _ _ (by omega),qf,qp (by omega),if_pos h]
        dsimp only
        cases tlt (qj (r.2.1.getD i []) r.1.2.1) (qj row r.1.2.1)<;>rfl
       ·have hin:i=r.2.1.length:=by omega
        rw[qn (by exact_mod_cast h),if_neg h,hin]
      ·unfold qdz
       cases hf:qw (fun i=>!tlt (qj (r.2.1.getD i []) r.1.2.1) (qj row r.1.2.1)) 0 r.2.1.length with
       | none=>exact qbut hX n n (by omega) r hr row hw _ _ (Nat.le_refl _)
       | some j=>
        have:=qdg hf
        exact qbut hX n n (by omega) r hr row hw _ j (by omega)
    ·rfl
def qhj (r:Rel) (key:Row):Rel×Int:=
 if qcl r=true then
  match qfb r key with
  | some j=>((r.1,r.2.1.take j++r.2.1.drop (j+1),()),0)
  | none=>(r,4)
 else (r,1)
theorem qbm9 {X:Ext} (hX:XOk X) {n:Nat} (hn:W+9≤n) (r:Rel) (hr:RelSm r) (key:Row):q1z (DD X n) r key=some (((qhj r key).1,(qhj r key).2,()),()):=by
 obtain ⟨n,rfl⟩:∃ k,n=k+1:=⟨n - 1,by omega⟩
 have hM:=qbt
 have hW:=qb2
 have hb:=qcm
 have h2:=hr.rows
 rw[qblp hX]
 simp only[q09,q85]
 rw[qbbv hX (by omega) r hr,qf,q0e hX (by omega) r hr,qf,qbj7 hX (by omega) r hr,qf]
 unfold qhj
 cases qcl r
 ·rfl
 ·rw[if_pos rfl,Bool.not_true,br_f]
  cases hkey:qfb r key with
  | none=>rfl
  | some j=>
   have hj:=qsz hkey
   dsimp only
   have w1:IntKind.wrap IntKind.i64 ((j:Int)+1)=((j+1:Nat):Int):=qp (by omega)
   have c1:(decide ((0:Nat)≤0)&&decide ((0:Int)≤(j:Int))&&decide ((j:Int)≤(r.2.1.length:Int)))=true:=by
    rw[decide_eq_true (by omega),decide_eq_true (by omega),decide_eq_true (by omega)];rfl
   have c2:(decide ((0:Int)≤((j+1:Nat):Int))&&decide (((j+1:Nat):Int)≤(r.2.1.length:Int))&&decide ((r.2.1.length:Int)≤(r.2.1.length:Int)))=true:=by
    rw[decide_eq_true (by omega),decide_eq_true (by omega),decide_eq_true (by omega)];rfl
   have t1:List.drop (Int.toNat 0) (List.take j r.2.1)=r.2.1.take j:=rfl
   rw[qn (show ¬ (j:Int)<0 by omega),c1,br_t,w1,c2,Int.toNat_natCast,Int.toNat_natCast,Int.toNat_natCast,t1,List.take_length,q0v hX (by omega) _ (by rw[List.length_take];omega) (fun x hx=>hr.row x (List.mem_of_mem_take hx)),qf]
   dsimp only
   rw[br_t,q0v hX (by omega) _ (by rw[List.length_drop];omega) (fun x hx=>hr.row x (List.mem_of_mem_drop hx)),qf]
   dsimp only
   rw[qm (by simp only[List.length_take,List.length_drop];omega)]
end Go.G

namespace Go.G
set_option maxRecDepth 100000
open Go Go.V Go.Proofs
theorem qbb4:∀ (x y:List UInt8),Op.bytesLess x y=decide (x<y)
 | [],[]=>by simp[Op.bytesLess]
 | _::_,[]=>by simp[Op.bytesLess]
 | [],_::_=>by simp[Op.bytesLess]
 | a::x,b::y=>by
  rw[Op.bytesLess,qbb4 x y]
  simp only[List.cons_lt_cons_iff]
  by_cases h1:a<b<;>by_cases h2:a=b<;>by_cases h3:x<y<;>simp[h1,h2,h3]
theorem qbar {a b:ByteArray} (h:a.toList=b.toList):a=b:=by
 have h2:a.data.toList=b.data.toList:=by simpa [ByteArray.toList_eq] using h
 cases a;cases b
 simp only[ByteArray.mk.injEq]
 exact Array.toList_inj.1 h2
theorem qbca (a b:Value):vlt a b=true↔a.1<b.1∨(a.1=b.1∧(a.2.1<b.2.1∨(a.2.1=b.2.1∧a.2.2.1.toList<b.2.2.1.toList))):=by
 simp only[vlt,qbb4]
 by_cases h1:a.1=b.1
 ·by_cases h2:a.2.1=b.2.1
  ·rw[decide_eq_true h1,decide_eq_true h2];simp[h1,h2]
  ·rw[decide_eq_true h1,decide_eq_false h2];simp[h1,h2]
 ·rw[decide_eq_false h1];simp[h1]
theorem qbqv (a:Value):¬ vlt a a=true:=by
 rw[qbca]
 rintro (h | ⟨_,h | ⟨_,h⟩⟩)
 ·omega
 ·omega
 ·exact List.lt_irrefl _ h
theorem qbry {a b c:Value} (h:vlt a b=true) (k:vlt b c=true):vlt a c=true:=by
 rw[qbca] at *
 rcases h with h | ⟨h,h2⟩
 ·rcases k with k | ⟨k,_⟩
  ·exact .inl (by omega)
  ·exact .inl (by omega)
 ·rcases k with k | ⟨k,k2⟩
  ·exact .inl (by omega)
  ·refine .inr ⟨by omega,?_⟩
   rcases h2 with h2 | ⟨h2,h3⟩
   ·rcases k2 with k2 | ⟨k2,_⟩
    ·exact .inl (by omega)
    ·exact .inl (by omega)
   ·rcases k2 with k2 | ⟨k2,k3⟩
    ·exact .inl (by omega)
    ·exact .inr ⟨by omega,List.lt_trans h3 k3⟩
theorem qbsp (a b:Value):vlt a b=true∨a=b∨vlt b a=true:=by
 rw[qbca,qbca]
 obtain ⟨a1,a2,a3,⟨⟩⟩:=a
 obtain ⟨b1,b2,b3,⟨⟩⟩:=b
 dsimp only
 by_cases h1:a1<b1
 ·exact .inl (.inl h1)
 ·by_cases h2:b1<a1
  ·exact .inr (.inr (.inl h2))
  ·have e1:a1=b1:=by omega
   by_cases h3:a2<b2
   ·exact .inl (.inr ⟨e1,.inl h3⟩)
   ·by_cases h4:b2<a2
    ·exact .inr (.inr (.inr ⟨e1.symm,.inl h4⟩))
    ·have e2:a2=b2:=by omega
     by_cases h5:a3.toList<b3.toList
     ·exact .inl (.inr ⟨e1,.inr ⟨e2,h5⟩⟩)
     ·by_cases h6:b3.toList<a3.toList
      ·exact .inr (.inr (.inr ⟨e1.symm,.inr ⟨e2.symm,h6⟩⟩))
      ·have e3:a3=b3:=qbar (List.le_antisymm (List.not_lt.1 h6) (List.not_lt.1 h5))
       subst e1;subst e2;subst e3
       exact .inr (.inl rfl)
theorem q2v:∀ (a:Row),tlt a a=false
 | []=>rfl
 | x::a=>by
  show (if x=x then tlt a a else vlt x x)=false
  rw[if_pos rfl];exact q2v a
theorem q5o:∀ {a b c:Row},tlt a b=true→tlt b c=true→tlt a c=true
 | [],[],_,h,_=>by simp[tlt] at h
 | [],_::_,[],_,k=>by simp[tlt] at k
 | [],_::_,_::_,_,_=>rfl
 | _::_,[],_,h,_=>by simp[tlt] at h
 | _::_,_::_,[],_,k=>by simp[tlt] at k
 | x::a,y::b,z::c,h,k=>by
  simp only[tlt] at *
  by_cases e1:x=y
  ·subst e1
   rw[if_pos rfl] at h
   by_cases e2:x=z
   ·rw[if_pos e2] at k ⊢;exact q5o h k
   ·rw[if_neg e2] at k ⊢;exact k
  ·rw[if_neg e1] at h
   by_cases e2:y=z
   ·subst e2;rw[if_neg e1];exact h
   ·rw[if_neg e2] at k
    have:=qbry h k
    rw[if_neg (fun e=>qbqv x (by rw[←e] at this;exact this))]
    exact this
theorem qbbn:∀ (a b:Row),tlt a b=true∨a=b∨tlt b a=true
 | [],[]=>.inr (.inl rfl)
 | [],_::_=>.inl rfl
 | _::_,[]=>.inr (.inr rfl)
 | x::a,y::b=>by
  simp only[tlt]
  by_cases e:x=y
  ·subst e
   rw[if_pos rfl,if_pos rfl]
   rcases qbbn a b with h | h | h
   ·exact .inl h
   ·exact .inr (.inl (by rw[h]))
   ·exact .inr (.inr h)
  ·rw[if_neg e,if_neg (fun k=>e k.symm)]
   rcases qbsp x y with h | h | h
   ·exact .inl h
   ·exact absurd h e
   ·exact .inr (.inr h)
theorem qbk9 {a b:Row} (h:tlt a b=true):tlt b a=false:=by
 cases k:tlt b a
 ·rfl
 ·have:=q5o h k
  rw[q2v] at this;cases this
def qbb6 (s:q8) (a b:Row):Prop:=tlt (qj a s.2.1) (qj b s.2.1)=true∧qj1 s a b=false
theorem qmz (r:Rel):qcl r=true↔qfh r.1=true∧r.2.1.length≤12∧(∀ x∈r.2.1,qey r.1 x=true)∧r.2.1.Pairwise (qbb6 r.1):=by
 simp only[qcl,Bool.and_eq_true,Bool.not_eq_true',decide_eq_true_eq]
 constructor
 ·rintro ⟨h1,h2,h3⟩
  have hb:∀ i,i<r.2.1.length→qm0 r.1 r.2.1 i=false:=fun i hi=>qbn.1 h1 i (by omega) (by omega)
  refine ⟨h2,by omega,fun x hx=>?_,?_⟩
  ·obtain ⟨i,hi,rfl⟩:=List.mem_iff_getElem.1 hx
   have:=hb i hi
   simp only[qm0,Bool.or_eq_false_iff,Bool.not_eq_false'] at this
   rw[←qbc (d:=[]) hi];exact this.1
  ·have hk:∀ d i,i+d+1<r.2.1.length→tlt (qj (r.2.1.getD i []) r.1.2.1) (qj (r.2.1.getD (i+d+1) []) r.1.2.1)=true:=by
    intro d
    induction d with
    | zero=>
     intro i hi
     have:=hb (i+1) (by omega)
     simp only[qm0,Bool.or_eq_false_iff,Bool.not_eq_false',Bool.and_eq_false_iff,decide_eq_false_iff_not,Nat.add_sub_cancel] at this
     exact this.2.1.resolve_left (by omega)
    | succ d ih=>
     intro i hi
     have h4:=ih i (by omega)
     have:=hb (i+d+2) (by omega)
     simp only[qm0,Bool.or_eq_false_iff,Bool.not_eq_false',Bool.and_eq_false_iff,decide_eq_false_iff_not] at this
     have h5:=this.2.1.resolve_left (by omega)
     exact q5o h4 h5
   refine List.pairwise_iff_getElem.2 fun i j hi hj hij=>⟨?_,?_⟩
   ·obtain ⟨d,rfl⟩:∃ d,j=i+d+1:=⟨j - i - 1,by omega⟩
    have:=hk d i hj
    rw[qbc hi,qbc hj] at this
    exact this
   ·have:=hb j hj
    simp only[qm0,Bool.or_eq_false_iff] at this
    have:=qbn.1 this.2.2 i (by omega) (by omega)
    rw[qbc hi,qbc hj,qpq] at this
    exact this
 ·rintro ⟨h1,h2,h3,h4⟩
  have hp:=List.pairwise_iff_getElem.1 h4
  refine ⟨qbn.2 fun i _ hi=>?_,h1,by omega⟩
  have hi:i<r.2.1.length:=by omega
  simp only[qm0,Bool.or_eq_false_iff,Bool.not_eq_false']
  refine ⟨h3 _ (qbp hi),?_,qbn.2 fun k _ hk=>?_⟩
  ·by_cases h0:0<i
   ·have hi1:i - 1<r.2.1.length:=by omega
    rw[decide_eq_true h0,Bool.true_and,qbc hi,qbc hi1,(hp (i - 1) i hi1 hi (by omega)).1];rfl
   ·rw[decide_eq_false h0,Bool.false_and]
  ·have hk2:k<r.2.1.length:=by omega
   rw[qbc hi,qbc hk2,qpq]
   exact (hp k i hk2 hi (by omega)).2
theorem qbhb {r:Rel} {key:Row} (h:qfb r key=none):∀ x∈r.2.1,qj x r.1.2.1≠key:=by
 intro x hx e
 obtain ⟨i,hi,rfl⟩:=List.mem_iff_getElem.1 hx
 have:=qjl h i (by omega) (by omega)
 simp only[qbcg,decide_eq_false_iff_not] at this
 rw[qbc hi] at this
 exact this e
theorem qbr0 {r:Rel} {key:Row} {i:Nat} (hi:i<qdz r key) (hl:i<r.2.1.length):tlt (qj (r.2.1.getD i []) r.1.2.1) key=true:=by
 unfold qdz at hi
 split at hi
 ·rename_i j h
  have:=(qdg h).2.2.2 i (by omega) hi
  simpa using this
 ·rename_i h
  have:=qjl h i (by omega) (by omega)
  simpa using this
theorem qbss {r:Rel} {key:Row} (hl:qdz r key<r.2.1.length):tlt (qj (r.2.1.getD (qdz r key) []) r.1.2.1) key=false:=by
 unfold qdz at *
 split at hl
 ·rename_i j h
  have:=(qdg h).2.2.1
  simpa using this
 ·omega
theorem q58 {α:Type} {l:List α} {n:Nat} {x:α} (h:x∈l.take n):∃ i,∃ hi:i<l.length,i<n∧x=l[i]:=by
 obtain ⟨i,hi,rfl⟩:=List.mem_iff_getElem.1 h
 rw[List.length_take] at hi
 exact ⟨i,by omega,by omega,by rw[List.getElem_take]⟩
theorem q56 {α:Type} {l:List α} {n:Nat} {x:α} (h:x∈l.drop n):∃ i,∃ hi:i<l.length,n≤i∧x=l[i]:=by
 obtain ⟨i,hi,rfl⟩:=List.mem_iff_getElem.1 h
 rw[List.length_drop] at hi
 exact ⟨n+i,by omega,by omega,by rw[List.getElem_drop]⟩
def put (r:Rel) (row:Row):Rel:=(r.1,r.2.1.take (qdz r (qj row r.1.2.1))++[row]++r.2.1.drop (qdz r (qj row r.1.2.1)),())
theorem qbo2 {r:Rel} {row:Row} (h:others r row (-1)=false):∀ x∈r.2.1,qj1 r.1 x row=false:=by
 intro x hx
 obtain ⟨i,hi,rfl⟩:=List.mem_iff_getElem.1 hx
 have:=qbn.1 h i (by omega) (by omega)
 rw[decide_eq_false (show ¬ (i:Int) = -1 by omega),Bool.not_false,Bool.true_and,qbc hi] at this
 exact this
theorem qbre {r:Rel} {key:Row} (hp:r.2.1.Pairwise (qbb6 r.1)) (hk:∀ x∈r.2.1,qj x r.1.2.1≠key) {i:Nat} (hl:i<r.2.1.length) (hi:qdz r key≤i):tlt key (qj (r.2.1.getD i []) r.1.2.1)=true:=by
 have hpl:qdz r key<r.2.1.length:=by omega
 have h0:tlt key (qj (r.2.1.getD (qdz r key) []) r.1.2.1)=true:=by
  rcases qbbn (qj (r.2.1.getD (qdz r key) []) r.1.2.1) key with h | h | h
  ·rw[qbss hpl] at h;cases h
  ·exact absurd h (hk _ (qbp hpl))
  ·exact h
 by_cases e:i=qdz r key
 ·rw[e];exact h0
 ·have:=(List.pairwise_iff_getElem.1 hp (qdz r key) i hpl hl (by omega)).1
  rw[←qbc (d:=[]) hpl,←qbc (d:=[]) hl] at this
  exact q5o h0 this
theorem qbsk {r:Rel} {row:Row} (hok:qcl r=true) (hrow:qey r.1 row=true) (hk:qfb r (qj row r.1.2.1)=none) (ho:others r row (-1)=false) (hl:r.2.1.length<12):qcl (put r row)=true:=by
 obtain ⟨h1,h2,h3,h4⟩:=(qmz r).1 hok
 have hkn:=qbhb hk
 have hon:=qbo2 ho
 have hle:=qba8 r (qj row r.1.2.1)
 have hsplit:(r.2.1.take (qdz r (qj row r.1.2.1))++r.2.1.drop (qdz r (qj row r.1.2.1))).Pairwise (qbb6 r.1):=by rw[List.take_append_drop];exact h4
 obtain ⟨p1,p2,p3⟩:=List.pairwise_append.1 hsplit
 refine (qmz _).2 ⟨h1,?_,?_,?_⟩
 ·simp only[put,List.length_append,List.length_take,List.length_drop,List.length_cons,List.length_nil];omega
 ·intro x hx
  simp only[put,List.mem_append,List.mem_singleton] at hx
  rcases hx with (hx | rfl) | hx
  ·exact h3 x (List.mem_of_mem_take hx)
  ·exact hrow
  ·exact h3 x (List.mem_of_mem_drop hx)
 ·show (r.2.1.take (qdz r (qj row r.1.2.1))++[row]++r.2.1.drop (qdz r (qj row r.1.2.1))).Pairwise (qbb6 r.1)
  have hlo:∀ a∈r.2.1.take (qdz r (qj row r.1.2.1)),qbb6 r.1 a row:=fun a ha=>by
   obtain ⟨i,hi,hip,rfl⟩:=q58 ha
   have:=qbr0 hip hi
   rw[qbc hi] at this
   exact ⟨this,hon _ (List.getElem_mem _)⟩
  have hhi:∀ b∈r.2.1.drop (qdz r (qj row r.1.2.1)),qbb6 r.1 row b:=fun b hb=>by
   obtain ⟨i,hi,hip,rfl⟩:=q56 hb
   have:=qbre h4 hkn hi hip
   rw[qbc hi] at this
   exact ⟨this,by rw[qpq];exact hon _ (List.getElem_mem _)⟩
  refine List.pairwise_append.2 ⟨List.pairwise_append.2 ⟨p1,List.pairwise_singleton _ _,fun a ha b hb=>?_⟩,p2,fun a ha b hb=>?_⟩
  ·rw[List.mem_singleton] at hb;subst hb;exact hlo a ha
  ·rcases List.mem_append.1 ha with ha | ha
   ·exact p3 a ha b hb
   ·rw[List.mem_singleton] at ha;subst ha;exact hhi b hb
theorem qbsu {r:Rel} (hok:qcl r=true) (j:Nat):qcl (r.1,r.2.1.take j++r.2.1.drop (j+1),())=true:=by
 obtain ⟨h1,h2,h3,h4⟩:=(qmz r).1 hok
 have hs:(r.2.1.take j++r.2.1.drop (j+1)).Sublist r.2.1:=by
  have:=(List.Sublist.refl (r.2.1.take j)).append (List.drop_sublist 1 (r.2.1.drop j))
  rw[List.take_append_drop,List.drop_drop] at this
  exact this
 exact (qmz _).2 ⟨h1,Nat.le_trans hs.length_le h2,fun x hx=>h3 x (hs.subset hx),h4.sublist hs⟩
theorem qbqr {r:Rel} (hok:qcl r=true) (row:Row):qcl (qcv r row).1=true:=by
 unfold qcv
 split
 ·rename_i hc
  split
  ·exact hok
  ·rename_i hk
   split
   ·exact hok
   ·rename_i ho
    split
    ·exact hok
    ·exact qbsk hok hc.2 hk (by simpa using ho) (by omega)
 ·exact hok
theorem qbqw {r:Rel} (hok:qcl r=true) (key:Row):qcl (qhj r key).1=true:=by
 unfold qhj
 rw[if_pos hok]
 cases qfb r key with
 | some j=>exact qbsu hok _
 | none=>exact hok
theorem qyk {rows:List Row} {j:Nat} {row:Row} (hj:j<rows.length) (i:Nat):(rows.set j row).getD i []=if i=j then row else rows.getD i []:=by
 by_cases e:i=j
 ·subst e
  rw[if_pos rfl,qbc (by rw[List.length_set];exact hj),List.getElem_set_self]
 ·rw[if_neg e]
  simp only[List.getD,List.getElem?_set]
  rw[if_neg (fun k=>e k.symm)]
theorem qbm6 {r:Rel} {row:Row} {j:Nat} (hok:qcl r=true) (hrow:qey r.1 row=true) (hk:qfb r (qj row r.1.2.1)=some j) (ho:others r row j=false) :
  qcl (r.1,r.2.1.set j row,())=true∧qfb (r.1,r.2.1.set j row,()) (qj row r.1.2.1)=some j:=by
 obtain ⟨_,hj,hkj,_⟩:=qdg hk
 rw[Nat.zero_add] at hj
 have hkey:∀ i,qj ((r.2.1.set j row).getD i []) r.1.2.1=qj (r.2.1.getD i []) r.1.2.1:=by
  intro i
  rw[qyk hj]
  split
  ·rename_i e
   subst e
   simp only[qbcg,decide_eq_true_eq] at hkj
   exact hkj.symm
  ·rfl
 have hoth:∀ k,k<r.2.1.length→k≠j→qj1 r.1 (r.2.1.getD k []) row=false:=by
  intro k h1 h2
  have:=qbn.1 ho k (by omega) (by omega)
  rw[decide_eq_false (by omega),Bool.not_false,Bool.true_and] at this
  exact this
 simp only[qcl,Bool.and_eq_true,Bool.not_eq_true',decide_eq_true_eq] at hok
 obtain ⟨h1,h2,h3⟩:=hok
 constructor
 ·simp only[qcl,Bool.and_eq_true,Bool.not_eq_true',decide_eq_true_eq,List.length_set]
  refine ⟨qbn.2 fun i _ hi=>?_,h2,h3⟩
  have hb:=qbn.1 h1 i (by omega) (by omega)
  simp only[qm0,Bool.or_eq_false_iff] at hb ⊢
  obtain ⟨b1,b2,b3⟩:=hb
  refine ⟨?_,?_,qbn.2 fun k _ hk=>?_⟩
  ·rw[qyk hj]
   split
   ·rw[hrow];rfl
   ·exact b1
  ·rw[hkey,hkey];exact b2
  ·have b4:=qbn.1 b3 k (by omega) (by omega)
   rw[qyk hj,qyk hj]
   by_cases e1:i=j
   ·rw[if_pos e1,if_neg (show ¬ k=j by omega),qpq]
    exact hoth k (by omega) (by omega)
   ·rw[if_neg e1]
    by_cases e2:k=j
    ·rw[if_pos e2];exact hoth i (by omega) e1
    ·rw[if_neg e2];exact b4
 ·refine Eq.trans ?_ hk
  unfold qfb
  show qw _ 0 (r.2.1.set j row).length=_
  rw[List.length_set]
  exact qwy fun i _ _=>by
   show decide (qj ((r.2.1.set j row).getD i []) r.1.2.1=_)=decide (qj (r.2.1.getD i []) r.1.2.1=_)
   rw[hkey]
end Go.G

namespace Go.V
open Go
theorem El.take {h:Array Obj} {Pr:BS} {e:Ty} {mi:Mk} {xs:List e.den} {cells:List Value} {Fs:Nat→BS} (k:El h Pr e mi xs cells Fs) (n:Nat) (hn:n≤xs.length) (hl:cells.length=xs.length * e.width):El h Pr e mi (xs.take n) (cells.take (n * e.width)) Fs:=by
 refine ⟨fun i hi=>?_,k.dis⟩
 rw[List.length_take] at hi
 have hin:i<n:=by omega
 have h1:(xs.take n).getD i e.zero=xs.getD i e.zero:=by
  simp only[List.getD,List.getElem?_take]
  rw[if_pos hin]
 have h2:((cells.take (n * e.width)).drop (i * e.width)).take e.width=(cells.drop (i * e.width)).take e.width:=by
  rw[List.drop_take,List.take_take]
  congr 1
  have:(i+1) * e.width≤n * e.width:=Nat.mul_le_mul_right _ hin
  rw[Nat.succ_mul] at this
  omega
 rw[h1,h2]
 exact k.rep i (by omega)
theorem El.drop {h:Array Obj} {Pr:BS} {e:Ty} {mi:Mk} {xs:List e.den} {cells:List Value} {Fs:Nat→BS} (k:El h Pr e mi xs cells Fs) (n:Nat) (hn:n≤xs.length):El h Pr e mi (xs.drop n) (cells.drop (n * e.width)) (fun i=>Fs (n+i)):=by
 refine ⟨fun i hi=>?_,fun i j hij=>k.dis _ _ (by omega)⟩
 rw[List.length_drop] at hi
 have h1:(xs.drop n).getD i e.zero=xs.getD (n+i) e.zero:=by
  simp only[List.getD,List.getElem?_drop]
 have h2:((cells.drop (n * e.width)).drop (i * e.width)).take e.width=(cells.drop ((n+i) * e.width)).take e.width:=by
  rw[List.drop_drop,Nat.add_mul]
 rw[h1,h2]
 exact k.rep (n+i) (by omega)
def upTo (n:Nat) (Fs:Nat→BS) (i:Nat):BS:=if i<n then Fs i else Nil
theorem q3j (n:Nat) (Fs:Nat→BS) (i:Nat):Sub (upTo n Fs i) (Fs i):=by
 unfold upTo
 split
 ·exact Sub.refl _
 ·exact Sub.nil _
theorem El.upTo {h:Array Obj} {Pr:BS} {e:Ty} {mi:Mk} {xs:List e.den} {cells:List Value} {Fs:Nat→BS} (k:El h Pr e mi xs cells Fs):El h Pr e mi xs cells (upTo xs.length Fs):=by
 refine ⟨fun i hi=>?_,fun i j hij=>(k.dis i j hij).mono (q3j _ _ _) (q3j _ _ _)⟩
 have:Go.V.upTo xs.length Fs i=Fs i:=if_pos hi
 rw[this]
 exact k.rep i hi
theorem El.cut {h:Array Obj} {Pr:BS} {e:Ty} {mi:Mk} {xs:List e.den} {cells:List Value} {Fs:Nat→BS} (k:El h Pr e mi xs cells Fs) (i j:Nat) (hij:i≤j) (hj:j≤xs.length) (hl:cells.length=xs.length * e.width) :
  ∃ FF:Nat→BS,El h Pr e mi (xs.take i++xs.drop j) (cells.take (i * e.width)++cells.drop (j * e.width)) FF∧∀ a b,FF a b→∃ c,Fs c b:=by
 have k1:=(k.take i (by omega) hl).upTo
 have k2:=k.drop j hj
 have hlen:(xs.take i).length=i:=by rw[List.length_take];omega
 rw[hlen] at k1
 have hiw:i * e.width≤cells.length:=by rw[hl];exact Nat.mul_le_mul_right _ (by omega)
 have hjw:j * e.width≤cells.length:=by rw[hl];exact Nat.mul_le_mul_right _ hj
 refine ⟨_,El.append k1 k2 (by rw[List.length_take,hlen];omega) (by rw[List.length_drop,List.length_drop,hl,Nat.sub_mul]) (fun a b=>?_),?_⟩
 ·unfold Go.V.upTo
  split
  ·exact k.dis _ _ (by omega)
  ·exact Dis.nil _
 ·intro a b hb
  split at hb
  ·exact ⟨_,q3j _ _ _ b hb⟩
  ·exact ⟨_,hb⟩
theorem El.insert {h:Array Obj} {Pr:BS} {e:Ty} {mi:Mk} {xs ys:List e.den} {c1 c2:List Value} {F1 F2:Nat→BS} (k1:El h Pr e mi xs c1 F1) (k2:El h Pr e mi ys c2 F2) (i:Nat) (hi:i≤xs.length)
  (hl1:c1.length=xs.length * e.width) (hl2:c2.length=ys.length * e.width) (hd:∀ i j,Dis (F1 i) (F2 j)) :
  ∃ FF:Nat→BS,El h Pr e mi (xs.take i++ys++xs.drop i) (c1.take (i * e.width)++c2++c1.drop (i * e.width)) FF∧∀ a b,FF a b→(∃ c,F1 c b)∨∃ c,F2 c b:=by
 have a1:=(k1.take i hi hl1).upTo
 have a3:=k1.drop i hi
 have hlen:(xs.take i).length=i:=by rw[List.length_take];omega
 rw[hlen] at a1
 have hiw:i * e.width≤c1.length:=by rw[hl1];exact Nat.mul_le_mul_right _ hi
 have a12:=El.append a1 k2 (by rw[List.length_take,hlen];omega) hl2 (fun a b=>(hd a b).mono (q3j _ _ _) (Sub.refl _))
 refine ⟨_,El.append a12 a3 (by rw[List.length_append,List.length_append,List.length_take,hlen,hl2,Nat.add_mul];omega) (by rw[List.length_drop,List.length_drop,hl1,Nat.sub_mul]) (fun a b=>?_),?_⟩
 ·skip
  split
  ·unfold Go.V.upTo
   split
   ·exact k1.dis _ _ (by omega)
   ·exact Dis.nil _
  ·exact fun z h1 h2=>hd (i+b) _ z h2 h1
 ·intro a b hb
  split at hb
  ·split at hb
   ·exact .inl ⟨_,q3j _ _ _ b hb⟩
   ·exact .inr ⟨_,hb⟩
  ·exact .inl ⟨_,hb⟩
theorem qbpl {w w2:World} {Pr:BS} {Fs:Nat→BS} {ks:List PK} {a:PDen ks} {vs:List Value} (pre:Pre w.heap Pr Fs ks a vs) {e:Ty} {mi:Mk} {zs:List e.den} {v:Value} {G:BS}
  (rep:Rep w2.heap Pr (.sl e) (.own 0 mi) zs [v] G) (hG:∀ z,G z→May w.heap.size Fs z) (hGP:Dis G Pr) (hGl:∀ z,G z→z<w2.heap.size) (hsz:w.heap.size≤w2.heap.size)
  (o:ODen ks) (out:qgn w2.heap Pr (fun _=>Nil) 0 ks o vs) (fr:WFr (May w.heap.size Fs) w w2) :
  Pst w w2 Pr Fs ks [.val (.sl e) (.own 0 mi)] (zs,()) o vs v Pr (fun i=>if i=0 then G else Nil) (fun _=>Nil) [v] where
 res:=⟨v,[],rfl,⟨[v],rep,rfl⟩,rfl⟩
 val:=rfl
 out:=out
 pr:=Sub.refl _
 prL:=fun b hb=>.inl hb
 gL:=fun i b hb=>by
  split at hb
  ·exact hG b hb
  ·exact hb.elim
 oL:=fun _ _ hb=>hb.elim
 gdis:=fun i j hij=>by
  split
  ·split
   ·omega
   ·exact fun _ _ h=>h.elim
  ·exact Dis.nil _
 odis:=fun _ _ _=>Dis.nil _
 go:=fun _ _=>fun _ _ h=>h.elim
 gp:=fun i=>by
  split
  ·exact hGP
  ·exact Dis.nil _
 op:=fun _=>Dis.nil _
 glim:=fun i b hb=>by
  split at hb
  ·exact hGl b hb
  ·exact hb.elim
 olim:=fun _ _ hb=>hb.elim
 plim:=fun b hb=>Nat.lt_of_lt_of_le (pre.limPr b hb) hsz
 fr:=fr
end Go.V

namespace Go.V
set_option maxRecDepth 100000
set_option maxHeartbeats 4000000
open Go Go.Proofs Go.RowKit Go.Lib
theorem qbhn:Tryz.f88.ntmps=95:=by kernel_rfl
theorem qbpw (a1:Option Addr) (n c m:Nat) (a2:Option Addr) (c2:Nat) (w w3:World) (v3:Value) (hm:0<m) (hc:n≤c) (h1:(∃ b,a1=some ⟨b,0,none⟩)∨(n=0∧c=0))
  (hr:∀ ty,(Builtin.append_ #[29,29] ty #[.slice a1 n c,.slice a2 m c2]).run Tryz.prog w=.ok v3 w3) :
  Calls Tryz.prog 88 #[.slice a1 n c,.int .i64 n,.slice a2 m c2] w fun e w'=>e=.returned v3∧w'=w3:=by
 have mx:=mixed
 have u67:Tryz.prog.underlying 29=some (.slice 32):=by kernel_rfl
 have v67:=run_underlying u67
 have hz1:¬ ((m:Int)=0):=by omega
 rcases h1 with ⟨b,rfl⟩ | ⟨rfl,rfl⟩
 ·go_enter Tryz.func88,qbhn
  go_wp2_with (at_builtin;refine Lib.wpList_append_run _ rfl _ _ _ _ rfl _ _ rfl rfl _ _ (hr _) ?_)
  all_goals (try (go_ret;exact ⟨rfl,rfl⟩))
 ·cases a1 with
  | none=>
   go_enter Tryz.func88,qbhn
   go_wp2_with (at_builtin;refine Lib.wpList_append_run _ rfl _ _ _ _ rfl _ _ rfl rfl _ _ (hr _) ?_)
   all_goals (try (go_ret;exact ⟨rfl,rfl⟩))
  | some a0=>
   go_enter Tryz.func88,qbhn
   go_wp2_with (at_builtin;refine Lib.wpList_append_run _ rfl _ _ _ _ rfl _ _ rfl rfl _ _ (hr _) ?_)
   all_goals (try (go_ret;exact ⟨rfl,rfl⟩))
end Go.V

namespace Go.V
set_option maxRecDepth 100000
set_option maxHeartbeats 4000000
open Go Go.Proofs Go.RowKit Go.Lib
theorem qbs8 (b n c i m:Nat) (a2:Addr) (c2 B G:Nat) (w w1 w2 w3:World) (r2 r3:Value) (hi:i<n) (hm:0<m) (hnc:n≤c) (hroom:c<n+m) (hG:n+m≤G) (hs63:n+m≤9223372036854775807)
  (hA:∀ ty,(Builtin.append_ #[29,3] ty #[.slice (some ⟨b,0,none⟩) i c,.int .i64 ((n:Int)+(m:Int) - (i:Int))]).run Tryz.prog w=.ok (.slice (some ⟨B,0,none⟩) (n+m) G) w1)
  (hB:∀ ty,(Builtin.copy_ #[29,29] ty #[.slice (some ⟨B,i,none⟩) (n+m - i) (G - i),.slice (some a2) m c2]).run Tryz.prog w1=.ok r2 w2)
  (hC:∀ ty,(Builtin.copy_ #[29,29] ty #[.slice (some ⟨B,i+m,none⟩) (n+m - (i+m)) (G - (i+m)),.slice (some ⟨b,i,none⟩) (n - i) (c - i)]).run Tryz.prog w2.drew=.ok r3 w3) :
  Calls Tryz.prog 88 #[.slice (some ⟨b,0,none⟩) n c,.int .i64 i,.slice (some a2) m c2] w fun e w'=>e=.returned (.slice (some ⟨B,0,none⟩) (n+m) G)∧w'=w3:=by
 have mx:=mixed
 have u67:Tryz.prog.underlying 29=some (.slice 32):=by kernel_rfl
 have u3:Tryz.prog.underlying 3=some (.int .i64):=by kernel_rfl
 have v67:=run_underlying u67
 have v3:=run_underlying u3
 have s38:(Tryz.prog.info? 32).map (·.size)=some 1:=by kernel_rfl
 obtain ⟨i0,hi0⟩:∃ i0,Tryz.prog.info? 32=some i0:=by cases h:Tryz.prog.info? 32 with | none=>rw[h] at s38;cases s38 | some x=>exact ⟨x,rfl⟩
 have hs0:i0.size=1:=by rw[hi0] at s38;simpa using s38
 have hz1:¬ ((m:Int)=0):=by omega
 have hz2:¬ ((i:Int)=(n:Int)):=by omega
 have hz3:(c:Int)<(n:Int)+(m:Int):=by omega
 have hw1:IntKind.i64.wrap ((i:Int)+(m:Int))=(i:Int)+(m:Int):=by rw[IntKind.wrap_i64];omega
 have hb1:(0:Int)≤(i:Int)+(m:Int):=by omega
 have hin:i≤n:=by omega
 have htn:((i:Int)+(m:Int)).toNat=i+m:=by omega
 have hb3:(i:Int)≤(n:Int):=by omega
 have hGi:¬ (G=i):=by omega
 have hGim:¬ (G=i+m):=by omega
 have hci:¬ (c=i):=by omega
 go_enter Tryz.func88,qbhn
 go_wp2_with (first
  | (at_builtin;refine Lib.wpList_append_run _ rfl _ _ _ _ rfl _ _ rfl rfl _ _ (hA _) ?_)
  | (at_builtin;refine wpList_copy_runI _ rfl _ _ 29 29 rfl _ _ rfl rfl (hB _) ?_))
 go_region_law_o (refine step_copy_runI rfl _ _ 29 29 rfl (.slice (some ⟨B,i+m,none⟩) (n+m - (i+m)) (G - (i+m))) (.slice (some ⟨b,i,none⟩) (n - i) (c - i)) (by simp[Act.eval,Act.put]) (by simp[Act.eval,Act.put]) (hC _) ?_)
 go_wp2
 go_ret
 exact ⟨rfl,rfl⟩
theorem qbse (b n c i m:Nat) (a2:Addr) (c2:Nat) (w w1 w2:World) (r1 r2:Value) (hi:i<n) (hm:0<m) (hroom:n+m≤c) (hs63:n+m≤9223372036854775807)
  (hov:∀ lb cb,(callFunc 154 #[.slice (some a2) m c2,.slice (some ⟨b,i+m,none⟩) lb cb]).run Tryz.prog w=.ok (.value (.bool false)) w)
  (hB:∀ ty dc sc,(Builtin.copy_ #[29,29] ty #[.slice (some ⟨b,i+m,none⟩) (n+m - (i+m)) dc,.slice (some ⟨b,i,none⟩) (n+m - i) sc]).run Tryz.prog w.drew=.ok r1 w1)
  (hC:∀ ty dc,(Builtin.copy_ #[29,29] ty #[.slice (some ⟨b,i,none⟩) (n+m - i) dc,.slice (some a2) m c2]).run Tryz.prog w1=.ok r2 w2) :
  Calls Tryz.prog 88 #[.slice (some ⟨b,0,none⟩) n c,.int .i64 i,.slice (some a2) m c2] w fun e w'=>e=.returned (.slice (some ⟨b,0,none⟩) (n+m) c)∧w'=w2:=by
 have mx:=mixed
 have u67:Tryz.prog.underlying 29=some (.slice 32):=by kernel_rfl
 have u3:Tryz.prog.underlying 3=some (.int .i64):=by kernel_rfl
 have v67:=run_underlying u67
 have v3:=run_underlying u3
 have s38:(Tryz.prog.info? 32).map (·.size)=some 1:=by kernel_rfl
 obtain ⟨i0,hi0⟩:∃ i0,Tryz.prog.info? 32=some i0:=by cases h:Tryz.prog.info? 32 with | none=>rw[h] at s38;cases s38 | some x=>exact ⟨x,rfl⟩
 have hs0:i0.size=1:=by rw[hi0] at s38;simpa using s38
 have hz1:¬ ((m:Int)=0):=by omega
 have hz2:¬ ((i:Int)=(n:Int)):=by omega
 have hw1:IntKind.i64.wrap ((i:Int)+(m:Int))=(i:Int)+(m:Int):=by rw[IntKind.wrap_i64];omega
 have hb1:(0:Int)≤(i:Int)+(m:Int):=by omega
 have hin:i≤n:=by omega
 have htn:((i:Int)+(m:Int)).toNat=i+m:=by omega
 have hb2:¬ (c=i+m):=by omega
 have hb3:(i:Int)≤(n:Int)+(m:Int):=by omega
 have hb4:¬ (c=i):=by omega
 go_enter Tryz.func88,qbhn
 go_wp2_with (simp only[hov])
 go_region_law_o (refine step_copy_runI rfl _ _ 29 29 rfl _ _ (by simp[Act.eval,Act.put]) (by simp[Act.eval,Act.put]) (hB _ _ _) ?_)
 go_wp2_with (at_builtin;refine wpList_copy_runI _ rfl _ _ 29 29 rfl _ _ rfl rfl (hC _ _) ?_)
 go_ret
 exact ⟨rfl,rfl⟩
end Go.V

namespace Go.V
set_option maxRecDepth 100000
set_option maxHeartbeats 4000000
open Go Go.Proofs Go.RowKit Go.Lib
theorem qbwp:Tryz.f95.ntmps=33:=by kernel_rfl
theorem qbew {P:Program} {ops:Array Oper} {o:Oper} {a:Act} {w:World} {K:Act→World→Prop} {Q:Exit→Act→World→Prop} {E:Prop}
  (hg:o.guard=none) (d x:Operand) (dT sT:TypeId) (hop:o.op=Op.call { callee:=Callee.builtin Builtin.append,args:=#[d,x],argTypes:=#[dT,sT] })
  (v u:Value) (hd:a.eval d=v) (hx:a.eval x=u) {v':Value} {w':World} (hr:(Builtin.append_ #[dT,sT] o.type #[v,u]).run P w=.ok v' w') (hK:K (a.put o.dst v') w') :
  if Region.wanted o (yielded ops a.tmps)=true then Oper.wp P o a w K Q else E:=by
 have hw:Region.wanted o (yielded ops a.tmps)=true:=by simp[Region.wanted,hg]
 rw[if_pos hw]
 exact Lib.wp_append_run w d x dT sT hop v u hd hx v' w' hr hK
theorem qbt1 (b n c i j:Nat) (w w1 w2:World) (r2:Value) (hij:i<j) (hj:j≤n) (hnc:n≤c) (hn63:n≤9223372036854775807)
  (hA:∀ ty a,(a=(if c=j then some (⟨b,0,none⟩:Addr) else some ⟨b,j,none⟩))→(Builtin.append_ #[29,29] ty #[.slice (some ⟨b,0,none⟩) i c,.slice a (n - j) (c - j)]).run Tryz.prog w.drew=.ok (.slice (some ⟨b,0,none⟩) (i+(n - j)) c) w1)
  (hC:∀ ty,(Builtin.clear_ #[29] ty #[.slice (some ⟨b,i+(n - j),none⟩) (n - (i+(n - j))) (c - (i+(n - j)))]).run Tryz.prog w1=.ok r2 w2) :
  Calls Tryz.prog 95 #[.slice (some ⟨b,0,none⟩) n c,.int .i64 i,.int .i64 j] w fun e w'=>e=.returned (.slice (some ⟨b,0,none⟩) (i+(n - j)) c)∧w'=w2:=by
 have mx:=mixed
 have u67:Tryz.prog.underlying 29=some (.slice 32):=by kernel_rfl
 have u3:Tryz.prog.underlying 3=some (.int .i64):=by kernel_rfl
 have v67:=run_underlying u67
 have v3:=run_underlying u3
 have s38:(Tryz.prog.info? 32).map (·.size)=some 1:=by kernel_rfl
 obtain ⟨i0,hi0⟩:∃ i0,Tryz.prog.info? 32=some i0:=by cases h:Tryz.prog.info? 32 with | none=>rw[h] at s38;cases s38 | some x=>exact ⟨x,rfl⟩
 have hs0:i0.size=1:=by rw[hi0] at s38;simpa using s38
 have hz2:¬ ((i:Int)=(j:Int)):=by omega
 have hij':i≤j:=by omega
 have hic:i≤c:=by omega
 have hjc:j≤c:=by omega
 have hin:i≤n:=by omega
 have hk1:i+(n - j)≤n:=by omega
 have hk2:i+(n - j)≤c:=by omega
 have hk3:¬ (c=i+(n - j)):=by omega
 obtain ⟨A,hAe⟩:∃ A:Option Addr,A=(if c=j then some (⟨b,0,none⟩:Addr) else some ⟨b,j,none⟩):=⟨_,rfl⟩
 go_enter Tryz.func95,qbwp
 go_wp2_with fail
 go_region_law_o (refine qbew rfl (.tmp 22) (.tmp 25) 29 29 rfl _ _ (by simp[Act.eval,Act.put]) (by simp[Act.eval,Act.put]) (hA _ _ rfl) ?_)
 all_goals (go_wp2_with (simp only[hC]))
 all_goals (try (go_ret;exact ⟨rfl,rfl⟩))
end Go.V

namespace Go.V
set_option maxRecDepth 100000
open Go Go.Proofs Go.RowKit
abbrev TVal:Ty:=.pair (.int .i64) (.pair (.int .i64) (.pair .str .unit))
abbrev TRow:Ty:=.sl TVal
abbrev SigD:Sig:=⟨[.own (.sl TRow) (Mk.top (.sl TRow)),.val (.int .i64),.val (.int .i64)],[.val (.sl TRow) (Mk.top (.sl TRow))]⟩
theorem sigD:ctx.sig 95=SigD:=by kernel_rfl
def delD (xs:List TRow.den) (i j:Int):Option (List TRow.den):=if 0≤i∧i<j∧j≤xs.length∧xs.length≤qbh then some (xs.take i.toNat++xs.drop j.toNat) else none
theorem qbwe:qbh7 Tryz.prog SigD 95 fun a=>(delD a.1 a.2.1 a.2.2.1).map fun r=>((r,()),()):=by
 intro a r h w Pr Fs vs pre
 obtain ⟨xs,i,j,⟨⟩⟩:=a
 change List TRow.den at xs
 change Int at i
 change Int at j
 obtain ⟨v1,vs1,rfl,⟨c1,rep1,rfl⟩,v2,vs2,rfl,⟨c2,r2,rfl⟩,v3,vs3,rfl,⟨c3,r3,rfl⟩,k3⟩:=pre.rel
 obtain rfl:vs3=[]:=k3
 simp only[Rep] at r2 r3
 subst r2
 subst r3
 dsimp only at h
 unfold delD at h
 split at h
 ·rename_i hc
  obtain ⟨h0,hij,hj,hbd⟩:=hc
  replace hbd:xs.length≤274877906944:=hbd
  replace h0:0≤i:=h0
  replace hij:i<j:=hij
  replace hj:j≤xs.length:=hj
  simp only[Option.map_some,Option.some.injEq] at h
  subst h
  obtain ⟨i,rfl⟩:=Int.eq_ofNat_of_zero_le h0
  obtain ⟨j,rfl⟩:=Int.eq_ofNat_of_zero_le (show 0≤j by omega)
  obtain ⟨ad,cap,cells,F,rfl,hl,hlc,hsrc,el,hF,hown⟩:=qnh (by simp[Mk.top]) (by simp[Mk.top]) rep1
  rcases hown 0 _ rfl with hc0 | ⟨b,cs,rfl,hbF,hbo,hcapb,hFb,hcells⟩
  ·replace hlc:xs.length≤cap:=hlc
   omega
  ·have hw1:TRow.width=1:=rfl
   replace hlc:xs.length≤cap:=hlc
   replace hl:cells.length=xs.length:=by rw[hl,hw1,Nat.mul_one]
   replace hcapb:cap≤cs.size:=by rw[hw1,Nat.mul_one] at hcapb;exact hcapb
   replace hcells:cells=sub cs 0 xs.length:=by rw[hcells,hw1,Nat.mul_one]
   have hij2:i<j:=by omega
   have hj2:j≤xs.length:=by omega
   have u67:Tryz.prog.underlying 29=some (.slice 32):=by kernel_rfl
   have s38:(Tryz.prog.info? 32).map (·.size)=some 1:=by kernel_rfl
   obtain ⟨i0,hi0⟩:∃ i0,Tryz.prog.info? 32=some i0:=by cases h:Tryz.prog.info? 32 with | none=>rw[h] at s38;cases s38 | some x=>exact ⟨x,rfl⟩
   have hs0:i0.size=1:=by rw[hi0] at s38;simpa using s38
   have hcd:cells.drop j=sub cs j (xs.length - j):=by
    rw[hcells]
    simp only[sub,List.drop_zero,List.drop_take]
   have hdl:(cells.drop j).length=xs.length - j:=by rw[List.length_drop,hl]
   have hone:∀ u∈cells.drop j,u.oneCell'=true:=by
    intro u hu
    obtain ⟨k,hk,rfl⟩:=List.getElem_of_mem hu
    rw[hdl] at hk
    have hk2:j+k<xs.length:=by omega
    have r:=el.rep (j+k) hk2
    refine Rep.one _ r _ ?_
    rw[hw1,Nat.mul_one,List.mem_iff_getElem?]
    refine ⟨0,?_⟩
    rw[List.getElem?_take,if_pos (by omega),List.getElem?_drop,Nat.add_zero,List.getElem_drop,List.getElem?_eq_getElem]
   have hA:∀ ty a,(a=(if cap=j then some (⟨b,0,none⟩:Addr) else some ⟨b,j,none⟩))→(Builtin.append_ #[29,29] ty #[.slice (some ⟨b,0,none⟩) i cap,.slice a (xs.length - j) (cap - j)]).run Tryz.prog w.drew=.ok (.slice (some ⟨b,0,none⟩) (i+(xs.length - j)) cap) (w.drew.setCells b i (cells.drop j)):=by
    intro ty a ha
    refine qlu (P:=Tryz.prog) w.drew (ty:=ty) rfl rfl u67 u67 hi0 (news:=cells.drop j) ?_ (by omega) (fun ad e=>?_) (fun e=>by simp at e)
    ·rw[hs0]
     refine qhb (by rw[hdl,Nat.mul_one]) ?_
     by_cases h0:xs.length - j=0
     ·exact .inl ⟨h0,List.length_eq_zero_iff.1 (by rw[hdl,h0])⟩
     ·refine .inr ⟨b,j,by rw[ha,if_neg (by omega)],?_⟩
      rw[hcd]
      exact qdr (qb1 hbo.blk (by omega))
    ·simp only[Option.some.injEq] at e
     subst e
     rw[Addr.add_mid,Nat.zero_add,hs0,Nat.mul_one]
     have th:=qfc (w:=w) (o:=i) (n:=(cells.drop j).length) hbo (by rw[hdl];omega)
     have:=run_storeCells_cells (P:=Tryz.prog) b i (cells.drop j) 0 w.drew (fun t ht=>by simpa using (th t ht).1) (fun t ht=>by simpa using (th t ht).2) hone
     simpa using this
   obtain ⟨ty,lo,hi,he,hfz⟩:=hbo
   have hfit:i+(cells.drop j).length≤cs.size:=by rw[hdl];omega
   obtain ⟨cs1,hcs1,hcs1l⟩:=qdv (cells.drop j) i w.drew cs he hfit
   have hsz1:cs1.size=cs.size:=by rw[←Array.length_toList,hcs1l,qcq (by simpa using hfit),Array.length_toList]
   have hob1:qbk (w.drew.setCells b i (cells.drop j)).heap b cs1:=⟨ty,lo,hi,hcs1,fun t ht=>hfz t (by omega)⟩
   let zs:List Value:=List.replicate (xs.length - (i+(xs.length - j))) (.slice none 0 0)
   have hzl:zs.length=xs.length - (i+(xs.length - j)):=List.length_replicate
   have hfit2:i+(xs.length - j)+zs.length≤cs1.size:=by rw[hzl];omega
   have th1:=qfc (w:=w.drew.setCells b i (cells.drop j)) (o:=i+(xs.length - j)) (n:=zs.length) hob1 hfit2
   have hC:∀ ty,(Builtin.clear_ #[29] ty #[.slice (some ⟨b,i+(xs.length - j),none⟩) (xs.length - (i+(xs.length - j))) (cap - (i+(xs.length - j)))]).run Tryz.prog (w.drew.setCells b i (cells.drop j))=.ok (.tuple #[]) ((w.drew.setCells b i (cells.drop j)).setCells b (i+(xs.length - j)) zs):=fun ty=>
    Lib.run_clear_slice _ 29 32 ty (.slice none 0 0) u67 (fun w=>by kernel_rfl) rfl rfl b _ _ _ (by omega) (fun t ht=>(th1 t (by rw[hzl];exact ht)).1) (fun t ht=>(th1 t (by rw[hzl];exact ht)).2)
   obtain ⟨cs2,hcs2,hcs2l⟩:=qdv zs (i+(xs.length - j)) _ cs1 hcs1 hfit2
   have hsz2:cs2.size=cs1.size:=by rw[←Array.length_toList,hcs2l,qcq (by simpa using hfit2),Array.length_toList]
   have hob2:qbk ((w.drew.setCells b i (cells.drop j)).setCells b (i+(xs.length - j)) zs).heap b cs2:=⟨ty,lo,hi,hcs2,fun t ht=>hfz t (by omega)⟩
   have hother:∀ b',b'≠b→((w.drew.setCells b i (cells.drop j)).setCells b (i+(xs.length - j)) zs).heap[b']? = w.heap[b']?:=fun b' hb'=>(qbl zs _ _ b' hb').trans (qbl (cells.drop j) _ w.drew b' hb')
   have hPb:¬ Pr b:=fun hb=>pre.prot 0 b hbF hb
   obtain ⟨FF,elc,hFF⟩:=el.cut i j (by omega) hj2 (by rw[hw1,Nat.mul_one];exact hl)
   have hFFb:∀ a,¬ FF a b:=fun a hb=>by obtain ⟨c,hc⟩:=hFF a b hb;exact hFb c hc
   have el2:=elc.mono (h':=((w.drew.setCells b i (cells.drop j)).setCells b (i+(xs.length - j)) zs).heap) (Sub.refl _) (fun b' hb'=>hother b' (fun e0=>hPb (e0 ▸ hb'))) (fun a b' hb'=>hother b' (fun e0=>hFFb a (e0 ▸ hb')))
   have hlen:(xs.take i++xs.drop j).length=i+(xs.length - j):=by rw[List.length_append,List.length_take,List.length_drop];omega
   have htake:cs2.toList.take (i+(xs.length - j))=cells.take (i * TRow.width)++cells.drop (j * TRow.width):=by
    have h7:cs.toList.length=cs.size:=Array.length_toList
    rw[hcs2l,hw1,Nat.mul_one,Nat.mul_one]
    have e1:cs1.toList.take (i+(xs.length - j))=cells.take i++cells.drop j:=by
     rw[hcs1l]
     simp only[repl]
     rw[List.take_append_of_le_length (by rw[List.length_append,List.length_take,hdl];omega),List.take_of_length_le (by rw[List.length_append,List.length_take,hdl];omega)]
     congr 1
     rw[hcells]
     simp only[sub,List.drop_zero,List.take_take]
     congr 1;omega
    rw[←e1]
    simp only[repl]
    have h8:cs1.toList.length=cs1.size:=Array.length_toList
    rw[List.append_assoc,List.take_append_of_le_length (by rw[List.length_take];omega),List.take_take,Nat.min_self]
   have rep2:=el2.row hob2 (cap:=cap) (by rw[hw1,Nat.mul_one];omega) (by rw[hlen];omega) (fun t ht=>qqr htake (by rw[hw1,Nat.mul_one];rw[hlen] at ht;omega)) hFFb 0
   rw[hlen] at rep2
   have hrest1:=qcp (b:=b) (cells.drop j) i w.drew
   have hrest2:=qcp (b:=b) zs (i+(xs.length - j)) (w.drew.setCells b i (cells.drop j))
   have hsize:((w.drew.setCells b i (cells.drop j)).setCells b (i+(xs.length - j)) zs).heap.size=w.heap.size:=by rw[qbb,qbb];rfl
   have hGF:∀ z,(z=b∨∃ t,FF t z)→Fs 0 z:=by
    rintro z (rfl | ⟨t,ht⟩)
    ·exact hbF
    ·obtain ⟨c,hc⟩:=hFF t z ht;exact hF c z hc
   refine (qbt1 b xs.length cap i j w _ _ _ hij2 hj2 hlc (by omega) hA hC).mono ?_
   rintro e w' ⟨rfl,rfl⟩
   exact ⟨_,Pr,_,_,_,rfl,qbpl pre rep2 (fun z hz=>.inr ⟨0,hGF z hz⟩) (fun z hz hp=>pre.prot 0 z (hGF z hz) hp) (fun z hz=>by rw[hsize];exact pre.lim 0 z (hGF z hz)) (by rw[hsize];exact Nat.le_refl _) () ⟨_,_,rfl,_,_,rfl,_,_,rfl,rfl⟩
    ⟨hrest2.1.trans hrest1.1,hrest2.2.1.trans hrest1.2.1,hrest2.2.2.trans hrest1.2.2,by rw[hsize];exact Nat.le_refl _,fun b' _ hb'=>hother b' (fun e0=>hb' (e0 ▸ .inr ⟨0,hbF⟩))⟩⟩
 ·simp at h
end Go.V

namespace Go.V
set_option maxRecDepth 100000
open Go Go.Proofs Go.RowKit
abbrev SigI:Sig:=⟨[.own (.sl TRow) (Mk.top (.sl TRow)),.val (.int .i64),.own (.sl TRow) (Mk.top (.sl TRow))],[.val (.sl TRow) (Mk.top (.sl TRow))]⟩
theorem sigI:ctx.sig 88=SigI:=by kernel_rfl
def insD (xs:List TRow.den) (i:Int) (ys:List TRow.den):Option (List TRow.den):=if 0≤i∧i≤xs.length∧0<ys.length∧xs.length+ys.length≤qbh then some (xs.take i.toNat++ys++xs.drop i.toNat) else none
theorem qwc {w w2:World} {Pr:BS} {Fs:Nat→BS} {ks:List PK} {a:PDen ks} {vs:List Value} (pre:Pre w.heap Pr Fs ks a vs) {e:Ty} {mi:Mk} {zs:List e.den} {cells:List Value} {FF:Nat→BS} {B cap:Nat} {cs:Array Value}
  (el:El w.heap Pr e mi zs cells FF) (hFF:∀ t b,FF t b→∃ k,Fs k b) (hob:qbk w2.heap B cs) (hcap:cap * e.width≤cs.size) (hl:zs.length≤cap) (htake:cs.toList.take (zs.length * e.width)=cells)
  (hB:B=w.heap.size∨(∃ k,Fs k B)) (hFB:∀ t,¬ FF t B) (hother:∀ b',b'<w.heap.size→b'≠B→w2.heap[b']? = w.heap[b']?) (hsz:w.heap.size≤w2.heap.size) (hBl:B<w2.heap.size)
  (h1:w2.os=w.os) (h2:w2.tape=w.tape) (h3:w2.output=w.output) (o:ODen ks) (out:qgn w2.heap Pr (fun _=>Nil) 0 ks o vs) :
  ∃ val Pr' Gs Os us,(Value.slice (some ⟨B,0,none⟩) zs.length cap)=val∧Pst w w2 Pr Fs ks [.val (.sl e) (.own 0 mi)] (zs,()) o vs val Pr' Gs Os us:=by
 have hFl:∀ t b,FF t b→b<w.heap.size:=fun t b hb=>by obtain ⟨k,hk⟩:=hFF t b hb;exact pre.lim k b hk
 have hPB:¬ Pr B:=fun hb=>by
  rcases hB with rfl | ⟨k,hk⟩
  ·exact Nat.lt_irrefl _ (pre.limPr _ hb)
  ·exact pre.prot k B hk hb
 have el2:=el.mono (h':=w2.heap) (Sub.refl _) (fun b' hb'=>hother b' (pre.limPr b' hb') (fun e0=>hPB (e0 ▸ hb'))) (fun t b' hb'=>hother b' (hFl t b' hb') (fun e0=>hFB t (e0 ▸ hb')))
 have rep:=el2.row hob (cap:=cap) hcap hl (fun t ht=>qqr htake (by
  have:=Nat.mul_le_mul_right e.width (show t+1≤zs.length by exact ht)
  rw[Nat.succ_mul] at this;exact this)) hFB 0
 have hG:∀ z,(z=B∨∃ t,FF t z)→May w.heap.size Fs z:=by
  rintro z (rfl | ⟨t,ht⟩)
  ·rcases hB with e0 | hk
   ·exact .inl (by omega)
   ·exact .inr hk
  ·exact .inr (hFF t z ht)
 refine ⟨_,Pr,_,_,_,rfl,qbpl pre rep hG (fun z hz hp=>?_) (fun z hz=>?_) hsz o out ⟨h1,h2,h3,hsz,fun b' hb1 hb'=>hother b' hb1 (fun e0=>hb' ?_)⟩⟩
 ·rcases hz with rfl | ⟨t,ht⟩
  ·exact hPB hp
  ·obtain ⟨k,hk⟩:=hFF t z ht;exact pre.prot k z hk hp
 ·rcases hz with rfl | ⟨t,ht⟩
  ·exact hBl
  ·exact Nat.lt_of_lt_of_le (hFl t z ht) hsz
 ·subst e0
  exact hG b' (.inl rfl)
theorem El.one {h:Array Obj} {Pr:BS} {mi:Mk} {xs:List TRow.den} {cells:List Value} {F:Nat→BS} (el:El h Pr TRow mi xs cells F) (hl:cells.length=xs.length):∀ u∈cells,u.oneCell'=true:=by
 intro u hu
 obtain ⟨k,hk,rfl⟩:=List.getElem_of_mem hu
 have hk2:k<xs.length:=by omega
 have r:=el.rep k hk2
 have hw1:TRow.width=1:=rfl
 refine Rep.one _ r _ ?_
 rw[hw1,Nat.mul_one,List.mem_iff_getElem?]
 refine ⟨0,?_⟩
 rw[List.getElem?_take,if_pos (by omega),List.getElem?_drop,Nat.add_zero,List.getElem?_eq_getElem]
theorem qbui {l D C:List Value} {i m:Nat} (hC:C.length=m) (hl:i+m+D.length≤l.length):(repl (repl l (i+m) D) i C).take (i+m+D.length)=l.take i++C++D:=by
 have hA:(l.take (i+m)).length=i+m:=by rw[List.length_take];omega
 have e1:(repl l (i+m) D).take i=l.take i:=by
  simp only[repl]
  rw[List.append_assoc,List.take_append_of_le_length (by omega),List.take_take]
  congr 1;omega
 have e2:(repl l (i+m) D).drop (i+m)=D++l.drop (i+m+D.length):=by
  simp only[repl]
  rw[List.append_assoc,List.drop_append_of_le_length (by omega),List.drop_eq_nil_of_le (by omega),List.nil_append]
 have e3:repl (repl l (i+m) D) i C=(l.take i++C++D)++l.drop (i+m+D.length):=by
  show (repl l (i+m) D).take i++C++(repl l (i+m) D).drop (i+C.length)=_
  rw[e1,hC,e2];simp only[List.append_assoc]
 rw[e3,List.take_append_of_le_length (by simp only[List.length_append,List.length_take];omega),List.take_of_length_le (by simp only[List.length_append,List.length_take];omega)]
theorem qbup {l D C:List Value} {i m:Nat} (hC:C.length=m) (hl:i+m+D.length≤l.length):(repl (repl l i C) (i+m) D).take (i+m+D.length)=l.take i++C++D:=by
 have hA:(l.take i++C).length=i+m:=by rw[List.length_append,List.length_take];omega
 have e1:(repl l i C).take (i+m)=l.take i++C:=by
  show (l.take i++C++l.drop (i+C.length)).take (i+m)=_
  rw[List.take_append_of_le_length (by omega),List.take_of_length_le (by omega)]
 show ((repl l i C).take (i+m)++D++(repl l i C).drop (i+m+D.length)).take (i+m+D.length)=_
 rw[e1,List.take_append_of_le_length (by rw[List.length_append];omega),List.take_of_length_le (by rw[List.length_append];omega)]
theorem qbv3:qbh7 Tryz.prog SigI 88 fun a=>(insD a.1 a.2.1 a.2.2.1).map fun r=>((r,()),()):=by
 intro a r h w Pr Fs vs pre
 obtain ⟨xs,i,ys,⟨⟩⟩:=a
 change List TRow.den at xs
 change Int at i
 change List TRow.den at ys
 obtain ⟨v1,vs1,rfl,⟨c1,rep1,rfl⟩,v2,vs2,rfl,⟨c2,r2,rfl⟩,v3,vs3,rfl,⟨c3,rep3,rfl⟩,k3⟩:=pre.rel
 obtain rfl:vs3=[]:=k3
 simp only[Rep] at r2
 subst r2
 dsimp only at h
 unfold insD at h
 split at h
 ·rename_i hc
  obtain ⟨h0,hi,hm,hbd⟩:=hc
  replace h0:0≤i:=h0
  replace hi:i≤xs.length:=hi
  replace hm:0<ys.length:=hm
  replace hbd:xs.length+ys.length≤274877906944:=hbd
  simp only[Option.map_some,Option.some.injEq] at h
  subst h
  obtain ⟨i,rfl⟩:=Int.eq_ofNat_of_zero_le h0
  have hi2:i≤xs.length:=by omega
  obtain ⟨ad1,cap1,cells1,F1,rfl,hl1,hlc1,hsrc1,el1,hF1,hown1⟩:=qnh (by simp[Mk.top]) (by simp[Mk.top]) rep1
  obtain ⟨ad2,cap2,cells2,F2,rfl,hl2,hlc2,hsrc2,el2,hF2,hown2⟩:=qnh (by simp[Mk.top]) (by simp[Mk.top]) rep3
  have hw1:TRow.width=1:=rfl
  replace hlc1:xs.length≤cap1:=hlc1
  replace hlc2:ys.length≤cap2:=hlc2
  have hl1':cells1.length=xs.length:=by rw[hl1,hw1,Nat.mul_one]
  have hl2':cells2.length=ys.length:=by rw[hl2,hw1,Nat.mul_one]
  rcases hown2 0 _ rfl with hc0 | ⟨b2,cs2,rfl,hbF2,hbo2,hcapb2,hFb2,hcells2⟩
  ·exact absurd hc0 (by omega)
  replace hcapb2:cap2≤cs2.size:=by rw[hw1,Nat.mul_one] at hcapb2;exact hcapb2
  replace hcells2:cells2=sub cs2 0 ys.length:=by rw[hcells2,hw1,Nat.mul_one]
  have hd12:∀ p q,Dis (F1 p) (F2 q):=fun p q=>(pre.dis 0 2 (by decide)).mono (hF1 p) (hF2 q)
  obtain ⟨FF,elz,hFF⟩:=El.insert el1 el2 i hi2 (by rw[hl1]) (by rw[hl2]) hd12
  rw[hw1,Nat.mul_one] at elz
  have hFs:∀ t b,FF t b→∃ k,Fs k b:=fun t b hb=>by
   rcases hFF t b hb with ⟨c,hc⟩ | ⟨c,hc⟩
   ·exact ⟨0,hF1 c b hc⟩
   ·exact ⟨2,hF2 c b hc⟩
  have hlz:(xs.take i++ys++xs.drop i).length=xs.length+ys.length:=by simp only[List.length_append,List.length_take,List.length_drop];omega
  have hone1:=el1.one hl1'
  have hone2:=el2.one hl2'
  have u67:Tryz.prog.underlying 29=some (.slice 32):=by kernel_rfl
  have u3:Tryz.prog.underlying 3=some (.int .i64):=by kernel_rfl
  obtain ⟨i0,hi0,hs0,hz0,hb0⟩:∃ i0,Tryz.prog.info? 32=some i0∧i0.size=1∧i0.zero=some (.slice none 0 0)∧i0.bytes=24:=by
   have k:((Tryz.prog.info? 32).map fun x=>(x.size,x.zero,x.bytes))=some (1,some (.slice none 0 0),24):=by kernel_rfl
   cases h:Tryz.prog.info? 32 with
   | none=>rw[h] at k;cases k
   | some x=>
    rw[h] at k
    simp only[Option.map_some,Option.some.injEq,Prod.mk.injEq] at k
    exact ⟨x,rfl,k.1,k.2.1,k.2.2⟩
  have hn2:(Builtin.firstCells i0.size ys.length (.slice (some ⟨b2,0,none⟩) ys.length cap2)).run Tryz.prog w=.ok cells2.toArray w:=by
   rw[hs0]
   exact qhb (by rw[hl2',Nat.mul_one]) (.inr ⟨b2,0,rfl,by rw[hcells2];exact qb1 hbo2.blk (by omega)⟩)
  have ht0:cells1.take xs.length=cells1:=List.take_of_length_le (by omega)
  have hd0:cells1.drop xs.length=[]:=List.drop_eq_nil_of_le (by omega)
  have houts:∀ (h:Array Obj) (v1 v2 v3:Value),qgn h Pr (fun _=>Nil) 0 SigI.params () [v1,v2,v3]:=fun h v1 v2 v3=>⟨_,_,rfl,_,_,rfl,_,_,rfl,rfl⟩
  by_cases hend:i=xs.length
  ·subst hend
   rw[ht0,hd0,List.append_nil] at elz
   by_cases hroom:xs.length+ys.length≤cap1
   ·rcases hown1 0 _ rfl with hc0 | ⟨b1,cs1,rfl,hbF1,hbo1,hcapb1,hFb1,hcells1⟩
    ·exact absurd hc0 (by omega)
    replace hcapb1:cap1≤cs1.size:=by rw[hw1,Nat.mul_one] at hcapb1;exact hcapb1
    replace hcells1:cells1=sub cs1 0 xs.length:=by rw[hcells1,hw1,Nat.mul_one]
    have hfit:xs.length+cells2.length≤cs1.size:=by omega
    have hr:∀ ty,(Builtin.append_ #[29,29] ty #[.slice (some ⟨b1,0,none⟩) xs.length cap1,.slice (some ⟨b2,0,none⟩) ys.length cap2]).run Tryz.prog w=.ok (.slice (some ⟨b1,0,none⟩) (xs.length+ys.length) cap1) (w.setCells b1 xs.length cells2):=fun ty=>
     qlu (P:=Tryz.prog) w (ty:=ty) rfl rfl u67 u67 hi0 hn2 hroom (fun ad e=>by
      simp only[Option.some.injEq] at e
      subst e
      rw[Addr.add_mid,Nat.zero_add,hs0,Nat.mul_one]
      have th:=qfc (w:=w) (o:=xs.length) (n:=cells2.length) hbo1 hfit
      have:=run_storeCells_cells (P:=Tryz.prog) b1 xs.length cells2 0 w (fun t ht=>by simpa using (th t ht).1) (fun t ht=>by simpa using (th t ht).2) hone2
      simpa using this) (fun e=>by simp at e)
    obtain ⟨ty,lo,hi',he,hfz⟩:=hbo1
    obtain ⟨cs3,hcs3,hcs3l⟩:=qdv cells2 xs.length w cs1 he hfit
    have hsz3:cs3.size=cs1.size:=by rw[←Array.length_toList,hcs3l,qcq (by simpa using hfit),Array.length_toList]
    have hob3:qbk (w.setCells b1 xs.length cells2).heap b1 cs3:=⟨ty,lo,hi',hcs3,fun t ht=>hfz t (by omega)⟩
    have h7:cs1.toList.length=cs1.size:=Array.length_toList
    have htake:cs3.toList.take ((xs.take xs.length++ys++xs.drop xs.length).length * TRow.width)=cells1++cells2:=by
     rw[hw1,Nat.mul_one,hlz,hcs3l,hcells1]
     simp only[repl,sub,List.drop_zero]
     rw[List.take_append_of_le_length (by rw[List.length_append,List.length_take,hl2'];omega),List.take_of_length_le (by rw[List.length_append,List.length_take,hl2'];omega)]
    have hrest:=qcp (b:=b1) cells2 xs.length w
    have hFBb:∀ t,¬ FF t b1:=fun t hb=>by
     rcases hFF t b1 hb with ⟨c,hc⟩ | ⟨c,hc⟩
     ·exact hFb1 c hc
     ·exact pre.dis 0 2 (by decide) b1 hbF1 (hF2 c b1 hc)
    refine (qbpw (some ⟨b1,0,none⟩) xs.length cap1 ys.length (some ⟨b2,0,none⟩) cap2 w _ _ hm hlc1 (.inl ⟨b1,rfl⟩) hr).mono ?_
    rintro e w' ⟨rfl,rfl⟩
    obtain ⟨val,Pr',Gs,Os,us,hv,hp⟩:=qwc pre elz hFs hob3 (cap:=cap1) (by rw[hw1,Nat.mul_one];omega) (by rw[hlz];exact hroom) htake (.inr ⟨0,hbF1⟩) hFBb (fun b' _ hb'=>qbl cells2 _ w b' hb') (by rw[qbb];exact Nat.le_refl _) (by rw[qbb];exact pre.lim 0 b1 hbF1) hrest.1 hrest.2.1 hrest.2.2 () (houts _ _ _ _)
    exact ⟨val,Pr',Gs,Os,us,by rw[←hv,hlz],hp⟩
   ·have hg:cap1<xs.length+ys.length:=by omega
    have hn2d:(Builtin.firstCells i0.size ys.length (.slice (some ⟨b2,0,none⟩) ys.length cap2)).run Tryz.prog w.drew=.ok cells2.toArray w.drew:=by
     rw[hs0]
     exact qhb (by rw[hl2',Nat.mul_one]) (.inr ⟨b2,0,rfl,qdr (by rw[hcells2];exact qb1 hbo2.blk (by omega))⟩)
    have hn1d:(Builtin.firstCells i0.size xs.length (.slice ad1 xs.length cap1)).run Tryz.prog w.drew=.ok cells1.toArray w.drew:=by
     rw[hs0]
     refine qhb (by rw[hl1',Nat.mul_one]) ?_
     rcases hsrc1 with ⟨h1,h2⟩ | ⟨b,o,cs,h1,h2,h3,h4⟩
     ·exact .inl ⟨h1,h2⟩
     ·exact .inr ⟨b,o,h1,qdr (h4 ▸ qb1 h2 h3)⟩
    have hfit:Builtin.nextslicecap (xs.length+ys.length) cap1 * i0.bytes≤281474976710656:=by
     have:=Room.nextslicecap_le' (need:=xs.length+ys.length) (old:=cap1) hg
     rw[hb0];omega
    have hr:=fun ty=>qw6 (P:=Tryz.prog) w (ats:=#[29,29]) (ty:=ty) rfl rfl u67 u67 hi0 hz0 hn2d hn1d hg (by omega) hfit
    have hge:=grownCap_ge w (xs.length+ys.length) cap1 32
    generalize grownCap w (xs.length+ys.length) cap1 32=cap' at hr hge
    have hzs:(Value.slice none 0 0).cells.size=1:=rfl
    have hcss:(cells1.toArray++cells2.toArray++Builtin.zeroCells (Value.slice none 0 0).cells (cap' - (xs.length+ys.length))).size=cap':=by
     simp only[Array.size_append,List.size_toArray,size_zeroCells,hzs,hl1',hl2'];omega
    have htk:(cells1.toArray++cells2.toArray++Builtin.zeroCells (Value.slice none 0 0).cells (cap' - (xs.length+ys.length))).toList.take (xs.length+ys.length)=cells1++cells2:=by
     simp only[Array.toList_append,List.append_assoc]
     rw[←List.append_assoc,List.take_append_of_le_length (by rw[List.length_append];omega),List.take_of_length_le (by rw[List.length_append];omega)]
    generalize cells1.toArray++cells2.toArray++Builtin.zeroCells (Value.slice none 0 0).cells (cap' - (xs.length+ys.length))=cs at hr hcss htk
    have h1a:(∃ b,ad1=some ⟨b,0,none⟩)∨(xs.length=0∧cap1=0):=by
     rcases hown1 0 _ rfl with hc0 | ⟨b1,cs1,rfl,_⟩
     ·exact .inr ⟨by omega,hc0⟩
     ·exact .inl ⟨b1,rfl⟩
    refine (qbpw ad1 xs.length cap1 ys.length (some ⟨b2,0,none⟩) cap2 w _ _ hm hlc1 h1a hr).mono ?_
    rintro e w' ⟨rfl,rfl⟩
    obtain ⟨val,Pr',Gs,Os,us,hv,hp⟩:=qwc (w2:=w.drew.alloc (.cells cs 32)) pre elz hFs (B:=w.heap.size) (cs:=cs) qbk.new (cap:=cap') (by rw[hw1,Nat.mul_one,hcss];exact Nat.le_refl _) (by rw[hlz];exact hge) (by rw[hw1,Nat.mul_one,hlz];exact htk) (.inl rfl)
     (fun t hb=>by obtain ⟨k,hk⟩:=hFs t _ hb;exact Nat.lt_irrefl _ (pre.lim k _ hk)) (fun b' hb1 _=>qh7 b' hb1) (by show w.heap.size≤(w.heap.push _).size;simp) (by show w.heap.size<(w.heap.push _).size;simp) rfl rfl rfl () (houts _ _ _ _)
    exact ⟨val,Pr',Gs,Os,us,by rw[←hv,hlz],hp⟩
  ·have hlt:i<xs.length:=by omega
   rcases hown1 0 _ rfl with hc0 | ⟨b1,cs1,rfl,hbF1,hbo1,hcapb1,hFb1,hcells1⟩
   ·exact absurd hc0 (by omega)
   replace hcapb1:cap1≤cs1.size:=by rw[hw1,Nat.mul_one] at hcapb1;exact hcapb1
   replace hcells1:cells1=sub cs1 0 xs.length:=by rw[hcells1,hw1,Nat.mul_one]
   have hb12:b2≠b1:=fun e=>pre.dis 0 2 (by decide) b1 hbF1 (e ▸ hbF2)
   have hcd:cells1.drop i=sub cs1 i (xs.length - i):=by
    rw[hcells1]
    simp only[sub,List.drop_zero,List.drop_take]
   have hct:cells1.take i=cs1.toList.take i:=by
    rw[hcells1]
    simp only[sub,List.drop_zero,List.take_take]
    congr 1;omega
   have hdl:(cells1.drop i).length=xs.length - i:=by rw[List.length_drop,hl1']
   have honed:∀ u∈cells1.drop i,u.oneCell'=true:=fun u hu=>hone1 u (List.mem_of_mem_drop hu)
   have hFBb:∀ t,¬ FF t b1:=fun t hb=>by
    rcases hFF t b1 hb with ⟨c,hc⟩ | ⟨c,hc⟩
    ·exact hFb1 c hc
    ·exact pre.dis 0 2 (by decide) b1 hbF1 (hF2 c b1 hc)
   have hsz38:(Tryz.prog.info? 32).map (·.size)=some 1:=by rw[hi0];simp[hs0]
   have hel:cells1.take i++cells2++cells1.drop i=(cells1.take i++cells2++cells1.drop i):=rfl
   by_cases hroom:xs.length+ys.length≤cap1
   ·have hov:∀ lb cb,(callFunc 154 #[.slice (some ⟨b2,0,none⟩) ys.length cap2,.slice (some ⟨b1,i+ys.length,none⟩) lb cb]).run Tryz.prog w=.ok (.value (.bool false)) w:=by
     intro lb cb
     obtain ⟨e2,lo2,hi2,he2,hf2⟩:=hbo2
     obtain ⟨e1,lo1,hi1,he1,hf1⟩:=hbo1
     have hnf:∀ k,k≤cs2.size→w.frozen? ⟨b2,k,none⟩=false:=fun k hk=>by
      have:=hf2 k hk
      simp only[World.frozen?,he2]
      simpa using this
     rw[run_callFunc_extern (P:=Tryz.prog) (f:=154) (fn:=Tryz.f154) Tryz.func154 (by kernel_rfl) (by kernel_rfl) (by kernel_rfl) (e:=Extern.SlicesOverlaps.overlaps #[29,29] #[4]) (by kernel_rfl),
      Lib.run_overlaps_apart w 29 4 32 u67 1 (fun w=>by simp[sizeOf,typeInfo,hi0,hs0]) ⟨b2,0,none⟩ ⟨b1,i+ys.length,none⟩ ys.length cap2 lb cb hb12 e2 e1 cs2.size cs1.size (by simp[World.shape?,he2]) (by simp[World.shape?,he1]) (by omega) (hnf 0 (by omega)) (hnf _ (Nat.le_refl _))]
     rfl
    have hfitA:i+ys.length+(cells1.drop i).length≤cs1.size:=by rw[hdl];omega
    have thA:=qfc (w:=w) (o:=i+ys.length) (n:=(cells1.drop i).length) hbo1 hfitA
    have hB:∀ ty dc sc,(Builtin.copy_ #[29,29] ty #[.slice (some ⟨b1,i+ys.length,none⟩) (xs.length+ys.length - (i+ys.length)) dc,.slice (some ⟨b1,i,none⟩) (xs.length+ys.length - i) sc]).run Tryz.prog w.drew=.ok (goInt (cells1.drop i).length) (w.drew.setCells b1 (i+ys.length) (cells1.drop i)):=fun ty dc sc=>
     run_copy_cells w.drew 29 29 ty 32 b1 (i+ys.length) _ dc ⟨b1,i,none⟩ _ sc (cells1.drop i) u67 hsz38 (by rw[hdl];simp only[Nat.min_def];split<;>omega)
      (fun k v hk=>by rw[Addr.add_mid];exact qdr (w:=w) (b:=b1) (o:=i) (cs:=cells1.drop i) (by rw[hcd];exact qb1 hbo1.blk (by omega)) k v hk) (fun k hk=>(thA k hk).1) (fun k hk=>(thA k hk).2) honed
    have hbo1':=hbo1
    obtain ⟨ty,lo,hi',he,hfz⟩:=hbo1
    obtain ⟨cs3,hcs3,hcs3l⟩:=qdv (cells1.drop i) (i+ys.length) w.drew cs1 he hfitA
    have hsz3:cs3.size=cs1.size:=by rw[←Array.length_toList,hcs3l,qcq (by simpa using hfitA),Array.length_toList]
    have hob3:qbk (w.drew.setCells b1 (i+ys.length) (cells1.drop i)).heap b1 cs3:=⟨ty,lo,hi',hcs3,fun t ht=>hfz t (by omega)⟩
    have hfitB:i+cells2.length≤cs3.size:=by omega
    have thB:=qfc (w:=w.drew.setCells b1 (i+ys.length) (cells1.drop i)) (o:=i) (n:=cells2.length) hob3 hfitB
    have hr2:(w.drew.setCells b1 (i+ys.length) (cells1.drop i)).rangeAt b2 0 cells2:=by
     rw[hcells2]
     exact qb1 (Blk.congr hbo2.blk (qbl (cells1.drop i) _ w.drew b2 hb12)) (by omega)
    have hC:∀ ty dc,(Builtin.copy_ #[29,29] ty #[.slice (some ⟨b1,i,none⟩) (xs.length+ys.length - i) dc,.slice (some ⟨b2,0,none⟩) ys.length cap2]).run Tryz.prog (w.drew.setCells b1 (i+ys.length) (cells1.drop i))=.ok (goInt cells2.length) ((w.drew.setCells b1 (i+ys.length) (cells1.drop i)).setCells b1 i cells2):=fun ty dc=>
     run_copy_cells _ 29 29 ty 32 b1 i _ dc ⟨b2,0,none⟩ _ cap2 cells2 u67 hsz38 (by rw[hl2'];simp only[Nat.min_def];split<;>omega)
      (fun k v hk=>by rw[Addr.add_mid];exact hr2 k v hk) (fun k hk=>(thB k hk).1) (fun k hk=>(thB k hk).2) hone2
    obtain ⟨cs4,hcs4,hcs4l⟩:=qdv cells2 i _ cs3 hcs3 hfitB
    have hsz4:cs4.size=cs3.size:=by rw[←Array.length_toList,hcs4l,qcq (by simpa using hfitB),Array.length_toList]
    have hob4:qbk ((w.drew.setCells b1 (i+ys.length) (cells1.drop i)).setCells b1 i cells2).heap b1 cs4:=⟨ty,lo,hi',hcs4,fun t ht=>hfz t (by omega)⟩
    have h7:cs1.toList.length=cs1.size:=Array.length_toList
    have htake:cs4.toList.take ((xs.take i++ys++xs.drop i).length * TRow.width)=cells1.take i++cells2++cells1.drop i:=by
     have e:=qbui (l:=cs1.toList) (D:=cells1.drop i) (C:=cells2) (i:=i) (m:=ys.length) hl2' (by rw[h7];exact hfitA)
     rw[hw1,Nat.mul_one,hlz,hcs4l,hcs3l,hct]
     rw[show xs.length+ys.length=i+ys.length+(cells1.drop i).length by rw[hdl];omega]
     exact e
    have hrest1:=qcp (b:=b1) (cells1.drop i) (i+ys.length) w.drew
    have hrest2:=qcp (b:=b1) cells2 i (w.drew.setCells b1 (i+ys.length) (cells1.drop i))
    have hsize:((w.drew.setCells b1 (i+ys.length) (cells1.drop i)).setCells b1 i cells2).heap.size=w.heap.size:=by rw[qbb,qbb];rfl
    refine (qbse b1 xs.length cap1 i ys.length ⟨b2,0,none⟩ cap2 w _ _ _ _ hlt hm hroom (by omega) hov hB hC).mono ?_
    rintro e w' ⟨rfl,rfl⟩
    obtain ⟨val,Pr',Gs,Os,us,hv,hp⟩:=qwc pre elz hFs hob4 (cap:=cap1) (by rw[hw1,Nat.mul_one];omega) (by rw[hlz];exact hroom) htake (.inr ⟨0,hbF1⟩) hFBb
     (fun b' _ hb'=>(qbl cells2 _ _ b' hb').trans (qbl (cells1.drop i) _ w.drew b' hb')) (by rw[hsize];exact Nat.le_refl _) (by rw[hsize];exact pre.lim 0 b1 hbF1) (hrest2.1.trans hrest1.1) (hrest2.2.1.trans hrest1.2.1) (hrest2.2.2.trans hrest1.2.2) () (houts _ _ _ _)
    exact ⟨val,Pr',Gs,Os,us,by rw[←hv,hlz],hp⟩
   ·have hg:cap1<xs.length+ys.length:=by omega
    obtain ⟨K,hK⟩:∃ K,K=xs.length+ys.length - i:=⟨_,rfl⟩
    have hKi:i+K=xs.length+ys.length:=by omega
    have hn1d:(Builtin.firstCells i0.size i (.slice (some ⟨b1,0,none⟩) i cap1)).run Tryz.prog w.drew=.ok (cells1.take i).toArray w.drew:=by
     rw[hs0]
     refine qhb (by rw[List.length_take,hl1',Nat.mul_one];omega) (.inr ⟨b1,0,rfl,qdr ?_⟩)
     have e:cells1.take i=sub cs1 0 i:=by rw[hct];simp only[sub,List.drop_zero]
     rw[e];exact qb1 hbo1.blk (by omega)
    have hfit:Builtin.nextslicecap (i+K) cap1 * i0.bytes≤281474976710656:=by
     have:=Room.nextslicecap_le' (need:=i+K) (old:=cap1) (by omega)
     rw[hb0];omega
    have hr:=fun ty=>Lib.run_append_grow_zeros (P:=Tryz.prog) w 29 3 ty 32 i0 _ .i64 .i64 u67 u3 hi0 hz0 (some ⟨b1,0,none⟩) i cap1 (cells1.take i) hn1d K (by omega) (by omega) (by omega) (by omega) (by rw[hb0];omega) hfit
    have hge:=grownCap_ge w (i+K) cap1 32
    generalize grownCap w (i+K) cap1 32=cap' at hr hge
    have hzs:(Value.slice none 0 0).cells.size=1:=rfl
    have hcss:((cells1.take i).toArray++Builtin.zeroCells (Value.slice none 0 0).cells K++Builtin.zeroCells (Value.slice none 0 0).cells (cap' - (i+K))).size=cap':=by
     simp only[Array.size_append,List.size_toArray,size_zeroCells,hzs,List.length_take,hl1'];omega
    have htk:((cells1.take i).toArray++Builtin.zeroCells (Value.slice none 0 0).cells K++Builtin.zeroCells (Value.slice none 0 0).cells (cap' - (i+K))).toList.take i=cells1.take i:=by
     simp only[Array.toList_append,List.append_assoc]
     rw[List.take_append_of_le_length (by rw[List.length_take,hl1'];omega),List.take_of_length_le (by rw[List.length_take,hl1'];omega)]
    generalize (cells1.take i).toArray++Builtin.zeroCells (Value.slice none 0 0).cells K++Builtin.zeroCells (Value.slice none 0 0).cells (cap' - (i+K))=cs0 at hr hcss htk
    rw[hKi] at hr hge
    have hKI:((K:Nat):Int)=(xs.length:Int)+(ys.length:Int) - (i:Int):=by omega
    rw[hKI] at hr
    have hob0:qbk (w.drew.alloc (.cells cs0 32)).heap w.heap.size cs0:=qbk.new
    have hb1lt:=pre.lim 0 b1 hbF1
    have hb2lt:=pre.lim 2 b2 hbF2
    have hb1B:b1≠w.heap.size:=by omega
    have hb2B:b2≠w.heap.size:=by omega
    have hold:∀ b',b'<w.heap.size→(w.drew.alloc (.cells cs0 32)).heap[b']? = w.heap[b']?:=fun b' hb'=>qh7 b' hb'
    have hfitA:i+cells2.length≤cs0.size:=by omega
    have thA:=qfc (w:=w.drew.alloc (.cells cs0 32)) (o:=i) (n:=cells2.length) hob0 hfitA
    have hr2:(w.drew.alloc (.cells cs0 32)).rangeAt b2 0 cells2:=by
     rw[hcells2]
     exact qb1 (Blk.congr hbo2.blk (hold b2 hb2lt)) (by omega)
    have hB:∀ ty,(Builtin.copy_ #[29,29] ty #[.slice (some ⟨w.heap.size,i,none⟩) (xs.length+ys.length - i) (cap' - i),.slice (some ⟨b2,0,none⟩) ys.length cap2]).run Tryz.prog (w.drew.alloc (.cells cs0 32))=.ok (goInt cells2.length) ((w.drew.alloc (.cells cs0 32)).setCells w.heap.size i cells2):=fun ty=>
     run_copy_cells _ 29 29 ty 32 w.heap.size i _ _ ⟨b2,0,none⟩ _ cap2 cells2 u67 hsz38 (by rw[hl2'];simp only[Nat.min_def];split<;>omega)
      (fun k v hk=>by rw[Addr.add_mid];exact hr2 k v hk) (fun k hk=>(thA k hk).1) (fun k hk=>(thA k hk).2) hone2
    obtain ⟨ty,lo,hi',he,hfz⟩:=hob0
    obtain ⟨cs3,hcs3,hcs3l⟩:=qdv cells2 i (w.drew.alloc (.cells cs0 32)) cs0 he hfitA
    have h7:cs0.toList.length=cs0.size:=Array.length_toList
    have hsz3:cs3.size=cs0.size:=by rw[←Array.length_toList,hcs3l,qcq (by simpa using hfitA),Array.length_toList]
    have hob3:qbk ((w.drew.alloc (.cells cs0 32)).setCells w.heap.size i cells2).drew.heap w.heap.size cs3:=⟨ty,lo,hi',hcs3,fun t ht=>hfz t (by omega)⟩
    have hfitB:i+ys.length+(cells1.drop i).length≤cs3.size:=by rw[hdl];omega
    have thB:=qfc (w:=((w.drew.alloc (.cells cs0 32)).setCells w.heap.size i cells2).drew) (o:=i+ys.length) (n:=(cells1.drop i).length) hob3 hfitB
    have hr1:((w.drew.alloc (.cells cs0 32)).setCells w.heap.size i cells2).drew.rangeAt b1 i (cells1.drop i):=by
     rw[hcd]
     exact qdr (qb1 (Blk.congr hbo1.blk ((qbl cells2 _ _ b1 hb1B).trans (hold b1 hb1lt))) (by omega))
    have hC:∀ ty,(Builtin.copy_ #[29,29] ty #[.slice (some ⟨w.heap.size,i+ys.length,none⟩) (xs.length+ys.length - (i+ys.length)) (cap' - (i+ys.length)),.slice (some ⟨b1,i,none⟩) (xs.length - i) (cap1 - i)]).run Tryz.prog ((w.drew.alloc (.cells cs0 32)).setCells w.heap.size i cells2).drew=.ok (goInt (cells1.drop i).length) (((w.drew.alloc (.cells cs0 32)).setCells w.heap.size i cells2).drew.setCells w.heap.size (i+ys.length) (cells1.drop i)):=fun ty=>
     run_copy_cells _ 29 29 ty 32 w.heap.size (i+ys.length) _ _ ⟨b1,i,none⟩ _ _ (cells1.drop i) u67 hsz38 (by rw[hdl];simp only[Nat.min_def];split<;>omega)
      (fun k v hk=>by rw[Addr.add_mid];exact hr1 k v hk) (fun k hk=>(thB k hk).1) (fun k hk=>(thB k hk).2) honed
    obtain ⟨cs4,hcs4,hcs4l⟩:=qdv (cells1.drop i) (i+ys.length) ((w.drew.alloc (.cells cs0 32)).setCells w.heap.size i cells2).drew cs3 hcs3 hfitB
    have hsz4:cs4.size=cs3.size:=by rw[←Array.length_toList,hcs4l,qcq (by simpa using hfitB),Array.length_toList]
    have hob4:qbk (((w.drew.alloc (.cells cs0 32)).setCells w.heap.size i cells2).drew.setCells w.heap.size (i+ys.length) (cells1.drop i)).heap w.heap.size cs4:=⟨ty,lo,hi',hcs4,fun t ht=>hfz t (by omega)⟩
    have htake:cs4.toList.take ((xs.take i++ys++xs.drop i).length * TRow.width)=cells1.take i++cells2++cells1.drop i:=by
     have e:=qbup (l:=cs0.toList) (D:=cells1.drop i) (C:=cells2) (i:=i) (m:=ys.length) hl2' (by rw[h7];omega)
     rw[hw1,Nat.mul_one,hlz,hcs4l,hcs3l,←htk]
     rw[show xs.length+ys.length=i+ys.length+(cells1.drop i).length by rw[hdl];omega]
     exact e
    have hrest1:=qcp (b:=w.heap.size) cells2 i (w.drew.alloc (.cells cs0 32))
    have hrest2:=qcp (b:=w.heap.size) (cells1.drop i) (i+ys.length) ((w.drew.alloc (.cells cs0 32)).setCells w.heap.size i cells2).drew
    have hsize:(((w.drew.alloc (.cells cs0 32)).setCells w.heap.size i cells2).drew.setCells w.heap.size (i+ys.length) (cells1.drop i)).heap.size=w.heap.size+1:=by
     rw[qbb]
     show ((w.drew.alloc (.cells cs0 32)).setCells w.heap.size i cells2).heap.size=_
     rw[qbb];show (w.heap.push _).size=_;simp
    refine (qbs8 b1 xs.length cap1 i ys.length ⟨b2,0,none⟩ cap2 w.heap.size cap' w _ _ _ _ _ hlt hm hlc1 hg hge (by omega) hr hB hC).mono ?_
    rintro e w' ⟨rfl,rfl⟩
    obtain ⟨val,Pr',Gs,Os,us,hv,hp⟩:=qwc pre elz hFs hob4 (cap:=cap') (by rw[hw1,Nat.mul_one];omega) (by rw[hlz];exact hge) htake (.inl rfl)
     (fun t hb=>by obtain ⟨k,hk⟩:=hFs t _ hb;exact Nat.lt_irrefl _ (pre.lim k _ hk))
     (fun b' hb1 hb'=>(qbl (cells1.drop i) _ _ b' hb').trans ((qbl cells2 _ _ b' hb').trans (hold b' hb1))) (by rw[hsize];omega) (by rw[hsize];omega) (hrest2.1.trans hrest1.1) (hrest2.2.1.trans hrest1.2.1) (hrest2.2.2.trans hrest1.2.2) () (houts _ _ _ _)
    exact ⟨val,Pr',Gs,Os,us,by rw[←hv,hlz],hp⟩
 ·simp at h
end Go.V

namespace Go.V
set_option maxRecDepth 100000
set_option maxHeartbeats 4000000
open Go Go.Proofs Go.RowKit Go.Lib
theorem nt2:Tryz.f93.ntmps=95:=by kernel_rfl
theorem qbnh (a1:Option Addr) (n c m:Nat) (a2:Option Addr) (c2:Nat) (w w3:World) (v3:Value) (hm:0<m) (hc:n≤c) (h1:(∃ b,a1=some ⟨b,0,none⟩)∨(n=0∧c=0))
  (hr:∀ ty,(Builtin.append_ #[35,35] ty #[.slice a1 n c,.slice a2 m c2]).run Tryz.prog w=.ok v3 w3) :
  Calls Tryz.prog 93 #[.slice a1 n c,.int .i64 n,.slice a2 m c2] w fun e w'=>e=.returned v3∧w'=w3:=by
 have mx:=mixed
 have uT:Tryz.prog.underlying 35=some (.slice 42):=by kernel_rfl
 have u3:Tryz.prog.underlying 3=some (.int .i64):=by kernel_rfl
 have vT:=run_underlying uT
 have v3:=run_underlying u3
 have sE:(Tryz.prog.info? 42).map (·.size)=some 2:=by kernel_rfl
 obtain ⟨i0,hi0⟩:∃ i0,Tryz.prog.info? 42=some i0:=by cases h:Tryz.prog.info? 42 with | none=>rw[h] at sE;cases sE | some x=>exact ⟨x,rfl⟩
 have hs0:i0.size=2:=by rw[hi0] at sE;simpa using sE
 have hz1:¬ ((m:Int)=0):=by omega
 rcases h1 with ⟨b,rfl⟩ | ⟨rfl,rfl⟩
 ·go_enter Tryz.func93,nt2
  go_wp2_with (at_builtin;refine Lib.wpList_append_run _ rfl _ _ _ _ rfl _ _ rfl rfl _ _ (hr _) ?_)
  all_goals (try (go_ret;exact ⟨rfl,rfl⟩))
 ·cases a1 with
  | none=>
   go_enter Tryz.func93,nt2
   go_wp2_with (at_builtin;refine Lib.wpList_append_run _ rfl _ _ _ _ rfl _ _ rfl rfl _ _ (hr _) ?_)
   all_goals (try (go_ret;exact ⟨rfl,rfl⟩))
  | some a0=>
   go_enter Tryz.func93,nt2
   go_wp2_with (at_builtin;refine Lib.wpList_append_run _ rfl _ _ _ _ rfl _ _ rfl rfl _ _ (hr _) ?_)
   all_goals (try (go_ret;exact ⟨rfl,rfl⟩))
theorem qbsc (b n c i m:Nat) (a2:Addr) (c2 B G:Nat) (w w1 w2 w3:World) (r2 r3:Value) (hi:i<n) (hm:0<m) (hnc:n≤c) (hroom:c<n+m) (hG:n+m≤G) (hs63:n+m≤9223372036854775807)
  (hA:∀ ty,(Builtin.append_ #[35,3] ty #[.slice (some ⟨b,0,none⟩) i c,.int .i64 ((n:Int)+(m:Int) - (i:Int))]).run Tryz.prog w=.ok (.slice (some ⟨B,0,none⟩) (n+m) G) w1)
  (hB:∀ ty,(Builtin.copy_ #[35,35] ty #[.slice (some ⟨B,i * 2,none⟩) (n+m - i) (G - i),.slice (some a2) m c2]).run Tryz.prog w1=.ok r2 w2)
  (hC:∀ ty,(Builtin.copy_ #[35,35] ty #[.slice (some ⟨B,(i+m) * 2,none⟩) (n+m - (i+m)) (G - (i+m)),.slice (some ⟨b,i * 2,none⟩) (n - i) (c - i)]).run Tryz.prog w2.drew=.ok r3 w3) :
  Calls Tryz.prog 93 #[.slice (some ⟨b,0,none⟩) n c,.int .i64 i,.slice (some a2) m c2] w fun e w'=>e=.returned (.slice (some ⟨B,0,none⟩) (n+m) G)∧w'=w3:=by
 have mx:=mixed
 have uT:Tryz.prog.underlying 35=some (.slice 42):=by kernel_rfl
 have u3:Tryz.prog.underlying 3=some (.int .i64):=by kernel_rfl
 have vT:=run_underlying uT
 have v3:=run_underlying u3
 have sE:(Tryz.prog.info? 42).map (·.size)=some 2:=by kernel_rfl
 obtain ⟨i0,hi0⟩:∃ i0,Tryz.prog.info? 42=some i0:=by cases h:Tryz.prog.info? 42 with | none=>rw[h] at sE;cases sE | some x=>exact ⟨x,rfl⟩
 have hs0:i0.size=2:=by rw[hi0] at sE;simpa using sE
 have hz1:¬ ((m:Int)=0):=by omega
 have hz2:¬ ((i:Int)=(n:Int)):=by omega
 have hz3:(c:Int)<(n:Int)+(m:Int):=by omega
 have hw1:IntKind.i64.wrap ((i:Int)+(m:Int))=(i:Int)+(m:Int):=by rw[IntKind.wrap_i64];omega
 have hb1:(0:Int)≤(i:Int)+(m:Int):=by omega
 have hin:i≤n:=by omega
 have htn:((i:Int)+(m:Int)).toNat=i+m:=by omega
 have hb3:(i:Int)≤(n:Int):=by omega
 have hGi:¬ (G=i):=by omega
 have hGim:¬ (G=i+m):=by omega
 have hci:¬ (c=i):=by omega
 go_enter Tryz.func93,nt2
 go_wp2_with (first
  | (at_builtin;refine Lib.wpList_append_run _ rfl _ _ _ _ rfl _ _ rfl rfl _ _ (hA _) ?_)
  | (at_builtin;refine wpList_copy_runI _ rfl _ _ 35 35 rfl _ _ rfl rfl (hB _) ?_))
 go_region_law_o (refine step_copy_runI rfl _ _ 35 35 rfl (.slice (some ⟨B,(i+m) * 2,none⟩) (n+m - (i+m)) (G - (i+m))) (.slice (some ⟨b,i * 2,none⟩) (n - i) (c - i)) (by simp[Act.eval,Act.put]) (by simp[Act.eval,Act.put]) (hC _) ?_)
 go_wp2
 go_ret
 exact ⟨rfl,rfl⟩
theorem qbqi (b n c i m:Nat) (a2:Addr) (c2:Nat) (w w1 w2:World) (r1 r2:Value) (hi:i<n) (hm:0<m) (hroom:n+m≤c) (hs63:n+m≤9223372036854775807)
  (hov:∀ lb cb,(callFunc 156 #[.slice (some a2) m c2,.slice (some ⟨b,(i+m) * 2,none⟩) lb cb]).run Tryz.prog w=.ok (.value (.bool false)) w)
  (hB:∀ ty dc sc,(Builtin.copy_ #[35,35] ty #[.slice (some ⟨b,(i+m) * 2,none⟩) (n+m - (i+m)) dc,.slice (some ⟨b,i * 2,none⟩) (n+m - i) sc]).run Tryz.prog w.drew=.ok r1 w1)
  (hC:∀ ty dc,(Builtin.copy_ #[35,35] ty #[.slice (some ⟨b,i * 2,none⟩) (n+m - i) dc,.slice (some a2) m c2]).run Tryz.prog w1=.ok r2 w2) :
  Calls Tryz.prog 93 #[.slice (some ⟨b,0,none⟩) n c,.int .i64 i,.slice (some a2) m c2] w fun e w'=>e=.returned (.slice (some ⟨b,0,none⟩) (n+m) c)∧w'=w2:=by
 have mx:=mixed
 have uT:Tryz.prog.underlying 35=some (.slice 42):=by kernel_rfl
 have u3:Tryz.prog.underlying 3=some (.int .i64):=by kernel_rfl
 have vT:=run_underlying uT
 have v3:=run_underlying u3
 have sE:(Tryz.prog.info? 42).map (·.size)=some 2:=by kernel_rfl
 obtain ⟨i0,hi0⟩:∃ i0,Tryz.prog.info? 42=some i0:=by cases h:Tryz.prog.info? 42 with | none=>rw[h] at sE;cases sE | some x=>exact ⟨x,rfl⟩
 have hs0:i0.size=2:=by rw[hi0] at sE;simpa using sE
 have hz1:¬ ((m:Int)=0):=by omega
 have hz2:¬ ((i:Int)=(n:Int)):=by omega
 have hw1:IntKind.i64.wrap ((i:Int)+(m:Int))=(i:Int)+(m:Int):=by rw[IntKind.wrap_i64];omega
 have hb1:(0:Int)≤(i:Int)+(m:Int):=by omega
 have hin:i≤n:=by omega
 have htn:((i:Int)+(m:Int)).toNat=i+m:=by omega
 have hb2:¬ (c=i+m):=by omega
 have hb3:(i:Int)≤(n:Int)+(m:Int):=by omega
 have hb4:¬ (c=i):=by omega
 go_enter Tryz.func93,nt2
 go_wp2_with (simp only[hov])
 go_region_law_o (refine step_copy_runI rfl _ _ 35 35 rfl _ _ (by simp[Act.eval,Act.put]) (by simp[Act.eval,Act.put]) (hB _ _ _) ?_)
 go_wp2_with (at_builtin;refine wpList_copy_runI _ rfl _ _ 35 35 rfl _ _ rfl rfl (hC _ _) ?_)
 go_ret
 exact ⟨rfl,rfl⟩
end Go.V


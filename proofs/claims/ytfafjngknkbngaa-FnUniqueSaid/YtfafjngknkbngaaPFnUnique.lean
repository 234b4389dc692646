/- The row FnUnique holds: for all bytes the law returns true and the argument reads as before. No condition. -/
import Derived.WalkKit
import Derived.Lib.Walk
import Derived.Lib.SliceRun
import Derived.Lib.JoinLaws
import Derived.Lib.AppendZeros
import Derived.Lib.Overlaps
import Derived.Laws.Externs
import Derived.Laws.IdiomCopy
import Derived.Lib.AppendZerosOnto
import Derived.Shelf.Spec.SlicesInsert
import Derived.Test.YtfafjngknkbngaaAPFnUnique1
set_option linter.unusedVariables false
set_option linter.unusedSimpArgs false
set_option linter.unusedSectionVars false
namespace Go.G
open Go Go.V
theorem br_t {R:Type} {a b:Option R}:br true a b=a:=rfl
theorem br_f {R:Type} {a b:Option R}:br false a b=b:=rfl
theorem br_pos {R:Type} {a b:Option R} {p:Prop} [Decidable p] (h:p):br (decide p) a b=a:=by simp[br,h]
theorem br_neg {R:Type} {a b:Option R} {p:Prop} [Decidable p] (h:¬ p):br (decide p) a b=b:=by simp[br,h]
theorem bindD_some {α R:Type} {a:α} {f:α→Option R}:bindD (some a) f=f a:=rfl
theorem br_ite {R:Type} {c:Bool} {a b:Option R}:br c a b=if c=true then a else b:=by cases c<;>rfl
theorem wrap_form (x:Int):IntKind.wrap IntKind.i64 x=if x % 18446744073709551616≥9223372036854775808 then x % 18446744073709551616 - 18446744073709551616 else x % 18446744073709551616:=by
  by_cases h:x % 18446744073709551616≥9223372036854775808<;>simp[IntKind.wrap,IntKind.signed,IntKind.bits,h]
theorem wrap_id {x:Int} (h1 : -9223372036854775808≤x) (h2:x≤9223372036854775807):IntKind.wrap IntKind.i64 x=x:=by
  rw[wrap_form]
  split<;>omega
def W:Nat:=9223372036854775808
theorem W_def:W=9223372036854775808:=rfl
theorem maxLen_def:maxLen=9223372036854775807:=rfl
theorem bound_def:bound=274877906944:=rfl
theorem ix {α:Type} {l:List α} {i:Nat} (h:i<l.length):(decide (0≤(i:Int))&&decide ((i:Int)<(l.length:Int)))=true:=by
  simp only[Bool.and_eq_true,decide_eq_true_eq];omega
theorem ixn {α:Type} {l:List α} {i:Int} (h0:0≤i) (h:i<l.length):(decide (0≤i)&&decide (i<(l.length:Int)))=true:=by
  simp only[Bool.and_eq_true,decide_eq_true_eq];omega
theorem wrap_succ {i:Nat} (h:i<9223372036854775807):IntKind.wrap IntKind.i64 ((i:Int)+1)=((i+1:Nat):Int):=by
  rw[wrap_id]<;>omega
theorem getD_lt {α:Type} {l:List α} {i:Nat} {d:α} (h:i<l.length):l.getD i d=l[i]:=by
  simp[List.getD,h]
theorem drop_cons {α:Type} {l:List α} {i:Nat} (h:i<l.length):l.drop i=l[i]::l.drop (i+1):=List.drop_eq_getElem_cons h
theorem drop_end {α:Type} {l:List α} {i:Nat} (h:¬ i<l.length):l.drop i=[]:=List.drop_eq_nil_of_le (by omega)
def tot:(t:Ty)→t.den→Nat
  | .unit,_=>0
  | .int _,_=>0
  | .bool,_=>0
  | .str,s=>s.size
  | .sl t,xs=>xs.length+(xs.map (tot t)).sum
  | .pair a b,x=>tot a x.1+tot b x.2
def left (t:Ty) (a:t.den) (k:Int):Int:=if (tot t a:Int)≤k then k - tot t a else -1
theorem beq_bytes {a b:ByteArray}:List.beq a.toList b.toList=decide (a=b):=by
  have h1:List.beq a.toList b.toList=decide (a.toList=b.toList):=by
    have:(a.toList == b.toList)=decide (a.toList=b.toList):=by
      by_cases h:a.toList=b.toList<;>simp[h]
    exact this
  rw[h1]
  by_cases h:a=b
  · simp[h]
  · have:a.toList≠b.toList:=fun e=>h (by
      have h2:a.data.toList=b.data.toList:=by
        have:=e
        simpa [ByteArray.toList_eq] using this
      cases a;cases b
      simp only[ByteArray.mk.injEq]
      exact Array.toList_inj.1 h2)
    simp[h,this]
end Go.G

namespace Go.G
open Go Go.V
end Go.G

namespace Go.G
open Go Go.V
end Go.G

namespace Go.G
open Go Go.V
def Fit (b:Nat):(t:Ty)→t.den→Prop
  | .sl t,xs=>xs.length≤b∧∀ x∈xs,Fit b t x
  | .pair s t,x=>Fit b s x.1∧Fit b t x.2
  | _,_=>True
theorem Fit.mono {b c:Nat} (h:b≤c):∀ {t:Ty} {x:t.den},Fit b t x→Fit c t x
  | .unit,_,_=>trivial
  | .int _,_,_=>trivial
  | .bool,_,_=>trivial
  | .str,_,_=>trivial
  | .sl t,xs,f=>⟨Nat.le_trans f.1 h,fun x hx=>(f.2 x hx).mono h⟩
  | .pair s t,x,f=>⟨f.1.mono h,f.2.mono h⟩
end Go.G

namespace Go.G
open Go Go.V
abbrev Value:=Int×Int×ByteArray×Unit
abbrev Col:=ByteArray×Int×Bool×Unit
abbrev Index:=ByteArray×List Int×Bool×Unit
end Go.G

namespace Go.G
open Go Go.V Go.Proofs
def anyFrom (P:Nat→Bool):Nat→Nat→Bool
  | _,0=>false
  | i,k+1=>P i||anyFrom P (i+1) k
theorem anyFrom_iff {P:Nat→Bool}:∀ {k i:Nat},anyFrom P i k=true↔∃ j,i≤j∧j<i+k∧P j=true
  | 0,i=>by simp[anyFrom];intro j h1 h2;omega
  | k+1,i=>by
    simp only[anyFrom,Bool.or_eq_true,anyFrom_iff (k:=k) (i:=i+1)]
    constructor
    · rintro (h | ⟨j,h1,h2,h3⟩)
      · exact ⟨i,Nat.le_refl _,by omega,h⟩
      · exact ⟨j,by omega,by omega,h3⟩
    · rintro ⟨j,h1,h2,h3⟩
      rcases Nat.eq_or_lt_of_le h1 with rfl | h1
      · exact .inl h3
      · exact .inr ⟨j,by omega,by omega,h3⟩
theorem anyFrom_false {P:Nat→Bool} {k i:Nat}:anyFrom P i k=false↔∀ j,i≤j→j<i+k→P j=false:=by
  rw[←Bool.not_eq_true,anyFrom_iff]
  constructor
  · intro h j h1 h2
    cases hp:P j with
    | false=>rfl
    | true=>exact absurd ⟨j,h1,h2,hp⟩ h
  · rintro h ⟨j,h1,h2,h3⟩
    rw[h j h1 h2] at h3;exact Bool.noConfusion h3
theorem anyFrom_congr {P Q:Nat→Bool}:∀ {k i:Nat},(∀ j,i≤j→j<i+k→P j=Q j)→anyFrom P i k=anyFrom Q i k
  | 0,_,_=>rfl
  | k+1,i,h=>by
    simp only[anyFrom]
    rw[h i (Nat.le_refl _) (by omega),anyFrom_congr fun j h1 h2=>h j (by omega) (by omega)]
theorem scan {R:Type} {L:Nat→Nat→Option R} {N:Nat} {P:Nat→Bool} {A B:Option R}
    (hs:∀ m i,i≤N→L (m+1) i=if i<N then br (P i) A (L m (i+1)) else B):∀ m i,i≤N→N - i<m→L m i=br (anyFrom P i (N - i)) A B
  | 0,_,_,h=>by omega
  | m+1,i,hi,hm=>by
    rw[hs m i hi]
    by_cases h:i<N
    · rw[if_pos h]
      obtain ⟨k,hk⟩:∃ k,N - i=k+1:=⟨N - i - 1,by omega⟩
      rw[hk,scan hs m (i+1) (by omega) (by omega)]
      have:N - (i+1)=k:=by omega
      rw[this]
      show br (P i) A (br (anyFrom P (i+1) k) A B)=br (P i||anyFrom P (i+1) k) A B
      cases P i<;>rfl
    · rw[if_neg h]
      have:N - i=0:=by omega
      rw[this];rfl
theorem scan0 {R:Type} {L:Nat→Nat→Option R} {N:Nat} {P:Nat→Bool} {A B:Option R}
    (hs:∀ m i,i≤N→L (m+1) i=if i<N then br (P i) A (L m (i+1)) else B) {m:Nat} (hm:N<m):L m 0=br (anyFrom P 0 N) A B:=by
  have:=scan hs m 0 (by omega) (by omega)
  rwa [Nat.sub_zero] at this
def firstFrom (P:Nat→Bool):Nat→Nat→Option Nat
  | _,0=>none
  | i,k+1=>if P i=true then some i else firstFrom P (i+1) k
theorem firstFrom_some {P:Nat→Bool}:∀ {k i j:Nat},firstFrom P i k=some j→i≤j∧j<i+k∧P j=true∧∀ l,i≤l→l<j→P l=false
  | 0,i,j,h=>by simp[firstFrom] at h
  | k+1,i,j,h=>by
    simp only[firstFrom] at h
    split at h
    · rename_i hp
      simp only[Option.some.injEq] at h
      subst h
      exact ⟨Nat.le_refl _,by omega,hp,fun l h1 h2=>by omega⟩
    · rename_i hp
      obtain ⟨h1,h2,h3,h4⟩:=firstFrom_some h
      refine ⟨by omega,by omega,h3,fun l h5 h6=>?_⟩
      rcases Nat.eq_or_lt_of_le h5 with rfl | h5
      · simpa using hp
      · exact h4 l h5 h6
theorem firstFrom_none {P:Nat→Bool}:∀ {k i:Nat},firstFrom P i k=none→∀ j,i≤j→j<i+k→P j=false
  | 0,i,_,j,h1,h2=>by omega
  | k+1,i,h,j,h1,h2=>by
    simp only[firstFrom] at h
    split at h
    · simp at h
    · rename_i hp
      rcases Nat.eq_or_lt_of_le h1 with rfl | h1
      · simpa using hp
      · exact firstFrom_none h j (by omega) (by omega)
theorem firstFrom_congr {P Q:Nat→Bool}:∀ {k i:Nat},(∀ j,i≤j→j<i+k→P j=Q j)→firstFrom P i k=firstFrom Q i k
  | 0,_,_=>rfl
  | k+1,i,h=>by
    simp only[firstFrom]
    rw[h i (Nat.le_refl _) (by omega),firstFrom_congr fun j h1 h2=>h j (by omega) (by omega)]
theorem scanF {R:Type} {L:Nat→Nat→Option R} {N:Nat} {P:Nat→Bool} {A:Nat→Option R} {B:Option R}
    (hs:∀ m i,i≤N→L (m+1) i=if i<N then br (P i) (A i) (L m (i+1)) else B):∀ m i,i≤N→N - i<m→L m i=match firstFrom P i (N - i) with | some j=>A j | none=>B
  | 0,_,_,h=>by omega
  | m+1,i,hi,hm=>by
    rw[hs m i hi]
    by_cases h:i<N
    · rw[if_pos h]
      obtain ⟨k,hk⟩:∃ k,N - i=k+1:=⟨N - i - 1,by omega⟩
      rw[hk]
      simp only[firstFrom]
      by_cases hp:P i=true
      · rw[if_pos hp,hp];rfl
      · rw[if_neg hp,scanF hs m (i+1) (by omega) (by omega)]
        simp only[Bool.not_eq_true] at hp
        have:N - (i+1)=k:=by omega
        rw[this,hp];rfl
    · rw[if_neg h]
      have:N - i=0:=by omega
      rw[this];rfl
theorem scanF0 {R:Type} {L:Nat→Nat→Option R} {N:Nat} {P:Nat→Bool} {A:Nat→Option R} {B:Option R}
    (hs:∀ m i,i≤N→L (m+1) i=if i<N then br (P i) (A i) (L m (i+1)) else B) {m:Nat} (hm:N<m):L m 0=match firstFrom P 0 N with | some j=>A j | none=>B:=by
  have:=scanF hs m 0 (by omega) (by omega)
  rwa [Nat.sub_zero] at this
theorem cond_and (a b:Bool):(bif a then b else false)=(a&&b):=by cases a<;>rfl
theorem cond_or (a b:Bool):(bif a then true else b)=(a||b):=by cases a<;>rfl
def inR (x a b:Int):Bool:=decide (a≤x)&&decide (x≤b)
theorem c_from {X:Ext} (hX:XOk X) {n:Nat} (hn:1≤n) (x a b:Int):C_impl_from (DD X n) x a b=some ((inR x a b,()),()):=by
  obtain ⟨n,rfl⟩:∃ k,n=k+1:=⟨n - 1,by omega⟩
  rw[S_impl_from hX]
  simp only[F_impl_from,impl_from_e,cond_and,inR]
theorem c_l1In {X:Ext} (hX:XOk X) {n:Nat} (hn:1≤n) (x a b:Int):C_spec_l1In (DD X n) x a b=some ((inR x a b,()),()):=by
  obtain ⟨n,rfl⟩:∃ k,n=k+1:=⟨n - 1,by omega⟩
  rw[S_spec_l1In hX]
  simp only[F_spec_l1In,spec_l1In_e,cond_and,inR]
def byteAt (s:ByteArray) (i:Nat):Int:=((s.data.getD i (UInt8.ofNat 0)).toNat:Int)
def nameOk (s:ByteArray):Bool:=!(anyFrom (fun i=>decide (byteAt s i<97)||decide (byteAt s i>122)) 0 s.size)&&inR s.size 1 12
theorem ixs {s:ByteArray} {i:Nat} (h:i<s.size):(decide (0≤(i:Int))&&decide ((i:Int)<(s.size:Int)))=true:=by
  simp only[Bool.and_eq_true,decide_eq_true_eq];omega
theorem c_implNameOk {X:Ext} (hX:XOk X) {n:Nat} (hn:W+2≤n) (s:ByteArray) (hs:s.size≤maxLen):C_impl_ColNameOk (DD X n) s=some ((nameOk s,()),()):=by
  obtain ⟨n,rfl⟩:∃ k,n=k+1:=⟨n - 1,by omega⟩
  have hd:=maxLen_def
  have hW:=W_def
  rw[S_impl_ColNameOk hX]
  simp only[F_impl_ColNameOk,impl_ColNameOk_e,impl_ColNameOk_LP0]
  refine Eq.trans (scan0 (L:=fun m i=>impl_ColNameOk_L0 (DD X n) n _ _ m s s.size (i:Int)) (N:=s.size) (P:=fun i=>decide (byteAt s i<97)||decide (byteAt s i>122))
    (A:=some ((false,()),())) (B:=some ((inR s.size 1 12,()),())) (fun m i hi=>?_) (m:=n) (by omega)) ?_
  · simp only[impl_ColNameOk_L0,impl_ColNameOk_b0]
    by_cases h:i<s.size
    · rw[br_pos (by exact_mod_cast h),ixs h,br_t,br_t,Int.toNat_natCast,wrap_succ (by omega),if_pos h]
      change br (decide (byteAt s i<97)) _ (br (decide (byteAt s i>122)) _ _)=_
      by_cases h1:byteAt s i<97
      · rw[br_pos h1,decide_eq_true h1];rfl
      · rw[br_neg h1,decide_eq_false h1]
        by_cases h2:byteAt s i>122
        · rw[br_pos h2,decide_eq_true h2];rfl
        · rw[br_neg h2,decide_eq_false h2];rfl
    · rw[br_neg (by exact_mod_cast h),if_neg h]
      simp only[impl_ColNameOk_x0_1,c_from hX (show 1≤n by omega),bindD_some]
  · unfold nameOk
    cases anyFrom (fun i=>decide (byteAt s i<97)||decide (byteAt s i>122)) 0 s.size<;>rfl
theorem c_specNameOk {X:Ext} (hX:XOk X) {n:Nat} (hn:W+2≤n) (s:ByteArray) (hs:s.size≤maxLen):C_spec_ColNameOk (DD X n) s=some ((nameOk s,()),()):=by
  obtain ⟨n,rfl⟩:∃ k,n=k+1:=⟨n - 1,by omega⟩
  have hd:=maxLen_def
  have hW:=W_def
  rw[S_spec_ColNameOk hX]
  simp only[F_spec_ColNameOk,spec_ColNameOk_e,spec_ColNameOk_LP0]
  refine Eq.trans (scan0 (L:=fun m i=>spec_ColNameOk_L0 (DD X n) n _ _ m s (i:Int)) (N:=s.size) (P:=fun i=>decide (byteAt s i<97)||decide (byteAt s i>122))
    (A:=some ((false,()),())) (B:=some ((inR s.size 1 12,()),())) (fun m i hi=>?_) (m:=n) (by omega)) ?_
  · simp only[spec_ColNameOk_L0,spec_ColNameOk_b0]
    by_cases h:i<s.size
    · rw[br_pos (by exact_mod_cast h),ixs h,br_t,br_t,Int.toNat_natCast,wrap_succ (by omega),if_pos h]
      change br (decide (byteAt s i<97)) _ (br (decide (byteAt s i>122)) _ _)=_
      by_cases h1:byteAt s i<97
      · rw[br_pos h1,decide_eq_true h1];rfl
      · rw[br_neg h1,decide_eq_false h1]
        by_cases h2:byteAt s i>122
        · rw[br_pos h2,decide_eq_true h2];rfl
        · rw[br_neg h2,decide_eq_false h2];rfl
    · rw[br_neg (by exact_mod_cast h),if_neg h]
      simp only[spec_ColNameOk_x0_1,c_l1In hX (show 1≤n by omega),bindD_some]
  · unfold nameOk
    cases anyFrom (fun i=>decide (byteAt s i<97)||decide (byteAt s i>122)) 0 s.size<;>rfl
def has (l:List Int) (x:Int):Bool:=anyFrom (fun j=>decide (x=l.getD j 0)) 0 l.length
theorem c_contains {X:Ext} (hX:XOk X) {n:Nat} (hn:W+2≤n) (l:List Int) (x:Int) (hl:l.length≤maxLen):C_slices_Contains_int_int (DD X n) l x=some ((has l x,()),()):=by
  obtain ⟨n,rfl⟩:∃ k,n=k+2:=⟨n - 2,by omega⟩
  have hd:=maxLen_def
  have hW:=W_def
  rw[S_slices_Contains_int_int hX]
  simp only[F_slices_Contains_int_int,slices_Contains_int_int_e]
  have e:C_slices_Index_int_int (DD X (n+1)) l x=some ((match firstFrom (fun j=>decide (x=l.getD j 0)) 0 l.length with | some j=>(j:Int) | none=>-1,()),()):=by
    rw[S_slices_Index_int_int hX]
    simp only[F_slices_Index_int_int,slices_Index_int_int_e,slices_Index_int_int_LP0]
    refine Eq.trans (scanF0 (L:=fun m i=>slices_Index_int_int_L0 (DD X n) n _ _ m l x l.length (i:Int)) (N:=l.length) (P:=fun j=>decide (x=l.getD j 0))
      (A:=fun j=>some (((j:Int),()),())) (B:=some ((-1,()),())) (fun m i hi=>?_) (m:=n) (by omega)) ?_
    · simp only[slices_Index_int_int_L0,slices_Index_int_int_b0]
      by_cases h:i<l.length
      · rw[br_pos (by exact_mod_cast h),ix h,br_t,Int.toNat_natCast,wrap_succ (by omega),if_pos h];rfl
      · rw[br_neg (by exact_mod_cast h),if_neg h];rfl
    · cases firstFrom (fun j=>decide (x=l.getD j 0)) 0 l.length<;>rfl
  rw[e,bindD_some]
  congr 3
  unfold has
  cases hf:firstFrom (fun j=>decide (x=l.getD j 0)) 0 l.length with
  | none=>
    have:=firstFrom_none hf
    rw[anyFrom_false.2 this];rfl
  | some j=>
    obtain ⟨h1,h2,h3,_⟩:=firstFrom_some hf
    rw[anyFrom_iff.2 ⟨j,h1,h2,h3⟩]
    simp
def placesOk (n:Nat) (l:List Int) (most:Int):Bool:=!(anyFrom (fun i=>!inR (l.getD i 0) 0 ((n:Int) - 1)||has (l.take i) (l.getD i 0)) 0 l.length)&&inR l.length 1 most
theorem c_implPlacesOk {X:Ext} (hX:XOk X) {n:Nat} (hn:W+3≤n) (s:List Col×List Int×List Index×Unit) (l:List Int) (most:Int) (hc:s.1.length≤maxLen) (hl:l.length≤maxLen) :
    C_impl_placesOk (DD X n) s l most=some ((placesOk s.1.length l most,()),()):=by
  obtain ⟨n,rfl⟩:∃ k,n=k+1:=⟨n - 1,by omega⟩
  have hd:=maxLen_def
  have hW:=W_def
  rw[S_impl_placesOk hX]
  simp only[F_impl_placesOk,impl_placesOk_e,impl_placesOk_LP0]
  refine Eq.trans (scan0 (L:=fun m i=>impl_placesOk_L0 (DD X n) n _ _ m l most l l.length (i:Int) s) (N:=l.length) (P:=fun i=>!inR (l.getD i 0) 0 ((s.1.length:Int) - 1)||has (l.take i) (l.getD i 0))
    (A:=some ((false,()),())) (B:=some ((inR l.length 1 most,()),())) (fun m i hi=>?_) (m:=n) (by omega)) ?_
  · simp only[impl_placesOk_L0,impl_placesOk_b0]
    by_cases h:i<l.length
    · have hc1:(decide ((0:Nat)≤0)&&decide ((0:Int)≤(i:Int))&&decide ((i:Int)≤(l.length:Int)))=true:=by
        rw[decide_eq_true (by omega),decide_eq_true (by omega),decide_eq_true (by omega)];rfl
      rw[br_pos (by exact_mod_cast h),ix h,br_t,c_from hX (show 1≤n by omega),bindD_some,hc1,br_t,Int.toNat_natCast,wrap_succ (by omega),if_pos h,wrap_id (by omega) (by omega)]
      have ht:(List.drop (Int.toNat 0) (List.take i l))=l.take i:=rfl
      rw[ht,c_contains hX (by omega) _ _ (by rw[List.length_take];omega),bindD_some]
      dsimp only
      cases inR (l.getD i 0) 0 ((s.1.length:Int) - 1)
      · rfl
      · cases has (l.take i) (l.getD i 0)<;>rfl
    · rw[br_neg (by exact_mod_cast h),if_neg h]
      simp only[impl_placesOk_x0_1,c_from hX (show 1≤n by omega),bindD_some]
  · unfold placesOk
    cases anyFrom (fun i=>!inR (l.getD i 0) 0 ((s.1.length:Int) - 1)||has (l.take i) (l.getD i 0)) 0 l.length<;>rfl
theorem has_take {l:List Int} {i:Nat} (hi:i≤l.length) (x:Int):has (l.take i) x=anyFrom (fun k=>decide (l.getD k 0=x)) 0 i:=by
  unfold has
  rw[List.length_take,Nat.min_eq_left hi]
  refine anyFrom_congr fun j _ h=>?_
  have e:(l.take i).getD j 0=l.getD j 0:=by
    simp only[List.getD,List.getElem?_take]
    rw[if_pos (by omega)]
  rw[e]
  by_cases h:x=l.getD j 0
  · rw[decide_eq_true h,decide_eq_true h.symm]
  · rw[decide_eq_false h,decide_eq_false fun k=>h k.symm]
theorem c_specPlacesOk {X:Ext} (hX:XOk X) {n:Nat} (hn:W+3≤n) (s:List Col×List Int×List Index×Unit) (l:List Int) (most:Int) (hc:s.1.length≤maxLen) (hl:l.length≤maxLen) :
    C_spec_l19Places (DD X n) s l most=some ((placesOk s.1.length l most,()),()):=by
  obtain ⟨n,rfl⟩:∃ k,n=k+1:=⟨n - 1,by omega⟩
  have hd:=maxLen_def
  have hW:=W_def
  rw[S_spec_l19Places hX]
  simp only[F_spec_l19Places,spec_l19Places_e,spec_l19Places_LP0]
  refine Eq.trans (scan0 (L:=fun m i=>spec_l19Places_L0 (DD X n) n _ _ m l most (i:Int) s) (N:=l.length) (P:=fun i=>!inR (l.getD i 0) 0 ((s.1.length:Int) - 1)||has (l.take i) (l.getD i 0))
    (A:=some ((false,()),())) (B:=some ((inR l.length 1 most,()),())) (fun m i hi=>?_) (m:=n) (by omega)) ?_
  · simp only[spec_l19Places_L0,spec_l19Places_b0]
    by_cases h:i<l.length
    · rw[br_pos (by exact_mod_cast h),ix h,br_t,c_l1In hX (show 1≤n by omega),bindD_some,Int.toNat_natCast,if_pos h,wrap_id (by omega) (by omega)]
      dsimp only
      cases hin:inR (l.getD i 0) 0 ((s.1.length:Int) - 1)
      · rfl
      · rw[Bool.not_true,br_f,Bool.false_or,has_take (by omega)]
        simp only[spec_l19Places_LP1]
        refine Eq.trans (scan0 (L:=fun q k=>spec_l19Places_L1 (DD X n) n _ _ q l most (i:Int) (k:Int) s) (N:=i) (P:=fun k=>decide (l.getD k 0=l.getD i 0))
          (A:=some ((false,()),())) (B:=spec_l19Places_L0 (DD X n) n (fun v0_0 v0_1 v0_2=>spec_l19Places_x0_0 (DD X n) n v0_0 v0_1 v0_2) (fun v1_0 v1_1=>spec_l19Places_x0_1 (DD X n) n v1_0 v1_1) m l most ((i+1:Nat):Int) s) (fun q k hk=>?_) (m:=n) (by omega)) rfl
        simp only[spec_l19Places_L1,spec_l19Places_b1]
        by_cases h2:k<i
        · rw[br_pos (by exact_mod_cast h2),ix (i:=k) (by omega),br_t,ix h,br_t,Int.toNat_natCast,Int.toNat_natCast,wrap_succ (by omega),if_pos h2];rfl
        · rw[br_neg (by exact_mod_cast h2),if_neg h2]
          simp only[spec_l19Places_x1_1]
          rw[wrap_succ (by omega)]
    · rw[br_neg (by exact_mod_cast h),if_neg h]
      simp only[spec_l19Places_x0_1,c_l1In hX (show 1≤n by omega),bindD_some]
  · unfold placesOk
    cases anyFrom (fun i=>!inR (l.getD i 0) 0 ((s.1.length:Int) - 1)||has (l.take i) (l.getD i 0)) 0 l.length<;>rfl
end Go.G

namespace Go.G
set_option maxRecDepth 100000
open Go Go.V Go.Proofs
theorem first_any (P:Nat→Bool) (n:Nat):decide ((match firstFrom P 0 n with | some j=>(j:Int) | none=>-1)≥0)=anyFrom P 0 n:=by
  cases hf:firstFrom P 0 n with
  | none=>rw[anyFrom_false.2 (firstFrom_none hf)];rfl
  | some j=>
    obtain ⟨h1,h2,h3,_⟩:=firstFrom_some hf
    rw[anyFrom_iff.2 ⟨j,h1,h2,h3⟩]
    simp
theorem c_idxCol {X:Ext} (hX:XOk X) {n:Nat} (hn:W+1≤n) (l:List (Col)) (hl:l.length≤maxLen) (c:Clo) (P:Nat→Bool)
    (hP:∀ i,i<l.length→applyClo ctx (DD X (n - 1)) c [CapV.val (Ty.pair Ty.str (Ty.pair (Ty.int IntKind.i64) (Ty.pair Ty.bool Ty.unit))) (l.getD i (ByteArray.empty,0,false,()))] Ty.bool=some (P i)) :
    C_slices_IndexFunc_impl_Col_impl_Col (DD X n) l c=some ((match firstFrom P 0 l.length with | some j=>(j:Int) | none=>-1,()),()):=by
  obtain ⟨n,rfl⟩:∃ k,n=k+1:=⟨n - 1,by omega⟩
  have hd:=maxLen_def
  have hW:=W_def
  rw[S_slices_IndexFunc_impl_Col_impl_Col hX]
  simp only[F_slices_IndexFunc_impl_Col_impl_Col,slices_IndexFunc_impl_Col_impl_Col_e,slices_IndexFunc_impl_Col_impl_Col_LP0]
  refine Eq.trans (scanF0 (L:=fun m i=>slices_IndexFunc_impl_Col_impl_Col_L0 (DD X n) n c _ _ m l l.length (i:Int)) (N:=l.length) (P:=P)
    (A:=fun j=>some (((j:Int),()),())) (B:=some ((-1,()),())) (fun m i hi=>?_) (m:=n) (by omega)) ?_
  · simp only[slices_IndexFunc_impl_Col_impl_Col_L0,slices_IndexFunc_impl_Col_impl_Col_b0]
    by_cases h:i<l.length
    · have hp:applyClo ctx (DD X n) c [CapV.val (Ty.pair Ty.str (Ty.pair (Ty.int IntKind.i64) (Ty.pair Ty.bool Ty.unit))) (l.getD i (ByteArray.empty,0,false,()))] Ty.bool=some (P i):=hP i h
      rw[br_pos (by exact_mod_cast h),ix h,br_t,Int.toNat_natCast,hp,bindD_some,wrap_succ (by omega),if_pos h];rfl
    · rw[br_neg (by exact_mod_cast h),if_neg h];rfl
  · cases firstFrom P 0 l.length<;>rfl
theorem c_idxIndex {X:Ext} (hX:XOk X) {n:Nat} (hn:W+1≤n) (l:List (Index)) (hl:l.length≤maxLen) (c:Clo) (P:Nat→Bool)
    (hP:∀ i,i<l.length→applyClo ctx (DD X (n - 1)) c [CapV.val (Ty.pair Ty.str (Ty.pair (Ty.sl (Ty.int IntKind.i64)) (Ty.pair Ty.bool Ty.unit))) (l.getD i (ByteArray.empty,[],false,()))] Ty.bool=some (P i)) :
    C_slices_IndexFunc_impl_Index_impl_Index (DD X n) l c=some ((match firstFrom P 0 l.length with | some j=>(j:Int) | none=>-1,()),()):=by
  obtain ⟨n,rfl⟩:∃ k,n=k+1:=⟨n - 1,by omega⟩
  have hd:=maxLen_def
  have hW:=W_def
  rw[S_slices_IndexFunc_impl_Index_impl_Index hX]
  simp only[F_slices_IndexFunc_impl_Index_impl_Index,slices_IndexFunc_impl_Index_impl_Index_e,slices_IndexFunc_impl_Index_impl_Index_LP0]
  refine Eq.trans (scanF0 (L:=fun m i=>slices_IndexFunc_impl_Index_impl_Index_L0 (DD X n) n c _ _ m l l.length (i:Int)) (N:=l.length) (P:=P)
    (A:=fun j=>some (((j:Int),()),())) (B:=some ((-1,()),())) (fun m i hi=>?_) (m:=n) (by omega)) ?_
  · simp only[slices_IndexFunc_impl_Index_impl_Index_L0,slices_IndexFunc_impl_Index_impl_Index_b0]
    by_cases h:i<l.length
    · have hp:applyClo ctx (DD X n) c [CapV.val (Ty.pair Ty.str (Ty.pair (Ty.sl (Ty.int IntKind.i64)) (Ty.pair Ty.bool Ty.unit))) (l.getD i (ByteArray.empty,[],false,()))] Ty.bool=some (P i):=hP i h
      rw[br_pos (by exact_mod_cast h),ix h,br_t,Int.toNat_natCast,hp,bindD_some,wrap_succ (by omega),if_pos h];rfl
    · rw[br_neg (by exact_mod_cast h),if_neg h];rfl
  · cases firstFrom P 0 l.length<;>rfl
theorem c_idxInt {X:Ext} (hX:XOk X) {n:Nat} (hn:W+1≤n) (l:List (Int)) (hl:l.length≤maxLen) (c:Clo) (P:Nat→Bool)
    (hP:∀ i,i<l.length→applyClo ctx (DD X (n - 1)) c [CapV.val (Ty.int IntKind.i64) (l.getD i 0)] Ty.bool=some (P i)) :
    C_slices_IndexFunc_int_int (DD X n) l c=some ((match firstFrom P 0 l.length with | some j=>(j:Int) | none=>-1,()),()):=by
  obtain ⟨n,rfl⟩:∃ k,n=k+1:=⟨n - 1,by omega⟩
  have hd:=maxLen_def
  have hW:=W_def
  rw[S_slices_IndexFunc_int_int hX]
  simp only[F_slices_IndexFunc_int_int,slices_IndexFunc_int_int_e,slices_IndexFunc_int_int_LP0]
  refine Eq.trans (scanF0 (L:=fun m i=>slices_IndexFunc_int_int_L0 (DD X n) n c _ _ m l l.length (i:Int)) (N:=l.length) (P:=P)
    (A:=fun j=>some (((j:Int),()),())) (B:=some ((-1,()),())) (fun m i hi=>?_) (m:=n) (by omega)) ?_
  · simp only[slices_IndexFunc_int_int_L0,slices_IndexFunc_int_int_b0]
    by_cases h:i<l.length
    · have hp:applyClo ctx (DD X n) c [CapV.val (Ty.int IntKind.i64) (l.getD i 0)] Ty.bool=some (P i):=hP i h
      rw[br_pos (by exact_mod_cast h),ix h,br_t,Int.toNat_natCast,hp,bindD_some,wrap_succ (by omega),if_pos h];rfl
    · rw[br_neg (by exact_mod_cast h),if_neg h];rfl
  · cases firstFrom P 0 l.length<;>rfl
theorem c_idxRow {X:Ext} (hX:XOk X) {n:Nat} (hn:W+1≤n) (l:List (List Value)) (hl:l.length≤maxLen) (c:Clo) (P:Nat→Bool)
    (hP:∀ i,i<l.length→applyClo ctx (DD X (n - 1)) c [CapV.val (Ty.sl (Ty.pair (Ty.int IntKind.i64) (Ty.pair (Ty.int IntKind.i64) (Ty.pair Ty.str Ty.unit)))) (l.getD i [])] Ty.bool=some (P i)) :
    C_slices_IndexFunc_impl_Value_impl_Value (DD X n) l c=some ((match firstFrom P 0 l.length with | some j=>(j:Int) | none=>-1,()),()):=by
  obtain ⟨n,rfl⟩:∃ k,n=k+1:=⟨n - 1,by omega⟩
  have hd:=maxLen_def
  have hW:=W_def
  rw[S_slices_IndexFunc_impl_Value_impl_Value hX]
  simp only[F_slices_IndexFunc_impl_Value_impl_Value,slices_IndexFunc_impl_Value_impl_Value_e,slices_IndexFunc_impl_Value_impl_Value_LP0]
  refine Eq.trans (scanF0 (L:=fun m i=>slices_IndexFunc_impl_Value_impl_Value_L0 (DD X n) n c _ _ m l l.length (i:Int)) (N:=l.length) (P:=P)
    (A:=fun j=>some (((j:Int),()),())) (B:=some ((-1,()),())) (fun m i hi=>?_) (m:=n) (by omega)) ?_
  · simp only[slices_IndexFunc_impl_Value_impl_Value_L0,slices_IndexFunc_impl_Value_impl_Value_b0]
    by_cases h:i<l.length
    · have hp:applyClo ctx (DD X n) c [CapV.val (Ty.sl (Ty.pair (Ty.int IntKind.i64) (Ty.pair (Ty.int IntKind.i64) (Ty.pair Ty.str Ty.unit)))) (l.getD i [])] Ty.bool=some (P i):=hP i h
      rw[br_pos (by exact_mod_cast h),ix h,br_t,Int.toNat_natCast,hp,bindD_some,wrap_succ (by omega),if_pos h];rfl
    · rw[br_neg (by exact_mod_cast h),if_neg h];rfl
  · cases firstFrom P 0 l.length<;>rfl
theorem c_someIndex {X:Ext} (hX:XOk X) {n:Nat} (hn:W+2≤n) (l:List (Index)) (hl:l.length≤maxLen) (c:Clo) (P:Nat→Bool)
    (hP:∀ i,i<l.length→applyClo ctx (DD X (n - 2)) c [CapV.val (Ty.pair Ty.str (Ty.pair (Ty.sl (Ty.int IntKind.i64)) (Ty.pair Ty.bool Ty.unit))) (l.getD i (ByteArray.empty,[],false,()))] Ty.bool=some (P i)) :
    C_slices_ContainsFunc_impl_Index_impl_Index (DD X n) l c=some ((anyFrom P 0 l.length,()),()):=by
  obtain ⟨n,rfl⟩:∃ k,n=k+1:=⟨n - 1,by omega⟩
  rw[S_slices_ContainsFunc_impl_Index_impl_Index hX]
  simp only[F_slices_ContainsFunc_impl_Index_impl_Index,slices_ContainsFunc_impl_Index_impl_Index_e]
  rw[c_idxIndex hX (n:=n) (by omega) l hl c P (fun i h=>hP i h),bindD_some]
  congr 3
  exact first_any P l.length
theorem c_someInt {X:Ext} (hX:XOk X) {n:Nat} (hn:W+2≤n) (l:List (Int)) (hl:l.length≤maxLen) (c:Clo) (P:Nat→Bool)
    (hP:∀ i,i<l.length→applyClo ctx (DD X (n - 2)) c [CapV.val (Ty.int IntKind.i64) (l.getD i 0)] Ty.bool=some (P i)) :
    C_slices_ContainsFunc_int_int (DD X n) l c=some ((anyFrom P 0 l.length,()),()):=by
  obtain ⟨n,rfl⟩:∃ k,n=k+1:=⟨n - 1,by omega⟩
  rw[S_slices_ContainsFunc_int_int hX]
  simp only[F_slices_ContainsFunc_int_int,slices_ContainsFunc_int_int_e]
  rw[c_idxInt hX (n:=n) (by omega) l hl c P (fun i h=>hP i h),bindD_some]
  congr 3
  exact first_any P l.length
theorem c_someRow {X:Ext} (hX:XOk X) {n:Nat} (hn:W+2≤n) (l:List (List Value)) (hl:l.length≤maxLen) (c:Clo) (P:Nat→Bool)
    (hP:∀ i,i<l.length→applyClo ctx (DD X (n - 2)) c [CapV.val (Ty.sl (Ty.pair (Ty.int IntKind.i64) (Ty.pair (Ty.int IntKind.i64) (Ty.pair Ty.str Ty.unit)))) (l.getD i [])] Ty.bool=some (P i)) :
    C_slices_ContainsFunc_impl_Value_impl_Valuex (DD X n) l c=some ((anyFrom P 0 l.length,()),()):=by
  obtain ⟨n,rfl⟩:∃ k,n=k+1:=⟨n - 1,by omega⟩
  rw[S_slices_ContainsFunc_impl_Value_impl_Valuex hX]
  simp only[F_slices_ContainsFunc_impl_Value_impl_Valuex,slices_ContainsFunc_impl_Value_impl_Valuex_e]
  rw[c_idxRow hX (n:=n) (by omega) l hl c P (fun i h=>hP i h),bindD_some]
  congr 3
  exact first_any P l.length
end Go.G

namespace Go.G
set_option maxRecDepth 100000
open Go Go.V Go.Proofs
abbrev Schema:=List Col×List Int×List Index×Unit
def M:Nat:=4194304
theorem M_def:M=4194304:=rfl
structure SchSm (s:Schema):Prop where
  cols:s.1.length≤M
  names:∀ c∈s.1,c.1.size≤M
  key:s.2.1.length≤M
  ixs:s.2.2.1.length≤M
  ixn:∀ x∈s.2.2.1,x.1.size≤M
  ixc:∀ x∈s.2.2.1,x.2.1.length≤M
abbrev cd:Col:=(ByteArray.empty,0,false,())
abbrev xd:Index:=(ByteArray.empty,[],false,())
theorem getD_mem {α:Type} {l:List α} {i:Nat} {d:α} (h:i<l.length):l.getD i d∈l:=by rw[getD_lt h];exact List.getElem_mem _
def colAt (cs:List Col) (name:ByteArray):Int:=match firstFrom (fun i=>decide ((cs.getD i cd).1=name)) 0 cs.length with | some j=>(j:Int) | none=>-1
theorem clo_colAt (D:Den ctx) (name:ByteArray) (x:Col):applyClo ctx D (Clo.mk 97 [CapV.rptr Ty.str name]) [CapV.val (Ty.pair Ty.str (Ty.pair (Ty.int IntKind.i64) (Ty.pair Ty.bool Ty.unit))) x] Ty.bool=(C_impl_ColAt_1 D x name).bind fun r=>some r.1.1:=by kernel_rfl
theorem c_implColAt {X:Ext} (hX:XOk X) {n:Nat} (hn:W+3≤n) (s:Schema) (hs:SchSm s) (name:ByteArray):C_impl_ColAt (DD X n) s name=some ((colAt s.1 name,()),()):=by
  obtain ⟨n,rfl⟩:∃ k,n=k+1:=⟨n - 1,by omega⟩
  have hd:=maxLen_def
  have hM:=M_def
  have:=hs.cols
  rw[S_impl_ColAt hX]
  simp only[F_impl_ColAt,impl_ColAt_e]
  rw[c_idxCol hX (n:=n) (by omega) s.1 (by omega) _ (fun i=>decide ((s.1.getD i cd).1=name)) (fun i h=>by
    obtain ⟨n,rfl⟩:∃ k,n=k+2:=⟨n - 2,by omega⟩
    rw[clo_colAt]
    rw[show n+2 - 1=n+1 from rfl,S_impl_ColAt_1 hX]
    simp only[F_impl_ColAt_1,impl_ColAt_1_e,Option.bind_some,beq_bytes]),bindD_some]
  rfl
theorem c_specColAt {X:Ext} (hX:XOk X) {n:Nat} (hn:W+1≤n) (s:Schema) (hs:SchSm s) (name:ByteArray):C_spec_ColAt (DD X n) s name=some ((colAt s.1 name,()),()):=by
  obtain ⟨n,rfl⟩:∃ k,n=k+1:=⟨n - 1,by omega⟩
  have hd:=maxLen_def
  have hW:=W_def
  have hM:=M_def
  have:=hs.cols
  rw[S_spec_ColAt hX]
  simp only[F_spec_ColAt,spec_ColAt_e,spec_ColAt_LP0]
  refine Eq.trans (scanF0 (L:=fun m i=>spec_ColAt_L0 (DD X n) n _ _ m name (i:Int) s) (N:=s.1.length) (P:=fun i=>decide ((s.1.getD i cd).1=name))
    (A:=fun j=>some (((j:Int),()),())) (B:=some ((-1,()),())) (fun m i hi=>?_) (m:=n) (by omega)) ?_
  · simp only[spec_ColAt_L0,spec_ColAt_b0]
    by_cases h:i<s.1.length
    · rw[br_pos (by exact_mod_cast h),ix h,br_t,Int.toNat_natCast,wrap_succ (by omega),if_pos h,beq_bytes];rfl
    · rw[br_neg (by exact_mod_cast h),if_neg h];rfl
  · unfold colAt
    cases firstFrom (fun i=>decide ((s.1.getD i cd).1=name)) 0 s.1.length<;>rfl
def colBad (cs:List Col) (i:Nat):Bool:=!nameOk (cs.getD i cd).1||(!inR (cs.getD i cd).2.1 1 3||!decide (colAt cs (cs.getD i cd).1=(i:Int)))
def ixBad (nc:Nat) (xs:List Index) (i:Nat):Bool:=!nameOk (xs.getD i xd).1||(!placesOk nc (xs.getD i xd).2.1 3||anyFrom (fun k=>decide ((xs.getD k xd).1=(xs.getD i xd).1)) 0 i)
def keyNull (cs:List Col) (key:List Int):Bool:=anyFrom (fun j=>(cs.getD (key.getD j 0).toNat cd).2.2.1) 0 key.length
def schemaOk (s:Schema):Bool:=
  !anyFrom (colBad s.1) 0 s.1.length&&(!anyFrom (ixBad s.1.length s.2.2.1) 0 s.2.2.1.length&&(inR s.1.length 1 5&&(placesOk s.1.length s.2.1 4&&(!keyNull s.1 s.2.1&&decide ((s.2.2.1.length:Int)≤3)))))
theorem places_in {n:Nat} {l:List Int} {most:Int} (h:placesOk n l most=true) {j:Nat} (hj:j<l.length):0≤l.getD j 0∧l.getD j 0<n:=by
  simp only[placesOk,Bool.and_eq_true,Bool.not_eq_true'] at h
  have:=anyFrom_false.1 h.1 j (by omega) (by omega)
  simp only[Bool.or_eq_false_iff,Bool.not_eq_false',inR,Bool.and_eq_true,decide_eq_true_eq] at this
  omega
theorem bne_dec (a b:Int):(a != b)=!decide (a=b):=by by_cases h:a=b<;>simp[h]
theorem clo_ixName (D:Den ctx) (y x:Index):applyClo ctx D (Clo.mk 82 [CapV.rptr (Ty.pair Ty.str (Ty.pair (Ty.sl (Ty.int IntKind.i64)) (Ty.pair Ty.bool Ty.unit))) y]) [CapV.val (Ty.pair Ty.str (Ty.pair (Ty.sl (Ty.int IntKind.i64)) (Ty.pair Ty.bool Ty.unit))) x] Ty.bool=(C_impl_SchemaOk_1 D x y).bind fun r=>some r.1.1:=by kernel_rfl
theorem clo_keyNull (D:Den ctx) (s:Schema) (x:Int):applyClo ctx D (Clo.mk 84 [CapV.rptr (Ty.pair (Ty.sl (Ty.pair Ty.str (Ty.pair (Ty.int IntKind.i64) (Ty.pair Ty.bool Ty.unit)))) (Ty.pair (Ty.sl (Ty.int IntKind.i64)) (Ty.pair (Ty.sl (Ty.pair Ty.str (Ty.pair (Ty.sl (Ty.int IntKind.i64)) (Ty.pair Ty.bool Ty.unit)))) Ty.unit))) s]) [CapV.val (Ty.int IntKind.i64) x] Ty.bool=(C_impl_SchemaOk_2 D x s).bind fun r=>some r.1.1:=by kernel_rfl
theorem c_implSchemaOk {X:Ext} (hX:XOk X) {n:Nat} (hn:W+5≤n) (s:Schema) (hs:SchSm s):C_impl_SchemaOk (DD X n) s=some ((schemaOk s,()),()):=by
  obtain ⟨n,rfl⟩:∃ k,n=k+1:=⟨n - 1,by omega⟩
  have hd:=maxLen_def
  have hW:=W_def
  have hM:=M_def
  have h1:=hs.cols
  have h2:=hs.ixs
  have h3:=hs.key
  rw[S_impl_SchemaOk hX]
  simp only[F_impl_SchemaOk,impl_SchemaOk_e,impl_SchemaOk_LP0]
  refine Eq.trans (scan0 (L:=fun m i=>impl_SchemaOk_L0 (DD X n) n _ _ m s.1 s.1.length (i:Int) s) (N:=s.1.length) (P:=colBad s.1)
    (A:=some ((false,()),())) (B:=br (anyFrom (ixBad s.1.length s.2.2.1) 0 s.2.2.1.length) (some ((false,()),())) (some ((inR s.1.length 1 5&&(placesOk s.1.length s.2.1 4&&(!keyNull s.1 s.2.1&&decide ((s.2.2.1.length:Int)≤3))),()),()))) (fun m i hi=>?_) (m:=n) (by omega)) ?_
  · simp only[impl_SchemaOk_L0,impl_SchemaOk_b0]
    by_cases h:i<s.1.length
    · have hsz:=hs.names _ (getD_mem (d:=cd) h)
      rw[br_pos (by exact_mod_cast h),ix h,br_t,Int.toNat_natCast,c_implNameOk hX (by omega) _ (Nat.le_trans hsz (by omega)),bindD_some,c_from hX (by omega),bindD_some,c_implColAt hX (by omega) s hs,bindD_some,wrap_succ (by omega),if_pos h,bne_dec]
      dsimp only[colBad]
      cases nameOk (s.1.getD i cd).1
      · rfl
      · cases inR (s.1.getD i cd).2.1 1 3
        · rfl
        · rw[Bool.not_true,br_f,br_f,Bool.false_or,Bool.false_or];rfl
    · rw[br_neg (by exact_mod_cast h),if_neg h]
      simp only[impl_SchemaOk_x0_1,impl_SchemaOk_LP1]
      refine (scan0 (L:=fun m i=>impl_SchemaOk_L1 (DD X n) n _ _ m s.2.2.1 s.2.2.1.length (i:Int) s) (N:=s.2.2.1.length) (P:=ixBad s.1.length s.2.2.1)
        (A:=some ((false,()),())) (B:=some ((inR s.1.length 1 5&&(placesOk s.1.length s.2.1 4&&(!keyNull s.1 s.2.1&&decide ((s.2.2.1.length:Int)≤3))),()),())) (fun m i hi=>?_) (m:=n) (by omega))
      simp only[impl_SchemaOk_L1,impl_SchemaOk_b1]
      by_cases h:i<s.2.2.1.length
      · have hm:=getD_mem (d:=xd) h
        have hsz:=hs.ixn _ hm
        have hsl:=hs.ixc _ hm
        have hc1:(decide ((0:Nat)≤0)&&decide ((0:Int)≤(i:Int))&&decide ((i:Int)≤(s.2.2.1.length:Int)))=true:=by
          rw[decide_eq_true (by omega),decide_eq_true (by omega),decide_eq_true (by omega)];rfl
        have hlen:(s.2.2.1.take i).length=i:=by rw[List.length_take];omega
        rw[br_pos (by exact_mod_cast h),ix h,br_t,Int.toNat_natCast,c_implNameOk hX (by omega) _ (Nat.le_trans hsz (by omega)),bindD_some,c_implPlacesOk hX (by omega) s _ _ (by omega) (Nat.le_trans hsl (by omega)),bindD_some,hc1,br_t,wrap_succ (by omega),if_pos h]
        have ht:(List.drop (Int.toNat 0) (List.take i s.2.2.1))=s.2.2.1.take i:=rfl
        rw[ht,c_someIndex hX (n:=n) (by omega) _ (by omega) _ (fun k=>decide ((s.2.2.1.getD k xd).1=(s.2.2.1.getD i xd).1)) (fun k hk=>by
          rw[hlen] at hk
          obtain ⟨n,rfl⟩:∃ k,n=k+3:=⟨n - 3,by omega⟩
          rw[clo_ixName,show n+3 - 2=n+1 from rfl,S_impl_SchemaOk_1 hX]
          have e:(s.2.2.1.take i).getD k xd=s.2.2.1.getD k xd:=by
            simp only[List.getD,List.getElem?_take]
            rw[if_pos hk]
          simp only[F_impl_SchemaOk_1,impl_SchemaOk_1_e,Option.bind_some,beq_bytes,e]),bindD_some,hlen]
        dsimp only[ixBad]
        cases nameOk (s.2.2.1.getD i xd).1
        · rfl
        · cases placesOk s.1.length (s.2.2.1.getD i xd).2.1 3
          · rfl
          · rw[Bool.not_true,br_f,br_f,Bool.false_or,Bool.false_or];rfl
      · rw[br_neg (by exact_mod_cast h),if_neg h]
        simp only[impl_SchemaOk_x1_1]
        rw[c_from hX (by omega),bindD_some,c_implPlacesOk hX (by omega) s _ _ (by omega) (by omega),bindD_some]
        dsimp only
        cases inR s.1.length 1 5
        · rfl
        · rw[br_t,Bool.true_and]
          cases hp:placesOk s.1.length s.2.1 4
          · rfl
          · rw[br_t,Bool.true_and,c_someInt hX (n:=n) (by omega) s.2.1 (by omega) _ (fun j=>(s.1.getD (s.2.1.getD j 0).toNat cd).2.2.1) (fun k hk=>by
              obtain ⟨n,rfl⟩:∃ k,n=k+3:=⟨n - 3,by omega⟩
              obtain ⟨p1,p2⟩:=places_in hp hk
              rw[clo_keyNull,show n+3 - 2=n+1 from rfl,S_impl_SchemaOk_2 hX]
              simp only[F_impl_SchemaOk_2,impl_SchemaOk_2_e]
              rw[ixn p1 p2,br_t];rfl),bindD_some,cond_and]
            rfl
  · unfold schemaOk
    cases anyFrom (colBad s.1) 0 s.1.length
    · cases anyFrom (ixBad s.1.length s.2.2.1) 0 s.2.2.1.length<;>rfl
    · rfl
theorem c_specIndexes {X:Ext} (hX:XOk X) {n:Nat} (hn:W+4≤n) (s:Schema) (hs:SchSm s):C_spec_l19Indexes (DD X n) s=some ((!anyFrom (ixBad s.1.length s.2.2.1) 0 s.2.2.1.length&&decide ((s.2.2.1.length:Int)≤3),()),()):=by
  obtain ⟨n,rfl⟩:∃ k,n=k+1:=⟨n - 1,by omega⟩
  have hd:=maxLen_def
  have hW:=W_def
  have hM:=M_def
  have h1:=hs.cols
  have h2:=hs.ixs
  rw[S_spec_l19Indexes hX]
  simp only[F_spec_l19Indexes,spec_l19Indexes_e,spec_l19Indexes_LP0]
  refine Eq.trans (scan0 (L:=fun m i=>spec_l19Indexes_L0 (DD X n) n _ _ m (i:Int) s) (N:=s.2.2.1.length) (P:=ixBad s.1.length s.2.2.1)
    (A:=some ((false,()),())) (B:=some ((decide ((s.2.2.1.length:Int)≤3),()),())) (fun m i hi=>?_) (m:=n) (by omega)) ?_
  · simp only[spec_l19Indexes_L0,spec_l19Indexes_b0]
    by_cases h:i<s.2.2.1.length
    · have hm:=getD_mem (d:=xd) h
      have hsz:=hs.ixn _ hm
      have hsl:=hs.ixc _ hm
      rw[br_pos (by exact_mod_cast h),ix h,br_t,Int.toNat_natCast,c_specNameOk hX (by omega) _ (Nat.le_trans hsz (by omega)),bindD_some,c_specPlacesOk hX (by omega) s _ _ (by omega) (Nat.le_trans hsl (by omega)),bindD_some,if_pos h]
      dsimp only[ixBad]
      cases nameOk (s.2.2.1.getD i xd).1
      · rfl
      · cases placesOk s.1.length (s.2.2.1.getD i xd).2.1 3
        · rfl
        · rw[Bool.not_true,br_f,br_f,Bool.false_or,Bool.false_or]
          simp only[spec_l19Indexes_LP1]
          refine Eq.trans (scan0 (L:=fun q k=>spec_l19Indexes_L1 (DD X n) n _ _ q (i:Int) (k:Int) s (s.2.2.1.getD i xd)) (N:=i) (P:=fun k=>decide ((s.2.2.1.getD k xd).1=(s.2.2.1.getD i xd).1))
            (A:=some ((false,()),())) (B:=spec_l19Indexes_L0 (DD X n) n (fun v0_0 v0_1=>spec_l19Indexes_x0_0 (DD X n) n v0_0 v0_1) (fun v1_0=>spec_l19Indexes_x0_1 (DD X n) n v1_0) m ((i+1:Nat):Int) s) (fun q k hk=>?_) (m:=n) (by omega)) rfl
          simp only[spec_l19Indexes_L1,spec_l19Indexes_b1]
          by_cases h2:k<i
          · rw[br_pos (by exact_mod_cast h2),ix (i:=k) (by omega),br_t,Int.toNat_natCast,wrap_succ (by omega),if_pos h2,beq_bytes];rfl
          · rw[br_neg (by exact_mod_cast h2),if_neg h2]
            simp only[spec_l19Indexes_x1_1]
            rw[wrap_succ (by omega)]
    · rw[br_neg (by exact_mod_cast h),if_neg h];rfl
  · cases anyFrom (ixBad s.1.length s.2.2.1) 0 s.2.2.1.length<;>rfl
theorem c_specSchemaOk {X:Ext} (hX:XOk X) {n:Nat} (hn:W+5≤n) (s:Schema) (hs:SchSm s):C_spec_SchemaOk (DD X n) s=some ((schemaOk s,()),()):=by
  obtain ⟨n,rfl⟩:∃ k,n=k+1:=⟨n - 1,by omega⟩
  have hd:=maxLen_def
  have hW:=W_def
  have hM:=M_def
  have h1:=hs.cols
  have h2:=hs.ixs
  have h3:=hs.key
  rw[S_spec_SchemaOk hX]
  simp only[F_spec_SchemaOk,spec_SchemaOk_e,spec_SchemaOk_LP0]
  refine Eq.trans (scan0 (L:=fun m i=>spec_SchemaOk_L0 (DD X n) n _ _ m (i:Int) s) (N:=s.1.length) (P:=colBad s.1)
    (A:=some ((false,()),())) (B:=some ((inR s.1.length 1 5&&(placesOk s.1.length s.2.1 4&&((!anyFrom (ixBad s.1.length s.2.2.1) 0 s.2.2.1.length&&decide ((s.2.2.1.length:Int)≤3))&&!keyNull s.1 s.2.1)),()),())) (fun m i hi=>?_) (m:=n) (by omega)) ?_
  · simp only[spec_SchemaOk_L0,spec_SchemaOk_b0]
    by_cases h:i<s.1.length
    · have hsz:=hs.names _ (getD_mem (d:=cd) h)
      rw[br_pos (by exact_mod_cast h),ix h,br_t,br_t,br_t,Int.toNat_natCast,c_specNameOk hX (by omega) _ (Nat.le_trans hsz (by omega)),bindD_some,c_l1In hX (by omega),bindD_some,c_specColAt hX (by omega) s hs,bindD_some,wrap_succ (by omega),if_pos h,bne_dec]
      dsimp only[colBad]
      cases nameOk (s.1.getD i cd).1
      · rfl
      · cases inR (s.1.getD i cd).2.1 1 3
        · rfl
        · rw[Bool.not_true,br_f,br_f,Bool.false_or,Bool.false_or];rfl
    · rw[br_neg (by exact_mod_cast h),if_neg h]
      simp only[spec_SchemaOk_x0_1,spec_SchemaOk_LP1]
      rw[c_l1In hX (by omega),bindD_some,c_specPlacesOk hX (by omega) s _ _ (by omega) (by omega),bindD_some,c_specIndexes hX (by omega) s hs,bindD_some]
      dsimp only
      cases inR s.1.length 1 5
      · rfl
      · cases hp:placesOk s.1.length s.2.1 4
        · rfl
        · cases (!anyFrom (ixBad s.1.length s.2.2.1) 0 s.2.2.1.length&&decide ((s.2.2.1.length:Int)≤3))
          · rfl
          · simp only[Bool.not_true,br_f,Bool.true_and]
            refine Eq.trans (scan0 (L:=fun m i=>spec_SchemaOk_L1 (DD X n) n _ _ m (i:Int) s) (N:=s.2.1.length) (P:=fun j=>(s.1.getD (s.2.1.getD j 0).toNat cd).2.2.1)
              (A:=some ((false,()),())) (B:=some ((true,()),())) (fun m i hi=>?_) (m:=n) (by omega)) ?_
            · simp only[spec_SchemaOk_L1,spec_SchemaOk_b1]
              by_cases h:i<s.2.1.length
              · obtain ⟨p1,p2⟩:=places_in hp h
                rw[br_pos (by exact_mod_cast h),ix h,br_t,Int.toNat_natCast,ixn p1 p2,br_t,wrap_succ (by omega),if_pos h];rfl
              · rw[br_neg (by exact_mod_cast h),if_neg h];rfl
            · unfold keyNull
              cases anyFrom (fun j=>(s.1.getD (s.2.1.getD j 0).toNat cd).2.2.1) 0 s.2.1.length<;>rfl
  · unfold schemaOk
    cases anyFrom (colBad s.1) 0 s.1.length<;>cases anyFrom (ixBad s.1.length s.2.2.1) 0 s.2.2.1.length<;>cases inR s.1.length 1 5<;>cases placesOk s.1.length s.2.1 4<;>cases keyNull s.1 s.2.1<;>simp[br]
end Go.G

namespace Go.G
open Go Go.V Go.Proofs
instance decCols:DecidableEq (List Col):=inferInstance
instance decIxs:DecidableEq (List Index):=inferInstance
instance decSchema:DecidableEq Schema:=fun a b=>@instDecidableEqProd _ _ decCols (@instDecidableEqProd _ _ inferInstance (@instDecidableEqProd _ _ decIxs inferInstance)) a b
end Go.G

namespace Go.G
set_option maxRecDepth 100000
open Go Go.V Go.Proofs
abbrev vd:Value:=(0,0,ByteArray.empty,())
abbrev Row:=List Value
def project (row:Row) (cols:List Int):Row:=(cols.filter fun c=>inR c 0 ((row.length:Int) - 1)).map fun c=>row.getD c.toNat vd
theorem project_len (row:Row) (cols:List Int):(project row cols).length≤cols.length:=by
  unfold project;rw[List.length_map];exact List.length_filter_le _ _
theorem project_cons (row:Row) (c:Int) (cols:List Int):project row (c::cols)=if inR c 0 ((row.length:Int) - 1)=true then row.getD c.toNat vd::project row cols else project row cols:=by
  unfold project
  rw[List.filter_cons]
  split<;>simp
theorem inR_lt {c:Int} {n:Nat} (h:inR c 0 ((n:Int) - 1)=true):0≤c∧c<n:=by
  simp only[inR,Bool.and_eq_true,decide_eq_true_eq] at h;omega
theorem implProject_L {X:Ext} (hX:XOk X) (N n:Nat) (hN:1≤N) (K:Row→Option ((Row×Unit)×Unit)) (row:Row) (hr:row.length≤M) (cols:List Int) (hc:cols.length≤M):∀ (m i:Nat) (acc:Row),i≤cols.length→cols.length - i<m→acc.length≤i→
    impl_Project_L0 (DD X N) n K m row cols cols.length (i:Int) acc=K (acc++project row (cols.drop i))
  | 0,_,_,_,h,_=>by omega
  | m+1,i,acc,hi,hf,ha=>by
    simp only[impl_Project_L0,impl_Project_b0]
    have hM:=M_def
    have hb:=bound_def
    by_cases h:i<cols.length
    · rw[br_pos (by exact_mod_cast h),ix h,br_t,Int.toNat_natCast,wrap_id (by omega) (by omega),c_from hX hN,bindD_some,wrap_succ (by omega),drop_cons h,project_cons,getD_lt h]
      dsimp only
      by_cases hin:inR cols[i] 0 ((row.length:Int) - 1)=true
      · obtain ⟨p1,p2⟩:=inR_lt hin
        rw[hin,br_t,ixn p1 p2,br_t,br_pos (by omega),if_pos rfl]
        refine Eq.trans (implProject_L hX N n hN K row hr cols hc m (i+1) _ (by omega) (by omega) (by simp;omega)) ?_
        rw[List.append_assoc];rfl
      · rw[Bool.not_eq_true] at hin
        rw[hin,br_f,if_neg Bool.noConfusion]
        exact implProject_L hX N n hN K row hr cols hc m (i+1) acc (by omega) (by omega) (by omega)
    · rw[br_neg (by exact_mod_cast h),drop_end h]
      simp[project]
theorem specProject_L {X:Ext} (hX:XOk X) (N n:Nat) (hN:1≤N) (K:Row→Option ((Row×Unit)×Unit)) (row:Row) (hr:row.length≤M) (cols:List Int) (hc:cols.length≤M):∀ (m i:Nat) (acc:Row),i≤cols.length→cols.length - i<m→acc.length≤i→
    spec_Project_L0 (DD X N) n K m row cols (i:Int) acc=K (acc++project row (cols.drop i))
  | 0,_,_,_,h,_=>by omega
  | m+1,i,acc,hi,hf,ha=>by
    simp only[spec_Project_L0,spec_Project_b0]
    have hM:=M_def
    have hb:=bound_def
    by_cases h:i<cols.length
    · rw[br_pos (by exact_mod_cast h),ix h,br_t,Int.toNat_natCast,wrap_id (by omega) (by omega),c_l1In hX hN,bindD_some,wrap_succ (by omega),drop_cons h,project_cons,getD_lt h]
      dsimp only
      by_cases hin:inR cols[i] 0 ((row.length:Int) - 1)=true
      · obtain ⟨p1,p2⟩:=inR_lt hin
        rw[hin,br_t,br_t,ixn p1 p2,br_t,br_pos (by omega),if_pos rfl]
        refine Eq.trans (specProject_L hX N n hN K row hr cols hc m (i+1) _ (by omega) (by omega) (by simp;omega)) ?_
        rw[List.append_assoc];rfl
      · rw[Bool.not_eq_true] at hin
        rw[hin,br_f,if_neg Bool.noConfusion]
        exact specProject_L hX N n hN K row hr cols hc m (i+1) acc (by omega) (by omega) (by omega)
    · rw[br_neg (by exact_mod_cast h),drop_end h]
      simp[project]
theorem c_implProject {X:Ext} (hX:XOk X) {n:Nat} (hn:W+1≤n) (row:Row) (hr:row.length≤M) (cols:List Int) (hc:cols.length≤M):C_impl_Project (DD X n) row cols=some ((project row cols,()),()):=by
  obtain ⟨n,rfl⟩:∃ k,n=k+1:=⟨n - 1,by omega⟩
  have hW:=W_def
  have hM:=M_def
  rw[S_impl_Project hX]
  simp only[F_impl_Project,impl_Project_e,impl_Project_LP0]
  refine Eq.trans (implProject_L hX n n (by omega) _ row hr cols hc n 0 [] (by omega) (by omega) (by simp)) ?_
  rfl
theorem c_specProject {X:Ext} (hX:XOk X) {n:Nat} (hn:W+1≤n) (row:Row) (hr:row.length≤M) (cols:List Int) (hc:cols.length≤M):C_spec_Project (DD X n) row cols=some ((project row cols,()),()):=by
  obtain ⟨n,rfl⟩:∃ k,n=k+1:=⟨n - 1,by omega⟩
  have hW:=W_def
  have hM:=M_def
  rw[S_spec_Project hX]
  simp only[F_spec_Project,spec_Project_e,spec_Project_LP0]
  refine Eq.trans (specProject_L hX n n (by omega) _ row hr cols hc n 0 [] (by omega) (by omega) (by simp)) ?_
  rfl
theorem c_implKeyOfRow {X:Ext} (hX:XOk X) {n:Nat} (hn:W+2≤n) (s:Schema) (row:Row) (hr:row.length≤M) (hc:s.2.1.length≤M):C_impl_KeyOfRow (DD X n) s row=some ((project row s.2.1,()),()):=by
  obtain ⟨n,rfl⟩:∃ k,n=k+1:=⟨n - 1,by omega⟩
  rw[S_impl_KeyOfRow hX]
  simp only[F_impl_KeyOfRow,impl_KeyOfRow_e]
  rw[c_implProject hX (by omega) row hr _ hc,bindD_some]
theorem c_specKeyOfRow {X:Ext} (hX:XOk X) {n:Nat} (hn:W+2≤n) (s:Schema) (row:Row) (hr:row.length≤M) (hc:s.2.1.length≤M):C_spec_KeyOfRow (DD X n) s row=some ((project row s.2.1,()),()):=by
  obtain ⟨n,rfl⟩:∃ k,n=k+1:=⟨n - 1,by omega⟩
  rw[S_spec_KeyOfRow hX]
  simp only[F_spec_KeyOfRow,spec_KeyOfRow_e]
  rw[c_specProject hX (by omega) row hr _ hc,bindD_some]
def noText (v:Value):Bool:=decide (v.2.2.1=ByteArray.mk #[])
def valueOk (v:Value):Bool:=
  bif decide (v.1=0) then decide (v.2.1=0)&&noText v else
  bif decide (v.1=1) then inR v.2.1 0 1&&noText v else
  bif decide (v.1=2) then inR v.2.1 (-1000000000000) 1000000000000&&noText v else
  bif decide (v.1=3) then decide (v.2.1=0)&&decide ((v.2.2.1.size:Int)≤20) else false
theorem c_implValueOk {X:Ext} (hX:XOk X) {n:Nat} (hn:2≤n) (v:Value):C_impl_ValueOk (DD X n) v=some ((valueOk v,()),()):=by
  obtain ⟨n,rfl⟩:∃ k,n=k+1:=⟨n - 1,by omega⟩
  rw[S_impl_ValueOk hX]
  simp only[F_impl_ValueOk,impl_ValueOk_e]
  rw[c_from hX (by omega),c_from hX (by omega)]
  simp only[bindD_some,cond_and,beq_bytes]
  unfold valueOk noText
  cases decide (v.1=0)<;>cases decide (v.1=1)<;>cases decide (v.1=2)<;>cases decide (v.1=3)<;>rfl
theorem c_specValueOk {X:Ext} (hX:XOk X) {n:Nat} (hn:2≤n) (v:Value):C_spec_ValueOk (DD X n) v=some ((valueOk v,()),()):=by
  obtain ⟨n,rfl⟩:∃ k,n=k+1:=⟨n - 1,by omega⟩
  rw[S_spec_ValueOk hX]
  simp only[F_spec_ValueOk,spec_ValueOk_e]
  rw[c_l1In hX (by omega),c_l1In hX (by omega)]
  simp only[bindD_some,cond_and,beq_bytes]
  unfold valueOk noText
  cases decide (v.1=0)<;>cases decide (v.1=1)<;>cases decide (v.1=2)<;>cases decide (v.1=3)<;>rfl
def rowBad (cs:List Col) (row:Row) (i:Nat):Bool:=!valueOk (row.getD i vd)||(!decide ((row.getD i vd).1=(cs.getD i cd).2.1)&&!(decide ((row.getD i vd).1=0)&&(cs.getD i cd).2.2.1))
def rowOk (s:Schema) (row:Row):Bool:=schemaOk s&&(decide (row.length=s.1.length)&&!anyFrom (rowBad s.1 row) 0 row.length)
theorem len_bne (a b:Nat):((a:Int) != (b:Int))=!decide (a=b):=by
  by_cases h:a=b
  · simp[h]
  · have:¬ (a:Int)=(b:Int):=by omega
    rw[bne_dec,decide_eq_false this,decide_eq_false h]
theorem c_implRowOk {X:Ext} (hX:XOk X) {n:Nat} (hn:W+6≤n) (s:Schema) (hs:SchSm s) (row:Row) (hr:row.length≤M):C_impl_RowOk (DD X n) s row=some ((rowOk s row,()),()):=by
  obtain ⟨n,rfl⟩:∃ k,n=k+1:=⟨n - 1,by omega⟩
  have hW:=W_def
  have hM:=M_def
  rw[S_impl_RowOk hX]
  simp only[F_impl_RowOk,impl_RowOk_e,impl_RowOk_LP0]
  rw[c_implSchemaOk hX (by omega) s hs,bindD_some,len_bne]
  dsimp only
  unfold rowOk
  cases schemaOk s
  · rfl
  · by_cases hl:row.length=s.1.length
    · rw[decide_eq_true hl]
      refine Eq.trans (scan0 (L:=fun m i=>impl_RowOk_L0 (DD X n) n _ _ m row row.length (i:Int) s) (N:=row.length) (P:=rowBad s.1 row)
        (A:=some ((false,()),())) (B:=some ((true,()),())) (fun m i hi=>?_) (m:=n) (by omega)) ?_
      · simp only[impl_RowOk_L0,impl_RowOk_b0]
        by_cases h:i<row.length
        · rw[br_pos (by exact_mod_cast h),ix h,br_t,ix (i:=i) (hl ▸ h),br_t,Int.toNat_natCast,c_implValueOk hX (by omega),bindD_some,wrap_succ (by omega),if_pos h,bne_dec,cond_and,cond_and,cond_or]
          rfl
        · rw[br_neg (by exact_mod_cast h),if_neg h];rfl
      · cases anyFrom (rowBad s.1 row) 0 row.length<;>rfl
    · rw[decide_eq_false hl];rfl
theorem c_specRowOk {X:Ext} (hX:XOk X) {n:Nat} (hn:W+6≤n) (s:Schema) (hs:SchSm s) (row:Row) (hr:row.length≤M):C_spec_RowOk (DD X n) s row=some ((rowOk s row,()),()):=by
  obtain ⟨n,rfl⟩:∃ k,n=k+1:=⟨n - 1,by omega⟩
  have hW:=W_def
  have hM:=M_def
  rw[S_spec_RowOk hX]
  simp only[F_spec_RowOk,spec_RowOk_e,spec_RowOk_LP0]
  rw[c_specSchemaOk hX (by omega) s hs,bindD_some,len_bne]
  dsimp only
  unfold rowOk
  cases schemaOk s
  · rfl
  · by_cases hl:row.length=s.1.length
    · rw[decide_eq_true hl]
      refine Eq.trans (scan0 (L:=fun m i=>spec_RowOk_L0 (DD X n) n _ _ m row (i:Int) s) (N:=row.length) (P:=rowBad s.1 row)
        (A:=some ((false,()),())) (B:=some ((true,()),())) (fun m i hi=>?_) (m:=n) (by omega)) ?_
      · simp only[spec_RowOk_L0,spec_RowOk_b0]
        by_cases h:i<row.length
        · rw[br_pos (by exact_mod_cast h),ix h,br_t,br_t,ix (i:=i) (hl ▸ h),br_t,br_t,br_t,Int.toNat_natCast,c_specValueOk hX (by omega),bindD_some,wrap_succ (by omega),if_pos h,bne_dec]
          dsimp only[rowBad]
          cases valueOk (row.getD i vd)
          · rfl
          · cases decide ((row.getD i vd).1=(s.1.getD i cd).2.1)
            · cases (s.1.getD i cd).2.2.1
              · cases decide ((row.getD i vd).1=0)<;>rfl
              · cases decide ((row.getD i vd).1=0)<;>rfl
            · rfl
        · rw[br_neg (by exact_mod_cast h),if_neg h];rfl
      · cases anyFrom (rowBad s.1 row) 0 row.length<;>rfl
    · rw[decide_eq_false hl];rfl
theorem eqVal_den (a b:Value):eqDen (Ty.pair (Ty.int IntKind.i64) (Ty.pair (Ty.int IntKind.i64) (Ty.pair Ty.str Ty.unit))) a b=decide (a=b):=by
  obtain ⟨a1,a2,a3,⟨⟩⟩:=a
  obtain ⟨b1,b2,b3,⟨⟩⟩:=b
  have e:∀ x y:ByteArray,(x.toList == y.toList)=decide (x=y):=fun x y=>beq_bytes
  have e2:∀ x y:Int,(x == y)=decide (x=y):=fun x y=>by by_cases h:x=y<;>simp[h]
  simp only[eqDen,e,e2]
  by_cases h1:a1=b1<;>by_cases h2:a2=b2<;>by_cases h3:a3=b3<;>simp[h1,h2,h3]
end Go.G

namespace Go.G
open Go Go.V
abbrev Cur:=List Int×Int×Int×Unit
def CurOk (c:Cur):Prop:=c.1.length≤1048576∧0≤c.2.1∧c.2.1≤c.1.length
theorem and_255 (x:BitVec (IntKind.bits IntKind.i64)):0≤IntKind.wrap IntKind.i64 ((BitVec.toNat (BitVec.and x (BitVec.ofInt (IntKind.bits IntKind.i64) 255)):Nat):Int)∧IntKind.wrap IntKind.i64 ((BitVec.toNat (BitVec.and x (BitVec.ofInt (IntKind.bits IntKind.i64) 255)):Nat):Int)≤255:=by
  have h:BitVec.toNat (BitVec.and x (BitVec.ofInt (IntKind.bits IntKind.i64) 255))≤255:=by
    show BitVec.toNat (x &&&BitVec.ofInt (IntKind.bits IntKind.i64) 255)≤255
    rw[BitVec.toNat_and]
    exact Nat.le_trans Nat.and_le_right (by decide)
  rw[wrap_id (by omega) (by omega)]
  omega
theorem c_l1Byte {X:Ext} (hX:XOk X) {n:Nat} (hn:1≤n) {c:Cur} (hc:CurOk c):∃ (x:Int) (c':Cur),0≤x∧x≤255∧CurOk c'∧C_spec_l1Byte (DD X n) c=some ((x,()),(c',())):=by
  obtain ⟨n,rfl⟩:∃ k,n=k+1:=⟨n - 1,by omega⟩
  obtain ⟨h1,h2,h3⟩:=hc
  rw[S_spec_l1Byte hX]
  simp only[F_spec_l1Byte,spec_l1Byte_e]
  by_cases h:c.2.1<(c.1.length:Int)
  · rw[br_pos h,ixn h2 h,br_t,wrap_id (x:=c.2.1+1) (by omega) (by omega)]
    refine ⟨_,(c.1,c.2.1+1,_,()),(and_255 _).1,(and_255 _).2,⟨h1,?_,?_⟩,rfl⟩
    · show 0≤c.2.1+1;omega
    · show c.2.1+1≤(c.1.length:Int);omega
  · rw[br_neg h]
    have k:∀ h u,CurOk (c.1,c.2.1,h,u):=fun _ _=>⟨h1,h2,h3⟩
    exact ⟨_,_,(and_255 _).1,(and_255 _).2,k _ _,rfl⟩
theorem c_l1Below {X:Ext} (hX:XOk X) {n:Nat} (hn:2≤n) {c:Cur} (hc:CurOk c) (k:Int):∃ (x:Int) (c':Cur),(0<k→0≤x∧x<k)∧(k≤0→x=0)∧CurOk c'∧C_spec_l1Below (DD X n) c k=some ((x,()),(c',())):=by
  obtain ⟨n,rfl⟩:∃ k,n=k+1:=⟨n - 1,by omega⟩
  rw[S_spec_l1Below hX]
  simp only[F_spec_l1Below,spec_l1Below_e]
  by_cases h:k≤0
  · rw[br_pos h]
    exact ⟨0,c,fun h2=>by omega,fun _=>rfl,hc,rfl⟩
  · rw[br_neg h]
    by_cases h2:k≤256
    · obtain ⟨x,c',x0,x1,hc',e⟩:=c_l1Byte hX (n:=n) (by omega) hc
      rw[br_pos h2,e,bindD_some]
      dsimp only
      rw[br_neg (by omega)]
      refine ⟨_,_,fun _=>?_,fun h3=>by omega,hc',rfl⟩
      rw[Int.tmod_eq_emod_of_nonneg x0]
      exact ⟨Int.emod_nonneg _ (by omega),Int.emod_lt_of_pos _ (by omega)⟩
    · obtain ⟨x,c1,x0,x1,hc1,e1⟩:=c_l1Byte hX (n:=n) (by omega) hc
      obtain ⟨y,c2,y0,y1,hc2,e2⟩:=c_l1Byte hX (n:=n) (by omega) hc1
      obtain ⟨z,c3,z0,z1,hc3,e3⟩:=c_l1Byte hX (n:=n) (by omega) hc2
      obtain ⟨w,c4,w0,w1,hc4,e4⟩:=c_l1Byte hX (n:=n) (by omega) hc3
      rw[br_neg h2,e1,bindD_some]
      dsimp only
      rw[e2,bindD_some]
      dsimp only
      rw[e3,bindD_some]
      dsimp only
      rw[e4,bindD_some]
      dsimp only
      rw[br_neg (by omega),wrap_id (x:=x * 16777216) (by omega) (by omega),wrap_id (x:=y * 65536) (by omega) (by omega),wrap_id (x:=x * 16777216+y * 65536) (by omega) (by omega),
        wrap_id (x:=z * 256) (by omega) (by omega),wrap_id (x:=x * 16777216+y * 65536+z * 256) (by omega) (by omega),wrap_id (x:=x * 16777216+y * 65536+z * 256+w) (by omega) (by omega)]
      refine ⟨_,_,fun _=>?_,fun h3=>by omega,hc4,rfl⟩
      rw[Int.tmod_eq_emod_of_nonneg (by omega)]
      exact ⟨Int.emod_nonneg _ (by omega),Int.emod_lt_of_pos _ (by omega)⟩
theorem c_l1Once {X:Ext} (hX:XOk X) {n:Nat} (hn:3≤n) {c:Cur} (hc:CurOk c) (k:Int):∃ (b:Bool) (c':Cur),CurOk c'∧C_spec_l1Once (DD X n) c k=some ((b,()),(c',())):=by
  obtain ⟨n,rfl⟩:∃ k,n=k+1:=⟨n - 1,by omega⟩
  rw[S_spec_l1Once hX]
  simp only[F_spec_l1Once,spec_l1Once_e]
  obtain ⟨x,c',_,_,hc',e⟩:=c_l1Below hX (n:=n) (by omega) hc k
  rw[e,bindD_some]
  exact ⟨_,_,hc',rfl⟩
theorem c_l1Pick {X:Ext} (hX:XOk X) {n:Nat} (hn:3≤n) {c:Cur} (hc:CurOk c) (l:List ByteArray) (hl:0<l.length):∃ (x:ByteArray) (c':Cur),x∈l∧CurOk c'∧C_spec_l1Pick (DD X n) c l=some ((x,()),(c',())):=by
  obtain ⟨n,rfl⟩:∃ k,n=k+1:=⟨n - 1,by omega⟩
  rw[S_spec_l1Pick hX]
  simp only[F_spec_l1Pick,spec_l1Pick_e]
  obtain ⟨x,c',h1,_,hc',e⟩:=c_l1Below hX (n:=n) (by omega) hc (l.length:Int)
  obtain ⟨x0,x1⟩:=h1 (by omega)
  rw[e,bindD_some]
  dsimp only
  rw[ixn x0 x1,br_t,getD_lt (by omega)]
  exact ⟨_,_,List.getElem_mem _,hc',rfl⟩
theorem l1New_L (D:Den ctx) (n:Nat) {K0:List Int→Int→Option ((Cur×Unit)×Unit)} (a:List Int) (ha:a.length≤1048576):∀ (m i:Nat) (h:Int),i≤a.length→a.length - i<m→∃ h':Int,spec_l1New_L0 D n K0 m a h i=K0 a h'
  | 0,_,_,_,h=>by omega
  | m+1,i,h,hi,hf=>by
    simp only[spec_l1New_L0,spec_l1New_b0]
    by_cases h1:i<a.length
    · by_cases h2:(i:Int)<4000
      · rw[decide_eq_true (by omega:(i:Int)<(a.length:Int)),cond_true,br_pos h2,decide_eq_true (by omega:(0:Int)≤(i:Int)),Bool.and_self,br_t,wrap_succ (by omega)]
        exact l1New_L D n a ha m (i+1) _ (by omega) (by omega)
      · rw[decide_eq_true (by omega:(i:Int)<(a.length:Int)),cond_true,br_neg h2]
        exact ⟨h,rfl⟩
    · rw[decide_eq_false (by omega:¬ (i:Int)<(a.length:Int)),cond_false,br_f]
      exact ⟨h,rfl⟩
theorem c_l1New {X:Ext} (hX:XOk X) {n:Nat} (hn:W+1≤n) (a:List Int) (ha:a.length≤1048576):∃ c:Cur,CurOk c∧C_spec_l1New (DD X n) a=some ((c,()),()):=by
  obtain ⟨n,rfl⟩:∃ k,n=k+1:=⟨n - 1,by omega⟩
  have hW:=W_def
  rw[S_spec_l1New hX]
  simp only[F_spec_l1New,spec_l1New_e,spec_l1New_LP0]
  obtain ⟨h',e⟩:=l1New_L (DD X n) n (K0:=fun v w=>spec_l1New_x0_0 (DD X n) n v w) a ha n 0 (IntKind.wrap IntKind.i64 (27323+(a.length:Int))) (by omega) (by omega)
  rw[show ((0:Nat):Int)=0 from rfl] at e
  exact ⟨(a,0,h',()),⟨ha,by show (0:Int)≤0;omega,by show (0:Int)≤(a.length:Int);omega⟩,e⟩
theorem c_big {X:Ext} (hX:XOk X) {n:Nat} (hn:1≤n) (a:List Int):C_laws_big (DD X n) a=some ((decide ((a.length:Int)>1048576),()),()):=by
  obtain ⟨n,rfl⟩:∃ k,n=k+1:=⟨n - 1,by omega⟩
  rw[S_laws_big hX];rfl
end Go.G

namespace Go.G
set_option maxRecDepth 100000
open Go Go.V Go.Proofs
theorem c_l1PickInt {X:Ext} (hX:XOk X) {n:Nat} (hn:3≤n) {c:Cur} (hc:CurOk c) (l:List Int) (hl:0<l.length):∃ (x:Int) (c':Cur),x∈l∧CurOk c'∧C_spec_l1PickInt (DD X n) c l=some ((x,()),(c',())):=by
  obtain ⟨n,rfl⟩:∃ k,n=k+1:=⟨n - 1,by omega⟩
  rw[S_spec_l1PickInt hX]
  simp only[F_spec_l1PickInt,spec_l1PickInt_e]
  obtain ⟨x,c',h1,h2,h3,e⟩:=c_l1Below hX (n:=n) (by omega) hc l.length
  obtain ⟨h4,h5⟩:=h1 (by omega)
  rw[e,bindD_some]
  dsimp only
  rw[ixn h4 h5,br_t]
  exact ⟨_,c',getD_mem (by omega),h3,rfl⟩
theorem c_l17DrawOf {X:Ext} (hX:XOk X) {n:Nat} (hn:4≤n) {c:Cur} (hc:CurOk c) (k:Int):∃ (v:Value) (c':Cur),v.2.2.1.size≤3∧CurOk c'∧C_spec_l17DrawOf (DD X n) c k=some ((v,()),(c',())):=by
  obtain ⟨n,rfl⟩:∃ k,n=k+1:=⟨n - 1,by omega⟩
  rw[S_spec_l17DrawOf hX]
  simp only[F_spec_l17DrawOf,spec_l17DrawOf_e]
  by_cases h1:k=1
  · rw[br_pos h1]
    obtain ⟨x,c',_,_,h3,e⟩:=c_l1Below hX (n:=n) (by omega) hc 2
    rw[e,bindD_some]
    exact ⟨_,c',Nat.zero_le _,h3,rfl⟩
  · rw[br_neg h1]
    by_cases h2:k=2
    · rw[br_pos h2]
      obtain ⟨x,c',_,h3,e⟩:=c_l1PickInt hX (n:=n) (by omega) hc [0,1,-1,7,255,256,-1000000000000,1000000000000] (by decide)
      rw[e,bindD_some]
      exact ⟨_,c',Nat.zero_le _,h3,rfl⟩
    · rw[br_neg h2]
      by_cases h4:k=3
      · rw[br_pos h4]
        obtain ⟨x,c',hx,h3,e⟩:=c_l1Pick hX (n:=n) (by omega) hc [ByteArray.mk #[],ByteArray.mk #[UInt8.ofNat 97],ByteArray.mk #[UInt8.ofNat 97,UInt8.ofNat 98],ByteArray.mk #[UInt8.ofNat 97,UInt8.ofNat 0],ByteArray.mk #[UInt8.ofNat 97,UInt8.ofNat 0,UInt8.ofNat 98],ByteArray.mk #[UInt8.ofNat 0],ByteArray.mk #[UInt8.ofNat 1],ByteArray.mk #[UInt8.ofNat 255],ByteArray.mk #[UInt8.ofNat 98]] (by decide)
        have hs:∀ y∈[ByteArray.mk #[],ByteArray.mk #[UInt8.ofNat 97],ByteArray.mk #[UInt8.ofNat 97,UInt8.ofNat 98],ByteArray.mk #[UInt8.ofNat 97,UInt8.ofNat 0],ByteArray.mk #[UInt8.ofNat 97,UInt8.ofNat 0,UInt8.ofNat 98],ByteArray.mk #[UInt8.ofNat 0],ByteArray.mk #[UInt8.ofNat 1],ByteArray.mk #[UInt8.ofNat 255],ByteArray.mk #[UInt8.ofNat 98]],y.size≤3:=by decide +kernel
        refine ⟨(k,0,x,()),c',hs x hx,h3,?_⟩
        refine Eq.trans (congrArg (fun z=>bindD z _) e) ?_
        rw[bindD_some]
      · rw[br_neg h4]
        exact ⟨_,c,Nat.zero_le _,hc,rfl⟩
structure DrawnS (s:Schema):Prop where
  lo:2≤s.1.length
  hi:s.1.length≤4
  names:∀ c∈s.1,c.1.size≤13
  key:s.2.1.length≤2
  ixs:s.2.2.1.length≤3
  ixn:∀ x∈s.2.2.1,x.1.size≤1
  ixc:∀ x∈s.2.2.1,x.2.1.length≤2
theorem DrawnS.sm {s:Schema} (h:DrawnS s):SchSm s:=by
  have hM:=M_def
  obtain ⟨a,b,c,d,e,f,g⟩:=h
  exact ⟨by omega,fun x hx=>by have:=c x hx;omega,by omega,by omega,fun x hx=>by have:=f x hx;omega,fun x hx=>by have:=g x hx;omega⟩
def fourNames:List ByteArray:=[ByteArray.mk #[UInt8.ofNat 105,UInt8.ofNat 100],ByteArray.mk #[UInt8.ofNat 110,UInt8.ofNat 97,UInt8.ofNat 109,UInt8.ofNat 101],
        ByteArray.mk #[UInt8.ofNat 115,UInt8.ofNat 105,UInt8.ofNat 122,UInt8.ofNat 101],ByteArray.mk #[UInt8.ofNat 111,UInt8.ofNat 110]]
theorem fourNames_size:∀ x∈fourNames,x.size≤4:=by decide +kernel
theorem fourNames_len:fourNames.length=4:=rfl
theorem getD_push {α:Type} (l:List α) (x d:α) (j:Nat) (hj:j<(l++[x]).length):(l++[x]).getD j d=if j<l.length then l.getD j d else x:=by
  simp only[List.getD]
  by_cases h:j<l.length
  · rw[if_pos h,List.getElem?_append_left h]
  · rw[List.length_append] at hj
    simp only[List.length_cons,List.length_nil] at hj
    have:j=l.length:=by omega
    subst this
    rw[if_neg h,List.getElem?_append_right (Nat.le_refl _),Nat.sub_self];rfl
def ColsR (cs:List Col):Prop:=∀ j,j<cs.length→(cs.getD j cd).1=fourNames.getD j ByteArray.empty∧inR (cs.getD j cd).2.1 1 3=true∧(j=0→(cs.getD j cd).2.2.1=false)
theorem ColsR.push {cs:List Col} (h:ColsR cs) {x:Col} (h1:x.1=fourNames.getD cs.length ByteArray.empty) (h2:inR x.2.1 1 3=true) (h3:cs.length=0→x.2.2.1=false):ColsR (cs++[x]):=by
  intro j hj
  rw[getD_push _ _ _ _ hj]
  by_cases hl:j<cs.length
  · rw[if_pos hl];exact h j hl
  · rw[if_neg hl]
    rw[List.length_append] at hj
    simp only[List.length_cons,List.length_nil] at hj
    have:j=cs.length:=by omega
    subst this
    exact ⟨h1,h2,h3⟩
theorem ColsR.set0 {cs:List Col} (h:ColsR cs) (h0:0<cs.length) {k:Int} (hk:inR k 1 3=true):ColsR (cs.set 0 ((cs.getD 0 cd).1,k,(cs.getD 0 cd).2.2)):=by
  intro j hj
  rw[List.length_set] at hj
  have hg:(cs.set 0 ((cs.getD 0 cd).1,k,(cs.getD 0 cd).2.2)).getD j cd=if j=0 then ((cs.getD 0 cd).1,k,(cs.getD 0 cd).2.2) else cs.getD j cd:=by
    by_cases e:j=0
    · subst e
      rw[if_pos rfl,getD_lt (by rw[List.length_set];exact hj),List.getElem_set_self]
    · rw[if_neg e]
      simp only[List.getD,List.getElem?_set]
      rw[if_neg (fun k=>e k.symm)]
  rw[hg]
  obtain ⟨a,b,c⟩:=h j hj
  by_cases e:j=0
  · subst e
    rw[if_pos rfl];exact ⟨a,hk,c⟩
  · rw[if_neg e];exact ⟨a,b,c⟩
theorem inR_succ {x:Int} (h0:0≤x) (h:x<3):inR (IntKind.wrap IntKind.i64 (1+x)) 1 3=true:=by
  rw[wrap_id (by omega) (by omega)]
  unfold inR
  rw[decide_eq_true (by omega),decide_eq_true (by omega)];rfl
theorem fourNames_ok:∀ j,j<4→nameOk (fourNames.getD j ByteArray.empty)=true:=by decide +kernel
theorem fourNames_inj:∀ j,j<4→∀ k,k<4→fourNames.getD j ByteArray.empty=fourNames.getD k ByteArray.empty→j=k:=by decide +kernel
theorem drawRight_L0 {X:Ext} (hX:XOk X) (N n:Nat) (hN:3≤N) (K:Int→Cur→Schema→Schema→Option ((Schema×Unit)×Cur×Unit)) (nn:Nat) (hnn:nn≤4) (z:Schema) (xs:List Index):∀ (m i:Nat) (c:Cur) (acc:List Col),i≤nn→nn - i<m→acc.length=i→(∀ x∈acc,x.1.size≤4)→ColsR acc→CurOk c→
    ∃ (c':Cur) (cs:List Col),CurOk c'∧cs.length=nn∧(∀ x∈cs,x.1.size≤4)∧ColsR cs∧spec_l19DrawRight_L0 (DD X N) n K m (nn:Int) (i:Int) c z (acc,[],xs,()) fourNames=K (nn:Int) c' z (cs,[],xs,())
  | 0,_,_,_,_,h,_,_,_,_=>by omega
  | m+1,i,c,acc,hi,hf,ha,hs,hR,hc=>by
    simp only[spec_l19DrawRight_L0,spec_l19DrawRight_b0]
    have hb:=bound_def
    by_cases h:i<nn
    · have hi4:i<fourNames.length:=by rw[fourNames_len];omega
      have hname:=fourNames_size _ (getD_mem (d:=ByteArray.empty) hi4)
      rw[br_pos (by exact_mod_cast h),ix hi4,br_t,Int.toNat_natCast,wrap_succ (by omega)]
      obtain ⟨x,c1,hx,_,h1,e1⟩:=c_l1Below hX (n:=N) (by omega) hc 3
      obtain ⟨x0,x3⟩:=hx (by omega)
      rw[e1,bindD_some]
      dsimp only
      by_cases h0:(i:Int)>0
      · rw[br_pos h0]
        obtain ⟨b,c2,h2,e2⟩:=c_l1Once hX (n:=N) (by omega) h1 2
        rw[e2,bindD_some]
        dsimp only
        rw[br_pos (by omega)]
        exact drawRight_L0 hX N n hN K nn hnn z xs m (i+1) c2 (acc++[(fourNames.getD i ByteArray.empty,_,b,())]) (by omega) (by omega) (by simp;omega)
          (fun y hy=>by rcases List.mem_append.1 hy with hy | hy;exact hs y hy;simp only[List.mem_singleton] at hy;subst hy;exact hname) (hR.push (by rw[ha]) (inR_succ x0 x3) (fun e=>by omega)) h2
      · rw[br_neg h0,br_pos (by omega)]
        exact drawRight_L0 hX N n hN K nn hnn z xs m (i+1) c1 (acc++[(fourNames.getD i ByteArray.empty,_,false,())]) (by omega) (by omega) (by simp;omega)
          (fun y hy=>by rcases List.mem_append.1 hy with hy | hy;exact hs y hy;simp only[List.mem_singleton] at hy;subst hy;exact hname) (hR.push (by rw[ha]) (inR_succ x0 x3) (fun _=>rfl)) h1
    · rw[br_neg (by exact_mod_cast h)]
      exact ⟨c,acc,hc,by omega,hs,hR,rfl⟩
def threeNames:List ByteArray:=[ByteArray.mk #[UInt8.ofNat 120],ByteArray.mk #[UInt8.ofNat 121],ByteArray.mk #[UInt8.ofNat 122]]
theorem threeNames_size:∀ x∈threeNames,x.size≤1:=by decide +kernel
def IxsR (nn:Nat) (xs:List Index):Prop:=∀ j,j<xs.length→(xs.getD j xd).1=threeNames.getD j ByteArray.empty∧placesOk nn (xs.getD j xd).2.1 3=true
theorem IxsR.push {nn:Nat} {xs:List Index} (h:IxsR nn xs) {x:Index} (h1:x.1=threeNames.getD xs.length ByteArray.empty) (h2:placesOk nn x.2.1 3=true):IxsR nn (xs++[x]):=by
  intro j hj
  rw[getD_push _ _ _ _ hj]
  by_cases hl:j<xs.length
  · rw[if_pos hl];exact h j hl
  · rw[if_neg hl]
    rw[List.length_append] at hj
    simp only[List.length_cons,List.length_nil] at hj
    have:j=xs.length:=by omega
    subst this
    exact ⟨h1,h2⟩
theorem place_one {nn:Nat} {a:Int} (h0:0≤a) (h:a<nn):placesOk nn [a] 3=true:=by
  have e:inR a 0 ((nn:Int) - 1)=true:=by unfold inR;rw[decide_eq_true (by omega),decide_eq_true (by omega)];rfl
  simp only[placesOk,anyFrom,has,List.length_cons,List.length_nil,List.getD_cons_zero,e,List.take]
  rfl
theorem place_two {nn:Nat} {a b:Int} (h0:0≤a) (h:a<nn) (h1:0≤b) (h2:b<nn) (h3:b≠a):placesOk nn [a,b] 3=true:=by
  have e:inR a 0 ((nn:Int) - 1)=true:=by unfold inR;rw[decide_eq_true (by omega),decide_eq_true (by omega)];rfl
  have e2:inR b 0 ((nn:Int) - 1)=true:=by unfold inR;rw[decide_eq_true (by omega),decide_eq_true (by omega)];rfl
  simp only[placesOk,anyFrom,has,List.length_cons,List.length_nil,List.getD_cons_zero,List.getD_cons_succ,e,e2,List.take,Bool.not_true,Bool.false_or,Bool.or_false]
  rw[decide_eq_false h3]
  rfl
theorem draw_one {nn:Nat} {y:Int} (hn:nn≤4) (h0:0≤y) (h:y<(nn:Int) - 1):placesOk nn [IntKind.wrap IntKind.i64 (1+y)] 3=true:=by
  rw[wrap_id (by omega) (by omega)]
  exact place_one (by omega) (by omega)
theorem draw_two {nn:Nat} {y:Int} (hn:nn≤4) (h0:0≤y) (h:y<(nn:Int) - 1):placesOk nn [IntKind.wrap IntKind.i64 (1+y),Int.tmod (IntKind.wrap IntKind.i64 (IntKind.wrap IntKind.i64 (1+y)+1)) (nn:Int)] 3=true:=by
  rw[wrap_id (show -9223372036854775808≤1+y by omega) (by omega),wrap_id (by omega) (by omega)]
  by_cases e:1+y+1=nn
  · rw[e,Int.tmod_self]
    exact place_two (by omega) (by omega) (by omega) (by omega) (by omega)
  · rw[Int.tmod_eq_of_lt (by omega) (by omega)]
    exact place_two (by omega) (by omega) (by omega) (by omega) (by omega)
theorem threeNames_ok:∀ j,j<3→nameOk (threeNames.getD j ByteArray.empty)=true:=by decide +kernel
theorem threeNames_inj:∀ j,j<3→∀ k,k<3→threeNames.getD j ByteArray.empty=threeNames.getD k ByteArray.empty→j=k:=by decide +kernel
theorem schemaR_ok {cs:List Col} {xs:List Index} (hc:ColsR cs) (h2:2≤cs.length) (h4:cs.length≤4) (hx:IxsR cs.length xs) (hl:xs.length≤2):schemaOk (cs,[0],xs,())=true:=by
  have a1:anyFrom (colBad cs) 0 cs.length=false:=anyFrom_false.2 fun j _ hj=>by
    have hj:j<cs.length:=by omega
    obtain ⟨n1,n2,n3⟩:=hc j hj
    have hcol:colAt cs (cs.getD j cd).1=(j:Int):=by
      unfold colAt
      cases hf:firstFrom (fun i=>decide ((cs.getD i cd).1=(cs.getD j cd).1)) 0 cs.length with
      | none=>
        have:=firstFrom_none hf j (Nat.zero_le _) (by omega)
        rw[decide_eq_true rfl] at this;cases this
      | some k=>
        obtain ⟨_,k2,k3,_⟩:=firstFrom_some hf
        have hk:k<cs.length:=by omega
        simp only[decide_eq_true_eq] at k3
        rw[(hc k hk).1,n1] at k3
        have:=fourNames_inj k (by omega) j (by omega) k3
        rw[this]
    simp only[colBad]
    rw[n1,fourNames_ok j (by omega),n2,←n1,hcol,decide_eq_true rfl];rfl
  have a2:anyFrom (ixBad cs.length xs) 0 xs.length=false:=anyFrom_false.2 fun j _ hj=>by
    have hj:j<xs.length:=by omega
    obtain ⟨n1,n2⟩:=hx j hj
    have a3:anyFrom (fun k=>decide ((xs.getD k xd).1=(xs.getD j xd).1)) 0 j=false:=anyFrom_false.2 fun k _ hk=>by
      have hk:k<j:=by omega
      refine decide_eq_false fun e=>?_
      rw[(hx k (by omega)).1,n1] at e
      have:=threeNames_inj k (by omega) j (by omega) e
      omega
    simp only[ixBad]
    rw[a3,n1,threeNames_ok j (by omega),n2];rfl
  have a3:placesOk cs.length [0] 4=true:=by
    have e:inR 0 0 ((cs.length:Int) - 1)=true:=by unfold inR;rw[decide_eq_true (by omega),decide_eq_true (by omega)];rfl
    simp only[placesOk,anyFrom,has,List.length_cons,List.length_nil,List.getD_cons_zero,e,List.take]
    rfl
  have a4:keyNull cs [0]=false:=by
    have:=(hc 0 (by omega)).2.2 rfl
    show ((cs.getD 0 cd).2.2.1||false)=false
    rw[this];rfl
  have a5:inR (cs.length:Int) 1 5=true:=by unfold inR;rw[decide_eq_true (by omega),decide_eq_true (by omega)];rfl
  unfold schemaOk
  dsimp only
  rw[a1,a2,a3,a4,a5,decide_eq_true (by omega)];rfl
theorem drawRight_L1 {X:Ext} (hX:XOk X) (N n:Nat) (hN:3≤N) (K:Cur→Schema→Schema→Option ((Schema×Unit)×Cur×Unit)) (nn:Nat) (hn0:2≤nn) (hnn:nn≤4) (z:Schema) (cs:List Col) (key:List Int):∀ (m i:Nat) (c:Cur) (acc:List Index),3 - i<m→i≤2→acc.length=i→(∀ x∈acc,x.1.size≤1∧x.2.1.length≤2)→IxsR nn acc→CurOk c→
    ∃ (c':Cur) (xs:List Index),CurOk c'∧xs.length≤2∧(∀ x∈xs,x.1.size≤1∧x.2.1.length≤2)∧IxsR nn xs∧spec_l19DrawRight_L1 (DD X N) n K m (nn:Int) (i:Int) c z (cs,key,acc,())=K c' z (cs,key,xs,())
  | 0,_,_,_,h,_,_,_,_,_=>by omega
  | m+1,i,c,acc,hf,hi,ha,hs,hR,hc=>by
    simp only[spec_l19DrawRight_L1,spec_l19DrawRight_b1]
    have hb:=bound_def
    obtain ⟨x,c1,hx,_,h1,e1⟩:=c_l1Below hX (n:=N) (by omega) hc 3
    obtain ⟨x1,x2⟩:=hx (by omega)
    rw[e1,bindD_some]
    dsimp only
    by_cases h:(i:Int)<x
    · have hi3:i<threeNames.length:=by show i<3;omega
      have hname:=threeNames_size _ (getD_mem (d:=ByteArray.empty) hi3)
      have hc3:(decide ((0:Int)≤(i:Int))&&decide ((i:Int)<3))=true:=by rw[decide_eq_true (by omega),decide_eq_true (by omega)];rfl
      rw[br_pos h]
      obtain ⟨y,c2,hy,_,h2,e2⟩:=c_l1Below hX (n:=N) (by omega) h1 (IntKind.wrap IntKind.i64 ((nn:Int) - 1))
      rw[wrap_id (by omega) (by omega)] at hy
      obtain ⟨y0,y1⟩:=hy (by omega)
      obtain ⟨b,c3,h3,e3⟩:=c_l1Once hX (n:=N) (by omega) h2 2
      obtain ⟨b2,c4,h4,e4⟩:=c_l1Once hX (n:=N) (by omega) h3 2
      rw[e2,bindD_some]
      dsimp only
      rw[hc3,br_t,e3,bindD_some]
      dsimp only
      rw[e4,bindD_some,wrap_succ (by omega),Int.toNat_natCast]
      dsimp only
      cases b2
      · rw[br_f,br_pos (by omega)]
        exact drawRight_L1 hX N n hN K nn hn0 hnn z cs key m (i+1) c4 (acc++[(threeNames.getD i ByteArray.empty,_,b,())]) (by omega) (by omega) (by simp;omega)
          (fun y hy=>by rcases List.mem_append.1 hy with hy | hy;exact hs y hy;simp only[List.mem_singleton] at hy;subst hy;exact ⟨hname,by simp⟩) (hR.push (by rw[ha]) (draw_one hnn y0 y1)) h4
      · rw[br_t,br_neg (by omega),br_pos (by omega)]
        exact drawRight_L1 hX N n hN K nn hn0 hnn z cs key m (i+1) c4 (acc++[(threeNames.getD i ByteArray.empty,_,b,())]) (by omega) (by omega) (by simp;omega)
          (fun y hy=>by rcases List.mem_append.1 hy with hy | hy;exact hs y hy;simp only[List.mem_singleton] at hy;subst hy;exact ⟨hname,by simp⟩) (hR.push (by rw[ha]) (draw_two hnn y0 y1)) h4
    · rw[br_neg h]
      exact ⟨c1,acc,h1,by omega,hs,hR,rfl⟩
theorem set_size {l:List Col} {i k:Nat} {x:Col} (h:∀ y∈l,y.1.size≤k) (hx:x.1.size≤k):∀ y∈l.set i x,y.1.size≤k:=by
  intro y hy
  rcases List.mem_or_eq_of_mem_set hy with hy | rfl
  · exact h y hy
  · exact hx
theorem c_l19DrawRight {X:Ext} (hX:XOk X) {n:Nat} (hn:W+4≤n) {c:Cur} (hc:CurOk c):∃ (s:Schema) (c':Cur),DrawnS s∧schemaOk s=true∧s.2.1.length≤1∧s.2.2.1.length≤2∧CurOk c'∧C_spec_l19DrawRight (DD X n) c=some ((s,()),(c',())):=by
  obtain ⟨n,rfl⟩:∃ k,n=k+1:=⟨n - 1,by omega⟩
  have hW:=W_def
  rw[S_spec_l19DrawRight hX]
  simp only[F_spec_l19DrawRight,spec_l19DrawRight_e,spec_l19DrawRight_LP0]
  obtain ⟨x,c1,hx,_,h1,e1⟩:=c_l1Below hX (n:=n) (by omega) hc 3
  obtain ⟨x1,x2⟩:=hx (by omega)
  rw[e1,bindD_some]
  dsimp only
  rw[wrap_id (by omega) (by omega)]
  obtain ⟨nn,hnn⟩:∃ nn:Nat,(nn:Int)=2+x:=⟨(2+x).toNat,by omega⟩
  rw[←hnn]
  obtain ⟨c2,cs,h2,hl,hs,hR,e2⟩:=drawRight_L0 hX n n (by omega) (fun v0_0 v0_1 v0_2 v0_3=>spec_l19DrawRight_x0_0 (DD X n) n (spec_l19DrawRight_LP1 (DD X n) n) v0_0 v0_1 v0_2 v0_3) nn (by omega) ([],[],[],()) [] n 0 c1 [] (by omega) (by omega) rfl (fun x hx=>by simp at hx) (fun j hj=>by simp at hj) h1
  obtain ⟨c3,xs,h3,hxl,hxs,hI,e3⟩:=drawRight_L1 hX n n (by omega) (fun v0_0 v0_1 v0_2=>spec_l19DrawRight_x1_0 (DD X n) n v0_0 v0_1 v0_2) nn (by omega) (by omega) ([],[],[],()) cs [0] n 0 c2 [] (by omega) (by omega) rfl (fun x hx=>by simp at hx) (fun j hj=>by simp at hj) h2
  obtain ⟨y,c4,hy,h4,e4⟩:=c_l1PickInt hX (n:=n) (by omega) h3 [2,3] (by decide)
  have hc0:(decide ((0:Nat)≤0)&&decide ((0:Int)<(cs.length:Int)))=true:=by rw[decide_eq_true (by omega),decide_eq_true (by omega)];rfl
  refine ⟨(cs.set 0 ((cs.getD 0 cd).1,y,(cs.getD 0 cd).2.2),[0],xs,()),c4,⟨by simp;omega,by simp;omega,?_,by simp,by simp only;omega,fun x hx=>(hxs x hx).1,fun x hx=>(hxs x hx).2⟩,?_,by simp,by simpa using hxl,h4,?_⟩
  · have h0:=hs _ (getD_mem (d:=cd) (show 0<cs.length by omega))
    intro z hz
    have:=set_size (i:=0) (x:=((cs.getD 0 cd).1,y,(cs.getD 0 cd).2.2)) hs h0 z hz
    omega
  · have hk:inR y 1 3=true:=by
      simp only[List.mem_cons,List.not_mem_nil,or_false] at hy
      rcases hy with rfl | rfl<;>rfl
    have hR2:=hR.set0 (by omega) hk
    exact schemaR_ok hR2 (by rw[List.length_set];omega) (by rw[List.length_set];omega) (by rw[List.length_set,hl];exact hI) hxl
  · refine Eq.trans e2 ?_
    simp only[spec_l19DrawRight_x0_0,spec_l19DrawRight_LP1]
    refine Eq.trans e3 ?_
    simp only[spec_l19DrawRight_x1_0]
    rw[e4,bindD_some]
    dsimp only
    rw[hc0,br_t]
theorem drawRow_L {X:Ext} (hX:XOk X) (N n:Nat) (hN:4≤N) (K:Cur→Row→Option ((Row×Unit)×Cur×Unit)) (s:Schema) (hs:s.1.length≤4):∀ (m i:Nat) (c:Cur) (acc:Row),i≤s.1.length→s.1.length - i<m→acc.length=i→(∀ v∈acc,v.2.2.1.size≤3)→CurOk c→
    ∃ (c':Cur) (row:Row),CurOk c'∧row.length=s.1.length∧(∀ v∈row,v.2.2.1.size≤3)∧spec_l19DrawRow_L0 (DD X N) n K m (i:Int) c s acc=K c' row
  | 0,_,_,_,_,h,_,_,_=>by omega
  | m+1,i,c,acc,hi,hf,ha,hv,hc=>by
    simp only[spec_l19DrawRow_L0,spec_l19DrawRow_b0]
    have hb:=bound_def
    have step:∀ (c':Cur) (v:Value),CurOk c'→v.2.2.1.size≤3→i<s.1.length→∃ (c2:Cur) (row:Row),CurOk c2∧row.length=s.1.length∧(∀ v∈row,v.2.2.1.size≤3)∧spec_l19DrawRow_L0 (DD X N) n K m ((i+1:Nat):Int) c' s (acc++[v])=K c2 row:=
      fun c' v hc' hv' h=>drawRow_L hX N n hN K s hs m (i+1) c' (acc++[v]) (by omega) (by omega) (by simp;omega) (fun y hy=>by rcases List.mem_append.1 hy with hy | hy;exact hv y hy;simp only[List.mem_singleton] at hy;subst hy;exact hv') hc'
    by_cases h:i<s.1.length
    · rw[br_pos (by exact_mod_cast h),ix h,br_t,Int.toNat_natCast,wrap_succ (by omega)]
      cases (s.1.getD i cd).2.2.1
      · rw[br_f,br_t]
        obtain ⟨v,c2,hv2,h2,e2⟩:=c_l17DrawOf hX (n:=N) (by omega) hc (s.1.getD i cd).2.1
        rw[e2,bindD_some,br_pos (show acc.length+1≤bound by omega)]
        exact step c2 v h2 hv2 h
      · rw[br_t]
        obtain ⟨b,c1,h1,e1⟩:=c_l1Once hX (n:=N) (by omega) hc 3
        rw[e1,bindD_some]
        dsimp only
        cases b
        · rw[br_f,br_t]
          obtain ⟨v,c2,hv2,h2,e2⟩:=c_l17DrawOf hX (n:=N) (by omega) h1 (s.1.getD i cd).2.1
          rw[e2,bindD_some,br_pos (show acc.length+1≤bound by omega)]
          exact step c2 v h2 hv2 h
        · rw[br_t,br_pos (show acc.length+1≤bound by omega)]
          exact step c1 vd h1 (Nat.zero_le _) h
    · rw[br_neg (by exact_mod_cast h)]
      exact ⟨c,acc,hc,by omega,hv,rfl⟩
theorem c_l19DrawRow {X:Ext} (hX:XOk X) {n:Nat} (hn:W+1≤n) {c:Cur} (hc:CurOk c) (s:Schema) (hs:s.1.length≤4):∃ (row:Row) (c':Cur),CurOk c'∧row.length=s.1.length∧(∀ v∈row,v.2.2.1.size≤3)∧C_spec_l19DrawRow (DD X n) c s=some ((row,()),(c',())):=by
  obtain ⟨n,rfl⟩:∃ k,n=k+1:=⟨n - 1,by omega⟩
  have hW:=W_def
  rw[S_spec_l19DrawRow hX]
  simp only[F_spec_l19DrawRow,spec_l19DrawRow_e,spec_l19DrawRow_LP0]
  obtain ⟨c',row,h1,h2,h3,e⟩:=drawRow_L hX n n (by omega) (fun v0_0 v0_1=>spec_l19DrawRow_x0_0 (DD X n) n v0_0 v0_1) s hs n 0 c [] (by omega) (by omega) rfl (fun v hv=>by simp at hv) hc
  exact ⟨row,c',h1,h2,h3,e⟩
end Go.G

namespace Go.G
set_option maxRecDepth 100000
open Go Go.V Go.Proofs
structure XC (X:Ext):Prop where
  ok:XOk X
  cmp:∀ n a b,C_strings_Compare (DD X (n+1)) a b=some ((scmp a b,()),())
theorem compare_lt:∀ (a b:List UInt8),(Lib.compareBytes a b<0↔Op.bytesLess a b=true)∧(Lib.compareBytes a b=0↔a=b)
  | [],[]=>by simp[Lib.compareBytes,Op.bytesLess]
  | [],_::_=>by simp[Lib.compareBytes,Op.bytesLess]
  | _::_,[]=>by simp[Lib.compareBytes,Op.bytesLess]
  | x::a,y::b=>by
    obtain ⟨h1,h2⟩:=compare_lt a b
    simp only[Lib.compareBytes,Op.bytesLess]
    by_cases hxy:x<y
    · have hne:x≠y:=fun e=>by subst e;exact absurd hxy (UInt8.lt_irrefl x)
      simp[hxy,hne]
    · by_cases hyx:y<x
      · have hne:x≠y:=fun e=>by subst e;exact absurd hyx (UInt8.lt_irrefl x)
        simp[hxy,hyx,hne]
      · have e:x=y:=UInt8.le_antisymm (UInt8.not_lt.1 hyx) (UInt8.not_lt.1 hxy)
        subst e
        simp[hxy,h1,h2]
theorem scmp_lt (a b:ByteArray):scmp a b<0↔Op.bytesLess a.toList b.toList=true:=by
  unfold scmp
  rw[(compare_lt _ _).1,ByteArray.toList_eq,ByteArray.toList_eq]
theorem scmp_eq (a b:ByteArray):scmp a b=0↔a=b:=by
  unfold scmp
  rw[(compare_lt _ _).2]
  constructor
  · intro h;cases a;cases b;simp only[ByteArray.mk.injEq];exact Array.toList_inj.1 h
  · rintro rfl;rfl
def byv (a b:Value):Int:=bif decide (a.1<b.1)||(decide (a.1=b.1)&&decide (a.2.1<b.2.1)) then -1 else bif decide (a.1>b.1)||decide (a.2.1>b.2.1) then 1 else scmp a.2.2.1 b.2.2.1
def vlt (a b:Value):Bool:=bif !decide (a.1=b.1) then decide (a.1<b.1) else bif !decide (a.2.1=b.2.1) then decide (a.2.1<b.2.1) else Op.bytesLess a.2.2.1.toList b.2.2.1.toList
theorem byv_facts (a b:Value):(byv a b<0↔vlt a b=true)∧(byv a b=0↔a=b):=by
  obtain ⟨a1,a2,a3,⟨⟩⟩:=a
  obtain ⟨b1,b2,b3,⟨⟩⟩:=b
  have h1:=scmp_lt a3 b3
  have h2:=scmp_eq a3 b3
  simp only[byv,vlt]
  by_cases k1:a1<b1
  · have:¬ a1=b1:=by omega
    simp[k1,this]
  · by_cases k2:a1=b1
    · subst k2
      by_cases k3:a2<b2
      · have:¬ a2=b2:=by omega
        simp[k3,this]
      · by_cases k4:a2=b2
        · subst k4
          simp[h1,h2]
        · have:a2>b2:=by omega
          simp[k3,k4,this]
    · have:a1>b1:=by omega
      simp[k1,k2,this]
theorem c_byValue {X:Ext} (hX:XC X) {n:Nat} (hn:2≤n) (a b:Value):C_impl_byValue (DD X n) a b=some ((byv a b,()),()):=by
  obtain ⟨n,rfl⟩:∃ k,n=k+2:=⟨n - 2,by omega⟩
  rw[S_impl_byValue hX.ok]
  simp only[F_impl_byValue,impl_byValue_e]
  rw[hX.cmp]
  simp only[bindD_some,cond_and,cond_or]
  unfold byv
  cases (decide (a.1<b.1)||(decide (a.1=b.1)&&decide (a.2.1<b.2.1)))<;>cases (decide (a.1>b.1)||decide (a.2.1>b.2.1))<;>rfl
theorem clo_byValue (D:Den ctx) (x y:Value):applyClo ctx D (Clo.mk 167 []) [CapV.val (Ty.pair (Ty.int IntKind.i64) (Ty.pair (Ty.int IntKind.i64) (Ty.pair Ty.str Ty.unit))) x,CapV.val (Ty.pair (Ty.int IntKind.i64) (Ty.pair (Ty.int IntKind.i64) (Ty.pair Ty.str Ty.unit))) y] (Ty.int IntKind.i64)=(C_impl_byValue D x y).bind fun r=>some r.1.1:=by kernel_rfl
def tcmp:Row→Row→Int
  | [],[]=>0
  | [],_::_=>-1
  | _::_,[]=>1
  | x::a,y::b=>if byv x y=0 then tcmp a b else byv x y
def tlt:Row→Row→Bool
  | [],[]=>false
  | [],_::_=>true
  | _::_,[]=>false
  | x::a,y::b=>if x=y then tlt a b else vlt x y
theorem tcmp_lt:∀ (a b:Row),(decide (tcmp a b<0))=tlt a b
  | [],[]=>rfl
  | [],_::_=>rfl
  | _::_,[]=>rfl
  | x::a,y::b=>by
    obtain ⟨h1,h2⟩:=byv_facts x y
    simp only[tcmp,tlt]
    by_cases e:x=y
    · simp only[if_pos (h2.2 e),if_pos e];exact tcmp_lt a b
    · simp only[if_neg (fun k=>e (h2.1 k)),if_neg e]
      by_cases k:byv x y<0
      · rw[decide_eq_true k,h1.1 k]
      · rw[decide_eq_false k]
        cases hv:vlt x y
        · rfl
        · exact absurd (h1.2 hv) k
theorem compare_L {X:Ext} (hX:XC X) (N n:Nat) (hN:2≤N) (a b:Row) (ha:a.length≤M):∀ (m i:Nat),i≤a.length→i≤b.length→a.length - i<m→
    slices_CompareFunc_impl_Value_impl_Value_impl_Value_impl_Value_L0 (DD X N) n (Clo.mk 167 []) (fun v w u=>slices_CompareFunc_impl_Value_impl_Value_impl_Value_impl_Value_x0_0 (DD X N) n (Clo.mk 167 []) v w u) (fun v w=>slices_CompareFunc_impl_Value_impl_Value_impl_Value_impl_Value_x0_1 (DD X N) n (Clo.mk 167 []) v w) m a b a a.length (i:Int)=some ((tcmp (a.drop i) (b.drop i),()),())
  | 0,_,_,_,h=>by omega
  | m+1,i,hi,hj,hf=>by
    have hM:=M_def
    simp only[slices_CompareFunc_impl_Value_impl_Value_impl_Value_impl_Value_L0,slices_CompareFunc_impl_Value_impl_Value_impl_Value_impl_Value_b0]
    by_cases h:i<a.length
    · rw[br_pos (by exact_mod_cast h),ix h,br_t,drop_cons h]
      by_cases h2:i<b.length
      · rw[br_neg (by omega),ix h2,br_t,clo_byValue,Int.toNat_natCast,c_byValue hX hN,drop_cons h2,Option.bind_some,bindD_some,wrap_succ (by omega),getD_lt h,getD_lt h2,bne_dec]
        simp only[tcmp]
        by_cases e:byv a[i] b[i]=0
        · rw[decide_eq_true e,if_pos e,Bool.not_true,br_f]
          exact compare_L hX N n hN a b ha m (i+1) (by omega) (by omega) (by omega)
        · rw[decide_eq_false e,if_neg e,Bool.not_false,br_t];rfl
      · rw[br_pos (by omega),drop_end h2];rfl
    · rw[br_neg (by exact_mod_cast h),drop_end h]
      simp only[slices_CompareFunc_impl_Value_impl_Value_impl_Value_impl_Value_x0_1]
      by_cases h2:i<b.length
      · rw[br_pos (by omega),drop_cons h2];rfl
      · rw[br_neg (by omega),drop_end h2];rfl
theorem c_implTupleLess {X:Ext} (hX:XC X) {n:Nat} (hn:W+3≤n) (a b:Row) (ha:a.length≤M):C_impl_TupleLess (DD X n) a b=some ((tlt a b,()),()):=by
  obtain ⟨n,rfl⟩:∃ k,n=k+2:=⟨n - 2,by omega⟩
  have hW:=W_def
  have hM:=M_def
  rw[S_impl_TupleLess hX.ok]
  simp only[F_impl_TupleLess,impl_TupleLess_e]
  have e:C_slices_CompareFunc_impl_Value_impl_Value_impl_Value_impl_Value (DD X (n+1)) a b (Clo.mk 167 [])=some ((tcmp a b,()),()):=by
    rw[S_slices_CompareFunc_impl_Value_impl_Value_impl_Value_impl_Value hX.ok]
    simp only[F_slices_CompareFunc_impl_Value_impl_Value_impl_Value_impl_Value,slices_CompareFunc_impl_Value_impl_Value_impl_Value_impl_Value_e,slices_CompareFunc_impl_Value_impl_Value_impl_Value_impl_Value_LP0]
    exact compare_L hX n n (by omega) a b ha n 0 (by omega) (by omega) (by omega)
  rw[e,bindD_some]
  dsimp only
  rw[tcmp_lt]
theorem c_valueSame {X:Ext} (hX:XOk X) {n:Nat} (hn:1≤n) (a b:Value):C_spec_ValueSame (DD X n) a b=some ((decide (a=b),()),()):=by
  obtain ⟨n,rfl⟩:∃ k,n=k+1:=⟨n - 1,by omega⟩
  rw[S_spec_ValueSame hX]
  simp only[F_spec_ValueSame,spec_ValueSame_e,eqVal_den]
theorem c_valueLess {X:Ext} (hX:XOk X) {n:Nat} (hn:1≤n) (a b:Value):C_spec_ValueLess (DD X n) a b=some ((vlt a b,()),()):=by
  obtain ⟨n,rfl⟩:∃ k,n=k+1:=⟨n - 1,by omega⟩
  rw[S_spec_ValueLess hX]
  simp only[F_spec_ValueLess,spec_ValueLess_e,bne_dec]
  unfold vlt
  cases decide (a.1=b.1)<;>cases decide (a.2.1=b.2.1)<;>rfl
theorem specLess_L {X:Ext} (hX:XOk X) (N n:Nat) (hN:1≤N) (a b:Row) (ha:a.length≤M):∀ (m i:Nat),i≤a.length→i≤b.length→a.length - i<m→
    spec_TupleLess_L0 (DD X N) n (fun v w u=>spec_TupleLess_x0_0 (DD X N) n v w u) (fun v w=>spec_TupleLess_x0_1 (DD X N) n v w) m a b (i:Int)=some ((tlt (a.drop i) (b.drop i),()),())
  | 0,_,_,_,h=>by omega
  | m+1,i,hi,hj,hf=>by
    have hM:=M_def
    simp only[spec_TupleLess_L0,spec_TupleLess_b0,cond_and]
    by_cases h:i<a.length
    · by_cases h2:i<b.length
      · rw[decide_eq_true (show (i:Int)<a.length by omega),decide_eq_true (show (i:Int)<b.length by omega)]
        have c0:decide ((0:Int)≤(i:Int))=true:=decide_eq_true (by omega)
        rw[c0,Bool.true_and,br_t,br_t,br_t,c_valueSame hX hN,bindD_some,Int.toNat_natCast,wrap_succ (by omega),drop_cons h,drop_cons h2,getD_lt h,getD_lt h2]
        simp only[tlt]
        by_cases e:a[i]=b[i]
        · rw[decide_eq_true e,if_pos e,Bool.not_true,br_f]
          exact specLess_L hX N n hN a b ha m (i+1) (by omega) (by omega) (by omega)
        · rw[decide_eq_false e,if_neg e,Bool.not_false,br_t,br_t,br_t,c_valueLess hX hN,bindD_some];rfl
      · rw[decide_eq_true (show (i:Int)<a.length by omega),decide_eq_false (show ¬ (i:Int)<b.length by omega),drop_cons h,drop_end h2]
        simp only[Bool.and_false,br_f,spec_TupleLess_x0_1,tlt]
        rw[decide_eq_false (by omega)]
    · rw[decide_eq_false (show ¬ (i:Int)<a.length by omega),drop_end h]
      simp only[Bool.false_and,br_f,spec_TupleLess_x0_1]
      by_cases h2:i<b.length
      · rw[decide_eq_true (by omega),drop_cons h2];rfl
      · rw[decide_eq_false (by omega),drop_end h2];rfl
theorem c_specTupleLess {X:Ext} (hX:XOk X) {n:Nat} (hn:W+1≤n) (a b:Row) (ha:a.length≤M):C_spec_TupleLess (DD X n) a b=some ((tlt a b,()),()):=by
  obtain ⟨n,rfl⟩:∃ k,n=k+1:=⟨n - 1,by omega⟩
  have hW:=W_def
  have hM:=M_def
  rw[S_spec_TupleLess hX]
  simp only[F_spec_TupleLess,spec_TupleLess_e,spec_TupleLess_LP0]
  exact specLess_L hX n n (by omega) a b ha n 0 (by omega) (by omega) (by omega)
theorem same_L {X:Ext} (hX:XOk X) (N n:Nat) (hN:1≤N) (a b:Row) (ha:a.length≤M):∀ (m i:Nat),i≤a.length→i≤b.length→a.length - i<m→
    spec_l18Same_L0 (DD X N) n (fun v w u=>spec_l18Same_x0_0 (DD X N) n v w u) (fun v w=>spec_l18Same_x0_1 (DD X N) n v w) m a b (i:Int)=some ((decide (a.drop i=b.drop i),()),())
  | 0,_,_,_,h=>by omega
  | m+1,i,hi,hj,hf=>by
    have hM:=M_def
    simp only[spec_l18Same_L0,spec_l18Same_b0,cond_and]
    by_cases h:i<a.length
    · by_cases h2:i<b.length
      · rw[decide_eq_true (show (i:Int)<a.length by omega),decide_eq_true (show (i:Int)<b.length by omega)]
        have c0:decide ((0:Int)≤(i:Int))=true:=decide_eq_true (by omega)
        rw[c0,Bool.true_and,br_t,br_t,br_t,c_valueSame hX hN,bindD_some,Int.toNat_natCast,wrap_succ (by omega),drop_cons h,drop_cons h2,getD_lt h,getD_lt h2]
        by_cases e:a[i]=b[i]
        · rw[decide_eq_true e,Bool.not_true,br_f]
          refine Eq.trans (same_L hX N n hN a b ha m (i+1) (by omega) (by omega) (by omega)) ?_
          simp only[e,List.cons.injEq,true_and]
        · rw[decide_eq_false e,Bool.not_false,br_t]
          simp only[e,List.cons.injEq,false_and,decide_false];rfl
      · rw[decide_eq_true (show (i:Int)<a.length by omega),decide_eq_false (show ¬ (i:Int)<b.length by omega),drop_cons h,drop_end h2]
        simp only[Bool.and_false,br_f,spec_l18Same_x0_1]
        rw[decide_eq_false (by omega)];simp[h]
    · rw[decide_eq_false (show ¬ (i:Int)<a.length by omega),drop_end h]
      simp only[Bool.false_and,br_f,spec_l18Same_x0_1]
      by_cases h2:i<b.length
      · rw[decide_eq_false (by omega),drop_cons h2];simp[h2]
      · rw[decide_eq_true (by omega),drop_end h2];simp
theorem c_l18Same {X:Ext} (hX:XOk X) {n:Nat} (hn:W+1≤n) (a b:Row) (ha:a.length≤M):C_spec_l18Same (DD X n) a b=some ((decide (a=b),()),()):=by
  obtain ⟨n,rfl⟩:∃ k,n=k+1:=⟨n - 1,by omega⟩
  have hW:=W_def
  have hM:=M_def
  rw[S_spec_l18Same hX]
  simp only[F_spec_l18Same,spec_l18Same_e,spec_l18Same_LP0]
  exact same_L hX n n (by omega) a b ha n 0 (by omega) (by omega) (by omega)
theorem any_diff {a b:Row} (hl:a.length=b.length):anyFrom (fun i=>!decide (a.getD i vd=b.getD i vd)) 0 a.length=!decide (a=b):=by
  by_cases e:a=b
  · rw[decide_eq_true e,anyFrom_false.2 (fun j _ _=>by rw[e];simp)];rfl
  · rw[decide_eq_false e]
    show _=true
    rw[←Bool.not_eq_false]
    intro hf
    apply e
    apply List.ext_getElem hl
    intro i h1 h2
    have:=anyFrom_false.1 hf i (by omega) (by omega)
    rw[getD_lt h1,getD_lt h2] at this
    simpa using this
theorem c_equal {X:Ext} (hX:XOk X) {n:Nat} (hn:W+1≤n) (a b:Row) (ha:a.length≤M):C_slices_Equal_impl_Value_impl_Value (DD X n) a b=some ((decide (a=b),()),()):=by
  obtain ⟨n,rfl⟩:∃ k,n=k+1:=⟨n - 1,by omega⟩
  have hM:=M_def
  have hW:=W_def
  rw[S_slices_Equal_impl_Value_impl_Value hX]
  simp only[F_slices_Equal_impl_Value_impl_Value,slices_Equal_impl_Value_impl_Value_e,slices_Equal_impl_Value_impl_Value_LP0]
  rw[len_bne]
  by_cases hl:a.length=b.length
  · rw[decide_eq_true hl,Bool.not_true,br_f]
    refine Eq.trans (scan0 (L:=fun m i=>slices_Equal_impl_Value_impl_Value_L0 (DD X n) n _ _ m a b a.length (i:Int)) (N:=a.length) (P:=fun i=>!decide (a.getD i vd=b.getD i vd))
      (A:=some ((false,()),())) (B:=some ((true,()),())) (fun m i hi=>?_) (m:=n) (by omega)) ?_
    · simp only[slices_Equal_impl_Value_impl_Value_L0,slices_Equal_impl_Value_impl_Value_b0]
      by_cases h:i<a.length
      · rw[br_pos (by exact_mod_cast h),ix h,br_t,ix (hl ▸ h),br_t,Int.toNat_natCast,eqVal_den,wrap_succ (by omega),if_pos h];rfl
      · rw[br_neg (by exact_mod_cast h),if_neg h];rfl
    · rw[any_diff hl]
      cases decide (a=b)<;>rfl
  · have:¬ a=b:=fun e=>hl (by rw[e])
    rw[decide_eq_false hl,decide_eq_false this];rfl
def hasV (l:Row) (x:Value):Bool:=anyFrom (fun j=>decide (x=l.getD j vd)) 0 l.length
theorem c_containsV {X:Ext} (hX:XOk X) {n:Nat} (hn:W+2≤n) (l:Row) (x:Value) (hl:l.length≤M):C_slices_Contains_impl_Value_impl_Value (DD X n) l x=some ((hasV l x,()),()):=by
  obtain ⟨n,rfl⟩:∃ k,n=k+2:=⟨n - 2,by omega⟩
  have hM:=M_def
  have hW:=W_def
  rw[S_slices_Contains_impl_Value_impl_Value hX]
  simp only[F_slices_Contains_impl_Value_impl_Value,slices_Contains_impl_Value_impl_Value_e]
  have e:C_slices_Index_impl_Value_impl_Value (DD X (n+1)) l x=some ((match firstFrom (fun j=>decide (x=l.getD j vd)) 0 l.length with | some j=>(j:Int) | none=>-1,()),()):=by
    rw[S_slices_Index_impl_Value_impl_Value hX]
    simp only[F_slices_Index_impl_Value_impl_Value,slices_Index_impl_Value_impl_Value_e,slices_Index_impl_Value_impl_Value_LP0]
    refine Eq.trans (scanF0 (L:=fun m i=>slices_Index_impl_Value_impl_Value_L0 (DD X n) n _ _ m l l.length (i:Int) x) (N:=l.length) (P:=fun j=>decide (x=l.getD j vd))
      (A:=fun j=>some (((j:Int),()),())) (B:=some ((-1,()),())) (fun m i hi=>?_) (m:=n) (by omega)) ?_
    · simp only[slices_Index_impl_Value_impl_Value_L0,slices_Index_impl_Value_impl_Value_b0]
      by_cases h:i<l.length
      · rw[br_pos (by exact_mod_cast h),ix h,br_t,Int.toNat_natCast,wrap_succ (by omega),if_pos h,eqVal_den];rfl
      · rw[br_neg (by exact_mod_cast h),if_neg h];rfl
    · cases firstFrom (fun j=>decide (x=l.getD j vd)) 0 l.length<;>rfl
  rw[e,bindD_some]
  congr 3
  exact first_any _ _
def nullIn (l:Row):Bool:=anyFrom (fun j=>decide ((l.getD j vd).1=0)) 0 l.length
theorem c_l21Some {X:Ext} (hX:XOk X) {n:Nat} (hn:W+1≤n) (l:Row) (hl:l.length≤M):C_spec_l21Some (DD X n) l=some ((nullIn l,()),()):=by
  obtain ⟨n,rfl⟩:∃ k,n=k+1:=⟨n - 1,by omega⟩
  have hM:=M_def
  have hW:=W_def
  rw[S_spec_l21Some hX]
  simp only[F_spec_l21Some,spec_l21Some_e,spec_l21Some_LP0]
  refine Eq.trans (scan0 (L:=fun m i=>spec_l21Some_L0 (DD X n) n _ _ m l (i:Int)) (N:=l.length) (P:=fun j=>decide ((l.getD j vd).1=0))
    (A:=some ((true,()),())) (B:=some ((false,()),())) (fun m i hi=>?_) (m:=n) (by omega)) ?_
  · simp only[spec_l21Some_L0,spec_l21Some_b0]
    by_cases h:i<l.length
    · rw[br_pos (by exact_mod_cast h),ix h,br_t,Int.toNat_natCast,wrap_succ (by omega),if_pos h];rfl
    · rw[br_neg (by exact_mod_cast h),if_neg h];rfl
  · unfold nullIn
    cases anyFrom (fun j=>decide ((l.getD j vd).1=0)) 0 l.length<;>rfl
theorem null_ok {v:Value} (h:valueOk v=true):decide (vd=v)=decide (v.1=0):=by
  obtain ⟨v1,v2,v3,⟨⟩⟩:=v
  by_cases h0:v1=0
  · subst h0
    simp only[valueOk,noText,decide_true,cond_true,Bool.and_eq_true,decide_eq_true_eq] at h
    obtain ⟨rfl,rfl⟩:=h
    rfl
  · have:¬ vd=(v1,v2,v3,()):=fun e=>h0 (by rw[←(Prod.mk.inj e).1])
    rw[decide_eq_false this,decide_eq_false h0]
theorem hasV_null {l:Row} (h:∀ v∈l,valueOk v=true):hasV l vd=nullIn l:=
  anyFrom_congr fun j _ hj=>null_ok (h _ (getD_mem (by omega)))
theorem project_mem {row:Row} {cols:List Int}:∀ v∈project row cols,v∈row:=by
  intro v hv
  unfold project at hv
  obtain ⟨c,hc,rfl⟩:=List.mem_map.1 hv
  have:=inR_lt (List.mem_filter.1 hc).2
  exact getD_mem (by omega)
def clashAt (xs:List Index) (a b:Row) (i:Nat):Bool:=(xs.getD i xd).2.2.1&&(decide (project a (xs.getD i xd).2.1=project b (xs.getD i xd).2.1)&&!nullIn (project a (xs.getD i xd).2.1))
def clash (s:Schema) (a b:Row):Bool:=anyFrom (clashAt s.2.2.1 a b) 0 s.2.2.1.length
theorem clash_symm (s:Schema) (a b:Row):clash s a b=clash s b a:=by
  refine anyFrom_congr fun j _ _=>?_
  unfold clashAt
  by_cases e:project a (s.2.2.1.getD j xd).2.1=project b (s.2.2.1.getD j xd).2.1
  · rw[decide_eq_true e,decide_eq_true e.symm,e]
  · rw[decide_eq_false e,decide_eq_false fun k=>e k.symm];simp
theorem clo_clash (D:Den ctx) (a b:Row) (x:Index):applyClo ctx D (Clo.mk 168 [CapV.rptr (Ty.sl (Ty.pair (Ty.int IntKind.i64) (Ty.pair (Ty.int IntKind.i64) (Ty.pair Ty.str Ty.unit)))) a,CapV.rptr (Ty.sl (Ty.pair (Ty.int IntKind.i64) (Ty.pair (Ty.int IntKind.i64) (Ty.pair Ty.str Ty.unit)))) b]) [CapV.val (Ty.pair Ty.str (Ty.pair (Ty.sl (Ty.int IntKind.i64)) (Ty.pair Ty.bool Ty.unit))) x] Ty.bool=(C_impl_clash_1 D x a b).bind fun r=>some r.1.1:=by kernel_rfl
theorem c_implClash {X:Ext} (hX:XOk X) {n:Nat} (hn:W+6≤n) (s:Schema) (hs:SchSm s) (a b:Row) (ha:a.length≤M) (hb:b.length≤M) (hv:∀ v∈a,valueOk v=true):C_impl_clash (DD X n) s a b=some ((clash s a b,()),()):=by
  obtain ⟨n,rfl⟩:∃ k,n=k+1:=⟨n - 1,by omega⟩
  have hM:=M_def
  have hd:=maxLen_def
  have h2:=hs.ixs
  rw[S_impl_clash hX]
  simp only[F_impl_clash,impl_clash_e]
  rw[c_someIndex hX (n:=n) (by omega) _ (by omega) _ (clashAt s.2.2.1 a b) (fun i hi=>by
    have hc:=hs.ixc _ (getD_mem (d:=xd) hi)
    obtain ⟨n,rfl⟩:∃ k,n=k+3:=⟨n - 3,by omega⟩
    rw[clo_clash,show n+3 - 2=n+1 from rfl,S_impl_clash_1 hX]
    simp only[F_impl_clash_1,impl_clash_1_e]
    have p1:=c_implProject hX (n:=n) (by omega) a ha (s.2.2.1.getD i xd).2.1 hc
    have p2:=c_implProject hX (n:=n) (by omega) b hb (s.2.2.1.getD i xd).2.1 hc
    have l1:=project_len a (s.2.2.1.getD i xd).2.1
    have p3:=c_containsV hX (n:=n) (by omega) (project a (s.2.2.1.getD i xd).2.1) vd (by omega)
    have p4:=c_equal hX (n:=n) (by omega) (project a (s.2.2.1.getD i xd).2.1) (project b (s.2.2.1.getD i xd).2.1) (by omega)
    rw[p1,bindD_some]
    dsimp only
    rw[p2,p3]
    simp only[bindD_some]
    rw[p4,bindD_some,hasV_null (fun v h=>hv v (project_mem v h))]
    unfold clashAt
    cases (s.2.2.1.getD i xd).2.2.1
    · rfl
    · cases nullIn (project a (s.2.2.1.getD i xd).2.1)<;>simp[br]),bindD_some]
  rfl
theorem c_specClash {X:Ext} (hX:XOk X) {n:Nat} (hn:W+3≤n) (s:Schema) (hs:SchSm s) (a b:Row) (ha:a.length≤M) (hb:b.length≤M):C_spec_l21Clash (DD X n) s a b=some ((clash s a b,()),()):=by
  obtain ⟨n,rfl⟩:∃ k,n=k+1:=⟨n - 1,by omega⟩
  have hM:=M_def
  have hW:=W_def
  have h2:=hs.ixs
  rw[S_spec_l21Clash hX]
  simp only[F_spec_l21Clash,spec_l21Clash_e,spec_l21Clash_LP0]
  refine Eq.trans (scan0 (L:=fun m i=>spec_l21Clash_L0 (DD X n) n _ _ m a b (i:Int) s) (N:=s.2.2.1.length) (P:=clashAt s.2.2.1 a b)
    (A:=some ((true,()),())) (B:=some ((false,()),())) (fun m i hi=>?_) (m:=n) (by omega)) ?_
  · simp only[spec_l21Clash_L0,spec_l21Clash_b0]
    by_cases h:i<s.2.2.1.length
    · have hc:=hs.ixc _ (getD_mem (d:=xd) h)
      have p1:=c_specProject hX (n:=n) (by omega) a ha (s.2.2.1.getD i xd).2.1 hc
      have p2:=c_specProject hX (n:=n) (by omega) b hb (s.2.2.1.getD i xd).2.1 hc
      have l1:=project_len a (s.2.2.1.getD i xd).2.1
      have p3:=c_l21Some hX (n:=n) (by omega) (project a (s.2.2.1.getD i xd).2.1) (by omega)
      have p4:=c_l18Same hX (n:=n) (by omega) (project a (s.2.2.1.getD i xd).2.1) (project b (s.2.2.1.getD i xd).2.1) (by omega)
      rw[br_pos (by exact_mod_cast h),ix h,br_t,Int.toNat_natCast,p1,bindD_some]
      dsimp only
      rw[p2,bindD_some]
      dsimp only
      rw[p3,p4,wrap_succ (by omega),if_pos h]
      simp only[bindD_some]
      unfold clashAt
      cases (s.2.2.1.getD i xd).2.2.1
      · rfl
      · cases decide (project a (s.2.2.1.getD i xd).2.1=project b (s.2.2.1.getD i xd).2.1)
        · rfl
        · cases nullIn (project a (s.2.2.1.getD i xd).2.1)<;>rfl
    · rw[br_neg (by exact_mod_cast h),if_neg h];rfl
  · unfold clash
    cases anyFrom (clashAt s.2.2.1 a b) 0 s.2.2.1.length<;>rfl
end Go.G

namespace Go.G
set_option maxRecDepth 100000
open Go Go.V Go.Proofs
abbrev Rel:=Schema×List Row×Unit
instance decRows:DecidableEq (List Row):=inferInstance
instance decRel:DecidableEq Rel:=fun a b=>@instDecidableEqProd _ _ decSchema (@instDecidableEqProd _ _ decRows inferInstance) a b
structure RelSm (r:Rel):Prop where
  sch:SchSm r.1
  rows:r.2.1.length≤M
  row:∀ x∈r.2.1,x.length≤M
end Go.G

namespace Go.G
set_option maxRecDepth 100000
open Go Go.V Go.Proofs
theorem rowOk_vals {s:Schema} {row:Row} (h:rowOk s row=true):∀ v∈row,valueOk v=true:=by
  intro v hv
  obtain ⟨i,hi,rfl⟩:=List.mem_iff_getElem.1 hv
  simp only[rowOk,Bool.and_eq_true,Bool.not_eq_true',decide_eq_true_eq] at h
  have k:=anyFrom_false.1 h.2.2 i (by omega) (by omega)
  simp only[rowBad,Bool.or_eq_false_iff,Bool.not_eq_false'] at k
  rw[←getD_lt (d:=vd) hi];exact k.1
def relBad (s:Schema) (rows:List Row) (i:Nat):Bool:=
  !rowOk s (rows.getD i [])||((decide (0<i)&&!tlt (project (rows.getD (i - 1) []) s.2.1) (project (rows.getD i []) s.2.1))||anyFrom (fun k=>clash s (rows.getD i []) (rows.getD k [])) 0 i)
def relOk (r:Rel):Bool:=!anyFrom (relBad r.1 r.2.1) 0 r.2.1.length&&(schemaOk r.1&&decide ((r.2.1.length:Int)≤12))
theorem clo_rel (D:Den ctx) (r:Rel) (row x:Row):applyClo ctx D (Clo.mk 117 [CapV.rptr (Ty.pair
                    (Ty.pair (Ty.sl (Ty.pair Ty.str (Ty.pair (Ty.int IntKind.i64) (Ty.pair Ty.bool Ty.unit))))
                      (Ty.pair (Ty.sl (Ty.int IntKind.i64))
                        (Ty.pair (Ty.sl (Ty.pair Ty.str (Ty.pair (Ty.sl (Ty.int IntKind.i64)) (Ty.pair Ty.bool Ty.unit)))) Ty.unit)))
                    (Ty.pair (Ty.sl (Ty.sl (Ty.pair (Ty.int IntKind.i64) (Ty.pair (Ty.int IntKind.i64) (Ty.pair Ty.str Ty.unit))))) Ty.unit)) r,CapV.rptr (Ty.sl (Ty.pair (Ty.int IntKind.i64) (Ty.pair (Ty.int IntKind.i64) (Ty.pair Ty.str Ty.unit)))) row]) [CapV.val (Ty.sl (Ty.pair (Ty.int IntKind.i64) (Ty.pair (Ty.int IntKind.i64) (Ty.pair Ty.str Ty.unit)))) x] Ty.bool=(C_impl_RelOk_1 D x r row).bind fun q=>some q.1.1:=by kernel_rfl
theorem getD_take {α:Type} {l:List α} {i j:Nat} {d:α} (h:j<i):(l.take i).getD j d=l.getD j d:=by
  simp only[List.getD,List.getElem?_take]
  rw[if_pos h]
theorem c_someClash {X:Ext} (hX:XOk X) {n:Nat} (hn:W+9≤n) (r:Rel) (hr:RelSm r) (i:Nat) (hi:i<r.2.1.length) (hv:∀ v∈r.2.1.getD i [],valueOk v=true) :
    C_slices_ContainsFunc_impl_Value_impl_Valuex (DD X n) (List.drop (Int.toNat 0) (List.take i r.2.1)) (Clo.mk 117 [CapV.rptr (Ty.pair
                    (Ty.pair (Ty.sl (Ty.pair Ty.str (Ty.pair (Ty.int IntKind.i64) (Ty.pair Ty.bool Ty.unit))))
                      (Ty.pair (Ty.sl (Ty.int IntKind.i64))
                        (Ty.pair (Ty.sl (Ty.pair Ty.str (Ty.pair (Ty.sl (Ty.int IntKind.i64)) (Ty.pair Ty.bool Ty.unit)))) Ty.unit)))
                    (Ty.pair (Ty.sl (Ty.sl (Ty.pair (Ty.int IntKind.i64) (Ty.pair (Ty.int IntKind.i64) (Ty.pair Ty.str Ty.unit))))) Ty.unit)) r,CapV.rptr (Ty.sl (Ty.pair (Ty.int IntKind.i64) (Ty.pair (Ty.int IntKind.i64) (Ty.pair Ty.str Ty.unit)))) (r.2.1.getD i [])])
      = some ((anyFrom (fun k=>clash r.1 (r.2.1.getD i []) (r.2.1.getD k [])) 0 i,()),()):=by
  have hM:=M_def
  have hd:=maxLen_def
  have h2:=hr.rows
  have hl:(List.drop (Int.toNat 0) (List.take i r.2.1)).length=i:=by
    show (List.take i r.2.1).length=i
    rw[List.length_take];omega
  have e:=c_someRow hX (n:=n) (by omega) (List.drop (Int.toNat 0) (List.take i r.2.1)) (by rw[hl];omega) (Clo.mk 117 [CapV.rptr (Ty.pair
                    (Ty.pair (Ty.sl (Ty.pair Ty.str (Ty.pair (Ty.int IntKind.i64) (Ty.pair Ty.bool Ty.unit))))
                      (Ty.pair (Ty.sl (Ty.int IntKind.i64))
                        (Ty.pair (Ty.sl (Ty.pair Ty.str (Ty.pair (Ty.sl (Ty.int IntKind.i64)) (Ty.pair Ty.bool Ty.unit)))) Ty.unit)))
                    (Ty.pair (Ty.sl (Ty.sl (Ty.pair (Ty.int IntKind.i64) (Ty.pair (Ty.int IntKind.i64) (Ty.pair Ty.str Ty.unit))))) Ty.unit)) r,CapV.rptr (Ty.sl (Ty.pair (Ty.int IntKind.i64) (Ty.pair (Ty.int IntKind.i64) (Ty.pair Ty.str Ty.unit)))) (r.2.1.getD i [])])
    (fun k=>clash r.1 (r.2.1.getD i []) (r.2.1.getD k [])) (fun k hk=>by
      rw[hl] at hk
      obtain ⟨n,rfl⟩:∃ k,n=k+3:=⟨n - 3,by omega⟩
      rw[clo_rel,show n+3 - 2=n+1 from rfl,S_impl_RelOk_1 hX]
      simp only[F_impl_RelOk_1,impl_RelOk_1_e]
      have hg:(List.drop (Int.toNat 0) (List.take i r.2.1)).getD k []=r.2.1.getD k []:=getD_take hk
      rw[hg,c_implClash hX (by omega) r.1 hr.sch _ _ (hr.row _ (getD_mem hi)) (hr.row _ (getD_mem (by omega))) hv,bindD_some]
      rfl)
  rw[hl] at e
  exact e
theorem c_implRelOk {X:Ext} (hX:XC X) {n:Nat} (hn:W+10≤n) (r:Rel) (hr:RelSm r):C_impl_RelOk (DD X n) r=some ((relOk r,()),()):=by
  obtain ⟨n,rfl⟩:∃ k,n=k+1:=⟨n - 1,by omega⟩
  have hW:=W_def
  have hM:=M_def
  have h2:=hr.rows
  have hk:=hr.sch.key
  rw[S_impl_RelOk hX.ok]
  simp only[F_impl_RelOk,impl_RelOk_e,impl_RelOk_LP0]
  refine Eq.trans (scan0 (L:=fun m i=>impl_RelOk_L0 (DD X n) n _ _ m r.2.1 r.2.1.length (i:Int) r) (N:=r.2.1.length) (P:=relBad r.1 r.2.1)
    (A:=some ((false,()),())) (B:=some ((schemaOk r.1&&decide ((r.2.1.length:Int)≤12),()),())) (fun m i hi=>?_) (m:=n) (by omega)) ?_
  · simp only[impl_RelOk_L0,impl_RelOk_b0]
    by_cases h:i<r.2.1.length
    · have hc1:(decide ((0:Nat)≤0)&&decide ((0:Int)≤(i:Int))&&decide ((i:Int)≤(r.2.1.length:Int)))=true:=by
        rw[decide_eq_true (by omega),decide_eq_true (by omega),decide_eq_true (by omega)];rfl
      have hri:=hr.row _ (getD_mem (d:=[]) h)
      rw[br_pos (by exact_mod_cast h),ix h,br_t,Int.toNat_natCast,c_implRowOk hX.ok (n:=n) (by omega) r.1 hr.sch _ hri,bindD_some,wrap_succ (by omega),if_pos h,hc1]
      dsimp only
      unfold relBad
      cases hok:rowOk r.1 (r.2.1.getD i [])
      · rfl
      · have ec:=c_someClash hX.ok (n:=n) (by omega) r hr i h (rowOk_vals hok)
        rw[Bool.not_true,br_f,br_t,ec,bindD_some,Bool.false_or]
        dsimp only
        by_cases h0:0<i
        · have w1:IntKind.wrap IntKind.i64 ((i:Int) - 1)=((i - 1:Nat):Int):=by rw[wrap_id (by omega) (by omega)];omega
          have hrj:=hr.row _ (getD_mem (d:=[]) (show i - 1<r.2.1.length by omega))
          have l1:=project_len (r.2.1.getD (i - 1) []) r.1.2.1
          rw[br_pos (by omega),w1,ix (i:=i - 1) (by omega),br_t,Int.toNat_natCast,c_implKeyOfRow hX.ok (by omega) r.1 _ hrj hk,bindD_some]
          dsimp only
          rw[c_implKeyOfRow hX.ok (by omega) r.1 _ hri hk,bindD_some]
          dsimp only
          rw[c_implTupleLess hX (by omega) _ _ (by omega),bindD_some,decide_eq_true h0]
          dsimp only
          cases tlt (project (r.2.1.getD (i - 1) []) r.1.2.1) (project (r.2.1.getD i []) r.1.2.1)<;>rfl
        · rw[br_neg (by omega),decide_eq_false h0];rfl
    · rw[br_neg (by exact_mod_cast h),if_neg h]
      simp only[impl_RelOk_x0_1]
      rw[c_implSchemaOk hX.ok (by omega) r.1 hr.sch,bindD_some,cond_and]
  · unfold relOk
    cases anyFrom (relBad r.1 r.2.1) 0 r.2.1.length<;>rfl
theorem c_specRelOk {X:Ext} (hX:XOk X) {n:Nat} (hn:W+8≤n) (r:Rel) (hr:RelSm r):C_spec_RelOk (DD X n) r=some ((relOk r,()),()):=by
  obtain ⟨n,rfl⟩:∃ k,n=k+1:=⟨n - 1,by omega⟩
  have hW:=W_def
  have hM:=M_def
  have h2:=hr.rows
  have hk:=hr.sch.key
  rw[S_spec_RelOk hX]
  simp only[F_spec_RelOk,spec_RelOk_e,spec_RelOk_LP0]
  refine Eq.trans (scan0 (L:=fun m i=>spec_RelOk_L0 (DD X n) n _ _ m (i:Int) r) (N:=r.2.1.length) (P:=relBad r.1 r.2.1)
    (A:=some ((false,()),())) (B:=some ((schemaOk r.1&&decide ((r.2.1.length:Int)≤12),()),())) (fun m i hi=>?_) (m:=n) (by omega)) ?_
  · simp only[spec_RelOk_L0,spec_RelOk_b0,spec_RelOk_LP1]
    by_cases h:i<r.2.1.length
    · have hri:=hr.row _ (getD_mem (d:=[]) h)
      have el:=scan0 (L:=fun q k=>spec_RelOk_L1 (DD X n) n (fun v0_0 v0_1 v0_2=>spec_RelOk_x1_0 (DD X n) n (spec_RelOk_L0 (DD X n) n (fun v0_0 v0_1=>spec_RelOk_x0_0 (DD X n) n v0_0 v0_1) (fun v1_0=>spec_RelOk_x0_1 (DD X n) n v1_0) m) (fun v0_0 v0_1=>spec_RelOk_x0_0 (DD X n) n v0_0 v0_1) (fun v1_0=>spec_RelOk_x0_1 (DD X n) n v1_0) v0_0 v0_1 v0_2)
            (fun v1_0 v1_1=>spec_RelOk_x1_1 (DD X n) n (spec_RelOk_L0 (DD X n) n (fun v0_0 v0_1=>spec_RelOk_x0_0 (DD X n) n v0_0 v0_1) (fun v1_0=>spec_RelOk_x0_1 (DD X n) n v1_0) m) (fun v0_0 v0_1=>spec_RelOk_x0_0 (DD X n) n v0_0 v0_1) (fun v1_0=>spec_RelOk_x0_1 (DD X n) n v1_0) v1_0 v1_1) q (i:Int) (k:Int) r)
          (N:=i) (P:=fun k=>clash r.1 (r.2.1.getD i []) (r.2.1.getD k []))
          (A:=some ((false,()),())) (B:=spec_RelOk_L0 (DD X n) n (fun v0_0 v0_1=>spec_RelOk_x0_0 (DD X n) n v0_0 v0_1) (fun v1_0=>spec_RelOk_x0_1 (DD X n) n v1_0) m ((i+1:Nat):Int) r) (fun q k hk2=>by
        simp only[spec_RelOk_L1,spec_RelOk_b1]
        by_cases h3:k<i
        · rw[br_pos (by exact_mod_cast h3),ix (i:=k) (by omega),br_t,ix h,br_t,Int.toNat_natCast,Int.toNat_natCast,c_specClash hX (by omega) r.1 hr.sch _ _ (hr.row _ (getD_mem (by omega))) hri,bindD_some,wrap_succ (by omega),if_pos h3,clash_symm]
          rfl
        · rw[br_neg (by exact_mod_cast h3),if_neg h3]
          simp only[spec_RelOk_x1_1]
          rw[wrap_succ (by omega)]) (m:=n) (by omega)
      simp only[Int.natCast_zero] at el
      rw[br_pos (by exact_mod_cast h),ix h,br_t,Int.toNat_natCast,c_specRowOk hX (n:=n) (by omega) r.1 hr.sch _ hri,bindD_some,if_pos h]
      dsimp only
      unfold relBad
      cases hok:rowOk r.1 (r.2.1.getD i [])
      · rfl
      · rw[Bool.not_true,br_f,Bool.false_or]
        by_cases h0:0<i
        · have w1:IntKind.wrap IntKind.i64 ((i:Int) - 1)=((i - 1:Nat):Int):=by rw[wrap_id (by omega) (by omega)];omega
          have hrj:=hr.row _ (getD_mem (d:=[]) (show i - 1<r.2.1.length by omega))
          have l1:=project_len (r.2.1.getD (i - 1) []) r.1.2.1
          rw[br_pos (by omega),w1,ix (i:=i - 1) (by omega),br_t,Int.toNat_natCast,c_specKeyOfRow hX (by omega) r.1 _ hrj hk,bindD_some]
          dsimp only
          rw[br_t,c_specKeyOfRow hX (by omega) r.1 _ hri hk,bindD_some]
          dsimp only
          rw[c_specTupleLess hX (by omega) _ _ (by omega),bindD_some,decide_eq_true h0]
          dsimp only
          cases tlt (project (r.2.1.getD (i - 1) []) r.1.2.1) (project (r.2.1.getD i []) r.1.2.1)
          · rfl
          · exact el
        · rw[br_neg (by omega),decide_eq_false h0];exact el
    · rw[br_neg (by exact_mod_cast h),if_neg h]
      simp only[spec_RelOk_x0_1]
      rw[c_specSchemaOk hX (by omega) r.1 hr.sch,bindD_some,cond_and]
  · unfold relOk
    cases anyFrom (relBad r.1 r.2.1) 0 r.2.1.length<;>rfl
def keyIs (r:Rel) (key:Row) (i:Nat):Bool:=decide (project (r.2.1.getD i []) r.1.2.1=key)
def keyAt (r:Rel) (key:Row):Option Nat:=firstFrom (keyIs r key) 0 r.2.1.length
theorem keyAt_lt {r:Rel} {key:Row} {j:Nat} (h:keyAt r key=some j):j<r.2.1.length:=by
  have:=firstFrom_some h;omega
theorem clo_keyIs (D:Den ctx) (r:Rel) (key x:Row):applyClo ctx D (Clo.mk 173 [CapV.rptr (Ty.pair
                    (Ty.pair (Ty.sl (Ty.pair Ty.str (Ty.pair (Ty.int IntKind.i64) (Ty.pair Ty.bool Ty.unit))))
                      (Ty.pair (Ty.sl (Ty.int IntKind.i64))
                        (Ty.pair (Ty.sl (Ty.pair Ty.str (Ty.pair (Ty.sl (Ty.int IntKind.i64)) (Ty.pair Ty.bool Ty.unit)))) Ty.unit)))
                    (Ty.pair (Ty.sl (Ty.sl (Ty.pair (Ty.int IntKind.i64) (Ty.pair (Ty.int IntKind.i64) (Ty.pair Ty.str Ty.unit))))) Ty.unit)) r,CapV.rptr (Ty.sl (Ty.pair (Ty.int IntKind.i64) (Ty.pair (Ty.int IntKind.i64) (Ty.pair Ty.str Ty.unit)))) key]) [CapV.val (Ty.sl (Ty.pair (Ty.int IntKind.i64) (Ty.pair (Ty.int IntKind.i64) (Ty.pair Ty.str Ty.unit)))) x] Ty.bool=(C_impl_keyAt_1 D x r key).bind fun q=>some q.1.1:=by kernel_rfl
theorem c_keyAt {X:Ext} (hX:XOk X) {n:Nat} (hn:W+6≤n) (r:Rel) (hr:RelSm r) (key:Row):C_impl_keyAt (DD X n) r key=some ((match keyAt r key with | some j=>(j:Int) | none=>-1,()),()):=by
  obtain ⟨n,rfl⟩:∃ k,n=k+1:=⟨n - 1,by omega⟩
  have hM:=M_def
  have hd:=maxLen_def
  have h2:=hr.rows
  have hk:=hr.sch.key
  rw[S_impl_keyAt hX]
  simp only[F_impl_keyAt,impl_keyAt_e]
  rw[c_idxRow hX (n:=n) (by omega) _ (by omega) _ (keyIs r key) (fun i hi=>by
    obtain ⟨n,rfl⟩:∃ k,n=k+2:=⟨n - 2,by omega⟩
    rw[clo_keyIs,show n+2 - 1=n+1 from rfl,S_impl_keyAt_1 hX]
    simp only[F_impl_keyAt_1,impl_keyAt_1_e]
    have l1:=project_len (r.2.1.getD i []) r.1.2.1
    rw[c_implKeyOfRow hX (by omega) r.1 _ (hr.row _ (getD_mem hi)) hk,bindD_some]
    dsimp only
    rw[c_equal hX (by omega) _ _ (by omega),bindD_some]
    rfl),bindD_some]
  rfl
theorem c_l21At {X:Ext} (hX:XOk X) {n:Nat} (hn:W+6≤n) (r:Rel) (hr:RelSm r) (key:Row):C_spec_l21At (DD X n) r key=some ((match keyAt r key with | some j=>(j:Int) | none=>-1,()),()):=by
  obtain ⟨n,rfl⟩:∃ k,n=k+1:=⟨n - 1,by omega⟩
  have hM:=M_def
  have hW:=W_def
  have h2:=hr.rows
  have hk:=hr.sch.key
  rw[S_spec_l21At hX]
  simp only[F_spec_l21At,spec_l21At_e,spec_l21At_LP0]
  refine Eq.trans (scanF0 (L:=fun m i=>spec_l21At_L0 (DD X n) n _ _ m key (i:Int) r) (N:=r.2.1.length) (P:=keyIs r key)
    (A:=fun j=>some (((j:Int),()),())) (B:=some ((-1,()),())) (fun m i hi=>?_) (m:=n) (by omega)) ?_
  · simp only[spec_l21At_L0,spec_l21At_b0]
    by_cases h:i<r.2.1.length
    · have l1:=project_len (r.2.1.getD i []) r.1.2.1
      rw[br_pos (by exact_mod_cast h),ix h,br_t,Int.toNat_natCast,c_specKeyOfRow hX (by omega) r.1 _ (hr.row _ (getD_mem h)) hk,bindD_some]
      dsimp only
      rw[c_l18Same hX (by omega) _ _ (by omega),bindD_some,wrap_succ (by omega),if_pos h]
      rfl
    · rw[br_neg (by exact_mod_cast h),if_neg h];rfl
  · unfold keyAt
    cases firstFrom (keyIs r key) 0 r.2.1.length<;>rfl
theorem c_cloneRow {X:Ext} (hX:XOk X) {n:Nat} (hn:1≤n) (a:Row) (ha:a.length≤bound):C_slices_Clone_impl_Value_impl_Value (DD X n) a=some ((a,()),()):=by
  obtain ⟨n,rfl⟩:∃ k,n=k+1:=⟨n - 1,by omega⟩
  rw[S_slices_Clone_impl_Value_impl_Value hX]
  simp only[F_slices_Clone_impl_Value_impl_Value,slices_Clone_impl_Value_impl_Value_e]
  have hc:decide (0+a.length≤bound)=true:=decide_eq_true (by omega)
  rw[hc,br_t,List.nil_append]
  cases a with
  | nil=>simp[br_ite,both]
  | cons x a=>rw[br_neg (by simp)]
def lookup (r:Rel) (key:Row):Row×Bool:=match keyAt r key with | some j=>if relOk r=true then (r.2.1.getD j [],true) else ([],false) | none=>([],false)
end Go.G

namespace Go.G
set_option maxRecDepth 100000
open Go Go.V Go.Proofs
theorem c_cloneInts {X:Ext} (hX:XOk X) {n:Nat} (hn:1≤n) (a:List Int) (ha:a.length≤bound):C_slices_Clone_int_int (DD X n) a=some ((a,()),()):=by
  obtain ⟨n,rfl⟩:∃ k,n=k+1:=⟨n - 1,by omega⟩
  rw[S_slices_Clone_int_int hX]
  simp only[F_slices_Clone_int_int,slices_Clone_int_int_e]
  have hc:decide (0+a.length≤bound)=true:=decide_eq_true (by omega)
  rw[hc,br_t,List.nil_append]
  cases a with
  | nil=>simp[br_ite,both]
  | cons x a=>rw[br_neg (by simp)]
theorem c_cloneCols {X:Ext} (hX:XOk X) {n:Nat} (hn:1≤n) (a:List Col) (ha:a.length≤bound):C_slices_Clone_impl_Col_impl_Col (DD X n) a=some ((a,()),()):=by
  obtain ⟨n,rfl⟩:∃ k,n=k+1:=⟨n - 1,by omega⟩
  rw[S_slices_Clone_impl_Col_impl_Col hX]
  simp only[F_slices_Clone_impl_Col_impl_Col,slices_Clone_impl_Col_impl_Col_e]
  have hc:decide (0+a.length≤bound)=true:=decide_eq_true (by omega)
  rw[hc,br_t,List.nil_append]
  cases a with
  | nil=>simp[br_ite,both]
  | cons x a=>rw[br_neg (by simp)]
theorem copy_L {X:Ext} (hX:XOk X) (N n:Nat) (hN:1≤N) (K:Schema→Schema→Option ((Schema×Unit)×Unit)) (xs:List Index) (hx:xs.length≤M) (hc:∀ x∈xs,x.2.1.length≤M) (z:Schema) (c:List Col) (k:List Int):∀ (m i:Nat) (acc:List Index),i≤xs.length→xs.length - i<m→acc.length≤i→
    impl_copySchema_L0 (DD X N) n K m xs xs.length (i:Int) z (c,k,acc,())=K z (c,k,acc++xs.drop i,())
  | 0,_,_,_,h,_=>by omega
  | m+1,i,acc,hi,hf,ha=>by
    have hM:=M_def
    have hb:=bound_def
    simp only[impl_copySchema_L0,impl_copySchema_b0]
    by_cases h:i<xs.length
    · rw[br_pos (by exact_mod_cast h),ix h,br_t,Int.toNat_natCast,wrap_succ (by omega),drop_cons h,getD_lt h]
      have:=hc _ (List.getElem_mem h)
      rw[c_cloneInts hX hN _ (by omega),bindD_some,br_pos (by omega)]
      refine Eq.trans (copy_L hX N n hN K xs hx hc z c k m (i+1) _ (by omega) (by omega) (by simp;omega)) ?_
      rw[List.append_assoc];rfl
    · rw[br_neg (by exact_mod_cast h),drop_end h,List.append_nil]
theorem c_implCopySchema {X:Ext} (hX:XOk X) {n:Nat} (hn:W+3≤n) (s:Schema) (hs:SchSm s):C_impl_copySchema (DD X n) s=some ((s,()),()):=by
  obtain ⟨n,rfl⟩:∃ k,n=k+1:=⟨n - 1,by omega⟩
  have hM:=M_def
  have hb:=bound_def
  have hW:=W_def
  have h1:=hs.cols
  have h2:=hs.key
  have h3:=hs.ixs
  rw[S_impl_copySchema hX]
  simp only[F_impl_copySchema,impl_copySchema_e,impl_copySchema_LP0]
  rw[c_cloneCols hX (by omega) _ (by omega),bindD_some,c_cloneInts hX (by omega) _ (by omega),bindD_some]
  dsimp only
  refine Eq.trans (copy_L hX n n (by omega) _ s.2.2.1 h3 hs.ixc _ s.1 s.2.1 n 0 [] (by omega) (by omega) (by simp)) ?_
  rfl
theorem specCopy_L {X:Ext} (D:Den ctx) (n:Nat) (K:Schema→Schema→Option ((Schema×Unit)×Unit)) (s:Schema) (hx:s.2.2.1.length≤M) (hc:∀ x∈s.2.2.1,x.2.1.length≤M) (z:Schema) (c:List Col) (k:List Int):∀ (m i:Nat) (acc:List Index),i≤s.2.2.1.length→s.2.2.1.length - i<m→acc.length≤i→
    spec_l19Copy_L0 D n K m (i:Int) s z (c,k,acc,())=K z (c,k,acc++s.2.2.1.drop i,())
  | 0,_,_,_,h,_=>by omega
  | m+1,i,acc,hi,hf,ha=>by
    have hM:=M_def
    have hb:=bound_def
    simp only[spec_l19Copy_L0,spec_l19Copy_b0]
    by_cases h:i<s.2.2.1.length
    · have:=hc _ (List.getElem_mem h)
      rw[br_pos (by exact_mod_cast h),ix h,br_t,Int.toNat_natCast,wrap_succ (by omega),drop_cons h,getD_lt h,br_pos (by omega),br_pos (by omega)]
      refine Eq.trans (specCopy_L (X:=X) D n K s hx hc z c k m (i+1) _ (by omega) (by omega) (by simp;omega)) ?_
      rw[List.append_assoc];rfl
    · rw[br_neg (by exact_mod_cast h),drop_end h,List.append_nil]
theorem c_specCopySchema {X:Ext} (hX:XOk X) {n:Nat} (hn:W+3≤n) (s:Schema) (hs:SchSm s):C_spec_l19Copy (DD X n) s=some ((s,()),()):=by
  obtain ⟨n,rfl⟩:∃ k,n=k+1:=⟨n - 1,by omega⟩
  have hM:=M_def
  have hb:=bound_def
  have hW:=W_def
  have h1:=hs.cols
  have h2:=hs.key
  have h3:=hs.ixs
  rw[S_spec_l19Copy hX]
  simp only[F_spec_l19Copy,spec_l19Copy_e,spec_l19Copy_LP0]
  rw[br_pos (by omega),br_pos (by omega)]
  refine Eq.trans (specCopy_L (X:=X) (DD X n) n _ s h3 hs.ixc _ ([]++s.1) ([]++s.2.1) n 0 [] (by omega) (by omega) (by simp)) ?_
  rfl
def relNew (s:Schema):Rel×Bool:=if relOk (s,[],())=true then ((s,[],()),true) else ((([],[],[],()),[],()),false)
theorem relSm_new {s:Schema} (hs:SchSm s):RelSm (s,[],()):=⟨hs,Nat.zero_le _,fun _ h=>nomatch h⟩
theorem c_specRelNew {X:Ext} (hX:XOk X) {n:Nat} (hn:W+9≤n) (s:Schema) (hs:SchSm s):C_spec_RelNew (DD X n) s=some (((relNew s).1,(relNew s).2,()),()):=by
  obtain ⟨n,rfl⟩:∃ k,n=k+1:=⟨n - 1,by omega⟩
  rw[S_spec_RelNew hX]
  simp only[F_spec_RelNew,spec_RelNew_e]
  rw[c_specCopySchema hX (by omega) s hs,bindD_some]
  dsimp only
  have e:=c_specRelOk hX (n:=n) (by omega) (s,[],()) (relSm_new hs)
  refine Eq.trans (congrArg (fun x=>bindD x _) e) ?_
  rw[bindD_some]
  unfold relNew
  cases relOk (s,[],())<;>rfl
end Go.G

namespace Go.G
set_option maxRecDepth 100000
open Go Go.V Go.Proofs
theorem rows_L (D:Den ctx) (n:Nat) (K:List Row→Option ((List Row×Unit)×Unit)) (a:List Row) (ha:a.length≤M) (hr:∀ x∈a,x.length≤M):∀ (m i:Nat) (acc:List Row),i≤a.length→a.length - i<m→acc.length≤i→
    spec_l21Rows_L0 D n K m a (i:Int) acc=K (acc++a.drop i)
  | 0,_,_,_,h,_=>by omega
  | m+1,i,acc,hi,hf,hl=>by
    have hM:=M_def
    have hb:=bound_def
    simp only[spec_l21Rows_L0,spec_l21Rows_b0]
    by_cases h:i<a.length
    · have:=hr _ (List.getElem_mem h)
      rw[br_pos (by exact_mod_cast h),ix h,br_t,Int.toNat_natCast,getD_lt h,br_pos (by omega),br_pos (by omega),wrap_succ (by omega),drop_cons h]
      refine Eq.trans (rows_L D n K a ha hr m (i+1) _ (by omega) (by omega) (by simp;omega)) ?_
      rw[List.append_assoc];rfl
    · rw[br_neg (by exact_mod_cast h),drop_end h,List.append_nil]
theorem c_l21Rows {X:Ext} (hX:XOk X) {n:Nat} (hn:W+1≤n) (a:List Row) (ha:a.length≤M) (hr:∀ x∈a,x.length≤M):C_spec_l21Rows (DD X n) a=some ((a,()),()):=by
  obtain ⟨n,rfl⟩:∃ k,n=k+1:=⟨n - 1,by omega⟩
  have hM:=M_def
  have hW:=W_def
  rw[S_spec_l21Rows hX]
  simp only[F_spec_l21Rows,spec_l21Rows_e,spec_l21Rows_LP0]
  refine Eq.trans (rows_L (DD X n) n _ a ha hr n 0 [] (by omega) (by omega) (by simp)) ?_
  rfl
theorem tuples_L {X:Ext} (hX:XOk X) (N n:Nat) (hN:1≤N) (K:List Row→Option ((List Row×Unit)×Unit)) (a:List Row) (ha:a.length≤M) (hr:∀ x∈a,x.length≤M):∀ (m i:Nat) (acc:List Row),i≤a.length→a.length - i<m→acc.length≤i→
    impl_copyTuples_L0 (DD X N) n K m a (a.length:Int) (i:Int) acc=K (acc++a.drop i)
  | 0,_,_,_,h,_=>by omega
  | m+1,i,acc,hi,hf,hl=>by
    have hM:=M_def
    have hb:=bound_def
    simp only[impl_copyTuples_L0,impl_copyTuples_b0]
    by_cases h:i<a.length
    · have:=hr _ (List.getElem_mem h)
      rw[br_pos (by exact_mod_cast h),ix h,br_t,Int.toNat_natCast,getD_lt h,c_cloneRow hX hN _ (by omega),bindD_some,br_pos (by omega),wrap_succ (by omega),drop_cons h]
      refine Eq.trans (tuples_L hX N n hN K a ha hr m (i+1) _ (by omega) (by omega) (by simp;omega)) ?_
      rw[List.append_assoc];rfl
    · rw[br_neg (by exact_mod_cast h),drop_end h,List.append_nil]
theorem c_copyTuples {X:Ext} (hX:XOk X) {n:Nat} (hn:W+2≤n) (a:List Row) (ha:a.length≤M) (hr:∀ x∈a,x.length≤M):C_impl_copyTuples (DD X n) a=some ((a,()),()):=by
  obtain ⟨n,rfl⟩:∃ k,n=k+1:=⟨n - 1,by omega⟩
  have hM:=M_def
  have hW:=W_def
  rw[S_impl_copyTuples hX]
  simp only[F_impl_copyTuples,impl_copyTuples_e,impl_copyTuples_LP0]
  refine Eq.trans (tuples_L hX n n (by omega) _ a ha hr n 0 [] (by omega) (by omega) (by simp)) ?_
  rfl
theorem c_l21Copy {X:Ext} (hX:XOk X) {n:Nat} (hn:W+4≤n) (r:Rel) (hr:RelSm r):C_spec_l21Copy (DD X n) r=some ((r,()),()):=by
  obtain ⟨n,rfl⟩:∃ k,n=k+1:=⟨n - 1,by omega⟩
  rw[S_spec_l21Copy hX]
  simp only[F_spec_l21Copy,spec_l21Copy_e]
  rw[c_specCopySchema hX (by omega) _ hr.sch,bindD_some,c_l21Rows hX (by omega) _ hr.rows hr.row,bindD_some]
theorem c_copyRelation {X:Ext} (hX:XOk X) {n:Nat} (hn:W+4≤n) (r:Rel) (hr:RelSm r):C_impl_copyRelation (DD X n) r=some ((r,()),()):=by
  obtain ⟨n,rfl⟩:∃ k,n=k+1:=⟨n - 1,by omega⟩
  rw[S_impl_copyRelation hX]
  simp only[F_impl_copyRelation,impl_copyRelation_e]
  rw[c_implCopySchema hX (by omega) _ hr.sch,bindD_some,c_copyTuples hX (by omega) _ hr.rows hr.row,bindD_some]
def others (r:Rel) (row:Row) (j:Int):Bool:=anyFrom (fun k=>!decide ((k:Int)=j)&&clash r.1 (r.2.1.getD k []) row) 0 r.2.1.length
theorem c_l21Others {X:Ext} (hX:XOk X) {n:Nat} (hn:W+4≤n) (r:Rel) (hr:RelSm r) (row:Row) (hw:row.length≤M) (j:Int):C_spec_l21Others (DD X n) r row j=some ((others r row j,()),()):=by
  obtain ⟨n,rfl⟩:∃ k,n=k+1:=⟨n - 1,by omega⟩
  have hM:=M_def
  have hW:=W_def
  have h2:=hr.rows
  rw[S_spec_l21Others hX]
  simp only[F_spec_l21Others,spec_l21Others_e,spec_l21Others_LP0]
  refine Eq.trans (scan0 (L:=fun m i=>spec_l21Others_L0 (DD X n) n _ _ m row j (i:Int) r) (N:=r.2.1.length) (P:=fun k=>!decide ((k:Int)=j)&&clash r.1 (r.2.1.getD k []) row)
    (A:=some ((true,()),())) (B:=some ((false,()),())) (fun m i hi=>?_) (m:=n) (by omega)) ?_
  · simp only[spec_l21Others_L0,spec_l21Others_b0]
    by_cases h:i<r.2.1.length
    · rw[br_pos (by exact_mod_cast h),ix h,br_t,Int.toNat_natCast,c_specClash hX (by omega) r.1 hr.sch _ _ (hr.row _ (getD_mem h)) hw,bindD_some,wrap_succ (by omega),if_pos h,bne_dec]
      cases decide ((i:Int)=j)<;>rfl
    · rw[br_neg (by exact_mod_cast h),if_neg h];rfl
  · unfold others
    cases anyFrom (fun k=>!decide ((k:Int)=j)&&clash r.1 (r.2.1.getD k []) row) 0 r.2.1.length<;>rfl
def replaceR (r:Rel) (row:Row):Rel×Int:=
  if relOk r=true∧rowOk r.1 row=true then
    match keyAt r (project row r.1.2.1) with
    | some j=>if others r row j=true then (r,3) else ((r.1,r.2.1.set j row,()),0)
    | none=>(r,4)
  else (r,1)
theorem c_specReplace {X:Ext} (hX:XOk X) {n:Nat} (hn:W+9≤n) (r:Rel) (hr:RelSm r) (row:Row) (hw:row.length≤M):C_spec_Replace (DD X n) r row=some (((replaceR r row).1,(replaceR r row).2,()),()):=by
  obtain ⟨n,rfl⟩:∃ k,n=k+1:=⟨n - 1,by omega⟩
  have hM:=M_def
  have hb:=bound_def
  rw[S_spec_Replace hX]
  simp only[F_spec_Replace,spec_Replace_e]
  rw[c_l21Copy hX (by omega) r hr,bindD_some,c_specRelOk hX (by omega) r hr,bindD_some,c_specRowOk hX (by omega) r.1 hr.sch row hw,bindD_some,c_specKeyOfRow hX (by omega) r.1 row hw hr.sch.key,bindD_some]
  dsimp only
  rw[c_l21At hX (by omega) r hr,bindD_some]
  dsimp only
  rw[c_l21Others hX (by omega) r hr row hw,bindD_some]
  unfold replaceR
  cases relOk r
  · rfl
  · cases rowOk r.1 row
    · rfl
    · cases hk:keyAt r (project row r.1.2.1) with
      | none=>rfl
      | some j=>
        have hj:=keyAt_lt hk
        dsimp only
        rw[br_neg (show ¬ (j:Int)<0 by omega),ix hj,br_t,br_pos (show 0+row.length≤bound by omega)]
        cases others r row j<;>rfl
end Go.G

namespace Go.G
set_option maxRecDepth 100000
open Go Go.V Go.Proofs
def insPos (r:Rel) (key:Row):Nat:=match firstFrom (fun i=>!tlt (project (r.2.1.getD i []) r.1.2.1) key) 0 r.2.1.length with | some j=>j | none=>r.2.1.length
theorem insPos_le (r:Rel) (key:Row):insPos r key≤r.2.1.length:=by
  unfold insPos
  split
  · rename_i j h
    have:=firstFrom_some h;omega
  · exact Nat.le_refl _
def insertR (r:Rel) (row:Row):Rel×Int:=
  if relOk r=true∧rowOk r.1 row=true then
    match keyAt r (project row r.1.2.1) with
    | some j=>(r,2)
    | none=>if others r row (-1)=true then (r,3) else if (r.2.1.length:Int)≥12 then (r,5) else
      ((r.1,r.2.1.take (insPos r (project row r.1.2.1))++[row]++r.2.1.drop (insPos r (project row r.1.2.1)),()),0)
  else (r,1)
theorem ins_x {X:Ext} (hX:XOk X) (N n:Nat) (hN:W+1≤N) (r:Rel) (hr:RelSm r) (row:Row) (hw:row.length≤M) (z:Rel) (p:Nat) (hp:p≤r.2.1.length) :
    spec_Insert_x0_0 (DD X N) n row (p:Int) r z r=some (((r.1,r.2.1.take p++[row]++r.2.1.drop p,()),0,()),()):=by
  have hM:=M_def
  have hb:=bound_def
  have h2:=hr.rows
  have c1:(decide ((0:Nat)≤0)&&decide ((0:Int)≤(p:Int))&&decide ((p:Int)≤(r.2.1.length:Int)))=true:=by
    rw[decide_eq_true (by omega),decide_eq_true (by omega),decide_eq_true (by omega)];rfl
  have c2:(decide ((0:Int)≤(p:Int))&&decide ((p:Int)≤(r.2.1.length:Int))&&decide ((r.2.1.length:Int)≤(r.2.1.length:Int)))=true:=by
    rw[decide_eq_true (by omega),decide_eq_true (by omega),decide_eq_true (by omega)];rfl
  have t1:List.drop (Int.toNat 0) (List.take p r.2.1)=r.2.1.take p:=rfl
  simp only[spec_Insert_x0_0]
  rw[c1,br_t,c2,Int.toNat_natCast,Int.toNat_natCast,t1,List.take_length,c_l21Rows hX hN _ (by rw[List.length_take];omega) (fun x hx=>hr.row x (List.mem_of_mem_take hx)),bindD_some]
  dsimp only
  rw[br_pos (by omega),br_pos (by rw[List.length_take];omega),br_t,c_l21Rows hX hN _ (by rw[List.length_drop];omega) (fun x hx=>hr.row x (List.mem_of_mem_drop hx)),bindD_some]
  dsimp only
  rw[br_pos (by simp only[List.length_append,List.length_take,List.length_drop,List.length_cons,List.length_nil];omega)]
  rfl
theorem c_specInsert {X:Ext} (hX:XOk X) {n:Nat} (hn:W+9≤n) (r:Rel) (hr:RelSm r) (row:Row) (hw:row.length≤M):C_spec_Insert (DD X n) r row=some (((insertR r row).1,(insertR r row).2,()),()):=by
  obtain ⟨n,rfl⟩:∃ k,n=k+1:=⟨n - 1,by omega⟩
  have hM:=M_def
  have hW:=W_def
  have hb:=bound_def
  have h2:=hr.rows
  have hk:=hr.sch.key
  rw[S_spec_Insert hX]
  simp only[F_spec_Insert,spec_Insert_e,spec_Insert_LP0]
  rw[c_l21Copy hX (by omega) r hr,bindD_some,c_specRelOk hX (by omega) r hr,bindD_some,c_specRowOk hX (by omega) r.1 hr.sch row hw,bindD_some,c_specKeyOfRow hX (by omega) r.1 row hw hk,bindD_some]
  dsimp only
  rw[c_l21At hX (by omega) r hr,bindD_some]
  dsimp only
  rw[c_l21Others hX (by omega) r hr row hw,bindD_some]
  unfold insertR
  cases relOk r
  · rfl
  · cases rowOk r.1 row
    · rfl
    · rw[if_pos ⟨rfl,rfl⟩,Bool.not_true,br_f,br_f]
      cases hkey:keyAt r (project row r.1.2.1) with
      | some j=>
        dsimp only
        rw[br_pos (show (j:Int)≥0 by omega)]
      | none=>
        dsimp only
        rw[br_neg (by decide)]
        cases others r row (-1)
        · rw[br_f,if_neg Bool.noConfusion]
          by_cases h12:(r.2.1.length:Int)≥12
          · rw[br_pos h12,if_pos h12]
          · rw[br_neg h12,if_neg h12]
            refine Eq.trans (scanF0 (L:=fun m i=>spec_Insert_L0 (DD X n) n _ m row (i:Int) r (([],[],[],()),[],()) r) (N:=r.2.1.length) (P:=fun i=>!tlt (project (r.2.1.getD i []) r.1.2.1) (project row r.1.2.1))
              (A:=fun j=>spec_Insert_x0_0 (DD X n) n row (j:Int) r (([],[],[],()),[],()) r) (B:=spec_Insert_x0_0 (DD X n) n row (r.2.1.length:Int) r (([],[],[],()),[],()) r) (fun m i hi=>?_) (m:=n) (by omega)) ?_
            · simp only[spec_Insert_L0,spec_Insert_b0]
              by_cases h:i<r.2.1.length
              · have l1:=project_len (r.2.1.getD i []) r.1.2.1
                rw[br_pos (by exact_mod_cast h),ix h,br_t,Int.toNat_natCast,c_specKeyOfRow hX (by omega) r.1 _ (hr.row _ (getD_mem h)) hk,bindD_some,c_specKeyOfRow hX (by omega) r.1 row hw hk,bindD_some]
                dsimp only
                rw[c_specTupleLess hX (by omega) _ _ (by omega),bindD_some,wrap_succ (by omega),if_pos h]
                dsimp only
                cases tlt (project (r.2.1.getD i []) r.1.2.1) (project row r.1.2.1)<;>rfl
              · have hin:i=r.2.1.length:=by omega
                rw[br_neg (by exact_mod_cast h),if_neg h,hin]
            · unfold insPos
              cases hf:firstFrom (fun i=>!tlt (project (r.2.1.getD i []) r.1.2.1) (project row r.1.2.1)) 0 r.2.1.length with
              | none=>exact ins_x hX n n (by omega) r hr row hw _ _ (Nat.le_refl _)
              | some j=>
                have:=firstFrom_some hf
                exact ins_x hX n n (by omega) r hr row hw _ j (by omega)
        · rfl
def removeR (r:Rel) (key:Row):Rel×Int:=
  if relOk r=true then
    match keyAt r key with
    | some j=>((r.1,r.2.1.take j++r.2.1.drop (j+1),()),0)
    | none=>(r,4)
  else (r,1)
theorem c_specRemove {X:Ext} (hX:XOk X) {n:Nat} (hn:W+9≤n) (r:Rel) (hr:RelSm r) (key:Row):C_spec_Remove (DD X n) r key=some (((removeR r key).1,(removeR r key).2,()),()):=by
  obtain ⟨n,rfl⟩:∃ k,n=k+1:=⟨n - 1,by omega⟩
  have hM:=M_def
  have hW:=W_def
  have hb:=bound_def
  have h2:=hr.rows
  rw[S_spec_Remove hX]
  simp only[F_spec_Remove,spec_Remove_e]
  rw[c_l21Copy hX (by omega) r hr,bindD_some,c_specRelOk hX (by omega) r hr,bindD_some,c_l21At hX (by omega) r hr,bindD_some]
  unfold removeR
  cases relOk r
  · rfl
  · rw[if_pos rfl,Bool.not_true,br_f]
    cases hkey:keyAt r key with
    | none=>rfl
    | some j=>
      have hj:=keyAt_lt hkey
      dsimp only
      have w1:IntKind.wrap IntKind.i64 ((j:Int)+1)=((j+1:Nat):Int):=wrap_succ (by omega)
      have c1:(decide ((0:Nat)≤0)&&decide ((0:Int)≤(j:Int))&&decide ((j:Int)≤(r.2.1.length:Int)))=true:=by
        rw[decide_eq_true (by omega),decide_eq_true (by omega),decide_eq_true (by omega)];rfl
      have c2:(decide ((0:Int)≤((j+1:Nat):Int))&&decide (((j+1:Nat):Int)≤(r.2.1.length:Int))&&decide ((r.2.1.length:Int)≤(r.2.1.length:Int)))=true:=by
        rw[decide_eq_true (by omega),decide_eq_true (by omega),decide_eq_true (by omega)];rfl
      have t1:List.drop (Int.toNat 0) (List.take j r.2.1)=r.2.1.take j:=rfl
      rw[br_neg (show ¬ (j:Int)<0 by omega),c1,br_t,w1,c2,Int.toNat_natCast,Int.toNat_natCast,Int.toNat_natCast,t1,List.take_length,c_l21Rows hX (by omega) _ (by rw[List.length_take];omega) (fun x hx=>hr.row x (List.mem_of_mem_take hx)),bindD_some]
      dsimp only
      rw[br_t,c_l21Rows hX (by omega) _ (by rw[List.length_drop];omega) (fun x hx=>hr.row x (List.mem_of_mem_drop hx)),bindD_some]
      dsimp only
      rw[br_pos (by simp only[List.length_take,List.length_drop];omega)]
end Go.G

namespace Go.G
set_option maxRecDepth 100000
open Go Go.V Go.Proofs
theorem less_eq:∀ (x y:List UInt8),Op.bytesLess x y=decide (x<y)
  | [],[]=>by simp[Op.bytesLess]
  | _::_,[]=>by simp[Op.bytesLess]
  | [],_::_=>by simp[Op.bytesLess]
  | a::x,b::y=>by
    rw[Op.bytesLess,less_eq x y]
    simp only[List.cons_lt_cons_iff]
    by_cases h1:a<b<;>by_cases h2:a=b<;>by_cases h3:x<y<;>simp[h1,h2,h3]
theorem bytes_inj {a b:ByteArray} (h:a.toList=b.toList):a=b:=by
  have h2:a.data.toList=b.data.toList:=by simpa [ByteArray.toList_eq] using h
  cases a;cases b
  simp only[ByteArray.mk.injEq]
  exact Array.toList_inj.1 h2
theorem vlt_iff (a b:Value):vlt a b=true↔a.1<b.1∨(a.1=b.1∧(a.2.1<b.2.1∨(a.2.1=b.2.1∧a.2.2.1.toList<b.2.2.1.toList))):=by
  simp only[vlt,less_eq]
  by_cases h1:a.1=b.1
  · by_cases h2:a.2.1=b.2.1
    · rw[decide_eq_true h1,decide_eq_true h2];simp[h1,h2]
    · rw[decide_eq_true h1,decide_eq_false h2];simp[h1,h2]
  · rw[decide_eq_false h1];simp[h1]
theorem vlt_irrefl (a:Value):¬ vlt a a=true:=by
  rw[vlt_iff]
  rintro (h | ⟨_,h | ⟨_,h⟩⟩)
  · omega
  · omega
  · exact List.lt_irrefl _ h
theorem vlt_trans {a b c:Value} (h:vlt a b=true) (k:vlt b c=true):vlt a c=true:=by
  rw[vlt_iff] at *
  rcases h with h | ⟨h,h2⟩
  · rcases k with k | ⟨k,_⟩
    · exact .inl (by omega)
    · exact .inl (by omega)
  · rcases k with k | ⟨k,k2⟩
    · exact .inl (by omega)
    · refine .inr ⟨by omega,?_⟩
      rcases h2 with h2 | ⟨h2,h3⟩
      · rcases k2 with k2 | ⟨k2,_⟩
        · exact .inl (by omega)
        · exact .inl (by omega)
      · rcases k2 with k2 | ⟨k2,k3⟩
        · exact .inl (by omega)
        · exact .inr ⟨by omega,List.lt_trans h3 k3⟩
theorem vlt_total (a b:Value):vlt a b=true∨a=b∨vlt b a=true:=by
  rw[vlt_iff,vlt_iff]
  obtain ⟨a1,a2,a3,⟨⟩⟩:=a
  obtain ⟨b1,b2,b3,⟨⟩⟩:=b
  dsimp only
  by_cases h1:a1<b1
  · exact .inl (.inl h1)
  · by_cases h2:b1<a1
    · exact .inr (.inr (.inl h2))
    · have e1:a1=b1:=by omega
      by_cases h3:a2<b2
      · exact .inl (.inr ⟨e1,.inl h3⟩)
      · by_cases h4:b2<a2
        · exact .inr (.inr (.inr ⟨e1.symm,.inl h4⟩))
        · have e2:a2=b2:=by omega
          by_cases h5:a3.toList<b3.toList
          · exact .inl (.inr ⟨e1,.inr ⟨e2,h5⟩⟩)
          · by_cases h6:b3.toList<a3.toList
            · exact .inr (.inr (.inr ⟨e1.symm,.inr ⟨e2.symm,h6⟩⟩))
            · have e3:a3=b3:=bytes_inj (List.le_antisymm (List.not_lt.1 h6) (List.not_lt.1 h5))
              subst e1;subst e2;subst e3
              exact .inr (.inl rfl)
theorem tlt_irrefl:∀ (a:Row),tlt a a=false
  | []=>rfl
  | x::a=>by
    show (if x=x then tlt a a else vlt x x)=false
    rw[if_pos rfl];exact tlt_irrefl a
theorem tlt_trans:∀ {a b c:Row},tlt a b=true→tlt b c=true→tlt a c=true
  | [],[],_,h,_=>by simp[tlt] at h
  | [],_::_,[],_,k=>by simp[tlt] at k
  | [],_::_,_::_,_,_=>rfl
  | _::_,[],_,h,_=>by simp[tlt] at h
  | _::_,_::_,[],_,k=>by simp[tlt] at k
  | x::a,y::b,z::c,h,k=>by
    simp only[tlt] at *
    by_cases e1:x=y
    · subst e1
      rw[if_pos rfl] at h
      by_cases e2:x=z
      · rw[if_pos e2] at k ⊢;exact tlt_trans h k
      · rw[if_neg e2] at k ⊢;exact k
    · rw[if_neg e1] at h
      by_cases e2:y=z
      · subst e2;rw[if_neg e1];exact h
      · rw[if_neg e2] at k
        have:=vlt_trans h k
        rw[if_neg (fun e=>vlt_irrefl x (by rw[←e] at this;exact this))]
        exact this
theorem tlt_total:∀ (a b:Row),tlt a b=true∨a=b∨tlt b a=true
  | [],[]=>.inr (.inl rfl)
  | [],_::_=>.inl rfl
  | _::_,[]=>.inr (.inr rfl)
  | x::a,y::b=>by
    simp only[tlt]
    by_cases e:x=y
    · subst e
      rw[if_pos rfl,if_pos rfl]
      rcases tlt_total a b with h | h | h
      · exact .inl h
      · exact .inr (.inl (by rw[h]))
      · exact .inr (.inr h)
    · rw[if_neg e,if_neg (fun k=>e k.symm)]
      rcases vlt_total x y with h | h | h
      · exact .inl h
      · exact absurd h e
      · exact .inr (.inr h)
theorem tlt_asymm {a b:Row} (h:tlt a b=true):tlt b a=false:=by
  cases k:tlt b a
  · rfl
  · have:=tlt_trans h k
    rw[tlt_irrefl] at this;cases this
def Ahead (s:Schema) (a b:Row):Prop:=tlt (project a s.2.1) (project b s.2.1)=true∧clash s a b=false
theorem relOk_iff (r:Rel):relOk r=true↔schemaOk r.1=true∧r.2.1.length≤12∧(∀ x∈r.2.1,rowOk r.1 x=true)∧r.2.1.Pairwise (Ahead r.1):=by
  simp only[relOk,Bool.and_eq_true,Bool.not_eq_true',decide_eq_true_eq]
  constructor
  · rintro ⟨h1,h2,h3⟩
    have hb:∀ i,i<r.2.1.length→relBad r.1 r.2.1 i=false:=fun i hi=>anyFrom_false.1 h1 i (by omega) (by omega)
    refine ⟨h2,by omega,fun x hx=>?_,?_⟩
    · obtain ⟨i,hi,rfl⟩:=List.mem_iff_getElem.1 hx
      have:=hb i hi
      simp only[relBad,Bool.or_eq_false_iff,Bool.not_eq_false'] at this
      rw[←getD_lt (d:=[]) hi];exact this.1
    · have hk:∀ d i,i+d+1<r.2.1.length→tlt (project (r.2.1.getD i []) r.1.2.1) (project (r.2.1.getD (i+d+1) []) r.1.2.1)=true:=by
        intro d
        induction d with
        | zero=>
          intro i hi
          have:=hb (i+1) (by omega)
          simp only[relBad,Bool.or_eq_false_iff,Bool.not_eq_false',Bool.and_eq_false_iff,decide_eq_false_iff_not,Nat.add_sub_cancel] at this
          exact this.2.1.resolve_left (by omega)
        | succ d ih=>
          intro i hi
          have h4:=ih i (by omega)
          have:=hb (i+d+2) (by omega)
          simp only[relBad,Bool.or_eq_false_iff,Bool.not_eq_false',Bool.and_eq_false_iff,decide_eq_false_iff_not] at this
          have h5:=this.2.1.resolve_left (by omega)
          exact tlt_trans h4 h5
      refine List.pairwise_iff_getElem.2 fun i j hi hj hij=>⟨?_,?_⟩
      · obtain ⟨d,rfl⟩:∃ d,j=i+d+1:=⟨j - i - 1,by omega⟩
        have:=hk d i hj
        rw[getD_lt hi,getD_lt hj] at this
        exact this
      · have:=hb j hj
        simp only[relBad,Bool.or_eq_false_iff] at this
        have:=anyFrom_false.1 this.2.2 i (by omega) (by omega)
        rw[getD_lt hi,getD_lt hj,clash_symm] at this
        exact this
  · rintro ⟨h1,h2,h3,h4⟩
    have hp:=List.pairwise_iff_getElem.1 h4
    refine ⟨anyFrom_false.2 fun i _ hi=>?_,h1,by omega⟩
    have hi:i<r.2.1.length:=by omega
    simp only[relBad,Bool.or_eq_false_iff,Bool.not_eq_false']
    refine ⟨h3 _ (getD_mem hi),?_,anyFrom_false.2 fun k _ hk=>?_⟩
    · by_cases h0:0<i
      · have hi1:i - 1<r.2.1.length:=by omega
        rw[decide_eq_true h0,Bool.true_and,getD_lt hi,getD_lt hi1,(hp (i - 1) i hi1 hi (by omega)).1];rfl
      · rw[decide_eq_false h0,Bool.false_and]
    · have hk2:k<r.2.1.length:=by omega
      rw[getD_lt hi,getD_lt hk2,clash_symm]
      exact (hp k i hk2 hi (by omega)).2
theorem keyAt_none {r:Rel} {key:Row} (h:keyAt r key=none):∀ x∈r.2.1,project x r.1.2.1≠key:=by
  intro x hx e
  obtain ⟨i,hi,rfl⟩:=List.mem_iff_getElem.1 hx
  have:=firstFrom_none h i (by omega) (by omega)
  simp only[keyIs,decide_eq_false_iff_not] at this
  rw[getD_lt hi] at this
  exact this e
theorem insPos_lo {r:Rel} {key:Row} {i:Nat} (hi:i<insPos r key) (hl:i<r.2.1.length):tlt (project (r.2.1.getD i []) r.1.2.1) key=true:=by
  unfold insPos at hi
  split at hi
  · rename_i j h
    have:=(firstFrom_some h).2.2.2 i (by omega) hi
    simpa using this
  · rename_i h
    have:=firstFrom_none h i (by omega) (by omega)
    simpa using this
theorem insPos_at {r:Rel} {key:Row} (hl:insPos r key<r.2.1.length):tlt (project (r.2.1.getD (insPos r key) []) r.1.2.1) key=false:=by
  unfold insPos at *
  split at hl
  · rename_i j h
    have:=(firstFrom_some h).2.2.1
    simpa using this
  · omega
theorem mem_take_lt {α:Type} {l:List α} {n:Nat} {x:α} (h:x∈l.take n):∃ i,∃ hi:i<l.length,i<n∧x=l[i]:=by
  obtain ⟨i,hi,rfl⟩:=List.mem_iff_getElem.1 h
  rw[List.length_take] at hi
  exact ⟨i,by omega,by omega,by rw[List.getElem_take]⟩
theorem mem_drop_ge {α:Type} {l:List α} {n:Nat} {x:α} (h:x∈l.drop n):∃ i,∃ hi:i<l.length,n≤i∧x=l[i]:=by
  obtain ⟨i,hi,rfl⟩:=List.mem_iff_getElem.1 h
  rw[List.length_drop] at hi
  exact ⟨n+i,by omega,by omega,by rw[List.getElem_drop]⟩
def put (r:Rel) (row:Row):Rel:=(r.1,r.2.1.take (insPos r (project row r.1.2.1))++[row]++r.2.1.drop (insPos r (project row r.1.2.1)),())
theorem others_none {r:Rel} {row:Row} (h:others r row (-1)=false):∀ x∈r.2.1,clash r.1 x row=false:=by
  intro x hx
  obtain ⟨i,hi,rfl⟩:=List.mem_iff_getElem.1 hx
  have:=anyFrom_false.1 h i (by omega) (by omega)
  rw[decide_eq_false (show ¬ (i:Int) = -1 by omega),Bool.not_false,Bool.true_and,getD_lt hi] at this
  exact this
theorem insPos_hi {r:Rel} {key:Row} (hp:r.2.1.Pairwise (Ahead r.1)) (hk:∀ x∈r.2.1,project x r.1.2.1≠key) {i:Nat} (hl:i<r.2.1.length) (hi:insPos r key≤i):tlt key (project (r.2.1.getD i []) r.1.2.1)=true:=by
  have hpl:insPos r key<r.2.1.length:=by omega
  have h0:tlt key (project (r.2.1.getD (insPos r key) []) r.1.2.1)=true:=by
    rcases tlt_total (project (r.2.1.getD (insPos r key) []) r.1.2.1) key with h | h | h
    · rw[insPos_at hpl] at h;cases h
    · exact absurd h (hk _ (getD_mem hpl))
    · exact h
  by_cases e:i=insPos r key
  · rw[e];exact h0
  · have:=(List.pairwise_iff_getElem.1 hp (insPos r key) i hpl hl (by omega)).1
    rw[←getD_lt (d:=[]) hpl,←getD_lt (d:=[]) hl] at this
    exact tlt_trans h0 this
theorem put_ok {r:Rel} {row:Row} (hok:relOk r=true) (hrow:rowOk r.1 row=true) (hk:keyAt r (project row r.1.2.1)=none) (ho:others r row (-1)=false) (hl:r.2.1.length<12):relOk (put r row)=true:=by
  obtain ⟨h1,h2,h3,h4⟩:=(relOk_iff r).1 hok
  have hkn:=keyAt_none hk
  have hon:=others_none ho
  have hle:=insPos_le r (project row r.1.2.1)
  have hsplit:(r.2.1.take (insPos r (project row r.1.2.1))++r.2.1.drop (insPos r (project row r.1.2.1))).Pairwise (Ahead r.1):=by rw[List.take_append_drop];exact h4
  obtain ⟨p1,p2,p3⟩:=List.pairwise_append.1 hsplit
  refine (relOk_iff _).2 ⟨h1,?_,?_,?_⟩
  · simp only[put,List.length_append,List.length_take,List.length_drop,List.length_cons,List.length_nil];omega
  · intro x hx
    simp only[put,List.mem_append,List.mem_singleton] at hx
    rcases hx with (hx | rfl) | hx
    · exact h3 x (List.mem_of_mem_take hx)
    · exact hrow
    · exact h3 x (List.mem_of_mem_drop hx)
  · show (r.2.1.take (insPos r (project row r.1.2.1))++[row]++r.2.1.drop (insPos r (project row r.1.2.1))).Pairwise (Ahead r.1)
    have hlo:∀ a∈r.2.1.take (insPos r (project row r.1.2.1)),Ahead r.1 a row:=fun a ha=>by
      obtain ⟨i,hi,hip,rfl⟩:=mem_take_lt ha
      have:=insPos_lo hip hi
      rw[getD_lt hi] at this
      exact ⟨this,hon _ (List.getElem_mem _)⟩
    have hhi:∀ b∈r.2.1.drop (insPos r (project row r.1.2.1)),Ahead r.1 row b:=fun b hb=>by
      obtain ⟨i,hi,hip,rfl⟩:=mem_drop_ge hb
      have:=insPos_hi h4 hkn hi hip
      rw[getD_lt hi] at this
      exact ⟨this,by rw[clash_symm];exact hon _ (List.getElem_mem _)⟩
    refine List.pairwise_append.2 ⟨List.pairwise_append.2 ⟨p1,List.pairwise_singleton _ _,fun a ha b hb=>?_⟩,p2,fun a ha b hb=>?_⟩
    · rw[List.mem_singleton] at hb;subst hb;exact hlo a ha
    · rcases List.mem_append.1 ha with ha | ha
      · exact p3 a ha b hb
      · rw[List.mem_singleton] at ha;subst ha;exact hhi b hb
theorem cut_ok {r:Rel} (hok:relOk r=true) (j:Nat):relOk (r.1,r.2.1.take j++r.2.1.drop (j+1),())=true:=by
  obtain ⟨h1,h2,h3,h4⟩:=(relOk_iff r).1 hok
  have hs:(r.2.1.take j++r.2.1.drop (j+1)).Sublist r.2.1:=by
    have:=(List.Sublist.refl (r.2.1.take j)).append (List.drop_sublist 1 (r.2.1.drop j))
    rw[List.take_append_drop,List.drop_drop] at this
    exact this
  exact (relOk_iff _).2 ⟨h1,Nat.le_trans hs.length_le h2,fun x hx=>h3 x (hs.subset hx),h4.sublist hs⟩
theorem insertR_ok {r:Rel} (hok:relOk r=true) (row:Row):relOk (insertR r row).1=true:=by
  unfold insertR
  split
  · rename_i hc
    split
    · exact hok
    · rename_i hk
      split
      · exact hok
      · rename_i ho
        split
        · exact hok
        · exact put_ok hok hc.2 hk (by simpa using ho) (by omega)
  · exact hok
theorem removeR_ok {r:Rel} (hok:relOk r=true) (key:Row):relOk (removeR r key).1=true:=by
  unfold removeR
  rw[if_pos hok]
  cases keyAt r key with
  | some j=>exact cut_ok hok _
  | none=>exact hok
theorem getD_set {rows:List Row} {j:Nat} {row:Row} (hj:j<rows.length) (i:Nat):(rows.set j row).getD i []=if i=j then row else rows.getD i []:=by
  by_cases e:i=j
  · subst e
    rw[if_pos rfl,getD_lt (by rw[List.length_set];exact hj),List.getElem_set_self]
  · rw[if_neg e]
    simp only[List.getD,List.getElem?_set]
    rw[if_neg (fun k=>e k.symm)]
theorem replaced {r:Rel} {row:Row} {j:Nat} (hok:relOk r=true) (hrow:rowOk r.1 row=true) (hk:keyAt r (project row r.1.2.1)=some j) (ho:others r row j=false) :
    relOk (r.1,r.2.1.set j row,())=true∧keyAt (r.1,r.2.1.set j row,()) (project row r.1.2.1)=some j:=by
  obtain ⟨_,hj,hkj,_⟩:=firstFrom_some hk
  rw[Nat.zero_add] at hj
  have hkey:∀ i,project ((r.2.1.set j row).getD i []) r.1.2.1=project (r.2.1.getD i []) r.1.2.1:=by
    intro i
    rw[getD_set hj]
    split
    · rename_i e
      subst e
      simp only[keyIs,decide_eq_true_eq] at hkj
      exact hkj.symm
    · rfl
  have hoth:∀ k,k<r.2.1.length→k≠j→clash r.1 (r.2.1.getD k []) row=false:=by
    intro k h1 h2
    have:=anyFrom_false.1 ho k (by omega) (by omega)
    rw[decide_eq_false (by omega),Bool.not_false,Bool.true_and] at this
    exact this
  simp only[relOk,Bool.and_eq_true,Bool.not_eq_true',decide_eq_true_eq] at hok
  obtain ⟨h1,h2,h3⟩:=hok
  constructor
  · simp only[relOk,Bool.and_eq_true,Bool.not_eq_true',decide_eq_true_eq,List.length_set]
    refine ⟨anyFrom_false.2 fun i _ hi=>?_,h2,h3⟩
    have hb:=anyFrom_false.1 h1 i (by omega) (by omega)
    simp only[relBad,Bool.or_eq_false_iff] at hb ⊢
    obtain ⟨b1,b2,b3⟩:=hb
    refine ⟨?_,?_,anyFrom_false.2 fun k _ hk=>?_⟩
    · rw[getD_set hj]
      split
      · rw[hrow];rfl
      · exact b1
    · rw[hkey,hkey];exact b2
    · have b4:=anyFrom_false.1 b3 k (by omega) (by omega)
      rw[getD_set hj,getD_set hj]
      by_cases e1:i=j
      · rw[if_pos e1,if_neg (show ¬ k=j by omega),clash_symm]
        exact hoth k (by omega) (by omega)
      · rw[if_neg e1]
        by_cases e2:k=j
        · rw[if_pos e2];exact hoth i (by omega) e1
        · rw[if_neg e2];exact b4
  · refine Eq.trans ?_ hk
    unfold keyAt
    show firstFrom _ 0 (r.2.1.set j row).length=_
    rw[List.length_set]
    exact firstFrom_congr fun i _ _=>by
      show decide (project ((r.2.1.set j row).getD i []) r.1.2.1=_)=decide (project (r.2.1.getD i []) r.1.2.1=_)
      rw[hkey]
end Go.G

namespace Go.G
set_option maxRecDepth 100000
open Go Go.V Go.Proofs
theorem c_sameTuple {X:Ext} (hX:XOk X) {n:Nat} (hn:W+1≤n) (a b:Row) (ha:a.length≤M):C_laws_sameTuple (DD X n) a b=some ((decide (a=b),()),()):=by
  obtain ⟨n,rfl⟩:∃ k,n=k+1:=⟨n - 1,by omega⟩
  have hM:=M_def
  have hW:=W_def
  rw[S_laws_sameTuple hX]
  simp only[F_laws_sameTuple,laws_sameTuple_e,laws_sameTuple_LP0]
  rw[len_bne]
  by_cases hl:a.length=b.length
  · rw[decide_eq_true hl,Bool.not_true,br_f]
    refine Eq.trans (scan0 (L:=fun m i=>laws_sameTuple_L0 (DD X n) n _ _ m a b (i:Int)) (N:=a.length) (P:=fun i=>!decide (a.getD i vd=b.getD i vd))
      (A:=some ((false,()),())) (B:=some ((true,()),())) (fun m i hi=>?_) (m:=n) (by omega)) ?_
    · simp only[laws_sameTuple_L0,laws_sameTuple_b0]
      by_cases h:i<a.length
      · rw[br_pos (by exact_mod_cast h),ix h,br_t,ix (hl ▸ h),br_t,Int.toNat_natCast,eqVal_den,wrap_succ (by omega),if_pos h];rfl
      · rw[br_neg (by exact_mod_cast h),if_neg h];rfl
    · by_cases e:a=b
      · rw[decide_eq_true e,anyFrom_false.2 (fun j _ _=>by rw[e];simp)];rfl
      · rw[decide_eq_false e]
        have:anyFrom (fun i=>!decide (a.getD i vd=b.getD i vd)) 0 a.length=true:=by
          rw[←Bool.not_eq_false]
          intro hf
          apply e
          apply List.ext_getElem hl
          intro i h1 h2
          have:=anyFrom_false.1 hf i (by omega) (by omega)
          rw[getD_lt h1,getD_lt h2] at this
          simpa using this
        rw[this];rfl
  · have:¬ a=b:=fun e=>hl (by rw[e])
    rw[decide_eq_false hl,decide_eq_false this];rfl
end Go.G

namespace Go.G
set_option maxRecDepth 100000
open Go Go.V Go.Proofs
structure InvR (r:Rel):Prop where
  sch:SchSm r.1
  cols:r.1.1.length≤4
  rows:r.2.1.length≤12
  row:∀ x∈r.2.1,x.length≤5
theorem InvR.sm {r:Rel} (h:InvR r):RelSm r:=by
  have hM:=M_def
  obtain ⟨a,b,c,d⟩:=h
  exact ⟨a,by omega,fun x hx=>by have:=d x hx;omega⟩
theorem inv_insert {r:Rel} (h:InvR r) {row:Row} (hw:row.length≤5):InvR (insertR r row).1:=by
  unfold insertR
  split
  · split
    · exact h
    · split
      · exact h
      · split
        · exact h
        · refine ⟨h.sch,h.cols,?_,fun x hx=>?_⟩
          · have:=insPos_le r (project row r.1.2.1)
            simp only[List.length_append,List.length_take,List.length_drop,List.length_cons,List.length_nil];omega
          · simp only[List.mem_append,List.mem_singleton] at hx
            rcases hx with (hx | rfl) | hx
            · exact h.row x (List.mem_of_mem_take hx)
            · exact hw
            · exact h.row x (List.mem_of_mem_drop hx)
  · exact h
theorem inv_remove {r:Rel} (h:InvR r) (key:Row):InvR (removeR r key).1:=by
  unfold removeR
  split
  · split
    · refine ⟨h.sch,h.cols,?_,fun x hx=>?_⟩
      · have:=h.rows
        simp only[List.length_append,List.length_take,List.length_drop];omega
      · simp only[List.mem_append] at hx
        rcases hx with hx | hx
        · exact h.row x (List.mem_of_mem_take hx)
        · exact h.row x (List.mem_of_mem_drop hx)
    · exact h
  · exact h
theorem inv_replace {r:Rel} (h:InvR r) {row:Row} (hw:row.length≤5):InvR (replaceR r row).1:=by
  unfold replaceR
  split
  · split
    · split
      · exact h
      · refine ⟨h.sch,h.cols,by simp only[List.length_set];exact h.rows,fun x hx=>?_⟩
        rcases List.mem_or_eq_of_mem_set hx with hx | rfl
        · exact h.row x hx
        · exact hw
    · exact h
  · exact h
theorem inv_new {s:Schema} (h:DrawnS s):InvR (relNew s).1:=by
  unfold relNew
  split
  · exact ⟨h.sm,h.hi,Nat.zero_le _,(fun _ h=>nomatch h)⟩
  · exact ⟨⟨Nat.zero_le _,(fun _ h=>nomatch h),Nat.zero_le _,Nat.zero_le _,(fun _ h=>nomatch h),(fun _ h=>nomatch h)⟩,Nat.zero_le _,Nat.zero_le _,(fun _ h=>nomatch h)⟩
structure InvK (r:Rel):Prop where
  inv:InvR r
  ok:relOk r=true
theorem InvK.sm {r:Rel} (h:InvK r):RelSm r:=h.inv.sm
theorem replaceR_ok {r:Rel} (hok:relOk r=true) (row:Row):relOk (replaceR r row).1=true:=by
  unfold replaceR
  split
  · rename_i hc
    cases hk:keyAt r (project row r.1.2.1) with
    | none=>exact hok
    | some j=>
      dsimp only
      split
      · exact hok
      · rename_i ho
        exact (replaced hok hc.2 hk (by simpa using ho)).1
  · exact hok
theorem new_ok {s:Schema} (h:schemaOk s=true):relOk (s,[],())=true:=
  (relOk_iff _).2 ⟨h,Nat.zero_le _,(fun _ h=>nomatch h),List.Pairwise.nil⟩
theorem drawR_L {X:Ext} (hX:XOk X) (N n:Nat) (hN:W+9≤N) (K:Cur→Rel→Rel→Option ((Rel×Unit)×Cur×Unit)) (z:Rel):∀ (m i:Nat) (c:Cur) (r:Rel),i≤9→9 - i<m→InvK r→CurOk c→
    ∃ (c':Cur) (r':Rel),CurOk c'∧InvK r'∧spec_l21DrawRight_L0 (DD X N) n K m (i:Int) c z r=K c' z r'
  | 0,_,_,_,_,h,_,_=>by omega
  | m+1,i,c,r,hi,hf,hr,hc=>by
    have hM:=M_def
    simp only[spec_l21DrawRight_L0,spec_l21DrawRight_b0]
    obtain ⟨x,c1,hx,_,h1,e1⟩:=c_l1Below hX (n:=N) (by omega) hc 9
    obtain ⟨x1,x2⟩:=hx (by omega)
    rw[e1,bindD_some]
    dsimp only
    by_cases h:(i:Int)<x
    · obtain ⟨row,c2,h2,hl,_,e2⟩:=c_l19DrawRow hX (n:=N) (by omega) h1 r.1 hr.inv.cols
      obtain ⟨y,c3,_,_,h3,e3⟩:=c_l1Below hX (n:=N) (by omega) h2 6
      have hl5:row.length≤5:=by have:=hr.inv.cols;omega
      have hl6:row.length≤M:=by omega
      rw[br_pos h,e2,bindD_some]
      dsimp only
      rw[e3,bindD_some,wrap_succ (by omega)]
      dsimp only
      by_cases k0:y=0
      · rw[br_pos k0,c_specKeyOfRow hX (by omega) r.1 row hl6 hr.inv.sch.key,bindD_some]
        dsimp only
        rw[c_specRemove hX (by omega) r hr.sm,bindD_some]
        exact drawR_L hX N n hN K z m (i+1) c3 _ (by omega) (by omega) ⟨inv_remove hr.inv _,removeR_ok hr.ok _⟩ h3
      · rw[br_neg k0]
        by_cases k1:y=1
        · rw[br_pos k1,c_specReplace hX (by omega) r hr.sm row hl6,bindD_some]
          exact drawR_L hX N n hN K z m (i+1) c3 _ (by omega) (by omega) ⟨inv_replace hr.inv hl5,replaceR_ok hr.ok _⟩ h3
        · rw[br_neg k1,c_specInsert hX (by omega) r hr.sm row hl6,bindD_some]
          exact drawR_L hX N n hN K z m (i+1) c3 _ (by omega) (by omega) ⟨inv_insert hr.inv hl5,insertR_ok hr.ok _⟩ h3
    · rw[br_neg h]
      exact ⟨c1,r,h1,hr,rfl⟩
theorem c_l21DrawRight {X:Ext} (hX:XOk X) {n:Nat} (hn:W+10≤n) {c:Cur} (hc:CurOk c):∃ (r:Rel) (c':Cur),InvK r∧CurOk c'∧C_spec_l21DrawRight (DD X n) c=some ((r,()),(c',())):=by
  obtain ⟨n,rfl⟩:∃ k,n=k+1:=⟨n - 1,by omega⟩
  have hW:=W_def
  rw[S_spec_l21DrawRight hX]
  simp only[F_spec_l21DrawRight,spec_l21DrawRight_e,spec_l21DrawRight_LP0]
  obtain ⟨s,c1,hs,so,_,_,h1,e1⟩:=c_l19DrawRight hX (n:=n) (by omega) hc
  rw[e1,bindD_some]
  dsimp only
  rw[c_specRelNew hX (by omega) s hs.sm,bindD_some]
  dsimp only
  obtain ⟨c2,r,h2,hr,e⟩:=drawR_L hX n n (by omega) (fun v0_0 v0_1 v0_2=>spec_l21DrawRight_x0_0 (DD X n) n v0_0 v0_1 v0_2) (([],[],[],()),[],()) n 0 c1 (relNew s).1 (by omega) (by omega) ⟨inv_new hs,by unfold relNew;rw[if_pos (new_ok so)];exact new_ok so⟩ h1
  exact ⟨r,c2,hr,h2,e⟩
theorem c_l21DrawRow {X:Ext} (hX:XOk X) {n:Nat} (hn:W+3≤n) {c:Cur} (hc:CurOk c) (r:Rel) (hr:InvR r):∃ (row:Row) (c':Cur),row.length≤5∧CurOk c'∧C_spec_l21DrawRow (DD X n) c r=some ((row,()),(c',())):=by
  obtain ⟨n,rfl⟩:∃ k,n=k+1:=⟨n - 1,by omega⟩
  have hW:=W_def
  rw[S_spec_l21DrawRow hX]
  simp only[F_spec_l21DrawRow,spec_l21DrawRow_e]
  obtain ⟨row,c1,h1,hl,_,e1⟩:=c_l19DrawRow hX (n:=n) (by omega) hc r.1 hr.cols
  have hl5:row.length≤5:=by have:=hr.cols;omega
  rw[e1,bindD_some]
  dsimp only
  rw[cond_and]
  by_cases ha:(r.2.1.length:Int)>0
  · by_cases hb:(row.length:Int)>0
    · rw[decide_eq_true ha,decide_eq_true hb,Bool.true_and,br_t]
      obtain ⟨b,c2,h2,e2⟩:=c_l1Once hX (n:=n) (by omega) h1 2
      rw[e2,bindD_some]
      dsimp only
      cases b
      · exact ⟨row,c2,hl5,h2,rfl⟩
      · rw[br_t]
        obtain ⟨x,c3,hx,_,h3,e3⟩:=c_l1Below hX (n:=n) (by omega) h2 (r.2.1.length:Int)
        obtain ⟨x1,x2⟩:=hx ha
        rw[e3,bindD_some]
        dsimp only
        rw[ixn x1 x2,br_t]
        by_cases h0:((r.2.1.getD x.toNat []).length:Int)>0
        · have d1:∀ k:Nat,(k:Int)>0→(decide ((0:Nat)≤0)&&decide ((0:Int)<(k:Int)))=true:=fun k hk=>by
            rw[decide_eq_true (by omega),decide_eq_true (by omega)];rfl
          have d2:(decide ((0:Nat)≤0)&&true)=true:=rfl
          rw[br_pos h0,d1 _ h0,br_t,d2,br_t]
          exact ⟨_,c3,by rw[List.length_set];exact hl5,h3,rfl⟩
        · rw[br_neg h0]
          exact ⟨row,c3,hl5,h3,rfl⟩
    · rw[decide_eq_false hb,Bool.and_false,br_f]
      exact ⟨row,c1,hl5,h1,rfl⟩
  · rw[decide_eq_false ha,Bool.false_and,br_f]
    exact ⟨row,c1,hl5,h1,rfl⟩
theorem c_drawRelation {X:Ext} (hX:XOk X) {n:Nat} (hn:W+11≤n) (a:List Int) (ha:a.length≤1048576):∃ (r:Rel) (row:Row),InvK r∧row.length≤5∧C_spec_DrawRelation (DD X n) a=some ((r,row,()),()):=by
  obtain ⟨n,rfl⟩:∃ k,n=k+1:=⟨n - 1,by omega⟩
  rw[S_spec_DrawRelation hX]
  simp only[F_spec_DrawRelation,spec_DrawRelation_e]
  obtain ⟨c,hc,e⟩:=c_l1New hX (n:=n) (by omega) a ha
  obtain ⟨r,c1,hr,h1,e1⟩:=c_l21DrawRight hX (n:=n) (by omega) hc
  obtain ⟨row,c2,hl,h2,e2⟩:=c_l21DrawRow hX (n:=n) (by omega) h1 r hr.inv
  rw[e,bindD_some];dsimp only
  rw[e1,bindD_some];dsimp only
  refine ⟨r,row,hr,hl,Eq.trans (congrArg (fun z=>bindD z _) e2) ?_⟩
  rw[bindD_some]
end Go.G

namespace Go.V
open Go
theorem El.take {h:Array Obj} {Pr:BS} {e:Ty} {mi:Mk} {xs:List e.den} {cells:List Value} {Fs:Nat→BS} (k:El h Pr e mi xs cells Fs) (n:Nat) (hn:n≤xs.length) (hl:cells.length=xs.length * e.width):El h Pr e mi (xs.take n) (cells.take (n * e.width)) Fs:=by
  refine ⟨fun i hi=>?_,k.dis⟩
  rw[List.length_take] at hi
  have hin:i<n:=by omega
  have h1:(xs.take n).getD i e.zero=xs.getD i e.zero:=by
    simp only[List.getD,List.getElem?_take]
    rw[if_pos hin]
  have h2:((cells.take (n * e.width)).drop (i * e.width)).take e.width=(cells.drop (i * e.width)).take e.width:=by
    rw[List.drop_take,List.take_take]
    congr 1
    have:(i+1) * e.width≤n * e.width:=Nat.mul_le_mul_right _ hin
    rw[Nat.succ_mul] at this
    omega
  rw[h1,h2]
  exact k.rep i (by omega)
theorem El.drop {h:Array Obj} {Pr:BS} {e:Ty} {mi:Mk} {xs:List e.den} {cells:List Value} {Fs:Nat→BS} (k:El h Pr e mi xs cells Fs) (n:Nat) (hn:n≤xs.length):El h Pr e mi (xs.drop n) (cells.drop (n * e.width)) (fun i=>Fs (n+i)):=by
  refine ⟨fun i hi=>?_,fun i j hij=>k.dis _ _ (by omega)⟩
  rw[List.length_drop] at hi
  have h1:(xs.drop n).getD i e.zero=xs.getD (n+i) e.zero:=by
    simp only[List.getD,List.getElem?_drop]
  have h2:((cells.drop (n * e.width)).drop (i * e.width)).take e.width=(cells.drop ((n+i) * e.width)).take e.width:=by
    rw[List.drop_drop,Nat.add_mul]
  rw[h1,h2]
  exact k.rep (n+i) (by omega)
def upTo (n:Nat) (Fs:Nat→BS) (i:Nat):BS:=if i<n then Fs i else Nil
theorem upTo_sub (n:Nat) (Fs:Nat→BS) (i:Nat):Sub (upTo n Fs i) (Fs i):=by
  unfold upTo
  split
  · exact Sub.refl _
  · exact Sub.nil _
theorem El.upTo {h:Array Obj} {Pr:BS} {e:Ty} {mi:Mk} {xs:List e.den} {cells:List Value} {Fs:Nat→BS} (k:El h Pr e mi xs cells Fs):El h Pr e mi xs cells (upTo xs.length Fs):=by
  refine ⟨fun i hi=>?_,fun i j hij=>(k.dis i j hij).mono (upTo_sub _ _ _) (upTo_sub _ _ _)⟩
  have:Go.V.upTo xs.length Fs i=Fs i:=if_pos hi
  rw[this]
  exact k.rep i hi
theorem El.cut {h:Array Obj} {Pr:BS} {e:Ty} {mi:Mk} {xs:List e.den} {cells:List Value} {Fs:Nat→BS} (k:El h Pr e mi xs cells Fs) (i j:Nat) (hij:i≤j) (hj:j≤xs.length) (hl:cells.length=xs.length * e.width) :
    ∃ FF:Nat→BS,El h Pr e mi (xs.take i++xs.drop j) (cells.take (i * e.width)++cells.drop (j * e.width)) FF∧∀ a b,FF a b→∃ c,Fs c b:=by
  have k1:=(k.take i (by omega) hl).upTo
  have k2:=k.drop j hj
  have hlen:(xs.take i).length=i:=by rw[List.length_take];omega
  rw[hlen] at k1
  have hiw:i * e.width≤cells.length:=by rw[hl];exact Nat.mul_le_mul_right _ (by omega)
  have hjw:j * e.width≤cells.length:=by rw[hl];exact Nat.mul_le_mul_right _ hj
  refine ⟨_,El.append k1 k2 (by rw[List.length_take,hlen];omega) (by rw[List.length_drop,List.length_drop,hl,Nat.sub_mul]) (fun a b=>?_),?_⟩
  · unfold Go.V.upTo
    split
    · exact k.dis _ _ (by omega)
    · exact Dis.nil _
  · intro a b hb
    split at hb
    · exact ⟨_,upTo_sub _ _ _ b hb⟩
    · exact ⟨_,hb⟩
theorem El.insert {h:Array Obj} {Pr:BS} {e:Ty} {mi:Mk} {xs ys:List e.den} {c1 c2:List Value} {F1 F2:Nat→BS} (k1:El h Pr e mi xs c1 F1) (k2:El h Pr e mi ys c2 F2) (i:Nat) (hi:i≤xs.length)
    (hl1:c1.length=xs.length * e.width) (hl2:c2.length=ys.length * e.width) (hd:∀ i j,Dis (F1 i) (F2 j)) :
    ∃ FF:Nat→BS,El h Pr e mi (xs.take i++ys++xs.drop i) (c1.take (i * e.width)++c2++c1.drop (i * e.width)) FF∧∀ a b,FF a b→(∃ c,F1 c b)∨∃ c,F2 c b:=by
  have a1:=(k1.take i hi hl1).upTo
  have a3:=k1.drop i hi
  have hlen:(xs.take i).length=i:=by rw[List.length_take];omega
  rw[hlen] at a1
  have hiw:i * e.width≤c1.length:=by rw[hl1];exact Nat.mul_le_mul_right _ hi
  have a12:=El.append a1 k2 (by rw[List.length_take,hlen];omega) hl2 (fun a b=>(hd a b).mono (upTo_sub _ _ _) (Sub.refl _))
  refine ⟨_,El.append a12 a3 (by rw[List.length_append,List.length_append,List.length_take,hlen,hl2,Nat.add_mul];omega) (by rw[List.length_drop,List.length_drop,hl1,Nat.sub_mul]) (fun a b=>?_),?_⟩
  · skip
    split
    · unfold Go.V.upTo
      split
      · exact k1.dis _ _ (by omega)
      · exact Dis.nil _
    · exact fun z h1 h2=>hd (i+b) _ z h2 h1
  · intro a b hb
    split at hb
    · split at hb
      · exact .inl ⟨_,upTo_sub _ _ _ b hb⟩
      · exact .inr ⟨_,hb⟩
    · exact .inl ⟨_,hb⟩
theorem pst_row {w w2:World} {Pr:BS} {Fs:Nat→BS} {ks:List PK} {a:PDen ks} {vs:List Value} (pre:Pre w.heap Pr Fs ks a vs) {e:Ty} {mi:Mk} {zs:List e.den} {v:Value} {G:BS}
    (rep:Rep w2.heap Pr (.sl e) (.own 0 mi) zs [v] G) (hG:∀ z,G z→May w.heap.size Fs z) (hGP:Dis G Pr) (hGl:∀ z,G z→z<w2.heap.size) (hsz:w.heap.size≤w2.heap.size)
    (o:ODen ks) (out:OsRel w2.heap Pr (fun _=>Nil) 0 ks o vs) (fr:WFr (May w.heap.size Fs) w w2) :
    Pst w w2 Pr Fs ks [.val (.sl e) (.own 0 mi)] (zs,()) o vs v Pr (fun i=>if i=0 then G else Nil) (fun _=>Nil) [v] where
  res:=⟨v,[],rfl,⟨[v],rep,rfl⟩,rfl⟩
  val:=rfl
  out:=out
  pr:=Sub.refl _
  prL:=fun b hb=>.inl hb
  gL:=fun i b hb=>by
    split at hb
    · exact hG b hb
    · exact hb.elim
  oL:=fun _ _ hb=>hb.elim
  gdis:=fun i j hij=>by
    split
    · split
      · omega
      · exact fun _ _ h=>h.elim
    · exact Dis.nil _
  odis:=fun _ _ _=>Dis.nil _
  go:=fun _ _=>fun _ _ h=>h.elim
  gp:=fun i=>by
    split
    · exact hGP
    · exact Dis.nil _
  op:=fun _=>Dis.nil _
  glim:=fun i b hb=>by
    split at hb
    · exact hGl b hb
    · exact hb.elim
  olim:=fun _ _ hb=>hb.elim
  plim:=fun b hb=>Nat.lt_of_lt_of_le (pre.limPr b hb) hsz
  fr:=fr
end Go.V

namespace Go.V
set_option maxRecDepth 100000
set_option maxHeartbeats 4000000
open Go Go.Proofs Go.RowKit Go.Lib
theorem nt132:Try.f132.ntmps=95:=by kernel_rfl
theorem ins_end (a1:Option Addr) (n c m:Nat) (a2:Option Addr) (c2:Nat) (w w3:World) (v3:Value) (hm:0<m) (hc:n≤c) (h1:(∃ b,a1=some ⟨b,0,none⟩)∨(n=0∧c=0))
    (hr:∀ ty,(Builtin.append_ #[67,67] ty #[.slice a1 n c,.slice a2 m c2]).run Try.prog w=.ok v3 w3) :
    Calls Try.prog 132 #[.slice a1 n c,.int .i64 n,.slice a2 m c2] w fun e w'=>e=.returned v3∧w'=w3:=by
  have mx:=mixed
  have u67:Try.prog.underlying 67=some (.slice 38):=by kernel_rfl
  have v67:=run_underlying u67
  have hz1:¬ ((m:Int)=0):=by omega
  rcases h1 with ⟨b,rfl⟩ | ⟨rfl,rfl⟩
  · go_enter Try.func132,nt132
    go_wp2_with (at_builtin;refine Lib.wpList_append_run _ rfl _ _ _ _ rfl _ _ rfl rfl _ _ (hr _) ?_)
    all_goals (try (go_ret;exact ⟨rfl,rfl⟩))
  · cases a1 with
    | none=>
      go_enter Try.func132,nt132
      go_wp2_with (at_builtin;refine Lib.wpList_append_run _ rfl _ _ _ _ rfl _ _ rfl rfl _ _ (hr _) ?_)
      all_goals (try (go_ret;exact ⟨rfl,rfl⟩))
    | some a0=>
      go_enter Try.func132,nt132
      go_wp2_with (at_builtin;refine Lib.wpList_append_run _ rfl _ _ _ _ rfl _ _ rfl rfl _ _ (hr _) ?_)
      all_goals (try (go_ret;exact ⟨rfl,rfl⟩))
end Go.V

namespace Go.V
set_option maxRecDepth 100000
set_option maxHeartbeats 4000000
open Go Go.Proofs Go.RowKit Go.Lib
theorem ins_grow (b n c i m:Nat) (a2:Addr) (c2 B G:Nat) (w w1 w2 w3:World) (r2 r3:Value) (hi:i<n) (hm:0<m) (hnc:n≤c) (hroom:c<n+m) (hG:n+m≤G) (hs63:n+m≤9223372036854775807)
    (hA:∀ ty,(Builtin.append_ #[67,3] ty #[.slice (some ⟨b,0,none⟩) i c,.int .i64 ((n:Int)+(m:Int) - (i:Int))]).run Try.prog w=.ok (.slice (some ⟨B,0,none⟩) (n+m) G) w1)
    (hB:∀ ty,(Builtin.copy_ #[67,67] ty #[.slice (some ⟨B,i,none⟩) (n+m - i) (G - i),.slice (some a2) m c2]).run Try.prog w1=.ok r2 w2)
    (hC:∀ ty,(Builtin.copy_ #[67,67] ty #[.slice (some ⟨B,i+m,none⟩) (n+m - (i+m)) (G - (i+m)),.slice (some ⟨b,i,none⟩) (n - i) (c - i)]).run Try.prog w2.drew=.ok r3 w3) :
    Calls Try.prog 132 #[.slice (some ⟨b,0,none⟩) n c,.int .i64 i,.slice (some a2) m c2] w fun e w'=>e=.returned (.slice (some ⟨B,0,none⟩) (n+m) G)∧w'=w3:=by
  have mx:=mixed
  have u67:Try.prog.underlying 67=some (.slice 38):=by kernel_rfl
  have u3:Try.prog.underlying 3=some (.int .i64):=by kernel_rfl
  have v67:=run_underlying u67
  have v3:=run_underlying u3
  have s38:(Try.prog.info? 38).map (·.size)=some 1:=by kernel_rfl
  obtain ⟨i0,hi0⟩:∃ i0,Try.prog.info? 38=some i0:=by cases h:Try.prog.info? 38 with | none=>rw[h] at s38;cases s38 | some x=>exact ⟨x,rfl⟩
  have hs0:i0.size=1:=by rw[hi0] at s38;simpa using s38
  have hz1:¬ ((m:Int)=0):=by omega
  have hz2:¬ ((i:Int)=(n:Int)):=by omega
  have hz3:(c:Int)<(n:Int)+(m:Int):=by omega
  have hw1:IntKind.i64.wrap ((i:Int)+(m:Int))=(i:Int)+(m:Int):=by rw[IntKind.wrap_i64];omega
  have hb1:(0:Int)≤(i:Int)+(m:Int):=by omega
  have hin:i≤n:=by omega
  have htn:((i:Int)+(m:Int)).toNat=i+m:=by omega
  have hb3:(i:Int)≤(n:Int):=by omega
  have hGi:¬ (G=i):=by omega
  have hGim:¬ (G=i+m):=by omega
  have hci:¬ (c=i):=by omega
  go_enter Try.func132,nt132
  go_wp2_with (first
    | (at_builtin;refine Lib.wpList_append_run _ rfl _ _ _ _ rfl _ _ rfl rfl _ _ (hA _) ?_)
    | (at_builtin;refine wpList_copy_runI _ rfl _ _ 67 67 rfl _ _ rfl rfl (hB _) ?_))
  go_region_law_o (refine step_copy_runI rfl _ _ 67 67 rfl (.slice (some ⟨B,i+m,none⟩) (n+m - (i+m)) (G - (i+m))) (.slice (some ⟨b,i,none⟩) (n - i) (c - i)) (by simp[Act.eval,Act.put]) (by simp[Act.eval,Act.put]) (hC _) ?_)
  go_wp2
  go_ret
  exact ⟨rfl,rfl⟩
theorem ins_shift (b n c i m:Nat) (a2:Addr) (c2:Nat) (w w1 w2:World) (r1 r2:Value) (hi:i<n) (hm:0<m) (hroom:n+m≤c) (hs63:n+m≤9223372036854775807)
    (hov:∀ lb cb,(callFunc 174 #[.slice (some a2) m c2,.slice (some ⟨b,i+m,none⟩) lb cb]).run Try.prog w=.ok (.value (.bool false)) w)
    (hB:∀ ty dc sc,(Builtin.copy_ #[67,67] ty #[.slice (some ⟨b,i+m,none⟩) (n+m - (i+m)) dc,.slice (some ⟨b,i,none⟩) (n+m - i) sc]).run Try.prog w.drew=.ok r1 w1)
    (hC:∀ ty dc,(Builtin.copy_ #[67,67] ty #[.slice (some ⟨b,i,none⟩) (n+m - i) dc,.slice (some a2) m c2]).run Try.prog w1=.ok r2 w2) :
    Calls Try.prog 132 #[.slice (some ⟨b,0,none⟩) n c,.int .i64 i,.slice (some a2) m c2] w fun e w'=>e=.returned (.slice (some ⟨b,0,none⟩) (n+m) c)∧w'=w2:=by
  have mx:=mixed
  have u67:Try.prog.underlying 67=some (.slice 38):=by kernel_rfl
  have u3:Try.prog.underlying 3=some (.int .i64):=by kernel_rfl
  have v67:=run_underlying u67
  have v3:=run_underlying u3
  have s38:(Try.prog.info? 38).map (·.size)=some 1:=by kernel_rfl
  obtain ⟨i0,hi0⟩:∃ i0,Try.prog.info? 38=some i0:=by cases h:Try.prog.info? 38 with | none=>rw[h] at s38;cases s38 | some x=>exact ⟨x,rfl⟩
  have hs0:i0.size=1:=by rw[hi0] at s38;simpa using s38
  have hz1:¬ ((m:Int)=0):=by omega
  have hz2:¬ ((i:Int)=(n:Int)):=by omega
  have hw1:IntKind.i64.wrap ((i:Int)+(m:Int))=(i:Int)+(m:Int):=by rw[IntKind.wrap_i64];omega
  have hb1:(0:Int)≤(i:Int)+(m:Int):=by omega
  have hin:i≤n:=by omega
  have htn:((i:Int)+(m:Int)).toNat=i+m:=by omega
  have hb2:¬ (c=i+m):=by omega
  have hb3:(i:Int)≤(n:Int)+(m:Int):=by omega
  have hb4:¬ (c=i):=by omega
  go_enter Try.func132,nt132
  go_wp2_with (simp only[hov])
  go_region_law_o (refine step_copy_runI rfl _ _ 67 67 rfl _ _ (by simp[Act.eval,Act.put]) (by simp[Act.eval,Act.put]) (hB _ _ _) ?_)
  go_wp2_with (at_builtin;refine wpList_copy_runI _ rfl _ _ 67 67 rfl _ _ rfl rfl (hC _ _) ?_)
  go_ret
  exact ⟨rfl,rfl⟩
end Go.V

namespace Go.V
set_option maxRecDepth 100000
set_option maxHeartbeats 4000000
open Go Go.Proofs Go.RowKit Go.Lib
theorem nt139:Try.f139.ntmps=33:=by kernel_rfl
theorem step_append_runI {P:Program} {ops:Array Oper} {o:Oper} {a:Act} {w:World} {K:Act→World→Prop} {Q:Exit→Act→World→Prop} {E:Prop}
    (hg:o.guard=none) (d x:Operand) (dT sT:TypeId) (hop:o.op=Op.call { callee:=Callee.builtin Builtin.append,args:=#[d,x],argTypes:=#[dT,sT] })
    (v u:Value) (hd:a.eval d=v) (hx:a.eval x=u) {v':Value} {w':World} (hr:(Builtin.append_ #[dT,sT] o.type #[v,u]).run P w=.ok v' w') (hK:K (a.put o.dst v') w') :
    if Region.wanted o (yielded ops a.tmps)=true then Oper.wp P o a w K Q else E:=by
  have hw:Region.wanted o (yielded ops a.tmps)=true:=by simp[Region.wanted,hg]
  rw[if_pos hw]
  exact Lib.wp_append_run w d x dT sT hop v u hd hx v' w' hr hK
theorem del_road (b n c i j:Nat) (w w1 w2:World) (r2:Value) (hij:i<j) (hj:j≤n) (hnc:n≤c) (hn63:n≤9223372036854775807)
    (hA:∀ ty a,(a=(if c=j then some (⟨b,0,none⟩:Addr) else some ⟨b,j,none⟩))→(Builtin.append_ #[67,67] ty #[.slice (some ⟨b,0,none⟩) i c,.slice a (n - j) (c - j)]).run Try.prog w.drew=.ok (.slice (some ⟨b,0,none⟩) (i+(n - j)) c) w1)
    (hC:∀ ty,(Builtin.clear_ #[67] ty #[.slice (some ⟨b,i+(n - j),none⟩) (n - (i+(n - j))) (c - (i+(n - j)))]).run Try.prog w1=.ok r2 w2) :
    Calls Try.prog 139 #[.slice (some ⟨b,0,none⟩) n c,.int .i64 i,.int .i64 j] w fun e w'=>e=.returned (.slice (some ⟨b,0,none⟩) (i+(n - j)) c)∧w'=w2:=by
  have mx:=mixed
  have u67:Try.prog.underlying 67=some (.slice 38):=by kernel_rfl
  have u3:Try.prog.underlying 3=some (.int .i64):=by kernel_rfl
  have v67:=run_underlying u67
  have v3:=run_underlying u3
  have s38:(Try.prog.info? 38).map (·.size)=some 1:=by kernel_rfl
  obtain ⟨i0,hi0⟩:∃ i0,Try.prog.info? 38=some i0:=by cases h:Try.prog.info? 38 with | none=>rw[h] at s38;cases s38 | some x=>exact ⟨x,rfl⟩
  have hs0:i0.size=1:=by rw[hi0] at s38;simpa using s38
  have hz2:¬ ((i:Int)=(j:Int)):=by omega
  have hij':i≤j:=by omega
  have hic:i≤c:=by omega
  have hjc:j≤c:=by omega
  have hin:i≤n:=by omega
  have hk1:i+(n - j)≤n:=by omega
  have hk2:i+(n - j)≤c:=by omega
  have hk3:¬ (c=i+(n - j)):=by omega
  obtain ⟨A,hAe⟩:∃ A:Option Addr,A=(if c=j then some (⟨b,0,none⟩:Addr) else some ⟨b,j,none⟩):=⟨_,rfl⟩
  go_enter Try.func139,nt139
  go_wp2_with fail
  go_region_law_o (refine step_append_runI rfl (.tmp 22) (.tmp 25) 67 67 rfl _ _ (by simp[Act.eval,Act.put]) (by simp[Act.eval,Act.put]) (hA _ _ rfl) ?_)
  all_goals (go_wp2_with (simp only[hC]))
  all_goals (try (go_ret;exact ⟨rfl,rfl⟩))
end Go.V

namespace Go.V
set_option maxRecDepth 100000
open Go Go.Proofs Go.RowKit
abbrev TVal:Ty:=.pair (.int .i64) (.pair (.int .i64) (.pair .str .unit))
abbrev TRow:Ty:=.sl TVal
abbrev SigD:Sig:=⟨[.own (.sl TRow) (Mk.top (.sl TRow)),.val (.int .i64),.val (.int .i64)],[.val (.sl TRow) (Mk.top (.sl TRow))]⟩
theorem sigD:ctx.sig 139=SigD:=by kernel_rfl
def delD (xs:List TRow.den) (i j:Int):Option (List TRow.den):=if 0≤i∧i<j∧j≤xs.length∧xs.length≤bound then some (xs.take i.toNat++xs.drop j.toNat) else none
theorem del_ok:FnOkS Try.prog SigD 139 fun a=>(delD a.1 a.2.1 a.2.2.1).map fun r=>((r,()),()):=by
  intro a r h w Pr Fs vs pre
  obtain ⟨xs,i,j,⟨⟩⟩:=a
  change List TRow.den at xs
  change Int at i
  change Int at j
  obtain ⟨v1,vs1,rfl,⟨c1,rep1,rfl⟩,v2,vs2,rfl,⟨c2,r2,rfl⟩,v3,vs3,rfl,⟨c3,r3,rfl⟩,k3⟩:=pre.rel
  obtain rfl:vs3=[]:=k3
  simp only[Rep] at r2 r3
  subst r2
  subst r3
  dsimp only at h
  unfold delD at h
  split at h
  · rename_i hc
    obtain ⟨h0,hij,hj,hbd⟩:=hc
    replace hbd:xs.length≤274877906944:=hbd
    replace h0:0≤i:=h0
    replace hij:i<j:=hij
    replace hj:j≤xs.length:=hj
    simp only[Option.map_some,Option.some.injEq] at h
    subst h
    obtain ⟨i,rfl⟩:=Int.eq_ofNat_of_zero_le h0
    obtain ⟨j,rfl⟩:=Int.eq_ofNat_of_zero_le (show 0≤j by omega)
    obtain ⟨ad,cap,cells,F,rfl,hl,hlc,hsrc,el,hF,hown⟩:=row_cells (by simp[Mk.top]) (by simp[Mk.top]) rep1
    rcases hown 0 _ rfl with hc0 | ⟨b,cs,rfl,hbF,hbo,hcapb,hFb,hcells⟩
    · replace hlc:xs.length≤cap:=hlc
      omega
    · have hw1:TRow.width=1:=rfl
      replace hlc:xs.length≤cap:=hlc
      replace hl:cells.length=xs.length:=by rw[hl,hw1,Nat.mul_one]
      replace hcapb:cap≤cs.size:=by rw[hw1,Nat.mul_one] at hcapb;exact hcapb
      replace hcells:cells=sub cs 0 xs.length:=by rw[hcells,hw1,Nat.mul_one]
      have hij2:i<j:=by omega
      have hj2:j≤xs.length:=by omega
      have u67:Try.prog.underlying 67=some (.slice 38):=by kernel_rfl
      have s38:(Try.prog.info? 38).map (·.size)=some 1:=by kernel_rfl
      obtain ⟨i0,hi0⟩:∃ i0,Try.prog.info? 38=some i0:=by cases h:Try.prog.info? 38 with | none=>rw[h] at s38;cases s38 | some x=>exact ⟨x,rfl⟩
      have hs0:i0.size=1:=by rw[hi0] at s38;simpa using s38
      have hcd:cells.drop j=sub cs j (xs.length - j):=by
        rw[hcells]
        simp only[sub,List.drop_zero,List.drop_take]
      have hdl:(cells.drop j).length=xs.length - j:=by rw[List.length_drop,hl]
      have hone:∀ u∈cells.drop j,u.oneCell'=true:=by
        intro u hu
        obtain ⟨k,hk,rfl⟩:=List.getElem_of_mem hu
        rw[hdl] at hk
        have hk2:j+k<xs.length:=by omega
        have r:=el.rep (j+k) hk2
        refine Rep.one _ r _ ?_
        rw[hw1,Nat.mul_one,List.mem_iff_getElem?]
        refine ⟨0,?_⟩
        rw[List.getElem?_take,if_pos (by omega),List.getElem?_drop,Nat.add_zero,List.getElem_drop,List.getElem?_eq_getElem]
      have hA:∀ ty a,(a=(if cap=j then some (⟨b,0,none⟩:Addr) else some ⟨b,j,none⟩))→(Builtin.append_ #[67,67] ty #[.slice (some ⟨b,0,none⟩) i cap,.slice a (xs.length - j) (cap - j)]).run Try.prog w.drew=.ok (.slice (some ⟨b,0,none⟩) (i+(xs.length - j)) cap) (w.drew.setCells b i (cells.drop j)):=by
        intro ty a ha
        refine run_app_room (P:=Try.prog) w.drew (ty:=ty) rfl rfl u67 u67 hi0 (news:=cells.drop j) ?_ (by omega) (fun ad e=>?_) (fun e=>by simp at e)
        · rw[hs0]
          refine first_ok (by rw[hdl,Nat.mul_one]) ?_
          by_cases h0:xs.length - j=0
          · exact .inl ⟨h0,List.length_eq_zero_iff.1 (by rw[hdl,h0])⟩
          · refine .inr ⟨b,j,by rw[ha,if_neg (by omega)],?_⟩
            rw[hcd]
            exact rangeAt_drew (rangeAt_sub hbo.blk (by omega))
        · simp only[Option.some.injEq] at e
          subst e
          rw[Addr.add_mid,Nat.zero_add,hs0,Nat.mul_one]
          have th:=there_own (w:=w) (o:=i) (n:=(cells.drop j).length) hbo (by rw[hdl];omega)
          have:=run_storeCells_cells (P:=Try.prog) b i (cells.drop j) 0 w.drew (fun t ht=>by simpa using (th t ht).1) (fun t ht=>by simpa using (th t ht).2) hone
          simpa using this
      obtain ⟨ty,lo,hi,he,hfz⟩:=hbo
      have hfit:i+(cells.drop j).length≤cs.size:=by rw[hdl];omega
      obtain ⟨cs1,hcs1,hcs1l⟩:=setCells_at (cells.drop j) i w.drew cs he hfit
      have hsz1:cs1.size=cs.size:=by rw[←Array.length_toList,hcs1l,repl_length (by simpa using hfit),Array.length_toList]
      have hob1:OwnBlk (w.drew.setCells b i (cells.drop j)).heap b cs1:=⟨ty,lo,hi,hcs1,fun t ht=>hfz t (by omega)⟩
      let zs:List Value:=List.replicate (xs.length - (i+(xs.length - j))) (.slice none 0 0)
      have hzl:zs.length=xs.length - (i+(xs.length - j)):=List.length_replicate
      have hfit2:i+(xs.length - j)+zs.length≤cs1.size:=by rw[hzl];omega
      have th1:=there_own (w:=w.drew.setCells b i (cells.drop j)) (o:=i+(xs.length - j)) (n:=zs.length) hob1 hfit2
      have hC:∀ ty,(Builtin.clear_ #[67] ty #[.slice (some ⟨b,i+(xs.length - j),none⟩) (xs.length - (i+(xs.length - j))) (cap - (i+(xs.length - j)))]).run Try.prog (w.drew.setCells b i (cells.drop j))=.ok (.tuple #[]) ((w.drew.setCells b i (cells.drop j)).setCells b (i+(xs.length - j)) zs):=fun ty=>
        Lib.run_clear_slice _ 67 38 ty (.slice none 0 0) u67 (fun w=>by kernel_rfl) rfl rfl b _ _ _ (by omega) (fun t ht=>(th1 t (by rw[hzl];exact ht)).1) (fun t ht=>(th1 t (by rw[hzl];exact ht)).2)
      obtain ⟨cs2,hcs2,hcs2l⟩:=setCells_at zs (i+(xs.length - j)) _ cs1 hcs1 hfit2
      have hsz2:cs2.size=cs1.size:=by rw[←Array.length_toList,hcs2l,repl_length (by simpa using hfit2),Array.length_toList]
      have hob2:OwnBlk ((w.drew.setCells b i (cells.drop j)).setCells b (i+(xs.length - j)) zs).heap b cs2:=⟨ty,lo,hi,hcs2,fun t ht=>hfz t (by omega)⟩
      have hother:∀ b',b'≠b→((w.drew.setCells b i (cells.drop j)).setCells b (i+(xs.length - j)) zs).heap[b']? = w.heap[b']?:=fun b' hb'=>(setCells_other zs _ _ b' hb').trans (setCells_other (cells.drop j) _ w.drew b' hb')
      have hPb:¬ Pr b:=fun hb=>pre.prot 0 b hbF hb
      obtain ⟨FF,elc,hFF⟩:=el.cut i j (by omega) hj2 (by rw[hw1,Nat.mul_one];exact hl)
      have hFFb:∀ a,¬ FF a b:=fun a hb=>by obtain ⟨c,hc⟩:=hFF a b hb;exact hFb c hc
      have el2:=elc.mono (h':=((w.drew.setCells b i (cells.drop j)).setCells b (i+(xs.length - j)) zs).heap) (Sub.refl _) (fun b' hb'=>hother b' (fun e0=>hPb (e0 ▸ hb'))) (fun a b' hb'=>hother b' (fun e0=>hFFb a (e0 ▸ hb')))
      have hlen:(xs.take i++xs.drop j).length=i+(xs.length - j):=by rw[List.length_append,List.length_take,List.length_drop];omega
      have htake:cs2.toList.take (i+(xs.length - j))=cells.take (i * TRow.width)++cells.drop (j * TRow.width):=by
        have h7:cs.toList.length=cs.size:=Array.length_toList
        rw[hcs2l,hw1,Nat.mul_one,Nat.mul_one]
        have e1:cs1.toList.take (i+(xs.length - j))=cells.take i++cells.drop j:=by
          rw[hcs1l]
          simp only[repl]
          rw[List.take_append_of_le_length (by rw[List.length_append,List.length_take,hdl];omega),List.take_of_length_le (by rw[List.length_append,List.length_take,hdl];omega)]
          congr 1
          rw[hcells]
          simp only[sub,List.drop_zero,List.take_take]
          congr 1;omega
        rw[←e1]
        simp only[repl]
        have h8:cs1.toList.length=cs1.size:=Array.length_toList
        rw[List.append_assoc,List.take_append_of_le_length (by rw[List.length_take];omega),List.take_take,Nat.min_self]
      have rep2:=el2.row hob2 (cap:=cap) (by rw[hw1,Nat.mul_one];omega) (by rw[hlen];omega) (fun t ht=>sub_of_take htake (by rw[hw1,Nat.mul_one];rw[hlen] at ht;omega)) hFFb 0
      rw[hlen] at rep2
      have hrest1:=setCells_rest (b:=b) (cells.drop j) i w.drew
      have hrest2:=setCells_rest (b:=b) zs (i+(xs.length - j)) (w.drew.setCells b i (cells.drop j))
      have hsize:((w.drew.setCells b i (cells.drop j)).setCells b (i+(xs.length - j)) zs).heap.size=w.heap.size:=by rw[setCells_size,setCells_size];rfl
      have hGF:∀ z,(z=b∨∃ t,FF t z)→Fs 0 z:=by
        rintro z (rfl | ⟨t,ht⟩)
        · exact hbF
        · obtain ⟨c,hc⟩:=hFF t z ht;exact hF c z hc
      refine (del_road b xs.length cap i j w _ _ _ hij2 hj2 hlc (by omega) hA hC).mono ?_
      rintro e w' ⟨rfl,rfl⟩
      exact ⟨_,Pr,_,_,_,rfl,pst_row pre rep2 (fun z hz=>.inr ⟨0,hGF z hz⟩) (fun z hz hp=>pre.prot 0 z (hGF z hz) hp) (fun z hz=>by rw[hsize];exact pre.lim 0 z (hGF z hz)) (by rw[hsize];exact Nat.le_refl _) () ⟨_,_,rfl,_,_,rfl,_,_,rfl,rfl⟩
        ⟨hrest2.1.trans hrest1.1,hrest2.2.1.trans hrest1.2.1,hrest2.2.2.trans hrest1.2.2,by rw[hsize];exact Nat.le_refl _,fun b' _ hb'=>hother b' (fun e0=>hb' (e0 ▸ .inr ⟨0,hbF⟩))⟩⟩
  · simp at h
end Go.V

namespace Go.V
set_option maxRecDepth 100000
open Go Go.Proofs Go.RowKit
abbrev SigI:Sig:=⟨[.own (.sl TRow) (Mk.top (.sl TRow)),.val (.int .i64),.own (.sl TRow) (Mk.top (.sl TRow))],[.val (.sl TRow) (Mk.top (.sl TRow))]⟩
theorem sigI:ctx.sig 132=SigI:=by kernel_rfl
def insD (xs:List TRow.den) (i:Int) (ys:List TRow.den):Option (List TRow.den):=if 0≤i∧i≤xs.length∧0<ys.length∧xs.length+ys.length≤bound then some (xs.take i.toNat++ys++xs.drop i.toNat) else none
theorem fin_row {w w2:World} {Pr:BS} {Fs:Nat→BS} {ks:List PK} {a:PDen ks} {vs:List Value} (pre:Pre w.heap Pr Fs ks a vs) {e:Ty} {mi:Mk} {zs:List e.den} {cells:List Value} {FF:Nat→BS} {B cap:Nat} {cs:Array Value}
    (el:El w.heap Pr e mi zs cells FF) (hFF:∀ t b,FF t b→∃ k,Fs k b) (hob:OwnBlk w2.heap B cs) (hcap:cap * e.width≤cs.size) (hl:zs.length≤cap) (htake:cs.toList.take (zs.length * e.width)=cells)
    (hB:B=w.heap.size∨(∃ k,Fs k B)) (hFB:∀ t,¬ FF t B) (hother:∀ b',b'<w.heap.size→b'≠B→w2.heap[b']? = w.heap[b']?) (hsz:w.heap.size≤w2.heap.size) (hBl:B<w2.heap.size)
    (h1:w2.os=w.os) (h2:w2.tape=w.tape) (h3:w2.output=w.output) (o:ODen ks) (out:OsRel w2.heap Pr (fun _=>Nil) 0 ks o vs) :
    ∃ val Pr' Gs Os us,(Value.slice (some ⟨B,0,none⟩) zs.length cap)=val∧Pst w w2 Pr Fs ks [.val (.sl e) (.own 0 mi)] (zs,()) o vs val Pr' Gs Os us:=by
  have hFl:∀ t b,FF t b→b<w.heap.size:=fun t b hb=>by obtain ⟨k,hk⟩:=hFF t b hb;exact pre.lim k b hk
  have hPB:¬ Pr B:=fun hb=>by
    rcases hB with rfl | ⟨k,hk⟩
    · exact Nat.lt_irrefl _ (pre.limPr _ hb)
    · exact pre.prot k B hk hb
  have el2:=el.mono (h':=w2.heap) (Sub.refl _) (fun b' hb'=>hother b' (pre.limPr b' hb') (fun e0=>hPB (e0 ▸ hb'))) (fun t b' hb'=>hother b' (hFl t b' hb') (fun e0=>hFB t (e0 ▸ hb')))
  have rep:=el2.row hob (cap:=cap) hcap hl (fun t ht=>sub_of_take htake (by
    have:=Nat.mul_le_mul_right e.width (show t+1≤zs.length by exact ht)
    rw[Nat.succ_mul] at this;exact this)) hFB 0
  have hG:∀ z,(z=B∨∃ t,FF t z)→May w.heap.size Fs z:=by
    rintro z (rfl | ⟨t,ht⟩)
    · rcases hB with e0 | hk
      · exact .inl (by omega)
      · exact .inr hk
    · exact .inr (hFF t z ht)
  refine ⟨_,Pr,_,_,_,rfl,pst_row pre rep hG (fun z hz hp=>?_) (fun z hz=>?_) hsz o out ⟨h1,h2,h3,hsz,fun b' hb1 hb'=>hother b' hb1 (fun e0=>hb' ?_)⟩⟩
  · rcases hz with rfl | ⟨t,ht⟩
    · exact hPB hp
    · obtain ⟨k,hk⟩:=hFF t z ht;exact pre.prot k z hk hp
  · rcases hz with rfl | ⟨t,ht⟩
    · exact hBl
    · exact Nat.lt_of_lt_of_le (hFl t z ht) hsz
  · subst e0
    exact hG b' (.inl rfl)
theorem El.one {h:Array Obj} {Pr:BS} {mi:Mk} {xs:List TRow.den} {cells:List Value} {F:Nat→BS} (el:El h Pr TRow mi xs cells F) (hl:cells.length=xs.length):∀ u∈cells,u.oneCell'=true:=by
  intro u hu
  obtain ⟨k,hk,rfl⟩:=List.getElem_of_mem hu
  have hk2:k<xs.length:=by omega
  have r:=el.rep k hk2
  have hw1:TRow.width=1:=rfl
  refine Rep.one _ r _ ?_
  rw[hw1,Nat.mul_one,List.mem_iff_getElem?]
  refine ⟨0,?_⟩
  rw[List.getElem?_take,if_pos (by omega),List.getElem?_drop,Nat.add_zero,List.getElem?_eq_getElem]
theorem repl2 {l D C:List Value} {i m:Nat} (hC:C.length=m) (hl:i+m+D.length≤l.length):(repl (repl l (i+m) D) i C).take (i+m+D.length)=l.take i++C++D:=by
  have hA:(l.take (i+m)).length=i+m:=by rw[List.length_take];omega
  have e1:(repl l (i+m) D).take i=l.take i:=by
    simp only[repl]
    rw[List.append_assoc,List.take_append_of_le_length (by omega),List.take_take]
    congr 1;omega
  have e2:(repl l (i+m) D).drop (i+m)=D++l.drop (i+m+D.length):=by
    simp only[repl]
    rw[List.append_assoc,List.drop_append_of_le_length (by omega),List.drop_eq_nil_of_le (by omega),List.nil_append]
  have e3:repl (repl l (i+m) D) i C=(l.take i++C++D)++l.drop (i+m+D.length):=by
    show (repl l (i+m) D).take i++C++(repl l (i+m) D).drop (i+C.length)=_
    rw[e1,hC,e2];simp only[List.append_assoc]
  rw[e3,List.take_append_of_le_length (by simp only[List.length_append,List.length_take];omega),List.take_of_length_le (by simp only[List.length_append,List.length_take];omega)]
theorem repl3 {l D C:List Value} {i m:Nat} (hC:C.length=m) (hl:i+m+D.length≤l.length):(repl (repl l i C) (i+m) D).take (i+m+D.length)=l.take i++C++D:=by
  have hA:(l.take i++C).length=i+m:=by rw[List.length_append,List.length_take];omega
  have e1:(repl l i C).take (i+m)=l.take i++C:=by
    show (l.take i++C++l.drop (i+C.length)).take (i+m)=_
    rw[List.take_append_of_le_length (by omega),List.take_of_length_le (by omega)]
  show ((repl l i C).take (i+m)++D++(repl l i C).drop (i+m+D.length)).take (i+m+D.length)=_
  rw[e1,List.take_append_of_le_length (by rw[List.length_append];omega),List.take_of_length_le (by rw[List.length_append];omega)]
theorem ins_ok:FnOkS Try.prog SigI 132 fun a=>(insD a.1 a.2.1 a.2.2.1).map fun r=>((r,()),()):=by
  intro a r h w Pr Fs vs pre
  obtain ⟨xs,i,ys,⟨⟩⟩:=a
  change List TRow.den at xs
  change Int at i
  change List TRow.den at ys
  obtain ⟨v1,vs1,rfl,⟨c1,rep1,rfl⟩,v2,vs2,rfl,⟨c2,r2,rfl⟩,v3,vs3,rfl,⟨c3,rep3,rfl⟩,k3⟩:=pre.rel
  obtain rfl:vs3=[]:=k3
  simp only[Rep] at r2
  subst r2
  dsimp only at h
  unfold insD at h
  split at h
  · rename_i hc
    obtain ⟨h0,hi,hm,hbd⟩:=hc
    replace h0:0≤i:=h0
    replace hi:i≤xs.length:=hi
    replace hm:0<ys.length:=hm
    replace hbd:xs.length+ys.length≤274877906944:=hbd
    simp only[Option.map_some,Option.some.injEq] at h
    subst h
    obtain ⟨i,rfl⟩:=Int.eq_ofNat_of_zero_le h0
    have hi2:i≤xs.length:=by omega
    obtain ⟨ad1,cap1,cells1,F1,rfl,hl1,hlc1,hsrc1,el1,hF1,hown1⟩:=row_cells (by simp[Mk.top]) (by simp[Mk.top]) rep1
    obtain ⟨ad2,cap2,cells2,F2,rfl,hl2,hlc2,hsrc2,el2,hF2,hown2⟩:=row_cells (by simp[Mk.top]) (by simp[Mk.top]) rep3
    have hw1:TRow.width=1:=rfl
    replace hlc1:xs.length≤cap1:=hlc1
    replace hlc2:ys.length≤cap2:=hlc2
    have hl1':cells1.length=xs.length:=by rw[hl1,hw1,Nat.mul_one]
    have hl2':cells2.length=ys.length:=by rw[hl2,hw1,Nat.mul_one]
    rcases hown2 0 _ rfl with hc0 | ⟨b2,cs2,rfl,hbF2,hbo2,hcapb2,hFb2,hcells2⟩
    · exact absurd hc0 (by omega)
    replace hcapb2:cap2≤cs2.size:=by rw[hw1,Nat.mul_one] at hcapb2;exact hcapb2
    replace hcells2:cells2=sub cs2 0 ys.length:=by rw[hcells2,hw1,Nat.mul_one]
    have hd12:∀ p q,Dis (F1 p) (F2 q):=fun p q=>(pre.dis 0 2 (by decide)).mono (hF1 p) (hF2 q)
    obtain ⟨FF,elz,hFF⟩:=El.insert el1 el2 i hi2 (by rw[hl1]) (by rw[hl2]) hd12
    rw[hw1,Nat.mul_one] at elz
    have hFs:∀ t b,FF t b→∃ k,Fs k b:=fun t b hb=>by
      rcases hFF t b hb with ⟨c,hc⟩ | ⟨c,hc⟩
      · exact ⟨0,hF1 c b hc⟩
      · exact ⟨2,hF2 c b hc⟩
    have hlz:(xs.take i++ys++xs.drop i).length=xs.length+ys.length:=by simp only[List.length_append,List.length_take,List.length_drop];omega
    have hone1:=el1.one hl1'
    have hone2:=el2.one hl2'
    have u67:Try.prog.underlying 67=some (.slice 38):=by kernel_rfl
    have u3:Try.prog.underlying 3=some (.int .i64):=by kernel_rfl
    obtain ⟨i0,hi0,hs0,hz0,hb0⟩:∃ i0,Try.prog.info? 38=some i0∧i0.size=1∧i0.zero=some (.slice none 0 0)∧i0.bytes=24:=by
      have k:((Try.prog.info? 38).map fun x=>(x.size,x.zero,x.bytes))=some (1,some (.slice none 0 0),24):=by kernel_rfl
      cases h:Try.prog.info? 38 with
      | none=>rw[h] at k;cases k
      | some x=>
        rw[h] at k
        simp only[Option.map_some,Option.some.injEq,Prod.mk.injEq] at k
        exact ⟨x,rfl,k.1,k.2.1,k.2.2⟩
    have hn2:(Builtin.firstCells i0.size ys.length (.slice (some ⟨b2,0,none⟩) ys.length cap2)).run Try.prog w=.ok cells2.toArray w:=by
      rw[hs0]
      exact first_ok (by rw[hl2',Nat.mul_one]) (.inr ⟨b2,0,rfl,by rw[hcells2];exact rangeAt_sub hbo2.blk (by omega)⟩)
    have ht0:cells1.take xs.length=cells1:=List.take_of_length_le (by omega)
    have hd0:cells1.drop xs.length=[]:=List.drop_eq_nil_of_le (by omega)
    have houts:∀ (h:Array Obj) (v1 v2 v3:Value),OsRel h Pr (fun _=>Nil) 0 SigI.params () [v1,v2,v3]:=fun h v1 v2 v3=>⟨_,_,rfl,_,_,rfl,_,_,rfl,rfl⟩
    by_cases hend:i=xs.length
    · subst hend
      rw[ht0,hd0,List.append_nil] at elz
      by_cases hroom:xs.length+ys.length≤cap1
      · rcases hown1 0 _ rfl with hc0 | ⟨b1,cs1,rfl,hbF1,hbo1,hcapb1,hFb1,hcells1⟩
        · exact absurd hc0 (by omega)
        replace hcapb1:cap1≤cs1.size:=by rw[hw1,Nat.mul_one] at hcapb1;exact hcapb1
        replace hcells1:cells1=sub cs1 0 xs.length:=by rw[hcells1,hw1,Nat.mul_one]
        have hfit:xs.length+cells2.length≤cs1.size:=by omega
        have hr:∀ ty,(Builtin.append_ #[67,67] ty #[.slice (some ⟨b1,0,none⟩) xs.length cap1,.slice (some ⟨b2,0,none⟩) ys.length cap2]).run Try.prog w=.ok (.slice (some ⟨b1,0,none⟩) (xs.length+ys.length) cap1) (w.setCells b1 xs.length cells2):=fun ty=>
          run_app_room (P:=Try.prog) w (ty:=ty) rfl rfl u67 u67 hi0 hn2 hroom (fun ad e=>by
            simp only[Option.some.injEq] at e
            subst e
            rw[Addr.add_mid,Nat.zero_add,hs0,Nat.mul_one]
            have th:=there_own (w:=w) (o:=xs.length) (n:=cells2.length) hbo1 hfit
            have:=run_storeCells_cells (P:=Try.prog) b1 xs.length cells2 0 w (fun t ht=>by simpa using (th t ht).1) (fun t ht=>by simpa using (th t ht).2) hone2
            simpa using this) (fun e=>by simp at e)
        obtain ⟨ty,lo,hi',he,hfz⟩:=hbo1
        obtain ⟨cs3,hcs3,hcs3l⟩:=setCells_at cells2 xs.length w cs1 he hfit
        have hsz3:cs3.size=cs1.size:=by rw[←Array.length_toList,hcs3l,repl_length (by simpa using hfit),Array.length_toList]
        have hob3:OwnBlk (w.setCells b1 xs.length cells2).heap b1 cs3:=⟨ty,lo,hi',hcs3,fun t ht=>hfz t (by omega)⟩
        have h7:cs1.toList.length=cs1.size:=Array.length_toList
        have htake:cs3.toList.take ((xs.take xs.length++ys++xs.drop xs.length).length * TRow.width)=cells1++cells2:=by
          rw[hw1,Nat.mul_one,hlz,hcs3l,hcells1]
          simp only[repl,sub,List.drop_zero]
          rw[List.take_append_of_le_length (by rw[List.length_append,List.length_take,hl2'];omega),List.take_of_length_le (by rw[List.length_append,List.length_take,hl2'];omega)]
        have hrest:=setCells_rest (b:=b1) cells2 xs.length w
        have hFBb:∀ t,¬ FF t b1:=fun t hb=>by
          rcases hFF t b1 hb with ⟨c,hc⟩ | ⟨c,hc⟩
          · exact hFb1 c hc
          · exact pre.dis 0 2 (by decide) b1 hbF1 (hF2 c b1 hc)
        refine (ins_end (some ⟨b1,0,none⟩) xs.length cap1 ys.length (some ⟨b2,0,none⟩) cap2 w _ _ hm hlc1 (.inl ⟨b1,rfl⟩) hr).mono ?_
        rintro e w' ⟨rfl,rfl⟩
        obtain ⟨val,Pr',Gs,Os,us,hv,hp⟩:=fin_row pre elz hFs hob3 (cap:=cap1) (by rw[hw1,Nat.mul_one];omega) (by rw[hlz];exact hroom) htake (.inr ⟨0,hbF1⟩) hFBb (fun b' _ hb'=>setCells_other cells2 _ w b' hb') (by rw[setCells_size];exact Nat.le_refl _) (by rw[setCells_size];exact pre.lim 0 b1 hbF1) hrest.1 hrest.2.1 hrest.2.2 () (houts _ _ _ _)
        exact ⟨val,Pr',Gs,Os,us,by rw[←hv,hlz],hp⟩
      · have hg:cap1<xs.length+ys.length:=by omega
        have hn2d:(Builtin.firstCells i0.size ys.length (.slice (some ⟨b2,0,none⟩) ys.length cap2)).run Try.prog w.drew=.ok cells2.toArray w.drew:=by
          rw[hs0]
          exact first_ok (by rw[hl2',Nat.mul_one]) (.inr ⟨b2,0,rfl,rangeAt_drew (by rw[hcells2];exact rangeAt_sub hbo2.blk (by omega))⟩)
        have hn1d:(Builtin.firstCells i0.size xs.length (.slice ad1 xs.length cap1)).run Try.prog w.drew=.ok cells1.toArray w.drew:=by
          rw[hs0]
          refine first_ok (by rw[hl1',Nat.mul_one]) ?_
          rcases hsrc1 with ⟨h1,h2⟩ | ⟨b,o,cs,h1,h2,h3,h4⟩
          · exact .inl ⟨h1,h2⟩
          · exact .inr ⟨b,o,h1,rangeAt_drew (h4 ▸ rangeAt_sub h2 h3)⟩
        have hfit:Builtin.nextslicecap (xs.length+ys.length) cap1 * i0.bytes≤281474976710656:=by
          have:=Room.nextslicecap_le' (need:=xs.length+ys.length) (old:=cap1) hg
          rw[hb0];omega
        have hr:=fun ty=>run_app_grow (P:=Try.prog) w (ats:=#[67,67]) (ty:=ty) rfl rfl u67 u67 hi0 hz0 hn2d hn1d hg (by omega) hfit
        have hge:=grownCap_ge w (xs.length+ys.length) cap1 38
        generalize grownCap w (xs.length+ys.length) cap1 38=cap' at hr hge
        have hzs:(Value.slice none 0 0).cells.size=1:=rfl
        have hcss:(cells1.toArray++cells2.toArray++Builtin.zeroCells (Value.slice none 0 0).cells (cap' - (xs.length+ys.length))).size=cap':=by
          simp only[Array.size_append,List.size_toArray,size_zeroCells,hzs,hl1',hl2'];omega
        have htk:(cells1.toArray++cells2.toArray++Builtin.zeroCells (Value.slice none 0 0).cells (cap' - (xs.length+ys.length))).toList.take (xs.length+ys.length)=cells1++cells2:=by
          simp only[Array.toList_append,List.append_assoc]
          rw[←List.append_assoc,List.take_append_of_le_length (by rw[List.length_append];omega),List.take_of_length_le (by rw[List.length_append];omega)]
        generalize cells1.toArray++cells2.toArray++Builtin.zeroCells (Value.slice none 0 0).cells (cap' - (xs.length+ys.length))=cs at hr hcss htk
        have h1a:(∃ b,ad1=some ⟨b,0,none⟩)∨(xs.length=0∧cap1=0):=by
          rcases hown1 0 _ rfl with hc0 | ⟨b1,cs1,rfl,_⟩
          · exact .inr ⟨by omega,hc0⟩
          · exact .inl ⟨b1,rfl⟩
        refine (ins_end ad1 xs.length cap1 ys.length (some ⟨b2,0,none⟩) cap2 w _ _ hm hlc1 h1a hr).mono ?_
        rintro e w' ⟨rfl,rfl⟩
        obtain ⟨val,Pr',Gs,Os,us,hv,hp⟩:=fin_row (w2:=w.drew.alloc (.cells cs 38)) pre elz hFs (B:=w.heap.size) (cs:=cs) OwnBlk.new (cap:=cap') (by rw[hw1,Nat.mul_one,hcss];exact Nat.le_refl _) (by rw[hlz];exact hge) (by rw[hw1,Nat.mul_one,hlz];exact htk) (.inl rfl)
          (fun t hb=>by obtain ⟨k,hk⟩:=hFs t _ hb;exact Nat.lt_irrefl _ (pre.lim k _ hk)) (fun b' hb1 _=>push_old b' hb1) (by show w.heap.size≤(w.heap.push _).size;simp) (by show w.heap.size<(w.heap.push _).size;simp) rfl rfl rfl () (houts _ _ _ _)
        exact ⟨val,Pr',Gs,Os,us,by rw[←hv,hlz],hp⟩
    · have hlt:i<xs.length:=by omega
      rcases hown1 0 _ rfl with hc0 | ⟨b1,cs1,rfl,hbF1,hbo1,hcapb1,hFb1,hcells1⟩
      · exact absurd hc0 (by omega)
      replace hcapb1:cap1≤cs1.size:=by rw[hw1,Nat.mul_one] at hcapb1;exact hcapb1
      replace hcells1:cells1=sub cs1 0 xs.length:=by rw[hcells1,hw1,Nat.mul_one]
      have hb12:b2≠b1:=fun e=>pre.dis 0 2 (by decide) b1 hbF1 (e ▸ hbF2)
      have hcd:cells1.drop i=sub cs1 i (xs.length - i):=by
        rw[hcells1]
        simp only[sub,List.drop_zero,List.drop_take]
      have hct:cells1.take i=cs1.toList.take i:=by
        rw[hcells1]
        simp only[sub,List.drop_zero,List.take_take]
        congr 1;omega
      have hdl:(cells1.drop i).length=xs.length - i:=by rw[List.length_drop,hl1']
      have honed:∀ u∈cells1.drop i,u.oneCell'=true:=fun u hu=>hone1 u (List.mem_of_mem_drop hu)
      have hFBb:∀ t,¬ FF t b1:=fun t hb=>by
        rcases hFF t b1 hb with ⟨c,hc⟩ | ⟨c,hc⟩
        · exact hFb1 c hc
        · exact pre.dis 0 2 (by decide) b1 hbF1 (hF2 c b1 hc)
      have hsz38:(Try.prog.info? 38).map (·.size)=some 1:=by rw[hi0];simp[hs0]
      have hel:cells1.take i++cells2++cells1.drop i=(cells1.take i++cells2++cells1.drop i):=rfl
      by_cases hroom:xs.length+ys.length≤cap1
      · have hov:∀ lb cb,(callFunc 174 #[.slice (some ⟨b2,0,none⟩) ys.length cap2,.slice (some ⟨b1,i+ys.length,none⟩) lb cb]).run Try.prog w=.ok (.value (.bool false)) w:=by
          intro lb cb
          obtain ⟨e2,lo2,hi2,he2,hf2⟩:=hbo2
          obtain ⟨e1,lo1,hi1,he1,hf1⟩:=hbo1
          have hnf:∀ k,k≤cs2.size→w.frozen? ⟨b2,k,none⟩=false:=fun k hk=>by
            have:=hf2 k hk
            simp only[World.frozen?,he2]
            simpa using this
          rw[run_callFunc_extern (P:=Try.prog) (f:=174) (fn:=Try.f174) Try.func174 (by kernel_rfl) (by kernel_rfl) (by kernel_rfl) (e:=Extern.SlicesOverlaps.overlaps #[67,67] #[4]) (by kernel_rfl),
            Lib.run_overlaps_apart w 67 4 38 u67 1 (fun w=>by simp[sizeOf,typeInfo,hi0,hs0]) ⟨b2,0,none⟩ ⟨b1,i+ys.length,none⟩ ys.length cap2 lb cb hb12 e2 e1 cs2.size cs1.size (by simp[World.shape?,he2]) (by simp[World.shape?,he1]) (by omega) (hnf 0 (by omega)) (hnf _ (Nat.le_refl _))]
          rfl
        have hfitA:i+ys.length+(cells1.drop i).length≤cs1.size:=by rw[hdl];omega
        have thA:=there_own (w:=w) (o:=i+ys.length) (n:=(cells1.drop i).length) hbo1 hfitA
        have hB:∀ ty dc sc,(Builtin.copy_ #[67,67] ty #[.slice (some ⟨b1,i+ys.length,none⟩) (xs.length+ys.length - (i+ys.length)) dc,.slice (some ⟨b1,i,none⟩) (xs.length+ys.length - i) sc]).run Try.prog w.drew=.ok (goInt (cells1.drop i).length) (w.drew.setCells b1 (i+ys.length) (cells1.drop i)):=fun ty dc sc=>
          run_copy_cells w.drew 67 67 ty 38 b1 (i+ys.length) _ dc ⟨b1,i,none⟩ _ sc (cells1.drop i) u67 hsz38 (by rw[hdl];simp only[Nat.min_def];split<;>omega)
            (fun k v hk=>by rw[Addr.add_mid];exact rangeAt_drew (w:=w) (b:=b1) (o:=i) (cs:=cells1.drop i) (by rw[hcd];exact rangeAt_sub hbo1.blk (by omega)) k v hk) (fun k hk=>(thA k hk).1) (fun k hk=>(thA k hk).2) honed
        have hbo1':=hbo1
        obtain ⟨ty,lo,hi',he,hfz⟩:=hbo1
        obtain ⟨cs3,hcs3,hcs3l⟩:=setCells_at (cells1.drop i) (i+ys.length) w.drew cs1 he hfitA
        have hsz3:cs3.size=cs1.size:=by rw[←Array.length_toList,hcs3l,repl_length (by simpa using hfitA),Array.length_toList]
        have hob3:OwnBlk (w.drew.setCells b1 (i+ys.length) (cells1.drop i)).heap b1 cs3:=⟨ty,lo,hi',hcs3,fun t ht=>hfz t (by omega)⟩
        have hfitB:i+cells2.length≤cs3.size:=by omega
        have thB:=there_own (w:=w.drew.setCells b1 (i+ys.length) (cells1.drop i)) (o:=i) (n:=cells2.length) hob3 hfitB
        have hr2:(w.drew.setCells b1 (i+ys.length) (cells1.drop i)).rangeAt b2 0 cells2:=by
          rw[hcells2]
          exact rangeAt_sub (Blk.congr hbo2.blk (setCells_other (cells1.drop i) _ w.drew b2 hb12)) (by omega)
        have hC:∀ ty dc,(Builtin.copy_ #[67,67] ty #[.slice (some ⟨b1,i,none⟩) (xs.length+ys.length - i) dc,.slice (some ⟨b2,0,none⟩) ys.length cap2]).run Try.prog (w.drew.setCells b1 (i+ys.length) (cells1.drop i))=.ok (goInt cells2.length) ((w.drew.setCells b1 (i+ys.length) (cells1.drop i)).setCells b1 i cells2):=fun ty dc=>
          run_copy_cells _ 67 67 ty 38 b1 i _ dc ⟨b2,0,none⟩ _ cap2 cells2 u67 hsz38 (by rw[hl2'];simp only[Nat.min_def];split<;>omega)
            (fun k v hk=>by rw[Addr.add_mid];exact hr2 k v hk) (fun k hk=>(thB k hk).1) (fun k hk=>(thB k hk).2) hone2
        obtain ⟨cs4,hcs4,hcs4l⟩:=setCells_at cells2 i _ cs3 hcs3 hfitB
        have hsz4:cs4.size=cs3.size:=by rw[←Array.length_toList,hcs4l,repl_length (by simpa using hfitB),Array.length_toList]
        have hob4:OwnBlk ((w.drew.setCells b1 (i+ys.length) (cells1.drop i)).setCells b1 i cells2).heap b1 cs4:=⟨ty,lo,hi',hcs4,fun t ht=>hfz t (by omega)⟩
        have h7:cs1.toList.length=cs1.size:=Array.length_toList
        have htake:cs4.toList.take ((xs.take i++ys++xs.drop i).length * TRow.width)=cells1.take i++cells2++cells1.drop i:=by
          have e:=repl2 (l:=cs1.toList) (D:=cells1.drop i) (C:=cells2) (i:=i) (m:=ys.length) hl2' (by rw[h7];exact hfitA)
          rw[hw1,Nat.mul_one,hlz,hcs4l,hcs3l,hct]
          rw[show xs.length+ys.length=i+ys.length+(cells1.drop i).length by rw[hdl];omega]
          exact e
        have hrest1:=setCells_rest (b:=b1) (cells1.drop i) (i+ys.length) w.drew
        have hrest2:=setCells_rest (b:=b1) cells2 i (w.drew.setCells b1 (i+ys.length) (cells1.drop i))
        have hsize:((w.drew.setCells b1 (i+ys.length) (cells1.drop i)).setCells b1 i cells2).heap.size=w.heap.size:=by rw[setCells_size,setCells_size];rfl
        refine (ins_shift b1 xs.length cap1 i ys.length ⟨b2,0,none⟩ cap2 w _ _ _ _ hlt hm hroom (by omega) hov hB hC).mono ?_
        rintro e w' ⟨rfl,rfl⟩
        obtain ⟨val,Pr',Gs,Os,us,hv,hp⟩:=fin_row pre elz hFs hob4 (cap:=cap1) (by rw[hw1,Nat.mul_one];omega) (by rw[hlz];exact hroom) htake (.inr ⟨0,hbF1⟩) hFBb
          (fun b' _ hb'=>(setCells_other cells2 _ _ b' hb').trans (setCells_other (cells1.drop i) _ w.drew b' hb')) (by rw[hsize];exact Nat.le_refl _) (by rw[hsize];exact pre.lim 0 b1 hbF1) (hrest2.1.trans hrest1.1) (hrest2.2.1.trans hrest1.2.1) (hrest2.2.2.trans hrest1.2.2) () (houts _ _ _ _)
        exact ⟨val,Pr',Gs,Os,us,by rw[←hv,hlz],hp⟩
      · have hg:cap1<xs.length+ys.length:=by omega
        obtain ⟨K,hK⟩:∃ K,K=xs.length+ys.length - i:=⟨_,rfl⟩
        have hKi:i+K=xs.length+ys.length:=by omega
        have hn1d:(Builtin.firstCells i0.size i (.slice (some ⟨b1,0,none⟩) i cap1)).run Try.prog w.drew=.ok (cells1.take i).toArray w.drew:=by
          rw[hs0]
          refine first_ok (by rw[List.length_take,hl1',Nat.mul_one];omega) (.inr ⟨b1,0,rfl,rangeAt_drew ?_⟩)
          have e:cells1.take i=sub cs1 0 i:=by rw[hct];simp only[sub,List.drop_zero]
          rw[e];exact rangeAt_sub hbo1.blk (by omega)
        have hfit:Builtin.nextslicecap (i+K) cap1 * i0.bytes≤281474976710656:=by
          have:=Room.nextslicecap_le' (need:=i+K) (old:=cap1) (by omega)
          rw[hb0];omega
        have hr:=fun ty=>Lib.run_append_grow_zeros (P:=Try.prog) w 67 3 ty 38 i0 _ .i64 .i64 u67 u3 hi0 hz0 (some ⟨b1,0,none⟩) i cap1 (cells1.take i) hn1d K (by omega) (by omega) (by omega) (by omega) (by rw[hb0];omega) hfit
        have hge:=grownCap_ge w (i+K) cap1 38
        generalize grownCap w (i+K) cap1 38=cap' at hr hge
        have hzs:(Value.slice none 0 0).cells.size=1:=rfl
        have hcss:((cells1.take i).toArray++Builtin.zeroCells (Value.slice none 0 0).cells K++Builtin.zeroCells (Value.slice none 0 0).cells (cap' - (i+K))).size=cap':=by
          simp only[Array.size_append,List.size_toArray,size_zeroCells,hzs,List.length_take,hl1'];omega
        have htk:((cells1.take i).toArray++Builtin.zeroCells (Value.slice none 0 0).cells K++Builtin.zeroCells (Value.slice none 0 0).cells (cap' - (i+K))).toList.take i=cells1.take i:=by
          simp only[Array.toList_append,List.append_assoc]
          rw[List.take_append_of_le_length (by rw[List.length_take,hl1'];omega),List.take_of_length_le (by rw[List.length_take,hl1'];omega)]
        generalize (cells1.take i).toArray++Builtin.zeroCells (Value.slice none 0 0).cells K++Builtin.zeroCells (Value.slice none 0 0).cells (cap' - (i+K))=cs0 at hr hcss htk
        rw[hKi] at hr hge
        have hKI:((K:Nat):Int)=(xs.length:Int)+(ys.length:Int) - (i:Int):=by omega
        rw[hKI] at hr
        have hob0:OwnBlk (w.drew.alloc (.cells cs0 38)).heap w.heap.size cs0:=OwnBlk.new
        have hb1lt:=pre.lim 0 b1 hbF1
        have hb2lt:=pre.lim 2 b2 hbF2
        have hb1B:b1≠w.heap.size:=by omega
        have hb2B:b2≠w.heap.size:=by omega
        have hold:∀ b',b'<w.heap.size→(w.drew.alloc (.cells cs0 38)).heap[b']? = w.heap[b']?:=fun b' hb'=>push_old b' hb'
        have hfitA:i+cells2.length≤cs0.size:=by omega
        have thA:=there_own (w:=w.drew.alloc (.cells cs0 38)) (o:=i) (n:=cells2.length) hob0 hfitA
        have hr2:(w.drew.alloc (.cells cs0 38)).rangeAt b2 0 cells2:=by
          rw[hcells2]
          exact rangeAt_sub (Blk.congr hbo2.blk (hold b2 hb2lt)) (by omega)
        have hB:∀ ty,(Builtin.copy_ #[67,67] ty #[.slice (some ⟨w.heap.size,i,none⟩) (xs.length+ys.length - i) (cap' - i),.slice (some ⟨b2,0,none⟩) ys.length cap2]).run Try.prog (w.drew.alloc (.cells cs0 38))=.ok (goInt cells2.length) ((w.drew.alloc (.cells cs0 38)).setCells w.heap.size i cells2):=fun ty=>
          run_copy_cells _ 67 67 ty 38 w.heap.size i _ _ ⟨b2,0,none⟩ _ cap2 cells2 u67 hsz38 (by rw[hl2'];simp only[Nat.min_def];split<;>omega)
            (fun k v hk=>by rw[Addr.add_mid];exact hr2 k v hk) (fun k hk=>(thA k hk).1) (fun k hk=>(thA k hk).2) hone2
        obtain ⟨ty,lo,hi',he,hfz⟩:=hob0
        obtain ⟨cs3,hcs3,hcs3l⟩:=setCells_at cells2 i (w.drew.alloc (.cells cs0 38)) cs0 he hfitA
        have h7:cs0.toList.length=cs0.size:=Array.length_toList
        have hsz3:cs3.size=cs0.size:=by rw[←Array.length_toList,hcs3l,repl_length (by simpa using hfitA),Array.length_toList]
        have hob3:OwnBlk ((w.drew.alloc (.cells cs0 38)).setCells w.heap.size i cells2).drew.heap w.heap.size cs3:=⟨ty,lo,hi',hcs3,fun t ht=>hfz t (by omega)⟩
        have hfitB:i+ys.length+(cells1.drop i).length≤cs3.size:=by rw[hdl];omega
        have thB:=there_own (w:=((w.drew.alloc (.cells cs0 38)).setCells w.heap.size i cells2).drew) (o:=i+ys.length) (n:=(cells1.drop i).length) hob3 hfitB
        have hr1:((w.drew.alloc (.cells cs0 38)).setCells w.heap.size i cells2).drew.rangeAt b1 i (cells1.drop i):=by
          rw[hcd]
          exact rangeAt_drew (rangeAt_sub (Blk.congr hbo1.blk ((setCells_other cells2 _ _ b1 hb1B).trans (hold b1 hb1lt))) (by omega))
        have hC:∀ ty,(Builtin.copy_ #[67,67] ty #[.slice (some ⟨w.heap.size,i+ys.length,none⟩) (xs.length+ys.length - (i+ys.length)) (cap' - (i+ys.length)),.slice (some ⟨b1,i,none⟩) (xs.length - i) (cap1 - i)]).run Try.prog ((w.drew.alloc (.cells cs0 38)).setCells w.heap.size i cells2).drew=.ok (goInt (cells1.drop i).length) (((w.drew.alloc (.cells cs0 38)).setCells w.heap.size i cells2).drew.setCells w.heap.size (i+ys.length) (cells1.drop i)):=fun ty=>
          run_copy_cells _ 67 67 ty 38 w.heap.size (i+ys.length) _ _ ⟨b1,i,none⟩ _ _ (cells1.drop i) u67 hsz38 (by rw[hdl];simp only[Nat.min_def];split<;>omega)
            (fun k v hk=>by rw[Addr.add_mid];exact hr1 k v hk) (fun k hk=>(thB k hk).1) (fun k hk=>(thB k hk).2) honed
        obtain ⟨cs4,hcs4,hcs4l⟩:=setCells_at (cells1.drop i) (i+ys.length) ((w.drew.alloc (.cells cs0 38)).setCells w.heap.size i cells2).drew cs3 hcs3 hfitB
        have hsz4:cs4.size=cs3.size:=by rw[←Array.length_toList,hcs4l,repl_length (by simpa using hfitB),Array.length_toList]
        have hob4:OwnBlk (((w.drew.alloc (.cells cs0 38)).setCells w.heap.size i cells2).drew.setCells w.heap.size (i+ys.length) (cells1.drop i)).heap w.heap.size cs4:=⟨ty,lo,hi',hcs4,fun t ht=>hfz t (by omega)⟩
        have htake:cs4.toList.take ((xs.take i++ys++xs.drop i).length * TRow.width)=cells1.take i++cells2++cells1.drop i:=by
          have e:=repl3 (l:=cs0.toList) (D:=cells1.drop i) (C:=cells2) (i:=i) (m:=ys.length) hl2' (by rw[h7];omega)
          rw[hw1,Nat.mul_one,hlz,hcs4l,hcs3l,←htk]
          rw[show xs.length+ys.length=i+ys.length+(cells1.drop i).length by rw[hdl];omega]
          exact e
        have hrest1:=setCells_rest (b:=w.heap.size) cells2 i (w.drew.alloc (.cells cs0 38))
        have hrest2:=setCells_rest (b:=w.heap.size) (cells1.drop i) (i+ys.length) ((w.drew.alloc (.cells cs0 38)).setCells w.heap.size i cells2).drew
        have hsize:(((w.drew.alloc (.cells cs0 38)).setCells w.heap.size i cells2).drew.setCells w.heap.size (i+ys.length) (cells1.drop i)).heap.size=w.heap.size+1:=by
          rw[setCells_size]
          show ((w.drew.alloc (.cells cs0 38)).setCells w.heap.size i cells2).heap.size=_
          rw[setCells_size];show (w.heap.push _).size=_;simp
        refine (ins_grow b1 xs.length cap1 i ys.length ⟨b2,0,none⟩ cap2 w.heap.size cap' w _ _ _ _ _ hlt hm hlc1 hg hge (by omega) hr hB hC).mono ?_
        rintro e w' ⟨rfl,rfl⟩
        obtain ⟨val,Pr',Gs,Os,us,hv,hp⟩:=fin_row pre elz hFs hob4 (cap:=cap') (by rw[hw1,Nat.mul_one];omega) (by rw[hlz];exact hge) htake (.inl rfl)
          (fun t hb=>by obtain ⟨k,hk⟩:=hFs t _ hb;exact Nat.lt_irrefl _ (pre.lim k _ hk))
          (fun b' hb1 hb'=>(setCells_other (cells1.drop i) _ _ b' hb').trans ((setCells_other cells2 _ _ b' hb').trans (hold b' hb1))) (by rw[hsize];omega) (by rw[hsize];omega) (hrest2.1.trans hrest1.1) (hrest2.2.1.trans hrest1.2.1) (hrest2.2.2.trans hrest1.2.2) () (houts _ _ _ _)
        exact ⟨val,Pr',Gs,Os,us,by rw[←hv,hlz],hp⟩
  · simp at h
end Go.V

namespace Go.V
set_option maxRecDepth 100000
open Go Go.Proofs Go.RowKit
def delA (a:PDen SigD.params):Option (RDen SigD.res×ODen SigD.params):=(delD a.1 a.2.1 a.2.2.1).map fun r=>((r,()),())
def insA (a:PDen SigI.params):Option (RDen SigI.res×ODen SigI.params):=(insD a.1 a.2.1 a.2.2.1).map fun r=>((r,()),())
def cmpA (a:PDen SigC.params):Option (RDen SigC.res×ODen SigC.params):=some ((scmp a.1 a.2.1,()),())
noncomputable def insDen:Den ctx:=fun g a=>
  if h:g=187 then tellS (f:=g) (by rw[h];exact sigC) cmpA a else
  if h:g=132 then tellS (f:=g) (by rw[h];exact sigI) insA a else
  if h:g=139 then tellS (f:=g) (by rw[h];exact sigD) delA a else none
theorem insDen_187:insDen 187=tellS sigC cmpA:=by
  funext a
  simp only[insDen,dif_pos]
theorem insDen_132:insDen 132=tellS sigI insA:=by
  funext a
  simp only[insDen,dif_pos,dif_neg (show ¬ (132:Nat)=187 by decide)]
theorem insDen_139:insDen 139=tellS sigD delA:=by
  funext a
  simp only[insDen,dif_pos,dif_neg (show ¬ (139:Nat)=187 by decide),dif_neg (show ¬ (139:Nat)=132 by decide)]
def isIns (f:FuncId):Bool:=f.beq 187||(f.beq 132||f.beq 139)
theorem isIns_or {f:FuncId} (h:isIns f=true):f=187∨f=132∨f=139:=by
  simp only[isIns,Bool.or_eq_true] at h
  rcases h with h | h | h
  · exact .inl (Nat.eq_of_beq_eq_true h)
  · exact .inr (.inl (Nat.eq_of_beq_eq_true h))
  · exact .inr (.inr (Nat.eq_of_beq_eq_true h))
theorem ins_callable:Callable Try.prog 132:=⟨Try.f132,Try.func132,by decide +kernel,rfl⟩
theorem del_callable:Callable Try.prog 139:=⟨Try.f139,Try.func139,by decide +kernel,rfl⟩
noncomputable def insExt:Ext where
  den:=insDen
  is:=isIns
  ok:=fun f hf=>by
    rcases isIns_or hf with rfl | rfl | rfl
    · exact fnOk_of sigC insDen_187 cmp_ok
    · exact fnOk_of sigI insDen_132 ins_ok
    · exact fnOk_of sigD insDen_139 del_ok
  call:=fun f a r hf _=>by
    rcases isIns_or hf with rfl | rfl | rfl
    · exact cmp_callable
    · exact ins_callable
    · exact del_callable
theorem tellC (a b:ByteArray):tellS sigC cmpA (a,b,())=cmpA (a,b,()):=by kernel_rfl
theorem tellI (xs:List TRow.den) (i:Int) (ys:List TRow.den):tellS sigI insA (xs,i,ys,())=insA (xs,i,ys,()):=by kernel_rfl
theorem tellD (xs:List TRow.den) (i j:Int):tellS sigD delA (xs,i,j,())=delA (xs,i,j,()):=by kernel_rfl
theorem ins_cmp (n:Nat) (a b:ByteArray):DD insExt (n+1) 187 (a,b,())=some ((scmp a b,()),()):=
  (DD_ext insExt (g:=187) rfl n (a,b,())).trans ((congrFun insDen_187 (a,b,())).trans (tellC a b))
theorem ins_ins (n:Nat) (xs:List TRow.den) (i:Int) (ys:List TRow.den):DD insExt (n+1) 132 (xs,i,ys,())=insA (xs,i,ys,()):=
  (DD_ext insExt (g:=132) rfl n (xs,i,ys,())).trans ((congrFun insDen_132 (xs,i,ys,())).trans (tellI xs i ys))
theorem ins_del (n:Nat) (xs:List TRow.den) (i j:Int):DD insExt (n+1) 139 (xs,i,j,())=delA (xs,i,j,()):=
  (DD_ext insExt (g:=139) rfl n (xs,i,j,())).trans ((congrFun insDen_139 (xs,i,j,())).trans (tellD xs i j))
end Go.V

namespace Go.G
set_option maxRecDepth 100000
open Go Go.V Go.Proofs
structure XI (X:Ext):Prop extends XC X where
  ins:∀ n xs i ys,C_slices_Insert_impl_Value_impl_Value (DD X (n+1)) xs i ys=(insD xs i ys).map fun r=>((r,()),())
  del:∀ n xs i j,C_slices_Delete_impl_Value_impl_Value (DD X (n+1)) xs i j=(delD xs i j).map fun r=>((r,()),())
theorem insExt_ok:XI insExt where
  ok:=fun k h=>by
    simp only[Bool.or_eq_false_iff] at h
    show isIns k=false
    simp only[isIns,Bool.or_eq_false_iff]
    exact ⟨h.2,h.1.1.1,h.1.1.2⟩
  cmp:=ins_cmp
  ins:=fun n xs i ys=>ins_ins n xs i ys
  del:=fun n xs i j=>ins_del n xs i j
theorem rel_eta (a:Rel):(((a.1.1,a.1.2.1,a.1.2.2.1,()),a.2.1,()):Rel)=a:=rfl
theorem sch_eta (a:Schema):((a.1,a.2.1,a.2.2.1,()):Schema)=a:=rfl
theorem clo_ins1 (D:Den ctx) (r:Rel) (row x:Row):applyClo ctx D (Clo.mk 129 [CapV.rptr (Ty.pair (Ty.pair (Ty.sl (Ty.pair Ty.str (Ty.pair (Ty.int IntKind.i64) (Ty.pair Ty.bool Ty.unit)))) (Ty.pair (Ty.sl (Ty.int IntKind.i64)) (Ty.pair (Ty.sl (Ty.pair Ty.str (Ty.pair (Ty.sl (Ty.int IntKind.i64)) (Ty.pair Ty.bool Ty.unit)))) Ty.unit))) (Ty.pair (Ty.sl (Ty.sl (Ty.pair (Ty.int IntKind.i64) (Ty.pair (Ty.int IntKind.i64) (Ty.pair Ty.str Ty.unit))))) Ty.unit)) r,CapV.rptr (Ty.sl (Ty.pair (Ty.int IntKind.i64) (Ty.pair (Ty.int IntKind.i64) (Ty.pair Ty.str Ty.unit)))) row]) [CapV.val (Ty.sl (Ty.pair (Ty.int IntKind.i64) (Ty.pair (Ty.int IntKind.i64) (Ty.pair Ty.str Ty.unit)))) x] Ty.bool=(C_impl_Insert_1 D x r row).bind fun q=>some q.1.1:=by kernel_rfl
theorem clo_ins2 (D:Den ctx) (r:Rel) (key x:Row):applyClo ctx D (Clo.mk 131 [CapV.rptr (Ty.sl (Ty.pair (Ty.int IntKind.i64) (Ty.pair (Ty.int IntKind.i64) (Ty.pair Ty.str Ty.unit)))) key,CapV.rptr (Ty.pair (Ty.pair (Ty.sl (Ty.pair Ty.str (Ty.pair (Ty.int IntKind.i64) (Ty.pair Ty.bool Ty.unit)))) (Ty.pair (Ty.sl (Ty.int IntKind.i64)) (Ty.pair (Ty.sl (Ty.pair Ty.str (Ty.pair (Ty.sl (Ty.int IntKind.i64)) (Ty.pair Ty.bool Ty.unit)))) Ty.unit))) (Ty.pair (Ty.sl (Ty.sl (Ty.pair (Ty.int IntKind.i64) (Ty.pair (Ty.int IntKind.i64) (Ty.pair Ty.str Ty.unit))))) Ty.unit)) r]) [CapV.val (Ty.sl (Ty.pair (Ty.int IntKind.i64) (Ty.pair (Ty.int IntKind.i64) (Ty.pair Ty.str Ty.unit)))) x] Ty.bool=(C_impl_Insert_2 D x key r).bind fun q=>some q.1.1:=by kernel_rfl
theorem place_same {r:Rel} {key:Row} (hk:∀ x∈r.2.1,project x r.1.2.1≠key):(match firstFrom (fun i=>tlt key (project (r.2.1.getD i []) r.1.2.1)) 0 r.2.1.length with | some j=>j | none=>r.2.1.length)=insPos r key:=by
  have e:firstFrom (fun i=>tlt key (project (r.2.1.getD i []) r.1.2.1)) 0 r.2.1.length=firstFrom (fun i=>!tlt (project (r.2.1.getD i []) r.1.2.1) key) 0 r.2.1.length:=by
    refine firstFrom_congr fun i _ hi=>?_
    have hi:i<r.2.1.length:=by omega
    show tlt key (project (r.2.1.getD i []) r.1.2.1)=!tlt (project (r.2.1.getD i []) r.1.2.1) key
    rcases tlt_total key (project (r.2.1.getD i []) r.1.2.1) with h | h | h
    · rw[h,tlt_asymm h];rfl
    · exact absurd h.symm (hk _ (getD_mem hi))
    · rw[h,tlt_asymm h];rfl
  refine (congrArg (fun z:Option Nat=>match z with | some j=>j | none=>r.2.1.length) e).trans ?_
  unfold insPos
  generalize firstFrom (fun i=>!tlt (project (r.2.1.getD i []) r.1.2.1) key) 0 r.2.1.length=z
  cases z with
  | some j=>exact rfl
  | none=>exact rfl
theorem insertR_def {r:Rel} {row:Row} (hok:relOk r=true) (hrow:rowOk r.1 row=true) (hk:keyAt r (project row r.1.2.1)=none) (ho:others r row (-1)=false) (hl:¬ (r.2.1.length:Int)≥12):insertR r row=(put r row,0):=by
  unfold insertR
  rw[if_pos ⟨hok,hrow⟩,hk]
  dsimp only
  rw[ho,if_neg Bool.noConfusion,if_neg hl]
  rfl
theorem c_implInsert {X:Ext} (hX:XI X) {n:Nat} (hn:W+12≤n) (r:Rel) (hr:RelSm r) (row:Row) (hw:row.length≤M):C_impl_Insert (DD X n) r row=some (((insertR r row).1,(insertR r row).2,()),()):=by
  obtain ⟨n,rfl⟩:∃ k,n=k+2:=⟨n - 2,by omega⟩
  have hM:=M_def
  have hb:=bound_def
  have hd:=maxLen_def
  have hW:=W_def
  have h2:=hr.rows
  have hkl:=hr.sch.key
  rw[S_impl_Insert hX.ok]
  simp only[F_impl_Insert,impl_Insert_e]
  have e1:=c_copyRelation hX.ok (n:=n+1) (by omega) r hr
  have e2:=c_implRelOk hX.toXC (n:=n+1) (by omega) r hr
  have e3:=c_implRowOk hX.ok (n:=n+1) (by omega) r.1 hr.sch row hw
  have e4:=c_implKeyOfRow hX.ok (n:=n+1) (by omega) r.1 row hw hkl
  have e5:=c_keyAt hX.ok (n:=n+1) (by omega) r hr (project row r.1.2.1)
  rw[e1,bindD_some]
  dsimp only
  simp only[rel_eta,sch_eta]
  rw[e4,bindD_some]
  dsimp only
  rw[e2,bindD_some]
  dsimp only
  have hins:insertR r row=insertR r row:=rfl
  cases hok:relOk r
  · have:insertR r row=(r,1):=by unfold insertR;rw[if_neg (fun h=>by rw[hok] at h;cases h.1)]
    rw[this];rfl
  · rw[Bool.not_true,br_f,e3,bindD_some]
    dsimp only
    cases hrow:rowOk r.1 row
    · have:insertR r row=(r,1):=by unfold insertR;rw[if_neg (fun h=>by rw[hrow] at h;cases h.2)]
      rw[this];rfl
    · rw[Bool.not_true,br_f,e5,bindD_some]
      dsimp only
      cases hk:keyAt r (project row r.1.2.1) with
      | some j=>
        have:insertR r row=(r,2):=by unfold insertR;rw[if_pos ⟨hok,hrow⟩,hk]
        dsimp only
        rw[this,br_pos (show (j:Int)≥0 by omega)]
      | none=>
        dsimp only
        rw[br_neg (by decide)]
        have e6:=c_someRow hX.ok (n:=n+1) (by omega) r.2.1 (by omega) (Clo.mk 129 [CapV.rptr (Ty.pair (Ty.pair (Ty.sl (Ty.pair Ty.str (Ty.pair (Ty.int IntKind.i64) (Ty.pair Ty.bool Ty.unit)))) (Ty.pair (Ty.sl (Ty.int IntKind.i64)) (Ty.pair (Ty.sl (Ty.pair Ty.str (Ty.pair (Ty.sl (Ty.int IntKind.i64)) (Ty.pair Ty.bool Ty.unit)))) Ty.unit))) (Ty.pair (Ty.sl (Ty.sl (Ty.pair (Ty.int IntKind.i64) (Ty.pair (Ty.int IntKind.i64) (Ty.pair Ty.str Ty.unit))))) Ty.unit)) r,CapV.rptr (Ty.sl (Ty.pair (Ty.int IntKind.i64) (Ty.pair (Ty.int IntKind.i64) (Ty.pair Ty.str Ty.unit)))) row]) (fun k=>!decide ((k:Int) = -1)&&clash r.1 (r.2.1.getD k []) row) (fun k hk2=>by
          obtain ⟨n,rfl⟩:∃ k,n=k+2:=⟨n - 2,by omega⟩
          rw[clo_ins1,show n+2+1 - 2=n+1 from rfl,S_impl_Insert_1 hX.ok]
          simp only[F_impl_Insert_1,impl_Insert_1_e]
          rw[c_implClash hX.ok (by omega) r.1 hr.sch row _ hw (hr.row _ (getD_mem hk2)) (rowOk_vals hrow),bindD_some,clash_symm,decide_eq_false (show ¬ (k:Int) = -1 by omega)]
          rfl)
        rw[e6,bindD_some]
        dsimp only
        cases ho:others r row (-1)
        · have ho2:anyFrom (fun k=>!decide ((k:Int) = -1)&&clash r.1 (r.2.1.getD k []) row) 0 r.2.1.length=false:=ho
          rw[ho2,br_f]
          have h12:r.2.1.length≤12:=((relOk_iff r).1 hok).2.1
          by_cases hl:(r.2.1.length:Int)=12
          · have:insertR r row=(r,5):=by
              unfold insertR
              rw[if_pos ⟨hok,hrow⟩,hk]
              dsimp only
              rw[ho,if_neg Bool.noConfusion,if_pos (by omega)]
            rw[br_pos hl,this]
          · rw[br_neg hl,insertR_def hok hrow hk ho (by omega)]
            have hkn:=keyAt_none hk
            have hle:=insPos_le r (project row r.1.2.1)
            have hpl:=place_same hkn
            have e7:=c_idxRow hX.ok (n:=n+1) (by omega) r.2.1 (by omega) (Clo.mk 131 [CapV.rptr (Ty.sl (Ty.pair (Ty.int IntKind.i64) (Ty.pair (Ty.int IntKind.i64) (Ty.pair Ty.str Ty.unit)))) (project row r.1.2.1),CapV.rptr (Ty.pair (Ty.pair (Ty.sl (Ty.pair Ty.str (Ty.pair (Ty.int IntKind.i64) (Ty.pair Ty.bool Ty.unit)))) (Ty.pair (Ty.sl (Ty.int IntKind.i64)) (Ty.pair (Ty.sl (Ty.pair Ty.str (Ty.pair (Ty.sl (Ty.int IntKind.i64)) (Ty.pair Ty.bool Ty.unit)))) Ty.unit))) (Ty.pair (Ty.sl (Ty.sl (Ty.pair (Ty.int IntKind.i64) (Ty.pair (Ty.int IntKind.i64) (Ty.pair Ty.str Ty.unit))))) Ty.unit)) r]) (fun i=>tlt (project row r.1.2.1) (project (r.2.1.getD i []) r.1.2.1)) (fun i hi=>by
              have l1:=project_len row r.1.2.1
              obtain ⟨n,rfl⟩:∃ k,n=k+1:=⟨n - 1,by omega⟩
              rw[clo_ins2,show n+1+1 - 1=n+1 from rfl,S_impl_Insert_2 hX.ok]
              simp only[F_impl_Insert_2,impl_Insert_2_e]
              rw[c_implKeyOfRow hX.ok (by omega) r.1 _ (hr.row _ (getD_mem hi)) hkl,bindD_some]
              dsimp only
              rw[c_implTupleLess hX.toXC (by omega) _ _ (by omega),bindD_some]
              rfl)
            rw[e7,bindD_some]
            dsimp only
            have hput:∀ p:Nat,p=insPos r (project row r.1.2.1)→insD r.2.1 (p:Int) [row]=some (put r row).2.1:=fun p hp=>by
              subst hp
              unfold insD
              rw[if_pos ⟨by omega,by omega,by simp,by simp;omega⟩,Int.toNat_natCast]
              rfl
            cases hf:firstFrom (fun i=>tlt (project row r.1.2.1) (project (r.2.1.getD i []) r.1.2.1)) 0 r.2.1.length with
            | none=>
              rw[hf] at hpl
              dsimp only at hpl ⊢
              rw[br_pos (by decide),c_cloneRow hX.ok (by omega) row (by omega),bindD_some,hX.ins]
              dsimp only
              rw[hput _ hpl]
              rfl
            | some j=>
              rw[hf] at hpl
              dsimp only at hpl ⊢
              rw[br_neg (by omega),c_cloneRow hX.ok (by omega) row (by omega),bindD_some,hX.ins]
              dsimp only
              rw[hput _ hpl]
              rfl
        · have ho2:anyFrom (fun k=>!decide ((k:Int) = -1)&&clash r.1 (r.2.1.getD k []) row) 0 r.2.1.length=true:=ho
          have:insertR r row=(r,3):=by unfold insertR;rw[if_pos ⟨hok,hrow⟩,hk];dsimp only;rw[ho];rfl
          rw[ho2,br_t,this]
end Go.G

/- The row FnUnique holds: for all bytes the law returns true and the argument reads as before. No condition. -/
namespace Go.G
set_option linter.unusedVariables false
set_option linter.unusedSimpArgs false
set_option maxRecDepth 100000
open Go Go.V Go.Proofs

theorem c_hasNull {X:Ext} (hX:XOk X) {n:Nat} (hn:W+1≤n) (l:Row) (hl:l.length≤M):C_laws_hasNull (DD X n) l=some ((nullIn l,()),()):=by
  obtain ⟨n,rfl⟩:∃ k,n=k+1:=⟨n - 1,by omega⟩
  have hM:=M_def
  have hW:=W_def
  rw[S_laws_hasNull hX]
  simp only[F_laws_hasNull,laws_hasNull_e,laws_hasNull_LP0]
  refine Eq.trans (scan0 (L:=fun m i=>laws_hasNull_L0 (DD X n) n _ _ m l (i:Int)) (N:=l.length) (P:=fun j=>decide ((l.getD j vd).1=0))
    (A:=some ((true,()),())) (B:=some ((false,()),())) (fun m i hi=>?_) (m:=n) (by omega)) ?_
  · simp only[laws_hasNull_L0,laws_hasNull_b0]
    by_cases h:i<l.length
    · rw[br_pos (by exact_mod_cast h),ix h,br_t,Int.toNat_natCast,wrap_succ (by omega),if_pos h];rfl
    · rw[br_neg (by exact_mod_cast h),if_neg h];rfl
  · unfold nullIn
    cases anyFrom (fun j=>decide ((l.getD j vd).1=0)) 0 l.length<;>rfl
section
variable {X:Ext} (hX:XOk X) (N n:Nat) (hN:W+1≤N) (hn:W≤n) (a:Rel) (ha:RelSm a) (hok:relOk a=true)
include hX hN ha hok
theorem uniq_2 (K0:Bool→Int→Int→Rel→Index→Option ((Bool×Unit)×Unit)) (K1:Int→Int→Rel→Index→Option ((Bool×Unit)×Unit)) (i:Nat) (hi:i<a.1.2.2.1.length) (hu:(a.1.2.2.1.getD i xd).2.2.1=true) (j:Nat) (hj:j<a.2.1.length) :
    ∀ (m k:Nat),k≤j→j - k<m→laws_FnUnique_L2 (DD X N) n K0 K1 m (i:Int) (j:Int) (k:Int) a (a.1.2.2.1.getD i xd)=K1 (i:Int) (j:Int) a (a.1.2.2.1.getD i xd)
  | 0,_,_,h=>by omega
  | m+1,k,hk,hf=>by
    have hM:=M_def
    have hW:=W_def
    have h2:=ha.rows
    simp only[laws_FnUnique_L2,laws_FnUnique_b2]
    by_cases h:k<j
    · have hk2:k<a.2.1.length:=by omega
      have hc:=ha.sch.ixc _ (getD_mem (d:=xd) hi)
      have p1:=project_len (a.2.1.getD j []) (a.1.2.2.1.getD i xd).2.1
      rw[br_pos (by exact_mod_cast h),ix hj,br_t,Int.toNat_natCast,Int.toNat_natCast,c_implProject hX (by omega) _ (ha.row _ (getD_mem hj)) _ hc,bindD_some]
      dsimp only
      rw[ix hk2,br_t,c_implProject hX (by omega) _ (ha.row _ (getD_mem hk2)) _ hc,bindD_some]
      dsimp only
      rw[c_sameTuple hX (by omega) _ _ (by omega),bindD_some,wrap_succ (by omega)]
      dsimp only
      have hcl:clash a.1 (a.2.1.getD j []) (a.2.1.getD k [])=false:=by
        have:=((relOk_iff a).1 hok).2.2.2
        have:=(List.pairwise_iff_getElem.1 this k j hk2 hj h).2
        rw[clash_symm,getD_lt hj,getD_lt hk2];exact this
      have hca:=anyFrom_false.1 hcl i (by omega) (by omega)
      simp only[clashAt,hu,Bool.true_and] at hca
      have ih:=uniq_2 K0 K1 i hi hu j hj m (k+1) (by omega) (by omega)
      by_cases e:project (a.2.1.getD j []) (a.1.2.2.1.getD i xd).2.1=project (a.2.1.getD k []) (a.1.2.2.1.getD i xd).2.1
      · rw[decide_eq_true e,br_t,c_hasNull hX (by omega) _ (by omega),bindD_some]
        rw[decide_eq_true e,Bool.true_and] at hca
        dsimp only
        rw[hca,br_f];exact ih
      · rw[decide_eq_false e,br_f];exact ih
    · have:k=j:=by omega
      rw[br_neg (by exact_mod_cast h)]
include hn
theorem uniq_1 (K0:Int→Rel→Option ((Bool×Unit)×Unit)) (K1:Bool→Int→Rel→Option ((Bool×Unit)×Unit)) (i:Nat) (hi:i<a.1.2.2.1.length) :
    ∀ (m j:Nat),j≤a.2.1.length→a.2.1.length - j<m→laws_FnUnique_L1 (DD X N) n K0 K1 m (i:Int) (j:Int) a (a.1.2.2.1.getD i xd)=K0 (i:Int) a
  | 0,_,_,h=>by omega
  | m+1,j,hj,hf=>by
    have hM:=M_def
    have hW:=W_def
    have h2:=ha.rows
    simp only[laws_FnUnique_L1,laws_FnUnique_b1,cond_and]
    by_cases h:j<a.2.1.length
    · rw[decide_eq_true (show (j:Int)<a.2.1.length by omega),Bool.true_and]
      cases hu:(a.1.2.2.1.getD i xd).2.2.1
      · rw[br_f]
      · rw[br_t]
        simp only[laws_FnUnique_LP2]
        refine Eq.trans (uniq_2 hX N n hN a ha hok _ _ i hi hu j h n 0 (Nat.zero_le _) (by omega)) ?_
        simp only[laws_FnUnique_x2_1]
        rw[wrap_succ (by omega)]
        exact uniq_1 K0 K1 i hi m (j+1) (by omega) (by omega)
    · rw[decide_eq_false (show ¬ (j:Int)<a.2.1.length by omega),Bool.false_and,br_f]
theorem uniq_0 (K0:Option ((Bool×Unit)×Unit)) (K1:Bool→Option ((Bool×Unit)×Unit)) :
    ∀ (m i:Nat),i≤a.1.2.2.1.length→a.1.2.2.1.length - i<m→laws_FnUnique_L0 (DD X N) n K0 K1 m (i:Int) a=K0
  | 0,_,_,h=>by omega
  | m+1,i,hi,hf=>by
    have hM:=M_def
    have hW:=W_def
    have h3:=ha.sch.ixs
    have h2:=ha.rows
    simp only[laws_FnUnique_L0,laws_FnUnique_b0]
    by_cases h:i<a.1.2.2.1.length
    · rw[br_pos (by exact_mod_cast h),ix h,br_t,Int.toNat_natCast]
      simp only[laws_FnUnique_LP1]
      refine Eq.trans (uniq_1 hX N n hN hn a ha hok _ _ i h n 0 (Nat.zero_le _) (by omega)) ?_
      simp only[laws_FnUnique_x1_0]
      rw[wrap_succ (by omega)]
      exact uniq_0 K0 K1 m (i+1) (by omega) (by omega)
    · rw[br_neg (by exact_mod_cast h)]
end
theorem insertR_sm {r:Rel} {row:Row} (h:InvR r) (hw:row.length≤5):RelSm (insertR r row).1:=(inv_insert h hw).sm
theorem insertR_bad {r:Rel} {row:Row} (hok:relOk r=true) (h:(insertR r row).2=1):rowOk r.1 row=false:=by
  cases hr:rowOk r.1 row
  · rfl
  · unfold insertR at h
    rw[if_pos ⟨hok,hr⟩] at h
    cases hk:keyAt r (project row r.1.2.1) with
    | some j=>
      rw[hk] at h
      dsimp only at h
      exact absurd h (by decide)
    | none=>
      rw[hk] at h
      dsimp only at h
      split at h
      · exact absurd (show (3:Int)=1 from h) (by decide)
      · split at h
        · exact absurd (show (5:Int)=1 from h) (by decide)
        · exact absurd (show (0:Int)=1 from h) (by decide)
theorem fnUnique_law (a:List Int):C_laws_FnUnique (DD insExt (W+16)) a=some ((true,()),()):=by
  have hI:=insExt_ok
  have hC:=hI.toXC
  have hX:=hC.ok
  have hd:=maxLen_def
  have hW:=W_def
  have hM:=M_def
  rw[S_laws_FnUnique hX]
  simp only[F_laws_FnUnique,laws_FnUnique_e,laws_FnUnique_LP0]
  rw[c_big hX (by omega),bindD_some];dsimp only
  by_cases h:(a.length:Int)>1048576
  · rw[decide_eq_true h,br_t]
  · rw[decide_eq_false h,br_f]
    obtain ⟨r,row,hr,hl,e1⟩:=c_drawRelation hX (n:=W+15) (by omega) a (by omega)
    have hsm:=hr.sm
    have hw:row.length≤M:=by omega
    have e2:=c_implInsert hI (n:=W+15) (by omega) r hsm row hw
    have e3:=c_implRelOk hC (n:=W+15) (by omega) r hsm
    have e4:=c_implRowOk hX (n:=W+15) (by omega) r.1 hsm.sch row hw
    have hsm2:=insertR_sm hr.inv hl
    have hok2:=insertR_ok hr.ok row
    rw[e1,bindD_some];dsimp only
    rw[e2,bindD_some];dsimp only
    rw[e3,bindD_some,hr.ok];dsimp only
    rw[Bool.not_true,br_f]
    simp only[rel_eta]
    have e5:=uniq_0 hX (W+15) (W+15) (by omega) (by omega) (insertR r row).1 hsm2 hok2 (laws_FnUnique_x0_0 (DD insExt (W+15)) (W+15)) (fun v1_0=>laws_FnUnique_x0_1 (DD insExt (W+15)) (W+15) v1_0) (W+15) 0 (Nat.zero_le _) (by have:=hsm2.sch.ixs;omega)
    rw[show ((0:Nat):Int)=0 from rfl] at e5
    by_cases hk:(insertR r row).2=1
    · rw[br_pos hk,e4,bindD_some,insertR_bad hr.ok hk]
      dsimp only
      rw[br_f,e5];rfl
    · rw[br_neg hk,e5];rfl
end Go.G
namespace Go.Proofs.Ytfafjngknkbngaa
open Go.ChangeShapes Go.WideShapes Go.ChangeAt Go.RowKit Go.V Go.G
set_option maxRecDepth 100000
theorem fnUnique_lifted (os:Os) (started:os.Started) (H:Type) (enc:TypeId×Value→H) :
    ReturnsInHanded {} Try.checked os 10 .any (Rows.fnUniqueSpec.pre6 enc Try.prog Try.f10 Rows.fnUniqueRow.domain false) (Rows.fnUniqueSpec.post enc Try.prog Try.f10 false true false false):=
  lifted_of (X:=insExt) (tb:=4) started Try.func10 (by kernel_rfl)
    (ChangeSpec.witness6 (enc:=enc) (C:=Try.checked) false ⟨#[],Try.f10.params.map fun t=>((Try.prog.info? t).bind (·.zero)).getD .nilIface,[]⟩ 8 (by kernel_rfl) (by kernel_rfl) (by kernel_rfl) (by kernel_rfl))
    ⟨rfl,rfl,trivial⟩ (by kernel_rfl) (by kernel_rfl) (by kernel_rfl) rfl
    (fun ds h=>by
      match ds,h with
      | [d0],_=>exact ⟨rfl,rfl,rfl⟩)
    (fun a wa=>⟨W+16,((true,()),()),fnUnique_law a.1,fun h Pr Gs us k=>by
      obtain ⟨v,vs,rfl,⟨c,r,rfl⟩,e⟩:=k
      obtain rfl:vs=[]:=e
      simp only[Rep] at r
      subst r
      rfl⟩)
theorem fnUnique_holds:Rows.FnUniqueSaid:=
  OpenClaim.holds_of_wide 10 Try.f10 rfl rfl rfl rfl rfl rfl rfl ⟨rfl,rfl,rfl,rfl,rfl⟩ rfl rfl rfl rfl rfl (by kernel_rfl) Try.func10 (by kernel_rfl)
    (of_decide_eq_true (by kernel_rfl)) (by unfold Func.isWrapper;first | (rw[if_pos (by decide +kernel)];kernel_rfl) | (rw[if_neg (by decide +kernel)];exact ⟨rfl,rfl⟩))
    (fun os started H enc _=>fnUnique_lifted os started H enc)
#print axioms fnUnique_holds
end Go.Proofs.Ytfafjngknkbngaa


/- The row FnReplaced holds: for all bytes the law returns true and the argument reads as before. No condition. -/
import Derived.Test.YtfafjngknkbngaaAPFnReplaced1
set_option linter.unusedVariables false
set_option linter.unusedSimpArgs false
set_option linter.unusedSectionVars false
namespace Go.G
open Go Go.V
theorem br_t {R:Type} {a b:Option R}:br true a b=a:=rfl
theorem br_f {R:Type} {a b:Option R}:br false a b=b:=rfl
theorem br_pos {R:Type} {a b:Option R} {p:Prop} [Decidable p] (h:p):br (decide p) a b=a:=by simp[br,h]
theorem br_neg {R:Type} {a b:Option R} {p:Prop} [Decidable p] (h:¬ p):br (decide p) a b=b:=by simp[br,h]
theorem bindD_some {α R:Type} {a:α} {f:α→Option R}:bindD (some a) f=f a:=rfl
theorem br_ite {R:Type} {c:Bool} {a b:Option R}:br c a b=if c=true then a else b:=by cases c<;>rfl
theorem wrap_form (x:Int):IntKind.wrap IntKind.i64 x=if x % 18446744073709551616≥9223372036854775808 then x % 18446744073709551616 - 18446744073709551616 else x % 18446744073709551616:=by
  by_cases h:x % 18446744073709551616≥9223372036854775808<;>simp[IntKind.wrap,IntKind.signed,IntKind.bits,h]
theorem wrap_id {x:Int} (h1 : -9223372036854775808≤x) (h2:x≤9223372036854775807):IntKind.wrap IntKind.i64 x=x:=by
  rw[wrap_form]
  split<;>omega
def W:Nat:=9223372036854775808
theorem W_def:W=9223372036854775808:=rfl
theorem maxLen_def:maxLen=9223372036854775807:=rfl
theorem bound_def:bound=274877906944:=rfl
theorem ix {α:Type} {l:List α} {i:Nat} (h:i<l.length):(decide (0≤(i:Int))&&decide ((i:Int)<(l.length:Int)))=true:=by
  simp only[Bool.and_eq_true,decide_eq_true_eq];omega
theorem ixn {α:Type} {l:List α} {i:Int} (h0:0≤i) (h:i<l.length):(decide (0≤i)&&decide (i<(l.length:Int)))=true:=by
  simp only[Bool.and_eq_true,decide_eq_true_eq];omega
theorem wrap_succ {i:Nat} (h:i<9223372036854775807):IntKind.wrap IntKind.i64 ((i:Int)+1)=((i+1:Nat):Int):=by
  rw[wrap_id]<;>omega
theorem getD_lt {α:Type} {l:List α} {i:Nat} {d:α} (h:i<l.length):l.getD i d=l[i]:=by
  simp[List.getD,h]
theorem drop_cons {α:Type} {l:List α} {i:Nat} (h:i<l.length):l.drop i=l[i]::l.drop (i+1):=List.drop_eq_getElem_cons h
theorem drop_end {α:Type} {l:List α} {i:Nat} (h:¬ i<l.length):l.drop i=[]:=List.drop_eq_nil_of_le (by omega)
def tot:(t:Ty)→t.den→Nat
  | .unit,_=>0
  | .int _,_=>0
  | .bool,_=>0
  | .str,s=>s.size
  | .sl t,xs=>xs.length+(xs.map (tot t)).sum
  | .pair a b,x=>tot a x.1+tot b x.2
def left (t:Ty) (a:t.den) (k:Int):Int:=if (tot t a:Int)≤k then k - tot t a else -1
theorem beq_bytes {a b:ByteArray}:List.beq a.toList b.toList=decide (a=b):=by
  have h1:List.beq a.toList b.toList=decide (a.toList=b.toList):=by
    have:(a.toList == b.toList)=decide (a.toList=b.toList):=by
      by_cases h:a.toList=b.toList<;>simp[h]
    exact this
  rw[h1]
  by_cases h:a=b
  · simp[h]
  · have:a.toList≠b.toList:=fun e=>h (by
      have h2:a.data.toList=b.data.toList:=by
        have:=e
        simpa [ByteArray.toList_eq] using this
      cases a;cases b
      simp only[ByteArray.mk.injEq]
      exact Array.toList_inj.1 h2)
    simp[h,this]
end Go.G

namespace Go.G
open Go Go.V
end Go.G

namespace Go.G
open Go Go.V
end Go.G

namespace Go.G
open Go Go.V
def Fit (b:Nat):(t:Ty)→t.den→Prop
  | .sl t,xs=>xs.length≤b∧∀ x∈xs,Fit b t x
  | .pair s t,x=>Fit b s x.1∧Fit b t x.2
  | _,_=>True
theorem Fit.mono {b c:Nat} (h:b≤c):∀ {t:Ty} {x:t.den},Fit b t x→Fit c t x
  | .unit,_,_=>trivial
  | .int _,_,_=>trivial
  | .bool,_,_=>trivial
  | .str,_,_=>trivial
  | .sl t,xs,f=>⟨Nat.le_trans f.1 h,fun x hx=>(f.2 x hx).mono h⟩
  | .pair s t,x,f=>⟨f.1.mono h,f.2.mono h⟩
end Go.G

namespace Go.G
open Go Go.V
abbrev Value:=Int×Int×ByteArray×Unit
abbrev Col:=ByteArray×Int×Bool×Unit
abbrev Index:=ByteArray×List Int×Bool×Unit
end Go.G

namespace Go.G
open Go Go.V Go.Proofs
def anyFrom (P:Nat→Bool):Nat→Nat→Bool
  | _,0=>false
  | i,k+1=>P i||anyFrom P (i+1) k
theorem anyFrom_iff {P:Nat→Bool}:∀ {k i:Nat},anyFrom P i k=true↔∃ j,i≤j∧j<i+k∧P j=true
  | 0,i=>by simp[anyFrom];intro j h1 h2;omega
  | k+1,i=>by
    simp only[anyFrom,Bool.or_eq_true,anyFrom_iff (k:=k) (i:=i+1)]
    constructor
    · rintro (h | ⟨j,h1,h2,h3⟩)
      · exact ⟨i,Nat.le_refl _,by omega,h⟩
      · exact ⟨j,by omega,by omega,h3⟩
    · rintro ⟨j,h1,h2,h3⟩
      rcases Nat.eq_or_lt_of_le h1 with rfl | h1
      · exact .inl h3
      · exact .inr ⟨j,by omega,by omega,h3⟩
theorem anyFrom_false {P:Nat→Bool} {k i:Nat}:anyFrom P i k=false↔∀ j,i≤j→j<i+k→P j=false:=by
  rw[←Bool.not_eq_true,anyFrom_iff]
  constructor
  · intro h j h1 h2
    cases hp:P j with
    | false=>rfl
    | true=>exact absurd ⟨j,h1,h2,hp⟩ h
  · rintro h ⟨j,h1,h2,h3⟩
    rw[h j h1 h2] at h3;exact Bool.noConfusion h3
theorem anyFrom_congr {P Q:Nat→Bool}:∀ {k i:Nat},(∀ j,i≤j→j<i+k→P j=Q j)→anyFrom P i k=anyFrom Q i k
  | 0,_,_=>rfl
  | k+1,i,h=>by
    simp only[anyFrom]
    rw[h i (Nat.le_refl _) (by omega),anyFrom_congr fun j h1 h2=>h j (by omega) (by omega)]
theorem scan {R:Type} {L:Nat→Nat→Option R} {N:Nat} {P:Nat→Bool} {A B:Option R}
    (hs:∀ m i,i≤N→L (m+1) i=if i<N then br (P i) A (L m (i+1)) else B):∀ m i,i≤N→N - i<m→L m i=br (anyFrom P i (N - i)) A B
  | 0,_,_,h=>by omega
  | m+1,i,hi,hm=>by
    rw[hs m i hi]
    by_cases h:i<N
    · rw[if_pos h]
      obtain ⟨k,hk⟩:∃ k,N - i=k+1:=⟨N - i - 1,by omega⟩
      rw[hk,scan hs m (i+1) (by omega) (by omega)]
      have:N - (i+1)=k:=by omega
      rw[this]
      show br (P i) A (br (anyFrom P (i+1) k) A B)=br (P i||anyFrom P (i+1) k) A B
      cases P i<;>rfl
    · rw[if_neg h]
      have:N - i=0:=by omega
      rw[this];rfl
theorem scan0 {R:Type} {L:Nat→Nat→Option R} {N:Nat} {P:Nat→Bool} {A B:Option R}
    (hs:∀ m i,i≤N→L (m+1) i=if i<N then br (P i) A (L m (i+1)) else B) {m:Nat} (hm:N<m):L m 0=br (anyFrom P 0 N) A B:=by
  have:=scan hs m 0 (by omega) (by omega)
  rwa [Nat.sub_zero] at this
def firstFrom (P:Nat→Bool):Nat→Nat→Option Nat
  | _,0=>none
  | i,k+1=>if P i=true then some i else firstFrom P (i+1) k
theorem firstFrom_some {P:Nat→Bool}:∀ {k i j:Nat},firstFrom P i k=some j→i≤j∧j<i+k∧P j=true∧∀ l,i≤l→l<j→P l=false
  | 0,i,j,h=>by simp[firstFrom] at h
  | k+1,i,j,h=>by
    simp only[firstFrom] at h
    split at h
    · rename_i hp
      simp only[Option.some.injEq] at h
      subst h
      exact ⟨Nat.le_refl _,by omega,hp,fun l h1 h2=>by omega⟩
    · rename_i hp
      obtain ⟨h1,h2,h3,h4⟩:=firstFrom_some h
      refine ⟨by omega,by omega,h3,fun l h5 h6=>?_⟩
      rcases Nat.eq_or_lt_of_le h5 with rfl | h5
      · simpa using hp
      · exact h4 l h5 h6
theorem firstFrom_none {P:Nat→Bool}:∀ {k i:Nat},firstFrom P i k=none→∀ j,i≤j→j<i+k→P j=false
  | 0,i,_,j,h1,h2=>by omega
  | k+1,i,h,j,h1,h2=>by
    simp only[firstFrom] at h
    split at h
    · simp at h
    · rename_i hp
      rcases Nat.eq_or_lt_of_le h1 with rfl | h1
      · simpa using hp
      · exact firstFrom_none h j (by omega) (by omega)
theorem firstFrom_congr {P Q:Nat→Bool}:∀ {k i:Nat},(∀ j,i≤j→j<i+k→P j=Q j)→firstFrom P i k=firstFrom Q i k
  | 0,_,_=>rfl
  | k+1,i,h=>by
    simp only[firstFrom]
    rw[h i (Nat.le_refl _) (by omega),firstFrom_congr fun j h1 h2=>h j (by omega) (by omega)]
theorem scanF {R:Type} {L:Nat→Nat→Option R} {N:Nat} {P:Nat→Bool} {A:Nat→Option R} {B:Option R}
    (hs:∀ m i,i≤N→L (m+1) i=if i<N then br (P i) (A i) (L m (i+1)) else B):∀ m i,i≤N→N - i<m→L m i=match firstFrom P i (N - i) with | some j=>A j | none=>B
  | 0,_,_,h=>by omega
  | m+1,i,hi,hm=>by
    rw[hs m i hi]
    by_cases h:i<N
    · rw[if_pos h]
      obtain ⟨k,hk⟩:∃ k,N - i=k+1:=⟨N - i - 1,by omega⟩
      rw[hk]
      simp only[firstFrom]
      by_cases hp:P i=true
      · rw[if_pos hp,hp];rfl
      · rw[if_neg hp,scanF hs m (i+1) (by omega) (by omega)]
        simp only[Bool.not_eq_true] at hp
        have:N - (i+1)=k:=by omega
        rw[this,hp];rfl
    · rw[if_neg h]
      have:N - i=0:=by omega
      rw[this];rfl
theorem scanF0 {R:Type} {L:Nat→Nat→Option R} {N:Nat} {P:Nat→Bool} {A:Nat→Option R} {B:Option R}
    (hs:∀ m i,i≤N→L (m+1) i=if i<N then br (P i) (A i) (L m (i+1)) else B) {m:Nat} (hm:N<m):L m 0=match firstFrom P 0 N with | some j=>A j | none=>B:=by
  have:=scanF hs m 0 (by omega) (by omega)
  rwa [Nat.sub_zero] at this
theorem cond_and (a b:Bool):(bif a then b else false)=(a&&b):=by cases a<;>rfl
theorem cond_or (a b:Bool):(bif a then true else b)=(a||b):=by cases a<;>rfl
def inR (x a b:Int):Bool:=decide (a≤x)&&decide (x≤b)
theorem c_from {X:Ext} (hX:XOk X) {n:Nat} (hn:1≤n) (x a b:Int):C_impl_from (DD X n) x a b=some ((inR x a b,()),()):=by
  obtain ⟨n,rfl⟩:∃ k,n=k+1:=⟨n - 1,by omega⟩
  rw[S_impl_from hX]
  simp only[F_impl_from,impl_from_e,cond_and,inR]
theorem c_l1In {X:Ext} (hX:XOk X) {n:Nat} (hn:1≤n) (x a b:Int):C_spec_l1In (DD X n) x a b=some ((inR x a b,()),()):=by
  obtain ⟨n,rfl⟩:∃ k,n=k+1:=⟨n - 1,by omega⟩
  rw[S_spec_l1In hX]
  simp only[F_spec_l1In,spec_l1In_e,cond_and,inR]
def byteAt (s:ByteArray) (i:Nat):Int:=((s.data.getD i (UInt8.ofNat 0)).toNat:Int)
def nameOk (s:ByteArray):Bool:=!(anyFrom (fun i=>decide (byteAt s i<97)||decide (byteAt s i>122)) 0 s.size)&&inR s.size 1 12
theorem ixs {s:ByteArray} {i:Nat} (h:i<s.size):(decide (0≤(i:Int))&&decide ((i:Int)<(s.size:Int)))=true:=by
  simp only[Bool.and_eq_true,decide_eq_true_eq];omega
theorem c_implNameOk {X:Ext} (hX:XOk X) {n:Nat} (hn:W+2≤n) (s:ByteArray) (hs:s.size≤maxLen):C_impl_ColNameOk (DD X n) s=some ((nameOk s,()),()):=by
  obtain ⟨n,rfl⟩:∃ k,n=k+1:=⟨n - 1,by omega⟩
  have hd:=maxLen_def
  have hW:=W_def
  rw[S_impl_ColNameOk hX]
  simp only[F_impl_ColNameOk,impl_ColNameOk_e,impl_ColNameOk_LP0]
  refine Eq.trans (scan0 (L:=fun m i=>impl_ColNameOk_L0 (DD X n) n _ _ m s s.size (i:Int)) (N:=s.size) (P:=fun i=>decide (byteAt s i<97)||decide (byteAt s i>122))
    (A:=some ((false,()),())) (B:=some ((inR s.size 1 12,()),())) (fun m i hi=>?_) (m:=n) (by omega)) ?_
  · simp only[impl_ColNameOk_L0,impl_ColNameOk_b0]
    by_cases h:i<s.size
    · rw[br_pos (by exact_mod_cast h),ixs h,br_t,br_t,Int.toNat_natCast,wrap_succ (by omega),if_pos h]
      change br (decide (byteAt s i<97)) _ (br (decide (byteAt s i>122)) _ _)=_
      by_cases h1:byteAt s i<97
      · rw[br_pos h1,decide_eq_true h1];rfl
      · rw[br_neg h1,decide_eq_false h1]
        by_cases h2:byteAt s i>122
        · rw[br_pos h2,decide_eq_true h2];rfl
        · rw[br_neg h2,decide_eq_false h2];rfl
    · rw[br_neg (by exact_mod_cast h),if_neg h]
      simp only[impl_ColNameOk_x0_1,c_from hX (show 1≤n by omega),bindD_some]
  · unfold nameOk
    cases anyFrom (fun i=>decide (byteAt s i<97)||decide (byteAt s i>122)) 0 s.size<;>rfl
theorem c_specNameOk {X:Ext} (hX:XOk X) {n:Nat} (hn:W+2≤n) (s:ByteArray) (hs:s.size≤maxLen):C_spec_ColNameOk (DD X n) s=some ((nameOk s,()),()):=by
  obtain ⟨n,rfl⟩:∃ k,n=k+1:=⟨n - 1,by omega⟩
  have hd:=maxLen_def
  have hW:=W_def
  rw[S_spec_ColNameOk hX]
  simp only[F_spec_ColNameOk,spec_ColNameOk_e,spec_ColNameOk_LP0]
  refine Eq.trans (scan0 (L:=fun m i=>spec_ColNameOk_L0 (DD X n) n _ _ m s (i:Int)) (N:=s.size) (P:=fun i=>decide (byteAt s i<97)||decide (byteAt s i>122))
    (A:=some ((false,()),())) (B:=some ((inR s.size 1 12,()),())) (fun m i hi=>?_) (m:=n) (by omega)) ?_
  · simp only[spec_ColNameOk_L0,spec_ColNameOk_b0]
    by_cases h:i<s.size
    · rw[br_pos (by exact_mod_cast h),ixs h,br_t,br_t,Int.toNat_natCast,wrap_succ (by omega),if_pos h]
      change br (decide (byteAt s i<97)) _ (br (decide (byteAt s i>122)) _ _)=_
      by_cases h1:byteAt s i<97
      · rw[br_pos h1,decide_eq_true h1];rfl
      · rw[br_neg h1,decide_eq_false h1]
        by_cases h2:byteAt s i>122
        · rw[br_pos h2,decide_eq_true h2];rfl
        · rw[br_neg h2,decide_eq_false h2];rfl
    · rw[br_neg (by exact_mod_cast h),if_neg h]
      simp only[spec_ColNameOk_x0_1,c_l1In hX (show 1≤n by omega),bindD_some]
  · unfold nameOk
    cases anyFrom (fun i=>decide (byteAt s i<97)||decide (byteAt s i>122)) 0 s.size<;>rfl
def has (l:List Int) (x:Int):Bool:=anyFrom (fun j=>decide (x=l.getD j 0)) 0 l.length
theorem c_contains {X:Ext} (hX:XOk X) {n:Nat} (hn:W+2≤n) (l:List Int) (x:Int) (hl:l.length≤maxLen):C_slices_Contains_int_int (DD X n) l x=some ((has l x,()),()):=by
  obtain ⟨n,rfl⟩:∃ k,n=k+2:=⟨n - 2,by omega⟩
  have hd:=maxLen_def
  have hW:=W_def
  rw[S_slices_Contains_int_int hX]
  simp only[F_slices_Contains_int_int,slices_Contains_int_int_e]
  have e:C_slices_Index_int_int (DD X (n+1)) l x=some ((match firstFrom (fun j=>decide (x=l.getD j 0)) 0 l.length with | some j=>(j:Int) | none=>-1,()),()):=by
    rw[S_slices_Index_int_int hX]
    simp only[F_slices_Index_int_int,slices_Index_int_int_e,slices_Index_int_int_LP0]
    refine Eq.trans (scanF0 (L:=fun m i=>slices_Index_int_int_L0 (DD X n) n _ _ m l x l.length (i:Int)) (N:=l.length) (P:=fun j=>decide (x=l.getD j 0))
      (A:=fun j=>some (((j:Int),()),())) (B:=some ((-1,()),())) (fun m i hi=>?_) (m:=n) (by omega)) ?_
    · simp only[slices_Index_int_int_L0,slices_Index_int_int_b0]
      by_cases h:i<l.length
      · rw[br_pos (by exact_mod_cast h),ix h,br_t,Int.toNat_natCast,wrap_succ (by omega),if_pos h];rfl
      · rw[br_neg (by exact_mod_cast h),if_neg h];rfl
    · cases firstFrom (fun j=>decide (x=l.getD j 0)) 0 l.length<;>rfl
  rw[e,bindD_some]
  congr 3
  unfold has
  cases hf:firstFrom (fun j=>decide (x=l.getD j 0)) 0 l.length with
  | none=>
    have:=firstFrom_none hf
    rw[anyFrom_false.2 this];rfl
  | some j=>
    obtain ⟨h1,h2,h3,_⟩:=firstFrom_some hf
    rw[anyFrom_iff.2 ⟨j,h1,h2,h3⟩]
    simp
def placesOk (n:Nat) (l:List Int) (most:Int):Bool:=!(anyFrom (fun i=>!inR (l.getD i 0) 0 ((n:Int) - 1)||has (l.take i) (l.getD i 0)) 0 l.length)&&inR l.length 1 most
theorem c_implPlacesOk {X:Ext} (hX:XOk X) {n:Nat} (hn:W+3≤n) (s:List Col×List Int×List Index×Unit) (l:List Int) (most:Int) (hc:s.1.length≤maxLen) (hl:l.length≤maxLen) :
    C_impl_placesOk (DD X n) s l most=some ((placesOk s.1.length l most,()),()):=by
  obtain ⟨n,rfl⟩:∃ k,n=k+1:=⟨n - 1,by omega⟩
  have hd:=maxLen_def
  have hW:=W_def
  rw[S_impl_placesOk hX]
  simp only[F_impl_placesOk,impl_placesOk_e,impl_placesOk_LP0]
  refine Eq.trans (scan0 (L:=fun m i=>impl_placesOk_L0 (DD X n) n _ _ m l most l l.length (i:Int) s) (N:=l.length) (P:=fun i=>!inR (l.getD i 0) 0 ((s.1.length:Int) - 1)||has (l.take i) (l.getD i 0))
    (A:=some ((false,()),())) (B:=some ((inR l.length 1 most,()),())) (fun m i hi=>?_) (m:=n) (by omega)) ?_
  · simp only[impl_placesOk_L0,impl_placesOk_b0]
    by_cases h:i<l.length
    · have hc1:(decide ((0:Nat)≤0)&&decide ((0:Int)≤(i:Int))&&decide ((i:Int)≤(l.length:Int)))=true:=by
        rw[decide_eq_true (by omega),decide_eq_true (by omega),decide_eq_true (by omega)];rfl
      rw[br_pos (by exact_mod_cast h),ix h,br_t,c_from hX (show 1≤n by omega),bindD_some,hc1,br_t,Int.toNat_natCast,wrap_succ (by omega),if_pos h,wrap_id (by omega) (by omega)]
      have ht:(List.drop (Int.toNat 0) (List.take i l))=l.take i:=rfl
      rw[ht,c_contains hX (by omega) _ _ (by rw[List.length_take];omega),bindD_some]
      dsimp only
      cases inR (l.getD i 0) 0 ((s.1.length:Int) - 1)
      · rfl
      · cases has (l.take i) (l.getD i 0)<;>rfl
    · rw[br_neg (by exact_mod_cast h),if_neg h]
      simp only[impl_placesOk_x0_1,c_from hX (show 1≤n by omega),bindD_some]
  · unfold placesOk
    cases anyFrom (fun i=>!inR (l.getD i 0) 0 ((s.1.length:Int) - 1)||has (l.take i) (l.getD i 0)) 0 l.length<;>rfl
theorem has_take {l:List Int} {i:Nat} (hi:i≤l.length) (x:Int):has (l.take i) x=anyFrom (fun k=>decide (l.getD k 0=x)) 0 i:=by
  unfold has
  rw[List.length_take,Nat.min_eq_left hi]
  refine anyFrom_congr fun j _ h=>?_
  have e:(l.take i).getD j 0=l.getD j 0:=by
    simp only[List.getD,List.getElem?_take]
    rw[if_pos (by omega)]
  rw[e]
  by_cases h:x=l.getD j 0
  · rw[decide_eq_true h,decide_eq_true h.symm]
  · rw[decide_eq_false h,decide_eq_false fun k=>h k.symm]
theorem c_specPlacesOk {X:Ext} (hX:XOk X) {n:Nat} (hn:W+3≤n) (s:List Col×List Int×List Index×Unit) (l:List Int) (most:Int) (hc:s.1.length≤maxLen) (hl:l.length≤maxLen) :
    C_spec_l19Places (DD X n) s l most=some ((placesOk s.1.length l most,()),()):=by
  obtain ⟨n,rfl⟩:∃ k,n=k+1:=⟨n - 1,by omega⟩
  have hd:=maxLen_def
  have hW:=W_def
  rw[S_spec_l19Places hX]
  simp only[F_spec_l19Places,spec_l19Places_e,spec_l19Places_LP0]
  refine Eq.trans (scan0 (L:=fun m i=>spec_l19Places_L0 (DD X n) n _ _ m l most (i:Int) s) (N:=l.length) (P:=fun i=>!inR (l.getD i 0) 0 ((s.1.length:Int) - 1)||has (l.take i) (l.getD i 0))
    (A:=some ((false,()),())) (B:=some ((inR l.length 1 most,()),())) (fun m i hi=>?_) (m:=n) (by omega)) ?_
  · simp only[spec_l19Places_L0,spec_l19Places_b0]
    by_cases h:i<l.length
    · rw[br_pos (by exact_mod_cast h),ix h,br_t,c_l1In hX (show 1≤n by omega),bindD_some,Int.toNat_natCast,if_pos h,wrap_id (by omega) (by omega)]
      dsimp only
      cases hin:inR (l.getD i 0) 0 ((s.1.length:Int) - 1)
      · rfl
      · rw[Bool.not_true,br_f,Bool.false_or,has_take (by omega)]
        simp only[spec_l19Places_LP1]
        refine Eq.trans (scan0 (L:=fun q k=>spec_l19Places_L1 (DD X n) n _ _ q l most (i:Int) (k:Int) s) (N:=i) (P:=fun k=>decide (l.getD k 0=l.getD i 0))
          (A:=some ((false,()),())) (B:=spec_l19Places_L0 (DD X n) n (fun v0_0 v0_1 v0_2=>spec_l19Places_x0_0 (DD X n) n v0_0 v0_1 v0_2) (fun v1_0 v1_1=>spec_l19Places_x0_1 (DD X n) n v1_0 v1_1) m l most ((i+1:Nat):Int) s) (fun q k hk=>?_) (m:=n) (by omega)) rfl
        simp only[spec_l19Places_L1,spec_l19Places_b1]
        by_cases h2:k<i
        · rw[br_pos (by exact_mod_cast h2),ix (i:=k) (by omega),br_t,ix h,br_t,Int.toNat_natCast,Int.toNat_natCast,wrap_succ (by omega),if_pos h2];rfl
        · rw[br_neg (by exact_mod_cast h2),if_neg h2]
          simp only[spec_l19Places_x1_1]
          rw[wrap_succ (by omega)]
    · rw[br_neg (by exact_mod_cast h),if_neg h]
      simp only[spec_l19Places_x0_1,c_l1In hX (show 1≤n by omega),bindD_some]
  · unfold placesOk
    cases anyFrom (fun i=>!inR (l.getD i 0) 0 ((s.1.length:Int) - 1)||has (l.take i) (l.getD i 0)) 0 l.length<;>rfl
end Go.G

namespace Go.G
set_option maxRecDepth 100000
open Go Go.V Go.Proofs
theorem first_any (P:Nat→Bool) (n:Nat):decide ((match firstFrom P 0 n with | some j=>(j:Int) | none=>-1)≥0)=anyFrom P 0 n:=by
  cases hf:firstFrom P 0 n with
  | none=>rw[anyFrom_false.2 (firstFrom_none hf)];rfl
  | some j=>
    obtain ⟨h1,h2,h3,_⟩:=firstFrom_some hf
    rw[anyFrom_iff.2 ⟨j,h1,h2,h3⟩]
    simp
theorem c_idxCol {X:Ext} (hX:XOk X) {n:Nat} (hn:W+1≤n) (l:List (Col)) (hl:l.length≤maxLen) (c:Clo) (P:Nat→Bool)
    (hP:∀ i,i<l.length→applyClo ctx (DD X (n - 1)) c [CapV.val (Ty.pair Ty.str (Ty.pair (Ty.int IntKind.i64) (Ty.pair Ty.bool Ty.unit))) (l.getD i (ByteArray.empty,0,false,()))] Ty.bool=some (P i)) :
    C_slices_IndexFunc_impl_Col_impl_Col (DD X n) l c=some ((match firstFrom P 0 l.length with | some j=>(j:Int) | none=>-1,()),()):=by
  obtain ⟨n,rfl⟩:∃ k,n=k+1:=⟨n - 1,by omega⟩
  have hd:=maxLen_def
  have hW:=W_def
  rw[S_slices_IndexFunc_impl_Col_impl_Col hX]
  simp only[F_slices_IndexFunc_impl_Col_impl_Col,slices_IndexFunc_impl_Col_impl_Col_e,slices_IndexFunc_impl_Col_impl_Col_LP0]
  refine Eq.trans (scanF0 (L:=fun m i=>slices_IndexFunc_impl_Col_impl_Col_L0 (DD X n) n c _ _ m l l.length (i:Int)) (N:=l.length) (P:=P)
    (A:=fun j=>some (((j:Int),()),())) (B:=some ((-1,()),())) (fun m i hi=>?_) (m:=n) (by omega)) ?_
  · simp only[slices_IndexFunc_impl_Col_impl_Col_L0,slices_IndexFunc_impl_Col_impl_Col_b0]
    by_cases h:i<l.length
    · have hp:applyClo ctx (DD X n) c [CapV.val (Ty.pair Ty.str (Ty.pair (Ty.int IntKind.i64) (Ty.pair Ty.bool Ty.unit))) (l.getD i (ByteArray.empty,0,false,()))] Ty.bool=some (P i):=hP i h
      rw[br_pos (by exact_mod_cast h),ix h,br_t,Int.toNat_natCast,hp,bindD_some,wrap_succ (by omega),if_pos h];rfl
    · rw[br_neg (by exact_mod_cast h),if_neg h];rfl
  · cases firstFrom P 0 l.length<;>rfl
theorem c_idxIndex {X:Ext} (hX:XOk X) {n:Nat} (hn:W+1≤n) (l:List (Index)) (hl:l.length≤maxLen) (c:Clo) (P:Nat→Bool)
    (hP:∀ i,i<l.length→applyClo ctx (DD X (n - 1)) c [CapV.val (Ty.pair Ty.str (Ty.pair (Ty.sl (Ty.int IntKind.i64)) (Ty.pair Ty.bool Ty.unit))) (l.getD i (ByteArray.empty,[],false,()))] Ty.bool=some (P i)) :
    C_slices_IndexFunc_impl_Index_impl_Index (DD X n) l c=some ((match firstFrom P 0 l.length with | some j=>(j:Int) | none=>-1,()),()):=by
  obtain ⟨n,rfl⟩:∃ k,n=k+1:=⟨n - 1,by omega⟩
  have hd:=maxLen_def
  have hW:=W_def
  rw[S_slices_IndexFunc_impl_Index_impl_Index hX]
  simp only[F_slices_IndexFunc_impl_Index_impl_Index,slices_IndexFunc_impl_Index_impl_Index_e,slices_IndexFunc_impl_Index_impl_Index_LP0]
  refine Eq.trans (scanF0 (L:=fun m i=>slices_IndexFunc_impl_Index_impl_Index_L0 (DD X n) n c _ _ m l l.length (i:Int)) (N:=l.length) (P:=P)
    (A:=fun j=>some (((j:Int),()),())) (B:=some ((-1,()),())) (fun m i hi=>?_) (m:=n) (by omega)) ?_
  · simp only[slices_IndexFunc_impl_Index_impl_Index_L0,slices_IndexFunc_impl_Index_impl_Index_b0]
    by_cases h:i<l.length
    · have hp:applyClo ctx (DD X n) c [CapV.val (Ty.pair Ty.str (Ty.pair (Ty.sl (Ty.int IntKind.i64)) (Ty.pair Ty.bool Ty.unit))) (l.getD i (ByteArray.empty,[],false,()))] Ty.bool=some (P i):=hP i h
      rw[br_pos (by exact_mod_cast h),ix h,br_t,Int.toNat_natCast,hp,bindD_some,wrap_succ (by omega),if_pos h];rfl
    · rw[br_neg (by exact_mod_cast h),if_neg h];rfl
  · cases firstFrom P 0 l.length<;>rfl
theorem c_idxInt {X:Ext} (hX:XOk X) {n:Nat} (hn:W+1≤n) (l:List (Int)) (hl:l.length≤maxLen) (c:Clo) (P:Nat→Bool)
    (hP:∀ i,i<l.length→applyClo ctx (DD X (n - 1)) c [CapV.val (Ty.int IntKind.i64) (l.getD i 0)] Ty.bool=some (P i)) :
    C_slices_IndexFunc_int_int (DD X n) l c=some ((match firstFrom P 0 l.length with | some j=>(j:Int) | none=>-1,()),()):=by
  obtain ⟨n,rfl⟩:∃ k,n=k+1:=⟨n - 1,by omega⟩
  have hd:=maxLen_def
  have hW:=W_def
  rw[S_slices_IndexFunc_int_int hX]
  simp only[F_slices_IndexFunc_int_int,slices_IndexFunc_int_int_e,slices_IndexFunc_int_int_LP0]
  refine Eq.trans (scanF0 (L:=fun m i=>slices_IndexFunc_int_int_L0 (DD X n) n c _ _ m l l.length (i:Int)) (N:=l.length) (P:=P)
    (A:=fun j=>some (((j:Int),()),())) (B:=some ((-1,()),())) (fun m i hi=>?_) (m:=n) (by omega)) ?_
  · simp only[slices_IndexFunc_int_int_L0,slices_IndexFunc_int_int_b0]
    by_cases h:i<l.length
    · have hp:applyClo ctx (DD X n) c [CapV.val (Ty.int IntKind.i64) (l.getD i 0)] Ty.bool=some (P i):=hP i h
      rw[br_pos (by exact_mod_cast h),ix h,br_t,Int.toNat_natCast,hp,bindD_some,wrap_succ (by omega),if_pos h];rfl
    · rw[br_neg (by exact_mod_cast h),if_neg h];rfl
  · cases firstFrom P 0 l.length<;>rfl
theorem c_idxRow {X:Ext} (hX:XOk X) {n:Nat} (hn:W+1≤n) (l:List (List Value)) (hl:l.length≤maxLen) (c:Clo) (P:Nat→Bool)
    (hP:∀ i,i<l.length→applyClo ctx (DD X (n - 1)) c [CapV.val (Ty.sl (Ty.pair (Ty.int IntKind.i64) (Ty.pair (Ty.int IntKind.i64) (Ty.pair Ty.str Ty.unit)))) (l.getD i [])] Ty.bool=some (P i)) :
    C_slices_IndexFunc_impl_Value_impl_Value (DD X n) l c=some ((match firstFrom P 0 l.length with | some j=>(j:Int) | none=>-1,()),()):=by
  obtain ⟨n,rfl⟩:∃ k,n=k+1:=⟨n - 1,by omega⟩
  have hd:=maxLen_def
  have hW:=W_def
  rw[S_slices_IndexFunc_impl_Value_impl_Value hX]
  simp only[F_slices_IndexFunc_impl_Value_impl_Value,slices_IndexFunc_impl_Value_impl_Value_e,slices_IndexFunc_impl_Value_impl_Value_LP0]
  refine Eq.trans (scanF0 (L:=fun m i=>slices_IndexFunc_impl_Value_impl_Value_L0 (DD X n) n c _ _ m l l.length (i:Int)) (N:=l.length) (P:=P)
    (A:=fun j=>some (((j:Int),()),())) (B:=some ((-1,()),())) (fun m i hi=>?_) (m:=n) (by omega)) ?_
  · simp only[slices_IndexFunc_impl_Value_impl_Value_L0,slices_IndexFunc_impl_Value_impl_Value_b0]
    by_cases h:i<l.length
    · have hp:applyClo ctx (DD X n) c [CapV.val (Ty.sl (Ty.pair (Ty.int IntKind.i64) (Ty.pair (Ty.int IntKind.i64) (Ty.pair Ty.str Ty.unit)))) (l.getD i [])] Ty.bool=some (P i):=hP i h
      rw[br_pos (by exact_mod_cast h),ix h,br_t,Int.toNat_natCast,hp,bindD_some,wrap_succ (by omega),if_pos h];rfl
    · rw[br_neg (by exact_mod_cast h),if_neg h];rfl
  · cases firstFrom P 0 l.length<;>rfl
theorem c_someIndex {X:Ext} (hX:XOk X) {n:Nat} (hn:W+2≤n) (l:List (Index)) (hl:l.length≤maxLen) (c:Clo) (P:Nat→Bool)
    (hP:∀ i,i<l.length→applyClo ctx (DD X (n - 2)) c [CapV.val (Ty.pair Ty.str (Ty.pair (Ty.sl (Ty.int IntKind.i64)) (Ty.pair Ty.bool Ty.unit))) (l.getD i (ByteArray.empty,[],false,()))] Ty.bool=some (P i)) :
    C_slices_ContainsFunc_impl_Index_impl_Index (DD X n) l c=some ((anyFrom P 0 l.length,()),()):=by
  obtain ⟨n,rfl⟩:∃ k,n=k+1:=⟨n - 1,by omega⟩
  rw[S_slices_ContainsFunc_impl_Index_impl_Index hX]
  simp only[F_slices_ContainsFunc_impl_Index_impl_Index,slices_ContainsFunc_impl_Index_impl_Index_e]
  rw[c_idxIndex hX (n:=n) (by omega) l hl c P (fun i h=>hP i h),bindD_some]
  congr 3
  exact first_any P l.length
theorem c_someInt {X:Ext} (hX:XOk X) {n:Nat} (hn:W+2≤n) (l:List (Int)) (hl:l.length≤maxLen) (c:Clo) (P:Nat→Bool)
    (hP:∀ i,i<l.length→applyClo ctx (DD X (n - 2)) c [CapV.val (Ty.int IntKind.i64) (l.getD i 0)] Ty.bool=some (P i)) :
    C_slices_ContainsFunc_int_int (DD X n) l c=some ((anyFrom P 0 l.length,()),()):=by
  obtain ⟨n,rfl⟩:∃ k,n=k+1:=⟨n - 1,by omega⟩
  rw[S_slices_ContainsFunc_int_int hX]
  simp only[F_slices_ContainsFunc_int_int,slices_ContainsFunc_int_int_e]
  rw[c_idxInt hX (n:=n) (by omega) l hl c P (fun i h=>hP i h),bindD_some]
  congr 3
  exact first_any P l.length
theorem c_someRow {X:Ext} (hX:XOk X) {n:Nat} (hn:W+2≤n) (l:List (List Value)) (hl:l.length≤maxLen) (c:Clo) (P:Nat→Bool)
    (hP:∀ i,i<l.length→applyClo ctx (DD X (n - 2)) c [CapV.val (Ty.sl (Ty.pair (Ty.int IntKind.i64) (Ty.pair (Ty.int IntKind.i64) (Ty.pair Ty.str Ty.unit)))) (l.getD i [])] Ty.bool=some (P i)) :
    C_slices_ContainsFunc_impl_Value_impl_Valuex (DD X n) l c=some ((anyFrom P 0 l.length,()),()):=by
  obtain ⟨n,rfl⟩:∃ k,n=k+1:=⟨n - 1,by omega⟩
  rw[S_slices_ContainsFunc_impl_Value_impl_Valuex hX]
  simp only[F_slices_ContainsFunc_impl_Value_impl_Valuex,slices_ContainsFunc_impl_Value_impl_Valuex_e]
  rw[c_idxRow hX (n:=n) (by omega) l hl c P (fun i h=>hP i h),bindD_some]
  congr 3
  exact first_any P l.length
end Go.G

namespace Go.G
set_option maxRecDepth 100000
open Go Go.V Go.Proofs
abbrev Schema:=List Col×List Int×List Index×Unit
def M:Nat:=4194304
theorem M_def:M=4194304:=rfl
structure SchSm (s:Schema):Prop where
  cols:s.1.length≤M
  names:∀ c∈s.1,c.1.size≤M
  key:s.2.1.length≤M
  ixs:s.2.2.1.length≤M
  ixn:∀ x∈s.2.2.1,x.1.size≤M
  ixc:∀ x∈s.2.2.1,x.2.1.length≤M
abbrev cd:Col:=(ByteArray.empty,0,false,())
abbrev xd:Index:=(ByteArray.empty,[],false,())
theorem getD_mem {α:Type} {l:List α} {i:Nat} {d:α} (h:i<l.length):l.getD i d∈l:=by rw[getD_lt h];exact List.getElem_mem _
def colAt (cs:List Col) (name:ByteArray):Int:=match firstFrom (fun i=>decide ((cs.getD i cd).1=name)) 0 cs.length with | some j=>(j:Int) | none=>-1
theorem clo_colAt (D:Den ctx) (name:ByteArray) (x:Col):applyClo ctx D (Clo.mk 97 [CapV.rptr Ty.str name]) [CapV.val (Ty.pair Ty.str (Ty.pair (Ty.int IntKind.i64) (Ty.pair Ty.bool Ty.unit))) x] Ty.bool=(C_impl_ColAt_1 D x name).bind fun r=>some r.1.1:=by kernel_rfl
theorem c_implColAt {X:Ext} (hX:XOk X) {n:Nat} (hn:W+3≤n) (s:Schema) (hs:SchSm s) (name:ByteArray):C_impl_ColAt (DD X n) s name=some ((colAt s.1 name,()),()):=by
  obtain ⟨n,rfl⟩:∃ k,n=k+1:=⟨n - 1,by omega⟩
  have hd:=maxLen_def
  have hM:=M_def
  have:=hs.cols
  rw[S_impl_ColAt hX]
  simp only[F_impl_ColAt,impl_ColAt_e]
  rw[c_idxCol hX (n:=n) (by omega) s.1 (by omega) _ (fun i=>decide ((s.1.getD i cd).1=name)) (fun i h=>by
    obtain ⟨n,rfl⟩:∃ k,n=k+2:=⟨n - 2,by omega⟩
    rw[clo_colAt]
    rw[show n+2 - 1=n+1 from rfl,S_impl_ColAt_1 hX]
    simp only[F_impl_ColAt_1,impl_ColAt_1_e,Option.bind_some,beq_bytes]),bindD_some]
  rfl
theorem c_specColAt {X:Ext} (hX:XOk X) {n:Nat} (hn:W+1≤n) (s:Schema) (hs:SchSm s) (name:ByteArray):C_spec_ColAt (DD X n) s name=some ((colAt s.1 name,()),()):=by
  obtain ⟨n,rfl⟩:∃ k,n=k+1:=⟨n - 1,by omega⟩
  have hd:=maxLen_def
  have hW:=W_def
  have hM:=M_def
  have:=hs.cols
  rw[S_spec_ColAt hX]
  simp only[F_spec_ColAt,spec_ColAt_e,spec_ColAt_LP0]
  refine Eq.trans (scanF0 (L:=fun m i=>spec_ColAt_L0 (DD X n) n _ _ m name (i:Int) s) (N:=s.1.length) (P:=fun i=>decide ((s.1.getD i cd).1=name))
    (A:=fun j=>some (((j:Int),()),())) (B:=some ((-1,()),())) (fun m i hi=>?_) (m:=n) (by omega)) ?_
  · simp only[spec_ColAt_L0,spec_ColAt_b0]
    by_cases h:i<s.1.length
    · rw[br_pos (by exact_mod_cast h),ix h,br_t,Int.toNat_natCast,wrap_succ (by omega),if_pos h,beq_bytes];rfl
    · rw[br_neg (by exact_mod_cast h),if_neg h];rfl
  · unfold colAt
    cases firstFrom (fun i=>decide ((s.1.getD i cd).1=name)) 0 s.1.length<;>rfl
def colBad (cs:List Col) (i:Nat):Bool:=!nameOk (cs.getD i cd).1||(!inR (cs.getD i cd).2.1 1 3||!decide (colAt cs (cs.getD i cd).1=(i:Int)))
def ixBad (nc:Nat) (xs:List Index) (i:Nat):Bool:=!nameOk (xs.getD i xd).1||(!placesOk nc (xs.getD i xd).2.1 3||anyFrom (fun k=>decide ((xs.getD k xd).1=(xs.getD i xd).1)) 0 i)
def keyNull (cs:List Col) (key:List Int):Bool:=anyFrom (fun j=>(cs.getD (key.getD j 0).toNat cd).2.2.1) 0 key.length
def schemaOk (s:Schema):Bool:=
  !anyFrom (colBad s.1) 0 s.1.length&&(!anyFrom (ixBad s.1.length s.2.2.1) 0 s.2.2.1.length&&(inR s.1.length 1 5&&(placesOk s.1.length s.2.1 4&&(!keyNull s.1 s.2.1&&decide ((s.2.2.1.length:Int)≤3)))))
theorem places_in {n:Nat} {l:List Int} {most:Int} (h:placesOk n l most=true) {j:Nat} (hj:j<l.length):0≤l.getD j 0∧l.getD j 0<n:=by
  simp only[placesOk,Bool.and_eq_true,Bool.not_eq_true'] at h
  have:=anyFrom_false.1 h.1 j (by omega) (by omega)
  simp only[Bool.or_eq_false_iff,Bool.not_eq_false',inR,Bool.and_eq_true,decide_eq_true_eq] at this
  omega
theorem bne_dec (a b:Int):(a != b)=!decide (a=b):=by by_cases h:a=b<;>simp[h]
theorem clo_ixName (D:Den ctx) (y x:Index):applyClo ctx D (Clo.mk 82 [CapV.rptr (Ty.pair Ty.str (Ty.pair (Ty.sl (Ty.int IntKind.i64)) (Ty.pair Ty.bool Ty.unit))) y]) [CapV.val (Ty.pair Ty.str (Ty.pair (Ty.sl (Ty.int IntKind.i64)) (Ty.pair Ty.bool Ty.unit))) x] Ty.bool=(C_impl_SchemaOk_1 D x y).bind fun r=>some r.1.1:=by kernel_rfl
theorem clo_keyNull (D:Den ctx) (s:Schema) (x:Int):applyClo ctx D (Clo.mk 84 [CapV.rptr (Ty.pair (Ty.sl (Ty.pair Ty.str (Ty.pair (Ty.int IntKind.i64) (Ty.pair Ty.bool Ty.unit)))) (Ty.pair (Ty.sl (Ty.int IntKind.i64)) (Ty.pair (Ty.sl (Ty.pair Ty.str (Ty.pair (Ty.sl (Ty.int IntKind.i64)) (Ty.pair Ty.bool Ty.unit)))) Ty.unit))) s]) [CapV.val (Ty.int IntKind.i64) x] Ty.bool=(C_impl_SchemaOk_2 D x s).bind fun r=>some r.1.1:=by kernel_rfl
theorem c_implSchemaOk {X:Ext} (hX:XOk X) {n:Nat} (hn:W+5≤n) (s:Schema) (hs:SchSm s):C_impl_SchemaOk (DD X n) s=some ((schemaOk s,()),()):=by
  obtain ⟨n,rfl⟩:∃ k,n=k+1:=⟨n - 1,by omega⟩
  have hd:=maxLen_def
  have hW:=W_def
  have hM:=M_def
  have h1:=hs.cols
  have h2:=hs.ixs
  have h3:=hs.key
  rw[S_impl_SchemaOk hX]
  simp only[F_impl_SchemaOk,impl_SchemaOk_e,impl_SchemaOk_LP0]
  refine Eq.trans (scan0 (L:=fun m i=>impl_SchemaOk_L0 (DD X n) n _ _ m s.1 s.1.length (i:Int) s) (N:=s.1.length) (P:=colBad s.1)
    (A:=some ((false,()),())) (B:=br (anyFrom (ixBad s.1.length s.2.2.1) 0 s.2.2.1.length) (some ((false,()),())) (some ((inR s.1.length 1 5&&(placesOk s.1.length s.2.1 4&&(!keyNull s.1 s.2.1&&decide ((s.2.2.1.length:Int)≤3))),()),()))) (fun m i hi=>?_) (m:=n) (by omega)) ?_
  · simp only[impl_SchemaOk_L0,impl_SchemaOk_b0]
    by_cases h:i<s.1.length
    · have hsz:=hs.names _ (getD_mem (d:=cd) h)
      rw[br_pos (by exact_mod_cast h),ix h,br_t,Int.toNat_natCast,c_implNameOk hX (by omega) _ (Nat.le_trans hsz (by omega)),bindD_some,c_from hX (by omega),bindD_some,c_implColAt hX (by omega) s hs,bindD_some,wrap_succ (by omega),if_pos h,bne_dec]
      dsimp only[colBad]
      cases nameOk (s.1.getD i cd).1
      · rfl
      · cases inR (s.1.getD i cd).2.1 1 3
        · rfl
        · rw[Bool.not_true,br_f,br_f,Bool.false_or,Bool.false_or];rfl
    · rw[br_neg (by exact_mod_cast h),if_neg h]
      simp only[impl_SchemaOk_x0_1,impl_SchemaOk_LP1]
      refine (scan0 (L:=fun m i=>impl_SchemaOk_L1 (DD X n) n _ _ m s.2.2.1 s.2.2.1.length (i:Int) s) (N:=s.2.2.1.length) (P:=ixBad s.1.length s.2.2.1)
        (A:=some ((false,()),())) (B:=some ((inR s.1.length 1 5&&(placesOk s.1.length s.2.1 4&&(!keyNull s.1 s.2.1&&decide ((s.2.2.1.length:Int)≤3))),()),())) (fun m i hi=>?_) (m:=n) (by omega))
      simp only[impl_SchemaOk_L1,impl_SchemaOk_b1]
      by_cases h:i<s.2.2.1.length
      · have hm:=getD_mem (d:=xd) h
        have hsz:=hs.ixn _ hm
        have hsl:=hs.ixc _ hm
        have hc1:(decide ((0:Nat)≤0)&&decide ((0:Int)≤(i:Int))&&decide ((i:Int)≤(s.2.2.1.length:Int)))=true:=by
          rw[decide_eq_true (by omega),decide_eq_true (by omega),decide_eq_true (by omega)];rfl
        have hlen:(s.2.2.1.take i).length=i:=by rw[List.length_take];omega
        rw[br_pos (by exact_mod_cast h),ix h,br_t,Int.toNat_natCast,c_implNameOk hX (by omega) _ (Nat.le_trans hsz (by omega)),bindD_some,c_implPlacesOk hX (by omega) s _ _ (by omega) (Nat.le_trans hsl (by omega)),bindD_some,hc1,br_t,wrap_succ (by omega),if_pos h]
        have ht:(List.drop (Int.toNat 0) (List.take i s.2.2.1))=s.2.2.1.take i:=rfl
        rw[ht,c_someIndex hX (n:=n) (by omega) _ (by omega) _ (fun k=>decide ((s.2.2.1.getD k xd).1=(s.2.2.1.getD i xd).1)) (fun k hk=>by
          rw[hlen] at hk
          obtain ⟨n,rfl⟩:∃ k,n=k+3:=⟨n - 3,by omega⟩
          rw[clo_ixName,show n+3 - 2=n+1 from rfl,S_impl_SchemaOk_1 hX]
          have e:(s.2.2.1.take i).getD k xd=s.2.2.1.getD k xd:=by
            simp only[List.getD,List.getElem?_take]
            rw[if_pos hk]
          simp only[F_impl_SchemaOk_1,impl_SchemaOk_1_e,Option.bind_some,beq_bytes,e]),bindD_some,hlen]
        dsimp only[ixBad]
        cases nameOk (s.2.2.1.getD i xd).1
        · rfl
        · cases placesOk s.1.length (s.2.2.1.getD i xd).2.1 3
          · rfl
          · rw[Bool.not_true,br_f,br_f,Bool.false_or,Bool.false_or];rfl
      · rw[br_neg (by exact_mod_cast h),if_neg h]
        simp only[impl_SchemaOk_x1_1]
        rw[c_from hX (by omega),bindD_some,c_implPlacesOk hX (by omega) s _ _ (by omega) (by omega),bindD_some]
        dsimp only
        cases inR s.1.length 1 5
        · rfl
        · rw[br_t,Bool.true_and]
          cases hp:placesOk s.1.length s.2.1 4
          · rfl
          · rw[br_t,Bool.true_and,c_someInt hX (n:=n) (by omega) s.2.1 (by omega) _ (fun j=>(s.1.getD (s.2.1.getD j 0).toNat cd).2.2.1) (fun k hk=>by
              obtain ⟨n,rfl⟩:∃ k,n=k+3:=⟨n - 3,by omega⟩
              obtain ⟨p1,p2⟩:=places_in hp hk
              rw[clo_keyNull,show n+3 - 2=n+1 from rfl,S_impl_SchemaOk_2 hX]
              simp only[F_impl_SchemaOk_2,impl_SchemaOk_2_e]
              rw[ixn p1 p2,br_t];rfl),bindD_some,cond_and]
            rfl
  · unfold schemaOk
    cases anyFrom (colBad s.1) 0 s.1.length
    · cases anyFrom (ixBad s.1.length s.2.2.1) 0 s.2.2.1.length<;>rfl
    · rfl
theorem c_specIndexes {X:Ext} (hX:XOk X) {n:Nat} (hn:W+4≤n) (s:Schema) (hs:SchSm s):C_spec_l19Indexes (DD X n) s=some ((!anyFrom (ixBad s.1.length s.2.2.1) 0 s.2.2.1.length&&decide ((s.2.2.1.length:Int)≤3),()),()):=by
  obtain ⟨n,rfl⟩:∃ k,n=k+1:=⟨n - 1,by omega⟩
  have hd:=maxLen_def
  have hW:=W_def
  have hM:=M_def
  have h1:=hs.cols
  have h2:=hs.ixs
  rw[S_spec_l19Indexes hX]
  simp only[F_spec_l19Indexes,spec_l19Indexes_e,spec_l19Indexes_LP0]
  refine Eq.trans (scan0 (L:=fun m i=>spec_l19Indexes_L0 (DD X n) n _ _ m (i:Int) s) (N:=s.2.2.1.length) (P:=ixBad s.1.length s.2.2.1)
    (A:=some ((false,()),())) (B:=some ((decide ((s.2.2.1.length:Int)≤3),()),())) (fun m i hi=>?_) (m:=n) (by omega)) ?_
  · simp only[spec_l19Indexes_L0,spec_l19Indexes_b0]
    by_cases h:i<s.2.2.1.length
    · have hm:=getD_mem (d:=xd) h
      have hsz:=hs.ixn _ hm
      have hsl:=hs.ixc _ hm
      rw[br_pos (by exact_mod_cast h),ix h,br_t,Int.toNat_natCast,c_specNameOk hX (by omega) _ (Nat.le_trans hsz (by omega)),bindD_some,c_specPlacesOk hX (by omega) s _ _ (by omega) (Nat.le_trans hsl (by omega)),bindD_some,if_pos h]
      dsimp only[ixBad]
      cases nameOk (s.2.2.1.getD i xd).1
      · rfl
      · cases placesOk s.1.length (s.2.2.1.getD i xd).2.1 3
        · rfl
        · rw[Bool.not_true,br_f,br_f,Bool.false_or,Bool.false_or]
          simp only[spec_l19Indexes_LP1]
          refine Eq.trans (scan0 (L:=fun q k=>spec_l19Indexes_L1 (DD X n) n _ _ q (i:Int) (k:Int) s (s.2.2.1.getD i xd)) (N:=i) (P:=fun k=>decide ((s.2.2.1.getD k xd).1=(s.2.2.1.getD i xd).1))
            (A:=some ((false,()),())) (B:=spec_l19Indexes_L0 (DD X n) n (fun v0_0 v0_1=>spec_l19Indexes_x0_0 (DD X n) n v0_0 v0_1) (fun v1_0=>spec_l19Indexes_x0_1 (DD X n) n v1_0) m ((i+1:Nat):Int) s) (fun q k hk=>?_) (m:=n) (by omega)) rfl
          simp only[spec_l19Indexes_L1,spec_l19Indexes_b1]
          by_cases h2:k<i
          · rw[br_pos (by exact_mod_cast h2),ix (i:=k) (by omega),br_t,Int.toNat_natCast,wrap_succ (by omega),if_pos h2,beq_bytes];rfl
          · rw[br_neg (by exact_mod_cast h2),if_neg h2]
            simp only[spec_l19Indexes_x1_1]
            rw[wrap_succ (by omega)]
    · rw[br_neg (by exact_mod_cast h),if_neg h];rfl
  · cases anyFrom (ixBad s.1.length s.2.2.1) 0 s.2.2.1.length<;>rfl
theorem c_specSchemaOk {X:Ext} (hX:XOk X) {n:Nat} (hn:W+5≤n) (s:Schema) (hs:SchSm s):C_spec_SchemaOk (DD X n) s=some ((schemaOk s,()),()):=by
  obtain ⟨n,rfl⟩:∃ k,n=k+1:=⟨n - 1,by omega⟩
  have hd:=maxLen_def
  have hW:=W_def
  have hM:=M_def
  have h1:=hs.cols
  have h2:=hs.ixs
  have h3:=hs.key
  rw[S_spec_SchemaOk hX]
  simp only[F_spec_SchemaOk,spec_SchemaOk_e,spec_SchemaOk_LP0]
  refine Eq.trans (scan0 (L:=fun m i=>spec_SchemaOk_L0 (DD X n) n _ _ m (i:Int) s) (N:=s.1.length) (P:=colBad s.1)
    (A:=some ((false,()),())) (B:=some ((inR s.1.length 1 5&&(placesOk s.1.length s.2.1 4&&((!anyFrom (ixBad s.1.length s.2.2.1) 0 s.2.2.1.length&&decide ((s.2.2.1.length:Int)≤3))&&!keyNull s.1 s.2.1)),()),())) (fun m i hi=>?_) (m:=n) (by omega)) ?_
  · simp only[spec_SchemaOk_L0,spec_SchemaOk_b0]
    by_cases h:i<s.1.length
    · have hsz:=hs.names _ (getD_mem (d:=cd) h)
      rw[br_pos (by exact_mod_cast h),ix h,br_t,br_t,br_t,Int.toNat_natCast,c_specNameOk hX (by omega) _ (Nat.le_trans hsz (by omega)),bindD_some,c_l1In hX (by omega),bindD_some,c_specColAt hX (by omega) s hs,bindD_some,wrap_succ (by omega),if_pos h,bne_dec]
      dsimp only[colBad]
      cases nameOk (s.1.getD i cd).1
      · rfl
      · cases inR (s.1.getD i cd).2.1 1 3
        · rfl
        · rw[Bool.not_true,br_f,br_f,Bool.false_or,Bool.false_or];rfl
    · rw[br_neg (by exact_mod_cast h),if_neg h]
      simp only[spec_SchemaOk_x0_1,spec_SchemaOk_LP1]
      rw[c_l1In hX (by omega),bindD_some,c_specPlacesOk hX (by omega) s _ _ (by omega) (by omega),bindD_some,c_specIndexes hX (by omega) s hs,bindD_some]
      dsimp only
      cases inR s.1.length 1 5
      · rfl
      · cases hp:placesOk s.1.length s.2.1 4
        · rfl
        · cases (!anyFrom (ixBad s.1.length s.2.2.1) 0 s.2.2.1.length&&decide ((s.2.2.1.length:Int)≤3))
          · rfl
          · simp only[Bool.not_true,br_f,Bool.true_and]
            refine Eq.trans (scan0 (L:=fun m i=>spec_SchemaOk_L1 (DD X n) n _ _ m (i:Int) s) (N:=s.2.1.length) (P:=fun j=>(s.1.getD (s.2.1.getD j 0).toNat cd).2.2.1)
              (A:=some ((false,()),())) (B:=some ((true,()),())) (fun m i hi=>?_) (m:=n) (by omega)) ?_
            · simp only[spec_SchemaOk_L1,spec_SchemaOk_b1]
              by_cases h:i<s.2.1.length
              · obtain ⟨p1,p2⟩:=places_in hp h
                rw[br_pos (by exact_mod_cast h),ix h,br_t,Int.toNat_natCast,ixn p1 p2,br_t,wrap_succ (by omega),if_pos h];rfl
              · rw[br_neg (by exact_mod_cast h),if_neg h];rfl
            · unfold keyNull
              cases anyFrom (fun j=>(s.1.getD (s.2.1.getD j 0).toNat cd).2.2.1) 0 s.2.1.length<;>rfl
  · unfold schemaOk
    cases anyFrom (colBad s.1) 0 s.1.length<;>cases anyFrom (ixBad s.1.length s.2.2.1) 0 s.2.2.1.length<;>cases inR s.1.length 1 5<;>cases placesOk s.1.length s.2.1 4<;>cases keyNull s.1 s.2.1<;>simp[br]
end Go.G

namespace Go.G
open Go Go.V Go.Proofs
instance decCols:DecidableEq (List Col):=inferInstance
instance decIxs:DecidableEq (List Index):=inferInstance
instance decSchema:DecidableEq Schema:=fun a b=>@instDecidableEqProd _ _ decCols (@instDecidableEqProd _ _ inferInstance (@instDecidableEqProd _ _ decIxs inferInstance)) a b
end Go.G

namespace Go.G
set_option maxRecDepth 100000
open Go Go.V Go.Proofs
abbrev vd:Value:=(0,0,ByteArray.empty,())
abbrev Row:=List Value
def project (row:Row) (cols:List Int):Row:=(cols.filter fun c=>inR c 0 ((row.length:Int) - 1)).map fun c=>row.getD c.toNat vd
theorem project_len (row:Row) (cols:List Int):(project row cols).length≤cols.length:=by
  unfold project;rw[List.length_map];exact List.length_filter_le _ _
theorem project_cons (row:Row) (c:Int) (cols:List Int):project row (c::cols)=if inR c 0 ((row.length:Int) - 1)=true then row.getD c.toNat vd::project row cols else project row cols:=by
  unfold project
  rw[List.filter_cons]
  split<;>simp
theorem inR_lt {c:Int} {n:Nat} (h:inR c 0 ((n:Int) - 1)=true):0≤c∧c<n:=by
  simp only[inR,Bool.and_eq_true,decide_eq_true_eq] at h;omega
theorem implProject_L {X:Ext} (hX:XOk X) (N n:Nat) (hN:1≤N) (K:Row→Option ((Row×Unit)×Unit)) (row:Row) (hr:row.length≤M) (cols:List Int) (hc:cols.length≤M):∀ (m i:Nat) (acc:Row),i≤cols.length→cols.length - i<m→acc.length≤i→
    impl_Project_L0 (DD X N) n K m row cols cols.length (i:Int) acc=K (acc++project row (cols.drop i))
  | 0,_,_,_,h,_=>by omega
  | m+1,i,acc,hi,hf,ha=>by
    simp only[impl_Project_L0,impl_Project_b0]
    have hM:=M_def
    have hb:=bound_def
    by_cases h:i<cols.length
    · rw[br_pos (by exact_mod_cast h),ix h,br_t,Int.toNat_natCast,wrap_id (by omega) (by omega),c_from hX hN,bindD_some,wrap_succ (by omega),drop_cons h,project_cons,getD_lt h]
      dsimp only
      by_cases hin:inR cols[i] 0 ((row.length:Int) - 1)=true
      · obtain ⟨p1,p2⟩:=inR_lt hin
        rw[hin,br_t,ixn p1 p2,br_t,br_pos (by omega),if_pos rfl]
        refine Eq.trans (implProject_L hX N n hN K row hr cols hc m (i+1) _ (by omega) (by omega) (by simp;omega)) ?_
        rw[List.append_assoc];rfl
      · rw[Bool.not_eq_true] at hin
        rw[hin,br_f,if_neg Bool.noConfusion]
        exact implProject_L hX N n hN K row hr cols hc m (i+1) acc (by omega) (by omega) (by omega)
    · rw[br_neg (by exact_mod_cast h),drop_end h]
      simp[project]
theorem specProject_L {X:Ext} (hX:XOk X) (N n:Nat) (hN:1≤N) (K:Row→Option ((Row×Unit)×Unit)) (row:Row) (hr:row.length≤M) (cols:List Int) (hc:cols.length≤M):∀ (m i:Nat) (acc:Row),i≤cols.length→cols.length - i<m→acc.length≤i→
    spec_Project_L0 (DD X N) n K m row cols (i:Int) acc=K (acc++project row (cols.drop i))
  | 0,_,_,_,h,_=>by omega
  | m+1,i,acc,hi,hf,ha=>by
    simp only[spec_Project_L0,spec_Project_b0]
    have hM:=M_def
    have hb:=bound_def
    by_cases h:i<cols.length
    · rw[br_pos (by exact_mod_cast h),ix h,br_t,Int.toNat_natCast,wrap_id (by omega) (by omega),c_l1In hX hN,bindD_some,wrap_succ (by omega),drop_cons h,project_cons,getD_lt h]
      dsimp only
      by_cases hin:inR cols[i] 0 ((row.length:Int) - 1)=true
      · obtain ⟨p1,p2⟩:=inR_lt hin
        rw[hin,br_t,br_t,ixn p1 p2,br_t,br_pos (by omega),if_pos rfl]
        refine Eq.trans (specProject_L hX N n hN K row hr cols hc m (i+1) _ (by omega) (by omega) (by simp;omega)) ?_
        rw[List.append_assoc];rfl
      · rw[Bool.not_eq_true] at hin
        rw[hin,br_f,if_neg Bool.noConfusion]
        exact specProject_L hX N n hN K row hr cols hc m (i+1) acc (by omega) (by omega) (by omega)
    · rw[br_neg (by exact_mod_cast h),drop_end h]
      simp[project]
theorem c_implProject {X:Ext} (hX:XOk X) {n:Nat} (hn:W+1≤n) (row:Row) (hr:row.length≤M) (cols:List Int) (hc:cols.length≤M):C_impl_Project (DD X n) row cols=some ((project row cols,()),()):=by
  obtain ⟨n,rfl⟩:∃ k,n=k+1:=⟨n - 1,by omega⟩
  have hW:=W_def
  have hM:=M_def
  rw[S_impl_Project hX]
  simp only[F_impl_Project,impl_Project_e,impl_Project_LP0]
  refine Eq.trans (implProject_L hX n n (by omega) _ row hr cols hc n 0 [] (by omega) (by omega) (by simp)) ?_
  rfl
theorem c_specProject {X:Ext} (hX:XOk X) {n:Nat} (hn:W+1≤n) (row:Row) (hr:row.length≤M) (cols:List Int) (hc:cols.length≤M):C_spec_Project (DD X n) row cols=some ((project row cols,()),()):=by
  obtain ⟨n,rfl⟩:∃ k,n=k+1:=⟨n - 1,by omega⟩
  have hW:=W_def
  have hM:=M_def
  rw[S_spec_Project hX]
  simp only[F_spec_Project,spec_Project_e,spec_Project_LP0]
  refine Eq.trans (specProject_L hX n n (by omega) _ row hr cols hc n 0 [] (by omega) (by omega) (by simp)) ?_
  rfl
theorem c_implKeyOfRow {X:Ext} (hX:XOk X) {n:Nat} (hn:W+2≤n) (s:Schema) (row:Row) (hr:row.length≤M) (hc:s.2.1.length≤M):C_impl_KeyOfRow (DD X n) s row=some ((project row s.2.1,()),()):=by
  obtain ⟨n,rfl⟩:∃ k,n=k+1:=⟨n - 1,by omega⟩
  rw[S_impl_KeyOfRow hX]
  simp only[F_impl_KeyOfRow,impl_KeyOfRow_e]
  rw[c_implProject hX (by omega) row hr _ hc,bindD_some]
theorem c_specKeyOfRow {X:Ext} (hX:XOk X) {n:Nat} (hn:W+2≤n) (s:Schema) (row:Row) (hr:row.length≤M) (hc:s.2.1.length≤M):C_spec_KeyOfRow (DD X n) s row=some ((project row s.2.1,()),()):=by
  obtain ⟨n,rfl⟩:∃ k,n=k+1:=⟨n - 1,by omega⟩
  rw[S_spec_KeyOfRow hX]
  simp only[F_spec_KeyOfRow,spec_KeyOfRow_e]
  rw[c_specProject hX (by omega) row hr _ hc,bindD_some]
def noText (v:Value):Bool:=decide (v.2.2.1=ByteArray.mk #[])
def valueOk (v:Value):Bool:=
  bif decide (v.1=0) then decide (v.2.1=0)&&noText v else
  bif decide (v.1=1) then inR v.2.1 0 1&&noText v else
  bif decide (v.1=2) then inR v.2.1 (-1000000000000) 1000000000000&&noText v else
  bif decide (v.1=3) then decide (v.2.1=0)&&decide ((v.2.2.1.size:Int)≤20) else false
theorem c_implValueOk {X:Ext} (hX:XOk X) {n:Nat} (hn:2≤n) (v:Value):C_impl_ValueOk (DD X n) v=some ((valueOk v,()),()):=by
  obtain ⟨n,rfl⟩:∃ k,n=k+1:=⟨n - 1,by omega⟩
  rw[S_impl_ValueOk hX]
  simp only[F_impl_ValueOk,impl_ValueOk_e]
  rw[c_from hX (by omega),c_from hX (by omega)]
  simp only[bindD_some,cond_and,beq_bytes]
  unfold valueOk noText
  cases decide (v.1=0)<;>cases decide (v.1=1)<;>cases decide (v.1=2)<;>cases decide (v.1=3)<;>rfl
theorem c_specValueOk {X:Ext} (hX:XOk X) {n:Nat} (hn:2≤n) (v:Value):C_spec_ValueOk (DD X n) v=some ((valueOk v,()),()):=by
  obtain ⟨n,rfl⟩:∃ k,n=k+1:=⟨n - 1,by omega⟩
  rw[S_spec_ValueOk hX]
  simp only[F_spec_ValueOk,spec_ValueOk_e]
  rw[c_l1In hX (by omega),c_l1In hX (by omega)]
  simp only[bindD_some,cond_and,beq_bytes]
  unfold valueOk noText
  cases decide (v.1=0)<;>cases decide (v.1=1)<;>cases decide (v.1=2)<;>cases decide (v.1=3)<;>rfl
def rowBad (cs:List Col) (row:Row) (i:Nat):Bool:=!valueOk (row.getD i vd)||(!decide ((row.getD i vd).1=(cs.getD i cd).2.1)&&!(decide ((row.getD i vd).1=0)&&(cs.getD i cd).2.2.1))
def rowOk (s:Schema) (row:Row):Bool:=schemaOk s&&(decide (row.length=s.1.length)&&!anyFrom (rowBad s.1 row) 0 row.length)
theorem len_bne (a b:Nat):((a:Int) != (b:Int))=!decide (a=b):=by
  by_cases h:a=b
  · simp[h]
  · have:¬ (a:Int)=(b:Int):=by omega
    rw[bne_dec,decide_eq_false this,decide_eq_false h]
theorem c_implRowOk {X:Ext} (hX:XOk X) {n:Nat} (hn:W+6≤n) (s:Schema) (hs:SchSm s) (row:Row) (hr:row.length≤M):C_impl_RowOk (DD X n) s row=some ((rowOk s row,()),()):=by
  obtain ⟨n,rfl⟩:∃ k,n=k+1:=⟨n - 1,by omega⟩
  have hW:=W_def
  have hM:=M_def
  rw[S_impl_RowOk hX]
  simp only[F_impl_RowOk,impl_RowOk_e,impl_RowOk_LP0]
  rw[c_implSchemaOk hX (by omega) s hs,bindD_some,len_bne]
  dsimp only
  unfold rowOk
  cases schemaOk s
  · rfl
  · by_cases hl:row.length=s.1.length
    · rw[decide_eq_true hl]
      refine Eq.trans (scan0 (L:=fun m i=>impl_RowOk_L0 (DD X n) n _ _ m row row.length (i:Int) s) (N:=row.length) (P:=rowBad s.1 row)
        (A:=some ((false,()),())) (B:=some ((true,()),())) (fun m i hi=>?_) (m:=n) (by omega)) ?_
      · simp only[impl_RowOk_L0,impl_RowOk_b0]
        by_cases h:i<row.length
        · rw[br_pos (by exact_mod_cast h),ix h,br_t,ix (i:=i) (hl ▸ h),br_t,Int.toNat_natCast,c_implValueOk hX (by omega),bindD_some,wrap_succ (by omega),if_pos h,bne_dec,cond_and,cond_and,cond_or]
          rfl
        · rw[br_neg (by exact_mod_cast h),if_neg h];rfl
      · cases anyFrom (rowBad s.1 row) 0 row.length<;>rfl
    · rw[decide_eq_false hl];rfl
theorem c_specRowOk {X:Ext} (hX:XOk X) {n:Nat} (hn:W+6≤n) (s:Schema) (hs:SchSm s) (row:Row) (hr:row.length≤M):C_spec_RowOk (DD X n) s row=some ((rowOk s row,()),()):=by
  obtain ⟨n,rfl⟩:∃ k,n=k+1:=⟨n - 1,by omega⟩
  have hW:=W_def
  have hM:=M_def
  rw[S_spec_RowOk hX]
  simp only[F_spec_RowOk,spec_RowOk_e,spec_RowOk_LP0]
  rw[c_specSchemaOk hX (by omega) s hs,bindD_some,len_bne]
  dsimp only
  unfold rowOk
  cases schemaOk s
  · rfl
  · by_cases hl:row.length=s.1.length
    · rw[decide_eq_true hl]
      refine Eq.trans (scan0 (L:=fun m i=>spec_RowOk_L0 (DD X n) n _ _ m row (i:Int) s) (N:=row.length) (P:=rowBad s.1 row)
        (A:=some ((false,()),())) (B:=some ((true,()),())) (fun m i hi=>?_) (m:=n) (by omega)) ?_
      · simp only[spec_RowOk_L0,spec_RowOk_b0]
        by_cases h:i<row.length
        · rw[br_pos (by exact_mod_cast h),ix h,br_t,br_t,ix (i:=i) (hl ▸ h),br_t,br_t,br_t,Int.toNat_natCast,c_specValueOk hX (by omega),bindD_some,wrap_succ (by omega),if_pos h,bne_dec]
          dsimp only[rowBad]
          cases valueOk (row.getD i vd)
          · rfl
          · cases decide ((row.getD i vd).1=(s.1.getD i cd).2.1)
            · cases (s.1.getD i cd).2.2.1
              · cases decide ((row.getD i vd).1=0)<;>rfl
              · cases decide ((row.getD i vd).1=0)<;>rfl
            · rfl
        · rw[br_neg (by exact_mod_cast h),if_neg h];rfl
      · cases anyFrom (rowBad s.1 row) 0 row.length<;>rfl
    · rw[decide_eq_false hl];rfl
theorem eqVal_den (a b:Value):eqDen (Ty.pair (Ty.int IntKind.i64) (Ty.pair (Ty.int IntKind.i64) (Ty.pair Ty.str Ty.unit))) a b=decide (a=b):=by
  obtain ⟨a1,a2,a3,⟨⟩⟩:=a
  obtain ⟨b1,b2,b3,⟨⟩⟩:=b
  have e:∀ x y:ByteArray,(x.toList == y.toList)=decide (x=y):=fun x y=>beq_bytes
  have e2:∀ x y:Int,(x == y)=decide (x=y):=fun x y=>by by_cases h:x=y<;>simp[h]
  simp only[eqDen,e,e2]
  by_cases h1:a1=b1<;>by_cases h2:a2=b2<;>by_cases h3:a3=b3<;>simp[h1,h2,h3]
end Go.G

namespace Go.G
open Go Go.V
abbrev Cur:=List Int×Int×Int×Unit
def CurOk (c:Cur):Prop:=c.1.length≤1048576∧0≤c.2.1∧c.2.1≤c.1.length
theorem and_255 (x:BitVec (IntKind.bits IntKind.i64)):0≤IntKind.wrap IntKind.i64 ((BitVec.toNat (BitVec.and x (BitVec.ofInt (IntKind.bits IntKind.i64) 255)):Nat):Int)∧IntKind.wrap IntKind.i64 ((BitVec.toNat (BitVec.and x (BitVec.ofInt (IntKind.bits IntKind.i64) 255)):Nat):Int)≤255:=by
  have h:BitVec.toNat (BitVec.and x (BitVec.ofInt (IntKind.bits IntKind.i64) 255))≤255:=by
    show BitVec.toNat (x &&&BitVec.ofInt (IntKind.bits IntKind.i64) 255)≤255
    rw[BitVec.toNat_and]
    exact Nat.le_trans Nat.and_le_right (by decide)
  rw[wrap_id (by omega) (by omega)]
  omega
theorem c_l1Byte {X:Ext} (hX:XOk X) {n:Nat} (hn:1≤n) {c:Cur} (hc:CurOk c):∃ (x:Int) (c':Cur),0≤x∧x≤255∧CurOk c'∧C_spec_l1Byte (DD X n) c=some ((x,()),(c',())):=by
  obtain ⟨n,rfl⟩:∃ k,n=k+1:=⟨n - 1,by omega⟩
  obtain ⟨h1,h2,h3⟩:=hc
  rw[S_spec_l1Byte hX]
  simp only[F_spec_l1Byte,spec_l1Byte_e]
  by_cases h:c.2.1<(c.1.length:Int)
  · rw[br_pos h,ixn h2 h,br_t,wrap_id (x:=c.2.1+1) (by omega) (by omega)]
    refine ⟨_,(c.1,c.2.1+1,_,()),(and_255 _).1,(and_255 _).2,⟨h1,?_,?_⟩,rfl⟩
    · show 0≤c.2.1+1;omega
    · show c.2.1+1≤(c.1.length:Int);omega
  · rw[br_neg h]
    have k:∀ h u,CurOk (c.1,c.2.1,h,u):=fun _ _=>⟨h1,h2,h3⟩
    exact ⟨_,_,(and_255 _).1,(and_255 _).2,k _ _,rfl⟩
theorem c_l1Below {X:Ext} (hX:XOk X) {n:Nat} (hn:2≤n) {c:Cur} (hc:CurOk c) (k:Int):∃ (x:Int) (c':Cur),(0<k→0≤x∧x<k)∧(k≤0→x=0)∧CurOk c'∧C_spec_l1Below (DD X n) c k=some ((x,()),(c',())):=by
  obtain ⟨n,rfl⟩:∃ k,n=k+1:=⟨n - 1,by omega⟩
  rw[S_spec_l1Below hX]
  simp only[F_spec_l1Below,spec_l1Below_e]
  by_cases h:k≤0
  · rw[br_pos h]
    exact ⟨0,c,fun h2=>by omega,fun _=>rfl,hc,rfl⟩
  · rw[br_neg h]
    by_cases h2:k≤256
    · obtain ⟨x,c',x0,x1,hc',e⟩:=c_l1Byte hX (n:=n) (by omega) hc
      rw[br_pos h2,e,bindD_some]
      dsimp only
      rw[br_neg (by omega)]
      refine ⟨_,_,fun _=>?_,fun h3=>by omega,hc',rfl⟩
      rw[Int.tmod_eq_emod_of_nonneg x0]
      exact ⟨Int.emod_nonneg _ (by omega),Int.emod_lt_of_pos _ (by omega)⟩
    · obtain ⟨x,c1,x0,x1,hc1,e1⟩:=c_l1Byte hX (n:=n) (by omega) hc
      obtain ⟨y,c2,y0,y1,hc2,e2⟩:=c_l1Byte hX (n:=n) (by omega) hc1
      obtain ⟨z,c3,z0,z1,hc3,e3⟩:=c_l1Byte hX (n:=n) (by omega) hc2
      obtain ⟨w,c4,w0,w1,hc4,e4⟩:=c_l1Byte hX (n:=n) (by omega) hc3
      rw[br_neg h2,e1,bindD_some]
      dsimp only
      rw[e2,bindD_some]
      dsimp only
      rw[e3,bindD_some]
      dsimp only
      rw[e4,bindD_some]
      dsimp only
      rw[br_neg (by omega),wrap_id (x:=x * 16777216) (by omega) (by omega),wrap_id (x:=y * 65536) (by omega) (by omega),wrap_id (x:=x * 16777216+y * 65536) (by omega) (by omega),
        wrap_id (x:=z * 256) (by omega) (by omega),wrap_id (x:=x * 16777216+y * 65536+z * 256) (by omega) (by omega),wrap_id (x:=x * 16777216+y * 65536+z * 256+w) (by omega) (by omega)]
      refine ⟨_,_,fun _=>?_,fun h3=>by omega,hc4,rfl⟩
      rw[Int.tmod_eq_emod_of_nonneg (by omega)]
      exact ⟨Int.emod_nonneg _ (by omega),Int.emod_lt_of_pos _ (by omega)⟩
theorem c_l1Once {X:Ext} (hX:XOk X) {n:Nat} (hn:3≤n) {c:Cur} (hc:CurOk c) (k:Int):∃ (b:Bool) (c':Cur),CurOk c'∧C_spec_l1Once (DD X n) c k=some ((b,()),(c',())):=by
  obtain ⟨n,rfl⟩:∃ k,n=k+1:=⟨n - 1,by omega⟩
  rw[S_spec_l1Once hX]
  simp only[F_spec_l1Once,spec_l1Once_e]
  obtain ⟨x,c',_,_,hc',e⟩:=c_l1Below hX (n:=n) (by omega) hc k
  rw[e,bindD_some]
  exact ⟨_,_,hc',rfl⟩
theorem c_l1Pick {X:Ext} (hX:XOk X) {n:Nat} (hn:3≤n) {c:Cur} (hc:CurOk c) (l:List ByteArray) (hl:0<l.length):∃ (x:ByteArray) (c':Cur),x∈l∧CurOk c'∧C_spec_l1Pick (DD X n) c l=some ((x,()),(c',())):=by
  obtain ⟨n,rfl⟩:∃ k,n=k+1:=⟨n - 1,by omega⟩
  rw[S_spec_l1Pick hX]
  simp only[F_spec_l1Pick,spec_l1Pick_e]
  obtain ⟨x,c',h1,_,hc',e⟩:=c_l1Below hX (n:=n) (by omega) hc (l.length:Int)
  obtain ⟨x0,x1⟩:=h1 (by omega)
  rw[e,bindD_some]
  dsimp only
  rw[ixn x0 x1,br_t,getD_lt (by omega)]
  exact ⟨_,_,List.getElem_mem _,hc',rfl⟩
theorem l1New_L (D:Den ctx) (n:Nat) {K0:List Int→Int→Option ((Cur×Unit)×Unit)} (a:List Int) (ha:a.length≤1048576):∀ (m i:Nat) (h:Int),i≤a.length→a.length - i<m→∃ h':Int,spec_l1New_L0 D n K0 m a h i=K0 a h'
  | 0,_,_,_,h=>by omega
  | m+1,i,h,hi,hf=>by
    simp only[spec_l1New_L0,spec_l1New_b0]
    by_cases h1:i<a.length
    · by_cases h2:(i:Int)<4000
      · rw[decide_eq_true (by omega:(i:Int)<(a.length:Int)),cond_true,br_pos h2,decide_eq_true (by omega:(0:Int)≤(i:Int)),Bool.and_self,br_t,wrap_succ (by omega)]
        exact l1New_L D n a ha m (i+1) _ (by omega) (by omega)
      · rw[decide_eq_true (by omega:(i:Int)<(a.length:Int)),cond_true,br_neg h2]
        exact ⟨h,rfl⟩
    · rw[decide_eq_false (by omega:¬ (i:Int)<(a.length:Int)),cond_false,br_f]
      exact ⟨h,rfl⟩
theorem c_l1New {X:Ext} (hX:XOk X) {n:Nat} (hn:W+1≤n) (a:List Int) (ha:a.length≤1048576):∃ c:Cur,CurOk c∧C_spec_l1New (DD X n) a=some ((c,()),()):=by
  obtain ⟨n,rfl⟩:∃ k,n=k+1:=⟨n - 1,by omega⟩
  have hW:=W_def
  rw[S_spec_l1New hX]
  simp only[F_spec_l1New,spec_l1New_e,spec_l1New_LP0]
  obtain ⟨h',e⟩:=l1New_L (DD X n) n (K0:=fun v w=>spec_l1New_x0_0 (DD X n) n v w) a ha n 0 (IntKind.wrap IntKind.i64 (27323+(a.length:Int))) (by omega) (by omega)
  rw[show ((0:Nat):Int)=0 from rfl] at e
  exact ⟨(a,0,h',()),⟨ha,by show (0:Int)≤0;omega,by show (0:Int)≤(a.length:Int);omega⟩,e⟩
theorem c_big {X:Ext} (hX:XOk X) {n:Nat} (hn:1≤n) (a:List Int):C_laws_big (DD X n) a=some ((decide ((a.length:Int)>1048576),()),()):=by
  obtain ⟨n,rfl⟩:∃ k,n=k+1:=⟨n - 1,by omega⟩
  rw[S_laws_big hX];rfl
end Go.G

namespace Go.G
set_option maxRecDepth 100000
open Go Go.V Go.Proofs
theorem c_l1PickInt {X:Ext} (hX:XOk X) {n:Nat} (hn:3≤n) {c:Cur} (hc:CurOk c) (l:List Int) (hl:0<l.length):∃ (x:Int) (c':Cur),x∈l∧CurOk c'∧C_spec_l1PickInt (DD X n) c l=some ((x,()),(c',())):=by
  obtain ⟨n,rfl⟩:∃ k,n=k+1:=⟨n - 1,by omega⟩
  rw[S_spec_l1PickInt hX]
  simp only[F_spec_l1PickInt,spec_l1PickInt_e]
  obtain ⟨x,c',h1,h2,h3,e⟩:=c_l1Below hX (n:=n) (by omega) hc l.length
  obtain ⟨h4,h5⟩:=h1 (by omega)
  rw[e,bindD_some]
  dsimp only
  rw[ixn h4 h5,br_t]
  exact ⟨_,c',getD_mem (by omega),h3,rfl⟩
theorem c_l17DrawOf {X:Ext} (hX:XOk X) {n:Nat} (hn:4≤n) {c:Cur} (hc:CurOk c) (k:Int):∃ (v:Value) (c':Cur),v.2.2.1.size≤3∧CurOk c'∧C_spec_l17DrawOf (DD X n) c k=some ((v,()),(c',())):=by
  obtain ⟨n,rfl⟩:∃ k,n=k+1:=⟨n - 1,by omega⟩
  rw[S_spec_l17DrawOf hX]
  simp only[F_spec_l17DrawOf,spec_l17DrawOf_e]
  by_cases h1:k=1
  · rw[br_pos h1]
    obtain ⟨x,c',_,_,h3,e⟩:=c_l1Below hX (n:=n) (by omega) hc 2
    rw[e,bindD_some]
    exact ⟨_,c',Nat.zero_le _,h3,rfl⟩
  · rw[br_neg h1]
    by_cases h2:k=2
    · rw[br_pos h2]
      obtain ⟨x,c',_,h3,e⟩:=c_l1PickInt hX (n:=n) (by omega) hc [0,1,-1,7,255,256,-1000000000000,1000000000000] (by decide)
      rw[e,bindD_some]
      exact ⟨_,c',Nat.zero_le _,h3,rfl⟩
    · rw[br_neg h2]
      by_cases h4:k=3
      · rw[br_pos h4]
        obtain ⟨x,c',hx,h3,e⟩:=c_l1Pick hX (n:=n) (by omega) hc [ByteArray.mk #[],ByteArray.mk #[UInt8.ofNat 97],ByteArray.mk #[UInt8.ofNat 97,UInt8.ofNat 98],ByteArray.mk #[UInt8.ofNat 97,UInt8.ofNat 0],ByteArray.mk #[UInt8.ofNat 97,UInt8.ofNat 0,UInt8.ofNat 98],ByteArray.mk #[UInt8.ofNat 0],ByteArray.mk #[UInt8.ofNat 1],ByteArray.mk #[UInt8.ofNat 255],ByteArray.mk #[UInt8.ofNat 98]] (by decide)
        have hs:∀ y∈[ByteArray.mk #[],ByteArray.mk #[UInt8.ofNat 97],ByteArray.mk #[UInt8.ofNat 97,UInt8.ofNat 98],ByteArray.mk #[UInt8.ofNat 97,UInt8.ofNat 0],ByteArray.mk #[UInt8.ofNat 97,UInt8.ofNat 0,UInt8.ofNat 98],ByteArray.mk #[UInt8.ofNat 0],ByteArray.mk #[UInt8.ofNat 1],ByteArray.mk #[UInt8.ofNat 255],ByteArray.mk #[UInt8.ofNat 98]],y.size≤3:=by decide +kernel
        refine ⟨(k,0,x,()),c',hs x hx,h3,?_⟩
        refine Eq.trans (congrArg (fun z=>bindD z _) e) ?_
        rw[bindD_some]
      · rw[br_neg h4]
        exact ⟨_,c,Nat.zero_le _,hc,rfl⟩
structure DrawnS (s:Schema):Prop where
  lo:2≤s.1.length
  hi:s.1.length≤4
  names:∀ c∈s.1,c.1.size≤13
  key:s.2.1.length≤2
  ixs:s.2.2.1.length≤3
  ixn:∀ x∈s.2.2.1,x.1.size≤1
  ixc:∀ x∈s.2.2.1,x.2.1.length≤2
theorem DrawnS.sm {s:Schema} (h:DrawnS s):SchSm s:=by
  have hM:=M_def
  obtain ⟨a,b,c,d,e,f,g⟩:=h
  exact ⟨by omega,fun x hx=>by have:=c x hx;omega,by omega,by omega,fun x hx=>by have:=f x hx;omega,fun x hx=>by have:=g x hx;omega⟩
def fourNames:List ByteArray:=[ByteArray.mk #[UInt8.ofNat 105,UInt8.ofNat 100],ByteArray.mk #[UInt8.ofNat 110,UInt8.ofNat 97,UInt8.ofNat 109,UInt8.ofNat 101],
        ByteArray.mk #[UInt8.ofNat 115,UInt8.ofNat 105,UInt8.ofNat 122,UInt8.ofNat 101],ByteArray.mk #[UInt8.ofNat 111,UInt8.ofNat 110]]
theorem fourNames_size:∀ x∈fourNames,x.size≤4:=by decide +kernel
theorem fourNames_len:fourNames.length=4:=rfl
theorem drawRight_L0 {X:Ext} (hX:XOk X) (N n:Nat) (hN:3≤N) (K:Int→Cur→Schema→Schema→Option ((Schema×Unit)×Cur×Unit)) (nn:Nat) (hnn:nn≤4) (z:Schema) (xs:List Index):∀ (m i:Nat) (c:Cur) (acc:List Col),i≤nn→nn - i<m→acc.length=i→(∀ x∈acc,x.1.size≤4)→CurOk c→
    ∃ (c':Cur) (cs:List Col),CurOk c'∧cs.length=nn∧(∀ x∈cs,x.1.size≤4)∧spec_l19DrawRight_L0 (DD X N) n K m (nn:Int) (i:Int) c z (acc,[],xs,()) fourNames=K (nn:Int) c' z (cs,[],xs,())
  | 0,_,_,_,_,h,_,_,_=>by omega
  | m+1,i,c,acc,hi,hf,ha,hs,hc=>by
    simp only[spec_l19DrawRight_L0,spec_l19DrawRight_b0]
    have hb:=bound_def
    by_cases h:i<nn
    · have hi4:i<fourNames.length:=by rw[fourNames_len];omega
      have hname:=fourNames_size _ (getD_mem (d:=ByteArray.empty) hi4)
      rw[br_pos (by exact_mod_cast h),ix hi4,br_t,Int.toNat_natCast,wrap_succ (by omega)]
      obtain ⟨x,c1,hx,_,h1,e1⟩:=c_l1Below hX (n:=N) (by omega) hc 3
      rw[e1,bindD_some]
      dsimp only
      by_cases h0:(i:Int)>0
      · rw[br_pos h0]
        obtain ⟨b,c2,h2,e2⟩:=c_l1Once hX (n:=N) (by omega) h1 2
        rw[e2,bindD_some]
        dsimp only
        rw[br_pos (by omega)]
        exact drawRight_L0 hX N n hN K nn hnn z xs m (i+1) c2 (acc++[(fourNames.getD i ByteArray.empty,_,b,())]) (by omega) (by omega) (by simp;omega)
          (fun y hy=>by rcases List.mem_append.1 hy with hy | hy;exact hs y hy;simp only[List.mem_singleton] at hy;subst hy;exact hname) h2
      · rw[br_neg h0,br_pos (by omega)]
        exact drawRight_L0 hX N n hN K nn hnn z xs m (i+1) c1 (acc++[(fourNames.getD i ByteArray.empty,_,false,())]) (by omega) (by omega) (by simp;omega)
          (fun y hy=>by rcases List.mem_append.1 hy with hy | hy;exact hs y hy;simp only[List.mem_singleton] at hy;subst hy;exact hname) h1
    · rw[br_neg (by exact_mod_cast h)]
      exact ⟨c,acc,hc,by omega,hs,rfl⟩
def threeNames:List ByteArray:=[ByteArray.mk #[UInt8.ofNat 120],ByteArray.mk #[UInt8.ofNat 121],ByteArray.mk #[UInt8.ofNat 122]]
theorem threeNames_size:∀ x∈threeNames,x.size≤1:=by decide +kernel
theorem drawRight_L1 {X:Ext} (hX:XOk X) (N n:Nat) (hN:3≤N) (K:Cur→Schema→Schema→Option ((Schema×Unit)×Cur×Unit)) (nn:Nat) (hn0:2≤nn) (hnn:nn≤4) (z:Schema) (cs:List Col) (key:List Int):∀ (m i:Nat) (c:Cur) (acc:List Index),3 - i<m→i≤2→acc.length=i→(∀ x∈acc,x.1.size≤1∧x.2.1.length≤2)→CurOk c→
    ∃ (c':Cur) (xs:List Index),CurOk c'∧xs.length≤2∧(∀ x∈xs,x.1.size≤1∧x.2.1.length≤2)∧spec_l19DrawRight_L1 (DD X N) n K m (nn:Int) (i:Int) c z (cs,key,acc,())=K c' z (cs,key,xs,())
  | 0,_,_,_,h,_,_,_,_=>by omega
  | m+1,i,c,acc,hf,hi,ha,hs,hc=>by
    simp only[spec_l19DrawRight_L1,spec_l19DrawRight_b1]
    have hb:=bound_def
    obtain ⟨x,c1,hx,_,h1,e1⟩:=c_l1Below hX (n:=N) (by omega) hc 3
    obtain ⟨x1,x2⟩:=hx (by omega)
    rw[e1,bindD_some]
    dsimp only
    by_cases h:(i:Int)<x
    · have hi3:i<threeNames.length:=by show i<3;omega
      have hname:=threeNames_size _ (getD_mem (d:=ByteArray.empty) hi3)
      have hc3:(decide ((0:Int)≤(i:Int))&&decide ((i:Int)<3))=true:=by rw[decide_eq_true (by omega),decide_eq_true (by omega)];rfl
      rw[br_pos h]
      obtain ⟨y,c2,_,_,h2,e2⟩:=c_l1Below hX (n:=N) (by omega) h1 (IntKind.wrap IntKind.i64 ((nn:Int) - 1))
      obtain ⟨b,c3,h3,e3⟩:=c_l1Once hX (n:=N) (by omega) h2 2
      obtain ⟨b2,c4,h4,e4⟩:=c_l1Once hX (n:=N) (by omega) h3 2
      rw[e2,bindD_some]
      dsimp only
      rw[hc3,br_t,e3,bindD_some]
      dsimp only
      rw[e4,bindD_some,wrap_succ (by omega),Int.toNat_natCast]
      dsimp only
      cases b2
      · rw[br_f,br_pos (by omega)]
        exact drawRight_L1 hX N n hN K nn hn0 hnn z cs key m (i+1) c4 (acc++[(threeNames.getD i ByteArray.empty,_,b,())]) (by omega) (by omega) (by simp;omega)
          (fun y hy=>by rcases List.mem_append.1 hy with hy | hy;exact hs y hy;simp only[List.mem_singleton] at hy;subst hy;exact ⟨hname,by simp⟩) h4
      · rw[br_t,br_neg (by omega),br_pos (by omega)]
        exact drawRight_L1 hX N n hN K nn hn0 hnn z cs key m (i+1) c4 (acc++[(threeNames.getD i ByteArray.empty,_,b,())]) (by omega) (by omega) (by simp;omega)
          (fun y hy=>by rcases List.mem_append.1 hy with hy | hy;exact hs y hy;simp only[List.mem_singleton] at hy;subst hy;exact ⟨hname,by simp⟩) h4
    · rw[br_neg h]
      exact ⟨c1,acc,h1,by omega,hs,rfl⟩
theorem set_size {l:List Col} {i k:Nat} {x:Col} (h:∀ y∈l,y.1.size≤k) (hx:x.1.size≤k):∀ y∈l.set i x,y.1.size≤k:=by
  intro y hy
  rcases List.mem_or_eq_of_mem_set hy with hy | rfl
  · exact h y hy
  · exact hx
theorem c_l19DrawRight {X:Ext} (hX:XOk X) {n:Nat} (hn:W+4≤n) {c:Cur} (hc:CurOk c):∃ (s:Schema) (c':Cur),DrawnS s∧s.2.1.length≤1∧s.2.2.1.length≤2∧CurOk c'∧C_spec_l19DrawRight (DD X n) c=some ((s,()),(c',())):=by
  obtain ⟨n,rfl⟩:∃ k,n=k+1:=⟨n - 1,by omega⟩
  have hW:=W_def
  rw[S_spec_l19DrawRight hX]
  simp only[F_spec_l19DrawRight,spec_l19DrawRight_e,spec_l19DrawRight_LP0]
  obtain ⟨x,c1,hx,_,h1,e1⟩:=c_l1Below hX (n:=n) (by omega) hc 3
  obtain ⟨x1,x2⟩:=hx (by omega)
  rw[e1,bindD_some]
  dsimp only
  rw[wrap_id (by omega) (by omega)]
  obtain ⟨nn,hnn⟩:∃ nn:Nat,(nn:Int)=2+x:=⟨(2+x).toNat,by omega⟩
  rw[←hnn]
  obtain ⟨c2,cs,h2,hl,hs,e2⟩:=drawRight_L0 hX n n (by omega) (fun v0_0 v0_1 v0_2 v0_3=>spec_l19DrawRight_x0_0 (DD X n) n (spec_l19DrawRight_LP1 (DD X n) n) v0_0 v0_1 v0_2 v0_3) nn (by omega) ([],[],[],()) [] n 0 c1 [] (by omega) (by omega) rfl (fun x hx=>by simp at hx) h1
  obtain ⟨c3,xs,h3,hxl,hxs,e3⟩:=drawRight_L1 hX n n (by omega) (fun v0_0 v0_1 v0_2=>spec_l19DrawRight_x1_0 (DD X n) n v0_0 v0_1 v0_2) nn (by omega) (by omega) ([],[],[],()) cs [0] n 0 c2 [] (by omega) (by omega) rfl (fun x hx=>by simp at hx) h2
  obtain ⟨y,c4,hy,h4,e4⟩:=c_l1PickInt hX (n:=n) (by omega) h3 [2,3] (by decide)
  have hc0:(decide ((0:Nat)≤0)&&decide ((0:Int)<(cs.length:Int)))=true:=by rw[decide_eq_true (by omega),decide_eq_true (by omega)];rfl
  refine ⟨(cs.set 0 ((cs.getD 0 cd).1,y,(cs.getD 0 cd).2.2),[0],xs,()),c4,⟨by simp;omega,by simp;omega,?_,by simp,by simp only;omega,fun x hx=>(hxs x hx).1,fun x hx=>(hxs x hx).2⟩,by simp,by simpa using hxl,h4,?_⟩
  · have h0:=hs _ (getD_mem (d:=cd) (show 0<cs.length by omega))
    intro z hz
    have:=set_size (i:=0) (x:=((cs.getD 0 cd).1,y,(cs.getD 0 cd).2.2)) hs h0 z hz
    omega
  · refine Eq.trans e2 ?_
    simp only[spec_l19DrawRight_x0_0,spec_l19DrawRight_LP1]
    refine Eq.trans e3 ?_
    simp only[spec_l19DrawRight_x1_0]
    rw[e4,bindD_some]
    dsimp only
    rw[hc0,br_t]
theorem drawRow_L {X:Ext} (hX:XOk X) (N n:Nat) (hN:4≤N) (K:Cur→Row→Option ((Row×Unit)×Cur×Unit)) (s:Schema) (hs:s.1.length≤4):∀ (m i:Nat) (c:Cur) (acc:Row),i≤s.1.length→s.1.length - i<m→acc.length=i→(∀ v∈acc,v.2.2.1.size≤3)→CurOk c→
    ∃ (c':Cur) (row:Row),CurOk c'∧row.length=s.1.length∧(∀ v∈row,v.2.2.1.size≤3)∧spec_l19DrawRow_L0 (DD X N) n K m (i:Int) c s acc=K c' row
  | 0,_,_,_,_,h,_,_,_=>by omega
  | m+1,i,c,acc,hi,hf,ha,hv,hc=>by
    simp only[spec_l19DrawRow_L0,spec_l19DrawRow_b0]
    have hb:=bound_def
    have step:∀ (c':Cur) (v:Value),CurOk c'→v.2.2.1.size≤3→i<s.1.length→∃ (c2:Cur) (row:Row),CurOk c2∧row.length=s.1.length∧(∀ v∈row,v.2.2.1.size≤3)∧spec_l19DrawRow_L0 (DD X N) n K m ((i+1:Nat):Int) c' s (acc++[v])=K c2 row:=
      fun c' v hc' hv' h=>drawRow_L hX N n hN K s hs m (i+1) c' (acc++[v]) (by omega) (by omega) (by simp;omega) (fun y hy=>by rcases List.mem_append.1 hy with hy | hy;exact hv y hy;simp only[List.mem_singleton] at hy;subst hy;exact hv') hc'
    by_cases h:i<s.1.length
    · rw[br_pos (by exact_mod_cast h),ix h,br_t,Int.toNat_natCast,wrap_succ (by omega)]
      cases (s.1.getD i cd).2.2.1
      · rw[br_f,br_t]
        obtain ⟨v,c2,hv2,h2,e2⟩:=c_l17DrawOf hX (n:=N) (by omega) hc (s.1.getD i cd).2.1
        rw[e2,bindD_some,br_pos (show acc.length+1≤bound by omega)]
        exact step c2 v h2 hv2 h
      · rw[br_t]
        obtain ⟨b,c1,h1,e1⟩:=c_l1Once hX (n:=N) (by omega) hc 3
        rw[e1,bindD_some]
        dsimp only
        cases b
        · rw[br_f,br_t]
          obtain ⟨v,c2,hv2,h2,e2⟩:=c_l17DrawOf hX (n:=N) (by omega) h1 (s.1.getD i cd).2.1
          rw[e2,bindD_some,br_pos (show acc.length+1≤bound by omega)]
          exact step c2 v h2 hv2 h
        · rw[br_t,br_pos (show acc.length+1≤bound by omega)]
          exact step c1 vd h1 (Nat.zero_le _) h
    · rw[br_neg (by exact_mod_cast h)]
      exact ⟨c,acc,hc,by omega,hv,rfl⟩
theorem c_l19DrawRow {X:Ext} (hX:XOk X) {n:Nat} (hn:W+1≤n) {c:Cur} (hc:CurOk c) (s:Schema) (hs:s.1.length≤4):∃ (row:Row) (c':Cur),CurOk c'∧row.length=s.1.length∧(∀ v∈row,v.2.2.1.size≤3)∧C_spec_l19DrawRow (DD X n) c s=some ((row,()),(c',())):=by
  obtain ⟨n,rfl⟩:∃ k,n=k+1:=⟨n - 1,by omega⟩
  have hW:=W_def
  rw[S_spec_l19DrawRow hX]
  simp only[F_spec_l19DrawRow,spec_l19DrawRow_e,spec_l19DrawRow_LP0]
  obtain ⟨c',row,h1,h2,h3,e⟩:=drawRow_L hX n n (by omega) (fun v0_0 v0_1=>spec_l19DrawRow_x0_0 (DD X n) n v0_0 v0_1) s hs n 0 c [] (by omega) (by omega) rfl (fun v hv=>by simp at hv) hc
  exact ⟨row,c',h1,h2,h3,e⟩
end Go.G

namespace Go.G
set_option maxRecDepth 100000
open Go Go.V Go.Proofs
structure XC (X:Ext):Prop where
  ok:XOk X
  cmp:∀ n a b,C_strings_Compare (DD X (n+1)) a b=some ((scmp a b,()),())
theorem cmpExt_ok:XC cmpExt:=⟨fun k h=>by
  show Nat.beq k 187=false
  cases hk:Nat.beq k 187
  · rfl
  · rw[hk] at h;simp at h,fun n a b=>cmp_den n a b⟩
theorem compare_lt:∀ (a b:List UInt8),(Lib.compareBytes a b<0↔Op.bytesLess a b=true)∧(Lib.compareBytes a b=0↔a=b)
  | [],[]=>by simp[Lib.compareBytes,Op.bytesLess]
  | [],_::_=>by simp[Lib.compareBytes,Op.bytesLess]
  | _::_,[]=>by simp[Lib.compareBytes,Op.bytesLess]
  | x::a,y::b=>by
    obtain ⟨h1,h2⟩:=compare_lt a b
    simp only[Lib.compareBytes,Op.bytesLess]
    by_cases hxy:x<y
    · have hne:x≠y:=fun e=>by subst e;exact absurd hxy (UInt8.lt_irrefl x)
      simp[hxy,hne]
    · by_cases hyx:y<x
      · have hne:x≠y:=fun e=>by subst e;exact absurd hyx (UInt8.lt_irrefl x)
        simp[hxy,hyx,hne]
      · have e:x=y:=UInt8.le_antisymm (UInt8.not_lt.1 hyx) (UInt8.not_lt.1 hxy)
        subst e
        simp[hxy,h1,h2]
theorem scmp_lt (a b:ByteArray):scmp a b<0↔Op.bytesLess a.toList b.toList=true:=by
  unfold scmp
  rw[(compare_lt _ _).1,ByteArray.toList_eq,ByteArray.toList_eq]
theorem scmp_eq (a b:ByteArray):scmp a b=0↔a=b:=by
  unfold scmp
  rw[(compare_lt _ _).2]
  constructor
  · intro h;cases a;cases b;simp only[ByteArray.mk.injEq];exact Array.toList_inj.1 h
  · rintro rfl;rfl
def byv (a b:Value):Int:=bif decide (a.1<b.1)||(decide (a.1=b.1)&&decide (a.2.1<b.2.1)) then -1 else bif decide (a.1>b.1)||decide (a.2.1>b.2.1) then 1 else scmp a.2.2.1 b.2.2.1
def vlt (a b:Value):Bool:=bif !decide (a.1=b.1) then decide (a.1<b.1) else bif !decide (a.2.1=b.2.1) then decide (a.2.1<b.2.1) else Op.bytesLess a.2.2.1.toList b.2.2.1.toList
theorem byv_facts (a b:Value):(byv a b<0↔vlt a b=true)∧(byv a b=0↔a=b):=by
  obtain ⟨a1,a2,a3,⟨⟩⟩:=a
  obtain ⟨b1,b2,b3,⟨⟩⟩:=b
  have h1:=scmp_lt a3 b3
  have h2:=scmp_eq a3 b3
  simp only[byv,vlt]
  by_cases k1:a1<b1
  · have:¬ a1=b1:=by omega
    simp[k1,this]
  · by_cases k2:a1=b1
    · subst k2
      by_cases k3:a2<b2
      · have:¬ a2=b2:=by omega
        simp[k3,this]
      · by_cases k4:a2=b2
        · subst k4
          simp[h1,h2]
        · have:a2>b2:=by omega
          simp[k3,k4,this]
    · have:a1>b1:=by omega
      simp[k1,k2,this]
theorem c_byValue {X:Ext} (hX:XC X) {n:Nat} (hn:2≤n) (a b:Value):C_impl_byValue (DD X n) a b=some ((byv a b,()),()):=by
  obtain ⟨n,rfl⟩:∃ k,n=k+2:=⟨n - 2,by omega⟩
  rw[S_impl_byValue hX.ok]
  simp only[F_impl_byValue,impl_byValue_e]
  rw[hX.cmp]
  simp only[bindD_some,cond_and,cond_or]
  unfold byv
  cases (decide (a.1<b.1)||(decide (a.1=b.1)&&decide (a.2.1<b.2.1)))<;>cases (decide (a.1>b.1)||decide (a.2.1>b.2.1))<;>rfl
theorem clo_byValue (D:Den ctx) (x y:Value):applyClo ctx D (Clo.mk 167 []) [CapV.val (Ty.pair (Ty.int IntKind.i64) (Ty.pair (Ty.int IntKind.i64) (Ty.pair Ty.str Ty.unit))) x,CapV.val (Ty.pair (Ty.int IntKind.i64) (Ty.pair (Ty.int IntKind.i64) (Ty.pair Ty.str Ty.unit))) y] (Ty.int IntKind.i64)=(C_impl_byValue D x y).bind fun r=>some r.1.1:=by kernel_rfl
def tcmp:Row→Row→Int
  | [],[]=>0
  | [],_::_=>-1
  | _::_,[]=>1
  | x::a,y::b=>if byv x y=0 then tcmp a b else byv x y
def tlt:Row→Row→Bool
  | [],[]=>false
  | [],_::_=>true
  | _::_,[]=>false
  | x::a,y::b=>if x=y then tlt a b else vlt x y
theorem tcmp_lt:∀ (a b:Row),(decide (tcmp a b<0))=tlt a b
  | [],[]=>rfl
  | [],_::_=>rfl
  | _::_,[]=>rfl
  | x::a,y::b=>by
    obtain ⟨h1,h2⟩:=byv_facts x y
    simp only[tcmp,tlt]
    by_cases e:x=y
    · simp only[if_pos (h2.2 e),if_pos e];exact tcmp_lt a b
    · simp only[if_neg (fun k=>e (h2.1 k)),if_neg e]
      by_cases k:byv x y<0
      · rw[decide_eq_true k,h1.1 k]
      · rw[decide_eq_false k]
        cases hv:vlt x y
        · rfl
        · exact absurd (h1.2 hv) k
theorem compare_L {X:Ext} (hX:XC X) (N n:Nat) (hN:2≤N) (a b:Row) (ha:a.length≤M):∀ (m i:Nat),i≤a.length→i≤b.length→a.length - i<m→
    slices_CompareFunc_impl_Value_impl_Value_impl_Value_impl_Value_L0 (DD X N) n (Clo.mk 167 []) (fun v w u=>slices_CompareFunc_impl_Value_impl_Value_impl_Value_impl_Value_x0_0 (DD X N) n (Clo.mk 167 []) v w u) (fun v w=>slices_CompareFunc_impl_Value_impl_Value_impl_Value_impl_Value_x0_1 (DD X N) n (Clo.mk 167 []) v w) m a b a a.length (i:Int)=some ((tcmp (a.drop i) (b.drop i),()),())
  | 0,_,_,_,h=>by omega
  | m+1,i,hi,hj,hf=>by
    have hM:=M_def
    simp only[slices_CompareFunc_impl_Value_impl_Value_impl_Value_impl_Value_L0,slices_CompareFunc_impl_Value_impl_Value_impl_Value_impl_Value_b0]
    by_cases h:i<a.length
    · rw[br_pos (by exact_mod_cast h),ix h,br_t,drop_cons h]
      by_cases h2:i<b.length
      · rw[br_neg (by omega),ix h2,br_t,clo_byValue,Int.toNat_natCast,c_byValue hX hN,drop_cons h2,Option.bind_some,bindD_some,wrap_succ (by omega),getD_lt h,getD_lt h2,bne_dec]
        simp only[tcmp]
        by_cases e:byv a[i] b[i]=0
        · rw[decide_eq_true e,if_pos e,Bool.not_true,br_f]
          exact compare_L hX N n hN a b ha m (i+1) (by omega) (by omega) (by omega)
        · rw[decide_eq_false e,if_neg e,Bool.not_false,br_t];rfl
      · rw[br_pos (by omega),drop_end h2];rfl
    · rw[br_neg (by exact_mod_cast h),drop_end h]
      simp only[slices_CompareFunc_impl_Value_impl_Value_impl_Value_impl_Value_x0_1]
      by_cases h2:i<b.length
      · rw[br_pos (by omega),drop_cons h2];rfl
      · rw[br_neg (by omega),drop_end h2];rfl
theorem c_implTupleLess {X:Ext} (hX:XC X) {n:Nat} (hn:W+3≤n) (a b:Row) (ha:a.length≤M):C_impl_TupleLess (DD X n) a b=some ((tlt a b,()),()):=by
  obtain ⟨n,rfl⟩:∃ k,n=k+2:=⟨n - 2,by omega⟩
  have hW:=W_def
  have hM:=M_def
  rw[S_impl_TupleLess hX.ok]
  simp only[F_impl_TupleLess,impl_TupleLess_e]
  have e:C_slices_CompareFunc_impl_Value_impl_Value_impl_Value_impl_Value (DD X (n+1)) a b (Clo.mk 167 [])=some ((tcmp a b,()),()):=by
    rw[S_slices_CompareFunc_impl_Value_impl_Value_impl_Value_impl_Value hX.ok]
    simp only[F_slices_CompareFunc_impl_Value_impl_Value_impl_Value_impl_Value,slices_CompareFunc_impl_Value_impl_Value_impl_Value_impl_Value_e,slices_CompareFunc_impl_Value_impl_Value_impl_Value_impl_Value_LP0]
    exact compare_L hX n n (by omega) a b ha n 0 (by omega) (by omega) (by omega)
  rw[e,bindD_some]
  dsimp only
  rw[tcmp_lt]
theorem c_valueSame {X:Ext} (hX:XOk X) {n:Nat} (hn:1≤n) (a b:Value):C_spec_ValueSame (DD X n) a b=some ((decide (a=b),()),()):=by
  obtain ⟨n,rfl⟩:∃ k,n=k+1:=⟨n - 1,by omega⟩
  rw[S_spec_ValueSame hX]
  simp only[F_spec_ValueSame,spec_ValueSame_e,eqVal_den]
theorem c_valueLess {X:Ext} (hX:XOk X) {n:Nat} (hn:1≤n) (a b:Value):C_spec_ValueLess (DD X n) a b=some ((vlt a b,()),()):=by
  obtain ⟨n,rfl⟩:∃ k,n=k+1:=⟨n - 1,by omega⟩
  rw[S_spec_ValueLess hX]
  simp only[F_spec_ValueLess,spec_ValueLess_e,bne_dec]
  unfold vlt
  cases decide (a.1=b.1)<;>cases decide (a.2.1=b.2.1)<;>rfl
theorem specLess_L {X:Ext} (hX:XOk X) (N n:Nat) (hN:1≤N) (a b:Row) (ha:a.length≤M):∀ (m i:Nat),i≤a.length→i≤b.length→a.length - i<m→
    spec_TupleLess_L0 (DD X N) n (fun v w u=>spec_TupleLess_x0_0 (DD X N) n v w u) (fun v w=>spec_TupleLess_x0_1 (DD X N) n v w) m a b (i:Int)=some ((tlt (a.drop i) (b.drop i),()),())
  | 0,_,_,_,h=>by omega
  | m+1,i,hi,hj,hf=>by
    have hM:=M_def
    simp only[spec_TupleLess_L0,spec_TupleLess_b0,cond_and]
    by_cases h:i<a.length
    · by_cases h2:i<b.length
      · rw[decide_eq_true (show (i:Int)<a.length by omega),decide_eq_true (show (i:Int)<b.length by omega)]
        have c0:decide ((0:Int)≤(i:Int))=true:=decide_eq_true (by omega)
        rw[c0,Bool.true_and,br_t,br_t,br_t,c_valueSame hX hN,bindD_some,Int.toNat_natCast,wrap_succ (by omega),drop_cons h,drop_cons h2,getD_lt h,getD_lt h2]
        simp only[tlt]
        by_cases e:a[i]=b[i]
        · rw[decide_eq_true e,if_pos e,Bool.not_true,br_f]
          exact specLess_L hX N n hN a b ha m (i+1) (by omega) (by omega) (by omega)
        · rw[decide_eq_false e,if_neg e,Bool.not_false,br_t,br_t,br_t,c_valueLess hX hN,bindD_some];rfl
      · rw[decide_eq_true (show (i:Int)<a.length by omega),decide_eq_false (show ¬ (i:Int)<b.length by omega),drop_cons h,drop_end h2]
        simp only[Bool.and_false,br_f,spec_TupleLess_x0_1,tlt]
        rw[decide_eq_false (by omega)]
    · rw[decide_eq_false (show ¬ (i:Int)<a.length by omega),drop_end h]
      simp only[Bool.false_and,br_f,spec_TupleLess_x0_1]
      by_cases h2:i<b.length
      · rw[decide_eq_true (by omega),drop_cons h2];rfl
      · rw[decide_eq_false (by omega),drop_end h2];rfl
theorem c_specTupleLess {X:Ext} (hX:XOk X) {n:Nat} (hn:W+1≤n) (a b:Row) (ha:a.length≤M):C_spec_TupleLess (DD X n) a b=some ((tlt a b,()),()):=by
  obtain ⟨n,rfl⟩:∃ k,n=k+1:=⟨n - 1,by omega⟩
  have hW:=W_def
  have hM:=M_def
  rw[S_spec_TupleLess hX]
  simp only[F_spec_TupleLess,spec_TupleLess_e,spec_TupleLess_LP0]
  exact specLess_L hX n n (by omega) a b ha n 0 (by omega) (by omega) (by omega)
theorem same_L {X:Ext} (hX:XOk X) (N n:Nat) (hN:1≤N) (a b:Row) (ha:a.length≤M):∀ (m i:Nat),i≤a.length→i≤b.length→a.length - i<m→
    spec_l18Same_L0 (DD X N) n (fun v w u=>spec_l18Same_x0_0 (DD X N) n v w u) (fun v w=>spec_l18Same_x0_1 (DD X N) n v w) m a b (i:Int)=some ((decide (a.drop i=b.drop i),()),())
  | 0,_,_,_,h=>by omega
  | m+1,i,hi,hj,hf=>by
    have hM:=M_def
    simp only[spec_l18Same_L0,spec_l18Same_b0,cond_and]
    by_cases h:i<a.length
    · by_cases h2:i<b.length
      · rw[decide_eq_true (show (i:Int)<a.length by omega),decide_eq_true (show (i:Int)<b.length by omega)]
        have c0:decide ((0:Int)≤(i:Int))=true:=decide_eq_true (by omega)
        rw[c0,Bool.true_and,br_t,br_t,br_t,c_valueSame hX hN,bindD_some,Int.toNat_natCast,wrap_succ (by omega),drop_cons h,drop_cons h2,getD_lt h,getD_lt h2]
        by_cases e:a[i]=b[i]
        · rw[decide_eq_true e,Bool.not_true,br_f]
          refine Eq.trans (same_L hX N n hN a b ha m (i+1) (by omega) (by omega) (by omega)) ?_
          simp only[e,List.cons.injEq,true_and]
        · rw[decide_eq_false e,Bool.not_false,br_t]
          simp only[e,List.cons.injEq,false_and,decide_false];rfl
      · rw[decide_eq_true (show (i:Int)<a.length by omega),decide_eq_false (show ¬ (i:Int)<b.length by omega),drop_cons h,drop_end h2]
        simp only[Bool.and_false,br_f,spec_l18Same_x0_1]
        rw[decide_eq_false (by omega)];simp[h]
    · rw[decide_eq_false (show ¬ (i:Int)<a.length by omega),drop_end h]
      simp only[Bool.false_and,br_f,spec_l18Same_x0_1]
      by_cases h2:i<b.length
      · rw[decide_eq_false (by omega),drop_cons h2];simp[h2]
      · rw[decide_eq_true (by omega),drop_end h2];simp
theorem c_l18Same {X:Ext} (hX:XOk X) {n:Nat} (hn:W+1≤n) (a b:Row) (ha:a.length≤M):C_spec_l18Same (DD X n) a b=some ((decide (a=b),()),()):=by
  obtain ⟨n,rfl⟩:∃ k,n=k+1:=⟨n - 1,by omega⟩
  have hW:=W_def
  have hM:=M_def
  rw[S_spec_l18Same hX]
  simp only[F_spec_l18Same,spec_l18Same_e,spec_l18Same_LP0]
  exact same_L hX n n (by omega) a b ha n 0 (by omega) (by omega) (by omega)
theorem any_diff {a b:Row} (hl:a.length=b.length):anyFrom (fun i=>!decide (a.getD i vd=b.getD i vd)) 0 a.length=!decide (a=b):=by
  by_cases e:a=b
  · rw[decide_eq_true e,anyFrom_false.2 (fun j _ _=>by rw[e];simp)];rfl
  · rw[decide_eq_false e]
    show _=true
    rw[←Bool.not_eq_false]
    intro hf
    apply e
    apply List.ext_getElem hl
    intro i h1 h2
    have:=anyFrom_false.1 hf i (by omega) (by omega)
    rw[getD_lt h1,getD_lt h2] at this
    simpa using this
theorem c_equal {X:Ext} (hX:XOk X) {n:Nat} (hn:W+1≤n) (a b:Row) (ha:a.length≤M):C_slices_Equal_impl_Value_impl_Value (DD X n) a b=some ((decide (a=b),()),()):=by
  obtain ⟨n,rfl⟩:∃ k,n=k+1:=⟨n - 1,by omega⟩
  have hM:=M_def
  have hW:=W_def
  rw[S_slices_Equal_impl_Value_impl_Value hX]
  simp only[F_slices_Equal_impl_Value_impl_Value,slices_Equal_impl_Value_impl_Value_e,slices_Equal_impl_Value_impl_Value_LP0]
  rw[len_bne]
  by_cases hl:a.length=b.length
  · rw[decide_eq_true hl,Bool.not_true,br_f]
    refine Eq.trans (scan0 (L:=fun m i=>slices_Equal_impl_Value_impl_Value_L0 (DD X n) n _ _ m a b a.length (i:Int)) (N:=a.length) (P:=fun i=>!decide (a.getD i vd=b.getD i vd))
      (A:=some ((false,()),())) (B:=some ((true,()),())) (fun m i hi=>?_) (m:=n) (by omega)) ?_
    · simp only[slices_Equal_impl_Value_impl_Value_L0,slices_Equal_impl_Value_impl_Value_b0]
      by_cases h:i<a.length
      · rw[br_pos (by exact_mod_cast h),ix h,br_t,ix (hl ▸ h),br_t,Int.toNat_natCast,eqVal_den,wrap_succ (by omega),if_pos h];rfl
      · rw[br_neg (by exact_mod_cast h),if_neg h];rfl
    · rw[any_diff hl]
      cases decide (a=b)<;>rfl
  · have:¬ a=b:=fun e=>hl (by rw[e])
    rw[decide_eq_false hl,decide_eq_false this];rfl
def hasV (l:Row) (x:Value):Bool:=anyFrom (fun j=>decide (x=l.getD j vd)) 0 l.length
theorem c_containsV {X:Ext} (hX:XOk X) {n:Nat} (hn:W+2≤n) (l:Row) (x:Value) (hl:l.length≤M):C_slices_Contains_impl_Value_impl_Value (DD X n) l x=some ((hasV l x,()),()):=by
  obtain ⟨n,rfl⟩:∃ k,n=k+2:=⟨n - 2,by omega⟩
  have hM:=M_def
  have hW:=W_def
  rw[S_slices_Contains_impl_Value_impl_Value hX]
  simp only[F_slices_Contains_impl_Value_impl_Value,slices_Contains_impl_Value_impl_Value_e]
  have e:C_slices_Index_impl_Value_impl_Value (DD X (n+1)) l x=some ((match firstFrom (fun j=>decide (x=l.getD j vd)) 0 l.length with | some j=>(j:Int) | none=>-1,()),()):=by
    rw[S_slices_Index_impl_Value_impl_Value hX]
    simp only[F_slices_Index_impl_Value_impl_Value,slices_Index_impl_Value_impl_Value_e,slices_Index_impl_Value_impl_Value_LP0]
    refine Eq.trans (scanF0 (L:=fun m i=>slices_Index_impl_Value_impl_Value_L0 (DD X n) n _ _ m l l.length (i:Int) x) (N:=l.length) (P:=fun j=>decide (x=l.getD j vd))
      (A:=fun j=>some (((j:Int),()),())) (B:=some ((-1,()),())) (fun m i hi=>?_) (m:=n) (by omega)) ?_
    · simp only[slices_Index_impl_Value_impl_Value_L0,slices_Index_impl_Value_impl_Value_b0]
      by_cases h:i<l.length
      · rw[br_pos (by exact_mod_cast h),ix h,br_t,Int.toNat_natCast,wrap_succ (by omega),if_pos h,eqVal_den];rfl
      · rw[br_neg (by exact_mod_cast h),if_neg h];rfl
    · cases firstFrom (fun j=>decide (x=l.getD j vd)) 0 l.length<;>rfl
  rw[e,bindD_some]
  congr 3
  exact first_any _ _
def nullIn (l:Row):Bool:=anyFrom (fun j=>decide ((l.getD j vd).1=0)) 0 l.length
theorem c_l21Some {X:Ext} (hX:XOk X) {n:Nat} (hn:W+1≤n) (l:Row) (hl:l.length≤M):C_spec_l21Some (DD X n) l=some ((nullIn l,()),()):=by
  obtain ⟨n,rfl⟩:∃ k,n=k+1:=⟨n - 1,by omega⟩
  have hM:=M_def
  have hW:=W_def
  rw[S_spec_l21Some hX]
  simp only[F_spec_l21Some,spec_l21Some_e,spec_l21Some_LP0]
  refine Eq.trans (scan0 (L:=fun m i=>spec_l21Some_L0 (DD X n) n _ _ m l (i:Int)) (N:=l.length) (P:=fun j=>decide ((l.getD j vd).1=0))
    (A:=some ((true,()),())) (B:=some ((false,()),())) (fun m i hi=>?_) (m:=n) (by omega)) ?_
  · simp only[spec_l21Some_L0,spec_l21Some_b0]
    by_cases h:i<l.length
    · rw[br_pos (by exact_mod_cast h),ix h,br_t,Int.toNat_natCast,wrap_succ (by omega),if_pos h];rfl
    · rw[br_neg (by exact_mod_cast h),if_neg h];rfl
  · unfold nullIn
    cases anyFrom (fun j=>decide ((l.getD j vd).1=0)) 0 l.length<;>rfl
theorem null_ok {v:Value} (h:valueOk v=true):decide (vd=v)=decide (v.1=0):=by
  obtain ⟨v1,v2,v3,⟨⟩⟩:=v
  by_cases h0:v1=0
  · subst h0
    simp only[valueOk,noText,decide_true,cond_true,Bool.and_eq_true,decide_eq_true_eq] at h
    obtain ⟨rfl,rfl⟩:=h
    rfl
  · have:¬ vd=(v1,v2,v3,()):=fun e=>h0 (by rw[←(Prod.mk.inj e).1])
    rw[decide_eq_false this,decide_eq_false h0]
theorem hasV_null {l:Row} (h:∀ v∈l,valueOk v=true):hasV l vd=nullIn l:=
  anyFrom_congr fun j _ hj=>null_ok (h _ (getD_mem (by omega)))
theorem project_mem {row:Row} {cols:List Int}:∀ v∈project row cols,v∈row:=by
  intro v hv
  unfold project at hv
  obtain ⟨c,hc,rfl⟩:=List.mem_map.1 hv
  have:=inR_lt (List.mem_filter.1 hc).2
  exact getD_mem (by omega)
def clashAt (xs:List Index) (a b:Row) (i:Nat):Bool:=(xs.getD i xd).2.2.1&&(decide (project a (xs.getD i xd).2.1=project b (xs.getD i xd).2.1)&&!nullIn (project a (xs.getD i xd).2.1))
def clash (s:Schema) (a b:Row):Bool:=anyFrom (clashAt s.2.2.1 a b) 0 s.2.2.1.length
theorem clash_symm (s:Schema) (a b:Row):clash s a b=clash s b a:=by
  refine anyFrom_congr fun j _ _=>?_
  unfold clashAt
  by_cases e:project a (s.2.2.1.getD j xd).2.1=project b (s.2.2.1.getD j xd).2.1
  · rw[decide_eq_true e,decide_eq_true e.symm,e]
  · rw[decide_eq_false e,decide_eq_false fun k=>e k.symm];simp
theorem clo_clash (D:Den ctx) (a b:Row) (x:Index):applyClo ctx D (Clo.mk 168 [CapV.rptr (Ty.sl (Ty.pair (Ty.int IntKind.i64) (Ty.pair (Ty.int IntKind.i64) (Ty.pair Ty.str Ty.unit)))) a,CapV.rptr (Ty.sl (Ty.pair (Ty.int IntKind.i64) (Ty.pair (Ty.int IntKind.i64) (Ty.pair Ty.str Ty.unit)))) b]) [CapV.val (Ty.pair Ty.str (Ty.pair (Ty.sl (Ty.int IntKind.i64)) (Ty.pair Ty.bool Ty.unit))) x] Ty.bool=(C_impl_clash_1 D x a b).bind fun r=>some r.1.1:=by kernel_rfl
theorem c_implClash {X:Ext} (hX:XOk X) {n:Nat} (hn:W+6≤n) (s:Schema) (hs:SchSm s) (a b:Row) (ha:a.length≤M) (hb:b.length≤M) (hv:∀ v∈a,valueOk v=true):C_impl_clash (DD X n) s a b=some ((clash s a b,()),()):=by
  obtain ⟨n,rfl⟩:∃ k,n=k+1:=⟨n - 1,by omega⟩
  have hM:=M_def
  have hd:=maxLen_def
  have h2:=hs.ixs
  rw[S_impl_clash hX]
  simp only[F_impl_clash,impl_clash_e]
  rw[c_someIndex hX (n:=n) (by omega) _ (by omega) _ (clashAt s.2.2.1 a b) (fun i hi=>by
    have hc:=hs.ixc _ (getD_mem (d:=xd) hi)
    obtain ⟨n,rfl⟩:∃ k,n=k+3:=⟨n - 3,by omega⟩
    rw[clo_clash,show n+3 - 2=n+1 from rfl,S_impl_clash_1 hX]
    simp only[F_impl_clash_1,impl_clash_1_e]
    have p1:=c_implProject hX (n:=n) (by omega) a ha (s.2.2.1.getD i xd).2.1 hc
    have p2:=c_implProject hX (n:=n) (by omega) b hb (s.2.2.1.getD i xd).2.1 hc
    have l1:=project_len a (s.2.2.1.getD i xd).2.1
    have p3:=c_containsV hX (n:=n) (by omega) (project a (s.2.2.1.getD i xd).2.1) vd (by omega)
    have p4:=c_equal hX (n:=n) (by omega) (project a (s.2.2.1.getD i xd).2.1) (project b (s.2.2.1.getD i xd).2.1) (by omega)
    rw[p1,bindD_some]
    dsimp only
    rw[p2,p3]
    simp only[bindD_some]
    rw[p4,bindD_some,hasV_null (fun v h=>hv v (project_mem v h))]
    unfold clashAt
    cases (s.2.2.1.getD i xd).2.2.1
    · rfl
    · cases nullIn (project a (s.2.2.1.getD i xd).2.1)<;>simp[br]),bindD_some]
  rfl
theorem c_specClash {X:Ext} (hX:XOk X) {n:Nat} (hn:W+3≤n) (s:Schema) (hs:SchSm s) (a b:Row) (ha:a.length≤M) (hb:b.length≤M):C_spec_l21Clash (DD X n) s a b=some ((clash s a b,()),()):=by
  obtain ⟨n,rfl⟩:∃ k,n=k+1:=⟨n - 1,by omega⟩
  have hM:=M_def
  have hW:=W_def
  have h2:=hs.ixs
  rw[S_spec_l21Clash hX]
  simp only[F_spec_l21Clash,spec_l21Clash_e,spec_l21Clash_LP0]
  refine Eq.trans (scan0 (L:=fun m i=>spec_l21Clash_L0 (DD X n) n _ _ m a b (i:Int) s) (N:=s.2.2.1.length) (P:=clashAt s.2.2.1 a b)
    (A:=some ((true,()),())) (B:=some ((false,()),())) (fun m i hi=>?_) (m:=n) (by omega)) ?_
  · simp only[spec_l21Clash_L0,spec_l21Clash_b0]
    by_cases h:i<s.2.2.1.length
    · have hc:=hs.ixc _ (getD_mem (d:=xd) h)
      have p1:=c_specProject hX (n:=n) (by omega) a ha (s.2.2.1.getD i xd).2.1 hc
      have p2:=c_specProject hX (n:=n) (by omega) b hb (s.2.2.1.getD i xd).2.1 hc
      have l1:=project_len a (s.2.2.1.getD i xd).2.1
      have p3:=c_l21Some hX (n:=n) (by omega) (project a (s.2.2.1.getD i xd).2.1) (by omega)
      have p4:=c_l18Same hX (n:=n) (by omega) (project a (s.2.2.1.getD i xd).2.1) (project b (s.2.2.1.getD i xd).2.1) (by omega)
      rw[br_pos (by exact_mod_cast h),ix h,br_t,Int.toNat_natCast,p1,bindD_some]
      dsimp only
      rw[p2,bindD_some]
      dsimp only
      rw[p3,p4,wrap_succ (by omega),if_pos h]
      simp only[bindD_some]
      unfold clashAt
      cases (s.2.2.1.getD i xd).2.2.1
      · rfl
      · cases decide (project a (s.2.2.1.getD i xd).2.1=project b (s.2.2.1.getD i xd).2.1)
        · rfl
        · cases nullIn (project a (s.2.2.1.getD i xd).2.1)<;>rfl
    · rw[br_neg (by exact_mod_cast h),if_neg h];rfl
  · unfold clash
    cases anyFrom (clashAt s.2.2.1 a b) 0 s.2.2.1.length<;>rfl
end Go.G

namespace Go.G
set_option maxRecDepth 100000
open Go Go.V Go.Proofs
abbrev Rel:=Schema×List Row×Unit
instance decRows:DecidableEq (List Row):=inferInstance
instance decRel:DecidableEq Rel:=fun a b=>@instDecidableEqProd _ _ decSchema (@instDecidableEqProd _ _ decRows inferInstance) a b
structure RelSm (r:Rel):Prop where
  sch:SchSm r.1
  rows:r.2.1.length≤M
  row:∀ x∈r.2.1,x.length≤M
end Go.G

namespace Go.G
set_option maxRecDepth 100000
open Go Go.V Go.Proofs
theorem rowOk_vals {s:Schema} {row:Row} (h:rowOk s row=true):∀ v∈row,valueOk v=true:=by
  intro v hv
  obtain ⟨i,hi,rfl⟩:=List.mem_iff_getElem.1 hv
  simp only[rowOk,Bool.and_eq_true,Bool.not_eq_true',decide_eq_true_eq] at h
  have k:=anyFrom_false.1 h.2.2 i (by omega) (by omega)
  simp only[rowBad,Bool.or_eq_false_iff,Bool.not_eq_false'] at k
  rw[←getD_lt (d:=vd) hi];exact k.1
def relBad (s:Schema) (rows:List Row) (i:Nat):Bool:=
  !rowOk s (rows.getD i [])||((decide (0<i)&&!tlt (project (rows.getD (i - 1) []) s.2.1) (project (rows.getD i []) s.2.1))||anyFrom (fun k=>clash s (rows.getD i []) (rows.getD k [])) 0 i)
def relOk (r:Rel):Bool:=!anyFrom (relBad r.1 r.2.1) 0 r.2.1.length&&(schemaOk r.1&&decide ((r.2.1.length:Int)≤12))
theorem clo_rel (D:Den ctx) (r:Rel) (row x:Row):applyClo ctx D (Clo.mk 117 [CapV.rptr (Ty.pair
                    (Ty.pair (Ty.sl (Ty.pair Ty.str (Ty.pair (Ty.int IntKind.i64) (Ty.pair Ty.bool Ty.unit))))
                      (Ty.pair (Ty.sl (Ty.int IntKind.i64))
                        (Ty.pair (Ty.sl (Ty.pair Ty.str (Ty.pair (Ty.sl (Ty.int IntKind.i64)) (Ty.pair Ty.bool Ty.unit)))) Ty.unit)))
                    (Ty.pair (Ty.sl (Ty.sl (Ty.pair (Ty.int IntKind.i64) (Ty.pair (Ty.int IntKind.i64) (Ty.pair Ty.str Ty.unit))))) Ty.unit)) r,CapV.rptr (Ty.sl (Ty.pair (Ty.int IntKind.i64) (Ty.pair (Ty.int IntKind.i64) (Ty.pair Ty.str Ty.unit)))) row]) [CapV.val (Ty.sl (Ty.pair (Ty.int IntKind.i64) (Ty.pair (Ty.int IntKind.i64) (Ty.pair Ty.str Ty.unit)))) x] Ty.bool=(C_impl_RelOk_1 D x r row).bind fun q=>some q.1.1:=by kernel_rfl
theorem getD_take {α:Type} {l:List α} {i j:Nat} {d:α} (h:j<i):(l.take i).getD j d=l.getD j d:=by
  simp only[List.getD,List.getElem?_take]
  rw[if_pos h]
theorem c_someClash {X:Ext} (hX:XOk X) {n:Nat} (hn:W+9≤n) (r:Rel) (hr:RelSm r) (i:Nat) (hi:i<r.2.1.length) (hv:∀ v∈r.2.1.getD i [],valueOk v=true) :
    C_slices_ContainsFunc_impl_Value_impl_Valuex (DD X n) (List.drop (Int.toNat 0) (List.take i r.2.1)) (Clo.mk 117 [CapV.rptr (Ty.pair
                    (Ty.pair (Ty.sl (Ty.pair Ty.str (Ty.pair (Ty.int IntKind.i64) (Ty.pair Ty.bool Ty.unit))))
                      (Ty.pair (Ty.sl (Ty.int IntKind.i64))
                        (Ty.pair (Ty.sl (Ty.pair Ty.str (Ty.pair (Ty.sl (Ty.int IntKind.i64)) (Ty.pair Ty.bool Ty.unit)))) Ty.unit)))
                    (Ty.pair (Ty.sl (Ty.sl (Ty.pair (Ty.int IntKind.i64) (Ty.pair (Ty.int IntKind.i64) (Ty.pair Ty.str Ty.unit))))) Ty.unit)) r,CapV.rptr (Ty.sl (Ty.pair (Ty.int IntKind.i64) (Ty.pair (Ty.int IntKind.i64) (Ty.pair Ty.str Ty.unit)))) (r.2.1.getD i [])])
      = some ((anyFrom (fun k=>clash r.1 (r.2.1.getD i []) (r.2.1.getD k [])) 0 i,()),()):=by
  have hM:=M_def
  have hd:=maxLen_def
  have h2:=hr.rows
  have hl:(List.drop (Int.toNat 0) (List.take i r.2.1)).length=i:=by
    show (List.take i r.2.1).length=i
    rw[List.length_take];omega
  have e:=c_someRow hX (n:=n) (by omega) (List.drop (Int.toNat 0) (List.take i r.2.1)) (by rw[hl];omega) (Clo.mk 117 [CapV.rptr (Ty.pair
                    (Ty.pair (Ty.sl (Ty.pair Ty.str (Ty.pair (Ty.int IntKind.i64) (Ty.pair Ty.bool Ty.unit))))
                      (Ty.pair (Ty.sl (Ty.int IntKind.i64))
                        (Ty.pair (Ty.sl (Ty.pair Ty.str (Ty.pair (Ty.sl (Ty.int IntKind.i64)) (Ty.pair Ty.bool Ty.unit)))) Ty.unit)))
                    (Ty.pair (Ty.sl (Ty.sl (Ty.pair (Ty.int IntKind.i64) (Ty.pair (Ty.int IntKind.i64) (Ty.pair Ty.str Ty.unit))))) Ty.unit)) r,CapV.rptr (Ty.sl (Ty.pair (Ty.int IntKind.i64) (Ty.pair (Ty.int IntKind.i64) (Ty.pair Ty.str Ty.unit)))) (r.2.1.getD i [])])
    (fun k=>clash r.1 (r.2.1.getD i []) (r.2.1.getD k [])) (fun k hk=>by
      rw[hl] at hk
      obtain ⟨n,rfl⟩:∃ k,n=k+3:=⟨n - 3,by omega⟩
      rw[clo_rel,show n+3 - 2=n+1 from rfl,S_impl_RelOk_1 hX]
      simp only[F_impl_RelOk_1,impl_RelOk_1_e]
      have hg:(List.drop (Int.toNat 0) (List.take i r.2.1)).getD k []=r.2.1.getD k []:=getD_take hk
      rw[hg,c_implClash hX (by omega) r.1 hr.sch _ _ (hr.row _ (getD_mem hi)) (hr.row _ (getD_mem (by omega))) hv,bindD_some]
      rfl)
  rw[hl] at e
  exact e
theorem c_implRelOk {X:Ext} (hX:XC X) {n:Nat} (hn:W+10≤n) (r:Rel) (hr:RelSm r):C_impl_RelOk (DD X n) r=some ((relOk r,()),()):=by
  obtain ⟨n,rfl⟩:∃ k,n=k+1:=⟨n - 1,by omega⟩
  have hW:=W_def
  have hM:=M_def
  have h2:=hr.rows
  have hk:=hr.sch.key
  rw[S_impl_RelOk hX.ok]
  simp only[F_impl_RelOk,impl_RelOk_e,impl_RelOk_LP0]
  refine Eq.trans (scan0 (L:=fun m i=>impl_RelOk_L0 (DD X n) n _ _ m r.2.1 r.2.1.length (i:Int) r) (N:=r.2.1.length) (P:=relBad r.1 r.2.1)
    (A:=some ((false,()),())) (B:=some ((schemaOk r.1&&decide ((r.2.1.length:Int)≤12),()),())) (fun m i hi=>?_) (m:=n) (by omega)) ?_
  · simp only[impl_RelOk_L0,impl_RelOk_b0]
    by_cases h:i<r.2.1.length
    · have hc1:(decide ((0:Nat)≤0)&&decide ((0:Int)≤(i:Int))&&decide ((i:Int)≤(r.2.1.length:Int)))=true:=by
        rw[decide_eq_true (by omega),decide_eq_true (by omega),decide_eq_true (by omega)];rfl
      have hri:=hr.row _ (getD_mem (d:=[]) h)
      rw[br_pos (by exact_mod_cast h),ix h,br_t,Int.toNat_natCast,c_implRowOk hX.ok (n:=n) (by omega) r.1 hr.sch _ hri,bindD_some,wrap_succ (by omega),if_pos h,hc1]
      dsimp only
      unfold relBad
      cases hok:rowOk r.1 (r.2.1.getD i [])
      · rfl
      · have ec:=c_someClash hX.ok (n:=n) (by omega) r hr i h (rowOk_vals hok)
        rw[Bool.not_true,br_f,br_t,ec,bindD_some,Bool.false_or]
        dsimp only
        by_cases h0:0<i
        · have w1:IntKind.wrap IntKind.i64 ((i:Int) - 1)=((i - 1:Nat):Int):=by rw[wrap_id (by omega) (by omega)];omega
          have hrj:=hr.row _ (getD_mem (d:=[]) (show i - 1<r.2.1.length by omega))
          have l1:=project_len (r.2.1.getD (i - 1) []) r.1.2.1
          rw[br_pos (by omega),w1,ix (i:=i - 1) (by omega),br_t,Int.toNat_natCast,c_implKeyOfRow hX.ok (by omega) r.1 _ hrj hk,bindD_some]
          dsimp only
          rw[c_implKeyOfRow hX.ok (by omega) r.1 _ hri hk,bindD_some]
          dsimp only
          rw[c_implTupleLess hX (by omega) _ _ (by omega),bindD_some,decide_eq_true h0]
          dsimp only
          cases tlt (project (r.2.1.getD (i - 1) []) r.1.2.1) (project (r.2.1.getD i []) r.1.2.1)<;>rfl
        · rw[br_neg (by omega),decide_eq_false h0];rfl
    · rw[br_neg (by exact_mod_cast h),if_neg h]
      simp only[impl_RelOk_x0_1]
      rw[c_implSchemaOk hX.ok (by omega) r.1 hr.sch,bindD_some,cond_and]
  · unfold relOk
    cases anyFrom (relBad r.1 r.2.1) 0 r.2.1.length<;>rfl
theorem c_specRelOk {X:Ext} (hX:XOk X) {n:Nat} (hn:W+8≤n) (r:Rel) (hr:RelSm r):C_spec_RelOk (DD X n) r=some ((relOk r,()),()):=by
  obtain ⟨n,rfl⟩:∃ k,n=k+1:=⟨n - 1,by omega⟩
  have hW:=W_def
  have hM:=M_def
  have h2:=hr.rows
  have hk:=hr.sch.key
  rw[S_spec_RelOk hX]
  simp only[F_spec_RelOk,spec_RelOk_e,spec_RelOk_LP0]
  refine Eq.trans (scan0 (L:=fun m i=>spec_RelOk_L0 (DD X n) n _ _ m (i:Int) r) (N:=r.2.1.length) (P:=relBad r.1 r.2.1)
    (A:=some ((false,()),())) (B:=some ((schemaOk r.1&&decide ((r.2.1.length:Int)≤12),()),())) (fun m i hi=>?_) (m:=n) (by omega)) ?_
  · simp only[spec_RelOk_L0,spec_RelOk_b0,spec_RelOk_LP1]
    by_cases h:i<r.2.1.length
    · have hri:=hr.row _ (getD_mem (d:=[]) h)
      have el:=scan0 (L:=fun q k=>spec_RelOk_L1 (DD X n) n (fun v0_0 v0_1 v0_2=>spec_RelOk_x1_0 (DD X n) n (spec_RelOk_L0 (DD X n) n (fun v0_0 v0_1=>spec_RelOk_x0_0 (DD X n) n v0_0 v0_1) (fun v1_0=>spec_RelOk_x0_1 (DD X n) n v1_0) m) (fun v0_0 v0_1=>spec_RelOk_x0_0 (DD X n) n v0_0 v0_1) (fun v1_0=>spec_RelOk_x0_1 (DD X n) n v1_0) v0_0 v0_1 v0_2)
            (fun v1_0 v1_1=>spec_RelOk_x1_1 (DD X n) n (spec_RelOk_L0 (DD X n) n (fun v0_0 v0_1=>spec_RelOk_x0_0 (DD X n) n v0_0 v0_1) (fun v1_0=>spec_RelOk_x0_1 (DD X n) n v1_0) m) (fun v0_0 v0_1=>spec_RelOk_x0_0 (DD X n) n v0_0 v0_1) (fun v1_0=>spec_RelOk_x0_1 (DD X n) n v1_0) v1_0 v1_1) q (i:Int) (k:Int) r)
          (N:=i) (P:=fun k=>clash r.1 (r.2.1.getD i []) (r.2.1.getD k []))
          (A:=some ((false,()),())) (B:=spec_RelOk_L0 (DD X n) n (fun v0_0 v0_1=>spec_RelOk_x0_0 (DD X n) n v0_0 v0_1) (fun v1_0=>spec_RelOk_x0_1 (DD X n) n v1_0) m ((i+1:Nat):Int) r) (fun q k hk2=>by
        simp only[spec_RelOk_L1,spec_RelOk_b1]
        by_cases h3:k<i
        · rw[br_pos (by exact_mod_cast h3),ix (i:=k) (by omega),br_t,ix h,br_t,Int.toNat_natCast,Int.toNat_natCast,c_specClash hX (by omega) r.1 hr.sch _ _ (hr.row _ (getD_mem (by omega))) hri,bindD_some,wrap_succ (by omega),if_pos h3,clash_symm]
          rfl
        · rw[br_neg (by exact_mod_cast h3),if_neg h3]
          simp only[spec_RelOk_x1_1]
          rw[wrap_succ (by omega)]) (m:=n) (by omega)
      simp only[Int.natCast_zero] at el
      rw[br_pos (by exact_mod_cast h),ix h,br_t,Int.toNat_natCast,c_specRowOk hX (n:=n) (by omega) r.1 hr.sch _ hri,bindD_some,if_pos h]
      dsimp only
      unfold relBad
      cases hok:rowOk r.1 (r.2.1.getD i [])
      · rfl
      · rw[Bool.not_true,br_f,Bool.false_or]
        by_cases h0:0<i
        · have w1:IntKind.wrap IntKind.i64 ((i:Int) - 1)=((i - 1:Nat):Int):=by rw[wrap_id (by omega) (by omega)];omega
          have hrj:=hr.row _ (getD_mem (d:=[]) (show i - 1<r.2.1.length by omega))
          have l1:=project_len (r.2.1.getD (i - 1) []) r.1.2.1
          rw[br_pos (by omega),w1,ix (i:=i - 1) (by omega),br_t,Int.toNat_natCast,c_specKeyOfRow hX (by omega) r.1 _ hrj hk,bindD_some]
          dsimp only
          rw[br_t,c_specKeyOfRow hX (by omega) r.1 _ hri hk,bindD_some]
          dsimp only
          rw[c_specTupleLess hX (by omega) _ _ (by omega),bindD_some,decide_eq_true h0]
          dsimp only
          cases tlt (project (r.2.1.getD (i - 1) []) r.1.2.1) (project (r.2.1.getD i []) r.1.2.1)
          · rfl
          · exact el
        · rw[br_neg (by omega),decide_eq_false h0];exact el
    · rw[br_neg (by exact_mod_cast h),if_neg h]
      simp only[spec_RelOk_x0_1]
      rw[c_specSchemaOk hX (by omega) r.1 hr.sch,bindD_some,cond_and]
  · unfold relOk
    cases anyFrom (relBad r.1 r.2.1) 0 r.2.1.length<;>rfl
def keyIs (r:Rel) (key:Row) (i:Nat):Bool:=decide (project (r.2.1.getD i []) r.1.2.1=key)
def keyAt (r:Rel) (key:Row):Option Nat:=firstFrom (keyIs r key) 0 r.2.1.length
theorem keyAt_lt {r:Rel} {key:Row} {j:Nat} (h:keyAt r key=some j):j<r.2.1.length:=by
  have:=firstFrom_some h;omega
theorem clo_keyIs (D:Den ctx) (r:Rel) (key x:Row):applyClo ctx D (Clo.mk 173 [CapV.rptr (Ty.pair
                    (Ty.pair (Ty.sl (Ty.pair Ty.str (Ty.pair (Ty.int IntKind.i64) (Ty.pair Ty.bool Ty.unit))))
                      (Ty.pair (Ty.sl (Ty.int IntKind.i64))
                        (Ty.pair (Ty.sl (Ty.pair Ty.str (Ty.pair (Ty.sl (Ty.int IntKind.i64)) (Ty.pair Ty.bool Ty.unit)))) Ty.unit)))
                    (Ty.pair (Ty.sl (Ty.sl (Ty.pair (Ty.int IntKind.i64) (Ty.pair (Ty.int IntKind.i64) (Ty.pair Ty.str Ty.unit))))) Ty.unit)) r,CapV.rptr (Ty.sl (Ty.pair (Ty.int IntKind.i64) (Ty.pair (Ty.int IntKind.i64) (Ty.pair Ty.str Ty.unit)))) key]) [CapV.val (Ty.sl (Ty.pair (Ty.int IntKind.i64) (Ty.pair (Ty.int IntKind.i64) (Ty.pair Ty.str Ty.unit)))) x] Ty.bool=(C_impl_keyAt_1 D x r key).bind fun q=>some q.1.1:=by kernel_rfl
theorem c_keyAt {X:Ext} (hX:XOk X) {n:Nat} (hn:W+6≤n) (r:Rel) (hr:RelSm r) (key:Row):C_impl_keyAt (DD X n) r key=some ((match keyAt r key with | some j=>(j:Int) | none=>-1,()),()):=by
  obtain ⟨n,rfl⟩:∃ k,n=k+1:=⟨n - 1,by omega⟩
  have hM:=M_def
  have hd:=maxLen_def
  have h2:=hr.rows
  have hk:=hr.sch.key
  rw[S_impl_keyAt hX]
  simp only[F_impl_keyAt,impl_keyAt_e]
  rw[c_idxRow hX (n:=n) (by omega) _ (by omega) _ (keyIs r key) (fun i hi=>by
    obtain ⟨n,rfl⟩:∃ k,n=k+2:=⟨n - 2,by omega⟩
    rw[clo_keyIs,show n+2 - 1=n+1 from rfl,S_impl_keyAt_1 hX]
    simp only[F_impl_keyAt_1,impl_keyAt_1_e]
    have l1:=project_len (r.2.1.getD i []) r.1.2.1
    rw[c_implKeyOfRow hX (by omega) r.1 _ (hr.row _ (getD_mem hi)) hk,bindD_some]
    dsimp only
    rw[c_equal hX (by omega) _ _ (by omega),bindD_some]
    rfl),bindD_some]
  rfl
theorem c_l21At {X:Ext} (hX:XOk X) {n:Nat} (hn:W+6≤n) (r:Rel) (hr:RelSm r) (key:Row):C_spec_l21At (DD X n) r key=some ((match keyAt r key with | some j=>(j:Int) | none=>-1,()),()):=by
  obtain ⟨n,rfl⟩:∃ k,n=k+1:=⟨n - 1,by omega⟩
  have hM:=M_def
  have hW:=W_def
  have h2:=hr.rows
  have hk:=hr.sch.key
  rw[S_spec_l21At hX]
  simp only[F_spec_l21At,spec_l21At_e,spec_l21At_LP0]
  refine Eq.trans (scanF0 (L:=fun m i=>spec_l21At_L0 (DD X n) n _ _ m key (i:Int) r) (N:=r.2.1.length) (P:=keyIs r key)
    (A:=fun j=>some (((j:Int),()),())) (B:=some ((-1,()),())) (fun m i hi=>?_) (m:=n) (by omega)) ?_
  · simp only[spec_l21At_L0,spec_l21At_b0]
    by_cases h:i<r.2.1.length
    · have l1:=project_len (r.2.1.getD i []) r.1.2.1
      rw[br_pos (by exact_mod_cast h),ix h,br_t,Int.toNat_natCast,c_specKeyOfRow hX (by omega) r.1 _ (hr.row _ (getD_mem h)) hk,bindD_some]
      dsimp only
      rw[c_l18Same hX (by omega) _ _ (by omega),bindD_some,wrap_succ (by omega),if_pos h]
      rfl
    · rw[br_neg (by exact_mod_cast h),if_neg h];rfl
  · unfold keyAt
    cases firstFrom (keyIs r key) 0 r.2.1.length<;>rfl
theorem c_cloneRow {X:Ext} (hX:XOk X) {n:Nat} (hn:1≤n) (a:Row) (ha:a.length≤bound):C_slices_Clone_impl_Value_impl_Value (DD X n) a=some ((a,()),()):=by
  obtain ⟨n,rfl⟩:∃ k,n=k+1:=⟨n - 1,by omega⟩
  rw[S_slices_Clone_impl_Value_impl_Value hX]
  simp only[F_slices_Clone_impl_Value_impl_Value,slices_Clone_impl_Value_impl_Value_e]
  have hc:decide (0+a.length≤bound)=true:=decide_eq_true (by omega)
  rw[hc,br_t,List.nil_append]
  cases a with
  | nil=>simp[br_ite,both]
  | cons x a=>rw[br_neg (by simp)]
def lookup (r:Rel) (key:Row):Row×Bool:=match keyAt r key with | some j=>if relOk r=true then (r.2.1.getD j [],true) else ([],false) | none=>([],false)
theorem c_implLookup {X:Ext} (hX:XC X) {n:Nat} (hn:W+11≤n) (r:Rel) (hr:RelSm r) (key:Row):C_impl_Lookup (DD X n) r key=some (((lookup r key).1,(lookup r key).2,()),()):=by
  obtain ⟨n,rfl⟩:∃ k,n=k+1:=⟨n - 1,by omega⟩
  have hM:=M_def
  have hb:=bound_def
  rw[S_impl_Lookup hX.ok]
  simp only[F_impl_Lookup,impl_Lookup_e]
  rw[c_keyAt hX.ok (by omega) r hr,bindD_some,c_implRelOk hX (by omega) r hr,bindD_some]
  unfold lookup
  cases hk:keyAt r key with
  | none=>cases relOk r<;>rfl
  | some j=>
    have hj:=keyAt_lt hk
    dsimp only
    rw[ix hj,br_t,Int.toNat_natCast]
    cases relOk r
    · rfl
    · have:=hr.row _ (getD_mem (d:=[]) hj)
      rw[c_cloneRow hX.ok (by omega) _ (by omega),bindD_some,Bool.not_true,cond_false,br_neg (by omega)];rfl
end Go.G

namespace Go.G
set_option maxRecDepth 100000
open Go Go.V Go.Proofs
theorem c_cloneInts {X:Ext} (hX:XOk X) {n:Nat} (hn:1≤n) (a:List Int) (ha:a.length≤bound):C_slices_Clone_int_int (DD X n) a=some ((a,()),()):=by
  obtain ⟨n,rfl⟩:∃ k,n=k+1:=⟨n - 1,by omega⟩
  rw[S_slices_Clone_int_int hX]
  simp only[F_slices_Clone_int_int,slices_Clone_int_int_e]
  have hc:decide (0+a.length≤bound)=true:=decide_eq_true (by omega)
  rw[hc,br_t,List.nil_append]
  cases a with
  | nil=>simp[br_ite,both]
  | cons x a=>rw[br_neg (by simp)]
theorem c_cloneCols {X:Ext} (hX:XOk X) {n:Nat} (hn:1≤n) (a:List Col) (ha:a.length≤bound):C_slices_Clone_impl_Col_impl_Col (DD X n) a=some ((a,()),()):=by
  obtain ⟨n,rfl⟩:∃ k,n=k+1:=⟨n - 1,by omega⟩
  rw[S_slices_Clone_impl_Col_impl_Col hX]
  simp only[F_slices_Clone_impl_Col_impl_Col,slices_Clone_impl_Col_impl_Col_e]
  have hc:decide (0+a.length≤bound)=true:=decide_eq_true (by omega)
  rw[hc,br_t,List.nil_append]
  cases a with
  | nil=>simp[br_ite,both]
  | cons x a=>rw[br_neg (by simp)]
theorem copy_L {X:Ext} (hX:XOk X) (N n:Nat) (hN:1≤N) (K:Schema→Schema→Option ((Schema×Unit)×Unit)) (xs:List Index) (hx:xs.length≤M) (hc:∀ x∈xs,x.2.1.length≤M) (z:Schema) (c:List Col) (k:List Int):∀ (m i:Nat) (acc:List Index),i≤xs.length→xs.length - i<m→acc.length≤i→
    impl_copySchema_L0 (DD X N) n K m xs xs.length (i:Int) z (c,k,acc,())=K z (c,k,acc++xs.drop i,())
  | 0,_,_,_,h,_=>by omega
  | m+1,i,acc,hi,hf,ha=>by
    have hM:=M_def
    have hb:=bound_def
    simp only[impl_copySchema_L0,impl_copySchema_b0]
    by_cases h:i<xs.length
    · rw[br_pos (by exact_mod_cast h),ix h,br_t,Int.toNat_natCast,wrap_succ (by omega),drop_cons h,getD_lt h]
      have:=hc _ (List.getElem_mem h)
      rw[c_cloneInts hX hN _ (by omega),bindD_some,br_pos (by omega)]
      refine Eq.trans (copy_L hX N n hN K xs hx hc z c k m (i+1) _ (by omega) (by omega) (by simp;omega)) ?_
      rw[List.append_assoc];rfl
    · rw[br_neg (by exact_mod_cast h),drop_end h,List.append_nil]
theorem c_implCopySchema {X:Ext} (hX:XOk X) {n:Nat} (hn:W+3≤n) (s:Schema) (hs:SchSm s):C_impl_copySchema (DD X n) s=some ((s,()),()):=by
  obtain ⟨n,rfl⟩:∃ k,n=k+1:=⟨n - 1,by omega⟩
  have hM:=M_def
  have hb:=bound_def
  have hW:=W_def
  have h1:=hs.cols
  have h2:=hs.key
  have h3:=hs.ixs
  rw[S_impl_copySchema hX]
  simp only[F_impl_copySchema,impl_copySchema_e,impl_copySchema_LP0]
  rw[c_cloneCols hX (by omega) _ (by omega),bindD_some,c_cloneInts hX (by omega) _ (by omega),bindD_some]
  dsimp only
  refine Eq.trans (copy_L hX n n (by omega) _ s.2.2.1 h3 hs.ixc _ s.1 s.2.1 n 0 [] (by omega) (by omega) (by simp)) ?_
  rfl
theorem specCopy_L {X:Ext} (D:Den ctx) (n:Nat) (K:Schema→Schema→Option ((Schema×Unit)×Unit)) (s:Schema) (hx:s.2.2.1.length≤M) (hc:∀ x∈s.2.2.1,x.2.1.length≤M) (z:Schema) (c:List Col) (k:List Int):∀ (m i:Nat) (acc:List Index),i≤s.2.2.1.length→s.2.2.1.length - i<m→acc.length≤i→
    spec_l19Copy_L0 D n K m (i:Int) s z (c,k,acc,())=K z (c,k,acc++s.2.2.1.drop i,())
  | 0,_,_,_,h,_=>by omega
  | m+1,i,acc,hi,hf,ha=>by
    have hM:=M_def
    have hb:=bound_def
    simp only[spec_l19Copy_L0,spec_l19Copy_b0]
    by_cases h:i<s.2.2.1.length
    · have:=hc _ (List.getElem_mem h)
      rw[br_pos (by exact_mod_cast h),ix h,br_t,Int.toNat_natCast,wrap_succ (by omega),drop_cons h,getD_lt h,br_pos (by omega),br_pos (by omega)]
      refine Eq.trans (specCopy_L (X:=X) D n K s hx hc z c k m (i+1) _ (by omega) (by omega) (by simp;omega)) ?_
      rw[List.append_assoc];rfl
    · rw[br_neg (by exact_mod_cast h),drop_end h,List.append_nil]
theorem c_specCopySchema {X:Ext} (hX:XOk X) {n:Nat} (hn:W+3≤n) (s:Schema) (hs:SchSm s):C_spec_l19Copy (DD X n) s=some ((s,()),()):=by
  obtain ⟨n,rfl⟩:∃ k,n=k+1:=⟨n - 1,by omega⟩
  have hM:=M_def
  have hb:=bound_def
  have hW:=W_def
  have h1:=hs.cols
  have h2:=hs.key
  have h3:=hs.ixs
  rw[S_spec_l19Copy hX]
  simp only[F_spec_l19Copy,spec_l19Copy_e,spec_l19Copy_LP0]
  rw[br_pos (by omega),br_pos (by omega)]
  refine Eq.trans (specCopy_L (X:=X) (DD X n) n _ s h3 hs.ixc _ ([]++s.1) ([]++s.2.1) n 0 [] (by omega) (by omega) (by simp)) ?_
  rfl
def relNew (s:Schema):Rel×Bool:=if relOk (s,[],())=true then ((s,[],()),true) else ((([],[],[],()),[],()),false)
theorem relSm_new {s:Schema} (hs:SchSm s):RelSm (s,[],()):=⟨hs,Nat.zero_le _,fun _ h=>nomatch h⟩
theorem c_specRelNew {X:Ext} (hX:XOk X) {n:Nat} (hn:W+9≤n) (s:Schema) (hs:SchSm s):C_spec_RelNew (DD X n) s=some (((relNew s).1,(relNew s).2,()),()):=by
  obtain ⟨n,rfl⟩:∃ k,n=k+1:=⟨n - 1,by omega⟩
  rw[S_spec_RelNew hX]
  simp only[F_spec_RelNew,spec_RelNew_e]
  rw[c_specCopySchema hX (by omega) s hs,bindD_some]
  dsimp only
  have e:=c_specRelOk hX (n:=n) (by omega) (s,[],()) (relSm_new hs)
  refine Eq.trans (congrArg (fun x=>bindD x _) e) ?_
  rw[bindD_some]
  unfold relNew
  cases relOk (s,[],())<;>rfl
end Go.G

namespace Go.G
set_option maxRecDepth 100000
open Go Go.V Go.Proofs
theorem rows_L (D:Den ctx) (n:Nat) (K:List Row→Option ((List Row×Unit)×Unit)) (a:List Row) (ha:a.length≤M) (hr:∀ x∈a,x.length≤M):∀ (m i:Nat) (acc:List Row),i≤a.length→a.length - i<m→acc.length≤i→
    spec_l21Rows_L0 D n K m a (i:Int) acc=K (acc++a.drop i)
  | 0,_,_,_,h,_=>by omega
  | m+1,i,acc,hi,hf,hl=>by
    have hM:=M_def
    have hb:=bound_def
    simp only[spec_l21Rows_L0,spec_l21Rows_b0]
    by_cases h:i<a.length
    · have:=hr _ (List.getElem_mem h)
      rw[br_pos (by exact_mod_cast h),ix h,br_t,Int.toNat_natCast,getD_lt h,br_pos (by omega),br_pos (by omega),wrap_succ (by omega),drop_cons h]
      refine Eq.trans (rows_L D n K a ha hr m (i+1) _ (by omega) (by omega) (by simp;omega)) ?_
      rw[List.append_assoc];rfl
    · rw[br_neg (by exact_mod_cast h),drop_end h,List.append_nil]
theorem c_l21Rows {X:Ext} (hX:XOk X) {n:Nat} (hn:W+1≤n) (a:List Row) (ha:a.length≤M) (hr:∀ x∈a,x.length≤M):C_spec_l21Rows (DD X n) a=some ((a,()),()):=by
  obtain ⟨n,rfl⟩:∃ k,n=k+1:=⟨n - 1,by omega⟩
  have hM:=M_def
  have hW:=W_def
  rw[S_spec_l21Rows hX]
  simp only[F_spec_l21Rows,spec_l21Rows_e,spec_l21Rows_LP0]
  refine Eq.trans (rows_L (DD X n) n _ a ha hr n 0 [] (by omega) (by omega) (by simp)) ?_
  rfl
theorem tuples_L {X:Ext} (hX:XOk X) (N n:Nat) (hN:1≤N) (K:List Row→Option ((List Row×Unit)×Unit)) (a:List Row) (ha:a.length≤M) (hr:∀ x∈a,x.length≤M):∀ (m i:Nat) (acc:List Row),i≤a.length→a.length - i<m→acc.length≤i→
    impl_copyTuples_L0 (DD X N) n K m a (a.length:Int) (i:Int) acc=K (acc++a.drop i)
  | 0,_,_,_,h,_=>by omega
  | m+1,i,acc,hi,hf,hl=>by
    have hM:=M_def
    have hb:=bound_def
    simp only[impl_copyTuples_L0,impl_copyTuples_b0]
    by_cases h:i<a.length
    · have:=hr _ (List.getElem_mem h)
      rw[br_pos (by exact_mod_cast h),ix h,br_t,Int.toNat_natCast,getD_lt h,c_cloneRow hX hN _ (by omega),bindD_some,br_pos (by omega),wrap_succ (by omega),drop_cons h]
      refine Eq.trans (tuples_L hX N n hN K a ha hr m (i+1) _ (by omega) (by omega) (by simp;omega)) ?_
      rw[List.append_assoc];rfl
    · rw[br_neg (by exact_mod_cast h),drop_end h,List.append_nil]
theorem c_copyTuples {X:Ext} (hX:XOk X) {n:Nat} (hn:W+2≤n) (a:List Row) (ha:a.length≤M) (hr:∀ x∈a,x.length≤M):C_impl_copyTuples (DD X n) a=some ((a,()),()):=by
  obtain ⟨n,rfl⟩:∃ k,n=k+1:=⟨n - 1,by omega⟩
  have hM:=M_def
  have hW:=W_def
  rw[S_impl_copyTuples hX]
  simp only[F_impl_copyTuples,impl_copyTuples_e,impl_copyTuples_LP0]
  refine Eq.trans (tuples_L hX n n (by omega) _ a ha hr n 0 [] (by omega) (by omega) (by simp)) ?_
  rfl
theorem c_l21Copy {X:Ext} (hX:XOk X) {n:Nat} (hn:W+4≤n) (r:Rel) (hr:RelSm r):C_spec_l21Copy (DD X n) r=some ((r,()),()):=by
  obtain ⟨n,rfl⟩:∃ k,n=k+1:=⟨n - 1,by omega⟩
  rw[S_spec_l21Copy hX]
  simp only[F_spec_l21Copy,spec_l21Copy_e]
  rw[c_specCopySchema hX (by omega) _ hr.sch,bindD_some,c_l21Rows hX (by omega) _ hr.rows hr.row,bindD_some]
theorem c_copyRelation {X:Ext} (hX:XOk X) {n:Nat} (hn:W+4≤n) (r:Rel) (hr:RelSm r):C_impl_copyRelation (DD X n) r=some ((r,()),()):=by
  obtain ⟨n,rfl⟩:∃ k,n=k+1:=⟨n - 1,by omega⟩
  rw[S_impl_copyRelation hX]
  simp only[F_impl_copyRelation,impl_copyRelation_e]
  rw[c_implCopySchema hX (by omega) _ hr.sch,bindD_some,c_copyTuples hX (by omega) _ hr.rows hr.row,bindD_some]
def others (r:Rel) (row:Row) (j:Int):Bool:=anyFrom (fun k=>!decide ((k:Int)=j)&&clash r.1 (r.2.1.getD k []) row) 0 r.2.1.length
theorem c_l21Others {X:Ext} (hX:XOk X) {n:Nat} (hn:W+4≤n) (r:Rel) (hr:RelSm r) (row:Row) (hw:row.length≤M) (j:Int):C_spec_l21Others (DD X n) r row j=some ((others r row j,()),()):=by
  obtain ⟨n,rfl⟩:∃ k,n=k+1:=⟨n - 1,by omega⟩
  have hM:=M_def
  have hW:=W_def
  have h2:=hr.rows
  rw[S_spec_l21Others hX]
  simp only[F_spec_l21Others,spec_l21Others_e,spec_l21Others_LP0]
  refine Eq.trans (scan0 (L:=fun m i=>spec_l21Others_L0 (DD X n) n _ _ m row j (i:Int) r) (N:=r.2.1.length) (P:=fun k=>!decide ((k:Int)=j)&&clash r.1 (r.2.1.getD k []) row)
    (A:=some ((true,()),())) (B:=some ((false,()),())) (fun m i hi=>?_) (m:=n) (by omega)) ?_
  · simp only[spec_l21Others_L0,spec_l21Others_b0]
    by_cases h:i<r.2.1.length
    · rw[br_pos (by exact_mod_cast h),ix h,br_t,Int.toNat_natCast,c_specClash hX (by omega) r.1 hr.sch _ _ (hr.row _ (getD_mem h)) hw,bindD_some,wrap_succ (by omega),if_pos h,bne_dec]
      cases decide ((i:Int)=j)<;>rfl
    · rw[br_neg (by exact_mod_cast h),if_neg h];rfl
  · unfold others
    cases anyFrom (fun k=>!decide ((k:Int)=j)&&clash r.1 (r.2.1.getD k []) row) 0 r.2.1.length<;>rfl
def replaceR (r:Rel) (row:Row):Rel×Int:=
  if relOk r=true∧rowOk r.1 row=true then
    match keyAt r (project row r.1.2.1) with
    | some j=>if others r row j=true then (r,3) else ((r.1,r.2.1.set j row,()),0)
    | none=>(r,4)
  else (r,1)
theorem c_specReplace {X:Ext} (hX:XOk X) {n:Nat} (hn:W+9≤n) (r:Rel) (hr:RelSm r) (row:Row) (hw:row.length≤M):C_spec_Replace (DD X n) r row=some (((replaceR r row).1,(replaceR r row).2,()),()):=by
  obtain ⟨n,rfl⟩:∃ k,n=k+1:=⟨n - 1,by omega⟩
  have hM:=M_def
  have hb:=bound_def
  rw[S_spec_Replace hX]
  simp only[F_spec_Replace,spec_Replace_e]
  rw[c_l21Copy hX (by omega) r hr,bindD_some,c_specRelOk hX (by omega) r hr,bindD_some,c_specRowOk hX (by omega) r.1 hr.sch row hw,bindD_some,c_specKeyOfRow hX (by omega) r.1 row hw hr.sch.key,bindD_some]
  dsimp only
  rw[c_l21At hX (by omega) r hr,bindD_some]
  dsimp only
  rw[c_l21Others hX (by omega) r hr row hw,bindD_some]
  unfold replaceR
  cases relOk r
  · rfl
  · cases rowOk r.1 row
    · rfl
    · cases hk:keyAt r (project row r.1.2.1) with
      | none=>rfl
      | some j=>
        have hj:=keyAt_lt hk
        dsimp only
        rw[br_neg (show ¬ (j:Int)<0 by omega),ix hj,br_t,br_pos (show 0+row.length≤bound by omega)]
        cases others r row j<;>rfl
theorem c_implReplace {X:Ext} (hX:XC X) {n:Nat} (hn:W+11≤n) (r:Rel) (hr:RelSm r) (row:Row) (hw:row.length≤M):C_impl_Replace (DD X n) r row=some (((replaceR r row).1,(replaceR r row).2,()),()):=by
  obtain ⟨n,rfl⟩:∃ k,n=k+1:=⟨n - 1,by omega⟩
  have hM:=M_def
  have hb:=bound_def
  have hW:=W_def
  have h2:=hr.rows
  rw[S_impl_Replace hX.ok]
  simp only[F_impl_Replace,impl_Replace_e,impl_Replace_LP0]
  have e1:=c_copyRelation hX.ok (n:=n) (by omega) r hr
  have e2:=c_implRelOk hX (n:=n) (by omega) r hr
  have e3:=c_implRowOk hX.ok (n:=n) (by omega) r.1 hr.sch row hw
  have e4:=c_implKeyOfRow hX.ok (n:=n) (by omega) r.1 row hw hr.sch.key
  have e5:=c_keyAt hX.ok (n:=n) (by omega) r hr (project row r.1.2.1)
  rw[e1,bindD_some]
  dsimp only
  refine Eq.trans (congrArg (fun z=>bindD z _) e2) ?_
  rw[bindD_some]
  dsimp only
  unfold replaceR
  cases relOk r
  · rfl
  · rw[Bool.not_true,br_f]
    refine Eq.trans (congrArg (fun z=>bindD z _) e3) ?_
    rw[bindD_some]
    dsimp only
    cases hrow:rowOk r.1 row
    · rfl
    · rw[Bool.not_true,br_f]
      refine Eq.trans (congrArg (fun z=>bindD z _) e4) ?_
      rw[bindD_some]
      dsimp only
      refine Eq.trans (congrArg (fun z=>bindD z _) e5) ?_
      rw[bindD_some]
      dsimp only
      cases hk:keyAt r (project row r.1.2.1) with
      | none=>rfl
      | some j=>
        have hj:=keyAt_lt hk
        dsimp only
        rw[br_neg (show ¬ (j:Int)<0 by omega),if_pos ⟨rfl,rfl⟩]
        refine Eq.trans (scan0 (L:=fun m i=>impl_Replace_L0 (DD X n) n _ _ m row (j:Int) (r.2.1.length:Int) (i:Int) r (([],[],[],()),[],())) (N:=r.2.1.length) (P:=fun k=>!decide ((k:Int)=(j:Int))&&clash r.1 (r.2.1.getD k []) row)
          (A:=some ((r,3,()),())) (B:=some (((r.1,r.2.1.set j row,()),0,()),())) (fun m i hi=>?_) (m:=n) (by omega)) ?_
        · simp only[impl_Replace_L0,impl_Replace_b0]
          by_cases h:i<r.2.1.length
          · have ec:=c_implClash hX.ok (n:=n) (by omega) r.1 hr.sch row (r.2.1.getD i []) hw (hr.row _ (getD_mem h)) (rowOk_vals hrow)
            rw[br_pos (by exact_mod_cast h),ix h,br_t,Int.toNat_natCast,wrap_succ (by omega),if_pos h,bne_dec]
            cases decide ((i:Int)=(j:Int))
            · rw[Bool.not_false,br_t]
              refine Eq.trans (congrArg (fun z=>bindD z _) ec) ?_
              rw[bindD_some,clash_symm]
              cases clash r.1 (r.2.1.getD i []) row<;>rfl
            · rfl
          · rw[br_neg (by exact_mod_cast h),if_neg h]
            simp only[impl_Replace_x0_1]
            rw[c_cloneRow hX.ok (by omega) row (by omega),bindD_some,ix hj,br_t]
            rfl
        · unfold others
          cases anyFrom (fun k=>!decide ((k:Int)=(j:Int))&&clash r.1 (r.2.1.getD k []) row) 0 r.2.1.length<;>rfl
end Go.G

namespace Go.G
set_option maxRecDepth 100000
open Go Go.V Go.Proofs
def insPos (r:Rel) (key:Row):Nat:=match firstFrom (fun i=>!tlt (project (r.2.1.getD i []) r.1.2.1) key) 0 r.2.1.length with | some j=>j | none=>r.2.1.length
theorem insPos_le (r:Rel) (key:Row):insPos r key≤r.2.1.length:=by
  unfold insPos
  split
  · rename_i j h
    have:=firstFrom_some h;omega
  · exact Nat.le_refl _
def insertR (r:Rel) (row:Row):Rel×Int:=
  if relOk r=true∧rowOk r.1 row=true then
    match keyAt r (project row r.1.2.1) with
    | some j=>(r,2)
    | none=>if others r row (-1)=true then (r,3) else if (r.2.1.length:Int)≥12 then (r,5) else
      ((r.1,r.2.1.take (insPos r (project row r.1.2.1))++[row]++r.2.1.drop (insPos r (project row r.1.2.1)),()),0)
  else (r,1)
theorem ins_x {X:Ext} (hX:XOk X) (N n:Nat) (hN:W+1≤N) (r:Rel) (hr:RelSm r) (row:Row) (hw:row.length≤M) (z:Rel) (p:Nat) (hp:p≤r.2.1.length) :
    spec_Insert_x0_0 (DD X N) n row (p:Int) r z r=some (((r.1,r.2.1.take p++[row]++r.2.1.drop p,()),0,()),()):=by
  have hM:=M_def
  have hb:=bound_def
  have h2:=hr.rows
  have c1:(decide ((0:Nat)≤0)&&decide ((0:Int)≤(p:Int))&&decide ((p:Int)≤(r.2.1.length:Int)))=true:=by
    rw[decide_eq_true (by omega),decide_eq_true (by omega),decide_eq_true (by omega)];rfl
  have c2:(decide ((0:Int)≤(p:Int))&&decide ((p:Int)≤(r.2.1.length:Int))&&decide ((r.2.1.length:Int)≤(r.2.1.length:Int)))=true:=by
    rw[decide_eq_true (by omega),decide_eq_true (by omega),decide_eq_true (by omega)];rfl
  have t1:List.drop (Int.toNat 0) (List.take p r.2.1)=r.2.1.take p:=rfl
  simp only[spec_Insert_x0_0]
  rw[c1,br_t,c2,Int.toNat_natCast,Int.toNat_natCast,t1,List.take_length,c_l21Rows hX hN _ (by rw[List.length_take];omega) (fun x hx=>hr.row x (List.mem_of_mem_take hx)),bindD_some]
  dsimp only
  rw[br_pos (by omega),br_pos (by rw[List.length_take];omega),br_t,c_l21Rows hX hN _ (by rw[List.length_drop];omega) (fun x hx=>hr.row x (List.mem_of_mem_drop hx)),bindD_some]
  dsimp only
  rw[br_pos (by simp only[List.length_append,List.length_take,List.length_drop,List.length_cons,List.length_nil];omega)]
  rfl
theorem c_specInsert {X:Ext} (hX:XOk X) {n:Nat} (hn:W+9≤n) (r:Rel) (hr:RelSm r) (row:Row) (hw:row.length≤M):C_spec_Insert (DD X n) r row=some (((insertR r row).1,(insertR r row).2,()),()):=by
  obtain ⟨n,rfl⟩:∃ k,n=k+1:=⟨n - 1,by omega⟩
  have hM:=M_def
  have hW:=W_def
  have hb:=bound_def
  have h2:=hr.rows
  have hk:=hr.sch.key
  rw[S_spec_Insert hX]
  simp only[F_spec_Insert,spec_Insert_e,spec_Insert_LP0]
  rw[c_l21Copy hX (by omega) r hr,bindD_some,c_specRelOk hX (by omega) r hr,bindD_some,c_specRowOk hX (by omega) r.1 hr.sch row hw,bindD_some,c_specKeyOfRow hX (by omega) r.1 row hw hk,bindD_some]
  dsimp only
  rw[c_l21At hX (by omega) r hr,bindD_some]
  dsimp only
  rw[c_l21Others hX (by omega) r hr row hw,bindD_some]
  unfold insertR
  cases relOk r
  · rfl
  · cases rowOk r.1 row
    · rfl
    · rw[if_pos ⟨rfl,rfl⟩,Bool.not_true,br_f,br_f]
      cases hkey:keyAt r (project row r.1.2.1) with
      | some j=>
        dsimp only
        rw[br_pos (show (j:Int)≥0 by omega)]
      | none=>
        dsimp only
        rw[br_neg (by decide)]
        cases others r row (-1)
        · rw[br_f,if_neg Bool.noConfusion]
          by_cases h12:(r.2.1.length:Int)≥12
          · rw[br_pos h12,if_pos h12]
          · rw[br_neg h12,if_neg h12]
            refine Eq.trans (scanF0 (L:=fun m i=>spec_Insert_L0 (DD X n) n _ m row (i:Int) r (([],[],[],()),[],()) r) (N:=r.2.1.length) (P:=fun i=>!tlt (project (r.2.1.getD i []) r.1.2.1) (project row r.1.2.1))
              (A:=fun j=>spec_Insert_x0_0 (DD X n) n row (j:Int) r (([],[],[],()),[],()) r) (B:=spec_Insert_x0_0 (DD X n) n row (r.2.1.length:Int) r (([],[],[],()),[],()) r) (fun m i hi=>?_) (m:=n) (by omega)) ?_
            · simp only[spec_Insert_L0,spec_Insert_b0]
              by_cases h:i<r.2.1.length
              · have l1:=project_len (r.2.1.getD i []) r.1.2.1
                rw[br_pos (by exact_mod_cast h),ix h,br_t,Int.toNat_natCast,c_specKeyOfRow hX (by omega) r.1 _ (hr.row _ (getD_mem h)) hk,bindD_some,c_specKeyOfRow hX (by omega) r.1 row hw hk,bindD_some]
                dsimp only
                rw[c_specTupleLess hX (by omega) _ _ (by omega),bindD_some,wrap_succ (by omega),if_pos h]
                dsimp only
                cases tlt (project (r.2.1.getD i []) r.1.2.1) (project row r.1.2.1)<;>rfl
              · have hin:i=r.2.1.length:=by omega
                rw[br_neg (by exact_mod_cast h),if_neg h,hin]
            · unfold insPos
              cases hf:firstFrom (fun i=>!tlt (project (r.2.1.getD i []) r.1.2.1) (project row r.1.2.1)) 0 r.2.1.length with
              | none=>exact ins_x hX n n (by omega) r hr row hw _ _ (Nat.le_refl _)
              | some j=>
                have:=firstFrom_some hf
                exact ins_x hX n n (by omega) r hr row hw _ j (by omega)
        · rfl
def removeR (r:Rel) (key:Row):Rel×Int:=
  if relOk r=true then
    match keyAt r key with
    | some j=>((r.1,r.2.1.take j++r.2.1.drop (j+1),()),0)
    | none=>(r,4)
  else (r,1)
theorem c_specRemove {X:Ext} (hX:XOk X) {n:Nat} (hn:W+9≤n) (r:Rel) (hr:RelSm r) (key:Row):C_spec_Remove (DD X n) r key=some (((removeR r key).1,(removeR r key).2,()),()):=by
  obtain ⟨n,rfl⟩:∃ k,n=k+1:=⟨n - 1,by omega⟩
  have hM:=M_def
  have hW:=W_def
  have hb:=bound_def
  have h2:=hr.rows
  rw[S_spec_Remove hX]
  simp only[F_spec_Remove,spec_Remove_e]
  rw[c_l21Copy hX (by omega) r hr,bindD_some,c_specRelOk hX (by omega) r hr,bindD_some,c_l21At hX (by omega) r hr,bindD_some]
  unfold removeR
  cases relOk r
  · rfl
  · rw[if_pos rfl,Bool.not_true,br_f]
    cases hkey:keyAt r key with
    | none=>rfl
    | some j=>
      have hj:=keyAt_lt hkey
      dsimp only
      have w1:IntKind.wrap IntKind.i64 ((j:Int)+1)=((j+1:Nat):Int):=wrap_succ (by omega)
      have c1:(decide ((0:Nat)≤0)&&decide ((0:Int)≤(j:Int))&&decide ((j:Int)≤(r.2.1.length:Int)))=true:=by
        rw[decide_eq_true (by omega),decide_eq_true (by omega),decide_eq_true (by omega)];rfl
      have c2:(decide ((0:Int)≤((j+1:Nat):Int))&&decide (((j+1:Nat):Int)≤(r.2.1.length:Int))&&decide ((r.2.1.length:Int)≤(r.2.1.length:Int)))=true:=by
        rw[decide_eq_true (by omega),decide_eq_true (by omega),decide_eq_true (by omega)];rfl
      have t1:List.drop (Int.toNat 0) (List.take j r.2.1)=r.2.1.take j:=rfl
      rw[br_neg (show ¬ (j:Int)<0 by omega),c1,br_t,w1,c2,Int.toNat_natCast,Int.toNat_natCast,Int.toNat_natCast,t1,List.take_length,c_l21Rows hX (by omega) _ (by rw[List.length_take];omega) (fun x hx=>hr.row x (List.mem_of_mem_take hx)),bindD_some]
      dsimp only
      rw[br_t,c_l21Rows hX (by omega) _ (by rw[List.length_drop];omega) (fun x hx=>hr.row x (List.mem_of_mem_drop hx)),bindD_some]
      dsimp only
      rw[br_pos (by simp only[List.length_take,List.length_drop];omega)]
structure InvR (r:Rel):Prop where
  sch:SchSm r.1
  cols:r.1.1.length≤4
  rows:r.2.1.length≤12
  row:∀ x∈r.2.1,x.length≤5
theorem InvR.sm {r:Rel} (h:InvR r):RelSm r:=by
  have hM:=M_def
  obtain ⟨a,b,c,d⟩:=h
  exact ⟨a,by omega,fun x hx=>by have:=d x hx;omega⟩
theorem inv_insert {r:Rel} (h:InvR r) {row:Row} (hw:row.length≤5):InvR (insertR r row).1:=by
  unfold insertR
  split
  · split
    · exact h
    · split
      · exact h
      · split
        · exact h
        · refine ⟨h.sch,h.cols,?_,fun x hx=>?_⟩
          · have:=insPos_le r (project row r.1.2.1)
            simp only[List.length_append,List.length_take,List.length_drop,List.length_cons,List.length_nil];omega
          · simp only[List.mem_append,List.mem_singleton] at hx
            rcases hx with (hx | rfl) | hx
            · exact h.row x (List.mem_of_mem_take hx)
            · exact hw
            · exact h.row x (List.mem_of_mem_drop hx)
  · exact h
theorem inv_remove {r:Rel} (h:InvR r) (key:Row):InvR (removeR r key).1:=by
  unfold removeR
  split
  · split
    · refine ⟨h.sch,h.cols,?_,fun x hx=>?_⟩
      · have:=h.rows
        simp only[List.length_append,List.length_take,List.length_drop];omega
      · simp only[List.mem_append] at hx
        rcases hx with hx | hx
        · exact h.row x (List.mem_of_mem_take hx)
        · exact h.row x (List.mem_of_mem_drop hx)
    · exact h
  · exact h
theorem inv_replace {r:Rel} (h:InvR r) {row:Row} (hw:row.length≤5):InvR (replaceR r row).1:=by
  unfold replaceR
  split
  · split
    · split
      · exact h
      · refine ⟨h.sch,h.cols,by simp only[List.length_set];exact h.rows,fun x hx=>?_⟩
        rcases List.mem_or_eq_of_mem_set hx with hx | rfl
        · exact h.row x hx
        · exact hw
    · exact h
  · exact h
theorem inv_new {s:Schema} (h:DrawnS s):InvR (relNew s).1:=by
  unfold relNew
  split
  · exact ⟨h.sm,h.hi,Nat.zero_le _,(fun _ h=>nomatch h)⟩
  · exact ⟨⟨Nat.zero_le _,(fun _ h=>nomatch h),Nat.zero_le _,Nat.zero_le _,(fun _ h=>nomatch h),(fun _ h=>nomatch h)⟩,Nat.zero_le _,Nat.zero_le _,(fun _ h=>nomatch h)⟩
theorem drawR_L {X:Ext} (hX:XOk X) (N n:Nat) (hN:W+9≤N) (K:Cur→Rel→Rel→Option ((Rel×Unit)×Cur×Unit)) (z:Rel):∀ (m i:Nat) (c:Cur) (r:Rel),i≤9→9 - i<m→InvR r→CurOk c→
    ∃ (c':Cur) (r':Rel),CurOk c'∧InvR r'∧spec_l21DrawRight_L0 (DD X N) n K m (i:Int) c z r=K c' z r'
  | 0,_,_,_,_,h,_,_=>by omega
  | m+1,i,c,r,hi,hf,hr,hc=>by
    have hM:=M_def
    simp only[spec_l21DrawRight_L0,spec_l21DrawRight_b0]
    obtain ⟨x,c1,hx,_,h1,e1⟩:=c_l1Below hX (n:=N) (by omega) hc 9
    obtain ⟨x1,x2⟩:=hx (by omega)
    rw[e1,bindD_some]
    dsimp only
    by_cases h:(i:Int)<x
    · obtain ⟨row,c2,h2,hl,_,e2⟩:=c_l19DrawRow hX (n:=N) (by omega) h1 r.1 hr.cols
      obtain ⟨y,c3,_,_,h3,e3⟩:=c_l1Below hX (n:=N) (by omega) h2 6
      have hl5:row.length≤5:=by have:=hr.cols;omega
      have hl6:row.length≤M:=by omega
      rw[br_pos h,e2,bindD_some]
      dsimp only
      rw[e3,bindD_some,wrap_succ (by omega)]
      dsimp only
      by_cases k0:y=0
      · rw[br_pos k0,c_specKeyOfRow hX (by omega) r.1 row hl6 hr.sch.key,bindD_some]
        dsimp only
        rw[c_specRemove hX (by omega) r hr.sm,bindD_some]
        exact drawR_L hX N n hN K z m (i+1) c3 _ (by omega) (by omega) (inv_remove hr _) h3
      · rw[br_neg k0]
        by_cases k1:y=1
        · rw[br_pos k1,c_specReplace hX (by omega) r hr.sm row hl6,bindD_some]
          exact drawR_L hX N n hN K z m (i+1) c3 _ (by omega) (by omega) (inv_replace hr hl5) h3
        · rw[br_neg k1,c_specInsert hX (by omega) r hr.sm row hl6,bindD_some]
          exact drawR_L hX N n hN K z m (i+1) c3 _ (by omega) (by omega) (inv_insert hr hl5) h3
    · rw[br_neg h]
      exact ⟨c1,r,h1,hr,rfl⟩
theorem c_l21DrawRight {X:Ext} (hX:XOk X) {n:Nat} (hn:W+10≤n) {c:Cur} (hc:CurOk c):∃ (r:Rel) (c':Cur),InvR r∧CurOk c'∧C_spec_l21DrawRight (DD X n) c=some ((r,()),(c',())):=by
  obtain ⟨n,rfl⟩:∃ k,n=k+1:=⟨n - 1,by omega⟩
  have hW:=W_def
  rw[S_spec_l21DrawRight hX]
  simp only[F_spec_l21DrawRight,spec_l21DrawRight_e,spec_l21DrawRight_LP0]
  obtain ⟨s,c1,hs,_,_,h1,e1⟩:=c_l19DrawRight hX (n:=n) (by omega) hc
  rw[e1,bindD_some]
  dsimp only
  rw[c_specRelNew hX (by omega) s hs.sm,bindD_some]
  dsimp only
  obtain ⟨c2,r,h2,hr,e⟩:=drawR_L hX n n (by omega) (fun v0_0 v0_1 v0_2=>spec_l21DrawRight_x0_0 (DD X n) n v0_0 v0_1 v0_2) (([],[],[],()),[],()) n 0 c1 (relNew s).1 (by omega) (by omega) (inv_new hs) h1
  exact ⟨r,c2,hr,h2,e⟩
theorem c_l21DrawRow {X:Ext} (hX:XOk X) {n:Nat} (hn:W+3≤n) {c:Cur} (hc:CurOk c) (r:Rel) (hr:InvR r):∃ (row:Row) (c':Cur),row.length≤5∧CurOk c'∧C_spec_l21DrawRow (DD X n) c r=some ((row,()),(c',())):=by
  obtain ⟨n,rfl⟩:∃ k,n=k+1:=⟨n - 1,by omega⟩
  have hW:=W_def
  rw[S_spec_l21DrawRow hX]
  simp only[F_spec_l21DrawRow,spec_l21DrawRow_e]
  obtain ⟨row,c1,h1,hl,_,e1⟩:=c_l19DrawRow hX (n:=n) (by omega) hc r.1 hr.cols
  have hl5:row.length≤5:=by have:=hr.cols;omega
  rw[e1,bindD_some]
  dsimp only
  rw[cond_and]
  by_cases ha:(r.2.1.length:Int)>0
  · by_cases hb:(row.length:Int)>0
    · rw[decide_eq_true ha,decide_eq_true hb,Bool.true_and,br_t]
      obtain ⟨b,c2,h2,e2⟩:=c_l1Once hX (n:=n) (by omega) h1 2
      rw[e2,bindD_some]
      dsimp only
      cases b
      · exact ⟨row,c2,hl5,h2,rfl⟩
      · rw[br_t]
        obtain ⟨x,c3,hx,_,h3,e3⟩:=c_l1Below hX (n:=n) (by omega) h2 (r.2.1.length:Int)
        obtain ⟨x1,x2⟩:=hx ha
        rw[e3,bindD_some]
        dsimp only
        rw[ixn x1 x2,br_t]
        by_cases h0:((r.2.1.getD x.toNat []).length:Int)>0
        · have d1:∀ k:Nat,(k:Int)>0→(decide ((0:Nat)≤0)&&decide ((0:Int)<(k:Int)))=true:=fun k hk=>by
            rw[decide_eq_true (by omega),decide_eq_true (by omega)];rfl
          have d2:(decide ((0:Nat)≤0)&&true)=true:=rfl
          rw[br_pos h0,d1 _ h0,br_t,d2,br_t]
          exact ⟨_,c3,by rw[List.length_set];exact hl5,h3,rfl⟩
        · rw[br_neg h0]
          exact ⟨row,c3,hl5,h3,rfl⟩
    · rw[decide_eq_false hb,Bool.and_false,br_f]
      exact ⟨row,c1,hl5,h1,rfl⟩
  · rw[decide_eq_false ha,Bool.false_and,br_f]
    exact ⟨row,c1,hl5,h1,rfl⟩
theorem c_drawRelation {X:Ext} (hX:XOk X) {n:Nat} (hn:W+11≤n) (a:List Int) (ha:a.length≤1048576):∃ (r:Rel) (row:Row),InvR r∧row.length≤5∧C_spec_DrawRelation (DD X n) a=some ((r,row,()),()):=by
  obtain ⟨n,rfl⟩:∃ k,n=k+1:=⟨n - 1,by omega⟩
  rw[S_spec_DrawRelation hX]
  simp only[F_spec_DrawRelation,spec_DrawRelation_e]
  obtain ⟨c,hc,e⟩:=c_l1New hX (n:=n) (by omega) a ha
  obtain ⟨r,c1,hr,h1,e1⟩:=c_l21DrawRight hX (n:=n) (by omega) hc
  obtain ⟨row,c2,hl,h2,e2⟩:=c_l21DrawRow hX (n:=n) (by omega) h1 r hr
  rw[e,bindD_some];dsimp only
  rw[e1,bindD_some];dsimp only
  refine ⟨r,row,hr,hl,Eq.trans (congrArg (fun z=>bindD z _) e2) ?_⟩
  rw[bindD_some]
end Go.G

/- The row FnReplaced holds: for all bytes the law returns true and the argument reads as before. No condition. -/
namespace Go.G
set_option linter.unusedVariables false
set_option linter.unusedSimpArgs false
set_option maxRecDepth 100000
open Go Go.V Go.Proofs

theorem c_sameTuple {X:Ext} (hX:XOk X) {n:Nat} (hn:W+1≤n) (a b:Row) (ha:a.length≤M):C_laws_sameTuple (DD X n) a b=some ((decide (a=b),()),()):=by
  obtain ⟨n,rfl⟩:∃ k,n=k+1:=⟨n - 1,by omega⟩
  have hM:=M_def
  have hW:=W_def
  rw[S_laws_sameTuple hX]
  simp only[F_laws_sameTuple,laws_sameTuple_e,laws_sameTuple_LP0]
  rw[len_bne]
  by_cases hl:a.length=b.length
  · rw[decide_eq_true hl,Bool.not_true,br_f]
    refine Eq.trans (scan0 (L:=fun m i=>laws_sameTuple_L0 (DD X n) n _ _ m a b (i:Int)) (N:=a.length) (P:=fun i=>!decide (a.getD i vd=b.getD i vd))
      (A:=some ((false,()),())) (B:=some ((true,()),())) (fun m i hi=>?_) (m:=n) (by omega)) ?_
    · simp only[laws_sameTuple_L0,laws_sameTuple_b0]
      by_cases h:i<a.length
      · rw[br_pos (by exact_mod_cast h),ix h,br_t,ix (hl ▸ h),br_t,Int.toNat_natCast,eqVal_den,wrap_succ (by omega),if_pos h];rfl
      · rw[br_neg (by exact_mod_cast h),if_neg h];rfl
    · by_cases e:a=b
      · rw[decide_eq_true e,anyFrom_false.2 (fun j _ _=>by rw[e];simp)];rfl
      · rw[decide_eq_false e]
        have:anyFrom (fun i=>!decide (a.getD i vd=b.getD i vd)) 0 a.length=true:=by
          rw[←Bool.not_eq_false]
          intro hf
          apply e
          apply List.ext_getElem hl
          intro i h1 h2
          have:=anyFrom_false.1 hf i (by omega) (by omega)
          rw[getD_lt h1,getD_lt h2] at this
          simpa using this
        rw[this];rfl
  · have:¬ a=b:=fun e=>hl (by rw[e])
    rw[decide_eq_false hl,decide_eq_false this];rfl
theorem c_sameInts_refl {X:Ext} (hX:XOk X) {n:Nat} (hn:W+1≤n) (a:List Int) (ha:a.length≤M):C_laws_sameInts (DD X n) a a=some ((true,()),()):=by
  obtain ⟨n,rfl⟩:∃ k,n=k+1:=⟨n - 1,by omega⟩
  have hM:=M_def
  have hW:=W_def
  rw[S_laws_sameInts hX]
  simp only[F_laws_sameInts,laws_sameInts_e,laws_sameInts_LP0]
  rw[bne_self_eq_false,br_f]
  refine Eq.trans (scan0 (L:=fun m i=>laws_sameInts_L0 (DD X n) n _ _ m a a (i:Int)) (N:=a.length) (P:=fun i=>false)
    (A:=some ((false,()),())) (B:=some ((true,()),())) (fun m i hi=>?_) (m:=n) (by omega)) ?_
  · simp only[laws_sameInts_L0,laws_sameInts_b0]
    by_cases h:i<a.length
    · rw[br_pos (by exact_mod_cast h),ix h,br_t,br_t,bne_self_eq_false,br_f,wrap_succ (by omega),if_pos h];rfl
    · rw[br_neg (by exact_mod_cast h),if_neg h];rfl
  · rw[anyFrom_false.2 (fun _ _ _=>rfl)];rfl
theorem c_sameRows_refl {X:Ext} (hX:XOk X) {n:Nat} (hn:W+2≤n) (a:List Row) (ha:a.length≤M) (hr:∀ x∈a,x.length≤M):C_laws_sameRows (DD X n) a a=some ((true,()),()):=by
  obtain ⟨n,rfl⟩:∃ k,n=k+1:=⟨n - 1,by omega⟩
  have hM:=M_def
  have hW:=W_def
  rw[S_laws_sameRows hX]
  simp only[F_laws_sameRows,laws_sameRows_e,laws_sameRows_LP0]
  rw[bne_self_eq_false,br_f]
  refine Eq.trans (scan0 (L:=fun m i=>laws_sameRows_L0 (DD X n) n _ _ m a a (i:Int)) (N:=a.length) (P:=fun i=>false)
    (A:=some ((false,()),())) (B:=some ((true,()),())) (fun m i hi=>?_) (m:=n) (by omega)) ?_
  · simp only[laws_sameRows_L0,laws_sameRows_b0]
    by_cases h:i<a.length
    · rw[br_pos (by exact_mod_cast h),ix h,br_t,br_t,c_sameTuple hX (by omega) _ _ (hr _ (getD_mem (by rw[Int.toNat_natCast];exact h))),bindD_some,decide_eq_true rfl,wrap_succ (by omega),if_pos h];rfl
    · rw[br_neg (by exact_mod_cast h),if_neg h];rfl
  · rw[anyFrom_false.2 (fun _ _ _=>rfl)];rfl
theorem eqCol_self (a:Col):eqDen (Ty.pair Ty.str (Ty.pair (Ty.int IntKind.i64) (Ty.pair Ty.bool Ty.unit))) a a=true:=by
  obtain ⟨a1,a2,a3,⟨⟩⟩:=a
  simp[eqDen]
theorem c_sameRel_refl {X:Ext} (hX:XOk X) {n:Nat} (hn:W+3≤n) (r:Rel) (hr:RelSm r):C_laws_sameRel (DD X n) r r=some ((true,()),()):=by
  obtain ⟨n,rfl⟩:∃ k,n=k+1:=⟨n - 1,by omega⟩
  have hM:=M_def
  have hW:=W_def
  have h1:=hr.sch.cols
  have h3:=hr.sch.ixs
  rw[S_laws_sameRel hX]
  simp only[F_laws_sameRel,laws_sameRel_e,laws_sameRel_LP0,laws_sameRel_LP1]
  rw[c_sameRows_refl hX (by omega) _ hr.rows hr.row,bindD_some,c_sameInts_refl hX (by omega) _ hr.sch.key,bindD_some,bne_self_eq_false,bne_self_eq_false]
  dsimp only
  rw[Bool.not_true,cond_false,br_f,br_f]
  refine Eq.trans (scan0 (L:=fun m i=>laws_sameRel_L0 (DD X n) n _ _ m (i:Int) r r) (N:=r.1.1.length) (P:=fun i=>false)
    (A:=some ((false,()),())) (B:=some ((true,()),())) (fun m i hi=>?_) (m:=n) (by omega)) ?_
  · simp only[laws_sameRel_L0,laws_sameRel_b0]
    by_cases h:i<r.1.1.length
    · rw[br_pos (by exact_mod_cast h),ix h,br_t,br_t,eqCol_self,wrap_succ (by omega),if_pos h];rfl
    · rw[br_neg (by exact_mod_cast h),if_neg h]
      simp only[laws_sameRel_x0_1]
      refine Eq.trans (scan0 (L:=fun m i=>laws_sameRel_L1 (DD X n) n _ _ m (i:Int) r r) (N:=r.1.2.2.1.length) (P:=fun i=>false)
        (A:=some ((false,()),())) (B:=some ((true,()),())) (fun m i hi=>?_) (m:=n) (by omega)) ?_
      · simp only[laws_sameRel_L1,laws_sameRel_b1]
        by_cases h:i<r.1.2.2.1.length
        · have hc:=hr.sch.ixc _ (getD_mem (d:=xd) h)
          rw[br_pos (by exact_mod_cast h),ix h,br_t,br_t,beq_bytes,decide_eq_true rfl,Bool.not_true,br_f,Int.toNat_natCast,c_sameInts_refl hX (by omega) _ hc,bindD_some,wrap_succ (by omega),if_pos h]
          simp only[decide_true];rfl
        · rw[br_neg (by exact_mod_cast h),if_neg h];rfl
      · rw[anyFrom_false.2 (fun _ _ _=>rfl)];rfl
  · rw[anyFrom_false.2 (fun _ _ _=>rfl)];rfl
theorem getD_set {rows:List Row} {j:Nat} {row:Row} (hj:j<rows.length) (i:Nat):(rows.set j row).getD i []=if i=j then row else rows.getD i []:=by
  by_cases e:i=j
  · subst e
    rw[if_pos rfl,getD_lt (by rw[List.length_set];exact hj),List.getElem_set_self]
  · rw[if_neg e]
    simp only[List.getD,List.getElem?_set]
    rw[if_neg (fun k=>e k.symm)]
/-- a right relation with a row put in another's place -/
theorem replaced {r:Rel} {row:Row} {j:Nat} (hok:relOk r=true) (hrow:rowOk r.1 row=true) (hk:keyAt r (project row r.1.2.1)=some j) (ho:others r row j=false) :
    relOk (r.1,r.2.1.set j row,())=true∧keyAt (r.1,r.2.1.set j row,()) (project row r.1.2.1)=some j:=by
  obtain ⟨_,hj,hkj,_⟩:=firstFrom_some hk
  rw[Nat.zero_add] at hj
  have hkey:∀ i,project ((r.2.1.set j row).getD i []) r.1.2.1=project (r.2.1.getD i []) r.1.2.1:=by
    intro i
    rw[getD_set hj]
    split
    · rename_i e
      subst e
      simp only[keyIs,decide_eq_true_eq] at hkj
      exact hkj.symm
    · rfl
  have hoth:∀ k,k<r.2.1.length→k≠j→clash r.1 (r.2.1.getD k []) row=false:=by
    intro k h1 h2
    have:=anyFrom_false.1 ho k (by omega) (by omega)
    rw[decide_eq_false (by omega),Bool.not_false,Bool.true_and] at this
    exact this
  simp only[relOk,Bool.and_eq_true,Bool.not_eq_true',decide_eq_true_eq] at hok
  obtain ⟨h1,h2,h3⟩:=hok
  constructor
  · simp only[relOk,Bool.and_eq_true,Bool.not_eq_true',decide_eq_true_eq,List.length_set]
    refine ⟨anyFrom_false.2 fun i _ hi=>?_,h2,h3⟩
    have hb:=anyFrom_false.1 h1 i (by omega) (by omega)
    simp only[relBad,Bool.or_eq_false_iff] at hb ⊢
    obtain ⟨b1,b2,b3⟩:=hb
    refine ⟨?_,?_,anyFrom_false.2 fun k _ hk=>?_⟩
    · rw[getD_set hj]
      split
      · rw[hrow];rfl
      · exact b1
    · rw[hkey,hkey];exact b2
    · have b4:=anyFrom_false.1 b3 k (by omega) (by omega)
      rw[getD_set hj,getD_set hj]
      by_cases e1:i=j
      · rw[if_pos e1,if_neg (show ¬ k=j by omega),clash_symm]
        exact hoth k (by omega) (by omega)
      · rw[if_neg e1]
        by_cases e2:k=j
        · rw[if_pos e2];exact hoth i (by omega) e1
        · rw[if_neg e2];exact b4
  · refine Eq.trans ?_ hk
    unfold keyAt
    show firstFrom _ 0 (r.2.1.set j row).length=_
    rw[List.length_set]
    exact firstFrom_congr fun i _ _=>by
      show decide (project ((r.2.1.set j row).getD i []) r.1.2.1=_)=decide (project (r.2.1.getD i []) r.1.2.1=_)
      rw[hkey]
theorem count_L {X:Ext} (hX:XOk X) (N n:Nat) (hN:W+1≤N) (K0:Bool→Row→Int→Rel→Rel→Option ((Bool×Unit)×Unit)) (K1:Row→Int→Rel→Rel→Option ((Bool×Unit)×Unit)) (r:Rel) (hr:RelSm r) (row:Row) (hw:row.length≤M) (j:Nat) (hj:j<r.2.1.length):∀ (m i:Nat) (c:Int),i≤r.2.1.length→r.2.1.length - i<m→(i:Int) - (if j<i then 1 else 0)≤c→c≤i→
    ∃ c':Int,(r.2.1.length:Int) - 1≤c'∧laws_FnReplaced_L0 (DD X N) n K0 K1 m row c (i:Int) r (r.1,r.2.1.set j row,())=K1 row c' r (r.1,r.2.1.set j row,())
  | 0,_,_,_,h,_,_=>by omega
  | m+1,i,c,hi,hf,h1,h2=>by
    have hM:=M_def
    have hR:=hr.rows
    simp only[laws_FnReplaced_L0,laws_FnReplaced_b0]
    by_cases h:i<r.2.1.length
    · have h':i<(r.2.1.set j row).length:=by rw[List.length_set];exact h
      have hs:((r.2.1.set j row).getD i []).length≤M:=by
        rw[getD_set hj]
        split
        · exact hw
        · exact hr.row _ (getD_mem h)
      rw[br_pos (by exact_mod_cast h'),ix h',br_t,ix h,br_t,br_t,Int.toNat_natCast,c_sameTuple hX hN _ _ hs,bindD_some,c_sameTuple hX hN _ _ hs,bindD_some,wrap_succ (by omega),wrap_id (by omega) (by omega)]
      dsimp only
      by_cases e:(r.2.1.set j row).getD i []=r.2.1.getD i []
      · rw[decide_eq_true e,br_t]
        refine count_L hX N n hN K0 K1 r hr row hw j hj m (i+1) (c+1) (by omega) (by omega) ?_ (by omega)
        split at h1<;>split<;>omega
      · have hij:i=j:=by
          rw[getD_set hj] at e
          by_cases hij:i=j
          · exact hij
          · rw[if_neg hij] at e;exact absurd rfl e
        have er:(r.2.1.set j row).getD i []=row:=by rw[getD_set hj,if_pos hij]
        rw[decide_eq_false e,br_f,decide_eq_true er,Bool.not_true,br_f]
        refine count_L hX N n hN K0 K1 r hr row hw j hj m (i+1) c (by omega) (by omega) ?_ (by omega)
        rw[if_neg (by omega)] at h1
        rw[if_pos (by omega)]
        omega
    · have h':¬ i<(r.2.1.set j row).length:=by rw[List.length_set];exact h
      rw[br_neg (by exact_mod_cast h')]
      exact ⟨c,by split at h1<;>omega,rfl⟩
theorem rel_eta (a:Rel):(((a.1.1,a.1.2.1,a.1.2.2.1,()),a.2.1,()):Rel)=a:=rfl
theorem fnReplaced_law (a:List Int):C_laws_FnReplaced (DD cmpExt (W+14)) a=some ((true,()),()):=by
  have hC:=cmpExt_ok
  have hX:=hC.ok
  have hd:=maxLen_def
  have hW:=W_def
  have hM:=M_def
  rw[S_laws_FnReplaced hX]
  simp only[F_laws_FnReplaced,laws_FnReplaced_e,laws_FnReplaced_LP0]
  rw[c_big hX (by omega),bindD_some];dsimp only
  by_cases h:(a.length:Int)>1048576
  · rw[decide_eq_true h,br_t]
  · rw[decide_eq_false h,br_f]
    obtain ⟨r,row,hr,hl,e1⟩:=c_drawRelation hX (n:=W+13) (by omega) a (by omega)
    have hsm:=hr.sm
    have hw:row.length≤M:=by omega
    have e2:=c_implReplace hC (n:=W+13) (by omega) r hsm row hw
    have e3:=c_specReplace hX (n:=W+13) (by omega) r hsm row hw
    rw[e1,bindD_some];dsimp only
    rw[e2,bindD_some];dsimp only
    rw[e3,bindD_some];dsimp only
    rw[bne_self_eq_false,br_f]
    simp only[rel_eta]
    have hsame2:∀ (s:Int) (R:Option ((Bool×Unit)×Unit)),s≠0→replaceR r row=(r,s)→br ((replaceR r row).2 != 0) (bindD (C_laws_sameRel (DD cmpExt (W+13)) (replaceR r row).1 r) fun b=>some ((b.1.1,()),())) R=some ((true,()),()):=by
      intro s R hs e
      rw[e,bne_dec,decide_eq_false hs,Bool.not_false,br_t,c_sameRel_refl hX (by omega) r hsm,bindD_some]
    by_cases hok:relOk r=true∧rowOk r.1 row=true
    · cases hk:keyAt r (project row r.1.2.1) with
      | none=>exact hsame2 4 _ (by decide) (by unfold replaceR;rw[if_pos hok,hk])
      | some j=>
        cases ho:others r row j
        · have er:replaceR r row=((r.1,r.2.1.set j row,()),0):=by unfold replaceR;rw[if_pos hok,hk];dsimp only;rw[ho];rfl
          obtain ⟨q1,q2⟩:=replaced hok.1 hok.2 hk ho
          have hj:=keyAt_lt hk
          have hlk:lookup (r.1,r.2.1.set j row,()) (project row r.1.2.1)=(row,true):=by
            unfold lookup
            rw[q2]
            dsimp only
            rw[if_pos q1,getD_set hj,if_pos rfl]
          have hsm2:RelSm (r.1,r.2.1.set j row,()):=⟨hsm.sch,by simp only[List.length_set];exact hsm.rows,fun x hx=>by
            rcases List.mem_or_eq_of_mem_set hx with hx | rfl
            · exact hsm.row x hx
            · exact hw⟩
          obtain ⟨c',hc',el⟩:=count_L hX (W+13) (W+13) (by omega) (fun v0_0 v0_1 v0_2 v0_3 v0_4=>laws_FnReplaced_x0_0 (DD cmpExt (W+13)) (W+13) v0_0 v0_1 v0_2 v0_3 v0_4) (fun v1_0 v1_1 v1_2 v1_3=>laws_FnReplaced_x0_1 (DD cmpExt (W+13)) (W+13) v1_0 v1_1 v1_2 v1_3) r hsm row hw j hj (W+13) 0 0 (by omega) (by have:=hsm.rows;omega) (by simp) (by simp)
          rw[show ((0:Nat):Int)=0 from rfl] at el
          rw[er]
          dsimp only
          rw[bne_self_eq_false,br_f,el]
          simp only[laws_FnReplaced_x0_1,rel_eta]
          rw[c_implKeyOfRow hX (by omega) r.1 row hw hsm.sch.key,bindD_some]
          have f:=c_implLookup hC (n:=W+13) (by omega) (r.1,r.2.1.set j row,()) hsm2 (project row r.1.2.1)
          rw[hlk] at f
          dsimp only at f ⊢
          rw[f,bindD_some]
          dsimp only
          have hR:=hsm.rows
          rw[br_t,c_sameTuple hX (by omega) _ _ hw,bindD_some,decide_eq_true rfl,List.length_set,decide_eq_true rfl,wrap_id (by omega) (by omega),decide_eq_true hc']
          rfl
        · exact hsame2 3 _ (by decide) (by unfold replaceR;rw[if_pos hok,hk];dsimp only;rw[ho];rfl)
    · exact hsame2 1 _ (by decide) (by unfold replaceR;rw[if_neg hok])
end Go.G
namespace Go.Proofs.Ytfafjngknkbngaa
open Go.ChangeShapes Go.WideShapes Go.ChangeAt Go.RowKit Go.V Go.G
set_option maxRecDepth 100000
theorem fnReplaced_lifted (os:Os) (started:os.Started) (H:Type) (enc:TypeId×Value→H) :
    ReturnsInHanded {} Try.checked os 9 .any (Rows.fnReplacedSpec.pre6 enc Try.prog Try.f9 Rows.fnReplacedRow.domain false) (Rows.fnReplacedSpec.post enc Try.prog Try.f9 false true false false):=
  lifted_of (X:=cmpExt) (tb:=4) started Try.func9 (by kernel_rfl)
    (ChangeSpec.witness6 (enc:=enc) (C:=Try.checked) false ⟨#[],Try.f9.params.map fun t=>((Try.prog.info? t).bind (·.zero)).getD .nilIface,[]⟩ 8 (by kernel_rfl) (by kernel_rfl) (by kernel_rfl) (by kernel_rfl))
    ⟨rfl,rfl,trivial⟩ (by kernel_rfl) (by kernel_rfl) (by kernel_rfl) rfl
    (fun ds h=>by
      match ds,h with
      | [d0],_=>exact ⟨rfl,rfl,rfl⟩)
    (fun a wa=>⟨W+14,((true,()),()),fnReplaced_law a.1,fun h Pr Gs us k=>by
      obtain ⟨v,vs,rfl,⟨c,r,rfl⟩,e⟩:=k
      obtain rfl:vs=[]:=e
      simp only[Rep] at r
      subst r
      rfl⟩)
theorem fnReplaced_holds:Rows.FnReplacedSaid:=
  OpenClaim.holds_of_wide 9 Try.f9 rfl rfl rfl rfl rfl rfl rfl ⟨rfl,rfl,rfl,rfl,rfl⟩ rfl rfl rfl rfl rfl (by kernel_rfl) Try.func9 (by kernel_rfl)
    (of_decide_eq_true (by kernel_rfl)) (by unfold Func.isWrapper;first | (rw[if_pos (by decide +kernel)];kernel_rfl) | (rw[if_neg (by decide +kernel)];exact ⟨rfl,rfl⟩))
    (fun os started H enc _=>fnReplaced_lifted os started H enc)
#print axioms fnReplaced_holds
end Go.Proofs.Ytfafjngknkbngaa


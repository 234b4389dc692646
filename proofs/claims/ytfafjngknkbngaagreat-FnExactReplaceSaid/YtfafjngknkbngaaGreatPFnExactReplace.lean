/- The row FnExactReplace holds: for all arguments the law returns true and the arguments read as before. No condition. -/
import Derived.Test.YtfafjngknkbngaaGreatAPFnExactReplace1
set_option linter.unusedVariables false
set_option linter.unusedSimpArgs false
set_option linter.unusedSectionVars false
namespace Go.G
open Go Go.V
theorem br_t {R:Type} {a b:Option R}:br true a b=a:=rfl
theorem br_f {R:Type} {a b:Option R}:br false a b=b:=rfl
theorem br_pos {R:Type} {a b:Option R} {p:Prop} [Decidable p] (h:p):br (decide p) a b=a:=by simp[br,h]
theorem br_neg {R:Type} {a b:Option R} {p:Prop} [Decidable p] (h:¬ p):br (decide p) a b=b:=by simp[br,h]
theorem bindD_some {α R:Type} {a:α} {f:α→Option R}:bindD (some a) f=f a:=rfl
theorem br_ite {R:Type} {c:Bool} {a b:Option R}:br c a b=if c=true then a else b:=by cases c<;>rfl
theorem wrap_form (x:Int):IntKind.wrap IntKind.i64 x=if x % 18446744073709551616≥9223372036854775808 then x % 18446744073709551616 - 18446744073709551616 else x % 18446744073709551616:=by
  by_cases h:x % 18446744073709551616≥9223372036854775808<;>simp[IntKind.wrap,IntKind.signed,IntKind.bits,h]
theorem wrap_id {x:Int} (h1 : -9223372036854775808≤x) (h2:x≤9223372036854775807):IntKind.wrap IntKind.i64 x=x:=by
  rw[wrap_form]
  split<;>omega
def W:Nat:=9223372036854775808
theorem W_def:W=9223372036854775808:=rfl
theorem maxLen_def:maxLen=9223372036854775807:=rfl
theorem bound_def:bound=274877906944:=rfl
theorem ix {α:Type} {l:List α} {i:Nat} (h:i<l.length):(decide (0≤(i:Int))&&decide ((i:Int)<(l.length:Int)))=true:=by
  simp only[Bool.and_eq_true,decide_eq_true_eq];omega
theorem ixn {α:Type} {l:List α} {i:Int} (h0:0≤i) (h:i<l.length):(decide (0≤i)&&decide (i<(l.length:Int)))=true:=by
  simp only[Bool.and_eq_true,decide_eq_true_eq];omega
theorem wrap_succ {i:Nat} (h:i<9223372036854775807):IntKind.wrap IntKind.i64 ((i:Int)+1)=((i+1:Nat):Int):=by
  rw[wrap_id]<;>omega
theorem getD_lt {α:Type} {l:List α} {i:Nat} {d:α} (h:i<l.length):l.getD i d=l[i]:=by
  simp[List.getD,h]
theorem drop_cons {α:Type} {l:List α} {i:Nat} (h:i<l.length):l.drop i=l[i]::l.drop (i+1):=List.drop_eq_getElem_cons h
theorem drop_end {α:Type} {l:List α} {i:Nat} (h:¬ i<l.length):l.drop i=[]:=List.drop_eq_nil_of_le (by omega)
def tot:(t:Ty)→t.den→Nat
  | .unit,_=>0
  | .int _,_=>0
  | .bool,_=>0
  | .str,s=>s.size
  | .sl t,xs=>xs.length+(xs.map (tot t)).sum
  | .pair a b,x=>tot a x.1+tot b x.2
def left (t:Ty) (a:t.den) (k:Int):Int:=if (tot t a:Int)≤k then k - tot t a else -1
theorem map_drop_sum {α:Type} {f:α→Nat} {l:List α} {i:Nat} (h:i<l.length):((l.drop i).map f).sum=f l[i]+((l.drop (i+1)).map f).sum:=by
  rw[drop_cons h,List.map_cons,List.sum_cons]
theorem tot_mem {t:Ty}:∀ {xs:List t.den} {x:t.den},x∈xs→tot t x+xs.length≤tot (.sl t) xs
  | y::xs,x,h=>by
    simp only[tot,List.length_cons,List.map_cons,List.sum_cons]
    rcases List.mem_cons.1 h with rfl | h
    · have:xs.length≤xs.length+(xs.map (tot t)).sum:=by omega
      omega
    · have:=tot_mem h
      simp only[tot] at this
      omega
theorem beq_bytes {a b:ByteArray}:List.beq a.toList b.toList=decide (a=b):=by
  have h1:List.beq a.toList b.toList=decide (a.toList=b.toList):=by
    have:(a.toList == b.toList)=decide (a.toList=b.toList):=by
      by_cases h:a.toList=b.toList<;>simp[h]
    exact this
  rw[h1]
  by_cases h:a=b
  · simp[h]
  · have:a.toList≠b.toList:=fun e=>h (by
      have h2:a.data.toList=b.data.toList:=by
        have:=e
        simpa [ByteArray.toList_eq] using this
      cases a;cases b
      simp only[ByteArray.mk.injEq]
      exact Array.toList_inj.1 h2)
    simp[h,this]
end Go.G

namespace Go.G
open Go Go.V
abbrev IntsT:Ty:=.sl (.int .i64)
theorem tot_ints (a:List Int):tot IntsT a=a.length:=by
  have:∀ l:List Int,(l.map fun _=>0).sum=0:=by
    intro l;induction l with
    | nil=>rfl
    | cons x l ih=>simp[ih]
  have e:(a.map (tot (.int .i64)))=a.map fun _=>0:=by
    apply List.map_congr_left;intro x _;simp only[tot]
  show a.length+(a.map (tot (.int .i64))).sum=a.length
  rw[e,this];omega
theorem take_set {α:Type} {l:List α} {i:Nat} {x:α} (h:i<l.length):(l.set i x).take (i+1)=l.take i++[x]:=by
  rw[List.take_add_one,List.take_set_of_le (Nat.le_refl _)]
  simp[List.getElem?_set,h]
theorem eqIntS_L (D:Den ctx) (n:Nat) (K0:Bool→Option ((Bool×Unit)×Unit)) (K1:Option ((Bool×Unit)×Unit)):∀ (m i:Nat) (a b:List Int),a.length=b.length→a.length≤maxLen→i≤a.length→a.length - i<m→
    laws_eqIntS_L0 D n K0 K1 m a b i=if a.drop i=b.drop i then K1 else K0 false
  | 0,_,_,_,_,_,_,h=>by omega
  | m+1,i,a,b,hl,hm,hi,hk=>by
    simp only[laws_eqIntS_L0,laws_eqIntS_b0]
    rw[maxLen_def] at hm
    by_cases h:i<a.length
    · rw[br_pos (by exact_mod_cast h),ix h,br_t,ix (hl ▸ h),br_t,wrap_succ (by omega),Int.toNat_natCast,getD_lt h,getD_lt (hl ▸ h),drop_cons h,drop_cons (hl ▸ h:i<b.length)]
      by_cases e:a[i]=b[i]'(hl ▸ h)
      · rw[e]
        simp only[bne_self_eq_false,br_f,List.cons.injEq,true_and]
        exact eqIntS_L D n K0 K1 m (i+1) a b hl (by rw[maxLen_def];omega) (by omega) (by omega)
      · have:(a[i] != b[i]'(hl ▸ h))=true:=by simp[e]
        rw[this,br_t];simp only[List.cons.injEq,e,false_and,if_false]
    · rw[br_neg (by exact_mod_cast h),drop_end h,drop_end (hl ▸ h)];rfl
theorem c_eqIntS {X:Ext} (hX:XOk X) {n:Nat} (hn:W+1≤n) (a b:List Int) (hb:b.length≤maxLen):C_laws_eqIntS (DD X n) a b=some ((decide (a=b),()),()):=by
  obtain ⟨n,rfl⟩:∃ k,n=k+1:=⟨n - 1,by omega⟩
  rw[S_laws_eqIntS hX]
  simp only[F_laws_eqIntS,laws_eqIntS_e,laws_eqIntS_LP0]
  by_cases h:a.length=b.length
  · have e:((a.length:Int) != (b.length:Int))=false:=by simp[h]
    rw[e,br_f]
    have:=eqIntS_L (DD X n) n (fun v=>laws_eqIntS_x0_0 (DD X n) n v) (laws_eqIntS_x0_1 (DD X n) n) n 0 a b h (by omega) (by omega) (by have:=W_def;have:=maxLen_def;omega)
    rw[show ((0:Nat):Int)=0 from rfl] at this
    rw[this]
    simp only[List.drop_zero,laws_eqIntS_x0_0,laws_eqIntS_x0_1]
    by_cases h:a=b<;>simp[h]
  · have e:((a.length:Int) != (b.length:Int))=true:=by simp;omega
    have:a≠b:=fun h2=>h (by rw[h2])
    rw[e,br_t];simp[this]
theorem toIntS_L (D:Den ctx) (n:Nat) (K:List Int→Option ((List Int×Unit)×Unit)):∀ (m i:Nat) (a c:List Int),a.length=c.length→a.length≤maxLen→i≤a.length→a.length - i<m→
    laws_toIntS_L0 D n K m a i c=K (c.take i++a.drop i)
  | 0,_,_,_,_,_,_,h=>by omega
  | m+1,i,a,c,hl,hm,hi,hk=>by
    simp only[laws_toIntS_L0,laws_toIntS_b0]
    rw[maxLen_def] at hm
    by_cases h:i<a.length
    · rw[br_pos (by exact_mod_cast h),ix h,br_t,ix (hl ▸ h),br_t,wrap_succ (by omega),Int.toNat_natCast,getD_lt h,toIntS_L D n K m (i+1) a _ (by simp[hl]) (by rw[maxLen_def];omega) (by omega) (by omega)]
      congr 1
      rw[drop_cons h,take_set (hl ▸ h),List.append_assoc];rfl
    · rw[br_neg (by exact_mod_cast h),drop_end h,List.take_of_length_le (by omega),List.append_nil]
theorem to_cond {a:Nat} (h:a≤bound):(decide (0≤(a:Int))&&decide ((a:Int)≤(a:Int))&&decide ((a:Int)≤((bound:Nat):Int)))=true:=by
  simp only[Bool.and_eq_true,decide_eq_true_eq];omega
theorem c_toIntS {X:Ext} (hX:XOk X) {n:Nat} (hn:W+1≤n) (a:List Int) (ha:a.length≤bound):C_laws_toIntS (DD X n) a=some ((a,()),()):=by
  obtain ⟨n,rfl⟩:∃ k,n=k+1:=⟨n - 1,by omega⟩
  rw[S_laws_toIntS hX]
  simp only[F_laws_toIntS,laws_toIntS_e,laws_toIntS_LP0]
  rw[to_cond ha,br_t]
  have h1:=bound_def
  have:=toIntS_L (DD X n) n (fun v=>laws_toIntS_x0_0 (DD X n) n v) n 0 a (List.replicate (Int.toNat (a.length:Int)) 0) (by simp) (by rw[maxLen_def];omega) (by omega) (by have:=W_def;omega)
  rw[show ((0:Nat):Int)=0 from rfl] at this
  rw[this]
  simp only[List.take_zero,List.drop_zero,List.nil_append,laws_toIntS_x0_0]
theorem c_szIntS {X:Ext} (hX:XOk X) {n:Nat} (hn:W+1≤n) (a:List Int) (k:Int) (ha:a.length≤maxLen) (hk:0≤k∧k≤maxLen):C_laws_szIntS (DD X n) a k=some ((left IntsT a k,()),()):=by
  obtain ⟨n,rfl⟩:∃ k,n=k+1:=⟨n - 1,by omega⟩
  rw[maxLen_def] at ha hk
  rw[S_laws_szIntS hX]
  simp only[F_laws_szIntS,laws_szIntS_e,left,tot_ints]
  rw[wrap_id (by omega) (by omega)]
  by_cases h:k - (a.length:Int)<0
  · rw[br_pos h,if_neg (by omega)]
  · rw[br_neg h,if_pos (by omega)]
def markInts:Int→List Int→List Int
  | _,[]=>[]
  | k,_::l=>k::markInts (k+1) l
theorem markInts_len:∀ (l:List Int) (k:Int),(markInts k l).length=l.length
  | [],_=>rfl
  | _::l,k=>by simp[markInts,markInts_len l]
theorem markIntS_L (D:Den ctx) (n:Nat) (K:Int→List Int→Option ((Int×Unit)×List Int×Unit)):∀ (m i:Nat) (k:Int) (a:List Int),a.length≤maxLen→i≤a.length→a.length - i<m→0≤k→k+(a.length - i)≤maxLen→
    laws_markIntS_L0 D n K m k i a=K (k+(a.length - i)) (a.take i++markInts k (a.drop i))
  | 0,_,_,_,_,_,h,_,_=>by omega
  | m+1,i,k,a,hm,hi,hf,hk,hkl=>by
    simp only[laws_markIntS_L0,laws_markIntS_b0]
    have hd:=maxLen_def
    by_cases h:i<a.length
    · rw[br_pos (by exact_mod_cast h),ix h,br_t,wrap_succ (by omega),wrap_id (by omega) (by omega),Int.toNat_natCast]
      rw[markIntS_L D n K m (i+1) (k+1) _ (by simpa using hm) (by simp;omega) (by simp;omega) (by omega) (by simp only[List.length_set];omega),take_set h,drop_cons h,List.drop_set_of_lt (by omega)]
      simp only[List.length_set,List.append_assoc,markInts,List.singleton_append]
      congr 1
      omega
    · rw[br_neg (by exact_mod_cast h),drop_end h,List.take_of_length_le (by omega)]
      simp only[markInts,List.append_nil]
      congr 1
      omega
theorem c_markIntS {X:Ext} (hX:XOk X) {n:Nat} (hn:W+1≤n) (a:List Int) (k:Int) (hk:0≤k) (h:k+a.length≤maxLen):C_laws_markIntS (DD X n) a k=some ((k+a.length,()),(markInts k a,())):=by
  obtain ⟨n,rfl⟩:∃ k,n=k+1:=⟨n - 1,by omega⟩
  have hd:=maxLen_def
  rw[S_laws_markIntS hX]
  simp only[F_laws_markIntS,laws_markIntS_e,laws_markIntS_LP0]
  have:=markIntS_L (DD X n) n (fun v w=>laws_markIntS_x0_0 (DD X n) n v w) n 0 k a (by omega) (by omega) (by have:=W_def;omega) hk (by omega)
  rw[show ((0:Nat):Int)=0 from rfl] at this
  rw[this]
  simp only[List.take_zero,List.drop_zero,List.nil_append,laws_markIntS_x0_0,Int.sub_zero]
theorem heldIntS_L (D:Den ctx) (n:Nat) (K0:Int→Int→Option ((Int×Unit)×Unit)) (K1:Int→Option ((Int×Unit)×Unit)):∀ (m i:Nat) (k k0:Int) (a l:List Int),a.length≤maxLen→i≤a.length→a.length - i<m→0≤k→k+(a.length - i)≤maxLen→
    a.drop i=markInts k l→laws_heldIntS_L0 D n K0 K1 m a k i=K1 (k+(a.length - i))
  | 0,_,_,_,_,_,_,_,h,_,_,_=>by omega
  | m+1,i,k,k0,a,l,hm,hi,hf,hk,hkl,hl=>by
    simp only[laws_heldIntS_L0,laws_heldIntS_b0]
    have hd:=maxLen_def
    by_cases h:i<a.length
    · rw[br_pos (by exact_mod_cast h),ix h,br_t,wrap_succ (by omega),wrap_id (by omega) (by omega),Int.toNat_natCast,getD_lt h]
      rw[drop_cons h] at hl
      cases l with
      | nil=>simp[markInts] at hl;omega
      | cons x l=>
        simp only[markInts,List.cons.injEq] at hl
        rw[hl.1,bne_self_eq_false,br_f]
        rw[heldIntS_L D n K0 K1 m (i+1) (k+1) k0 a l hm (by omega) (by omega) (by omega) (by omega) hl.2]
        congr 1
        omega
    · rw[br_neg (by exact_mod_cast h)]
      congr 1
      omega
theorem c_heldIntS {X:Ext} (hX:XOk X) {n:Nat} (hn:W+1≤n) (a:List Int) (k:Int) (hk:0≤k) (h:k+a.length≤maxLen):C_laws_heldIntS (DD X n) (markInts k a) k=some ((k+a.length,()),()):=by
  obtain ⟨n,rfl⟩:∃ k,n=k+1:=⟨n - 1,by omega⟩
  have hd:=maxLen_def
  rw[S_laws_heldIntS hX]
  simp only[F_laws_heldIntS,laws_heldIntS_e,laws_heldIntS_LP0]
  have hml:=markInts_len a k
  have:=heldIntS_L (DD X n) n (fun v w=>laws_heldIntS_x0_0 (DD X n) n v w) (fun v=>laws_heldIntS_x0_1 (DD X n) n v) n 0 k k (markInts k a) a (by omega) (by omega) (by have:=W_def;omega) hk (by omega) (by simp)
  rw[show ((0:Nat):Int)=0 from rfl] at this
  rw[this]
  simp only[laws_heldIntS_x0_1,Int.sub_zero,hml]
def mdigit (x:Int):ByteArray:=ByteArray.mk (List.toArray (List.map (fun n↦UInt8.ofNat (Int.toNat n)) [IntKind.wrap IntKind.u8 (IntKind.wrap IntKind.i64 (48+Int.tmod x 10))]))
def mdigits:Nat→Int→ByteArray→ByteArray
  | 0,_,s=>s
  | f+1,x,s=>if x>0 then mdigits f (Int.tdiv x 10) (ByteArray.append (mdigit x) s) else s
def mtext (k:Int):ByteArray:=if k≤0 then ByteArray.mk #[UInt8.ofNat 109,UInt8.ofNat 48] else ByteArray.append (ByteArray.mk #[UInt8.ofNat 109]) (mdigits 19 k (ByteArray.mk #[]))
theorem append_size (a b:ByteArray):(ByteArray.append a b).size=a.size+b.size:=ByteArray.size_append
theorem mdigit_size (x:Int):(mdigit x).size=1:=rfl
theorem mdigits_size:∀ (f:Nat) (x:Int) (s:ByteArray),(mdigits f x s).size≤s.size+f
  | 0,_,s=>by simp[mdigits]
  | f+1,x,s=>by
    simp only[mdigits]
    split
    · have:=mdigits_size f (Int.tdiv x 10) (ByteArray.append (mdigit x) s)
      rw[append_size,mdigit_size] at this
      omega
    · omega
theorem markText_L (D:Den ctx) (n:Nat) (K:ByteArray→Option ((ByteArray×Unit)×Unit)):∀ (f m:Nat) (x:Int) (s:ByteArray),f<m→0≤x→x<10 ^ f→x≤maxLen→s.size+f≤2 ^ 47→laws_markText_L0 D n K m x s=K (mdigits f x s)
  | f,0,_,_,h,_,_,_,_=>by omega
  | 0,m+1,x,s,_,h0,hx,_,_=>by
    simp only[laws_markText_L0,laws_markText_b0,mdigits]
    rw[br_neg (by simp at hx;omega)]
  | f+1,m+1,x,s,hf,h0,hx,hm,hs=>by
    simp only[laws_markText_L0,laws_markText_b0,mdigits]
    have hd:=maxLen_def
    by_cases h:x>0
    · rw[br_pos h,if_pos h,br_pos (by show (mdigit x).size+s.size≤Nat.pow 2 47;rw[mdigit_size];show 1+s.size≤2 ^ 47;omega)]
      have e:Int.tdiv x 10=x / 10:=Int.tdiv_eq_ediv_of_nonneg h0
      rw[wrap_id (by rw[e];omega) (by rw[e];omega)]
      refine markText_L D n K f m _ _ (by omega) (by rw[e];omega) ?_ (by rw[e];omega) ?_
      · rw[e]
        have:(10:Int) ^ (f+1)=10 ^ f * 10:=Int.pow_succ ..
        omega
      · show (ByteArray.append (mdigit x) s).size+f≤2 ^ 47
        rw[append_size,mdigit_size];omega
    · rw[br_neg h,if_neg h]
theorem c_markText {X:Ext} (hX:XOk X) {n:Nat} (hn:W+1≤n) (k:Int) (hk:k≤maxLen):C_laws_markText (DD X n) k=some ((mtext k,()),()):=by
  obtain ⟨n,rfl⟩:∃ k,n=k+1:=⟨n - 1,by omega⟩
  have hd:=maxLen_def
  rw[S_laws_markText hX]
  simp only[F_laws_markText,laws_markText_e,laws_markText_LP0,mtext]
  by_cases h:k≤0
  · rw[br_pos h,if_pos h]
  · rw[br_neg h,if_neg h,markText_L (DD X n) n _ 19 n k _ (by have:=W_def;omega) (by omega) (by omega) hk (by show 0+19≤2 ^ 47;decide)]
    simp only[laws_markText_x0_0]
    have h1:=mdigits_size 19 k (ByteArray.mk #[])
    have h2:(ByteArray.mk #[]).size=0:=rfl
    rw[br_pos]
    show 1+(mdigits 19 k (ByteArray.mk #[])).size≤2 ^ 47
    omega
end Go.G

namespace Go.G
open Go Go.V
def mkL {α:Type} (f:Int→α→Int×α):Int→List α→Int×List α
  | k,[]=>(k,[])
  | k,x::l=>((mkL f (f k x).1 l).1,(f k x).2::(mkL f (f k x).1 l).2)
def mkT:(t:Ty)→Int→t.den→Int×t.den
  | .unit,k,x=>(k,x)
  | .int _,k,_=>(k+1,k)
  | .bool,k,_=>(k+1,decide (Int.tmod k 3=0))
  | .str,k,_=>(k+1,mtext k)
  | .sl t,k,xs=>mkL (mkT t) k xs
  | .pair a b,k,x=>((mkT b (mkT a k x.1).1 x.2).1,((mkT a k x.1).2,(mkT b (mkT a k x.1).1 x.2).2))
def cnt:(t:Ty)→t.den→Nat
  | .unit,_=>0
  | .int _,_=>1
  | .bool,_=>1
  | .str,_=>1
  | .sl t,xs=>(xs.map (cnt t)).sum
  | .pair a b,x=>cnt a x.1+cnt b x.2
theorem mkL_cnt {t:Ty} (h:∀ k x,(mkT t k x).1=k+cnt t x):∀ (k:Int) (xs:List t.den),(mkL (mkT t) k xs).1=k+((xs.map (cnt t)).sum:Nat)
  | k,[]=>by simp[mkL]
  | k,x::l=>by
    simp only[mkL,mkL_cnt h,h,List.map_cons,List.sum_cons]
    omega
theorem mkT_cnt:∀ (t:Ty) (k:Int) (x:t.den),(mkT t k x).1=k+cnt t x
  | .unit,k,x=>by simp[mkT,cnt]
  | .int _,k,_=>by simp[mkT,cnt]
  | .bool,k,_=>by simp[mkT,cnt]
  | .str,k,_=>by simp[mkT,cnt]
  | .sl t,k,xs=>by simp only[mkT,cnt];exact mkL_cnt (mkT_cnt t) k xs
  | .pair a b,k,x=>by simp only[mkT,cnt,mkT_cnt a,mkT_cnt b];omega
theorem mkL_len {α:Type} {f:Int→α→Int×α}:∀ (k:Int) (xs:List α),(mkL f k xs).2.length=xs.length
  | _,[]=>rfl
  | k,x::l=>by simp[mkL,mkL_len]
theorem tot_sl {t:Ty} (a:List t.den):tot (.sl t) a=a.length+(a.map (tot t)).sum:=rfl
theorem cnt_sl {t:Ty} (a:List t.den):cnt (.sl t) a=(a.map (cnt t)).sum:=rfl
theorem left_pos {t:Ty} {a:t.den} {k:Int} (h:(tot t a:Int)≤k):left t a k=k - tot t a:=if_pos h
theorem left_neg {t:Ty} {a:t.den} {k:Int} (h:¬ (tot t a:Int)≤k):left t a k = -1:=if_neg h
theorem left_nonneg {t:Ty} {a:t.den} {k:Int} (h:¬ left t a k<0) (hk:0≤k):left t a k=k - tot t a∧(tot t a:Int)≤k:=by
  unfold left at h ⊢
  split at h
  · rename_i h1;rw[if_pos h1];exact ⟨rfl,h1⟩
  · omega
theorem getD_set_same {α:Type} {l:List α} {i:Nat} {x d:α} (h:i<l.length):(l.set i x).getD i d=x:=by
  simp[List.getD,h]
theorem markInts_mk:∀ (k:Int) (a:List Int),mkT IntsT k a=(k+a.length,markInts k a)
  | k,[]=>by simp[mkT,mkL,markInts]
  | k,x::a=>by
    have:=markInts_mk (k+1) a
    simp only[mkT] at this
    simp only[mkT,mkL,markInts,this,List.length_cons]
    congr 1
    omega
theorem cnt_ints (a:List Int):cnt IntsT a=a.length:=by
  have h1:=mkT_cnt IntsT 0 a
  rw[markInts_mk] at h1
  simp only at h1
  omega
theorem m_markIntS {X:Ext} (hX:XOk X) {n:Nat} (hn:W+1≤n) (a:List Int) (k:Int) (hk:0≤k) (h:k+cnt IntsT a≤maxLen):C_laws_markIntS (DD X n) a k=some (((mkT IntsT k a).1,()),((mkT IntsT k a).2,())):=by
  rw[markInts_mk];rw[cnt_ints] at h;exact c_markIntS hX hn a k hk h
theorem m_heldIntS {X:Ext} (hX:XOk X) {n:Nat} (hn:W+1≤n) (a:List Int) (k:Int) (hk:0≤k) (h:k+cnt IntsT a≤maxLen):C_laws_heldIntS (DD X n) (mkT IntsT k a).2 k=some (((mkT IntsT k a).1,()),()):=by
  rw[markInts_mk];rw[cnt_ints] at h;exact c_heldIntS hX hn a k hk h
theorem br_lends {R:Type} {t t2:Ty} {m m':Mk} {l:List AV} {r:Nat} {p:Path} {s:Nat} {v:AV} {a b:Option R} (h:l=[.brw r p s,v]):br (lendsOk [.mutv t m m',.val t2] l) a b=a:=by
  subst h
  simp[lendsOk,placeOf,pathsOk,br]
end Go.G

namespace Go.G
open Go Go.V
def Fit (b:Nat):(t:Ty)→t.den→Prop
  | .sl t,xs=>xs.length≤b∧∀ x∈xs,Fit b t x
  | .pair s t,x=>Fit b s x.1∧Fit b t x.2
  | _,_=>True
theorem Fit.mono {b c:Nat} (h:b≤c):∀ {t:Ty} {x:t.den},Fit b t x→Fit c t x
  | .unit,_,_=>trivial
  | .int _,_,_=>trivial
  | .bool,_,_=>trivial
  | .str,_,_=>trivial
  | .sl t,xs,f=>⟨Nat.le_trans f.1 h,fun x hx=>(f.2 x hx).mono h⟩
  | .pair s t,x,f=>⟨f.1.mono h,f.2.mono h⟩
theorem fit_of_tot {b:Nat}:∀ {t:Ty} {x:t.den},tot t x≤b→Fit b t x
  | .unit,_,_=>trivial
  | .int _,_,_=>trivial
  | .bool,_,_=>trivial
  | .str,_,_=>trivial
  | .sl t,xs,f=>by
    have h:=tot_sl (t:=t) xs
    refine ⟨by omega,fun x hx=>fit_of_tot ?_⟩
    have:=tot_mem (t:=t) hx
    omega
  | .pair s t,x,f=>by
    have h:tot (.pair s t) x=tot s x.1+tot t x.2:=rfl
    exact ⟨fit_of_tot (by omega),fit_of_tot (by omega)⟩
def leafs:Ty→Nat
  | .unit=>0
  | .int _=>1
  | .bool=>1
  | .str=>1
  | .sl t=>leafs t
  | .pair a b=>leafs a+leafs b
theorem cnt_le:∀ (t:Ty) (x:t.den),cnt t x≤leafs t * (1+tot t x)
  | .unit,_=>by simp[cnt]
  | .int _,_=>by simp[cnt,leafs,tot]
  | .bool,_=>by simp[cnt,leafs,tot]
  | .str,x=>by simp only[cnt,leafs];omega
  | .sl t,xs=>by
    rw[cnt_sl,tot_sl]
    simp only[leafs]
    have key:∀ xs:List t.den,(xs.map (cnt t)).sum≤leafs t * (xs.length+(xs.map (tot t)).sum):=by
      intro xs
      induction xs with
      | nil=>simp
      | cons x l ih=>
        have h:=cnt_le t x
        simp only[List.map_cons,List.sum_cons,List.length_cons]
        have e:leafs t * (l.length+1+(tot t x+(l.map (tot t)).sum))=leafs t * (1+tot t x)+leafs t * (l.length+(l.map (tot t)).sum):=by
          rw[←Nat.mul_add];congr 1;omega
        omega
    have:=key xs
    have e:leafs t * (1+(xs.length+(xs.map (tot t)).sum))=leafs t+leafs t * (xs.length+(xs.map (tot t)).sum):=by
      rw[Nat.mul_add];omega
    omega
  | .pair a b,x=>by
    have h1:=cnt_le a x.1
    have h2:=cnt_le b x.2
    have e1:cnt (.pair a b) x=cnt a x.1+cnt b x.2:=rfl
    have e2:tot (.pair a b) x=tot a x.1+tot b x.2:=rfl
    rw[e1,e2]
    simp only[leafs]
    have h3:leafs a * (1+tot a x.1)≤leafs a * (1+(tot a x.1+tot b x.2)):=Nat.mul_le_mul_left _ (by omega)
    have h4:leafs b * (1+tot b x.2)≤leafs b * (1+(tot a x.1+tot b x.2)):=Nat.mul_le_mul_left _ (by omega)
    rw[Nat.add_mul]
    omega
end Go.G

namespace Go.G
open Go Go.V
abbrev ValueT:Ty:=.pair (.int .i64) (.pair (.int .i64) (.pair (.str) (.unit)))
abbrev Value:=Int×Int×ByteArray×Unit
theorem c_eqValue {X:Ext} (hX:XOk X) {n:Nat} (hn:W+2≤n) (a b:Value) (hb:Fit maxLen ValueT b):C_laws_eqValue (DD X n) a b=some ((decide (a=b),()),()):=by
  obtain ⟨n,rfl⟩:∃ k,n=k+1:=⟨n - 1,by omega⟩
  rw[S_laws_eqValue hX]
  obtain ⟨a0,a1,a2,⟨⟩⟩:=a
  obtain ⟨b0,b1,b2,⟨⟩⟩:=b
  simp only[Fit] at hb
  have ne:∀ x y:Int,(x != y)=!decide (x=y):=fun x y=>by by_cases h:x=y<;>simp[h]
  simp only[F_laws_eqValue,laws_eqValue_e,beq_bytes,ne]
  by_cases h0:a0=b0<;>by_cases h1:a1=b1<;>by_cases h2:a2=b2<;>simp[h0,h1,h2,br]
theorem eqValueS_L (D:Den ctx) (n:Nat) (K0:Bool→Option ((Bool×Unit)×Unit)) (K1:Option ((Bool×Unit)×Unit)):∀ (m i:Nat) (a b:List Value),(∀ x y,y∈b→C_laws_eqValue D x y=some ((decide (x=y),()),()))→
    a.length=b.length→a.length≤maxLen→i≤a.length→a.length - i<m→laws_eqValueS_L0 D n K0 K1 m a b i=if a.drop i=b.drop i then K1 else K0 false
  | 0,_,_,_,_,_,_,_,h=>by omega
  | m+1,i,a,b,he,hl,hm,hi,hk=>by
    simp only[laws_eqValueS_L0,laws_eqValueS_b0]
    have hd:=maxLen_def
    by_cases h:i<a.length
    · rw[br_pos (by exact_mod_cast h),ix h,br_t,ix (hl ▸ h),br_t,wrap_succ (by omega),Int.toNat_natCast,getD_lt h,getD_lt (hl ▸ h),he _ _ (List.getElem_mem _),bindD_some,drop_cons h,drop_cons (hl ▸ h:i<b.length)]
      by_cases e:a[i]=b[i]'(hl ▸ h)
      · simp only[e,decide_true,Bool.not_true,br_f,List.cons.injEq,true_and]
        exact eqValueS_L D n K0 K1 m (i+1) a b he hl hm (by omega) (by omega)
      · simp only[e,decide_false,Bool.not_false,br_t,List.cons.injEq,false_and,if_false]
    · rw[br_neg (by exact_mod_cast h),drop_end h,drop_end (hl ▸ h)];rfl
theorem c_eqValueS {X:Ext} (hX:XOk X) {n:Nat} (hn:W+3≤n) (a b:List Value) (hb:Fit maxLen (.sl ValueT) b):C_laws_eqValueS (DD X n) a b=some ((decide (a=b),()),()):=by
  obtain ⟨n,rfl⟩:∃ k,n=k+1:=⟨n - 1,by omega⟩
  have hb1:b.length≤maxLen:=hb.1
  rw[S_laws_eqValueS hX]
  simp only[F_laws_eqValueS,laws_eqValueS_e,laws_eqValueS_LP0]
  by_cases h:a.length=b.length
  · have e:((a.length:Int) != (b.length:Int))=false:=by simp[h]
    rw[e,br_f]
    have:=eqValueS_L (DD X n) n (fun v=>laws_eqValueS_x0_0 (DD X n) n v) (laws_eqValueS_x0_1 (DD X n) n) n 0 a b (fun x y hy=>c_eqValue hX (by omega) x y (hb.2 y hy)) h (by omega) (by omega) (by have:=W_def;have:=maxLen_def;omega)
    rw[show ((0:Nat):Int)=0 from rfl] at this
    rw[this]
    simp only[List.drop_zero,laws_eqValueS_x0_0,laws_eqValueS_x0_1]
    by_cases h:a=b<;>simp[h]
  · have e:((a.length:Int) != (b.length:Int))=true:=by simp;omega
    have:a≠b:=fun h2=>h (by rw[h2])
    rw[e,br_t];simp[this]
theorem c_toValue {X:Ext} (hX:XOk X) {n:Nat} (hn:W+2≤n) (a:Value) (ha:Fit bound ValueT a):C_laws_toValue (DD X n) a=some ((a,()),()):=by
  obtain ⟨n,rfl⟩:∃ k,n=k+1:=⟨n - 1,by omega⟩
  rw[S_laws_toValue hX]
  rfl
theorem toValueS_L (D:Den ctx) (n:Nat) (K:List Value→Option ((List Value×Unit)×Unit)):∀ (m i:Nat) (a c:List Value),(∀ x∈a,C_laws_toValue D x=some ((x,()),()))→a.length=c.length→a.length≤maxLen→i≤a.length→a.length - i<m→
    laws_toValueS_L0 D n K m a i c=K (c.take i++a.drop i)
  | 0,_,_,_,_,_,_,_,h=>by omega
  | m+1,i,a,c,he,hl,hm,hi,hk=>by
    simp only[laws_toValueS_L0,laws_toValueS_b0]
    have hd:=maxLen_def
    by_cases h:i<a.length
    · rw[br_pos (by exact_mod_cast h),ix h,br_t,Int.toNat_natCast,getD_lt h,he _ (List.getElem_mem _),bindD_some,ix (hl ▸ h),br_t,wrap_succ (by omega)]
      have e:=toValueS_L D n K m (i+1) a (c.set i a[i]) he (by simp[hl]) hm (by omega) (by omega)
      rw[drop_cons h]
      refine Eq.trans e ?_
      rw[take_set (hl ▸ h),List.append_assoc];rfl
    · rw[br_neg (by exact_mod_cast h),drop_end h,List.take_of_length_le (by omega),List.append_nil]
theorem c_toValueS {X:Ext} (hX:XOk X) {n:Nat} (hn:W+3≤n) (a:List Value) (ha:Fit bound (.sl ValueT) a):C_laws_toValueS (DD X n) a=some ((a,()),()):=by
  obtain ⟨n,rfl⟩:∃ k,n=k+1:=⟨n - 1,by omega⟩
  have ha1:a.length≤bound:=ha.1
  rw[S_laws_toValueS hX]
  simp only[F_laws_toValueS,laws_toValueS_e,laws_toValueS_LP0]
  rw[to_cond ha1,br_t]
  have h1:=bound_def
  have:=toValueS_L (DD X n) n (fun v=>laws_toValueS_x0_0 (DD X n) n v) n 0 a (List.replicate (Int.toNat (a.length:Int)) (0,(0,(ByteArray.empty,())))) (fun x hx=>c_toValue hX (by omega) x (ha.2 x hx)) (by simp) (by rw[maxLen_def];omega) (by omega) (by have:=W_def;omega)
  rw[show ((0:Nat):Int)=0 from rfl] at this
  rw[this]
  simp only[List.take_zero,List.drop_zero,List.nil_append,laws_toValueS_x0_0]
theorem c_szValue {X:Ext} (hX:XOk X) {n:Nat} (hn:W+2≤n) (a:Value) (k:Int) (ha:Wf ValueT a) (hk:0≤k∧k≤maxLen):C_laws_szValue (DD X n) a k=some ((left ValueT a k,()),()):=by
  obtain ⟨n,rfl⟩:∃ k,n=k+1:=⟨n - 1,by omega⟩
  have hd:=maxLen_def
  simp only[Wf] at ha
  have w1:a.2.2.1.size≤maxLen:=ha.2.2.1
  have ht:tot ValueT a=0+(0+(a.2.2.1.size+(0))):=rfl
  rw[S_laws_szValue hX]
  simp only[F_laws_szValue,laws_szValue_e]
  rw[wrap_id (by omega) (by omega)]
  by_cases h:k - (a.2.2.1.size:Int)<0
  · rw[br_pos h,left_neg (by omega)]
  · rw[br_neg h,left_pos (by omega)]
    try (congr 3<;>omega)
theorem szValueS_L (D:Den ctx) (n:Nat) (K0:Int→Int→Option ((Int×Unit)×Unit)) (K1:Int→Option ((Int×Unit)×Unit)) (hK:∀ k,K1 k=some ((k,()),())) (hK0:∀ k,K0 k (-1)=some ((-1,()),())):∀ (m i:Nat) (k:Int) (a:List Value),
    (∀ x∈a,∀ k:Int,0≤k→k≤maxLen→C_laws_szValue D x k=some ((left ValueT x k,()),()))→a.length≤maxLen→i≤a.length→a.length - i<m→0≤k→k≤maxLen→
    laws_szValueS_L0 D n K0 K1 m a k i=some ((if (((a.drop i).map (tot ValueT)).sum:Int)≤k then k - ((a.drop i).map (tot ValueT)).sum else -1,()),())
  | 0,_,_,_,_,_,_,h,_,_=>by omega
  | m+1,i,k,a,he,hm,hi,hf,h0,h1=>by
    simp only[laws_szValueS_L0,laws_szValueS_b0]
    have hd:=maxLen_def
    by_cases h:i<a.length
    · rw[br_pos (by exact_mod_cast h),ix h,br_t,Int.toNat_natCast,getD_lt h,he _ (List.getElem_mem _) k h0 h1,bindD_some,wrap_succ (by omega),map_drop_sum h]
      by_cases h2:left ValueT a[i] k<0
      · rw[br_pos h2,hK0,if_neg]
        intro h3
        rw[left_pos (by omega)] at h2
        omega
      · obtain ⟨e1,e2⟩:=left_nonneg h2 h0
        rw[br_neg h2,e1];dsimp only
        rw[szValueS_L D n K0 K1 hK hK0 m (i+1) _ a he hm (by omega) (by omega) (by omega) (by omega)]
        congr 3
        push_cast
        split<;>split<;>omega
    · rw[br_neg (by exact_mod_cast h),drop_end h,hK]
      simp[h0]
theorem c_szValueS {X:Ext} (hX:XOk X) {n:Nat} (hn:W+3≤n) (a:List Value) (k:Int) (ha:Wf (.sl ValueT) a) (hk:0≤k∧k≤maxLen):C_laws_szValueS (DD X n) a k=some ((left (.sl ValueT) a k,()),()):=by
  obtain ⟨n,rfl⟩:∃ k,n=k+1:=⟨n - 1,by omega⟩
  have hd:=maxLen_def
  have w1:a.length≤maxLen:=ha.1
  have hts:=tot_sl (t:=ValueT) a
  rw[S_laws_szValueS hX]
  simp only[F_laws_szValueS,laws_szValueS_e,laws_szValueS_LP0]
  rw[wrap_id (by omega) (by omega)]
  by_cases h:k - (a.length:Int)<0
  · rw[br_pos h,left_neg (by omega)]
  · rw[br_neg h]
    have:=szValueS_L (DD X n) n (fun v w=>laws_szValueS_x0_0 (DD X n) n v w) (fun v=>laws_szValueS_x0_1 (DD X n) n v) (fun _=>rfl) (fun _=>rfl) n 0 (k - a.length) a
      (fun x hx k h0 h1=>c_szValue hX (by omega) x k (ha.2 x hx) ⟨h0,h1⟩) w1 (by omega) (by have:=W_def;omega) (by omega) (by omega)
    rw[show ((0:Nat):Int)=0 from rfl] at this
    rw[this,List.drop_zero]
    by_cases h2:(tot (.sl ValueT) a:Int)≤k
    · rw[left_pos h2,if_pos (by omega)];congr 3;omega
    · rw[left_neg h2,if_neg (by omega)]
theorem markValueS_L {X:Ext} (hX:XOk X) (N n:Nat) (hN:W+1≤N) (K:Int→List Value→Option ((Int×Unit)×List Value×Unit)):∀ (m i:Nat) (k:Int) (a:List Value),a.length≤maxLen→i≤a.length→a.length - i<m→0≤k→k+((a.drop i).map (cnt ValueT)).sum≤maxLen→
    laws_markValueS_L0 (DD X N) n K m k i a=K (mkL (mkT ValueT) k (a.drop i)).1 (a.take i++(mkL (mkT ValueT) k (a.drop i)).2)
  | 0,_,_,_,_,_,h,_,_=>by omega
  | m+1,i,k,a,hm,hi,hf,hk,hkl=>by
    simp only[laws_markValueS_L0,laws_markValueS_b0]
    have hd:=maxLen_def
    by_cases h:i<a.length
    · rw[map_drop_sum h] at hkl
      have hc:cnt ValueT a[i]=1+1+1:=by first | rfl | (simp only[cnt];omega)
      have t2:=c_markText hX hN (k+1+1) (by omega)
      have w0:IntKind.wrap IntKind.i64 (k+1)=k+1:=wrap_id (by omega) (by omega)
      have w1:IntKind.wrap IntKind.i64 (k+1+1)=k+1+1:=wrap_id (by omega) (by omega)
      have w2:IntKind.wrap IntKind.i64 (k+1+1+1)=k+1+1+1:=wrap_id (by omega) (by omega)
      have wi:IntKind.wrap IntKind.i64 ((i:Int)+1)=((i+1:Nat):Int):=wrap_succ (by omega)
      rw[br_pos (by exact_mod_cast h)]
      simp only[ix h,br_t,t2,w0,w1,w2,wi,bindD_some,List.length_set,Int.toNat_natCast,getD_set_same h,getD_lt h,List.set_set]
      have e:=markValueS_L hX N n hN K m (i+1) (k+1+1+1) (a.set i (k,k+1,mtext (k+1+1),())) (by simpa using hm) (by simp;omega) (by simp;omega) (by omega) (by rw[List.drop_set_of_lt (by omega)];omega)
      refine Eq.trans e ?_
      rw[take_set h,drop_cons h,List.drop_set_of_lt (by omega),List.append_assoc]
      rfl
    · rw[br_neg (by exact_mod_cast h),drop_end h,List.take_of_length_le (by omega)]
      simp only[mkL,List.append_nil]
theorem m_markValueS {X:Ext} (hX:XOk X) {n:Nat} (hn:W+2≤n) (a:List Value) (k:Int) (ha:a.length≤maxLen) (hk:0≤k) (h:k+cnt (.sl ValueT) a≤maxLen) :
    C_laws_markValueS (DD X n) a k=some (((mkT (.sl ValueT) k a).1,()),((mkT (.sl ValueT) k a).2,())):=by
  obtain ⟨n,rfl⟩:∃ k,n=k+1:=⟨n - 1,by omega⟩
  have hd:=maxLen_def
  rw[S_laws_markValueS hX]
  simp only[F_laws_markValueS,laws_markValueS_e,laws_markValueS_LP0]
  have:=markValueS_L hX n n (by omega) (fun v w=>laws_markValueS_x0_0 (DD X n) n v w) n 0 k a ha (by omega) (by have:=W_def;omega) hk (by rw[List.drop_zero];exact h)
  rw[show ((0:Nat):Int)=0 from rfl] at this
  rw[this]
  simp only[List.take_zero,List.drop_zero,List.nil_append,laws_markValueS_x0_0,mkT]
theorem heldValueS_L {X:Ext} (hX:XOk X) (N n:Nat) (hN:W+1≤N) (K0:Int→Int→Option ((Int×Unit)×Unit)) (K1:Int→Option ((Int×Unit)×Unit)):∀ (m i:Nat) (k:Int) (a l:List Value),a.length≤maxLen→i≤a.length→a.length - i<m→0≤k→k+(l.map (cnt ValueT)).sum≤maxLen→
    a.drop i=(mkL (mkT ValueT) k l).2→laws_heldValueS_L0 (DD X N) n K0 K1 m a k i=K1 (mkL (mkT ValueT) k l).1
  | 0,_,_,_,_,_,_,h,_,_,_=>by omega
  | m+1,i,k,a,l,hm,hi,hf,hk,hkl,hl=>by
    simp only[laws_heldValueS_L0,laws_heldValueS_b0]
    have hd:=maxLen_def
    by_cases h:i<a.length
    · rw[drop_cons h] at hl
      cases l with
      | nil=>simp[mkL] at hl;omega
      | cons x l=>
        simp only[mkL,List.cons.injEq] at hl
        obtain ⟨hx,hl⟩:=hl
        simp only[List.map_cons,List.sum_cons] at hkl
        have hc:cnt ValueT x=1+1+1:=by first | rfl | (simp only[cnt];omega)
        have t2:=c_markText hX hN (k+1+1) (by omega)
        have w0:IntKind.wrap IntKind.i64 (k+1)=k+1:=wrap_id (by omega) (by omega)
        have w1:IntKind.wrap IntKind.i64 (k+1+1)=k+1+1:=wrap_id (by omega) (by omega)
        have w2:IntKind.wrap IntKind.i64 (k+1+1+1)=k+1+1+1:=wrap_id (by omega) (by omega)
        have hx0:a[i].1=k:=by rw[hx];rfl
        have hx1:a[i].2.1=k+1:=by rw[hx];rfl
        have hx2:a[i].2.2.1=mtext (k+1+1):=by rw[hx];rfl
        have wi:IntKind.wrap IntKind.i64 ((i:Int)+1)=((i+1:Nat):Int):=wrap_succ (by omega)
        rw[br_pos (by exact_mod_cast h)]
        simp only[ix h,br_t,Int.toNat_natCast,getD_lt h,hx0,hx1,hx2,t2,w0,w1,w2,wi,bindD_some,beq_bytes,decide_true,Bool.not_true,br_f,bne_self_eq_false]
        exact heldValueS_L hX N n hN K0 K1 m (i+1) (mkT ValueT k x).1 a l hm (by omega) (by omega) (by rw[mkT_cnt];omega) (by rw[mkT_cnt];omega) hl
    · rw[br_neg (by exact_mod_cast h)]
      rw[drop_end h] at hl
      cases l with
      | nil=>rfl
      | cons x l=>simp[mkL] at hl
theorem m_heldValueS {X:Ext} (hX:XOk X) {n:Nat} (hn:W+2≤n) (a:List Value) (k:Int) (ha:a.length≤maxLen) (hk:0≤k) (h:k+cnt (.sl ValueT) a≤maxLen) :
    C_laws_heldValueS (DD X n) (mkT (.sl ValueT) k a).2 k=some (((mkT (.sl ValueT) k a).1,()),()):=by
  obtain ⟨n,rfl⟩:∃ k,n=k+1:=⟨n - 1,by omega⟩
  have hd:=maxLen_def
  rw[S_laws_heldValueS hX]
  simp only[F_laws_heldValueS,laws_heldValueS_e,laws_heldValueS_LP0]
  have hml:(mkT (.sl ValueT) k a).2.length=a.length:=mkL_len k a
  have:=heldValueS_L hX n n (by omega) (fun v w=>laws_heldValueS_x0_0 (DD X n) n v w) (fun v=>laws_heldValueS_x0_1 (DD X n) n v) n 0 k (mkT (.sl ValueT) k a).2 a (by omega) (by omega) (by have:=W_def;omega) hk h (by simp[mkT])
  rw[show ((0:Nat):Int)=0 from rfl] at this
  rw[this]
  simp only[laws_heldValueS_x0_1,mkT]
abbrev ColT:Ty:=.pair (.str) (.pair (.int .i64) (.pair (.bool) (.unit)))
abbrev Col:=ByteArray×Int×Bool×Unit
theorem c_eqCol {X:Ext} (hX:XOk X) {n:Nat} (hn:W+2≤n) (a b:Col) (hb:Fit maxLen ColT b):C_laws_eqCol (DD X n) a b=some ((decide (a=b),()),()):=by
  obtain ⟨n,rfl⟩:∃ k,n=k+1:=⟨n - 1,by omega⟩
  rw[S_laws_eqCol hX]
  obtain ⟨a0,a1,a2,⟨⟩⟩:=a
  obtain ⟨b0,b1,b2,⟨⟩⟩:=b
  simp only[Fit] at hb
  have ne:∀ x y:Int,(x != y)=!decide (x=y):=fun x y=>by by_cases h:x=y<;>simp[h]
  simp only[F_laws_eqCol,laws_eqCol_e,beq_bytes,ne]
  by_cases h0:a0=b0<;>by_cases h1:a1=b1<;>by_cases h2:a2=b2<;>simp[h0,h1,h2,br]
theorem eqColS_L (D:Den ctx) (n:Nat) (K0:Bool→Option ((Bool×Unit)×Unit)) (K1:Option ((Bool×Unit)×Unit)):∀ (m i:Nat) (a b:List Col),(∀ x y,y∈b→C_laws_eqCol D x y=some ((decide (x=y),()),()))→
    a.length=b.length→a.length≤maxLen→i≤a.length→a.length - i<m→laws_eqColS_L0 D n K0 K1 m a b i=if a.drop i=b.drop i then K1 else K0 false
  | 0,_,_,_,_,_,_,_,h=>by omega
  | m+1,i,a,b,he,hl,hm,hi,hk=>by
    simp only[laws_eqColS_L0,laws_eqColS_b0]
    have hd:=maxLen_def
    by_cases h:i<a.length
    · rw[br_pos (by exact_mod_cast h),ix h,br_t,ix (hl ▸ h),br_t,wrap_succ (by omega),Int.toNat_natCast,getD_lt h,getD_lt (hl ▸ h),he _ _ (List.getElem_mem _),bindD_some,drop_cons h,drop_cons (hl ▸ h:i<b.length)]
      by_cases e:a[i]=b[i]'(hl ▸ h)
      · simp only[e,decide_true,Bool.not_true,br_f,List.cons.injEq,true_and]
        exact eqColS_L D n K0 K1 m (i+1) a b he hl hm (by omega) (by omega)
      · simp only[e,decide_false,Bool.not_false,br_t,List.cons.injEq,false_and,if_false]
    · rw[br_neg (by exact_mod_cast h),drop_end h,drop_end (hl ▸ h)];rfl
theorem c_eqColS {X:Ext} (hX:XOk X) {n:Nat} (hn:W+3≤n) (a b:List Col) (hb:Fit maxLen (.sl ColT) b):C_laws_eqColS (DD X n) a b=some ((decide (a=b),()),()):=by
  obtain ⟨n,rfl⟩:∃ k,n=k+1:=⟨n - 1,by omega⟩
  have hb1:b.length≤maxLen:=hb.1
  rw[S_laws_eqColS hX]
  simp only[F_laws_eqColS,laws_eqColS_e,laws_eqColS_LP0]
  by_cases h:a.length=b.length
  · have e:((a.length:Int) != (b.length:Int))=false:=by simp[h]
    rw[e,br_f]
    have:=eqColS_L (DD X n) n (fun v=>laws_eqColS_x0_0 (DD X n) n v) (laws_eqColS_x0_1 (DD X n) n) n 0 a b (fun x y hy=>c_eqCol hX (by omega) x y (hb.2 y hy)) h (by omega) (by omega) (by have:=W_def;have:=maxLen_def;omega)
    rw[show ((0:Nat):Int)=0 from rfl] at this
    rw[this]
    simp only[List.drop_zero,laws_eqColS_x0_0,laws_eqColS_x0_1]
    by_cases h:a=b<;>simp[h]
  · have e:((a.length:Int) != (b.length:Int))=true:=by simp;omega
    have:a≠b:=fun h2=>h (by rw[h2])
    rw[e,br_t];simp[this]
theorem c_toCol {X:Ext} (hX:XOk X) {n:Nat} (hn:W+2≤n) (a:Col) (ha:Fit bound ColT a):C_laws_toCol (DD X n) a=some ((a,()),()):=by
  obtain ⟨n,rfl⟩:∃ k,n=k+1:=⟨n - 1,by omega⟩
  rw[S_laws_toCol hX]
  rfl
theorem toColS_L (D:Den ctx) (n:Nat) (K:List Col→Option ((List Col×Unit)×Unit)):∀ (m i:Nat) (a c:List Col),(∀ x∈a,C_laws_toCol D x=some ((x,()),()))→a.length=c.length→a.length≤maxLen→i≤a.length→a.length - i<m→
    laws_toColS_L0 D n K m a i c=K (c.take i++a.drop i)
  | 0,_,_,_,_,_,_,_,h=>by omega
  | m+1,i,a,c,he,hl,hm,hi,hk=>by
    simp only[laws_toColS_L0,laws_toColS_b0]
    have hd:=maxLen_def
    by_cases h:i<a.length
    · rw[br_pos (by exact_mod_cast h),ix h,br_t,Int.toNat_natCast,getD_lt h,he _ (List.getElem_mem _),bindD_some,ix (hl ▸ h),br_t,wrap_succ (by omega)]
      have e:=toColS_L D n K m (i+1) a (c.set i a[i]) he (by simp[hl]) hm (by omega) (by omega)
      rw[drop_cons h]
      refine Eq.trans e ?_
      rw[take_set (hl ▸ h),List.append_assoc];rfl
    · rw[br_neg (by exact_mod_cast h),drop_end h,List.take_of_length_le (by omega),List.append_nil]
theorem c_toColS {X:Ext} (hX:XOk X) {n:Nat} (hn:W+3≤n) (a:List Col) (ha:Fit bound (.sl ColT) a):C_laws_toColS (DD X n) a=some ((a,()),()):=by
  obtain ⟨n,rfl⟩:∃ k,n=k+1:=⟨n - 1,by omega⟩
  have ha1:a.length≤bound:=ha.1
  rw[S_laws_toColS hX]
  simp only[F_laws_toColS,laws_toColS_e,laws_toColS_LP0]
  rw[to_cond ha1,br_t]
  have h1:=bound_def
  have:=toColS_L (DD X n) n (fun v=>laws_toColS_x0_0 (DD X n) n v) n 0 a (List.replicate (Int.toNat (a.length:Int)) (ByteArray.empty,(0,(false,())))) (fun x hx=>c_toCol hX (by omega) x (ha.2 x hx)) (by simp) (by rw[maxLen_def];omega) (by omega) (by have:=W_def;omega)
  rw[show ((0:Nat):Int)=0 from rfl] at this
  rw[this]
  simp only[List.take_zero,List.drop_zero,List.nil_append,laws_toColS_x0_0]
theorem c_szCol {X:Ext} (hX:XOk X) {n:Nat} (hn:W+2≤n) (a:Col) (k:Int) (ha:Wf ColT a) (hk:0≤k∧k≤maxLen):C_laws_szCol (DD X n) a k=some ((left ColT a k,()),()):=by
  obtain ⟨n,rfl⟩:∃ k,n=k+1:=⟨n - 1,by omega⟩
  have hd:=maxLen_def
  simp only[Wf] at ha
  have w1:a.1.size≤maxLen:=ha.1
  have ht:tot ColT a=a.1.size+(0+(0+(0))):=rfl
  rw[S_laws_szCol hX]
  simp only[F_laws_szCol,laws_szCol_e]
  rw[wrap_id (by omega) (by omega)]
  by_cases h:k - (a.1.size:Int)<0
  · rw[br_pos h,left_neg (by omega)]
  · rw[br_neg h,left_pos (by omega)]
    try (congr 3<;>omega)
theorem szColS_L (D:Den ctx) (n:Nat) (K0:Int→Int→Option ((Int×Unit)×Unit)) (K1:Int→Option ((Int×Unit)×Unit)) (hK:∀ k,K1 k=some ((k,()),())) (hK0:∀ k,K0 k (-1)=some ((-1,()),())):∀ (m i:Nat) (k:Int) (a:List Col),
    (∀ x∈a,∀ k:Int,0≤k→k≤maxLen→C_laws_szCol D x k=some ((left ColT x k,()),()))→a.length≤maxLen→i≤a.length→a.length - i<m→0≤k→k≤maxLen→
    laws_szColS_L0 D n K0 K1 m a k i=some ((if (((a.drop i).map (tot ColT)).sum:Int)≤k then k - ((a.drop i).map (tot ColT)).sum else -1,()),())
  | 0,_,_,_,_,_,_,h,_,_=>by omega
  | m+1,i,k,a,he,hm,hi,hf,h0,h1=>by
    simp only[laws_szColS_L0,laws_szColS_b0]
    have hd:=maxLen_def
    by_cases h:i<a.length
    · rw[br_pos (by exact_mod_cast h),ix h,br_t,Int.toNat_natCast,getD_lt h,he _ (List.getElem_mem _) k h0 h1,bindD_some,wrap_succ (by omega),map_drop_sum h]
      by_cases h2:left ColT a[i] k<0
      · rw[br_pos h2,hK0,if_neg]
        intro h3
        rw[left_pos (by omega)] at h2
        omega
      · obtain ⟨e1,e2⟩:=left_nonneg h2 h0
        rw[br_neg h2,e1];dsimp only
        rw[szColS_L D n K0 K1 hK hK0 m (i+1) _ a he hm (by omega) (by omega) (by omega) (by omega)]
        congr 3
        push_cast
        split<;>split<;>omega
    · rw[br_neg (by exact_mod_cast h),drop_end h,hK]
      simp[h0]
theorem c_szColS {X:Ext} (hX:XOk X) {n:Nat} (hn:W+3≤n) (a:List Col) (k:Int) (ha:Wf (.sl ColT) a) (hk:0≤k∧k≤maxLen):C_laws_szColS (DD X n) a k=some ((left (.sl ColT) a k,()),()):=by
  obtain ⟨n,rfl⟩:∃ k,n=k+1:=⟨n - 1,by omega⟩
  have hd:=maxLen_def
  have w1:a.length≤maxLen:=ha.1
  have hts:=tot_sl (t:=ColT) a
  rw[S_laws_szColS hX]
  simp only[F_laws_szColS,laws_szColS_e,laws_szColS_LP0]
  rw[wrap_id (by omega) (by omega)]
  by_cases h:k - (a.length:Int)<0
  · rw[br_pos h,left_neg (by omega)]
  · rw[br_neg h]
    have:=szColS_L (DD X n) n (fun v w=>laws_szColS_x0_0 (DD X n) n v w) (fun v=>laws_szColS_x0_1 (DD X n) n v) (fun _=>rfl) (fun _=>rfl) n 0 (k - a.length) a
      (fun x hx k h0 h1=>c_szCol hX (by omega) x k (ha.2 x hx) ⟨h0,h1⟩) w1 (by omega) (by have:=W_def;omega) (by omega) (by omega)
    rw[show ((0:Nat):Int)=0 from rfl] at this
    rw[this,List.drop_zero]
    by_cases h2:(tot (.sl ColT) a:Int)≤k
    · rw[left_pos h2,if_pos (by omega)];congr 3;omega
    · rw[left_neg h2,if_neg (by omega)]
theorem markColS_L {X:Ext} (hX:XOk X) (N n:Nat) (hN:W+1≤N) (K:Int→List Col→Option ((Int×Unit)×List Col×Unit)):∀ (m i:Nat) (k:Int) (a:List Col),a.length≤maxLen→i≤a.length→a.length - i<m→0≤k→k+((a.drop i).map (cnt ColT)).sum≤maxLen→
    laws_markColS_L0 (DD X N) n K m k i a=K (mkL (mkT ColT) k (a.drop i)).1 (a.take i++(mkL (mkT ColT) k (a.drop i)).2)
  | 0,_,_,_,_,_,h,_,_=>by omega
  | m+1,i,k,a,hm,hi,hf,hk,hkl=>by
    simp only[laws_markColS_L0,laws_markColS_b0]
    have hd:=maxLen_def
    by_cases h:i<a.length
    · rw[map_drop_sum h] at hkl
      have hc:cnt ColT a[i]=1+1+1:=by first | rfl | (simp only[cnt];omega)
      have t0:=c_markText hX hN (k) (by omega)
      have w0:IntKind.wrap IntKind.i64 (k+1)=k+1:=wrap_id (by omega) (by omega)
      have w1:IntKind.wrap IntKind.i64 (k+1+1)=k+1+1:=wrap_id (by omega) (by omega)
      have w2:IntKind.wrap IntKind.i64 (k+1+1+1)=k+1+1+1:=wrap_id (by omega) (by omega)
      have wi:IntKind.wrap IntKind.i64 ((i:Int)+1)=((i+1:Nat):Int):=wrap_succ (by omega)
      rw[br_pos (by exact_mod_cast h)]
      simp only[ix h,br_t,t0,w0,w1,w2,wi,bindD_some,List.length_set,Int.toNat_natCast,getD_set_same h,getD_lt h,List.set_set]
      have e:=markColS_L hX N n hN K m (i+1) (k+1+1+1) (a.set i (mtext (k),k+1,decide (Int.tmod (k+1+1) 3=0),())) (by simpa using hm) (by simp;omega) (by simp;omega) (by omega) (by rw[List.drop_set_of_lt (by omega)];omega)
      refine Eq.trans e ?_
      rw[take_set h,drop_cons h,List.drop_set_of_lt (by omega),List.append_assoc]
      rfl
    · rw[br_neg (by exact_mod_cast h),drop_end h,List.take_of_length_le (by omega)]
      simp only[mkL,List.append_nil]
theorem m_markColS {X:Ext} (hX:XOk X) {n:Nat} (hn:W+2≤n) (a:List Col) (k:Int) (ha:a.length≤maxLen) (hk:0≤k) (h:k+cnt (.sl ColT) a≤maxLen) :
    C_laws_markColS (DD X n) a k=some (((mkT (.sl ColT) k a).1,()),((mkT (.sl ColT) k a).2,())):=by
  obtain ⟨n,rfl⟩:∃ k,n=k+1:=⟨n - 1,by omega⟩
  have hd:=maxLen_def
  rw[S_laws_markColS hX]
  simp only[F_laws_markColS,laws_markColS_e,laws_markColS_LP0]
  have:=markColS_L hX n n (by omega) (fun v w=>laws_markColS_x0_0 (DD X n) n v w) n 0 k a ha (by omega) (by have:=W_def;omega) hk (by rw[List.drop_zero];exact h)
  rw[show ((0:Nat):Int)=0 from rfl] at this
  rw[this]
  simp only[List.take_zero,List.drop_zero,List.nil_append,laws_markColS_x0_0,mkT]
theorem heldColS_L {X:Ext} (hX:XOk X) (N n:Nat) (hN:W+1≤N) (K0:Int→Int→Option ((Int×Unit)×Unit)) (K1:Int→Option ((Int×Unit)×Unit)):∀ (m i:Nat) (k:Int) (a l:List Col),a.length≤maxLen→i≤a.length→a.length - i<m→0≤k→k+(l.map (cnt ColT)).sum≤maxLen→
    a.drop i=(mkL (mkT ColT) k l).2→laws_heldColS_L0 (DD X N) n K0 K1 m a k i=K1 (mkL (mkT ColT) k l).1
  | 0,_,_,_,_,_,_,h,_,_,_=>by omega
  | m+1,i,k,a,l,hm,hi,hf,hk,hkl,hl=>by
    simp only[laws_heldColS_L0,laws_heldColS_b0]
    have hd:=maxLen_def
    by_cases h:i<a.length
    · rw[drop_cons h] at hl
      cases l with
      | nil=>simp[mkL] at hl;omega
      | cons x l=>
        simp only[mkL,List.cons.injEq] at hl
        obtain ⟨hx,hl⟩:=hl
        simp only[List.map_cons,List.sum_cons] at hkl
        have hc:cnt ColT x=1+1+1:=by first | rfl | (simp only[cnt];omega)
        have t0:=c_markText hX hN (k) (by omega)
        have w0:IntKind.wrap IntKind.i64 (k+1)=k+1:=wrap_id (by omega) (by omega)
        have w1:IntKind.wrap IntKind.i64 (k+1+1)=k+1+1:=wrap_id (by omega) (by omega)
        have w2:IntKind.wrap IntKind.i64 (k+1+1+1)=k+1+1+1:=wrap_id (by omega) (by omega)
        have hx0:a[i].1=mtext (k):=by rw[hx];rfl
        have hx1:a[i].2.1=k+1:=by rw[hx];rfl
        have hx2:a[i].2.2.1=decide (Int.tmod (k+1+1) 3=0):=by rw[hx];rfl
        have wi:IntKind.wrap IntKind.i64 ((i:Int)+1)=((i+1:Nat):Int):=wrap_succ (by omega)
        rw[br_pos (by exact_mod_cast h)]
        simp only[ix h,br_t,Int.toNat_natCast,getD_lt h,hx0,hx1,hx2,t0,w0,w1,w2,wi,bindD_some,beq_bytes,decide_true,Bool.not_true,br_f,bne_self_eq_false]
        exact heldColS_L hX N n hN K0 K1 m (i+1) (mkT ColT k x).1 a l hm (by omega) (by omega) (by rw[mkT_cnt];omega) (by rw[mkT_cnt];omega) hl
    · rw[br_neg (by exact_mod_cast h)]
      rw[drop_end h] at hl
      cases l with
      | nil=>rfl
      | cons x l=>simp[mkL] at hl
theorem m_heldColS {X:Ext} (hX:XOk X) {n:Nat} (hn:W+2≤n) (a:List Col) (k:Int) (ha:a.length≤maxLen) (hk:0≤k) (h:k+cnt (.sl ColT) a≤maxLen) :
    C_laws_heldColS (DD X n) (mkT (.sl ColT) k a).2 k=some (((mkT (.sl ColT) k a).1,()),()):=by
  obtain ⟨n,rfl⟩:∃ k,n=k+1:=⟨n - 1,by omega⟩
  have hd:=maxLen_def
  rw[S_laws_heldColS hX]
  simp only[F_laws_heldColS,laws_heldColS_e,laws_heldColS_LP0]
  have hml:(mkT (.sl ColT) k a).2.length=a.length:=mkL_len k a
  have:=heldColS_L hX n n (by omega) (fun v w=>laws_heldColS_x0_0 (DD X n) n v w) (fun v=>laws_heldColS_x0_1 (DD X n) n v) n 0 k (mkT (.sl ColT) k a).2 a (by omega) (by omega) (by have:=W_def;omega) hk h (by simp[mkT])
  rw[show ((0:Nat):Int)=0 from rfl] at this
  rw[this]
  simp only[laws_heldColS_x0_1,mkT]
abbrev IndexT:Ty:=.pair (.str) (.pair (.sl (.int .i64)) (.pair (.bool) (.unit)))
abbrev Index:=ByteArray×List Int×Bool×Unit
theorem c_eqIndex {X:Ext} (hX:XOk X) {n:Nat} (hn:W+2≤n) (a b:Index) (hb:Fit maxLen IndexT b):C_laws_eqIndex (DD X n) a b=some ((decide (a=b),()),()):=by
  obtain ⟨n,rfl⟩:∃ k,n=k+1:=⟨n - 1,by omega⟩
  rw[S_laws_eqIndex hX]
  obtain ⟨a0,a1,a2,⟨⟩⟩:=a
  obtain ⟨b0,b1,b2,⟨⟩⟩:=b
  simp only[Fit] at hb
  have ne:∀ x y:Int,(x != y)=!decide (x=y):=fun x y=>by by_cases h:x=y<;>simp[h]
  simp only[F_laws_eqIndex,laws_eqIndex_e,beq_bytes,ne]
  rw[c_eqIntS hX (by omega) _ _ (hb.2.1.1),bindD_some]
  by_cases h0:a0=b0<;>by_cases h1:a1=b1<;>by_cases h2:a2=b2<;>simp[h0,h1,h2,br]
theorem eqIndexS_L (D:Den ctx) (n:Nat) (K0:Bool→Option ((Bool×Unit)×Unit)) (K1:Option ((Bool×Unit)×Unit)):∀ (m i:Nat) (a b:List Index),(∀ x y,y∈b→C_laws_eqIndex D x y=some ((decide (x=y),()),()))→
    a.length=b.length→a.length≤maxLen→i≤a.length→a.length - i<m→laws_eqIndexS_L0 D n K0 K1 m a b i=if a.drop i=b.drop i then K1 else K0 false
  | 0,_,_,_,_,_,_,_,h=>by omega
  | m+1,i,a,b,he,hl,hm,hi,hk=>by
    simp only[laws_eqIndexS_L0,laws_eqIndexS_b0]
    have hd:=maxLen_def
    by_cases h:i<a.length
    · rw[br_pos (by exact_mod_cast h),ix h,br_t,ix (hl ▸ h),br_t,wrap_succ (by omega),Int.toNat_natCast,getD_lt h,getD_lt (hl ▸ h),he _ _ (List.getElem_mem _),bindD_some,drop_cons h,drop_cons (hl ▸ h:i<b.length)]
      by_cases e:a[i]=b[i]'(hl ▸ h)
      · simp only[e,decide_true,Bool.not_true,br_f,List.cons.injEq,true_and]
        exact eqIndexS_L D n K0 K1 m (i+1) a b he hl hm (by omega) (by omega)
      · simp only[e,decide_false,Bool.not_false,br_t,List.cons.injEq,false_and,if_false]
    · rw[br_neg (by exact_mod_cast h),drop_end h,drop_end (hl ▸ h)];rfl
theorem c_eqIndexS {X:Ext} (hX:XOk X) {n:Nat} (hn:W+3≤n) (a b:List Index) (hb:Fit maxLen (.sl IndexT) b):C_laws_eqIndexS (DD X n) a b=some ((decide (a=b),()),()):=by
  obtain ⟨n,rfl⟩:∃ k,n=k+1:=⟨n - 1,by omega⟩
  have hb1:b.length≤maxLen:=hb.1
  rw[S_laws_eqIndexS hX]
  simp only[F_laws_eqIndexS,laws_eqIndexS_e,laws_eqIndexS_LP0]
  by_cases h:a.length=b.length
  · have e:((a.length:Int) != (b.length:Int))=false:=by simp[h]
    rw[e,br_f]
    have:=eqIndexS_L (DD X n) n (fun v=>laws_eqIndexS_x0_0 (DD X n) n v) (laws_eqIndexS_x0_1 (DD X n) n) n 0 a b (fun x y hy=>c_eqIndex hX (by omega) x y (hb.2 y hy)) h (by omega) (by omega) (by have:=W_def;have:=maxLen_def;omega)
    rw[show ((0:Nat):Int)=0 from rfl] at this
    rw[this]
    simp only[List.drop_zero,laws_eqIndexS_x0_0,laws_eqIndexS_x0_1]
    by_cases h:a=b<;>simp[h]
  · have e:((a.length:Int) != (b.length:Int))=true:=by simp;omega
    have:a≠b:=fun h2=>h (by rw[h2])
    rw[e,br_t];simp[this]
theorem c_toIndex {X:Ext} (hX:XOk X) {n:Nat} (hn:W+2≤n) (a:Index) (ha:Fit bound IndexT a):C_laws_toIndex (DD X n) a=some ((a,()),()):=by
  obtain ⟨n,rfl⟩:∃ k,n=k+1:=⟨n - 1,by omega⟩
  rw[S_laws_toIndex hX]
  simp only[Fit] at ha
  simp only[F_laws_toIndex,laws_toIndex_e]
  rw[c_toIntS hX (by omega) _ ha.2.1.1,bindD_some]
theorem toIndexS_L (D:Den ctx) (n:Nat) (K:List Index→Option ((List Index×Unit)×Unit)):∀ (m i:Nat) (a c:List Index),(∀ x∈a,C_laws_toIndex D x=some ((x,()),()))→a.length=c.length→a.length≤maxLen→i≤a.length→a.length - i<m→
    laws_toIndexS_L0 D n K m a i c=K (c.take i++a.drop i)
  | 0,_,_,_,_,_,_,_,h=>by omega
  | m+1,i,a,c,he,hl,hm,hi,hk=>by
    simp only[laws_toIndexS_L0,laws_toIndexS_b0]
    have hd:=maxLen_def
    by_cases h:i<a.length
    · rw[br_pos (by exact_mod_cast h),ix h,br_t,Int.toNat_natCast,getD_lt h,he _ (List.getElem_mem _),bindD_some,ix (hl ▸ h),br_t,wrap_succ (by omega)]
      have e:=toIndexS_L D n K m (i+1) a (c.set i a[i]) he (by simp[hl]) hm (by omega) (by omega)
      rw[drop_cons h]
      refine Eq.trans e ?_
      rw[take_set (hl ▸ h),List.append_assoc];rfl
    · rw[br_neg (by exact_mod_cast h),drop_end h,List.take_of_length_le (by omega),List.append_nil]
theorem c_toIndexS {X:Ext} (hX:XOk X) {n:Nat} (hn:W+3≤n) (a:List Index) (ha:Fit bound (.sl IndexT) a):C_laws_toIndexS (DD X n) a=some ((a,()),()):=by
  obtain ⟨n,rfl⟩:∃ k,n=k+1:=⟨n - 1,by omega⟩
  have ha1:a.length≤bound:=ha.1
  rw[S_laws_toIndexS hX]
  simp only[F_laws_toIndexS,laws_toIndexS_e,laws_toIndexS_LP0]
  rw[to_cond ha1,br_t]
  have h1:=bound_def
  have:=toIndexS_L (DD X n) n (fun v=>laws_toIndexS_x0_0 (DD X n) n v) n 0 a (List.replicate (Int.toNat (a.length:Int)) (ByteArray.empty,([],(false,())))) (fun x hx=>c_toIndex hX (by omega) x (ha.2 x hx)) (by simp) (by rw[maxLen_def];omega) (by omega) (by have:=W_def;omega)
  rw[show ((0:Nat):Int)=0 from rfl] at this
  rw[this]
  simp only[List.take_zero,List.drop_zero,List.nil_append,laws_toIndexS_x0_0]
theorem c_szIndex {X:Ext} (hX:XOk X) {n:Nat} (hn:W+2≤n) (a:Index) (k:Int) (ha:Wf IndexT a) (hk:0≤k∧k≤maxLen):C_laws_szIndex (DD X n) a k=some ((left IndexT a k,()),()):=by
  obtain ⟨n,rfl⟩:∃ k,n=k+1:=⟨n - 1,by omega⟩
  have hd:=maxLen_def
  simp only[Wf] at ha
  have w1:a.1.size≤maxLen:=ha.1
  have ht:tot IndexT a=a.1.size+(tot IntsT a.2.1+(0+(0))):=rfl
  rw[tot_ints] at ht
  rw[S_laws_szIndex hX]
  simp only[F_laws_szIndex,laws_szIndex_e]
  rw[wrap_id (by omega) (by omega)]
  by_cases h:k - (a.1.size:Int)<0
  · rw[br_pos h,left_neg (by omega)]
  · have w2:a.2.1.length≤maxLen:=ha.2.1.1
    rw[br_neg h,c_szIntS hX (by omega) _ _ w2 (by omega),bindD_some]
    have e2:=tot_ints a.2.1
    by_cases h2:(tot IntsT a.2.1:Int)≤k - a.1.size
    · rw[left_pos h2];dsimp only
      rw[br_neg (by omega),left_pos (by omega)]
      congr 3;omega
    · rw[left_neg h2];dsimp only
      rw[br_pos (by omega),left_neg (by omega)]
theorem szIndexS_L (D:Den ctx) (n:Nat) (K0:Int→Int→Option ((Int×Unit)×Unit)) (K1:Int→Option ((Int×Unit)×Unit)) (hK:∀ k,K1 k=some ((k,()),())) (hK0:∀ k,K0 k (-1)=some ((-1,()),())):∀ (m i:Nat) (k:Int) (a:List Index),
    (∀ x∈a,∀ k:Int,0≤k→k≤maxLen→C_laws_szIndex D x k=some ((left IndexT x k,()),()))→a.length≤maxLen→i≤a.length→a.length - i<m→0≤k→k≤maxLen→
    laws_szIndexS_L0 D n K0 K1 m a k i=some ((if (((a.drop i).map (tot IndexT)).sum:Int)≤k then k - ((a.drop i).map (tot IndexT)).sum else -1,()),())
  | 0,_,_,_,_,_,_,h,_,_=>by omega
  | m+1,i,k,a,he,hm,hi,hf,h0,h1=>by
    simp only[laws_szIndexS_L0,laws_szIndexS_b0]
    have hd:=maxLen_def
    by_cases h:i<a.length
    · rw[br_pos (by exact_mod_cast h),ix h,br_t,Int.toNat_natCast,getD_lt h,he _ (List.getElem_mem _) k h0 h1,bindD_some,wrap_succ (by omega),map_drop_sum h]
      by_cases h2:left IndexT a[i] k<0
      · rw[br_pos h2,hK0,if_neg]
        intro h3
        rw[left_pos (by omega)] at h2
        omega
      · obtain ⟨e1,e2⟩:=left_nonneg h2 h0
        rw[br_neg h2,e1];dsimp only
        rw[szIndexS_L D n K0 K1 hK hK0 m (i+1) _ a he hm (by omega) (by omega) (by omega) (by omega)]
        congr 3
        push_cast
        split<;>split<;>omega
    · rw[br_neg (by exact_mod_cast h),drop_end h,hK]
      simp[h0]
theorem c_szIndexS {X:Ext} (hX:XOk X) {n:Nat} (hn:W+3≤n) (a:List Index) (k:Int) (ha:Wf (.sl IndexT) a) (hk:0≤k∧k≤maxLen):C_laws_szIndexS (DD X n) a k=some ((left (.sl IndexT) a k,()),()):=by
  obtain ⟨n,rfl⟩:∃ k,n=k+1:=⟨n - 1,by omega⟩
  have hd:=maxLen_def
  have w1:a.length≤maxLen:=ha.1
  have hts:=tot_sl (t:=IndexT) a
  rw[S_laws_szIndexS hX]
  simp only[F_laws_szIndexS,laws_szIndexS_e,laws_szIndexS_LP0]
  rw[wrap_id (by omega) (by omega)]
  by_cases h:k - (a.length:Int)<0
  · rw[br_pos h,left_neg (by omega)]
  · rw[br_neg h]
    have:=szIndexS_L (DD X n) n (fun v w=>laws_szIndexS_x0_0 (DD X n) n v w) (fun v=>laws_szIndexS_x0_1 (DD X n) n v) (fun _=>rfl) (fun _=>rfl) n 0 (k - a.length) a
      (fun x hx k h0 h1=>c_szIndex hX (by omega) x k (ha.2 x hx) ⟨h0,h1⟩) w1 (by omega) (by have:=W_def;omega) (by omega) (by omega)
    rw[show ((0:Nat):Int)=0 from rfl] at this
    rw[this,List.drop_zero]
    by_cases h2:(tot (.sl IndexT) a:Int)≤k
    · rw[left_pos h2,if_pos (by omega)];congr 3;omega
    · rw[left_neg h2,if_neg (by omega)]
theorem markIndexS_L {X:Ext} (hX:XOk X) (N n:Nat) (hN:W+1≤N) (K:Int→List Index→Option ((Int×Unit)×List Index×Unit)):∀ (m i:Nat) (k:Int) (a:List Index),a.length≤maxLen→i≤a.length→a.length - i<m→0≤k→k+((a.drop i).map (cnt IndexT)).sum≤maxLen→
    laws_markIndexS_L0 (DD X N) n K m k i a=K (mkL (mkT IndexT) k (a.drop i)).1 (a.take i++(mkL (mkT IndexT) k (a.drop i)).2)
  | 0,_,_,_,_,_,h,_,_=>by omega
  | m+1,i,k,a,hm,hi,hf,hk,hkl=>by
    simp only[laws_markIndexS_L0,laws_markIndexS_b0]
    have hd:=maxLen_def
    by_cases h:i<a.length
    · rw[map_drop_sum h] at hkl
      have hc:cnt IndexT a[i]=1+cnt IntsT a[i].2.1+1:=by first | rfl | (simp only[cnt];omega)
      have t0:=c_markText hX hN (k) (by omega)
      have hc1:=mkT_cnt IntsT (k+1) a[i].2.1
      have t1:=m_markIntS hX hN a[i].2.1 (k+1) (by omega) (by omega)
      have w0:IntKind.wrap IntKind.i64 (k+1)=k+1:=wrap_id (by omega) (by omega)
      have w1:IntKind.wrap IntKind.i64 ((mkT IntsT (k+1) a[i].2.1).1+1)=(mkT IntsT (k+1) a[i].2.1).1+1:=wrap_id (by omega) (by omega)
      have wi:IntKind.wrap IntKind.i64 ((i:Int)+1)=((i+1:Nat):Int):=wrap_succ (by omega)
      rw[br_pos (by exact_mod_cast h)]
      simp only[ix h,br_t,t0,t1,w0,w1,wi,bindD_some,List.length_set,Int.toNat_natCast,getD_set_same h,getD_lt h,List.set_set]
      refine Eq.trans (br_lends rfl) ?_
      have e:=markIndexS_L hX N n hN K m (i+1) ((mkT IntsT (k+1) a[i].2.1).1+1) (a.set i (mtext (k),(mkT IntsT (k+1) a[i].2.1).2,decide (Int.tmod ((mkT IntsT (k+1) a[i].2.1).1) 3=0),())) (by simpa using hm) (by simp;omega) (by simp;omega) (by omega) (by rw[List.drop_set_of_lt (by omega)];omega)
      refine Eq.trans e ?_
      rw[take_set h,drop_cons h,List.drop_set_of_lt (by omega),List.append_assoc]
      rfl
    · rw[br_neg (by exact_mod_cast h),drop_end h,List.take_of_length_le (by omega)]
      simp only[mkL,List.append_nil]
theorem m_markIndexS {X:Ext} (hX:XOk X) {n:Nat} (hn:W+2≤n) (a:List Index) (k:Int) (ha:a.length≤maxLen) (hk:0≤k) (h:k+cnt (.sl IndexT) a≤maxLen) :
    C_laws_markIndexS (DD X n) a k=some (((mkT (.sl IndexT) k a).1,()),((mkT (.sl IndexT) k a).2,())):=by
  obtain ⟨n,rfl⟩:∃ k,n=k+1:=⟨n - 1,by omega⟩
  have hd:=maxLen_def
  rw[S_laws_markIndexS hX]
  simp only[F_laws_markIndexS,laws_markIndexS_e,laws_markIndexS_LP0]
  have:=markIndexS_L hX n n (by omega) (fun v w=>laws_markIndexS_x0_0 (DD X n) n v w) n 0 k a ha (by omega) (by have:=W_def;omega) hk (by rw[List.drop_zero];exact h)
  rw[show ((0:Nat):Int)=0 from rfl] at this
  rw[this]
  simp only[List.take_zero,List.drop_zero,List.nil_append,laws_markIndexS_x0_0,mkT]
theorem heldIndexS_L {X:Ext} (hX:XOk X) (N n:Nat) (hN:W+1≤N) (K0:Int→Int→Option ((Int×Unit)×Unit)) (K1:Int→Option ((Int×Unit)×Unit)):∀ (m i:Nat) (k:Int) (a l:List Index),a.length≤maxLen→i≤a.length→a.length - i<m→0≤k→k+(l.map (cnt IndexT)).sum≤maxLen→
    a.drop i=(mkL (mkT IndexT) k l).2→laws_heldIndexS_L0 (DD X N) n K0 K1 m a k i=K1 (mkL (mkT IndexT) k l).1
  | 0,_,_,_,_,_,_,h,_,_,_=>by omega
  | m+1,i,k,a,l,hm,hi,hf,hk,hkl,hl=>by
    simp only[laws_heldIndexS_L0,laws_heldIndexS_b0]
    have hd:=maxLen_def
    by_cases h:i<a.length
    · rw[drop_cons h] at hl
      cases l with
      | nil=>simp[mkL] at hl;omega
      | cons x l=>
        simp only[mkL,List.cons.injEq] at hl
        obtain ⟨hx,hl⟩:=hl
        simp only[List.map_cons,List.sum_cons] at hkl
        have hc:cnt IndexT x=1+cnt IntsT x.2.1+1:=by first | rfl | (simp only[cnt];omega)
        have t0:=c_markText hX hN (k) (by omega)
        have hc1:=mkT_cnt IntsT (k+1) x.2.1
        have t1:=m_heldIntS hX hN x.2.1 (k+1) (by omega) (by omega)
        have w0:IntKind.wrap IntKind.i64 (k+1)=k+1:=wrap_id (by omega) (by omega)
        have w1:IntKind.wrap IntKind.i64 ((mkT IntsT (k+1) x.2.1).1+1)=(mkT IntsT (k+1) x.2.1).1+1:=wrap_id (by omega) (by omega)
        have hx0:a[i].1=mtext (k):=by rw[hx];rfl
        have hx1:a[i].2.1=(mkT IntsT (k+1) x.2.1).2:=by rw[hx];rfl
        have hx2:a[i].2.2.1=decide (Int.tmod ((mkT IntsT (k+1) x.2.1).1) 3=0):=by rw[hx];rfl
        have wi:IntKind.wrap IntKind.i64 ((i:Int)+1)=((i+1:Nat):Int):=wrap_succ (by omega)
        rw[br_pos (by exact_mod_cast h)]
        simp only[ix h,br_t,Int.toNat_natCast,getD_lt h,hx0,hx1,hx2,t0,t1,w0,w1,wi,bindD_some,beq_bytes,decide_true,Bool.not_true,br_f,bne_self_eq_false]
        rw[br_neg (by omega)]
        exact heldIndexS_L hX N n hN K0 K1 m (i+1) (mkT IndexT k x).1 a l hm (by omega) (by omega) (by rw[mkT_cnt];omega) (by rw[mkT_cnt];omega) hl
    · rw[br_neg (by exact_mod_cast h)]
      rw[drop_end h] at hl
      cases l with
      | nil=>rfl
      | cons x l=>simp[mkL] at hl
theorem m_heldIndexS {X:Ext} (hX:XOk X) {n:Nat} (hn:W+2≤n) (a:List Index) (k:Int) (ha:a.length≤maxLen) (hk:0≤k) (h:k+cnt (.sl IndexT) a≤maxLen) :
    C_laws_heldIndexS (DD X n) (mkT (.sl IndexT) k a).2 k=some (((mkT (.sl IndexT) k a).1,()),()):=by
  obtain ⟨n,rfl⟩:∃ k,n=k+1:=⟨n - 1,by omega⟩
  have hd:=maxLen_def
  rw[S_laws_heldIndexS hX]
  simp only[F_laws_heldIndexS,laws_heldIndexS_e,laws_heldIndexS_LP0]
  have hml:(mkT (.sl IndexT) k a).2.length=a.length:=mkL_len k a
  have:=heldIndexS_L hX n n (by omega) (fun v w=>laws_heldIndexS_x0_0 (DD X n) n v w) (fun v=>laws_heldIndexS_x0_1 (DD X n) n v) n 0 k (mkT (.sl IndexT) k a).2 a (by omega) (by omega) (by have:=W_def;omega) hk h (by simp[mkT])
  rw[show ((0:Nat):Int)=0 from rfl] at this
  rw[this]
  simp only[laws_heldIndexS_x0_1,mkT]
end Go.G

namespace Go.G
open Go Go.V Go.Proofs
def anyFrom (P:Nat→Bool):Nat→Nat→Bool
  | _,0=>false
  | i,k+1=>P i||anyFrom P (i+1) k
theorem anyFrom_iff {P:Nat→Bool}:∀ {k i:Nat},anyFrom P i k=true↔∃ j,i≤j∧j<i+k∧P j=true
  | 0,i=>by simp[anyFrom];intro j h1 h2;omega
  | k+1,i=>by
    simp only[anyFrom,Bool.or_eq_true,anyFrom_iff (k:=k) (i:=i+1)]
    constructor
    · rintro (h | ⟨j,h1,h2,h3⟩)
      · exact ⟨i,Nat.le_refl _,by omega,h⟩
      · exact ⟨j,by omega,by omega,h3⟩
    · rintro ⟨j,h1,h2,h3⟩
      rcases Nat.eq_or_lt_of_le h1 with rfl | h1
      · exact .inl h3
      · exact .inr ⟨j,by omega,by omega,h3⟩
theorem anyFrom_false {P:Nat→Bool} {k i:Nat}:anyFrom P i k=false↔∀ j,i≤j→j<i+k→P j=false:=by
  rw[←Bool.not_eq_true,anyFrom_iff]
  constructor
  · intro h j h1 h2
    cases hp:P j with
    | false=>rfl
    | true=>exact absurd ⟨j,h1,h2,hp⟩ h
  · rintro h ⟨j,h1,h2,h3⟩
    rw[h j h1 h2] at h3;exact Bool.noConfusion h3
theorem anyFrom_congr {P Q:Nat→Bool}:∀ {k i:Nat},(∀ j,i≤j→j<i+k→P j=Q j)→anyFrom P i k=anyFrom Q i k
  | 0,_,_=>rfl
  | k+1,i,h=>by
    simp only[anyFrom]
    rw[h i (Nat.le_refl _) (by omega),anyFrom_congr fun j h1 h2=>h j (by omega) (by omega)]
theorem scan {R:Type} {L:Nat→Nat→Option R} {N:Nat} {P:Nat→Bool} {A B:Option R}
    (hs:∀ m i,i≤N→L (m+1) i=if i<N then br (P i) A (L m (i+1)) else B):∀ m i,i≤N→N - i<m→L m i=br (anyFrom P i (N - i)) A B
  | 0,_,_,h=>by omega
  | m+1,i,hi,hm=>by
    rw[hs m i hi]
    by_cases h:i<N
    · rw[if_pos h]
      obtain ⟨k,hk⟩:∃ k,N - i=k+1:=⟨N - i - 1,by omega⟩
      rw[hk,scan hs m (i+1) (by omega) (by omega)]
      have:N - (i+1)=k:=by omega
      rw[this]
      show br (P i) A (br (anyFrom P (i+1) k) A B)=br (P i||anyFrom P (i+1) k) A B
      cases P i<;>rfl
    · rw[if_neg h]
      have:N - i=0:=by omega
      rw[this];rfl
theorem scan0 {R:Type} {L:Nat→Nat→Option R} {N:Nat} {P:Nat→Bool} {A B:Option R}
    (hs:∀ m i,i≤N→L (m+1) i=if i<N then br (P i) A (L m (i+1)) else B) {m:Nat} (hm:N<m):L m 0=br (anyFrom P 0 N) A B:=by
  have:=scan hs m 0 (by omega) (by omega)
  rwa [Nat.sub_zero] at this
def firstFrom (P:Nat→Bool):Nat→Nat→Option Nat
  | _,0=>none
  | i,k+1=>if P i=true then some i else firstFrom P (i+1) k
theorem firstFrom_some {P:Nat→Bool}:∀ {k i j:Nat},firstFrom P i k=some j→i≤j∧j<i+k∧P j=true∧∀ l,i≤l→l<j→P l=false
  | 0,i,j,h=>by simp[firstFrom] at h
  | k+1,i,j,h=>by
    simp only[firstFrom] at h
    split at h
    · rename_i hp
      simp only[Option.some.injEq] at h
      subst h
      exact ⟨Nat.le_refl _,by omega,hp,fun l h1 h2=>by omega⟩
    · rename_i hp
      obtain ⟨h1,h2,h3,h4⟩:=firstFrom_some h
      refine ⟨by omega,by omega,h3,fun l h5 h6=>?_⟩
      rcases Nat.eq_or_lt_of_le h5 with rfl | h5
      · simpa using hp
      · exact h4 l h5 h6
theorem firstFrom_none {P:Nat→Bool}:∀ {k i:Nat},firstFrom P i k=none→∀ j,i≤j→j<i+k→P j=false
  | 0,i,_,j,h1,h2=>by omega
  | k+1,i,h,j,h1,h2=>by
    simp only[firstFrom] at h
    split at h
    · simp at h
    · rename_i hp
      rcases Nat.eq_or_lt_of_le h1 with rfl | h1
      · simpa using hp
      · exact firstFrom_none h j (by omega) (by omega)
theorem scanF {R:Type} {L:Nat→Nat→Option R} {N:Nat} {P:Nat→Bool} {A:Nat→Option R} {B:Option R}
    (hs:∀ m i,i≤N→L (m+1) i=if i<N then br (P i) (A i) (L m (i+1)) else B):∀ m i,i≤N→N - i<m→L m i=match firstFrom P i (N - i) with | some j=>A j | none=>B
  | 0,_,_,h=>by omega
  | m+1,i,hi,hm=>by
    rw[hs m i hi]
    by_cases h:i<N
    · rw[if_pos h]
      obtain ⟨k,hk⟩:∃ k,N - i=k+1:=⟨N - i - 1,by omega⟩
      rw[hk]
      simp only[firstFrom]
      by_cases hp:P i=true
      · rw[if_pos hp,hp];rfl
      · rw[if_neg hp,scanF hs m (i+1) (by omega) (by omega)]
        simp only[Bool.not_eq_true] at hp
        have:N - (i+1)=k:=by omega
        rw[this,hp];rfl
    · rw[if_neg h]
      have:N - i=0:=by omega
      rw[this];rfl
theorem scanF0 {R:Type} {L:Nat→Nat→Option R} {N:Nat} {P:Nat→Bool} {A:Nat→Option R} {B:Option R}
    (hs:∀ m i,i≤N→L (m+1) i=if i<N then br (P i) (A i) (L m (i+1)) else B) {m:Nat} (hm:N<m):L m 0=match firstFrom P 0 N with | some j=>A j | none=>B:=by
  have:=scanF hs m 0 (by omega) (by omega)
  rwa [Nat.sub_zero] at this
theorem cond_and (a b:Bool):(bif a then b else false)=(a&&b):=by cases a<;>rfl
theorem cond_or (a b:Bool):(bif a then true else b)=(a||b):=by cases a<;>rfl
def inR (x a b:Int):Bool:=decide (a≤x)&&decide (x≤b)
theorem c_from {X:Ext} (hX:XOk X) {n:Nat} (hn:1≤n) (x a b:Int):C_impl_from (DD X n) x a b=some ((inR x a b,()),()):=by
  obtain ⟨n,rfl⟩:∃ k,n=k+1:=⟨n - 1,by omega⟩
  rw[S_impl_from hX]
  simp only[F_impl_from,impl_from_e,cond_and,inR]
theorem c_l1In {X:Ext} (hX:XOk X) {n:Nat} (hn:1≤n) (x a b:Int):C_spec_l1In (DD X n) x a b=some ((inR x a b,()),()):=by
  obtain ⟨n,rfl⟩:∃ k,n=k+1:=⟨n - 1,by omega⟩
  rw[S_spec_l1In hX]
  simp only[F_spec_l1In,spec_l1In_e,cond_and,inR]
def byteAt (s:ByteArray) (i:Nat):Int:=((s.data.getD i (UInt8.ofNat 0)).toNat:Int)
def nameOk (s:ByteArray):Bool:=!(anyFrom (fun i=>decide (byteAt s i<97)||decide (byteAt s i>122)) 0 s.size)&&inR s.size 1 12
theorem ixs {s:ByteArray} {i:Nat} (h:i<s.size):(decide (0≤(i:Int))&&decide ((i:Int)<(s.size:Int)))=true:=by
  simp only[Bool.and_eq_true,decide_eq_true_eq];omega
theorem c_implNameOk {X:Ext} (hX:XOk X) {n:Nat} (hn:W+2≤n) (s:ByteArray) (hs:s.size≤maxLen):C_impl_ColNameOk (DD X n) s=some ((nameOk s,()),()):=by
  obtain ⟨n,rfl⟩:∃ k,n=k+1:=⟨n - 1,by omega⟩
  have hd:=maxLen_def
  have hW:=W_def
  rw[S_impl_ColNameOk hX]
  simp only[F_impl_ColNameOk,impl_ColNameOk_e,impl_ColNameOk_LP0]
  refine Eq.trans (scan0 (L:=fun m i=>impl_ColNameOk_L0 (DD X n) n _ _ m s s.size (i:Int)) (N:=s.size) (P:=fun i=>decide (byteAt s i<97)||decide (byteAt s i>122))
    (A:=some ((false,()),())) (B:=some ((inR s.size 1 12,()),())) (fun m i hi=>?_) (m:=n) (by omega)) ?_
  · simp only[impl_ColNameOk_L0,impl_ColNameOk_b0]
    by_cases h:i<s.size
    · rw[br_pos (by exact_mod_cast h),ixs h,br_t,br_t,Int.toNat_natCast,wrap_succ (by omega),if_pos h]
      change br (decide (byteAt s i<97)) _ (br (decide (byteAt s i>122)) _ _)=_
      by_cases h1:byteAt s i<97
      · rw[br_pos h1,decide_eq_true h1];rfl
      · rw[br_neg h1,decide_eq_false h1]
        by_cases h2:byteAt s i>122
        · rw[br_pos h2,decide_eq_true h2];rfl
        · rw[br_neg h2,decide_eq_false h2];rfl
    · rw[br_neg (by exact_mod_cast h),if_neg h]
      simp only[impl_ColNameOk_x0_1,c_from hX (show 1≤n by omega),bindD_some]
  · unfold nameOk
    cases anyFrom (fun i=>decide (byteAt s i<97)||decide (byteAt s i>122)) 0 s.size<;>rfl
theorem c_specNameOk {X:Ext} (hX:XOk X) {n:Nat} (hn:W+2≤n) (s:ByteArray) (hs:s.size≤maxLen):C_spec_ColNameOk (DD X n) s=some ((nameOk s,()),()):=by
  obtain ⟨n,rfl⟩:∃ k,n=k+1:=⟨n - 1,by omega⟩
  have hd:=maxLen_def
  have hW:=W_def
  rw[S_spec_ColNameOk hX]
  simp only[F_spec_ColNameOk,spec_ColNameOk_e,spec_ColNameOk_LP0]
  refine Eq.trans (scan0 (L:=fun m i=>spec_ColNameOk_L0 (DD X n) n _ _ m s (i:Int)) (N:=s.size) (P:=fun i=>decide (byteAt s i<97)||decide (byteAt s i>122))
    (A:=some ((false,()),())) (B:=some ((inR s.size 1 12,()),())) (fun m i hi=>?_) (m:=n) (by omega)) ?_
  · simp only[spec_ColNameOk_L0,spec_ColNameOk_b0]
    by_cases h:i<s.size
    · rw[br_pos (by exact_mod_cast h),ixs h,br_t,br_t,Int.toNat_natCast,wrap_succ (by omega),if_pos h]
      change br (decide (byteAt s i<97)) _ (br (decide (byteAt s i>122)) _ _)=_
      by_cases h1:byteAt s i<97
      · rw[br_pos h1,decide_eq_true h1];rfl
      · rw[br_neg h1,decide_eq_false h1]
        by_cases h2:byteAt s i>122
        · rw[br_pos h2,decide_eq_true h2];rfl
        · rw[br_neg h2,decide_eq_false h2];rfl
    · rw[br_neg (by exact_mod_cast h),if_neg h]
      simp only[spec_ColNameOk_x0_1,c_l1In hX (show 1≤n by omega),bindD_some]
  · unfold nameOk
    cases anyFrom (fun i=>decide (byteAt s i<97)||decide (byteAt s i>122)) 0 s.size<;>rfl
def has (l:List Int) (x:Int):Bool:=anyFrom (fun j=>decide (x=l.getD j 0)) 0 l.length
theorem c_contains {X:Ext} (hX:XOk X) {n:Nat} (hn:W+2≤n) (l:List Int) (x:Int) (hl:l.length≤maxLen):C_slices_Contains_int_int (DD X n) l x=some ((has l x,()),()):=by
  obtain ⟨n,rfl⟩:∃ k,n=k+2:=⟨n - 2,by omega⟩
  have hd:=maxLen_def
  have hW:=W_def
  rw[S_slices_Contains_int_int hX]
  simp only[F_slices_Contains_int_int,slices_Contains_int_int_e]
  have e:C_slices_Index_int_int (DD X (n+1)) l x=some ((match firstFrom (fun j=>decide (x=l.getD j 0)) 0 l.length with | some j=>(j:Int) | none=>-1,()),()):=by
    rw[S_slices_Index_int_int hX]
    simp only[F_slices_Index_int_int,slices_Index_int_int_e,slices_Index_int_int_LP0]
    refine Eq.trans (scanF0 (L:=fun m i=>slices_Index_int_int_L0 (DD X n) n _ _ m l x l.length (i:Int)) (N:=l.length) (P:=fun j=>decide (x=l.getD j 0))
      (A:=fun j=>some (((j:Int),()),())) (B:=some ((-1,()),())) (fun m i hi=>?_) (m:=n) (by omega)) ?_
    · simp only[slices_Index_int_int_L0,slices_Index_int_int_b0]
      by_cases h:i<l.length
      · rw[br_pos (by exact_mod_cast h),ix h,br_t,Int.toNat_natCast,wrap_succ (by omega),if_pos h];rfl
      · rw[br_neg (by exact_mod_cast h),if_neg h];rfl
    · cases firstFrom (fun j=>decide (x=l.getD j 0)) 0 l.length<;>rfl
  rw[e,bindD_some]
  congr 3
  unfold has
  cases hf:firstFrom (fun j=>decide (x=l.getD j 0)) 0 l.length with
  | none=>
    have:=firstFrom_none hf
    rw[anyFrom_false.2 this];rfl
  | some j=>
    obtain ⟨h1,h2,h3,_⟩:=firstFrom_some hf
    rw[anyFrom_iff.2 ⟨j,h1,h2,h3⟩]
    simp
def placesOk (n:Nat) (l:List Int) (most:Int):Bool:=!(anyFrom (fun i=>!inR (l.getD i 0) 0 ((n:Int) - 1)||has (l.take i) (l.getD i 0)) 0 l.length)&&inR l.length 1 most
theorem c_implPlacesOk {X:Ext} (hX:XOk X) {n:Nat} (hn:W+3≤n) (s:List Col×List Int×List Index×Unit) (l:List Int) (most:Int) (hc:s.1.length≤maxLen) (hl:l.length≤maxLen) :
    C_impl_placesOk (DD X n) s l most=some ((placesOk s.1.length l most,()),()):=by
  obtain ⟨n,rfl⟩:∃ k,n=k+1:=⟨n - 1,by omega⟩
  have hd:=maxLen_def
  have hW:=W_def
  rw[S_impl_placesOk hX]
  simp only[F_impl_placesOk,impl_placesOk_e,impl_placesOk_LP0]
  refine Eq.trans (scan0 (L:=fun m i=>impl_placesOk_L0 (DD X n) n _ _ m l most l l.length (i:Int) s) (N:=l.length) (P:=fun i=>!inR (l.getD i 0) 0 ((s.1.length:Int) - 1)||has (l.take i) (l.getD i 0))
    (A:=some ((false,()),())) (B:=some ((inR l.length 1 most,()),())) (fun m i hi=>?_) (m:=n) (by omega)) ?_
  · simp only[impl_placesOk_L0,impl_placesOk_b0]
    by_cases h:i<l.length
    · have hc1:(decide ((0:Nat)≤0)&&decide ((0:Int)≤(i:Int))&&decide ((i:Int)≤(l.length:Int)))=true:=by
        rw[decide_eq_true (by omega),decide_eq_true (by omega),decide_eq_true (by omega)];rfl
      rw[br_pos (by exact_mod_cast h),ix h,br_t,c_from hX (show 1≤n by omega),bindD_some,hc1,br_t,Int.toNat_natCast,wrap_succ (by omega),if_pos h,wrap_id (by omega) (by omega)]
      have ht:(List.drop (Int.toNat 0) (List.take i l))=l.take i:=rfl
      rw[ht,c_contains hX (by omega) _ _ (by rw[List.length_take];omega),bindD_some]
      dsimp only
      cases inR (l.getD i 0) 0 ((s.1.length:Int) - 1)
      · rfl
      · cases has (l.take i) (l.getD i 0)<;>rfl
    · rw[br_neg (by exact_mod_cast h),if_neg h]
      simp only[impl_placesOk_x0_1,c_from hX (show 1≤n by omega),bindD_some]
  · unfold placesOk
    cases anyFrom (fun i=>!inR (l.getD i 0) 0 ((s.1.length:Int) - 1)||has (l.take i) (l.getD i 0)) 0 l.length<;>rfl
theorem has_take {l:List Int} {i:Nat} (hi:i≤l.length) (x:Int):has (l.take i) x=anyFrom (fun k=>decide (l.getD k 0=x)) 0 i:=by
  unfold has
  rw[List.length_take,Nat.min_eq_left hi]
  refine anyFrom_congr fun j _ h=>?_
  have e:(l.take i).getD j 0=l.getD j 0:=by
    simp only[List.getD,List.getElem?_take]
    rw[if_pos (by omega)]
  rw[e]
  by_cases h:x=l.getD j 0
  · rw[decide_eq_true h,decide_eq_true h.symm]
  · rw[decide_eq_false h,decide_eq_false fun k=>h k.symm]
theorem c_specPlacesOk {X:Ext} (hX:XOk X) {n:Nat} (hn:W+3≤n) (s:List Col×List Int×List Index×Unit) (l:List Int) (most:Int) (hc:s.1.length≤maxLen) (hl:l.length≤maxLen) :
    C_spec_l19Places (DD X n) s l most=some ((placesOk s.1.length l most,()),()):=by
  obtain ⟨n,rfl⟩:∃ k,n=k+1:=⟨n - 1,by omega⟩
  have hd:=maxLen_def
  have hW:=W_def
  rw[S_spec_l19Places hX]
  simp only[F_spec_l19Places,spec_l19Places_e,spec_l19Places_LP0]
  refine Eq.trans (scan0 (L:=fun m i=>spec_l19Places_L0 (DD X n) n _ _ m l most (i:Int) s) (N:=l.length) (P:=fun i=>!inR (l.getD i 0) 0 ((s.1.length:Int) - 1)||has (l.take i) (l.getD i 0))
    (A:=some ((false,()),())) (B:=some ((inR l.length 1 most,()),())) (fun m i hi=>?_) (m:=n) (by omega)) ?_
  · simp only[spec_l19Places_L0,spec_l19Places_b0]
    by_cases h:i<l.length
    · rw[br_pos (by exact_mod_cast h),ix h,br_t,c_l1In hX (show 1≤n by omega),bindD_some,Int.toNat_natCast,if_pos h,wrap_id (by omega) (by omega)]
      dsimp only
      cases hin:inR (l.getD i 0) 0 ((s.1.length:Int) - 1)
      · rfl
      · rw[Bool.not_true,br_f,Bool.false_or,has_take (by omega)]
        simp only[spec_l19Places_LP1]
        refine Eq.trans (scan0 (L:=fun q k=>spec_l19Places_L1 (DD X n) n _ _ q l most (i:Int) (k:Int) s) (N:=i) (P:=fun k=>decide (l.getD k 0=l.getD i 0))
          (A:=some ((false,()),())) (B:=spec_l19Places_L0 (DD X n) n (fun v0_0 v0_1 v0_2=>spec_l19Places_x0_0 (DD X n) n v0_0 v0_1 v0_2) (fun v1_0 v1_1=>spec_l19Places_x0_1 (DD X n) n v1_0 v1_1) m l most ((i+1:Nat):Int) s) (fun q k hk=>?_) (m:=n) (by omega)) rfl
        simp only[spec_l19Places_L1,spec_l19Places_b1]
        by_cases h2:k<i
        · rw[br_pos (by exact_mod_cast h2),ix (i:=k) (by omega),br_t,ix h,br_t,Int.toNat_natCast,Int.toNat_natCast,wrap_succ (by omega),if_pos h2];rfl
        · rw[br_neg (by exact_mod_cast h2),if_neg h2]
          simp only[spec_l19Places_x1_1]
          rw[wrap_succ (by omega)]
    · rw[br_neg (by exact_mod_cast h),if_neg h]
      simp only[spec_l19Places_x0_1,c_l1In hX (show 1≤n by omega),bindD_some]
  · unfold placesOk
    cases anyFrom (fun i=>!inR (l.getD i 0) 0 ((s.1.length:Int) - 1)||has (l.take i) (l.getD i 0)) 0 l.length<;>rfl
end Go.G

namespace Go.G
set_option maxRecDepth 100000
open Go Go.V Go.Proofs
theorem first_any (P:Nat→Bool) (n:Nat):decide ((match firstFrom P 0 n with | some j=>(j:Int) | none=>-1)≥0)=anyFrom P 0 n:=by
  cases hf:firstFrom P 0 n with
  | none=>rw[anyFrom_false.2 (firstFrom_none hf)];rfl
  | some j=>
    obtain ⟨h1,h2,h3,_⟩:=firstFrom_some hf
    rw[anyFrom_iff.2 ⟨j,h1,h2,h3⟩]
    simp
theorem c_idxCol {X:Ext} (hX:XOk X) {n:Nat} (hn:W+1≤n) (l:List (Col)) (hl:l.length≤maxLen) (c:Clo) (P:Nat→Bool)
    (hP:∀ i,i<l.length→applyClo ctx (DD X (n - 1)) c [CapV.val (Ty.pair Ty.str (Ty.pair (Ty.int IntKind.i64) (Ty.pair Ty.bool Ty.unit))) (l.getD i (ByteArray.empty,0,false,()))] Ty.bool=some (P i)) :
    C_slices_IndexFunc_impl_Col_impl_Col (DD X n) l c=some ((match firstFrom P 0 l.length with | some j=>(j:Int) | none=>-1,()),()):=by
  obtain ⟨n,rfl⟩:∃ k,n=k+1:=⟨n - 1,by omega⟩
  have hd:=maxLen_def
  have hW:=W_def
  rw[S_slices_IndexFunc_impl_Col_impl_Col hX]
  simp only[F_slices_IndexFunc_impl_Col_impl_Col,slices_IndexFunc_impl_Col_impl_Col_e,slices_IndexFunc_impl_Col_impl_Col_LP0]
  refine Eq.trans (scanF0 (L:=fun m i=>slices_IndexFunc_impl_Col_impl_Col_L0 (DD X n) n c _ _ m l l.length (i:Int)) (N:=l.length) (P:=P)
    (A:=fun j=>some (((j:Int),()),())) (B:=some ((-1,()),())) (fun m i hi=>?_) (m:=n) (by omega)) ?_
  · simp only[slices_IndexFunc_impl_Col_impl_Col_L0,slices_IndexFunc_impl_Col_impl_Col_b0]
    by_cases h:i<l.length
    · have hp:applyClo ctx (DD X n) c [CapV.val (Ty.pair Ty.str (Ty.pair (Ty.int IntKind.i64) (Ty.pair Ty.bool Ty.unit))) (l.getD i (ByteArray.empty,0,false,()))] Ty.bool=some (P i):=hP i h
      rw[br_pos (by exact_mod_cast h),ix h,br_t,Int.toNat_natCast,hp,bindD_some,wrap_succ (by omega),if_pos h];rfl
    · rw[br_neg (by exact_mod_cast h),if_neg h];rfl
  · cases firstFrom P 0 l.length<;>rfl
theorem c_idxIndex {X:Ext} (hX:XOk X) {n:Nat} (hn:W+1≤n) (l:List (Index)) (hl:l.length≤maxLen) (c:Clo) (P:Nat→Bool)
    (hP:∀ i,i<l.length→applyClo ctx (DD X (n - 1)) c [CapV.val (Ty.pair Ty.str (Ty.pair (Ty.sl (Ty.int IntKind.i64)) (Ty.pair Ty.bool Ty.unit))) (l.getD i (ByteArray.empty,[],false,()))] Ty.bool=some (P i)) :
    C_slices_IndexFunc_impl_Index_impl_Index (DD X n) l c=some ((match firstFrom P 0 l.length with | some j=>(j:Int) | none=>-1,()),()):=by
  obtain ⟨n,rfl⟩:∃ k,n=k+1:=⟨n - 1,by omega⟩
  have hd:=maxLen_def
  have hW:=W_def
  rw[S_slices_IndexFunc_impl_Index_impl_Index hX]
  simp only[F_slices_IndexFunc_impl_Index_impl_Index,slices_IndexFunc_impl_Index_impl_Index_e,slices_IndexFunc_impl_Index_impl_Index_LP0]
  refine Eq.trans (scanF0 (L:=fun m i=>slices_IndexFunc_impl_Index_impl_Index_L0 (DD X n) n c _ _ m l l.length (i:Int)) (N:=l.length) (P:=P)
    (A:=fun j=>some (((j:Int),()),())) (B:=some ((-1,()),())) (fun m i hi=>?_) (m:=n) (by omega)) ?_
  · simp only[slices_IndexFunc_impl_Index_impl_Index_L0,slices_IndexFunc_impl_Index_impl_Index_b0]
    by_cases h:i<l.length
    · have hp:applyClo ctx (DD X n) c [CapV.val (Ty.pair Ty.str (Ty.pair (Ty.sl (Ty.int IntKind.i64)) (Ty.pair Ty.bool Ty.unit))) (l.getD i (ByteArray.empty,[],false,()))] Ty.bool=some (P i):=hP i h
      rw[br_pos (by exact_mod_cast h),ix h,br_t,Int.toNat_natCast,hp,bindD_some,wrap_succ (by omega),if_pos h];rfl
    · rw[br_neg (by exact_mod_cast h),if_neg h];rfl
  · cases firstFrom P 0 l.length<;>rfl
theorem c_idxInt {X:Ext} (hX:XOk X) {n:Nat} (hn:W+1≤n) (l:List (Int)) (hl:l.length≤maxLen) (c:Clo) (P:Nat→Bool)
    (hP:∀ i,i<l.length→applyClo ctx (DD X (n - 1)) c [CapV.val (Ty.int IntKind.i64) (l.getD i 0)] Ty.bool=some (P i)) :
    C_slices_IndexFunc_int_int (DD X n) l c=some ((match firstFrom P 0 l.length with | some j=>(j:Int) | none=>-1,()),()):=by
  obtain ⟨n,rfl⟩:∃ k,n=k+1:=⟨n - 1,by omega⟩
  have hd:=maxLen_def
  have hW:=W_def
  rw[S_slices_IndexFunc_int_int hX]
  simp only[F_slices_IndexFunc_int_int,slices_IndexFunc_int_int_e,slices_IndexFunc_int_int_LP0]
  refine Eq.trans (scanF0 (L:=fun m i=>slices_IndexFunc_int_int_L0 (DD X n) n c _ _ m l l.length (i:Int)) (N:=l.length) (P:=P)
    (A:=fun j=>some (((j:Int),()),())) (B:=some ((-1,()),())) (fun m i hi=>?_) (m:=n) (by omega)) ?_
  · simp only[slices_IndexFunc_int_int_L0,slices_IndexFunc_int_int_b0]
    by_cases h:i<l.length
    · have hp:applyClo ctx (DD X n) c [CapV.val (Ty.int IntKind.i64) (l.getD i 0)] Ty.bool=some (P i):=hP i h
      rw[br_pos (by exact_mod_cast h),ix h,br_t,Int.toNat_natCast,hp,bindD_some,wrap_succ (by omega),if_pos h];rfl
    · rw[br_neg (by exact_mod_cast h),if_neg h];rfl
  · cases firstFrom P 0 l.length<;>rfl
theorem c_idxRow {X:Ext} (hX:XOk X) {n:Nat} (hn:W+1≤n) (l:List (List Value)) (hl:l.length≤maxLen) (c:Clo) (P:Nat→Bool)
    (hP:∀ i,i<l.length→applyClo ctx (DD X (n - 1)) c [CapV.val (Ty.sl (Ty.pair (Ty.int IntKind.i64) (Ty.pair (Ty.int IntKind.i64) (Ty.pair Ty.str Ty.unit)))) (l.getD i [])] Ty.bool=some (P i)) :
    C_slices_IndexFunc_impl_Value_impl_Value (DD X n) l c=some ((match firstFrom P 0 l.length with | some j=>(j:Int) | none=>-1,()),()):=by
  obtain ⟨n,rfl⟩:∃ k,n=k+1:=⟨n - 1,by omega⟩
  have hd:=maxLen_def
  have hW:=W_def
  rw[S_slices_IndexFunc_impl_Value_impl_Value hX]
  simp only[F_slices_IndexFunc_impl_Value_impl_Value,slices_IndexFunc_impl_Value_impl_Value_e,slices_IndexFunc_impl_Value_impl_Value_LP0]
  refine Eq.trans (scanF0 (L:=fun m i=>slices_IndexFunc_impl_Value_impl_Value_L0 (DD X n) n c _ _ m l l.length (i:Int)) (N:=l.length) (P:=P)
    (A:=fun j=>some (((j:Int),()),())) (B:=some ((-1,()),())) (fun m i hi=>?_) (m:=n) (by omega)) ?_
  · simp only[slices_IndexFunc_impl_Value_impl_Value_L0,slices_IndexFunc_impl_Value_impl_Value_b0]
    by_cases h:i<l.length
    · have hp:applyClo ctx (DD X n) c [CapV.val (Ty.sl (Ty.pair (Ty.int IntKind.i64) (Ty.pair (Ty.int IntKind.i64) (Ty.pair Ty.str Ty.unit)))) (l.getD i [])] Ty.bool=some (P i):=hP i h
      rw[br_pos (by exact_mod_cast h),ix h,br_t,Int.toNat_natCast,hp,bindD_some,wrap_succ (by omega),if_pos h];rfl
    · rw[br_neg (by exact_mod_cast h),if_neg h];rfl
  · cases firstFrom P 0 l.length<;>rfl
theorem c_someIndex {X:Ext} (hX:XOk X) {n:Nat} (hn:W+2≤n) (l:List (Index)) (hl:l.length≤maxLen) (c:Clo) (P:Nat→Bool)
    (hP:∀ i,i<l.length→applyClo ctx (DD X (n - 2)) c [CapV.val (Ty.pair Ty.str (Ty.pair (Ty.sl (Ty.int IntKind.i64)) (Ty.pair Ty.bool Ty.unit))) (l.getD i (ByteArray.empty,[],false,()))] Ty.bool=some (P i)) :
    C_slices_ContainsFunc_impl_Index_impl_Index (DD X n) l c=some ((anyFrom P 0 l.length,()),()):=by
  obtain ⟨n,rfl⟩:∃ k,n=k+1:=⟨n - 1,by omega⟩
  rw[S_slices_ContainsFunc_impl_Index_impl_Index hX]
  simp only[F_slices_ContainsFunc_impl_Index_impl_Index,slices_ContainsFunc_impl_Index_impl_Index_e]
  rw[c_idxIndex hX (n:=n) (by omega) l hl c P (fun i h=>hP i h),bindD_some]
  congr 3
  exact first_any P l.length
theorem c_someInt {X:Ext} (hX:XOk X) {n:Nat} (hn:W+2≤n) (l:List (Int)) (hl:l.length≤maxLen) (c:Clo) (P:Nat→Bool)
    (hP:∀ i,i<l.length→applyClo ctx (DD X (n - 2)) c [CapV.val (Ty.int IntKind.i64) (l.getD i 0)] Ty.bool=some (P i)) :
    C_slices_ContainsFunc_int_int (DD X n) l c=some ((anyFrom P 0 l.length,()),()):=by
  obtain ⟨n,rfl⟩:∃ k,n=k+1:=⟨n - 1,by omega⟩
  rw[S_slices_ContainsFunc_int_int hX]
  simp only[F_slices_ContainsFunc_int_int,slices_ContainsFunc_int_int_e]
  rw[c_idxInt hX (n:=n) (by omega) l hl c P (fun i h=>hP i h),bindD_some]
  congr 3
  exact first_any P l.length
theorem c_someRow {X:Ext} (hX:XOk X) {n:Nat} (hn:W+2≤n) (l:List (List Value)) (hl:l.length≤maxLen) (c:Clo) (P:Nat→Bool)
    (hP:∀ i,i<l.length→applyClo ctx (DD X (n - 2)) c [CapV.val (Ty.sl (Ty.pair (Ty.int IntKind.i64) (Ty.pair (Ty.int IntKind.i64) (Ty.pair Ty.str Ty.unit)))) (l.getD i [])] Ty.bool=some (P i)) :
    C_slices_ContainsFunc_impl_Value_impl_Value (DD X n) l c=some ((anyFrom P 0 l.length,()),()):=by
  obtain ⟨n,rfl⟩:∃ k,n=k+1:=⟨n - 1,by omega⟩
  rw[S_slices_ContainsFunc_impl_Value_impl_Value hX]
  simp only[F_slices_ContainsFunc_impl_Value_impl_Value,slices_ContainsFunc_impl_Value_impl_Value_e]
  rw[c_idxRow hX (n:=n) (by omega) l hl c P (fun i h=>hP i h),bindD_some]
  congr 3
  exact first_any P l.length
end Go.G

namespace Go.G
set_option maxRecDepth 100000
open Go Go.V Go.Proofs
abbrev SchemaT:Ty:=.pair (.sl ColT) (.pair (.sl (.int .i64)) (.pair (.sl IndexT) .unit))
abbrev Schema:=List Col×List Int×List Index×Unit
def M:Nat:=4194304
theorem M_def:M=4194304:=rfl
structure SchSm (s:Schema):Prop where
  cols:s.1.length≤M
  names:∀ c∈s.1,c.1.size≤M
  key:s.2.1.length≤M
  ixs:s.2.2.1.length≤M
  ixn:∀ x∈s.2.2.1,x.1.size≤M
  ixc:∀ x∈s.2.2.1,x.2.1.length≤M
abbrev cd:Col:=(ByteArray.empty,0,false,())
abbrev xd:Index:=(ByteArray.empty,[],false,())
theorem getD_mem {α:Type} {l:List α} {i:Nat} {d:α} (h:i<l.length):l.getD i d∈l:=by rw[getD_lt h];exact List.getElem_mem _
def colAt (cs:List Col) (name:ByteArray):Int:=match firstFrom (fun i=>decide ((cs.getD i cd).1=name)) 0 cs.length with | some j=>(j:Int) | none=>-1
theorem clo_colAt (D:Den ctx) (name:ByteArray) (x:Col):applyClo ctx D (Clo.mk 196 [CapV.rptr Ty.str name]) [CapV.val (Ty.pair Ty.str (Ty.pair (Ty.int IntKind.i64) (Ty.pair Ty.bool Ty.unit))) x] Ty.bool=(C_impl_ColAt_1 D x name).bind fun r=>some r.1.1:=by kernel_rfl
theorem c_implColAt {X:Ext} (hX:XOk X) {n:Nat} (hn:W+3≤n) (s:Schema) (hs:SchSm s) (name:ByteArray):C_impl_ColAt (DD X n) s name=some ((colAt s.1 name,()),()):=by
  obtain ⟨n,rfl⟩:∃ k,n=k+1:=⟨n - 1,by omega⟩
  have hd:=maxLen_def
  have hM:=M_def
  have:=hs.cols
  rw[S_impl_ColAt hX]
  simp only[F_impl_ColAt,impl_ColAt_e]
  rw[c_idxCol hX (n:=n) (by omega) s.1 (by omega) _ (fun i=>decide ((s.1.getD i cd).1=name)) (fun i h=>by
    obtain ⟨n,rfl⟩:∃ k,n=k+2:=⟨n - 2,by omega⟩
    rw[clo_colAt]
    rw[show n+2 - 1=n+1 from rfl,S_impl_ColAt_1 hX]
    simp only[F_impl_ColAt_1,impl_ColAt_1_e,Option.bind_some,beq_bytes]),bindD_some]
  rfl
theorem c_specColAt {X:Ext} (hX:XOk X) {n:Nat} (hn:W+1≤n) (s:Schema) (hs:SchSm s) (name:ByteArray):C_spec_ColAt (DD X n) s name=some ((colAt s.1 name,()),()):=by
  obtain ⟨n,rfl⟩:∃ k,n=k+1:=⟨n - 1,by omega⟩
  have hd:=maxLen_def
  have hW:=W_def
  have hM:=M_def
  have:=hs.cols
  rw[S_spec_ColAt hX]
  simp only[F_spec_ColAt,spec_ColAt_e,spec_ColAt_LP0]
  refine Eq.trans (scanF0 (L:=fun m i=>spec_ColAt_L0 (DD X n) n _ _ m name (i:Int) s) (N:=s.1.length) (P:=fun i=>decide ((s.1.getD i cd).1=name))
    (A:=fun j=>some (((j:Int),()),())) (B:=some ((-1,()),())) (fun m i hi=>?_) (m:=n) (by omega)) ?_
  · simp only[spec_ColAt_L0,spec_ColAt_b0]
    by_cases h:i<s.1.length
    · rw[br_pos (by exact_mod_cast h),ix h,br_t,Int.toNat_natCast,wrap_succ (by omega),if_pos h,beq_bytes];rfl
    · rw[br_neg (by exact_mod_cast h),if_neg h];rfl
  · unfold colAt
    cases firstFrom (fun i=>decide ((s.1.getD i cd).1=name)) 0 s.1.length<;>rfl
def colBad (cs:List Col) (i:Nat):Bool:=!nameOk (cs.getD i cd).1||(!inR (cs.getD i cd).2.1 1 3||!decide (colAt cs (cs.getD i cd).1=(i:Int)))
def ixBad (nc:Nat) (xs:List Index) (i:Nat):Bool:=!nameOk (xs.getD i xd).1||(!placesOk nc (xs.getD i xd).2.1 3||anyFrom (fun k=>decide ((xs.getD k xd).1=(xs.getD i xd).1)) 0 i)
def keyNull (cs:List Col) (key:List Int):Bool:=anyFrom (fun j=>(cs.getD (key.getD j 0).toNat cd).2.2.1) 0 key.length
def schemaOk (s:Schema):Bool:=
  !anyFrom (colBad s.1) 0 s.1.length&&(!anyFrom (ixBad s.1.length s.2.2.1) 0 s.2.2.1.length&&(inR s.1.length 1 5&&(placesOk s.1.length s.2.1 4&&(!keyNull s.1 s.2.1&&decide ((s.2.2.1.length:Int)≤3)))))
theorem places_in {n:Nat} {l:List Int} {most:Int} (h:placesOk n l most=true) {j:Nat} (hj:j<l.length):0≤l.getD j 0∧l.getD j 0<n:=by
  simp only[placesOk,Bool.and_eq_true,Bool.not_eq_true'] at h
  have:=anyFrom_false.1 h.1 j (by omega) (by omega)
  simp only[Bool.or_eq_false_iff,Bool.not_eq_false',inR,Bool.and_eq_true,decide_eq_true_eq] at this
  omega
theorem bne_dec (a b:Int):(a != b)=!decide (a=b):=by by_cases h:a=b<;>simp[h]
theorem clo_ixName (D:Den ctx) (y x:Index):applyClo ctx D (Clo.mk 149 [CapV.rptr (Ty.pair Ty.str (Ty.pair (Ty.sl (Ty.int IntKind.i64)) (Ty.pair Ty.bool Ty.unit))) y]) [CapV.val (Ty.pair Ty.str (Ty.pair (Ty.sl (Ty.int IntKind.i64)) (Ty.pair Ty.bool Ty.unit))) x] Ty.bool=(C_impl_SchemaOk_1 D x y).bind fun r=>some r.1.1:=by kernel_rfl
theorem clo_keyNull (D:Den ctx) (s:Schema) (x:Int):applyClo ctx D (Clo.mk 151 [CapV.rptr (Ty.pair (Ty.sl (Ty.pair Ty.str (Ty.pair (Ty.int IntKind.i64) (Ty.pair Ty.bool Ty.unit)))) (Ty.pair (Ty.sl (Ty.int IntKind.i64)) (Ty.pair (Ty.sl (Ty.pair Ty.str (Ty.pair (Ty.sl (Ty.int IntKind.i64)) (Ty.pair Ty.bool Ty.unit)))) Ty.unit))) s]) [CapV.val (Ty.int IntKind.i64) x] Ty.bool=(C_impl_SchemaOk_2 D x s).bind fun r=>some r.1.1:=by kernel_rfl
theorem c_implSchemaOk {X:Ext} (hX:XOk X) {n:Nat} (hn:W+5≤n) (s:Schema) (hs:SchSm s):C_impl_SchemaOk (DD X n) s=some ((schemaOk s,()),()):=by
  obtain ⟨n,rfl⟩:∃ k,n=k+1:=⟨n - 1,by omega⟩
  have hd:=maxLen_def
  have hW:=W_def
  have hM:=M_def
  have h1:=hs.cols
  have h2:=hs.ixs
  have h3:=hs.key
  rw[S_impl_SchemaOk hX]
  simp only[F_impl_SchemaOk,impl_SchemaOk_e,impl_SchemaOk_LP0]
  refine Eq.trans (scan0 (L:=fun m i=>impl_SchemaOk_L0 (DD X n) n _ _ m s.1 s.1.length (i:Int) s) (N:=s.1.length) (P:=colBad s.1)
    (A:=some ((false,()),())) (B:=br (anyFrom (ixBad s.1.length s.2.2.1) 0 s.2.2.1.length) (some ((false,()),())) (some ((inR s.1.length 1 5&&(placesOk s.1.length s.2.1 4&&(!keyNull s.1 s.2.1&&decide ((s.2.2.1.length:Int)≤3))),()),()))) (fun m i hi=>?_) (m:=n) (by omega)) ?_
  · simp only[impl_SchemaOk_L0,impl_SchemaOk_b0]
    by_cases h:i<s.1.length
    · have hsz:=hs.names _ (getD_mem (d:=cd) h)
      rw[br_pos (by exact_mod_cast h),ix h,br_t,Int.toNat_natCast,c_implNameOk hX (by omega) _ (Nat.le_trans hsz (by omega)),bindD_some,c_from hX (by omega),bindD_some,c_implColAt hX (by omega) s hs,bindD_some,wrap_succ (by omega),if_pos h,bne_dec]
      dsimp only[colBad]
      cases nameOk (s.1.getD i cd).1
      · rfl
      · cases inR (s.1.getD i cd).2.1 1 3
        · rfl
        · rw[Bool.not_true,br_f,br_f,Bool.false_or,Bool.false_or];rfl
    · rw[br_neg (by exact_mod_cast h),if_neg h]
      simp only[impl_SchemaOk_x0_1,impl_SchemaOk_LP1]
      refine (scan0 (L:=fun m i=>impl_SchemaOk_L1 (DD X n) n _ _ m s.2.2.1 s.2.2.1.length (i:Int) s) (N:=s.2.2.1.length) (P:=ixBad s.1.length s.2.2.1)
        (A:=some ((false,()),())) (B:=some ((inR s.1.length 1 5&&(placesOk s.1.length s.2.1 4&&(!keyNull s.1 s.2.1&&decide ((s.2.2.1.length:Int)≤3))),()),())) (fun m i hi=>?_) (m:=n) (by omega))
      simp only[impl_SchemaOk_L1,impl_SchemaOk_b1]
      by_cases h:i<s.2.2.1.length
      · have hm:=getD_mem (d:=xd) h
        have hsz:=hs.ixn _ hm
        have hsl:=hs.ixc _ hm
        have hc1:(decide ((0:Nat)≤0)&&decide ((0:Int)≤(i:Int))&&decide ((i:Int)≤(s.2.2.1.length:Int)))=true:=by
          rw[decide_eq_true (by omega),decide_eq_true (by omega),decide_eq_true (by omega)];rfl
        have hlen:(s.2.2.1.take i).length=i:=by rw[List.length_take];omega
        rw[br_pos (by exact_mod_cast h),ix h,br_t,Int.toNat_natCast,c_implNameOk hX (by omega) _ (Nat.le_trans hsz (by omega)),bindD_some,c_implPlacesOk hX (by omega) s _ _ (by omega) (Nat.le_trans hsl (by omega)),bindD_some,hc1,br_t,wrap_succ (by omega),if_pos h]
        have ht:(List.drop (Int.toNat 0) (List.take i s.2.2.1))=s.2.2.1.take i:=rfl
        rw[ht,c_someIndex hX (n:=n) (by omega) _ (by omega) _ (fun k=>decide ((s.2.2.1.getD k xd).1=(s.2.2.1.getD i xd).1)) (fun k hk=>by
          rw[hlen] at hk
          obtain ⟨n,rfl⟩:∃ k,n=k+3:=⟨n - 3,by omega⟩
          rw[clo_ixName,show n+3 - 2=n+1 from rfl,S_impl_SchemaOk_1 hX]
          have e:(s.2.2.1.take i).getD k xd=s.2.2.1.getD k xd:=by
            simp only[List.getD,List.getElem?_take]
            rw[if_pos hk]
          simp only[F_impl_SchemaOk_1,impl_SchemaOk_1_e,Option.bind_some,beq_bytes,e]),bindD_some,hlen]
        dsimp only[ixBad]
        cases nameOk (s.2.2.1.getD i xd).1
        · rfl
        · cases placesOk s.1.length (s.2.2.1.getD i xd).2.1 3
          · rfl
          · rw[Bool.not_true,br_f,br_f,Bool.false_or,Bool.false_or];rfl
      · rw[br_neg (by exact_mod_cast h),if_neg h]
        simp only[impl_SchemaOk_x1_1]
        rw[c_from hX (by omega),bindD_some,c_implPlacesOk hX (by omega) s _ _ (by omega) (by omega),bindD_some]
        dsimp only
        cases inR s.1.length 1 5
        · rfl
        · rw[br_t,Bool.true_and]
          cases hp:placesOk s.1.length s.2.1 4
          · rfl
          · rw[br_t,Bool.true_and,c_someInt hX (n:=n) (by omega) s.2.1 (by omega) _ (fun j=>(s.1.getD (s.2.1.getD j 0).toNat cd).2.2.1) (fun k hk=>by
              obtain ⟨n,rfl⟩:∃ k,n=k+3:=⟨n - 3,by omega⟩
              obtain ⟨p1,p2⟩:=places_in hp hk
              rw[clo_keyNull,show n+3 - 2=n+1 from rfl,S_impl_SchemaOk_2 hX]
              simp only[F_impl_SchemaOk_2,impl_SchemaOk_2_e]
              rw[ixn p1 p2,br_t];rfl),bindD_some,cond_and]
            rfl
  · unfold schemaOk
    cases anyFrom (colBad s.1) 0 s.1.length
    · cases anyFrom (ixBad s.1.length s.2.2.1) 0 s.2.2.1.length<;>rfl
    · rfl
theorem c_specIndexes {X:Ext} (hX:XOk X) {n:Nat} (hn:W+4≤n) (s:Schema) (hs:SchSm s):C_spec_l19Indexes (DD X n) s=some ((!anyFrom (ixBad s.1.length s.2.2.1) 0 s.2.2.1.length&&decide ((s.2.2.1.length:Int)≤3),()),()):=by
  obtain ⟨n,rfl⟩:∃ k,n=k+1:=⟨n - 1,by omega⟩
  have hd:=maxLen_def
  have hW:=W_def
  have hM:=M_def
  have h1:=hs.cols
  have h2:=hs.ixs
  rw[S_spec_l19Indexes hX]
  simp only[F_spec_l19Indexes,spec_l19Indexes_e,spec_l19Indexes_LP0]
  refine Eq.trans (scan0 (L:=fun m i=>spec_l19Indexes_L0 (DD X n) n _ _ m (i:Int) s) (N:=s.2.2.1.length) (P:=ixBad s.1.length s.2.2.1)
    (A:=some ((false,()),())) (B:=some ((decide ((s.2.2.1.length:Int)≤3),()),())) (fun m i hi=>?_) (m:=n) (by omega)) ?_
  · simp only[spec_l19Indexes_L0,spec_l19Indexes_b0]
    by_cases h:i<s.2.2.1.length
    · have hm:=getD_mem (d:=xd) h
      have hsz:=hs.ixn _ hm
      have hsl:=hs.ixc _ hm
      rw[br_pos (by exact_mod_cast h),ix h,br_t,Int.toNat_natCast,c_specNameOk hX (by omega) _ (Nat.le_trans hsz (by omega)),bindD_some,c_specPlacesOk hX (by omega) s _ _ (by omega) (Nat.le_trans hsl (by omega)),bindD_some,if_pos h]
      dsimp only[ixBad]
      cases nameOk (s.2.2.1.getD i xd).1
      · rfl
      · cases placesOk s.1.length (s.2.2.1.getD i xd).2.1 3
        · rfl
        · rw[Bool.not_true,br_f,br_f,Bool.false_or,Bool.false_or]
          simp only[spec_l19Indexes_LP1]
          refine Eq.trans (scan0 (L:=fun q k=>spec_l19Indexes_L1 (DD X n) n _ _ q (i:Int) (k:Int) s (s.2.2.1.getD i xd)) (N:=i) (P:=fun k=>decide ((s.2.2.1.getD k xd).1=(s.2.2.1.getD i xd).1))
            (A:=some ((false,()),())) (B:=spec_l19Indexes_L0 (DD X n) n (fun v0_0 v0_1=>spec_l19Indexes_x0_0 (DD X n) n v0_0 v0_1) (fun v1_0=>spec_l19Indexes_x0_1 (DD X n) n v1_0) m ((i+1:Nat):Int) s) (fun q k hk=>?_) (m:=n) (by omega)) rfl
          simp only[spec_l19Indexes_L1,spec_l19Indexes_b1]
          by_cases h2:k<i
          · rw[br_pos (by exact_mod_cast h2),ix (i:=k) (by omega),br_t,Int.toNat_natCast,wrap_succ (by omega),if_pos h2,beq_bytes];rfl
          · rw[br_neg (by exact_mod_cast h2),if_neg h2]
            simp only[spec_l19Indexes_x1_1]
            rw[wrap_succ (by omega)]
    · rw[br_neg (by exact_mod_cast h),if_neg h];rfl
  · cases anyFrom (ixBad s.1.length s.2.2.1) 0 s.2.2.1.length<;>rfl
theorem c_specSchemaOk {X:Ext} (hX:XOk X) {n:Nat} (hn:W+5≤n) (s:Schema) (hs:SchSm s):C_spec_SchemaOk (DD X n) s=some ((schemaOk s,()),()):=by
  obtain ⟨n,rfl⟩:∃ k,n=k+1:=⟨n - 1,by omega⟩
  have hd:=maxLen_def
  have hW:=W_def
  have hM:=M_def
  have h1:=hs.cols
  have h2:=hs.ixs
  have h3:=hs.key
  rw[S_spec_SchemaOk hX]
  simp only[F_spec_SchemaOk,spec_SchemaOk_e,spec_SchemaOk_LP0]
  refine Eq.trans (scan0 (L:=fun m i=>spec_SchemaOk_L0 (DD X n) n _ _ m (i:Int) s) (N:=s.1.length) (P:=colBad s.1)
    (A:=some ((false,()),())) (B:=some ((inR s.1.length 1 5&&(placesOk s.1.length s.2.1 4&&((!anyFrom (ixBad s.1.length s.2.2.1) 0 s.2.2.1.length&&decide ((s.2.2.1.length:Int)≤3))&&!keyNull s.1 s.2.1)),()),())) (fun m i hi=>?_) (m:=n) (by omega)) ?_
  · simp only[spec_SchemaOk_L0,spec_SchemaOk_b0]
    by_cases h:i<s.1.length
    · have hsz:=hs.names _ (getD_mem (d:=cd) h)
      rw[br_pos (by exact_mod_cast h),ix h,br_t,br_t,br_t,Int.toNat_natCast,c_specNameOk hX (by omega) _ (Nat.le_trans hsz (by omega)),bindD_some,c_l1In hX (by omega),bindD_some,c_specColAt hX (by omega) s hs,bindD_some,wrap_succ (by omega),if_pos h,bne_dec]
      dsimp only[colBad]
      cases nameOk (s.1.getD i cd).1
      · rfl
      · cases inR (s.1.getD i cd).2.1 1 3
        · rfl
        · rw[Bool.not_true,br_f,br_f,Bool.false_or,Bool.false_or];rfl
    · rw[br_neg (by exact_mod_cast h),if_neg h]
      simp only[spec_SchemaOk_x0_1,spec_SchemaOk_LP1]
      rw[c_l1In hX (by omega),bindD_some,c_specPlacesOk hX (by omega) s _ _ (by omega) (by omega),bindD_some,c_specIndexes hX (by omega) s hs,bindD_some]
      dsimp only
      cases inR s.1.length 1 5
      · rfl
      · cases hp:placesOk s.1.length s.2.1 4
        · rfl
        · cases (!anyFrom (ixBad s.1.length s.2.2.1) 0 s.2.2.1.length&&decide ((s.2.2.1.length:Int)≤3))
          · rfl
          · simp only[Bool.not_true,br_f,Bool.true_and]
            refine Eq.trans (scan0 (L:=fun m i=>spec_SchemaOk_L1 (DD X n) n _ _ m (i:Int) s) (N:=s.2.1.length) (P:=fun j=>(s.1.getD (s.2.1.getD j 0).toNat cd).2.2.1)
              (A:=some ((false,()),())) (B:=some ((true,()),())) (fun m i hi=>?_) (m:=n) (by omega)) ?_
            · simp only[spec_SchemaOk_L1,spec_SchemaOk_b1]
              by_cases h:i<s.2.1.length
              · obtain ⟨p1,p2⟩:=places_in hp h
                rw[br_pos (by exact_mod_cast h),ix h,br_t,Int.toNat_natCast,ixn p1 p2,br_t,wrap_succ (by omega),if_pos h];rfl
              · rw[br_neg (by exact_mod_cast h),if_neg h];rfl
            · unfold keyNull
              cases anyFrom (fun j=>(s.1.getD (s.2.1.getD j 0).toNat cd).2.2.1) 0 s.2.1.length<;>rfl
  · unfold schemaOk
    cases anyFrom (colBad s.1) 0 s.1.length<;>cases anyFrom (ixBad s.1.length s.2.2.1) 0 s.2.2.1.length<;>cases inR s.1.length 1 5<;>cases placesOk s.1.length s.2.1 4<;>cases keyNull s.1 s.2.1<;>simp[br]
end Go.G

namespace Go.G
open Go Go.V Go.Proofs
instance decCols:DecidableEq (List Col):=inferInstance
instance decIxs:DecidableEq (List Index):=inferInstance
instance decSchema:DecidableEq Schema:=fun a b=>@instDecidableEqProd _ _ decCols (@instDecidableEqProd _ _ inferInstance (@instDecidableEqProd _ _ decIxs inferInstance)) a b
theorem tot_schema (a:Schema):tot SchemaT a=tot (.sl ColT) a.1+(tot IntsT a.2.1+(tot (.sl IndexT) a.2.2.1+0)):=rfl
theorem tot_col (a:Col):tot ColT a=a.1.size:=rfl
theorem tot_index (a:Index):tot IndexT a=a.1.size+a.2.1.length:=by
  have h:tot IndexT a=a.1.size+(tot IntsT a.2.1+(0+0)):=rfl
  rw[h,tot_ints];omega
theorem schSm_of {s:Schema} (h:tot SchemaT s≤M):SchSm s:=by
  rw[tot_schema,tot_ints] at h
  have h1:=tot_sl (t:=ColT) s.1
  have h2:=tot_sl (t:=IndexT) s.2.2.1
  refine ⟨by omega,fun c hc=>?_,by omega,by omega,fun x hx=>?_,fun x hx=>?_⟩
  · have:=tot_mem (t:=ColT) hc
    rw[tot_col] at this;omega
  · have:=tot_mem (t:=IndexT) hx
    rw[tot_index] at this;omega
  · have:=tot_mem (t:=IndexT) hx
    rw[tot_index] at this;omega
theorem c_toSchema {X:Ext} (hX:XOk X) {n:Nat} (hn:W+4≤n) (a:Schema) (ha:Fit bound SchemaT a):C_laws_toSchema (DD X n) a=some ((a,()),()):=by
  obtain ⟨n,rfl⟩:∃ k,n=k+1:=⟨n - 1,by omega⟩
  rw[S_laws_toSchema hX]
  simp only[F_laws_toSchema,laws_toSchema_e]
  rw[c_toColS hX (by omega) _ ha.1,bindD_some,c_toIntS hX (by omega) _ ha.2.1.1,bindD_some,c_toIndexS hX (by omega) _ ha.2.2.1,bindD_some]
theorem c_eqSchema {X:Ext} (hX:XOk X) {n:Nat} (hn:W+4≤n) (a b:Schema) (hb:Fit maxLen SchemaT b):C_laws_eqSchema (DD X n) a b=some ((decide (a=b),()),()):=by
  obtain ⟨n,rfl⟩:∃ k,n=k+1:=⟨n - 1,by omega⟩
  rw[S_laws_eqSchema hX]
  simp only[F_laws_eqSchema,laws_eqSchema_e]
  rw[c_eqColS hX (by omega) _ _ hb.1,bindD_some,c_eqIntS hX (by omega) _ _ hb.2.1.1,bindD_some,c_eqIndexS hX (by omega) _ _ hb.2.2.1,bindD_some]
  obtain ⟨a1,a2,a3,⟨⟩⟩:=a
  obtain ⟨b1,b2,b3,⟨⟩⟩:=b
  by_cases h1:a1=b1<;>by_cases h2:a2=b2<;>by_cases h3:a3=b3<;>simp[h1,h2,h3,br]
theorem c_szSchema {X:Ext} (hX:XOk X) {n:Nat} (hn:W+4≤n) (a:Schema) (k:Int) (ha:Wf SchemaT a) (hk:0≤k∧k≤maxLen):C_laws_szSchema (DD X n) a k=some ((left SchemaT a k,()),()):=by
  obtain ⟨n,rfl⟩:∃ k,n=k+1:=⟨n - 1,by omega⟩
  have hd:=maxLen_def
  have ht:=tot_schema a
  rw[S_laws_szSchema hX]
  simp only[F_laws_szSchema,laws_szSchema_e]
  rw[c_szColS hX (by omega) _ _ ha.1 hk,bindD_some];dsimp only
  by_cases h:left (.sl ColT) a.1 k<0
  · rw[br_pos h,left_neg]
    intro h3
    rw[left_pos (by omega)] at h
    omega
  · obtain ⟨e1,e2⟩:=left_nonneg h hk.1
    rw[br_neg h,e1,c_szIntS hX (by omega) _ _ ha.2.1.1 (by omega),bindD_some];dsimp only
    by_cases h:left IntsT a.2.1 (k - tot (.sl ColT) a.1)<0
    · rw[br_pos h,left_neg]
      intro h3
      rw[left_pos (by omega)] at h
      omega
    · obtain ⟨e3,e4⟩:=left_nonneg h (by omega)
      rw[br_neg h,e3,c_szIndexS hX (by omega) _ _ ha.2.2.1 (by omega),bindD_some];dsimp only
      by_cases h:left (.sl IndexT) a.2.2.1 (k - tot (.sl ColT) a.1 - tot IntsT a.2.1)<0
      · rw[br_pos h,left_neg]
        intro h3
        rw[left_pos (by omega)] at h
        omega
      · obtain ⟨e5,e6⟩:=left_nonneg h (by omega)
        rw[br_neg h,e5,left_pos (by omega)]
        congr 3;omega
theorem m_markSchema {X:Ext} (hX:XOk X) {n:Nat} (hn:W+3≤n) (a:Schema) (k:Int) (ha:Fit maxLen SchemaT a) (hk:0≤k) (h:k+cnt SchemaT a≤maxLen) :
    C_laws_markSchema (DD X n) a k=some (((mkT SchemaT k a).1,()),((mkT SchemaT k a).2,())):=by
  obtain ⟨n,rfl⟩:∃ k,n=k+1:=⟨n - 1,by omega⟩
  have hc:cnt SchemaT a=cnt (.sl ColT) a.1+(cnt IntsT a.2.1+(cnt (.sl IndexT) a.2.2.1+0)):=rfl
  have h1:=mkT_cnt (.sl ColT) k a.1
  have h2:=mkT_cnt IntsT (mkT (.sl ColT) k a.1).1 a.2.1
  rw[S_laws_markSchema hX]
  simp only[F_laws_markSchema,laws_markSchema_e]
  rw[m_markColS hX (by omega) _ _ ha.1.1 hk (by omega),bindD_some];dsimp only
  rw[m_markIntS hX (by omega) _ _ (by omega) (by omega),bindD_some];dsimp only
  rw[m_markIndexS hX (by omega) _ _ ha.2.2.1.1 (by omega) (by omega),bindD_some]
  rfl
theorem m_heldSchema {X:Ext} (hX:XOk X) {n:Nat} (hn:W+3≤n) (a:Schema) (k:Int) (ha:Fit maxLen SchemaT a) (hk:0≤k) (h:k+cnt SchemaT a≤maxLen) :
    C_laws_heldSchema (DD X n) (mkT SchemaT k a).2 k=some (((mkT SchemaT k a).1,()),()):=by
  obtain ⟨n,rfl⟩:∃ k,n=k+1:=⟨n - 1,by omega⟩
  have hc:cnt SchemaT a=cnt (.sl ColT) a.1+(cnt IntsT a.2.1+(cnt (.sl IndexT) a.2.2.1+0)):=rfl
  have h1:=mkT_cnt (.sl ColT) k a.1
  have h2:=mkT_cnt IntsT (mkT (.sl ColT) k a.1).1 a.2.1
  have h3:=mkT_cnt (.sl IndexT) (mkT IntsT (mkT (.sl ColT) k a.1).1 a.2.1).1 a.2.2.1
  rw[S_laws_heldSchema hX]
  simp only[F_laws_heldSchema,laws_heldSchema_e,mkT]
  have e1:=m_heldColS hX (n:=n) (by omega) a.1 k ha.1.1 hk (by omega)
  have e2:=m_heldIntS hX (n:=n) (by omega) a.2.1 (mkT (.sl ColT) k a.1).1 (by omega) (by omega)
  have e3:=m_heldIndexS hX (n:=n) (by omega) a.2.2.1 (mkT IntsT (mkT (.sl ColT) k a.1).1 a.2.1).1 ha.2.2.1.1 (by omega) (by omega)
  simp only[mkT] at e1 e2 e3 h1 h2 h3
  rw[e1,bindD_some];dsimp only
  rw[br_neg (by omega),e2,bindD_some];dsimp only
  rw[br_neg (by omega),e3,bindD_some];dsimp only
  rw[br_neg (by omega)]
theorem fitB {t:Ty} {a:t.den} (h:(tot t a:Int)≤1048576):Fit bound t a:=fit_of_tot (by have:=bound_def;omega)
theorem fitM {t:Ty} {a:t.den} (h:(tot t a:Int)≤1048576):Fit maxLen t a:=fit_of_tot (by have:=maxLen_def;omega)
end Go.G

namespace Go.G
set_option maxRecDepth 100000
open Go Go.V Go.Proofs
abbrev vd:Value:=(0,0,ByteArray.empty,())
abbrev Row:=List Value
def project (row:Row) (cols:List Int):Row:=(cols.filter fun c=>inR c 0 ((row.length:Int) - 1)).map fun c=>row.getD c.toNat vd
theorem project_len (row:Row) (cols:List Int):(project row cols).length≤cols.length:=by
  unfold project;rw[List.length_map];exact List.length_filter_le _ _
theorem project_cons (row:Row) (c:Int) (cols:List Int):project row (c::cols)=if inR c 0 ((row.length:Int) - 1)=true then row.getD c.toNat vd::project row cols else project row cols:=by
  unfold project
  rw[List.filter_cons]
  split<;>simp
theorem inR_lt {c:Int} {n:Nat} (h:inR c 0 ((n:Int) - 1)=true):0≤c∧c<n:=by
  simp only[inR,Bool.and_eq_true,decide_eq_true_eq] at h;omega
theorem implProject_L {X:Ext} (hX:XOk X) (N n:Nat) (hN:1≤N) (K:Row→Option ((Row×Unit)×Unit)) (row:Row) (hr:row.length≤M) (cols:List Int) (hc:cols.length≤M):∀ (m i:Nat) (acc:Row),i≤cols.length→cols.length - i<m→acc.length≤i→
    impl_Project_L0 (DD X N) n K m row cols cols.length (i:Int) acc=K (acc++project row (cols.drop i))
  | 0,_,_,_,h,_=>by omega
  | m+1,i,acc,hi,hf,ha=>by
    simp only[impl_Project_L0,impl_Project_b0]
    have hM:=M_def
    have hb:=bound_def
    by_cases h:i<cols.length
    · rw[br_pos (by exact_mod_cast h),ix h,br_t,Int.toNat_natCast,wrap_id (by omega) (by omega),c_from hX hN,bindD_some,wrap_succ (by omega),drop_cons h,project_cons,getD_lt h]
      dsimp only
      by_cases hin:inR cols[i] 0 ((row.length:Int) - 1)=true
      · obtain ⟨p1,p2⟩:=inR_lt hin
        rw[hin,br_t,ixn p1 p2,br_t,br_pos (by omega),if_pos rfl]
        refine Eq.trans (implProject_L hX N n hN K row hr cols hc m (i+1) _ (by omega) (by omega) (by simp;omega)) ?_
        rw[List.append_assoc];rfl
      · rw[Bool.not_eq_true] at hin
        rw[hin,br_f,if_neg Bool.noConfusion]
        exact implProject_L hX N n hN K row hr cols hc m (i+1) acc (by omega) (by omega) (by omega)
    · rw[br_neg (by exact_mod_cast h),drop_end h]
      simp[project]
theorem specProject_L {X:Ext} (hX:XOk X) (N n:Nat) (hN:1≤N) (K:Row→Option ((Row×Unit)×Unit)) (row:Row) (hr:row.length≤M) (cols:List Int) (hc:cols.length≤M):∀ (m i:Nat) (acc:Row),i≤cols.length→cols.length - i<m→acc.length≤i→
    spec_Project_L0 (DD X N) n K m row cols (i:Int) acc=K (acc++project row (cols.drop i))
  | 0,_,_,_,h,_=>by omega
  | m+1,i,acc,hi,hf,ha=>by
    simp only[spec_Project_L0,spec_Project_b0]
    have hM:=M_def
    have hb:=bound_def
    by_cases h:i<cols.length
    · rw[br_pos (by exact_mod_cast h),ix h,br_t,Int.toNat_natCast,wrap_id (by omega) (by omega),c_l1In hX hN,bindD_some,wrap_succ (by omega),drop_cons h,project_cons,getD_lt h]
      dsimp only
      by_cases hin:inR cols[i] 0 ((row.length:Int) - 1)=true
      · obtain ⟨p1,p2⟩:=inR_lt hin
        rw[hin,br_t,br_t,ixn p1 p2,br_t,br_pos (by omega),if_pos rfl]
        refine Eq.trans (specProject_L hX N n hN K row hr cols hc m (i+1) _ (by omega) (by omega) (by simp;omega)) ?_
        rw[List.append_assoc];rfl
      · rw[Bool.not_eq_true] at hin
        rw[hin,br_f,if_neg Bool.noConfusion]
        exact specProject_L hX N n hN K row hr cols hc m (i+1) acc (by omega) (by omega) (by omega)
    · rw[br_neg (by exact_mod_cast h),drop_end h]
      simp[project]
theorem c_implProject {X:Ext} (hX:XOk X) {n:Nat} (hn:W+1≤n) (row:Row) (hr:row.length≤M) (cols:List Int) (hc:cols.length≤M):C_impl_Project (DD X n) row cols=some ((project row cols,()),()):=by
  obtain ⟨n,rfl⟩:∃ k,n=k+1:=⟨n - 1,by omega⟩
  have hW:=W_def
  have hM:=M_def
  rw[S_impl_Project hX]
  simp only[F_impl_Project,impl_Project_e,impl_Project_LP0]
  refine Eq.trans (implProject_L hX n n (by omega) _ row hr cols hc n 0 [] (by omega) (by omega) (by simp)) ?_
  rfl
theorem c_specProject {X:Ext} (hX:XOk X) {n:Nat} (hn:W+1≤n) (row:Row) (hr:row.length≤M) (cols:List Int) (hc:cols.length≤M):C_spec_Project (DD X n) row cols=some ((project row cols,()),()):=by
  obtain ⟨n,rfl⟩:∃ k,n=k+1:=⟨n - 1,by omega⟩
  have hW:=W_def
  have hM:=M_def
  rw[S_spec_Project hX]
  simp only[F_spec_Project,spec_Project_e,spec_Project_LP0]
  refine Eq.trans (specProject_L hX n n (by omega) _ row hr cols hc n 0 [] (by omega) (by omega) (by simp)) ?_
  rfl
theorem c_implKeyOfRow {X:Ext} (hX:XOk X) {n:Nat} (hn:W+2≤n) (s:Schema) (row:Row) (hr:row.length≤M) (hc:s.2.1.length≤M):C_impl_KeyOfRow (DD X n) s row=some ((project row s.2.1,()),()):=by
  obtain ⟨n,rfl⟩:∃ k,n=k+1:=⟨n - 1,by omega⟩
  rw[S_impl_KeyOfRow hX]
  simp only[F_impl_KeyOfRow,impl_KeyOfRow_e]
  rw[c_implProject hX (by omega) row hr _ hc,bindD_some]
theorem c_specKeyOfRow {X:Ext} (hX:XOk X) {n:Nat} (hn:W+2≤n) (s:Schema) (row:Row) (hr:row.length≤M) (hc:s.2.1.length≤M):C_spec_KeyOfRow (DD X n) s row=some ((project row s.2.1,()),()):=by
  obtain ⟨n,rfl⟩:∃ k,n=k+1:=⟨n - 1,by omega⟩
  rw[S_spec_KeyOfRow hX]
  simp only[F_spec_KeyOfRow,spec_KeyOfRow_e]
  rw[c_specProject hX (by omega) row hr _ hc,bindD_some]
def noText (v:Value):Bool:=decide (v.2.2.1=ByteArray.mk #[])
def valueOk (v:Value):Bool:=
  bif decide (v.1=0) then decide (v.2.1=0)&&noText v else
  bif decide (v.1=1) then inR v.2.1 0 1&&noText v else
  bif decide (v.1=2) then inR v.2.1 (-1000000000000) 1000000000000&&noText v else
  bif decide (v.1=3) then decide (v.2.1=0)&&decide ((v.2.2.1.size:Int)≤20) else false
theorem c_implValueOk {X:Ext} (hX:XOk X) {n:Nat} (hn:2≤n) (v:Value):C_impl_ValueOk (DD X n) v=some ((valueOk v,()),()):=by
  obtain ⟨n,rfl⟩:∃ k,n=k+1:=⟨n - 1,by omega⟩
  rw[S_impl_ValueOk hX]
  simp only[F_impl_ValueOk,impl_ValueOk_e]
  rw[c_from hX (by omega),c_from hX (by omega)]
  simp only[bindD_some,cond_and,beq_bytes]
  unfold valueOk noText
  cases decide (v.1=0)<;>cases decide (v.1=1)<;>cases decide (v.1=2)<;>cases decide (v.1=3)<;>rfl
theorem c_specValueOk {X:Ext} (hX:XOk X) {n:Nat} (hn:2≤n) (v:Value):C_spec_ValueOk (DD X n) v=some ((valueOk v,()),()):=by
  obtain ⟨n,rfl⟩:∃ k,n=k+1:=⟨n - 1,by omega⟩
  rw[S_spec_ValueOk hX]
  simp only[F_spec_ValueOk,spec_ValueOk_e]
  rw[c_l1In hX (by omega),c_l1In hX (by omega)]
  simp only[bindD_some,cond_and,beq_bytes]
  unfold valueOk noText
  cases decide (v.1=0)<;>cases decide (v.1=1)<;>cases decide (v.1=2)<;>cases decide (v.1=3)<;>rfl
def rowBad (cs:List Col) (row:Row) (i:Nat):Bool:=!valueOk (row.getD i vd)||(!decide ((row.getD i vd).1=(cs.getD i cd).2.1)&&!(decide ((row.getD i vd).1=0)&&(cs.getD i cd).2.2.1))
def rowOk (s:Schema) (row:Row):Bool:=schemaOk s&&(decide (row.length=s.1.length)&&!anyFrom (rowBad s.1 row) 0 row.length)
theorem len_bne (a b:Nat):((a:Int) != (b:Int))=!decide (a=b):=by
  by_cases h:a=b
  · simp[h]
  · have:¬ (a:Int)=(b:Int):=by omega
    rw[bne_dec,decide_eq_false this,decide_eq_false h]
theorem c_implRowOk {X:Ext} (hX:XOk X) {n:Nat} (hn:W+6≤n) (s:Schema) (hs:SchSm s) (row:Row) (hr:row.length≤M):C_impl_RowOk (DD X n) s row=some ((rowOk s row,()),()):=by
  obtain ⟨n,rfl⟩:∃ k,n=k+1:=⟨n - 1,by omega⟩
  have hW:=W_def
  have hM:=M_def
  rw[S_impl_RowOk hX]
  simp only[F_impl_RowOk,impl_RowOk_e,impl_RowOk_LP0]
  rw[c_implSchemaOk hX (by omega) s hs,bindD_some,len_bne]
  dsimp only
  unfold rowOk
  cases schemaOk s
  · rfl
  · by_cases hl:row.length=s.1.length
    · rw[decide_eq_true hl]
      refine Eq.trans (scan0 (L:=fun m i=>impl_RowOk_L0 (DD X n) n _ _ m row row.length (i:Int) s) (N:=row.length) (P:=rowBad s.1 row)
        (A:=some ((false,()),())) (B:=some ((true,()),())) (fun m i hi=>?_) (m:=n) (by omega)) ?_
      · simp only[impl_RowOk_L0,impl_RowOk_b0]
        by_cases h:i<row.length
        · rw[br_pos (by exact_mod_cast h),ix h,br_t,ix (i:=i) (hl ▸ h),br_t,Int.toNat_natCast,c_implValueOk hX (by omega),bindD_some,wrap_succ (by omega),if_pos h,bne_dec,cond_and,cond_and,cond_or]
          rfl
        · rw[br_neg (by exact_mod_cast h),if_neg h];rfl
      · cases anyFrom (rowBad s.1 row) 0 row.length<;>rfl
    · rw[decide_eq_false hl];rfl
theorem c_specRowOk {X:Ext} (hX:XOk X) {n:Nat} (hn:W+6≤n) (s:Schema) (hs:SchSm s) (row:Row) (hr:row.length≤M):C_spec_RowOk (DD X n) s row=some ((rowOk s row,()),()):=by
  obtain ⟨n,rfl⟩:∃ k,n=k+1:=⟨n - 1,by omega⟩
  have hW:=W_def
  have hM:=M_def
  rw[S_spec_RowOk hX]
  simp only[F_spec_RowOk,spec_RowOk_e,spec_RowOk_LP0]
  rw[c_specSchemaOk hX (by omega) s hs,bindD_some,len_bne]
  dsimp only
  unfold rowOk
  cases schemaOk s
  · rfl
  · by_cases hl:row.length=s.1.length
    · rw[decide_eq_true hl]
      refine Eq.trans (scan0 (L:=fun m i=>spec_RowOk_L0 (DD X n) n _ _ m row (i:Int) s) (N:=row.length) (P:=rowBad s.1 row)
        (A:=some ((false,()),())) (B:=some ((true,()),())) (fun m i hi=>?_) (m:=n) (by omega)) ?_
      · simp only[spec_RowOk_L0,spec_RowOk_b0]
        by_cases h:i<row.length
        · rw[br_pos (by exact_mod_cast h),ix h,br_t,br_t,ix (i:=i) (hl ▸ h),br_t,br_t,br_t,Int.toNat_natCast,c_specValueOk hX (by omega),bindD_some,wrap_succ (by omega),if_pos h,bne_dec]
          dsimp only[rowBad]
          cases valueOk (row.getD i vd)
          · rfl
          · cases decide ((row.getD i vd).1=(s.1.getD i cd).2.1)
            · cases (s.1.getD i cd).2.2.1
              · cases decide ((row.getD i vd).1=0)<;>rfl
              · cases decide ((row.getD i vd).1=0)<;>rfl
            · rfl
        · rw[br_neg (by exact_mod_cast h),if_neg h];rfl
      · cases anyFrom (rowBad s.1 row) 0 row.length<;>rfl
    · rw[decide_eq_false hl];rfl
theorem cnt_values:∀ (a:List Value),cnt (.sl ValueT) a=3 * a.length
  | []=>rfl
  | x::a=>by
    have:=cnt_values a
    rw[cnt_sl] at this ⊢
    rw[List.map_cons,List.sum_cons,this,List.length_cons]
    have:cnt ValueT x=3:=rfl
    omega
theorem fit_row {b:Nat} {a:Row} (h:a.length≤b):Fit b (.sl ValueT) a:=⟨h,fun _ _=>⟨trivial,trivial,trivial,trivial⟩⟩
theorem mark_nn {t:Ty} {k:Int} (hk:0≤k) (a:t.den):¬ (mkT t k a).1<0:=by rw[mkT_cnt];omega
theorem eqVal_den (a b:Value):eqDen (Ty.pair (Ty.int IntKind.i64) (Ty.pair (Ty.int IntKind.i64) (Ty.pair Ty.str Ty.unit))) a b=decide (a=b):=by
  obtain ⟨a1,a2,a3,⟨⟩⟩:=a
  obtain ⟨b1,b2,b3,⟨⟩⟩:=b
  have e:∀ x y:ByteArray,(x.toList == y.toList)=decide (x=y):=fun x y=>beq_bytes
  have e2:∀ x y:Int,(x == y)=decide (x=y):=fun x y=>by by_cases h:x=y<;>simp[h]
  simp only[eqDen,e,e2]
  by_cases h1:a1=b1<;>by_cases h2:a2=b2<;>by_cases h3:a3=b3<;>simp[h1,h2,h3]
end Go.G

namespace Go.G
set_option maxRecDepth 100000
open Go Go.V Go.Proofs
structure XC (X:Ext):Prop where
  ok:XOk X
  cmp:∀ n a b,C_strings_Compare (DD X (n+1)) a b=some ((scmp a b,()),())
theorem cmpExt_ok:XC cmpExt:=⟨fun k h=>by
  show Nat.beq k 192=false
  cases hk:Nat.beq k 192
  · rfl
  · rw[hk] at h;simp at h,fun n a b=>cmp_den n a b⟩
theorem compare_lt:∀ (a b:List UInt8),(Lib.compareBytes a b<0↔Op.bytesLess a b=true)∧(Lib.compareBytes a b=0↔a=b)
  | [],[]=>by simp[Lib.compareBytes,Op.bytesLess]
  | [],_::_=>by simp[Lib.compareBytes,Op.bytesLess]
  | _::_,[]=>by simp[Lib.compareBytes,Op.bytesLess]
  | x::a,y::b=>by
    obtain ⟨h1,h2⟩:=compare_lt a b
    simp only[Lib.compareBytes,Op.bytesLess]
    by_cases hxy:x<y
    · have hne:x≠y:=fun e=>by subst e;exact absurd hxy (UInt8.lt_irrefl x)
      simp[hxy,hne]
    · by_cases hyx:y<x
      · have hne:x≠y:=fun e=>by subst e;exact absurd hyx (UInt8.lt_irrefl x)
        simp[hxy,hyx,hne]
      · have e:x=y:=UInt8.le_antisymm (UInt8.not_lt.1 hyx) (UInt8.not_lt.1 hxy)
        subst e
        simp[hxy,h1,h2]
theorem scmp_lt (a b:ByteArray):scmp a b<0↔Op.bytesLess a.toList b.toList=true:=by
  unfold scmp
  rw[(compare_lt _ _).1,ByteArray.toList_eq,ByteArray.toList_eq]
theorem scmp_eq (a b:ByteArray):scmp a b=0↔a=b:=by
  unfold scmp
  rw[(compare_lt _ _).2]
  constructor
  · intro h;cases a;cases b;simp only[ByteArray.mk.injEq];exact Array.toList_inj.1 h
  · rintro rfl;rfl
def byv (a b:Value):Int:=bif decide (a.1<b.1)||(decide (a.1=b.1)&&decide (a.2.1<b.2.1)) then -1 else bif decide (a.1>b.1)||decide (a.2.1>b.2.1) then 1 else scmp a.2.2.1 b.2.2.1
def vlt (a b:Value):Bool:=bif !decide (a.1=b.1) then decide (a.1<b.1) else bif !decide (a.2.1=b.2.1) then decide (a.2.1<b.2.1) else Op.bytesLess a.2.2.1.toList b.2.2.1.toList
theorem byv_facts (a b:Value):(byv a b<0↔vlt a b=true)∧(byv a b=0↔a=b):=by
  obtain ⟨a1,a2,a3,⟨⟩⟩:=a
  obtain ⟨b1,b2,b3,⟨⟩⟩:=b
  have h1:=scmp_lt a3 b3
  have h2:=scmp_eq a3 b3
  simp only[byv,vlt]
  by_cases k1:a1<b1
  · have:¬ a1=b1:=by omega
    simp[k1,this]
  · by_cases k2:a1=b1
    · subst k2
      by_cases k3:a2<b2
      · have:¬ a2=b2:=by omega
        simp[k3,this]
      · by_cases k4:a2=b2
        · subst k4
          simp[h1,h2]
        · have:a2>b2:=by omega
          simp[k3,k4,this]
    · have:a1>b1:=by omega
      simp[k1,k2,this]
theorem c_byValue {X:Ext} (hX:XC X) {n:Nat} (hn:2≤n) (a b:Value):C_impl_byValue (DD X n) a b=some ((byv a b,()),()):=by
  obtain ⟨n,rfl⟩:∃ k,n=k+2:=⟨n - 2,by omega⟩
  rw[S_impl_byValue hX.ok]
  simp only[F_impl_byValue,impl_byValue_e]
  rw[hX.cmp]
  simp only[bindD_some,cond_and,cond_or]
  unfold byv
  cases (decide (a.1<b.1)||(decide (a.1=b.1)&&decide (a.2.1<b.2.1)))<;>cases (decide (a.1>b.1)||decide (a.2.1>b.2.1))<;>rfl
theorem clo_byValue (D:Den ctx) (x y:Value):applyClo ctx D (Clo.mk 141 []) [CapV.val (Ty.pair (Ty.int IntKind.i64) (Ty.pair (Ty.int IntKind.i64) (Ty.pair Ty.str Ty.unit))) x,CapV.val (Ty.pair (Ty.int IntKind.i64) (Ty.pair (Ty.int IntKind.i64) (Ty.pair Ty.str Ty.unit))) y] (Ty.int IntKind.i64)=(C_impl_byValue D x y).bind fun r=>some r.1.1:=by kernel_rfl
def tcmp:Row→Row→Int
  | [],[]=>0
  | [],_::_=>-1
  | _::_,[]=>1
  | x::a,y::b=>if byv x y=0 then tcmp a b else byv x y
def tlt:Row→Row→Bool
  | [],[]=>false
  | [],_::_=>true
  | _::_,[]=>false
  | x::a,y::b=>if x=y then tlt a b else vlt x y
theorem tcmp_lt:∀ (a b:Row),(decide (tcmp a b<0))=tlt a b
  | [],[]=>rfl
  | [],_::_=>rfl
  | _::_,[]=>rfl
  | x::a,y::b=>by
    obtain ⟨h1,h2⟩:=byv_facts x y
    simp only[tcmp,tlt]
    by_cases e:x=y
    · simp only[if_pos (h2.2 e),if_pos e];exact tcmp_lt a b
    · simp only[if_neg (fun k=>e (h2.1 k)),if_neg e]
      by_cases k:byv x y<0
      · rw[decide_eq_true k,h1.1 k]
      · rw[decide_eq_false k]
        cases hv:vlt x y
        · rfl
        · exact absurd (h1.2 hv) k
theorem compare_L {X:Ext} (hX:XC X) (N n:Nat) (hN:2≤N) (a b:Row) (ha:a.length≤M):∀ (m i:Nat),i≤a.length→i≤b.length→a.length - i<m→
    slices_CompareFunc_impl_Value_impl_Value_impl_Value_impl_Value_L0 (DD X N) n (Clo.mk 141 []) (fun v w u=>slices_CompareFunc_impl_Value_impl_Value_impl_Value_impl_Value_x0_0 (DD X N) n (Clo.mk 141 []) v w u) (fun v w=>slices_CompareFunc_impl_Value_impl_Value_impl_Value_impl_Value_x0_1 (DD X N) n (Clo.mk 141 []) v w) m a b a a.length (i:Int)=some ((tcmp (a.drop i) (b.drop i),()),())
  | 0,_,_,_,h=>by omega
  | m+1,i,hi,hj,hf=>by
    have hM:=M_def
    simp only[slices_CompareFunc_impl_Value_impl_Value_impl_Value_impl_Value_L0,slices_CompareFunc_impl_Value_impl_Value_impl_Value_impl_Value_b0]
    by_cases h:i<a.length
    · rw[br_pos (by exact_mod_cast h),ix h,br_t,drop_cons h]
      by_cases h2:i<b.length
      · rw[br_neg (by omega),ix h2,br_t,clo_byValue,Int.toNat_natCast,c_byValue hX hN,drop_cons h2,Option.bind_some,bindD_some,wrap_succ (by omega),getD_lt h,getD_lt h2,bne_dec]
        simp only[tcmp]
        by_cases e:byv a[i] b[i]=0
        · rw[decide_eq_true e,if_pos e,Bool.not_true,br_f]
          exact compare_L hX N n hN a b ha m (i+1) (by omega) (by omega) (by omega)
        · rw[decide_eq_false e,if_neg e,Bool.not_false,br_t];rfl
      · rw[br_pos (by omega),drop_end h2];rfl
    · rw[br_neg (by exact_mod_cast h),drop_end h]
      simp only[slices_CompareFunc_impl_Value_impl_Value_impl_Value_impl_Value_x0_1]
      by_cases h2:i<b.length
      · rw[br_pos (by omega),drop_cons h2];rfl
      · rw[br_neg (by omega),drop_end h2];rfl
theorem c_implTupleLess {X:Ext} (hX:XC X) {n:Nat} (hn:W+3≤n) (a b:Row) (ha:a.length≤M):C_impl_TupleLess (DD X n) a b=some ((tlt a b,()),()):=by
  obtain ⟨n,rfl⟩:∃ k,n=k+2:=⟨n - 2,by omega⟩
  have hW:=W_def
  have hM:=M_def
  rw[S_impl_TupleLess hX.ok]
  simp only[F_impl_TupleLess,impl_TupleLess_e]
  have e:C_slices_CompareFunc_impl_Value_impl_Value_impl_Value_impl_Value (DD X (n+1)) a b (Clo.mk 141 [])=some ((tcmp a b,()),()):=by
    rw[S_slices_CompareFunc_impl_Value_impl_Value_impl_Value_impl_Value hX.ok]
    simp only[F_slices_CompareFunc_impl_Value_impl_Value_impl_Value_impl_Value,slices_CompareFunc_impl_Value_impl_Value_impl_Value_impl_Value_e,slices_CompareFunc_impl_Value_impl_Value_impl_Value_impl_Value_LP0]
    exact compare_L hX n n (by omega) a b ha n 0 (by omega) (by omega) (by omega)
  rw[e,bindD_some]
  dsimp only
  rw[tcmp_lt]
theorem c_valueSame {X:Ext} (hX:XOk X) {n:Nat} (hn:1≤n) (a b:Value):C_spec_ValueSame (DD X n) a b=some ((decide (a=b),()),()):=by
  obtain ⟨n,rfl⟩:∃ k,n=k+1:=⟨n - 1,by omega⟩
  rw[S_spec_ValueSame hX]
  simp only[F_spec_ValueSame,spec_ValueSame_e,eqVal_den]
theorem c_valueLess {X:Ext} (hX:XOk X) {n:Nat} (hn:1≤n) (a b:Value):C_spec_ValueLess (DD X n) a b=some ((vlt a b,()),()):=by
  obtain ⟨n,rfl⟩:∃ k,n=k+1:=⟨n - 1,by omega⟩
  rw[S_spec_ValueLess hX]
  simp only[F_spec_ValueLess,spec_ValueLess_e,bne_dec]
  unfold vlt
  cases decide (a.1=b.1)<;>cases decide (a.2.1=b.2.1)<;>rfl
theorem specLess_L {X:Ext} (hX:XOk X) (N n:Nat) (hN:1≤N) (a b:Row) (ha:a.length≤M):∀ (m i:Nat),i≤a.length→i≤b.length→a.length - i<m→
    spec_TupleLess_L0 (DD X N) n (fun v w u=>spec_TupleLess_x0_0 (DD X N) n v w u) (fun v w=>spec_TupleLess_x0_1 (DD X N) n v w) m a b (i:Int)=some ((tlt (a.drop i) (b.drop i),()),())
  | 0,_,_,_,h=>by omega
  | m+1,i,hi,hj,hf=>by
    have hM:=M_def
    simp only[spec_TupleLess_L0,spec_TupleLess_b0,cond_and]
    by_cases h:i<a.length
    · by_cases h2:i<b.length
      · rw[decide_eq_true (show (i:Int)<a.length by omega),decide_eq_true (show (i:Int)<b.length by omega)]
        have c0:decide ((0:Int)≤(i:Int))=true:=decide_eq_true (by omega)
        rw[c0,Bool.true_and,br_t,br_t,br_t,c_valueSame hX hN,bindD_some,Int.toNat_natCast,wrap_succ (by omega),drop_cons h,drop_cons h2,getD_lt h,getD_lt h2]
        simp only[tlt]
        by_cases e:a[i]=b[i]
        · rw[decide_eq_true e,if_pos e,Bool.not_true,br_f]
          exact specLess_L hX N n hN a b ha m (i+1) (by omega) (by omega) (by omega)
        · rw[decide_eq_false e,if_neg e,Bool.not_false,br_t,br_t,br_t,c_valueLess hX hN,bindD_some];rfl
      · rw[decide_eq_true (show (i:Int)<a.length by omega),decide_eq_false (show ¬ (i:Int)<b.length by omega),drop_cons h,drop_end h2]
        simp only[Bool.and_false,br_f,spec_TupleLess_x0_1,tlt]
        rw[decide_eq_false (by omega)]
    · rw[decide_eq_false (show ¬ (i:Int)<a.length by omega),drop_end h]
      simp only[Bool.false_and,br_f,spec_TupleLess_x0_1]
      by_cases h2:i<b.length
      · rw[decide_eq_true (by omega),drop_cons h2];rfl
      · rw[decide_eq_false (by omega),drop_end h2];rfl
theorem c_specTupleLess {X:Ext} (hX:XOk X) {n:Nat} (hn:W+1≤n) (a b:Row) (ha:a.length≤M):C_spec_TupleLess (DD X n) a b=some ((tlt a b,()),()):=by
  obtain ⟨n,rfl⟩:∃ k,n=k+1:=⟨n - 1,by omega⟩
  have hW:=W_def
  have hM:=M_def
  rw[S_spec_TupleLess hX]
  simp only[F_spec_TupleLess,spec_TupleLess_e,spec_TupleLess_LP0]
  exact specLess_L hX n n (by omega) a b ha n 0 (by omega) (by omega) (by omega)
theorem same_L {X:Ext} (hX:XOk X) (N n:Nat) (hN:1≤N) (a b:Row) (ha:a.length≤M):∀ (m i:Nat),i≤a.length→i≤b.length→a.length - i<m→
    spec_l18Same_L0 (DD X N) n (fun v w u=>spec_l18Same_x0_0 (DD X N) n v w u) (fun v w=>spec_l18Same_x0_1 (DD X N) n v w) m a b (i:Int)=some ((decide (a.drop i=b.drop i),()),())
  | 0,_,_,_,h=>by omega
  | m+1,i,hi,hj,hf=>by
    have hM:=M_def
    simp only[spec_l18Same_L0,spec_l18Same_b0,cond_and]
    by_cases h:i<a.length
    · by_cases h2:i<b.length
      · rw[decide_eq_true (show (i:Int)<a.length by omega),decide_eq_true (show (i:Int)<b.length by omega)]
        have c0:decide ((0:Int)≤(i:Int))=true:=decide_eq_true (by omega)
        rw[c0,Bool.true_and,br_t,br_t,br_t,c_valueSame hX hN,bindD_some,Int.toNat_natCast,wrap_succ (by omega),drop_cons h,drop_cons h2,getD_lt h,getD_lt h2]
        by_cases e:a[i]=b[i]
        · rw[decide_eq_true e,Bool.not_true,br_f]
          refine Eq.trans (same_L hX N n hN a b ha m (i+1) (by omega) (by omega) (by omega)) ?_
          simp only[e,List.cons.injEq,true_and]
        · rw[decide_eq_false e,Bool.not_false,br_t]
          simp only[e,List.cons.injEq,false_and,decide_false];rfl
      · rw[decide_eq_true (show (i:Int)<a.length by omega),decide_eq_false (show ¬ (i:Int)<b.length by omega),drop_cons h,drop_end h2]
        simp only[Bool.and_false,br_f,spec_l18Same_x0_1]
        rw[decide_eq_false (by omega)];simp[h]
    · rw[decide_eq_false (show ¬ (i:Int)<a.length by omega),drop_end h]
      simp only[Bool.false_and,br_f,spec_l18Same_x0_1]
      by_cases h2:i<b.length
      · rw[decide_eq_false (by omega),drop_cons h2];simp[h2]
      · rw[decide_eq_true (by omega),drop_end h2];simp
theorem c_l18Same {X:Ext} (hX:XOk X) {n:Nat} (hn:W+1≤n) (a b:Row) (ha:a.length≤M):C_spec_l18Same (DD X n) a b=some ((decide (a=b),()),()):=by
  obtain ⟨n,rfl⟩:∃ k,n=k+1:=⟨n - 1,by omega⟩
  have hW:=W_def
  have hM:=M_def
  rw[S_spec_l18Same hX]
  simp only[F_spec_l18Same,spec_l18Same_e,spec_l18Same_LP0]
  exact same_L hX n n (by omega) a b ha n 0 (by omega) (by omega) (by omega)
theorem any_diff {a b:Row} (hl:a.length=b.length):anyFrom (fun i=>!decide (a.getD i vd=b.getD i vd)) 0 a.length=!decide (a=b):=by
  by_cases e:a=b
  · rw[decide_eq_true e,anyFrom_false.2 (fun j _ _=>by rw[e];simp)];rfl
  · rw[decide_eq_false e]
    show _=true
    rw[←Bool.not_eq_false]
    intro hf
    apply e
    apply List.ext_getElem hl
    intro i h1 h2
    have:=anyFrom_false.1 hf i (by omega) (by omega)
    rw[getD_lt h1,getD_lt h2] at this
    simpa using this
theorem c_equal {X:Ext} (hX:XOk X) {n:Nat} (hn:W+1≤n) (a b:Row) (ha:a.length≤M):C_slices_Equal_impl_Value_impl_Value (DD X n) a b=some ((decide (a=b),()),()):=by
  obtain ⟨n,rfl⟩:∃ k,n=k+1:=⟨n - 1,by omega⟩
  have hM:=M_def
  have hW:=W_def
  rw[S_slices_Equal_impl_Value_impl_Value hX]
  simp only[F_slices_Equal_impl_Value_impl_Value,slices_Equal_impl_Value_impl_Value_e,slices_Equal_impl_Value_impl_Value_LP0]
  rw[len_bne]
  by_cases hl:a.length=b.length
  · rw[decide_eq_true hl,Bool.not_true,br_f]
    refine Eq.trans (scan0 (L:=fun m i=>slices_Equal_impl_Value_impl_Value_L0 (DD X n) n _ _ m a b a.length (i:Int)) (N:=a.length) (P:=fun i=>!decide (a.getD i vd=b.getD i vd))
      (A:=some ((false,()),())) (B:=some ((true,()),())) (fun m i hi=>?_) (m:=n) (by omega)) ?_
    · simp only[slices_Equal_impl_Value_impl_Value_L0,slices_Equal_impl_Value_impl_Value_b0]
      by_cases h:i<a.length
      · rw[br_pos (by exact_mod_cast h),ix h,br_t,ix (hl ▸ h),br_t,Int.toNat_natCast,eqVal_den,wrap_succ (by omega),if_pos h];rfl
      · rw[br_neg (by exact_mod_cast h),if_neg h];rfl
    · rw[any_diff hl]
      cases decide (a=b)<;>rfl
  · have:¬ a=b:=fun e=>hl (by rw[e])
    rw[decide_eq_false hl,decide_eq_false this];rfl
def hasV (l:Row) (x:Value):Bool:=anyFrom (fun j=>decide (x=l.getD j vd)) 0 l.length
theorem c_containsV {X:Ext} (hX:XOk X) {n:Nat} (hn:W+2≤n) (l:Row) (x:Value) (hl:l.length≤M):C_slices_Contains_impl_Value_impl_Value (DD X n) l x=some ((hasV l x,()),()):=by
  obtain ⟨n,rfl⟩:∃ k,n=k+2:=⟨n - 2,by omega⟩
  have hM:=M_def
  have hW:=W_def
  rw[S_slices_Contains_impl_Value_impl_Value hX]
  simp only[F_slices_Contains_impl_Value_impl_Value,slices_Contains_impl_Value_impl_Value_e]
  have e:C_slices_Index_impl_Value_impl_Value (DD X (n+1)) l x=some ((match firstFrom (fun j=>decide (x=l.getD j vd)) 0 l.length with | some j=>(j:Int) | none=>-1,()),()):=by
    rw[S_slices_Index_impl_Value_impl_Value hX]
    simp only[F_slices_Index_impl_Value_impl_Value,slices_Index_impl_Value_impl_Value_e,slices_Index_impl_Value_impl_Value_LP0]
    refine Eq.trans (scanF0 (L:=fun m i=>slices_Index_impl_Value_impl_Value_L0 (DD X n) n _ _ m l l.length (i:Int) x) (N:=l.length) (P:=fun j=>decide (x=l.getD j vd))
      (A:=fun j=>some (((j:Int),()),())) (B:=some ((-1,()),())) (fun m i hi=>?_) (m:=n) (by omega)) ?_
    · simp only[slices_Index_impl_Value_impl_Value_L0,slices_Index_impl_Value_impl_Value_b0]
      by_cases h:i<l.length
      · rw[br_pos (by exact_mod_cast h),ix h,br_t,Int.toNat_natCast,wrap_succ (by omega),if_pos h,eqVal_den];rfl
      · rw[br_neg (by exact_mod_cast h),if_neg h];rfl
    · cases firstFrom (fun j=>decide (x=l.getD j vd)) 0 l.length<;>rfl
  rw[e,bindD_some]
  congr 3
  exact first_any _ _
def nullIn (l:Row):Bool:=anyFrom (fun j=>decide ((l.getD j vd).1=0)) 0 l.length
theorem c_l21Some {X:Ext} (hX:XOk X) {n:Nat} (hn:W+1≤n) (l:Row) (hl:l.length≤M):C_spec_l21Some (DD X n) l=some ((nullIn l,()),()):=by
  obtain ⟨n,rfl⟩:∃ k,n=k+1:=⟨n - 1,by omega⟩
  have hM:=M_def
  have hW:=W_def
  rw[S_spec_l21Some hX]
  simp only[F_spec_l21Some,spec_l21Some_e,spec_l21Some_LP0]
  refine Eq.trans (scan0 (L:=fun m i=>spec_l21Some_L0 (DD X n) n _ _ m l (i:Int)) (N:=l.length) (P:=fun j=>decide ((l.getD j vd).1=0))
    (A:=some ((true,()),())) (B:=some ((false,()),())) (fun m i hi=>?_) (m:=n) (by omega)) ?_
  · simp only[spec_l21Some_L0,spec_l21Some_b0]
    by_cases h:i<l.length
    · rw[br_pos (by exact_mod_cast h),ix h,br_t,Int.toNat_natCast,wrap_succ (by omega),if_pos h];rfl
    · rw[br_neg (by exact_mod_cast h),if_neg h];rfl
  · unfold nullIn
    cases anyFrom (fun j=>decide ((l.getD j vd).1=0)) 0 l.length<;>rfl
theorem null_ok {v:Value} (h:valueOk v=true):decide (vd=v)=decide (v.1=0):=by
  obtain ⟨v1,v2,v3,⟨⟩⟩:=v
  by_cases h0:v1=0
  · subst h0
    simp only[valueOk,noText,decide_true,cond_true,Bool.and_eq_true,decide_eq_true_eq] at h
    obtain ⟨rfl,rfl⟩:=h
    rfl
  · have:¬ vd=(v1,v2,v3,()):=fun e=>h0 (by rw[←(Prod.mk.inj e).1])
    rw[decide_eq_false this,decide_eq_false h0]
theorem hasV_null {l:Row} (h:∀ v∈l,valueOk v=true):hasV l vd=nullIn l:=
  anyFrom_congr fun j _ hj=>null_ok (h _ (getD_mem (by omega)))
theorem project_mem {row:Row} {cols:List Int}:∀ v∈project row cols,v∈row:=by
  intro v hv
  unfold project at hv
  obtain ⟨c,hc,rfl⟩:=List.mem_map.1 hv
  have:=inR_lt (List.mem_filter.1 hc).2
  exact getD_mem (by omega)
def clashAt (xs:List Index) (a b:Row) (i:Nat):Bool:=(xs.getD i xd).2.2.1&&(decide (project a (xs.getD i xd).2.1=project b (xs.getD i xd).2.1)&&!nullIn (project a (xs.getD i xd).2.1))
def clash (s:Schema) (a b:Row):Bool:=anyFrom (clashAt s.2.2.1 a b) 0 s.2.2.1.length
theorem clash_symm (s:Schema) (a b:Row):clash s a b=clash s b a:=by
  refine anyFrom_congr fun j _ _=>?_
  unfold clashAt
  by_cases e:project a (s.2.2.1.getD j xd).2.1=project b (s.2.2.1.getD j xd).2.1
  · rw[decide_eq_true e,decide_eq_true e.symm,e]
  · rw[decide_eq_false e,decide_eq_false fun k=>e k.symm];simp
theorem clo_clash (D:Den ctx) (a b:Row) (x:Index):applyClo ctx D (Clo.mk 143 [CapV.rptr (Ty.sl (Ty.pair (Ty.int IntKind.i64) (Ty.pair (Ty.int IntKind.i64) (Ty.pair Ty.str Ty.unit)))) a,CapV.rptr (Ty.sl (Ty.pair (Ty.int IntKind.i64) (Ty.pair (Ty.int IntKind.i64) (Ty.pair Ty.str Ty.unit)))) b]) [CapV.val (Ty.pair Ty.str (Ty.pair (Ty.sl (Ty.int IntKind.i64)) (Ty.pair Ty.bool Ty.unit))) x] Ty.bool=(C_impl_clash_1 D x a b).bind fun r=>some r.1.1:=by kernel_rfl
theorem c_implClash {X:Ext} (hX:XOk X) {n:Nat} (hn:W+6≤n) (s:Schema) (hs:SchSm s) (a b:Row) (ha:a.length≤M) (hb:b.length≤M) (hv:∀ v∈a,valueOk v=true):C_impl_clash (DD X n) s a b=some ((clash s a b,()),()):=by
  obtain ⟨n,rfl⟩:∃ k,n=k+1:=⟨n - 1,by omega⟩
  have hM:=M_def
  have hd:=maxLen_def
  have h2:=hs.ixs
  rw[S_impl_clash hX]
  simp only[F_impl_clash,impl_clash_e]
  rw[c_someIndex hX (n:=n) (by omega) _ (by omega) _ (clashAt s.2.2.1 a b) (fun i hi=>by
    have hc:=hs.ixc _ (getD_mem (d:=xd) hi)
    obtain ⟨n,rfl⟩:∃ k,n=k+3:=⟨n - 3,by omega⟩
    rw[clo_clash,show n+3 - 2=n+1 from rfl,S_impl_clash_1 hX]
    simp only[F_impl_clash_1,impl_clash_1_e]
    have p1:=c_implProject hX (n:=n) (by omega) a ha (s.2.2.1.getD i xd).2.1 hc
    have p2:=c_implProject hX (n:=n) (by omega) b hb (s.2.2.1.getD i xd).2.1 hc
    have l1:=project_len a (s.2.2.1.getD i xd).2.1
    have p3:=c_containsV hX (n:=n) (by omega) (project a (s.2.2.1.getD i xd).2.1) vd (by omega)
    have p4:=c_equal hX (n:=n) (by omega) (project a (s.2.2.1.getD i xd).2.1) (project b (s.2.2.1.getD i xd).2.1) (by omega)
    rw[p1,bindD_some]
    dsimp only
    rw[p2,p3]
    simp only[bindD_some]
    rw[p4,bindD_some,hasV_null (fun v h=>hv v (project_mem v h))]
    unfold clashAt
    cases (s.2.2.1.getD i xd).2.2.1
    · rfl
    · cases nullIn (project a (s.2.2.1.getD i xd).2.1)<;>simp[br]),bindD_some]
  rfl
theorem c_specClash {X:Ext} (hX:XOk X) {n:Nat} (hn:W+3≤n) (s:Schema) (hs:SchSm s) (a b:Row) (ha:a.length≤M) (hb:b.length≤M):C_spec_l21Clash (DD X n) s a b=some ((clash s a b,()),()):=by
  obtain ⟨n,rfl⟩:∃ k,n=k+1:=⟨n - 1,by omega⟩
  have hM:=M_def
  have hW:=W_def
  have h2:=hs.ixs
  rw[S_spec_l21Clash hX]
  simp only[F_spec_l21Clash,spec_l21Clash_e,spec_l21Clash_LP0]
  refine Eq.trans (scan0 (L:=fun m i=>spec_l21Clash_L0 (DD X n) n _ _ m a b (i:Int) s) (N:=s.2.2.1.length) (P:=clashAt s.2.2.1 a b)
    (A:=some ((true,()),())) (B:=some ((false,()),())) (fun m i hi=>?_) (m:=n) (by omega)) ?_
  · simp only[spec_l21Clash_L0,spec_l21Clash_b0]
    by_cases h:i<s.2.2.1.length
    · have hc:=hs.ixc _ (getD_mem (d:=xd) h)
      have p1:=c_specProject hX (n:=n) (by omega) a ha (s.2.2.1.getD i xd).2.1 hc
      have p2:=c_specProject hX (n:=n) (by omega) b hb (s.2.2.1.getD i xd).2.1 hc
      have l1:=project_len a (s.2.2.1.getD i xd).2.1
      have p3:=c_l21Some hX (n:=n) (by omega) (project a (s.2.2.1.getD i xd).2.1) (by omega)
      have p4:=c_l18Same hX (n:=n) (by omega) (project a (s.2.2.1.getD i xd).2.1) (project b (s.2.2.1.getD i xd).2.1) (by omega)
      rw[br_pos (by exact_mod_cast h),ix h,br_t,Int.toNat_natCast,p1,bindD_some]
      dsimp only
      rw[p2,bindD_some]
      dsimp only
      rw[p3,p4,wrap_succ (by omega),if_pos h]
      simp only[bindD_some]
      unfold clashAt
      cases (s.2.2.1.getD i xd).2.2.1
      · rfl
      · cases decide (project a (s.2.2.1.getD i xd).2.1=project b (s.2.2.1.getD i xd).2.1)
        · rfl
        · cases nullIn (project a (s.2.2.1.getD i xd).2.1)<;>rfl
    · rw[br_neg (by exact_mod_cast h),if_neg h];rfl
  · unfold clash
    cases anyFrom (clashAt s.2.2.1 a b) 0 s.2.2.1.length<;>rfl
end Go.G

namespace Go.G
set_option maxRecDepth 100000
open Go Go.V Go.Proofs
abbrev Rel:=Schema×List Row×Unit
abbrev RelT:Ty:=.pair SchemaT (.pair (.sl (Ty.sl ValueT)) .unit)
theorem eqValueSS_L (D:Den ctx) (n:Nat) (K0:Bool→Option ((Bool×Unit)×Unit)) (K1:Option ((Bool×Unit)×Unit)):∀ (m i:Nat) (a b:List Row),(∀ x y,y∈b→C_laws_eqValueS D x y=some ((decide (x=y),()),()))→
    a.length=b.length→a.length≤maxLen→i≤a.length→a.length - i<m→laws_eqValueSS_L0 D n K0 K1 m a b i=if a.drop i=b.drop i then K1 else K0 false
  | 0,_,_,_,_,_,_,_,h=>by omega
  | m+1,i,a,b,he,hl,hm,hi,hk=>by
    simp only[laws_eqValueSS_L0,laws_eqValueSS_b0]
    have hd:=maxLen_def
    by_cases h:i<a.length
    · rw[br_pos (by exact_mod_cast h),ix h,br_t,ix (hl ▸ h),br_t,wrap_succ (by omega),Int.toNat_natCast,getD_lt h,getD_lt (hl ▸ h),he _ _ (List.getElem_mem _),bindD_some,drop_cons h,drop_cons (hl ▸ h:i<b.length)]
      by_cases e:a[i]=b[i]'(hl ▸ h)
      · simp only[e,decide_true,Bool.not_true,br_f,List.cons.injEq,true_and]
        exact eqValueSS_L D n K0 K1 m (i+1) a b he hl hm (by omega) (by omega)
      · simp only[e,decide_false,Bool.not_false,br_t,List.cons.injEq,false_and,if_false]
    · rw[br_neg (by exact_mod_cast h),drop_end h,drop_end (hl ▸ h)];rfl
theorem c_eqValueSS {X:Ext} (hX:XOk X) {n:Nat} (hn:W+4≤n) (a b:List Row) (hb:Fit maxLen (.sl (Ty.sl ValueT)) b):C_laws_eqValueSS (DD X n) a b=some ((decide (a=b),()),()):=by
  obtain ⟨n,rfl⟩:∃ k,n=k+1:=⟨n - 1,by omega⟩
  have hb1:b.length≤maxLen:=hb.1
  rw[S_laws_eqValueSS hX]
  simp only[F_laws_eqValueSS,laws_eqValueSS_e,laws_eqValueSS_LP0]
  by_cases h:a.length=b.length
  · have e:((a.length:Int) != (b.length:Int))=false:=by simp[h]
    rw[e,br_f]
    have:=eqValueSS_L (DD X n) n (fun v=>laws_eqValueSS_x0_0 (DD X n) n v) (laws_eqValueSS_x0_1 (DD X n) n) n 0 a b (fun x y hy=>c_eqValueS hX (by omega) x y (hb.2 y hy)) h (by omega) (by omega) (by have:=W_def;have:=maxLen_def;omega)
    rw[show ((0:Nat):Int)=0 from rfl] at this
    rw[this]
    simp only[List.drop_zero,laws_eqValueSS_x0_0,laws_eqValueSS_x0_1]
    by_cases h:a=b<;>simp[h]
  · have e:((a.length:Int) != (b.length:Int))=true:=by simp;omega
    have:a≠b:=fun h2=>h (by rw[h2])
    rw[e,br_t];simp[this]
theorem toValueSS_L (D:Den ctx) (n:Nat) (K:List Row→Option ((List Row×Unit)×Unit)):∀ (m i:Nat) (a c:List Row),(∀ x∈a,C_laws_toValueS D x=some ((x,()),()))→a.length=c.length→a.length≤maxLen→i≤a.length→a.length - i<m→
    laws_toValueSS_L0 D n K m a i c=K (c.take i++a.drop i)
  | 0,_,_,_,_,_,_,_,h=>by omega
  | m+1,i,a,c,he,hl,hm,hi,hk=>by
    simp only[laws_toValueSS_L0,laws_toValueSS_b0]
    have hd:=maxLen_def
    by_cases h:i<a.length
    · rw[br_pos (by exact_mod_cast h),ix h,br_t,Int.toNat_natCast,getD_lt h,he _ (List.getElem_mem _),bindD_some,ix (hl ▸ h),br_t,wrap_succ (by omega)]
      have e:=toValueSS_L D n K m (i+1) a (c.set i a[i]) he (by simp[hl]) hm (by omega) (by omega)
      rw[drop_cons h]
      refine Eq.trans e ?_
      rw[take_set (hl ▸ h),List.append_assoc];rfl
    · rw[br_neg (by exact_mod_cast h),drop_end h,List.take_of_length_le (by omega),List.append_nil]
theorem c_toValueSS {X:Ext} (hX:XOk X) {n:Nat} (hn:W+4≤n) (a:List Row) (ha:Fit bound (.sl (Ty.sl ValueT)) a):C_laws_toValueSS (DD X n) a=some ((a,()),()):=by
  obtain ⟨n,rfl⟩:∃ k,n=k+1:=⟨n - 1,by omega⟩
  have ha1:a.length≤bound:=ha.1
  rw[S_laws_toValueSS hX]
  simp only[F_laws_toValueSS,laws_toValueSS_e,laws_toValueSS_LP0]
  rw[to_cond ha1,br_t]
  have h1:=bound_def
  have:=toValueSS_L (DD X n) n (fun v=>laws_toValueSS_x0_0 (DD X n) n v) n 0 a (List.replicate (Int.toNat (a.length:Int)) []) (fun x hx=>c_toValueS hX (by omega) x (ha.2 x hx)) (by simp) (by rw[maxLen_def];omega) (by omega) (by have:=W_def;omega)
  rw[show ((0:Nat):Int)=0 from rfl] at this
  rw[this]
  simp only[List.take_zero,List.drop_zero,List.nil_append,laws_toValueSS_x0_0]
theorem szValueSS_L (D:Den ctx) (n:Nat) (K0:Int→Int→Option ((Int×Unit)×Unit)) (K1:Int→Option ((Int×Unit)×Unit)) (hK:∀ k,K1 k=some ((k,()),())) (hK0:∀ k,K0 k (-1)=some ((-1,()),())):∀ (m i:Nat) (k:Int) (a:List Row),
    (∀ x∈a,∀ k:Int,0≤k→k≤maxLen→C_laws_szValueS D x k=some ((left (Ty.sl ValueT) x k,()),()))→a.length≤maxLen→i≤a.length→a.length - i<m→0≤k→k≤maxLen→
    laws_szValueSS_L0 D n K0 K1 m a k i=some ((if (((a.drop i).map (tot (Ty.sl ValueT))).sum:Int)≤k then k - ((a.drop i).map (tot (Ty.sl ValueT))).sum else -1,()),())
  | 0,_,_,_,_,_,_,h,_,_=>by omega
  | m+1,i,k,a,he,hm,hi,hf,h0,h1=>by
    simp only[laws_szValueSS_L0,laws_szValueSS_b0]
    have hd:=maxLen_def
    by_cases h:i<a.length
    · rw[br_pos (by exact_mod_cast h),ix h,br_t,Int.toNat_natCast,getD_lt h,he _ (List.getElem_mem _) k h0 h1,bindD_some,wrap_succ (by omega),map_drop_sum h]
      by_cases h2:left (Ty.sl ValueT) a[i] k<0
      · rw[br_pos h2,hK0,if_neg]
        intro h3
        rw[left_pos (by omega)] at h2
        omega
      · obtain ⟨e1,e2⟩:=left_nonneg h2 h0
        rw[br_neg h2,e1];dsimp only
        rw[szValueSS_L D n K0 K1 hK hK0 m (i+1) _ a he hm (by omega) (by omega) (by omega) (by omega)]
        congr 3
        push_cast
        split<;>split<;>omega
    · rw[br_neg (by exact_mod_cast h),drop_end h,hK]
      simp[h0]
theorem c_szValueSS {X:Ext} (hX:XOk X) {n:Nat} (hn:W+4≤n) (a:List Row) (k:Int) (ha:Wf (.sl (Ty.sl ValueT)) a) (hk:0≤k∧k≤maxLen):C_laws_szValueSS (DD X n) a k=some ((left (.sl (Ty.sl ValueT)) a k,()),()):=by
  obtain ⟨n,rfl⟩:∃ k,n=k+1:=⟨n - 1,by omega⟩
  have hd:=maxLen_def
  have w1:a.length≤maxLen:=ha.1
  have hts:=tot_sl (t:=(Ty.sl ValueT)) a
  rw[S_laws_szValueSS hX]
  simp only[F_laws_szValueSS,laws_szValueSS_e,laws_szValueSS_LP0]
  rw[wrap_id (by omega) (by omega)]
  by_cases h:k - (a.length:Int)<0
  · rw[br_pos h,left_neg (by omega)]
  · rw[br_neg h]
    have:=szValueSS_L (DD X n) n (fun v w=>laws_szValueSS_x0_0 (DD X n) n v w) (fun v=>laws_szValueSS_x0_1 (DD X n) n v) (fun _=>rfl) (fun _=>rfl) n 0 (k - a.length) a
      (fun x hx k h0 h1=>c_szValueS hX (by omega) x k (ha.2 x hx) ⟨h0,h1⟩) w1 (by omega) (by have:=W_def;omega) (by omega) (by omega)
    rw[show ((0:Nat):Int)=0 from rfl] at this
    rw[this,List.drop_zero]
    by_cases h2:(tot (.sl (Ty.sl ValueT)) a:Int)≤k
    · rw[left_pos h2,if_pos (by omega)];congr 3;omega
    · rw[left_neg h2,if_neg (by omega)]
theorem markSS_L {X:Ext} (hX:XOk X) (N n:Nat) (hN:W+2≤N) (K:Int→List Row→Option ((Int×Unit)×List Row×Unit)):∀ (m i:Nat) (k:Int) (a:List Row),a.length≤maxLen→(∀ x∈a,x.length≤maxLen)→i≤a.length→a.length - i<m→0≤k→k+((a.drop i).map (cnt (Ty.sl ValueT))).sum≤maxLen→
    laws_markValueSS_L0 (DD X N) n K m k i a=K (mkL (mkT (Ty.sl ValueT)) k (a.drop i)).1 (a.take i++(mkL (mkT (Ty.sl ValueT)) k (a.drop i)).2)
  | 0,_,_,_,_,_,_,h,_,_=>by omega
  | m+1,i,k,a,hm,hmm,hi,hf,hk,hkl=>by
    simp only[laws_markValueSS_L0,laws_markValueSS_b0]
    have hd:=maxLen_def
    by_cases h:i<a.length
    · rw[map_drop_sum h] at hkl
      have hc1:=mkT_cnt (Ty.sl ValueT) k a[i]
      have t1:=m_markValueS hX hN a[i] k (hmm _ (List.getElem_mem h)) hk (by omega)
      have wi:IntKind.wrap IntKind.i64 ((i:Int)+1)=((i+1:Nat):Int):=wrap_succ (by omega)
      rw[br_pos (by exact_mod_cast h)]
      simp only[ix h,br_t,wi,bindD_some,List.length_set,Int.toNat_natCast,getD_lt h,t1]
      refine Eq.trans (br_lends rfl) ?_
      have hml:(mkT (Ty.sl ValueT) k a[i]).2.length=a[i].length:=mkL_len k a[i]
      have e:=markSS_L hX N n hN K m (i+1) (mkT (Ty.sl ValueT) k a[i]).1 (a.set i (mkT (Ty.sl ValueT) k a[i]).2) (by simpa using hm) (fun x hx=>by
        rcases List.mem_or_eq_of_mem_set hx with hx | rfl
        · exact hmm x hx
        · rw[hml];exact hmm _ (List.getElem_mem h)) (by simp;omega) (by simp;omega) (by omega) (by rw[List.drop_set_of_lt (by omega)];omega)
      refine Eq.trans e ?_
      rw[take_set h,drop_cons h,List.drop_set_of_lt (by omega),List.append_assoc]
      rfl
    · rw[br_neg (by exact_mod_cast h),drop_end h,List.take_of_length_le (by omega)]
      simp only[mkL,List.append_nil]
theorem m_markValueSS {X:Ext} (hX:XOk X) {n:Nat} (hn:W+3≤n) (a:List Row) (k:Int) (ha:a.length≤maxLen) (hr:∀ x∈a,x.length≤maxLen) (hk:0≤k) (h:k+cnt (.sl (Ty.sl ValueT)) a≤maxLen) :
    C_laws_markValueSS (DD X n) a k=some (((mkT (.sl (Ty.sl ValueT)) k a).1,()),((mkT (.sl (Ty.sl ValueT)) k a).2,())):=by
  obtain ⟨n,rfl⟩:∃ k,n=k+1:=⟨n - 1,by omega⟩
  have hd:=maxLen_def
  rw[S_laws_markValueSS hX]
  simp only[F_laws_markValueSS,laws_markValueSS_e,laws_markValueSS_LP0]
  have:=markSS_L hX n n (by omega) (fun v w=>laws_markValueSS_x0_0 (DD X n) n v w) n 0 k a ha hr (by omega) (by have:=W_def;omega) hk (by rw[List.drop_zero];exact h)
  rw[show ((0:Nat):Int)=0 from rfl] at this
  rw[this]
  simp only[List.take_zero,List.drop_zero,List.nil_append,laws_markValueSS_x0_0,mkT]
theorem heldSS_L {X:Ext} (hX:XOk X) (N n:Nat) (hN:W+2≤N) (K0:Int→Int→Option ((Int×Unit)×Unit)) (K1:Int→Option ((Int×Unit)×Unit)):∀ (m i:Nat) (k:Int) (a l:List Row),a.length≤maxLen→(∀ x∈l,x.length≤maxLen)→i≤a.length→a.length - i<m→0≤k→k+(l.map (cnt (Ty.sl ValueT))).sum≤maxLen→
    a.drop i=(mkL (mkT (Ty.sl ValueT)) k l).2→laws_heldValueSS_L0 (DD X N) n K0 K1 m a k i=K1 (mkL (mkT (Ty.sl ValueT)) k l).1
  | 0,_,_,_,_,_,_,_,h,_,_,_=>by omega
  | m+1,i,k,a,l,hm,hmm,hi,hf,hk,hkl,hl=>by
    simp only[laws_heldValueSS_L0,laws_heldValueSS_b0]
    have hd:=maxLen_def
    by_cases h:i<a.length
    · rw[drop_cons h] at hl
      cases l with
      | nil=>simp[mkL] at hl;omega
      | cons x l=>
        simp only[mkL,List.cons.injEq] at hl
        obtain ⟨hx,hl⟩:=hl
        simp only[List.map_cons,List.sum_cons] at hkl
        have hc1:=mkT_cnt (Ty.sl ValueT) k x
        have t1:=m_heldValueS hX hN x k (hmm _ (List.mem_cons_self ..)) hk (by omega)
        have wi:IntKind.wrap IntKind.i64 ((i:Int)+1)=((i+1:Nat):Int):=wrap_succ (by omega)
        rw[br_pos (by exact_mod_cast h)]
        simp only[ix h,br_t,Int.toNat_natCast,getD_lt h,hx,t1,wi,bindD_some]
        rw[br_neg (by omega)]
        exact heldSS_L hX N n hN K0 K1 m (i+1) (mkT (Ty.sl ValueT) k x).1 a l hm (fun y hy=>hmm y (List.mem_cons_of_mem _ hy)) (by omega) (by omega) (by omega) (by omega) hl
    · rw[br_neg (by exact_mod_cast h)]
      rw[drop_end h] at hl
      cases l with
      | nil=>rfl
      | cons x l=>simp[mkL] at hl
theorem m_heldValueSS {X:Ext} (hX:XOk X) {n:Nat} (hn:W+3≤n) (a:List Row) (k:Int) (ha:a.length≤maxLen) (hr:∀ x∈a,x.length≤maxLen) (hk:0≤k) (h:k+cnt (.sl (Ty.sl ValueT)) a≤maxLen) :
    C_laws_heldValueSS (DD X n) (mkT (.sl (Ty.sl ValueT)) k a).2 k=some (((mkT (.sl (Ty.sl ValueT)) k a).1,()),()):=by
  obtain ⟨n,rfl⟩:∃ k,n=k+1:=⟨n - 1,by omega⟩
  have hd:=maxLen_def
  rw[S_laws_heldValueSS hX]
  simp only[F_laws_heldValueSS,laws_heldValueSS_e,laws_heldValueSS_LP0]
  have hml:(mkT (.sl (Ty.sl ValueT)) k a).2.length=a.length:=mkL_len k a
  have:=heldSS_L hX n n (by omega) (fun v w=>laws_heldValueSS_x0_0 (DD X n) n v w) (fun v=>laws_heldValueSS_x0_1 (DD X n) n v) n 0 k (mkT (.sl (Ty.sl ValueT)) k a).2 a (by omega) hr (by omega) (by have:=W_def;omega) hk h (by simp[mkT])
  rw[show ((0:Nat):Int)=0 from rfl] at this
  rw[this]
  simp only[laws_heldValueSS_x0_1,mkT]
instance decRows:DecidableEq (List Row):=inferInstance
instance decRel:DecidableEq Rel:=fun a b=>@instDecidableEqProd _ _ decSchema (@instDecidableEqProd _ _ decRows inferInstance) a b
theorem tot_rel (a:Rel):tot RelT a=tot SchemaT a.1+(tot (.sl (Ty.sl ValueT)) a.2.1+0):=rfl
theorem c_toRel {X:Ext} (hX:XOk X) {n:Nat} (hn:W+5≤n) (a:Rel) (ha:Fit bound RelT a):C_laws_toRelation (DD X n) a=some ((a,()),()):=by
  obtain ⟨n,rfl⟩:∃ k,n=k+1:=⟨n - 1,by omega⟩
  rw[S_laws_toRelation hX]
  simp only[F_laws_toRelation,laws_toRelation_e]
  rw[c_toSchema hX (by omega) _ ha.1,bindD_some,c_toValueSS hX (by omega) _ ha.2.1,bindD_some]
theorem c_eqRel {X:Ext} (hX:XOk X) {n:Nat} (hn:W+5≤n) (a b:Rel) (hb:Fit maxLen RelT b):C_laws_eqRelation (DD X n) a b=some ((decide (a=b),()),()):=by
  obtain ⟨n,rfl⟩:∃ k,n=k+1:=⟨n - 1,by omega⟩
  rw[S_laws_eqRelation hX]
  simp only[F_laws_eqRelation,laws_eqRelation_e]
  rw[c_eqSchema hX (by omega) _ _ hb.1,bindD_some,c_eqValueSS hX (by omega) _ _ hb.2.1,bindD_some]
  obtain ⟨a1,a2,⟨⟩⟩:=a
  obtain ⟨b1,b2,⟨⟩⟩:=b
  by_cases h1:a1=b1<;>by_cases h2:a2=b2<;>simp[h1,h2,br]
theorem c_szRel {X:Ext} (hX:XOk X) {n:Nat} (hn:W+5≤n) (a:Rel) (k:Int) (ha:Wf RelT a) (hk:0≤k∧k≤maxLen):C_laws_szRelation (DD X n) a k=some ((left RelT a k,()),()):=by
  obtain ⟨n,rfl⟩:∃ k,n=k+1:=⟨n - 1,by omega⟩
  have hd:=maxLen_def
  have ht:=tot_rel a
  rw[S_laws_szRelation hX]
  simp only[F_laws_szRelation,laws_szRelation_e]
  rw[c_szSchema hX (by omega) _ _ ha.1 hk,bindD_some];dsimp only
  by_cases h:left SchemaT a.1 k<0
  · rw[br_pos h,left_neg]
    intro h3
    rw[left_pos (by omega)] at h
    omega
  · obtain ⟨e1,e2⟩:=left_nonneg h hk.1
    rw[br_neg h,e1,c_szValueSS hX (by omega) _ _ ha.2.1 (by omega),bindD_some];dsimp only
    by_cases h:left (.sl (Ty.sl ValueT)) a.2.1 (k - tot SchemaT a.1)<0
    · rw[br_pos h,left_neg]
      intro h3
      rw[left_pos (by omega)] at h
      omega
    · obtain ⟨e3,e4⟩:=left_nonneg h (by omega)
      rw[br_neg h,e3,left_pos (by omega)]
      congr 3;omega
theorem m_markRel {X:Ext} (hX:XOk X) {n:Nat} (hn:W+4≤n) (a:Rel) (k:Int) (ha:Fit maxLen RelT a) (hk:0≤k) (h:k+cnt RelT a≤maxLen) :
    C_laws_markRelation (DD X n) a k=some (((mkT RelT k a).1,()),((mkT RelT k a).2,())):=by
  obtain ⟨n,rfl⟩:∃ k,n=k+1:=⟨n - 1,by omega⟩
  have hc:cnt RelT a=cnt SchemaT a.1+(cnt (.sl (Ty.sl ValueT)) a.2.1+0):=rfl
  have h1:=mkT_cnt SchemaT k a.1
  rw[S_laws_markRelation hX]
  simp only[F_laws_markRelation,laws_markRelation_e]
  rw[m_markSchema hX (by omega) _ _ ha.1 hk (by omega),bindD_some];dsimp only
  rw[m_markValueSS hX (by omega) _ _ ha.2.1.1 (fun x hx=>(ha.2.1.2 x hx).1) (by omega) (by omega),bindD_some]
  rfl
theorem m_heldRel {X:Ext} (hX:XOk X) {n:Nat} (hn:W+4≤n) (a:Rel) (k:Int) (ha:Fit maxLen RelT a) (hk:0≤k) (h:k+cnt RelT a≤maxLen) :
    C_laws_heldRelation (DD X n) (mkT RelT k a).2 k=some (((mkT RelT k a).1,()),()):=by
  obtain ⟨n,rfl⟩:∃ k,n=k+1:=⟨n - 1,by omega⟩
  have hc:cnt RelT a=cnt SchemaT a.1+(cnt (.sl (Ty.sl ValueT)) a.2.1+0):=rfl
  have h1:=mkT_cnt SchemaT k a.1
  have h2:=mkT_cnt (.sl (Ty.sl ValueT)) (mkT SchemaT k a.1).1 a.2.1
  rw[S_laws_heldRelation hX]
  simp only[F_laws_heldRelation,laws_heldRelation_e]
  have e1:=m_heldSchema hX (n:=n) (by omega) a.1 k ha.1 hk (by omega)
  have e2:=m_heldValueSS hX (n:=n) (by omega) a.2.1 (mkT SchemaT k a.1).1 ha.2.1.1 (fun x hx=>(ha.2.1.2 x hx).1) (by omega) (by omega)
  show bindD (C_laws_heldSchema (DD X n) (mkT SchemaT k a.1).2 k) _=_
  rw[e1,bindD_some];dsimp only
  rw[br_neg (by omega)]
  show bindD (C_laws_heldValueSS (DD X n) (mkT (.sl (Ty.sl ValueT)) (mkT SchemaT k a.1).1 a.2.1).2 (mkT SchemaT k a.1).1) _=_
  rw[e2,bindD_some];dsimp only
  rw[br_neg (by omega)]
  rfl
structure RelSm (r:Rel):Prop where
  sch:SchSm r.1
  rows:r.2.1.length≤M
  row:∀ x∈r.2.1,x.length≤M
theorem relSm_of {r:Rel} (h:tot RelT r≤M):RelSm r:=by
  rw[tot_rel] at h
  have h1:=tot_sl (t:=(Ty.sl ValueT)) r.2.1
  refine ⟨schSm_of (by omega),by omega,fun x hx=>?_⟩
  have:=tot_mem (t:=(Ty.sl ValueT)) hx
  have h2:=tot_sl (t:=ValueT) x
  have:x.length≤tot (Ty.sl ValueT) x:=by show x.length≤tot (.sl ValueT) x;omega
  omega
end Go.G

namespace Go.G
set_option maxRecDepth 100000
open Go Go.V Go.Proofs
theorem rowOk_vals {s:Schema} {row:Row} (h:rowOk s row=true):∀ v∈row,valueOk v=true:=by
  intro v hv
  obtain ⟨i,hi,rfl⟩:=List.mem_iff_getElem.1 hv
  simp only[rowOk,Bool.and_eq_true,Bool.not_eq_true',decide_eq_true_eq] at h
  have k:=anyFrom_false.1 h.2.2 i (by omega) (by omega)
  simp only[rowBad,Bool.or_eq_false_iff,Bool.not_eq_false'] at k
  rw[←getD_lt (d:=vd) hi];exact k.1
def relBad (s:Schema) (rows:List Row) (i:Nat):Bool:=
  !rowOk s (rows.getD i [])||((decide (0<i)&&!tlt (project (rows.getD (i - 1) []) s.2.1) (project (rows.getD i []) s.2.1))||anyFrom (fun k=>clash s (rows.getD i []) (rows.getD k [])) 0 i)
def relOk (r:Rel):Bool:=!anyFrom (relBad r.1 r.2.1) 0 r.2.1.length&&(schemaOk r.1&&decide ((r.2.1.length:Int)≤12))
theorem clo_rel (D:Den ctx) (r:Rel) (row x:Row):applyClo ctx D (Clo.mk 80 [CapV.rptr (Ty.pair
                    (Ty.pair (Ty.sl (Ty.pair Ty.str (Ty.pair (Ty.int IntKind.i64) (Ty.pair Ty.bool Ty.unit))))
                      (Ty.pair (Ty.sl (Ty.int IntKind.i64))
                        (Ty.pair (Ty.sl (Ty.pair Ty.str (Ty.pair (Ty.sl (Ty.int IntKind.i64)) (Ty.pair Ty.bool Ty.unit)))) Ty.unit)))
                    (Ty.pair (Ty.sl (Ty.sl (Ty.pair (Ty.int IntKind.i64) (Ty.pair (Ty.int IntKind.i64) (Ty.pair Ty.str Ty.unit))))) Ty.unit)) r,CapV.rptr (Ty.sl (Ty.pair (Ty.int IntKind.i64) (Ty.pair (Ty.int IntKind.i64) (Ty.pair Ty.str Ty.unit)))) row]) [CapV.val (Ty.sl (Ty.pair (Ty.int IntKind.i64) (Ty.pair (Ty.int IntKind.i64) (Ty.pair Ty.str Ty.unit)))) x] Ty.bool=(C_impl_RelOk_1 D x r row).bind fun q=>some q.1.1:=by kernel_rfl
theorem getD_take {α:Type} {l:List α} {i j:Nat} {d:α} (h:j<i):(l.take i).getD j d=l.getD j d:=by
  simp only[List.getD,List.getElem?_take]
  rw[if_pos h]
theorem c_someClash {X:Ext} (hX:XOk X) {n:Nat} (hn:W+9≤n) (r:Rel) (hr:RelSm r) (i:Nat) (hi:i<r.2.1.length) (hv:∀ v∈r.2.1.getD i [],valueOk v=true) :
    C_slices_ContainsFunc_impl_Value_impl_Value (DD X n) (List.drop (Int.toNat 0) (List.take i r.2.1)) (Clo.mk 80 [CapV.rptr (Ty.pair
                    (Ty.pair (Ty.sl (Ty.pair Ty.str (Ty.pair (Ty.int IntKind.i64) (Ty.pair Ty.bool Ty.unit))))
                      (Ty.pair (Ty.sl (Ty.int IntKind.i64))
                        (Ty.pair (Ty.sl (Ty.pair Ty.str (Ty.pair (Ty.sl (Ty.int IntKind.i64)) (Ty.pair Ty.bool Ty.unit)))) Ty.unit)))
                    (Ty.pair (Ty.sl (Ty.sl (Ty.pair (Ty.int IntKind.i64) (Ty.pair (Ty.int IntKind.i64) (Ty.pair Ty.str Ty.unit))))) Ty.unit)) r,CapV.rptr (Ty.sl (Ty.pair (Ty.int IntKind.i64) (Ty.pair (Ty.int IntKind.i64) (Ty.pair Ty.str Ty.unit)))) (r.2.1.getD i [])])
      = some ((anyFrom (fun k=>clash r.1 (r.2.1.getD i []) (r.2.1.getD k [])) 0 i,()),()):=by
  have hM:=M_def
  have hd:=maxLen_def
  have h2:=hr.rows
  have hl:(List.drop (Int.toNat 0) (List.take i r.2.1)).length=i:=by
    show (List.take i r.2.1).length=i
    rw[List.length_take];omega
  have e:=c_someRow hX (n:=n) (by omega) (List.drop (Int.toNat 0) (List.take i r.2.1)) (by rw[hl];omega) (Clo.mk 80 [CapV.rptr (Ty.pair
                    (Ty.pair (Ty.sl (Ty.pair Ty.str (Ty.pair (Ty.int IntKind.i64) (Ty.pair Ty.bool Ty.unit))))
                      (Ty.pair (Ty.sl (Ty.int IntKind.i64))
                        (Ty.pair (Ty.sl (Ty.pair Ty.str (Ty.pair (Ty.sl (Ty.int IntKind.i64)) (Ty.pair Ty.bool Ty.unit)))) Ty.unit)))
                    (Ty.pair (Ty.sl (Ty.sl (Ty.pair (Ty.int IntKind.i64) (Ty.pair (Ty.int IntKind.i64) (Ty.pair Ty.str Ty.unit))))) Ty.unit)) r,CapV.rptr (Ty.sl (Ty.pair (Ty.int IntKind.i64) (Ty.pair (Ty.int IntKind.i64) (Ty.pair Ty.str Ty.unit)))) (r.2.1.getD i [])])
    (fun k=>clash r.1 (r.2.1.getD i []) (r.2.1.getD k [])) (fun k hk=>by
      rw[hl] at hk
      obtain ⟨n,rfl⟩:∃ k,n=k+3:=⟨n - 3,by omega⟩
      rw[clo_rel,show n+3 - 2=n+1 from rfl,S_impl_RelOk_1 hX]
      simp only[F_impl_RelOk_1,impl_RelOk_1_e]
      have hg:(List.drop (Int.toNat 0) (List.take i r.2.1)).getD k []=r.2.1.getD k []:=getD_take hk
      rw[hg,c_implClash hX (by omega) r.1 hr.sch _ _ (hr.row _ (getD_mem hi)) (hr.row _ (getD_mem (by omega))) hv,bindD_some]
      rfl)
  rw[hl] at e
  exact e
theorem c_implRelOk {X:Ext} (hX:XC X) {n:Nat} (hn:W+10≤n) (r:Rel) (hr:RelSm r):C_impl_RelOk (DD X n) r=some ((relOk r,()),()):=by
  obtain ⟨n,rfl⟩:∃ k,n=k+1:=⟨n - 1,by omega⟩
  have hW:=W_def
  have hM:=M_def
  have h2:=hr.rows
  have hk:=hr.sch.key
  rw[S_impl_RelOk hX.ok]
  simp only[F_impl_RelOk,impl_RelOk_e,impl_RelOk_LP0]
  refine Eq.trans (scan0 (L:=fun m i=>impl_RelOk_L0 (DD X n) n _ _ m r.2.1 r.2.1.length (i:Int) r) (N:=r.2.1.length) (P:=relBad r.1 r.2.1)
    (A:=some ((false,()),())) (B:=some ((schemaOk r.1&&decide ((r.2.1.length:Int)≤12),()),())) (fun m i hi=>?_) (m:=n) (by omega)) ?_
  · simp only[impl_RelOk_L0,impl_RelOk_b0]
    by_cases h:i<r.2.1.length
    · have hc1:(decide ((0:Nat)≤0)&&decide ((0:Int)≤(i:Int))&&decide ((i:Int)≤(r.2.1.length:Int)))=true:=by
        rw[decide_eq_true (by omega),decide_eq_true (by omega),decide_eq_true (by omega)];rfl
      have hri:=hr.row _ (getD_mem (d:=[]) h)
      rw[br_pos (by exact_mod_cast h),ix h,br_t,Int.toNat_natCast,c_implRowOk hX.ok (n:=n) (by omega) r.1 hr.sch _ hri,bindD_some,wrap_succ (by omega),if_pos h,hc1]
      dsimp only
      unfold relBad
      cases hok:rowOk r.1 (r.2.1.getD i [])
      · rfl
      · have ec:=c_someClash hX.ok (n:=n) (by omega) r hr i h (rowOk_vals hok)
        rw[Bool.not_true,br_f,br_t,ec,bindD_some,Bool.false_or]
        dsimp only
        by_cases h0:0<i
        · have w1:IntKind.wrap IntKind.i64 ((i:Int) - 1)=((i - 1:Nat):Int):=by rw[wrap_id (by omega) (by omega)];omega
          have hrj:=hr.row _ (getD_mem (d:=[]) (show i - 1<r.2.1.length by omega))
          have l1:=project_len (r.2.1.getD (i - 1) []) r.1.2.1
          rw[br_pos (by omega),w1,ix (i:=i - 1) (by omega),br_t,Int.toNat_natCast,c_implKeyOfRow hX.ok (by omega) r.1 _ hrj hk,bindD_some]
          dsimp only
          rw[c_implKeyOfRow hX.ok (by omega) r.1 _ hri hk,bindD_some]
          dsimp only
          rw[c_implTupleLess hX (by omega) _ _ (by omega),bindD_some,decide_eq_true h0]
          dsimp only
          cases tlt (project (r.2.1.getD (i - 1) []) r.1.2.1) (project (r.2.1.getD i []) r.1.2.1)<;>rfl
        · rw[br_neg (by omega),decide_eq_false h0];rfl
    · rw[br_neg (by exact_mod_cast h),if_neg h]
      simp only[impl_RelOk_x0_1]
      rw[c_implSchemaOk hX.ok (by omega) r.1 hr.sch,bindD_some,cond_and]
  · unfold relOk
    cases anyFrom (relBad r.1 r.2.1) 0 r.2.1.length<;>rfl
theorem c_specRelOk {X:Ext} (hX:XOk X) {n:Nat} (hn:W+8≤n) (r:Rel) (hr:RelSm r):C_spec_RelOk (DD X n) r=some ((relOk r,()),()):=by
  obtain ⟨n,rfl⟩:∃ k,n=k+1:=⟨n - 1,by omega⟩
  have hW:=W_def
  have hM:=M_def
  have h2:=hr.rows
  have hk:=hr.sch.key
  rw[S_spec_RelOk hX]
  simp only[F_spec_RelOk,spec_RelOk_e,spec_RelOk_LP0]
  refine Eq.trans (scan0 (L:=fun m i=>spec_RelOk_L0 (DD X n) n _ _ m (i:Int) r) (N:=r.2.1.length) (P:=relBad r.1 r.2.1)
    (A:=some ((false,()),())) (B:=some ((schemaOk r.1&&decide ((r.2.1.length:Int)≤12),()),())) (fun m i hi=>?_) (m:=n) (by omega)) ?_
  · simp only[spec_RelOk_L0,spec_RelOk_b0,spec_RelOk_LP1]
    by_cases h:i<r.2.1.length
    · have hri:=hr.row _ (getD_mem (d:=[]) h)
      have el:=scan0 (L:=fun q k=>spec_RelOk_L1 (DD X n) n (fun v0_0 v0_1 v0_2=>spec_RelOk_x1_0 (DD X n) n (spec_RelOk_L0 (DD X n) n (fun v0_0 v0_1=>spec_RelOk_x0_0 (DD X n) n v0_0 v0_1) (fun v1_0=>spec_RelOk_x0_1 (DD X n) n v1_0) m) (fun v0_0 v0_1=>spec_RelOk_x0_0 (DD X n) n v0_0 v0_1) (fun v1_0=>spec_RelOk_x0_1 (DD X n) n v1_0) v0_0 v0_1 v0_2)
            (fun v1_0 v1_1=>spec_RelOk_x1_1 (DD X n) n (spec_RelOk_L0 (DD X n) n (fun v0_0 v0_1=>spec_RelOk_x0_0 (DD X n) n v0_0 v0_1) (fun v1_0=>spec_RelOk_x0_1 (DD X n) n v1_0) m) (fun v0_0 v0_1=>spec_RelOk_x0_0 (DD X n) n v0_0 v0_1) (fun v1_0=>spec_RelOk_x0_1 (DD X n) n v1_0) v1_0 v1_1) q (i:Int) (k:Int) r)
          (N:=i) (P:=fun k=>clash r.1 (r.2.1.getD i []) (r.2.1.getD k []))
          (A:=some ((false,()),())) (B:=spec_RelOk_L0 (DD X n) n (fun v0_0 v0_1=>spec_RelOk_x0_0 (DD X n) n v0_0 v0_1) (fun v1_0=>spec_RelOk_x0_1 (DD X n) n v1_0) m ((i+1:Nat):Int) r) (fun q k hk2=>by
        simp only[spec_RelOk_L1,spec_RelOk_b1]
        by_cases h3:k<i
        · rw[br_pos (by exact_mod_cast h3),ix (i:=k) (by omega),br_t,ix h,br_t,Int.toNat_natCast,Int.toNat_natCast,c_specClash hX (by omega) r.1 hr.sch _ _ (hr.row _ (getD_mem (by omega))) hri,bindD_some,wrap_succ (by omega),if_pos h3,clash_symm]
          rfl
        · rw[br_neg (by exact_mod_cast h3),if_neg h3]
          simp only[spec_RelOk_x1_1]
          rw[wrap_succ (by omega)]) (m:=n) (by omega)
      simp only[Int.natCast_zero] at el
      rw[br_pos (by exact_mod_cast h),ix h,br_t,Int.toNat_natCast,c_specRowOk hX (n:=n) (by omega) r.1 hr.sch _ hri,bindD_some,if_pos h]
      dsimp only
      unfold relBad
      cases hok:rowOk r.1 (r.2.1.getD i [])
      · rfl
      · rw[Bool.not_true,br_f,Bool.false_or]
        by_cases h0:0<i
        · have w1:IntKind.wrap IntKind.i64 ((i:Int) - 1)=((i - 1:Nat):Int):=by rw[wrap_id (by omega) (by omega)];omega
          have hrj:=hr.row _ (getD_mem (d:=[]) (show i - 1<r.2.1.length by omega))
          have l1:=project_len (r.2.1.getD (i - 1) []) r.1.2.1
          rw[br_pos (by omega),w1,ix (i:=i - 1) (by omega),br_t,Int.toNat_natCast,c_specKeyOfRow hX (by omega) r.1 _ hrj hk,bindD_some]
          dsimp only
          rw[br_t,c_specKeyOfRow hX (by omega) r.1 _ hri hk,bindD_some]
          dsimp only
          rw[c_specTupleLess hX (by omega) _ _ (by omega),bindD_some,decide_eq_true h0]
          dsimp only
          cases tlt (project (r.2.1.getD (i - 1) []) r.1.2.1) (project (r.2.1.getD i []) r.1.2.1)
          · rfl
          · exact el
        · rw[br_neg (by omega),decide_eq_false h0];exact el
    · rw[br_neg (by exact_mod_cast h),if_neg h]
      simp only[spec_RelOk_x0_1]
      rw[c_specSchemaOk hX (by omega) r.1 hr.sch,bindD_some,cond_and]
  · unfold relOk
    cases anyFrom (relBad r.1 r.2.1) 0 r.2.1.length<;>rfl
def keyIs (r:Rel) (key:Row) (i:Nat):Bool:=decide (project (r.2.1.getD i []) r.1.2.1=key)
def keyAt (r:Rel) (key:Row):Option Nat:=firstFrom (keyIs r key) 0 r.2.1.length
theorem keyAt_lt {r:Rel} {key:Row} {j:Nat} (h:keyAt r key=some j):j<r.2.1.length:=by
  have:=firstFrom_some h;omega
theorem clo_keyIs (D:Den ctx) (r:Rel) (key x:Row):applyClo ctx D (Clo.mk 153 [CapV.rptr (Ty.pair
                    (Ty.pair (Ty.sl (Ty.pair Ty.str (Ty.pair (Ty.int IntKind.i64) (Ty.pair Ty.bool Ty.unit))))
                      (Ty.pair (Ty.sl (Ty.int IntKind.i64))
                        (Ty.pair (Ty.sl (Ty.pair Ty.str (Ty.pair (Ty.sl (Ty.int IntKind.i64)) (Ty.pair Ty.bool Ty.unit)))) Ty.unit)))
                    (Ty.pair (Ty.sl (Ty.sl (Ty.pair (Ty.int IntKind.i64) (Ty.pair (Ty.int IntKind.i64) (Ty.pair Ty.str Ty.unit))))) Ty.unit)) r,CapV.rptr (Ty.sl (Ty.pair (Ty.int IntKind.i64) (Ty.pair (Ty.int IntKind.i64) (Ty.pair Ty.str Ty.unit)))) key]) [CapV.val (Ty.sl (Ty.pair (Ty.int IntKind.i64) (Ty.pair (Ty.int IntKind.i64) (Ty.pair Ty.str Ty.unit)))) x] Ty.bool=(C_impl_keyAt_1 D x r key).bind fun q=>some q.1.1:=by kernel_rfl
theorem c_keyAt {X:Ext} (hX:XOk X) {n:Nat} (hn:W+6≤n) (r:Rel) (hr:RelSm r) (key:Row):C_impl_keyAt (DD X n) r key=some ((match keyAt r key with | some j=>(j:Int) | none=>-1,()),()):=by
  obtain ⟨n,rfl⟩:∃ k,n=k+1:=⟨n - 1,by omega⟩
  have hM:=M_def
  have hd:=maxLen_def
  have h2:=hr.rows
  have hk:=hr.sch.key
  rw[S_impl_keyAt hX]
  simp only[F_impl_keyAt,impl_keyAt_e]
  rw[c_idxRow hX (n:=n) (by omega) _ (by omega) _ (keyIs r key) (fun i hi=>by
    obtain ⟨n,rfl⟩:∃ k,n=k+2:=⟨n - 2,by omega⟩
    rw[clo_keyIs,show n+2 - 1=n+1 from rfl,S_impl_keyAt_1 hX]
    simp only[F_impl_keyAt_1,impl_keyAt_1_e]
    have l1:=project_len (r.2.1.getD i []) r.1.2.1
    rw[c_implKeyOfRow hX (by omega) r.1 _ (hr.row _ (getD_mem hi)) hk,bindD_some]
    dsimp only
    rw[c_equal hX (by omega) _ _ (by omega),bindD_some]
    rfl),bindD_some]
  rfl
theorem c_l21At {X:Ext} (hX:XOk X) {n:Nat} (hn:W+6≤n) (r:Rel) (hr:RelSm r) (key:Row):C_spec_l21At (DD X n) r key=some ((match keyAt r key with | some j=>(j:Int) | none=>-1,()),()):=by
  obtain ⟨n,rfl⟩:∃ k,n=k+1:=⟨n - 1,by omega⟩
  have hM:=M_def
  have hW:=W_def
  have h2:=hr.rows
  have hk:=hr.sch.key
  rw[S_spec_l21At hX]
  simp only[F_spec_l21At,spec_l21At_e,spec_l21At_LP0]
  refine Eq.trans (scanF0 (L:=fun m i=>spec_l21At_L0 (DD X n) n _ _ m key (i:Int) r) (N:=r.2.1.length) (P:=keyIs r key)
    (A:=fun j=>some (((j:Int),()),())) (B:=some ((-1,()),())) (fun m i hi=>?_) (m:=n) (by omega)) ?_
  · simp only[spec_l21At_L0,spec_l21At_b0]
    by_cases h:i<r.2.1.length
    · have l1:=project_len (r.2.1.getD i []) r.1.2.1
      rw[br_pos (by exact_mod_cast h),ix h,br_t,Int.toNat_natCast,c_specKeyOfRow hX (by omega) r.1 _ (hr.row _ (getD_mem h)) hk,bindD_some]
      dsimp only
      rw[c_l18Same hX (by omega) _ _ (by omega),bindD_some,wrap_succ (by omega),if_pos h]
      rfl
    · rw[br_neg (by exact_mod_cast h),if_neg h];rfl
  · unfold keyAt
    cases firstFrom (keyIs r key) 0 r.2.1.length<;>rfl
theorem c_cloneRow {X:Ext} (hX:XOk X) {n:Nat} (hn:1≤n) (a:Row) (ha:a.length≤bound):C_slices_Clone_impl_Value_impl_Value (DD X n) a=some ((a,()),()):=by
  obtain ⟨n,rfl⟩:∃ k,n=k+1:=⟨n - 1,by omega⟩
  rw[S_slices_Clone_impl_Value_impl_Value hX]
  simp only[F_slices_Clone_impl_Value_impl_Value,slices_Clone_impl_Value_impl_Value_e]
  have hc:decide (0+a.length≤bound)=true:=decide_eq_true (by omega)
  rw[hc,br_t,List.nil_append]
  cases a with
  | nil=>simp[br_ite,both]
  | cons x a=>rw[br_neg (by simp)]
def lookup (r:Rel) (key:Row):Row×Bool:=match keyAt r key with | some j=>if relOk r=true then (r.2.1.getD j [],true) else ([],false) | none=>([],false)
end Go.G

namespace Go.G
set_option maxRecDepth 100000
open Go Go.V Go.Proofs
theorem c_cloneInts {X:Ext} (hX:XOk X) {n:Nat} (hn:1≤n) (a:List Int) (ha:a.length≤bound):C_slices_Clone_int_int (DD X n) a=some ((a,()),()):=by
  obtain ⟨n,rfl⟩:∃ k,n=k+1:=⟨n - 1,by omega⟩
  rw[S_slices_Clone_int_int hX]
  simp only[F_slices_Clone_int_int,slices_Clone_int_int_e]
  have hc:decide (0+a.length≤bound)=true:=decide_eq_true (by omega)
  rw[hc,br_t,List.nil_append]
  cases a with
  | nil=>simp[br_ite,both]
  | cons x a=>rw[br_neg (by simp)]
theorem c_cloneCols {X:Ext} (hX:XOk X) {n:Nat} (hn:1≤n) (a:List Col) (ha:a.length≤bound):C_slices_Clone_impl_Col_impl_Col (DD X n) a=some ((a,()),()):=by
  obtain ⟨n,rfl⟩:∃ k,n=k+1:=⟨n - 1,by omega⟩
  rw[S_slices_Clone_impl_Col_impl_Col hX]
  simp only[F_slices_Clone_impl_Col_impl_Col,slices_Clone_impl_Col_impl_Col_e]
  have hc:decide (0+a.length≤bound)=true:=decide_eq_true (by omega)
  rw[hc,br_t,List.nil_append]
  cases a with
  | nil=>simp[br_ite,both]
  | cons x a=>rw[br_neg (by simp)]
theorem copy_L {X:Ext} (hX:XOk X) (N n:Nat) (hN:1≤N) (K:Schema→Schema→Option ((Schema×Unit)×Unit)) (xs:List Index) (hx:xs.length≤M) (hc:∀ x∈xs,x.2.1.length≤M) (z:Schema) (c:List Col) (k:List Int):∀ (m i:Nat) (acc:List Index),i≤xs.length→xs.length - i<m→acc.length≤i→
    impl_copySchema_L0 (DD X N) n K m xs xs.length (i:Int) z (c,k,acc,())=K z (c,k,acc++xs.drop i,())
  | 0,_,_,_,h,_=>by omega
  | m+1,i,acc,hi,hf,ha=>by
    have hM:=M_def
    have hb:=bound_def
    simp only[impl_copySchema_L0,impl_copySchema_b0]
    by_cases h:i<xs.length
    · rw[br_pos (by exact_mod_cast h),ix h,br_t,Int.toNat_natCast,wrap_succ (by omega),drop_cons h,getD_lt h]
      have:=hc _ (List.getElem_mem h)
      rw[c_cloneInts hX hN _ (by omega),bindD_some,br_pos (by omega)]
      refine Eq.trans (copy_L hX N n hN K xs hx hc z c k m (i+1) _ (by omega) (by omega) (by simp;omega)) ?_
      rw[List.append_assoc];rfl
    · rw[br_neg (by exact_mod_cast h),drop_end h,List.append_nil]
theorem c_implCopySchema {X:Ext} (hX:XOk X) {n:Nat} (hn:W+3≤n) (s:Schema) (hs:SchSm s):C_impl_copySchema (DD X n) s=some ((s,()),()):=by
  obtain ⟨n,rfl⟩:∃ k,n=k+1:=⟨n - 1,by omega⟩
  have hM:=M_def
  have hb:=bound_def
  have hW:=W_def
  have h1:=hs.cols
  have h2:=hs.key
  have h3:=hs.ixs
  rw[S_impl_copySchema hX]
  simp only[F_impl_copySchema,impl_copySchema_e,impl_copySchema_LP0]
  rw[c_cloneCols hX (by omega) _ (by omega),bindD_some,c_cloneInts hX (by omega) _ (by omega),bindD_some]
  dsimp only
  refine Eq.trans (copy_L hX n n (by omega) _ s.2.2.1 h3 hs.ixc _ s.1 s.2.1 n 0 [] (by omega) (by omega) (by simp)) ?_
  rfl
theorem specCopy_L {X:Ext} (D:Den ctx) (n:Nat) (K:Schema→Schema→Option ((Schema×Unit)×Unit)) (s:Schema) (hx:s.2.2.1.length≤M) (hc:∀ x∈s.2.2.1,x.2.1.length≤M) (z:Schema) (c:List Col) (k:List Int):∀ (m i:Nat) (acc:List Index),i≤s.2.2.1.length→s.2.2.1.length - i<m→acc.length≤i→
    spec_l19Copy_L0 D n K m (i:Int) s z (c,k,acc,())=K z (c,k,acc++s.2.2.1.drop i,())
  | 0,_,_,_,h,_=>by omega
  | m+1,i,acc,hi,hf,ha=>by
    have hM:=M_def
    have hb:=bound_def
    simp only[spec_l19Copy_L0,spec_l19Copy_b0]
    by_cases h:i<s.2.2.1.length
    · have:=hc _ (List.getElem_mem h)
      rw[br_pos (by exact_mod_cast h),ix h,br_t,Int.toNat_natCast,wrap_succ (by omega),drop_cons h,getD_lt h,br_pos (by omega),br_pos (by omega)]
      refine Eq.trans (specCopy_L (X:=X) D n K s hx hc z c k m (i+1) _ (by omega) (by omega) (by simp;omega)) ?_
      rw[List.append_assoc];rfl
    · rw[br_neg (by exact_mod_cast h),drop_end h,List.append_nil]
theorem c_specCopySchema {X:Ext} (hX:XOk X) {n:Nat} (hn:W+3≤n) (s:Schema) (hs:SchSm s):C_spec_l19Copy (DD X n) s=some ((s,()),()):=by
  obtain ⟨n,rfl⟩:∃ k,n=k+1:=⟨n - 1,by omega⟩
  have hM:=M_def
  have hb:=bound_def
  have hW:=W_def
  have h1:=hs.cols
  have h2:=hs.key
  have h3:=hs.ixs
  rw[S_spec_l19Copy hX]
  simp only[F_spec_l19Copy,spec_l19Copy_e,spec_l19Copy_LP0]
  rw[br_pos (by omega),br_pos (by omega)]
  refine Eq.trans (specCopy_L (X:=X) (DD X n) n _ s h3 hs.ixc _ ([]++s.1) ([]++s.2.1) n 0 [] (by omega) (by omega) (by simp)) ?_
  rfl
end Go.G

namespace Go.G
set_option maxRecDepth 100000
open Go Go.V Go.Proofs
theorem rows_L (D:Den ctx) (n:Nat) (K:List Row→Option ((List Row×Unit)×Unit)) (a:List Row) (ha:a.length≤M) (hr:∀ x∈a,x.length≤M):∀ (m i:Nat) (acc:List Row),i≤a.length→a.length - i<m→acc.length≤i→
    spec_l21Rows_L0 D n K m a (i:Int) acc=K (acc++a.drop i)
  | 0,_,_,_,h,_=>by omega
  | m+1,i,acc,hi,hf,hl=>by
    have hM:=M_def
    have hb:=bound_def
    simp only[spec_l21Rows_L0,spec_l21Rows_b0]
    by_cases h:i<a.length
    · have:=hr _ (List.getElem_mem h)
      rw[br_pos (by exact_mod_cast h),ix h,br_t,Int.toNat_natCast,getD_lt h,br_pos (by omega),br_pos (by omega),wrap_succ (by omega),drop_cons h]
      refine Eq.trans (rows_L D n K a ha hr m (i+1) _ (by omega) (by omega) (by simp;omega)) ?_
      rw[List.append_assoc];rfl
    · rw[br_neg (by exact_mod_cast h),drop_end h,List.append_nil]
theorem c_l21Rows {X:Ext} (hX:XOk X) {n:Nat} (hn:W+1≤n) (a:List Row) (ha:a.length≤M) (hr:∀ x∈a,x.length≤M):C_spec_l21Rows (DD X n) a=some ((a,()),()):=by
  obtain ⟨n,rfl⟩:∃ k,n=k+1:=⟨n - 1,by omega⟩
  have hM:=M_def
  have hW:=W_def
  rw[S_spec_l21Rows hX]
  simp only[F_spec_l21Rows,spec_l21Rows_e,spec_l21Rows_LP0]
  refine Eq.trans (rows_L (DD X n) n _ a ha hr n 0 [] (by omega) (by omega) (by simp)) ?_
  rfl
theorem tuples_L {X:Ext} (hX:XOk X) (N n:Nat) (hN:1≤N) (K:List Row→Option ((List Row×Unit)×Unit)) (a:List Row) (ha:a.length≤M) (hr:∀ x∈a,x.length≤M):∀ (m i:Nat) (acc:List Row),i≤a.length→a.length - i<m→acc.length≤i→
    impl_copyTuples_L0 (DD X N) n K m a (a.length:Int) (i:Int) acc=K (acc++a.drop i)
  | 0,_,_,_,h,_=>by omega
  | m+1,i,acc,hi,hf,hl=>by
    have hM:=M_def
    have hb:=bound_def
    simp only[impl_copyTuples_L0,impl_copyTuples_b0]
    by_cases h:i<a.length
    · have:=hr _ (List.getElem_mem h)
      rw[br_pos (by exact_mod_cast h),ix h,br_t,Int.toNat_natCast,getD_lt h,c_cloneRow hX hN _ (by omega),bindD_some,br_pos (by omega),wrap_succ (by omega),drop_cons h]
      refine Eq.trans (tuples_L hX N n hN K a ha hr m (i+1) _ (by omega) (by omega) (by simp;omega)) ?_
      rw[List.append_assoc];rfl
    · rw[br_neg (by exact_mod_cast h),drop_end h,List.append_nil]
theorem c_copyTuples {X:Ext} (hX:XOk X) {n:Nat} (hn:W+2≤n) (a:List Row) (ha:a.length≤M) (hr:∀ x∈a,x.length≤M):C_impl_copyTuples (DD X n) a=some ((a,()),()):=by
  obtain ⟨n,rfl⟩:∃ k,n=k+1:=⟨n - 1,by omega⟩
  have hM:=M_def
  have hW:=W_def
  rw[S_impl_copyTuples hX]
  simp only[F_impl_copyTuples,impl_copyTuples_e,impl_copyTuples_LP0]
  refine Eq.trans (tuples_L hX n n (by omega) _ a ha hr n 0 [] (by omega) (by omega) (by simp)) ?_
  rfl
theorem c_l21Copy {X:Ext} (hX:XOk X) {n:Nat} (hn:W+4≤n) (r:Rel) (hr:RelSm r):C_spec_l21Copy (DD X n) r=some ((r,()),()):=by
  obtain ⟨n,rfl⟩:∃ k,n=k+1:=⟨n - 1,by omega⟩
  rw[S_spec_l21Copy hX]
  simp only[F_spec_l21Copy,spec_l21Copy_e]
  rw[c_specCopySchema hX (by omega) _ hr.sch,bindD_some,c_l21Rows hX (by omega) _ hr.rows hr.row,bindD_some]
theorem c_copyRelation {X:Ext} (hX:XOk X) {n:Nat} (hn:W+4≤n) (r:Rel) (hr:RelSm r):C_impl_copyRelation (DD X n) r=some ((r,()),()):=by
  obtain ⟨n,rfl⟩:∃ k,n=k+1:=⟨n - 1,by omega⟩
  rw[S_impl_copyRelation hX]
  simp only[F_impl_copyRelation,impl_copyRelation_e]
  rw[c_implCopySchema hX (by omega) _ hr.sch,bindD_some,c_copyTuples hX (by omega) _ hr.rows hr.row,bindD_some]
def others (r:Rel) (row:Row) (j:Int):Bool:=anyFrom (fun k=>!decide ((k:Int)=j)&&clash r.1 (r.2.1.getD k []) row) 0 r.2.1.length
theorem c_l21Others {X:Ext} (hX:XOk X) {n:Nat} (hn:W+4≤n) (r:Rel) (hr:RelSm r) (row:Row) (hw:row.length≤M) (j:Int):C_spec_l21Others (DD X n) r row j=some ((others r row j,()),()):=by
  obtain ⟨n,rfl⟩:∃ k,n=k+1:=⟨n - 1,by omega⟩
  have hM:=M_def
  have hW:=W_def
  have h2:=hr.rows
  rw[S_spec_l21Others hX]
  simp only[F_spec_l21Others,spec_l21Others_e,spec_l21Others_LP0]
  refine Eq.trans (scan0 (L:=fun m i=>spec_l21Others_L0 (DD X n) n _ _ m row j (i:Int) r) (N:=r.2.1.length) (P:=fun k=>!decide ((k:Int)=j)&&clash r.1 (r.2.1.getD k []) row)
    (A:=some ((true,()),())) (B:=some ((false,()),())) (fun m i hi=>?_) (m:=n) (by omega)) ?_
  · simp only[spec_l21Others_L0,spec_l21Others_b0]
    by_cases h:i<r.2.1.length
    · rw[br_pos (by exact_mod_cast h),ix h,br_t,Int.toNat_natCast,c_specClash hX (by omega) r.1 hr.sch _ _ (hr.row _ (getD_mem h)) hw,bindD_some,wrap_succ (by omega),if_pos h,bne_dec]
      cases decide ((i:Int)=j)<;>rfl
    · rw[br_neg (by exact_mod_cast h),if_neg h];rfl
  · unfold others
    cases anyFrom (fun k=>!decide ((k:Int)=j)&&clash r.1 (r.2.1.getD k []) row) 0 r.2.1.length<;>rfl
def replaceR (r:Rel) (row:Row):Rel×Int:=
  if relOk r=true∧rowOk r.1 row=true then
    match keyAt r (project row r.1.2.1) with
    | some j=>if others r row j=true then (r,3) else ((r.1,r.2.1.set j row,()),0)
    | none=>(r,4)
  else (r,1)
theorem c_specReplace {X:Ext} (hX:XOk X) {n:Nat} (hn:W+9≤n) (r:Rel) (hr:RelSm r) (row:Row) (hw:row.length≤M):C_spec_Replace (DD X n) r row=some (((replaceR r row).1,(replaceR r row).2,()),()):=by
  obtain ⟨n,rfl⟩:∃ k,n=k+1:=⟨n - 1,by omega⟩
  have hM:=M_def
  have hb:=bound_def
  rw[S_spec_Replace hX]
  simp only[F_spec_Replace,spec_Replace_e]
  rw[c_l21Copy hX (by omega) r hr,bindD_some,c_specRelOk hX (by omega) r hr,bindD_some,c_specRowOk hX (by omega) r.1 hr.sch row hw,bindD_some,c_specKeyOfRow hX (by omega) r.1 row hw hr.sch.key,bindD_some]
  dsimp only
  rw[c_l21At hX (by omega) r hr,bindD_some]
  dsimp only
  rw[c_l21Others hX (by omega) r hr row hw,bindD_some]
  unfold replaceR
  cases relOk r
  · rfl
  · cases rowOk r.1 row
    · rfl
    · cases hk:keyAt r (project row r.1.2.1) with
      | none=>rfl
      | some j=>
        have hj:=keyAt_lt hk
        dsimp only
        rw[br_neg (show ¬ (j:Int)<0 by omega),ix hj,br_t,br_pos (show 0+row.length≤bound by omega)]
        cases others r row j<;>rfl
theorem c_implReplace {X:Ext} (hX:XC X) {n:Nat} (hn:W+11≤n) (r:Rel) (hr:RelSm r) (row:Row) (hw:row.length≤M):C_impl_Replace (DD X n) r row=some (((replaceR r row).1,(replaceR r row).2,()),()):=by
  obtain ⟨n,rfl⟩:∃ k,n=k+1:=⟨n - 1,by omega⟩
  have hM:=M_def
  have hb:=bound_def
  have hW:=W_def
  have h2:=hr.rows
  rw[S_impl_Replace hX.ok]
  simp only[F_impl_Replace,impl_Replace_e,impl_Replace_LP0]
  have e1:=c_copyRelation hX.ok (n:=n) (by omega) r hr
  have e2:=c_implRelOk hX (n:=n) (by omega) r hr
  have e3:=c_implRowOk hX.ok (n:=n) (by omega) r.1 hr.sch row hw
  have e4:=c_implKeyOfRow hX.ok (n:=n) (by omega) r.1 row hw hr.sch.key
  have e5:=c_keyAt hX.ok (n:=n) (by omega) r hr (project row r.1.2.1)
  rw[e1,bindD_some]
  dsimp only
  refine Eq.trans (congrArg (fun z=>bindD z _) e2) ?_
  rw[bindD_some]
  dsimp only
  unfold replaceR
  cases relOk r
  · rfl
  · rw[Bool.not_true,br_f]
    refine Eq.trans (congrArg (fun z=>bindD z _) e3) ?_
    rw[bindD_some]
    dsimp only
    cases hrow:rowOk r.1 row
    · rfl
    · rw[Bool.not_true,br_f]
      refine Eq.trans (congrArg (fun z=>bindD z _) e4) ?_
      rw[bindD_some]
      dsimp only
      refine Eq.trans (congrArg (fun z=>bindD z _) e5) ?_
      rw[bindD_some]
      dsimp only
      cases hk:keyAt r (project row r.1.2.1) with
      | none=>rfl
      | some j=>
        have hj:=keyAt_lt hk
        dsimp only
        rw[br_neg (show ¬ (j:Int)<0 by omega),if_pos ⟨rfl,rfl⟩]
        refine Eq.trans (scan0 (L:=fun m i=>impl_Replace_L0 (DD X n) n _ _ m row (j:Int) (r.2.1.length:Int) (i:Int) r (([],[],[],()),[],())) (N:=r.2.1.length) (P:=fun k=>!decide ((k:Int)=(j:Int))&&clash r.1 (r.2.1.getD k []) row)
          (A:=some ((r,3,()),())) (B:=some (((r.1,r.2.1.set j row,()),0,()),())) (fun m i hi=>?_) (m:=n) (by omega)) ?_
        · simp only[impl_Replace_L0,impl_Replace_b0]
          by_cases h:i<r.2.1.length
          · have ec:=c_implClash hX.ok (n:=n) (by omega) r.1 hr.sch row (r.2.1.getD i []) hw (hr.row _ (getD_mem h)) (rowOk_vals hrow)
            rw[br_pos (by exact_mod_cast h),ix h,br_t,Int.toNat_natCast,wrap_succ (by omega),if_pos h,bne_dec]
            cases decide ((i:Int)=(j:Int))
            · rw[Bool.not_false,br_t]
              refine Eq.trans (congrArg (fun z=>bindD z _) ec) ?_
              rw[bindD_some,clash_symm]
              cases clash r.1 (r.2.1.getD i []) row<;>rfl
            · rfl
          · rw[br_neg (by exact_mod_cast h),if_neg h]
            simp only[impl_Replace_x0_1]
            rw[c_cloneRow hX.ok (by omega) row (by omega),bindD_some,ix hj,br_t]
            rfl
        · unfold others
          cases anyFrom (fun k=>!decide ((k:Int)=(j:Int))&&clash r.1 (r.2.1.getD k []) row) 0 r.2.1.length<;>rfl
end Go.G

/- The row FnExactReplace holds: for all arguments the law returns true and the arguments read as before. No condition. -/
namespace Go.G
set_option linter.unusedVariables false
set_option maxRecDepth 100000
open Go Go.V Go.Proofs

theorem sum_set (f:Row→Nat) (x:Row):∀ (xs:List Row) (j:Nat),((xs.set j x).map f).sum≤(xs.map f).sum+f x
  | [],_=>by simp
  | y::xs,0=>by simp only[List.set_cons_zero,List.map_cons,List.sum_cons];omega
  | y::xs,j+1=>by
    have:=sum_set f x xs j
    simp only[List.set_cons_succ,List.map_cons,List.sum_cons];omega
theorem replaceR_tot (r:Rel) (row:Row):tot RelT (replaceR r row).1≤tot RelT r+tot (.sl ValueT) row:=by
  unfold replaceR
  split
  · split
    · split
      · exact Nat.le_add_right _ _
      · rename_i j _ _
        have h:=sum_set (tot (.sl ValueT)) row r.2.1 j
        rw[tot_rel,tot_rel]
        have h1:=tot_sl (t:=.sl ValueT) r.2.1
        have h2:=tot_sl (t:=.sl ValueT) (r.2.1.set j row)
        simp only[List.length_set] at h2
        show tot SchemaT r.1+(tot (.sl (.sl ValueT)) (r.2.1.set j row)+0)≤_
        omega
    · exact Nat.le_add_right _ _
  · exact Nat.le_add_right _ _
theorem fnExactReplace_law (a:Rel) (b:Row) (wa:Wf RelT a) (wb:Wf (.sl ValueT) b):C_laws_FnExactReplace (DD cmpExt (W+13)) a b=some ((true,()),()):=by
  have hC:=cmpExt_ok
  have hX:=hC.ok
  have hd:=maxLen_def
  have hM:=M_def
  rw[S_laws_FnExactReplace hX]
  simp only[F_laws_FnExactReplace,laws_FnExactReplace_e]
  rw[c_szRel hX (by omega) a 1048576 wa (by omega),bindD_some];dsimp only
  by_cases h:left RelT a 1048576<0
  · rw[br_pos h]
  · rw[br_neg h]
    obtain ⟨h1,h2⟩:=left_nonneg h (by omega)
    rw[c_szValueS hX (by omega) b _ wb (by omega),bindD_some];dsimp only
    by_cases h3:left (.sl ValueT) b (left RelT a 1048576)<0
    · rw[br_pos h3]
    · rw[br_neg h3]
      obtain ⟨h4,h5⟩:=left_nonneg h3 (by omega)
      have ht:=tot_sl (t:=ValueT) b
      have hb:b.length≤M:=by omega
      have hs:=relSm_of (r:=a) (by omega)
      have hp:=replaceR_tot a b
      have hR:(tot RelT (replaceR a b).1:Int)≤1048576:=by omega
      have hc:=cnt_le RelT a
      have hc2:=cnt_le RelT (replaceR a b).1
      have hlf:leafs RelT=10:=rfl
      rw[hlf] at hc hc2
      have hc1:=mkT_cnt RelT 1 a
      have cb:=cnt_values b
      have e1:=c_toRel hX (n:=W+12) (by omega) a (fitB h2)
      have e2:=c_toValueS hX (n:=W+12) (by omega) b (fit_row (by have:=bound_def;omega))
      have e3:=c_specReplace hX (n:=W+12) (by omega) a hs b hb
      have e4:=c_implReplace hC (n:=W+12) (by omega) a hs b hb
      have e5:=c_eqRel hX (n:=W+12) (by omega) a a (fitM h2)
      have e6:=c_eqValueS hX (n:=W+12) (by omega) b b (fit_row (by omega))
      have e7:=c_eqRel hX (n:=W+12) (by omega) (replaceR a b).1 (replaceR a b).1 (fitM hR)
      have e8:=m_markRel hX (n:=W+12) (by omega) a 1 (fitM h2) (by omega) (by omega)
      have e9:=m_markValueS hX (n:=W+12) (by omega) b (mkT RelT 1 a).1 (by omega) (by omega) (by omega)
      have e10:=m_markRel hX (n:=W+12) (by omega) (replaceR a b).1 1 (fitM hR) (by omega) (by omega)
      have e11:=m_heldRel hX (n:=W+12) (by omega) (replaceR a b).1 1 (fitM hR) (by omega) (by omega)
      have p1:=decide_eq_false (mark_nn (t:=.sl ValueT) (k:=(mkT RelT 1 a).1) (by omega) b)
      have p2:=decide_eq_false (mark_nn (t:=RelT) (k:=1) (by omega) (replaceR a b).1)
      simp only[e1,e2,e3,e4,e5,e6,e7,e8,e9,e10,e11,p1,p2,bindD_some,decide_true,Bool.not_true,cond_false,br_f,bne_self_eq_false]
end Go.G
namespace Go.Proofs.YtfafjngknkbngaaGreat
open Go.ChangeShapes Go.WideShapes Go.ChangeAt Go.RowKit Go.V Go.G
set_option maxRecDepth 100000
theorem fnExactReplace_lifted (os:Os) (started:os.Started) (H:Type) (enc:TypeId×Value→H) :
    ReturnsInHanded {} Tryz.checked os 8 .any (Rows.fnExactReplaceSpec.pre6 enc Tryz.prog Tryz.f8 Rows.fnExactReplaceRow.domain false) (Rows.fnExactReplaceSpec.post enc Tryz.prog Tryz.f8 false true false false):=
  lifted_of (X:=cmpExt) (tb:=4) started Tryz.func8 (by kernel_rfl)
    (ChangeSpec.witness6 (enc:=enc) (C:=Tryz.checked) false ⟨#[],Tryz.f8.params.map fun t=>((Tryz.prog.info? t).bind (·.zero)).getD .nilIface,[]⟩ 8 (by kernel_rfl) (by kernel_rfl) (by kernel_rfl) (by kernel_rfl))
    ⟨rfl,rfl,rfl,rfl,trivial⟩ (by kernel_rfl) (by kernel_rfl) (by kernel_rfl) rfl
    (fun ds h=>by
      match ds,h with
      | [d0,d1],_=>exact ⟨rfl,rfl,rfl⟩)
    (fun a wa=>⟨W+13,((true,()),()),fnExactReplace_law a.1 a.2.1 wa.1 wa.2.1,fun h Pr Gs us k=>by
      obtain ⟨v,vs,rfl,⟨c,r,rfl⟩,e⟩:=k
      obtain rfl:vs=[]:=e
      simp only[Rep] at r
      subst r
      rfl⟩)
theorem fnExactReplace_holds:Rows.FnExactReplaceSaid:=
  OpenClaim.holds_of_wide 8 Tryz.f8 rfl rfl rfl rfl rfl rfl rfl ⟨rfl,rfl,rfl,rfl,rfl⟩ rfl rfl rfl rfl rfl (by kernel_rfl) Tryz.func8 (by kernel_rfl)
    (of_decide_eq_true (by kernel_rfl)) (by unfold Func.isWrapper;first | (rw[if_pos (by decide +kernel)];kernel_rfl) | (rw[if_neg (by decide +kernel)];exact ⟨rfl,rfl⟩))
    (fun os started H enc _=>fnExactReplace_lifted os started H enc)
#print axioms fnExactReplace_holds
end Go.Proofs.YtfafjngknkbngaaGreat


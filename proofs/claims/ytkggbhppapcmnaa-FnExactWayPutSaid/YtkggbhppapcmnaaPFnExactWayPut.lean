/- The row FnExactWayPut holds: for all arguments the law returns true and the arguments read as before. No condition. -/
import Derived.WalkKit
import Derived.Lib.Walk
import Derived.Lib.SliceRun
import Derived.Lib.JoinLaws
import Derived.Lib.AppendZeros
import Derived.Lib.Overlaps
import Derived.Laws.Externs
import Derived.Laws.IdiomCopy
import Derived.Lib.AppendZerosOnto
import Derived.Shelf.Spec.SlicesInsert
import Derived.Test.YtkggbhppapcmnaaAPFnExactWayPut0
set_option linter.unusedVariables false
set_option linter.unusedSimpArgs false
set_option linter.unusedSectionVars false
namespace Go.G
open Go Go.V
theorem br_t {R:Type} {a b:Option R}:br true a b=a:=rfl
theorem br_f {R:Type} {a b:Option R}:br false a b=b:=rfl
theorem qcr {R:Type} {a b:Option R} {p:Prop} [Decidable p] (h:p):br (decide p) a b=a:=by simp[br,h]
theorem qcw {R:Type} {a b:Option R} {p:Prop} [Decidable p] (h:¬ p):br (decide p) a b=b:=by simp[br,h]
theorem qbo {α R:Type} {a:α} {f:α→Option R}:qbf (some a) f=f a:=rfl
theorem qui {R:Type} {c:Bool} {a b:Option R}:br c a b=if c=true then a else b:=by cases c<;>rfl
theorem qut (x:Int):IntKind.wrap IntKind.i64 x=if x % 18446744073709551616≥9223372036854775808 then x % 18446744073709551616 - 18446744073709551616 else x % 18446744073709551616:=by
 by_cases h:x % 18446744073709551616≥9223372036854775808<;>simp[IntKind.wrap,IntKind.signed,IntKind.bits,h]
theorem qf2 {x:Int} (h1 : -9223372036854775808≤x) (h2:x≤9223372036854775807):IntKind.wrap IntKind.i64 x=x:=by
 rw[qut]
 split<;>omega
def W:Nat:=9223372036854775808
theorem qjc:W=9223372036854775808:=rfl
theorem qbe:maxLen=9223372036854775807:=rfl
theorem qg3:qbl=274877906944:=rfl
theorem ix {α:Type} {l:List α} {i:Nat} (h:i<l.length):(decide (0≤(i:Int))&&decide ((i:Int)<(l.length:Int)))=true:=by
 simp only[Bool.and_eq_true,decide_eq_true_eq];omega
theorem qfp {i:Nat} (h:i<9223372036854775807):IntKind.wrap IntKind.i64 ((i:Int)+1)=((i+1:Nat):Int):=by
 rw[qf2]<;>omega
theorem qjo {α:Type} {l:List α} {i:Nat} {d:α} (h:i<l.length):l.getD i d=l[i]:=by
 simp[List.getD,h]
theorem qgw {α:Type} {l:List α} {i:Nat} (h:i<l.length):l.drop i=l[i]::l.drop (i+1):=List.drop_eq_getElem_cons h
theorem qh3 {α:Type} {l:List α} {i:Nat} (h:¬ i<l.length):l.drop i=[]:=List.drop_eq_nil_of_le (by omega)
def tot:(t:Ty)→t.den→Nat
 | .unit,_=>0
 | .int _,_=>0
 | .bool,_=>0
 | .str,s=>s.size
 | .sl t,xs=>xs.length+(xs.map (tot t)).sum
 | .pair a b,x=>tot a x.1+tot b x.2
def left (t:Ty) (a:t.den) (k:Int):Int:=if (tot t a:Int)≤k then k - tot t a else -1
theorem ql4 {α:Type} {f:α→Nat} {l:List α} {i:Nat} (h:i<l.length):((l.drop i).map f).sum=f l[i]+((l.drop (i+1)).map f).sum:=by
 rw[qgw h,List.map_cons,List.sum_cons]
theorem qj5 {a b:ByteArray}:List.beq a.toList b.toList=decide (a=b):=by
 have h1:List.beq a.toList b.toList=decide (a.toList=b.toList):=by
  have:(a.toList == b.toList)=decide (a.toList=b.toList):=by
   by_cases h:a.toList=b.toList<;>simp[h]
  exact this
 rw[h1]
 by_cases h:a=b
 ·simp[h]
 ·have:a.toList≠b.toList:=fun e=>h (by
   have h2:a.data.toList=b.data.toList:=by
    have:=e
    simpa [ByteArray.toList_eq] using this
   cases a;cases b
   simp only[ByteArray.mk.injEq]
   exact Array.toList_inj.1 h2)
  simp[h,this]
end Go.G

namespace Go.G
open Go Go.V
theorem qrb {α:Type} {l:List α} {i:Nat} {x:α} (h:i<l.length):(l.set i x).take (i+1)=l.take i++[x]:=by
 rw[List.take_add_one,List.take_set_of_le (Nat.le_refl _)]
 simp[List.getElem?_set,h]
theorem qws {a:Nat} (h:a≤qbl):(decide (0≤(a:Int))&&decide ((a:Int)≤(a:Int))&&decide ((a:Int)≤((qbl:Nat):Int)))=true:=by
 simp only[Bool.and_eq_true,decide_eq_true_eq];omega
def qlr (x:Int):ByteArray:=ByteArray.mk (List.toArray (List.map (fun n↦UInt8.ofNat (Int.toNat n)) [IntKind.wrap IntKind.u8 (IntKind.wrap IntKind.i64 (48+Int.tmod x 10))]))
def qf8:Nat→Int→ByteArray→ByteArray
 | 0,_,s=>s
 | f+1,x,s=>if x>0 then qf8 f (Int.tdiv x 10) (ByteArray.append (qlr x) s) else s
def qld (k:Int):ByteArray:=if k≤0 then ByteArray.mk #[UInt8.ofNat 109,UInt8.ofNat 48] else ByteArray.append (ByteArray.mk #[UInt8.ofNat 109]) (qf8 19 k (ByteArray.mk #[]))
theorem qm5 (a b:ByteArray):(ByteArray.append a b).size=a.size+b.size:=ByteArray.size_append
theorem qkj (x:Int):(qlr x).size=1:=rfl
theorem qmg:∀ (f:Nat) (x:Int) (s:ByteArray),(qf8 f x s).size≤s.size+f
 | 0,_,s=>by simp[qf8]
 | f+1,x,s=>by
  simp only[qf8]
  split
  ·have:=qmg f (Int.tdiv x 10) (ByteArray.append (qlr x) s)
   rw[qm5,qkj] at this
   omega
  ·omega
theorem qoz (D:Den ctx) (n:Nat) (K:ByteArray→Option ((ByteArray×Unit)×Unit)):∀ (f m:Nat) (x:Int) (s:ByteArray),f<m→0≤x→x<10 ^ f→x≤maxLen→s.size+f≤2 ^ 47→qcf D n K m x s=K (qf8 f x s)
 | f,0,_,_,h,_,_,_,_=>by omega
 | 0,m+1,x,s,_,h0,hx,_,_=>by
  simp only[qcf,qe3,qf8]
  rw[qcw (by simp at hx;omega)]
 | f+1,m+1,x,s,hf,h0,hx,hm,hs=>by
  simp only[qcf,qe3,qf8]
  have hd:=qbe
  by_cases h:x>0
  ·rw[qcr h,if_pos h,qcr (by show (qlr x).size+s.size≤Nat.pow 2 47;rw[qkj];show 1+s.size≤2 ^ 47;omega)]
   have e:Int.tdiv x 10=x / 10:=Int.tdiv_eq_ediv_of_nonneg h0
   rw[qf2 (by rw[e];omega) (by rw[e];omega)]
   refine qoz D n K f m _ _ (by omega) (by rw[e];omega) ?_ (by rw[e];omega) ?_
   ·rw[e]
    have:(10:Int) ^ (f+1)=10 ^ f * 10:=Int.pow_succ ..
    omega
   ·show (ByteArray.append (qlr x) s).size+f≤2 ^ 47
    rw[qm5,qkj];omega
  ·rw[qcw h,if_neg h]
theorem qjf {X:Ext} (hX:XOk X) {n:Nat} (hn:W+1≤n) (k:Int) (hk:k≤maxLen):qdd (DD X n) k=some ((qld k,()),()):=by
 obtain ⟨n,rfl⟩:∃ k,n=k+1:=⟨n - 1,by omega⟩
 have hd:=qbe
 rw[qor hX]
 simp only[qhp,qhq,qgb,qld]
 by_cases h:k≤0
 ·rw[qcr h,if_pos h]
 ·rw[qcw h,if_neg h,qoz (DD X n) n _ 19 n k _ (by have:=qjc;omega) (by omega) (by omega) hk (by show 0+19≤2 ^ 47;decide)]
  simp only[qfq]
  have h1:=qmg 19 k (ByteArray.mk #[])
  have h2:(ByteArray.mk #[]).size=0:=rfl
  rw[qcr]
  show 1+(qf8 19 k (ByteArray.mk #[])).size≤2 ^ 47
  omega
end Go.G

namespace Go.G
open Go Go.V
def mkL {α:Type} (f:Int→α→Int×α):Int→List α→Int×List α
 | k,[]=>(k,[])
 | k,x::l=>((mkL f (f k x).1 l).1,(f k x).2::(mkL f (f k x).1 l).2)
def mkT:(t:Ty)→Int→t.den→Int×t.den
 | .unit,k,x=>(k,x)
 | .int _,k,_=>(k+1,k)
 | .bool,k,_=>(k+1,decide (Int.tmod k 3=0))
 | .str,k,_=>(k+1,qld k)
 | .sl t,k,xs=>mkL (mkT t) k xs
 | .pair a b,k,x=>((mkT b (mkT a k x.1).1 x.2).1,((mkT a k x.1).2,(mkT b (mkT a k x.1).1 x.2).2))
def cnt:(t:Ty)→t.den→Nat
 | .unit,_=>0
 | .int _,_=>1
 | .bool,_=>1
 | .str,_=>1
 | .sl t,xs=>(xs.map (cnt t)).sum
 | .pair a b,x=>cnt a x.1+cnt b x.2
theorem qs3 {t:Ty} (h:∀ k x,(mkT t k x).1=k+cnt t x):∀ (k:Int) (xs:List t.den),(mkL (mkT t) k xs).1=k+((xs.map (cnt t)).sum:Nat)
 | k,[]=>by simp[mkL]
 | k,x::l=>by
  simp only[mkL,qs3 h,h,List.map_cons,List.sum_cons]
  omega
theorem qjn:∀ (t:Ty) (k:Int) (x:t.den),(mkT t k x).1=k+cnt t x
 | .unit,k,x=>by simp[mkT,cnt]
 | .int _,k,_=>by simp[mkT,cnt]
 | .bool,k,_=>by simp[mkT,cnt]
 | .str,k,_=>by simp[mkT,cnt]
 | .sl t,k,xs=>by simp only[mkT,cnt];exact qs3 (qjn t) k xs
 | .pair a b,k,x=>by simp only[mkT,cnt,qjn a,qjn b];omega
theorem qsu {α:Type} {f:Int→α→Int×α}:∀ (k:Int) (xs:List α),(mkL f k xs).2.length=xs.length
 | _,[]=>rfl
 | k,x::l=>by simp[mkL,qsu]
theorem qt3 {t:Ty} (a:List t.den):tot (.sl t) a=a.length+(a.map (tot t)).sum:=rfl
theorem qxe {t:Ty} (a:List t.den):cnt (.sl t) a=(a.map (cnt t)).sum:=rfl
theorem qnh {t:Ty} {a:t.den} {k:Int} (h:(tot t a:Int)≤k):left t a k=k - tot t a:=if_pos h
theorem qlf {t:Ty} {a:t.den} {k:Int} (h:¬ (tot t a:Int)≤k):left t a k = -1:=if_neg h
theorem qm7 {t:Ty} {a:t.den} {k:Int} (h:¬ left t a k<0) (hk:0≤k):left t a k=k - tot t a∧(tot t a:Int)≤k:=by
 unfold left at h ⊢
 split at h
 ·rename_i h1;rw[if_pos h1];exact ⟨rfl,h1⟩
 ·omega
theorem qqk {α:Type} {l:List α} {i:Nat} {x d:α} (h:i<l.length):(l.set i x).getD i d=x:=by
 simp[List.getD,h]
end Go.G

namespace Go.V
open Go
theorem El.take {h:Array Obj} {Pr:BS} {e:Ty} {mi:Mk} {xs:List e.den} {cells:List Value} {Fs:Nat→BS} (k:El h Pr e mi xs cells Fs) (n:Nat) (hn:n≤xs.length) (hl:cells.length=xs.length * e.width):El h Pr e mi (xs.take n) (cells.take (n * e.width)) Fs:=by
 refine ⟨fun i hi=>?_,k.dis⟩
 rw[List.length_take] at hi
 have hin:i<n:=by omega
 have h1:(xs.take n).getD i e.zero=xs.getD i e.zero:=by
  simp only[List.getD,List.getElem?_take]
  rw[if_pos hin]
 have h2:((cells.take (n * e.width)).drop (i * e.width)).take e.width=(cells.drop (i * e.width)).take e.width:=by
  rw[List.drop_take,List.take_take]
  congr 1
  have:(i+1) * e.width≤n * e.width:=Nat.mul_le_mul_right _ hin
  rw[Nat.succ_mul] at this
  omega
 rw[h1,h2]
 exact k.rep i (by omega)
theorem El.drop {h:Array Obj} {Pr:BS} {e:Ty} {mi:Mk} {xs:List e.den} {cells:List Value} {Fs:Nat→BS} (k:El h Pr e mi xs cells Fs) (n:Nat) (hn:n≤xs.length):El h Pr e mi (xs.drop n) (cells.drop (n * e.width)) (fun i=>Fs (n+i)):=by
 refine ⟨fun i hi=>?_,fun i j hij=>k.dis _ _ (by omega)⟩
 rw[List.length_drop] at hi
 have h1:(xs.drop n).getD i e.zero=xs.getD (n+i) e.zero:=by
  simp only[List.getD,List.getElem?_drop]
 have h2:((cells.drop (n * e.width)).drop (i * e.width)).take e.width=(cells.drop ((n+i) * e.width)).take e.width:=by
  rw[List.drop_drop,Nat.add_mul]
 rw[h1,h2]
 exact k.rep (n+i) (by omega)
def upTo (n:Nat) (Fs:Nat→BS) (i:Nat):BS:=if i<n then Fs i else Nil
theorem qlh (n:Nat) (Fs:Nat→BS) (i:Nat):Sub (upTo n Fs i) (Fs i):=by
 unfold upTo
 split
 ·exact Sub.refl _
 ·exact Sub.nil _
theorem El.upTo {h:Array Obj} {Pr:BS} {e:Ty} {mi:Mk} {xs:List e.den} {cells:List Value} {Fs:Nat→BS} (k:El h Pr e mi xs cells Fs):El h Pr e mi xs cells (upTo xs.length Fs):=by
 refine ⟨fun i hi=>?_,fun i j hij=>(k.dis i j hij).mono (qlh _ _ _) (qlh _ _ _)⟩
 have:Go.V.upTo xs.length Fs i=Fs i:=if_pos hi
 rw[this]
 exact k.rep i hi
theorem El.insert {h:Array Obj} {Pr:BS} {e:Ty} {mi:Mk} {xs ys:List e.den} {c1 c2:List Value} {F1 F2:Nat→BS} (k1:El h Pr e mi xs c1 F1) (k2:El h Pr e mi ys c2 F2) (i:Nat) (hi:i≤xs.length)
  (hl1:c1.length=xs.length * e.width) (hl2:c2.length=ys.length * e.width) (hd:∀ i j,Dis (F1 i) (F2 j)) :
  ∃ FF:Nat→BS,El h Pr e mi (xs.take i++ys++xs.drop i) (c1.take (i * e.width)++c2++c1.drop (i * e.width)) FF∧∀ a b,FF a b→(∃ c,F1 c b)∨∃ c,F2 c b:=by
 have a1:=(k1.take i hi hl1).upTo
 have a3:=k1.drop i hi
 have hlen:(xs.take i).length=i:=by rw[List.length_take];omega
 rw[hlen] at a1
 have hiw:i * e.width≤c1.length:=by rw[hl1];exact Nat.mul_le_mul_right _ hi
 have a12:=El.append a1 k2 (by rw[List.length_take,hlen];omega) hl2 (fun a b=>(hd a b).mono (qlh _ _ _) (Sub.refl _))
 refine ⟨_,El.append a12 a3 (by rw[List.length_append,List.length_append,List.length_take,hlen,hl2,Nat.add_mul];omega) (by rw[List.length_drop,List.length_drop,hl1,Nat.sub_mul]) (fun a b=>?_),?_⟩
 ·skip
  split
  ·unfold Go.V.upTo
   split
   ·exact k1.dis _ _ (by omega)
   ·exact Dis.nil _
  ·exact fun z h1 h2=>hd (i+b) _ z h2 h1
 ·intro a b hb
  split at hb
  ·split at hb
   ·exact .inl ⟨_,qlh _ _ _ b hb⟩
   ·exact .inr ⟨_,hb⟩
  ·exact .inl ⟨_,hb⟩
theorem qwi {w w2:World} {Pr:BS} {Fs:Nat→BS} {ks:List PK} {a:PDen ks} {vs:List Value} (pre:Pre w.heap Pr Fs ks a vs) {e:Ty} {mi:Mk} {zs:List e.den} {v:Value} {G:BS}
  (rep:Rep w2.heap Pr (.sl e) (.own 0 mi) zs [v] G) (hG:∀ z,G z→May w.heap.size Fs z) (hGP:Dis G Pr) (hGl:∀ z,G z→z<w2.heap.size) (hsz:w.heap.size≤w2.heap.size)
  (o:ODen ks) (out:qb7 w2.heap Pr (fun _=>Nil) 0 ks o vs) (fr:WFr (May w.heap.size Fs) w w2) :
  Pst w w2 Pr Fs ks [.val (.sl e) (.own 0 mi)] (zs,()) o vs v Pr (fun i=>if i=0 then G else Nil) (fun _=>Nil) [v] where
 res:=⟨v,[],rfl,⟨[v],rep,rfl⟩,rfl⟩
 val:=rfl
 out:=out
 pr:=Sub.refl _
 prL:=fun b hb=>.inl hb
 gL:=fun i b hb=>by
  split at hb
  ·exact hG b hb
  ·exact hb.elim
 oL:=fun _ _ hb=>hb.elim
 gdis:=fun i j hij=>by
  split
  ·split
   ·omega
   ·exact fun _ _ h=>h.elim
  ·exact Dis.nil _
 odis:=fun _ _ _=>Dis.nil _
 go:=fun _ _=>fun _ _ h=>h.elim
 gp:=fun i=>by
  split
  ·exact hGP
  ·exact Dis.nil _
 op:=fun _=>Dis.nil _
 glim:=fun i b hb=>by
  split at hb
  ·exact hGl b hb
  ·exact hb.elim
 olim:=fun _ _ hb=>hb.elim
 plim:=fun b hb=>Nat.lt_of_lt_of_le (pre.limPr b hb) hsz
 fr:=fr
end Go.V

namespace Go.V
set_option maxRecDepth 100000
set_option maxHeartbeats 4000000
open Go Go.Proofs Go.RowKit Go.Lib
theorem nt2:Try.f18.ntmps=95:=by kernel_rfl
theorem qrv (a1:Option Addr) (n c m:Nat) (a2:Option Addr) (c2:Nat) (w w3:World) (v3:Value) (hm:0<m) (hc:n≤c) (h1:(∃ b,a1=some ⟨b,0,none⟩)∨(n=0∧c=0))
  (hr:∀ ty,(Builtin.append_ #[27,27] ty #[.slice a1 n c,.slice a2 m c2]).run Try.prog w=.ok v3 w3) :
  Calls Try.prog 18 #[.slice a1 n c,.int .i64 n,.slice a2 m c2] w fun e w'=>e=.returned v3∧w'=w3:=by
 have mx:=qq0
 have uT:Try.prog.underlying 27=some (.slice 30):=by kernel_rfl
 have u3:Try.prog.underlying 3=some (.int .i64):=by kernel_rfl
 have vT:=run_underlying uT
 have v3:=run_underlying u3
 have sE:(Try.prog.info? 30).map (·.size)=some 2:=by kernel_rfl
 obtain ⟨i0,hi0⟩:∃ i0,Try.prog.info? 30=some i0:=by cases h:Try.prog.info? 30 with | none=>rw[h] at sE;cases sE | some x=>exact ⟨x,rfl⟩
 have hs0:i0.size=2:=by rw[hi0] at sE;simpa using sE
 have hz1:¬ ((m:Int)=0):=by omega
 rcases h1 with ⟨b,rfl⟩ | ⟨rfl,rfl⟩
 ·go_enter Try.func18,nt2
  go_wp2_with (at_builtin;refine Lib.wpList_append_run _ rfl _ _ _ _ rfl _ _ rfl rfl _ _ (hr _) ?_)
  all_goals (try (go_ret;exact ⟨rfl,rfl⟩))
 ·cases a1 with
  | none=>
   go_enter Try.func18,nt2
   go_wp2_with (at_builtin;refine Lib.wpList_append_run _ rfl _ _ _ _ rfl _ _ rfl rfl _ _ (hr _) ?_)
   all_goals (try (go_ret;exact ⟨rfl,rfl⟩))
  | some a0=>
   go_enter Try.func18,nt2
   go_wp2_with (at_builtin;refine Lib.wpList_append_run _ rfl _ _ _ _ rfl _ _ rfl rfl _ _ (hr _) ?_)
   all_goals (try (go_ret;exact ⟨rfl,rfl⟩))
theorem qua (b n c i m:Nat) (a2:Addr) (c2 B G:Nat) (w w1 w2 w3:World) (r2 r3:Value) (hi:i<n) (hm:0<m) (hnc:n≤c) (hroom:c<n+m) (hG:n+m≤G) (hs63:n+m≤9223372036854775807)
  (hA:∀ ty,(Builtin.append_ #[27,3] ty #[.slice (some ⟨b,0,none⟩) i c,.int .i64 ((n:Int)+(m:Int) - (i:Int))]).run Try.prog w=.ok (.slice (some ⟨B,0,none⟩) (n+m) G) w1)
  (hB:∀ ty,(Builtin.copy_ #[27,27] ty #[.slice (some ⟨B,i * 2,none⟩) (n+m - i) (G - i),.slice (some a2) m c2]).run Try.prog w1=.ok r2 w2)
  (hC:∀ ty,(Builtin.copy_ #[27,27] ty #[.slice (some ⟨B,(i+m) * 2,none⟩) (n+m - (i+m)) (G - (i+m)),.slice (some ⟨b,i * 2,none⟩) (n - i) (c - i)]).run Try.prog w2.drew=.ok r3 w3) :
  Calls Try.prog 18 #[.slice (some ⟨b,0,none⟩) n c,.int .i64 i,.slice (some a2) m c2] w fun e w'=>e=.returned (.slice (some ⟨B,0,none⟩) (n+m) G)∧w'=w3:=by
 have mx:=qq0
 have uT:Try.prog.underlying 27=some (.slice 30):=by kernel_rfl
 have u3:Try.prog.underlying 3=some (.int .i64):=by kernel_rfl
 have vT:=run_underlying uT
 have v3:=run_underlying u3
 have sE:(Try.prog.info? 30).map (·.size)=some 2:=by kernel_rfl
 obtain ⟨i0,hi0⟩:∃ i0,Try.prog.info? 30=some i0:=by cases h:Try.prog.info? 30 with | none=>rw[h] at sE;cases sE | some x=>exact ⟨x,rfl⟩
 have hs0:i0.size=2:=by rw[hi0] at sE;simpa using sE
 have hz1:¬ ((m:Int)=0):=by omega
 have hz2:¬ ((i:Int)=(n:Int)):=by omega
 have hz3:(c:Int)<(n:Int)+(m:Int):=by omega
 have hw1:IntKind.i64.wrap ((i:Int)+(m:Int))=(i:Int)+(m:Int):=by rw[IntKind.wrap_i64];omega
 have hb1:(0:Int)≤(i:Int)+(m:Int):=by omega
 have hin:i≤n:=by omega
 have htn:((i:Int)+(m:Int)).toNat=i+m:=by omega
 have hb3:(i:Int)≤(n:Int):=by omega
 have hGi:¬ (G=i):=by omega
 have hGim:¬ (G=i+m):=by omega
 have hci:¬ (c=i):=by omega
 go_enter Try.func18,nt2
 go_wp2_with (first
  | (at_builtin;refine Lib.wpList_append_run _ rfl _ _ _ _ rfl _ _ rfl rfl _ _ (hA _) ?_)
  | (at_builtin;refine wpList_copy_runI _ rfl _ _ 27 27 rfl _ _ rfl rfl (hB _) ?_))
 go_region_law_o (refine step_copy_runI rfl _ _ 27 27 rfl (.slice (some ⟨B,(i+m) * 2,none⟩) (n+m - (i+m)) (G - (i+m))) (.slice (some ⟨b,i * 2,none⟩) (n - i) (c - i)) (by simp[Act.eval,Act.put]) (by simp[Act.eval,Act.put]) (hC _) ?_)
 go_wp2
 go_ret
 exact ⟨rfl,rfl⟩
theorem qth (b n c i m:Nat) (a2:Addr) (c2:Nat) (w w1 w2:World) (r1 r2:Value) (hi:i<n) (hm:0<m) (hroom:n+m≤c) (hs63:n+m≤9223372036854775807)
  (hov:∀ lb cb,(callFunc 21 #[.slice (some a2) m c2,.slice (some ⟨b,(i+m) * 2,none⟩) lb cb]).run Try.prog w=.ok (.value (.bool false)) w)
  (hB:∀ ty dc sc,(Builtin.copy_ #[27,27] ty #[.slice (some ⟨b,(i+m) * 2,none⟩) (n+m - (i+m)) dc,.slice (some ⟨b,i * 2,none⟩) (n+m - i) sc]).run Try.prog w.drew=.ok r1 w1)
  (hC:∀ ty dc,(Builtin.copy_ #[27,27] ty #[.slice (some ⟨b,i * 2,none⟩) (n+m - i) dc,.slice (some a2) m c2]).run Try.prog w1=.ok r2 w2) :
  Calls Try.prog 18 #[.slice (some ⟨b,0,none⟩) n c,.int .i64 i,.slice (some a2) m c2] w fun e w'=>e=.returned (.slice (some ⟨b,0,none⟩) (n+m) c)∧w'=w2:=by
 have mx:=qq0
 have uT:Try.prog.underlying 27=some (.slice 30):=by kernel_rfl
 have u3:Try.prog.underlying 3=some (.int .i64):=by kernel_rfl
 have vT:=run_underlying uT
 have v3:=run_underlying u3
 have sE:(Try.prog.info? 30).map (·.size)=some 2:=by kernel_rfl
 obtain ⟨i0,hi0⟩:∃ i0,Try.prog.info? 30=some i0:=by cases h:Try.prog.info? 30 with | none=>rw[h] at sE;cases sE | some x=>exact ⟨x,rfl⟩
 have hs0:i0.size=2:=by rw[hi0] at sE;simpa using sE
 have hz1:¬ ((m:Int)=0):=by omega
 have hz2:¬ ((i:Int)=(n:Int)):=by omega
 have hw1:IntKind.i64.wrap ((i:Int)+(m:Int))=(i:Int)+(m:Int):=by rw[IntKind.wrap_i64];omega
 have hb1:(0:Int)≤(i:Int)+(m:Int):=by omega
 have hin:i≤n:=by omega
 have htn:((i:Int)+(m:Int)).toNat=i+m:=by omega
 have hb2:¬ (c=i+m):=by omega
 have hb3:(i:Int)≤(n:Int)+(m:Int):=by omega
 have hb4:¬ (c=i):=by omega
 go_enter Try.func18,nt2
 go_wp2_with (simp only[hov])
 go_region_law_o (refine step_copy_runI rfl _ _ 27 27 rfl _ _ (by simp[Act.eval,Act.put]) (by simp[Act.eval,Act.put]) (hB _ _ _) ?_)
 go_wp2_with (at_builtin;refine wpList_copy_runI _ rfl _ _ 27 27 rfl _ _ rfl rfl (hC _ _) ?_)
 go_ret
 exact ⟨rfl,rfl⟩
end Go.V

namespace Go.V
set_option maxRecDepth 100000
open Go Go.Proofs Go.RowKit
abbrev TWay:Ty:=.pair .str (.pair .str .unit)
abbrev SigW:Sig:=⟨[.own (.sl TWay) (Mk.top (.sl TWay)),.val (.int .i64),.own (.sl TWay) (Mk.top (.sl TWay))],[.val (.sl TWay) (Mk.top (.sl TWay))]⟩
theorem sigW:ctx.sig 18=SigW:=by kernel_rfl
def insW (xs:List TWay.den) (i:Int) (ys:List TWay.den):Option (List TWay.den):=if 0≤i∧i≤xs.length∧0<ys.length∧xs.length+ys.length≤qbl then some (xs.take i.toNat++ys++xs.drop i.toNat) else none
def qv3 (P:Program) (sg:Sig) (f:FuncId) (d:PDen sg.params→Option (RDen sg.res×ODen sg.params)):Prop:=
 ∀ a r,d a=some r→∀ (w:World) (Pr:BS) (Fs:Nat→BS) (vs:List Value),Pre w.heap Pr Fs sg.params a vs→
  Calls P f vs.toArray w fun e w'=>∃ val Pr' Gs Os us,e=.returned val∧Pst w w' Pr Fs sg.params sg.res r.1 r.2 vs val Pr' Gs Os us
def qqw {C:Ctx} {f:FuncId} {sg:Sig} (h:C.sig f=sg) (d:PDen sg.params→Option (RDen sg.res×ODen sg.params)):PDen (C.sig f).params→Option (RDen (C.sig f).res×ODen (C.sig f).params):=by
 rw[h];exact d
theorem qwo {P:Program} {C:Ctx} {D:Den C} {f:FuncId} {sg:Sig} (h:C.sig f=sg) {d:PDen sg.params→Option (RDen sg.res×ODen sg.params)} (hd:D f=qqw h d) (k:qv3 P sg f d):FnOk P C D f:=by
 unfold FnOk
 rw[hd]
 subst h
 exact k
theorem qmk {w w2:World} {Pr:BS} {Fs:Nat→BS} {ks:List PK} {a:PDen ks} {vs:List Value} (pre:Pre w.heap Pr Fs ks a vs) {e:Ty} {mi:Mk} {zs:List e.den} {cells:List Value} {FF:Nat→BS} {B cap:Nat} {cs:Array Value}
  (el:El w.heap Pr e mi zs cells FF) (hFF:∀ t b,FF t b→∃ k,Fs k b) (hob:qr w2.heap B cs) (hcap:cap * e.width≤cs.size) (hl:zs.length≤cap) (htake:cs.toList.take (zs.length * e.width)=cells)
  (hB:B=w.heap.size∨(∃ k,Fs k B)) (hFB:∀ t,¬ FF t B) (hother:∀ b',b'<w.heap.size→b'≠B→w2.heap[b']? = w.heap[b']?) (hsz:w.heap.size≤w2.heap.size) (hBl:B<w2.heap.size)
  (h1:w2.os=w.os) (h2:w2.tape=w.tape) (h3:w2.output=w.output) (o:ODen ks) (out:qb7 w2.heap Pr (fun _=>Nil) 0 ks o vs) :
  ∃ val Pr' Gs Os us,(Value.slice (some ⟨B,0,none⟩) zs.length cap)=val∧Pst w w2 Pr Fs ks [.val (.sl e) (.own 0 mi)] (zs,()) o vs val Pr' Gs Os us:=by
 have hFl:∀ t b,FF t b→b<w.heap.size:=fun t b hb=>by obtain ⟨k,hk⟩:=hFF t b hb;exact pre.lim k b hk
 have hPB:¬ Pr B:=fun hb=>by
  rcases hB with rfl | ⟨k,hk⟩
  ·exact Nat.lt_irrefl _ (pre.limPr _ hb)
  ·exact pre.prot k B hk hb
 have el2:=el.mono (h':=w2.heap) (Sub.refl _) (fun b' hb'=>hother b' (pre.limPr b' hb') (fun e0=>hPB (e0 ▸ hb'))) (fun t b' hb'=>hother b' (hFl t b' hb') (fun e0=>hFB t (e0 ▸ hb')))
 have rep:=el2.row hob (cap:=cap) hcap hl (fun t ht=>qge htake (by
  have:=Nat.mul_le_mul_right e.width (show t+1≤zs.length by exact ht)
  rw[Nat.succ_mul] at this;exact this)) hFB 0
 have hG:∀ z,(z=B∨∃ t,FF t z)→May w.heap.size Fs z:=by
  rintro z (rfl | ⟨t,ht⟩)
  ·rcases hB with e0 | hk
   ·exact .inl (by omega)
   ·exact .inr hk
  ·exact .inr (hFF t z ht)
 refine ⟨_,Pr,_,_,_,rfl,qwi pre rep hG (fun z hz hp=>?_) (fun z hz=>?_) hsz o out ⟨h1,h2,h3,hsz,fun b' hb1 hb'=>hother b' hb1 (fun e0=>hb' ?_)⟩⟩
 ·rcases hz with rfl | ⟨t,ht⟩
  ·exact hPB hp
  ·obtain ⟨k,hk⟩:=hFF t z ht;exact pre.prot k z hk hp
 ·rcases hz with rfl | ⟨t,ht⟩
  ·exact hBl
  ·exact Nat.lt_of_lt_of_le (hFl t z ht) hsz
 ·subst e0
  exact hG b' (.inl rfl)
theorem qxr {l D C:List Value} {i m:Nat} (hC:C.length=m) (hl:i+m+D.length≤l.length):(repl (repl l (i+m) D) i C).take (i+m+D.length)=l.take i++C++D:=by
 have hA:(l.take (i+m)).length=i+m:=by rw[List.length_take];omega
 have e1:(repl l (i+m) D).take i=l.take i:=by
  simp only[repl]
  rw[List.append_assoc,List.take_append_of_le_length (by omega),List.take_take]
  congr 1;omega
 have e2:(repl l (i+m) D).drop (i+m)=D++l.drop (i+m+D.length):=by
  simp only[repl]
  rw[List.append_assoc,List.drop_append_of_le_length (by omega),List.drop_eq_nil_of_le (by omega),List.nil_append]
 have e3:repl (repl l (i+m) D) i C=(l.take i++C++D)++l.drop (i+m+D.length):=by
  show (repl l (i+m) D).take i++C++(repl l (i+m) D).drop (i+C.length)=_
  rw[e1,hC,e2];simp only[List.append_assoc]
 rw[e3,List.take_append_of_le_length (by simp only[List.length_append,List.length_take];omega),List.take_of_length_le (by simp only[List.length_append,List.length_take];omega)]
theorem qxy {l D C:List Value} {i m:Nat} (hC:C.length=m) (hl:i+m+D.length≤l.length):(repl (repl l i C) (i+m) D).take (i+m+D.length)=l.take i++C++D:=by
 have hA:(l.take i++C).length=i+m:=by rw[List.length_append,List.length_take];omega
 have e1:(repl l i C).take (i+m)=l.take i++C:=by
  show (l.take i++C++l.drop (i+C.length)).take (i+m)=_
  rw[List.take_append_of_le_length (by omega),List.take_of_length_le (by omega)]
 show ((repl l i C).take (i+m)++D++(repl l i C).drop (i+m+D.length)).take (i+m+D.length)=_
 rw[e1,List.take_append_of_le_length (by rw[List.length_append];omega),List.take_of_length_le (by rw[List.length_append];omega)]
theorem qgh {P:Program} (w:World) (dT sT ty elem:TypeId) {i:TypeInfo} (b o dLen dCap:Nat) (a:Addr) (sLen sCap:Nat) (cs:List Value)
  (hu:P.underlying dT=some (.slice elem)) (hi:P.info? elem=some i) (hn:Nat.min sLen dLen * i.size=cs.length)
  (hsrc:∀ j v,cs[j]? = some v→w.cell? (a.add j)=some v) (hc:∀ j,j<cs.length→(w.cell? ⟨b,o+j,none⟩).isSome=true) (hf:∀ j,j<cs.length→w.frozen? ⟨b,o+j,none⟩=false) (h1:∀ v∈cs,v.oneCell'=true) :
  (Builtin.copy_ #[dT,sT] ty #[.slice (some ⟨b,o,none⟩) dLen dCap,.slice (some a) sLen sCap]).run P w=.ok (goInt (Nat.min sLen dLen)) (w.setCells b o cs):=by
 have hl:=run_loadCells_list (P:=P) w a cs hsrc
 have hst:=run_storeCells_cells (P:=P) b o cs 0 w (by simpa using hc) (by simpa using hf) h1
 simp[Builtin.copy_,run_underlying hu,Builtin.lenOf,Builtin.firstCells,sizeOf,typeInfo,hi,hn,hl,hst]
theorem El.all {h:Array Obj} {Pr:BS} {e:Ty} {mi:Mk} {xs:List e.den} {cells:List Value} {F:Nat→BS} (el:El h Pr e mi xs cells F) (hw:0<e.width) (hl:cells.length=xs.length * e.width):∀ u∈cells,u.oneCell'=true:=by
 intro u hu
 obtain ⟨k,hk,rfl⟩:=List.getElem_of_mem hu
 have hk2:k / e.width<xs.length:=by rw[Nat.div_lt_iff_lt_mul hw];omega
 have r:=el.rep (k / e.width) hk2
 refine Rep.one _ r _ ?_
 rw[List.mem_iff_getElem?]
 refine ⟨k % e.width,?_⟩
 have e1:k / e.width * e.width+k % e.width=k:=by rw[Nat.mul_comm];exact Nat.div_add_mod k e.width
 rw[List.getElem?_take,if_pos (Nat.mod_lt _ hw),List.getElem?_drop,e1,List.getElem?_eq_getElem]
theorem qxc:qv3 Try.prog SigW 18 fun a=>(insW a.1 a.2.1 a.2.2.1).map fun r=>((r,()),()):=by
 intro a r h w Pr Fs vs pre
 obtain ⟨xs,i,ys,⟨⟩⟩:=a
 change List TWay.den at xs
 change Int at i
 change List TWay.den at ys
 obtain ⟨v1,vs1,rfl,⟨c1,rep1,rfl⟩,v2,vs2,rfl,⟨c2,r2,rfl⟩,v3,vs3,rfl,⟨c3,rep3,rfl⟩,k3⟩:=pre.rel
 obtain rfl:vs3=[]:=k3
 simp only[Rep] at r2
 subst r2
 dsimp only at h
 unfold insW at h
 split at h
 ·rename_i hc
  obtain ⟨h0,hi,hm,hbd⟩:=hc
  replace h0:0≤i:=h0
  replace hi:i≤xs.length:=hi
  replace hm:0<ys.length:=hm
  replace hbd:xs.length+ys.length≤274877906944:=hbd
  simp only[Option.map_some,Option.some.injEq] at h
  subst h
  obtain ⟨i,rfl⟩:=Int.eq_ofNat_of_zero_le h0
  have hi2:i≤xs.length:=by omega
  obtain ⟨ad1,cap1,cells1,F1,rfl,hl1,hlc1,hsrc1,el1,hF1,hown1⟩:=qgx (by simp[Mk.top]) (by simp[Mk.top]) rep1
  obtain ⟨ad2,cap2,cells2,F2,rfl,hl2,hlc2,hsrc2,el2,hF2,hown2⟩:=qgx (by simp[Mk.top]) (by simp[Mk.top]) rep3
  have hw1:TWay.width=2:=rfl
  replace hlc1:xs.length≤cap1:=hlc1
  replace hlc2:ys.length≤cap2:=hlc2
  have hl1':cells1.length=xs.length * 2:=by rw[hl1,hw1]
  have hl2':cells2.length=ys.length * 2:=by rw[hl2,hw1]
  rcases hown2 0 _ rfl with hc0 | ⟨b2,cs2,rfl,hbF2,hbo2,hcapb2,hFb2,hcells2⟩
  ·exact absurd hc0 (by omega)
  replace hcapb2:cap2 * 2≤cs2.size:=by rw[hw1] at hcapb2;exact hcapb2
  replace hcells2:cells2=sub cs2 0 (ys.length * 2):=by rw[hcells2,hw1]
  have hd12:∀ p q,Dis (F1 p) (F2 q):=fun p q=>(pre.dis 0 2 (by decide)).mono (hF1 p) (hF2 q)
  obtain ⟨FF,elz,hFF⟩:=El.insert el1 el2 i hi2 (by rw[hl1]) (by rw[hl2]) hd12
  rw[hw1] at elz
  have hFs:∀ t b,FF t b→∃ k,Fs k b:=fun t b hb=>by
   rcases hFF t b hb with ⟨c,hc⟩ | ⟨c,hc⟩
   ·exact ⟨0,hF1 c b hc⟩
   ·exact ⟨2,hF2 c b hc⟩
  have hlz:(xs.take i++ys++xs.drop i).length=xs.length+ys.length:=by simp only[List.length_append,List.length_take,List.length_drop];omega
  have hone1:=el1.all (by decide) hl1
  have hone2:=el2.all (by decide) hl2
  have uT:Try.prog.underlying 27=some (.slice 30):=by kernel_rfl
  have u3:Try.prog.underlying 3=some (.int .i64):=by kernel_rfl
  obtain ⟨i0,z0,hi0,hs0,hz0,hzs,hb0⟩:∃ i0 z0,Try.prog.info? 30=some i0∧i0.size=2∧i0.zero=some z0∧z0.cells.size=2∧i0.bytes=32:=by
   have k:((Try.prog.info? 30).map fun x=>(x.size,x.zero.map (·.cells.size),x.bytes))=some (2,some 2,32):=by kernel_rfl
   cases h:Try.prog.info? 30 with
   | none=>rw[h] at k;cases k
   | some x=>
    rw[h] at k
    simp only[Option.map_some,Option.some.injEq,Prod.mk.injEq] at k
    cases hz:x.zero with
    | none=>rw[hz] at k;cases k.2.1
    | some z=>
     rw[hz] at k
     simp only[Option.map_some,Option.some.injEq] at k
     exact ⟨x,z,rfl,k.1,hz,k.2.1,k.2.2⟩
  have hn2:(Builtin.firstCells i0.size ys.length (.slice (some ⟨b2,0,none⟩) ys.length cap2)).run Try.prog w=.ok cells2.toArray w:=by
   rw[hs0]
   exact qef hl2' (.inr ⟨b2,0,rfl,by rw[hcells2];exact qbi hbo2.blk (by omega)⟩)
  have ht0:cells1.take (xs.length * 2)=cells1:=List.take_of_length_le (by omega)
  have hd0:cells1.drop (xs.length * 2)=[]:=List.drop_eq_nil_of_le (by omega)
  have houts:∀ (h:Array Obj) (v1 v2 v3:Value),qb7 h Pr (fun _=>Nil) 0 SigW.params () [v1,v2,v3]:=fun h v1 v2 v3=>⟨_,_,rfl,_,_,rfl,_,_,rfl,rfl⟩
  by_cases hend:i=xs.length
  ·subst hend
   rw[ht0,hd0,List.append_nil] at elz
   by_cases hroom:xs.length+ys.length≤cap1
   ·rcases hown1 0 _ rfl with hc0 | ⟨b1,cs1,rfl,hbF1,hbo1,hcapb1,hFb1,hcells1⟩
    ·exact absurd hc0 (by omega)
    replace hcapb1:cap1 * 2≤cs1.size:=by rw[hw1] at hcapb1;exact hcapb1
    replace hcells1:cells1=sub cs1 0 (xs.length * 2):=by rw[hcells1,hw1]
    have hfit:xs.length * 2+cells2.length≤cs1.size:=by omega
    have hr:∀ ty,(Builtin.append_ #[27,27] ty #[.slice (some ⟨b1,0,none⟩) xs.length cap1,.slice (some ⟨b2,0,none⟩) ys.length cap2]).run Try.prog w=.ok (.slice (some ⟨b1,0,none⟩) (xs.length+ys.length) cap1) (w.setCells b1 (xs.length * 2) cells2):=fun ty=>
     qfr (P:=Try.prog) w (ty:=ty) rfl rfl uT uT hi0 hn2 hroom (fun ad e=>by
      simp only[Option.some.injEq] at e
      subst e
      rw[Addr.add_mid,Nat.zero_add,hs0]
      have th:=qd8 (w:=w) (o:=xs.length * 2) (n:=cells2.length) hbo1 hfit
      have:=run_storeCells_cells (P:=Try.prog) b1 (xs.length * 2) cells2 0 w (fun t ht=>by simpa using (th t ht).1) (fun t ht=>by simpa using (th t ht).2) hone2
      simpa using this) (fun e=>by simp at e)
    obtain ⟨ty,lo,hi',he,hfz⟩:=hbo1
    obtain ⟨cs3,hcs3,hcs3l⟩:=qc8 cells2 (xs.length * 2) w cs1 he hfit
    have hsz3:cs3.size=cs1.size:=by rw[←Array.length_toList,hcs3l,qbs (by simpa using hfit),Array.length_toList]
    have hob3:qr (w.setCells b1 (xs.length * 2) cells2).heap b1 cs3:=⟨ty,lo,hi',hcs3,fun t ht=>hfz t (by omega)⟩
    have h7:cs1.toList.length=cs1.size:=Array.length_toList
    have htake:cs3.toList.take ((xs.take xs.length++ys++xs.drop xs.length).length * TWay.width)=cells1++cells2:=by
     rw[hw1,hlz,hcs3l,hcells1]
     simp only[repl,sub,List.drop_zero]
     rw[List.take_append_of_le_length (by rw[List.length_append,List.length_take,hl2'];omega),List.take_of_length_le (by rw[List.length_append,List.length_take,hl2'];omega)]
    have hrest:=qb4 (b:=b1) cells2 (xs.length * 2) w
    have hFBb:∀ t,¬ FF t b1:=fun t hb=>by
     rcases hFF t b1 hb with ⟨c,hc⟩ | ⟨c,hc⟩
     ·exact hFb1 c hc
     ·exact pre.dis 0 2 (by decide) b1 hbF1 (hF2 c b1 hc)
    refine (qrv (some ⟨b1,0,none⟩) xs.length cap1 ys.length (some ⟨b2,0,none⟩) cap2 w _ _ hm hlc1 (.inl ⟨b1,rfl⟩) hr).mono ?_
    rintro e w' ⟨rfl,rfl⟩
    obtain ⟨val,Pr',Gs,Os,us,hv,hp⟩:=qmk pre elz hFs hob3 (cap:=cap1) (by rw[hw1];omega) (by rw[hlz];exact hroom) htake (.inr ⟨0,hbF1⟩) hFBb (fun b' _ hb'=>qbb cells2 _ w b' hb') (by rw[qw];exact Nat.le_refl _) (by rw[qw];exact pre.lim 0 b1 hbF1) hrest.1 hrest.2.1 hrest.2.2 () (houts _ _ _ _)
    exact ⟨val,Pr',Gs,Os,us,by rw[←hv,hlz],hp⟩
   ·have hg:cap1<xs.length+ys.length:=by omega
    have hn2d:(Builtin.firstCells i0.size ys.length (.slice (some ⟨b2,0,none⟩) ys.length cap2)).run Try.prog w.drew=.ok cells2.toArray w.drew:=by
     rw[hs0]
     exact qef hl2' (.inr ⟨b2,0,rfl,qcn (by rw[hcells2];exact qbi hbo2.blk (by omega))⟩)
    have hn1d:(Builtin.firstCells i0.size xs.length (.slice ad1 xs.length cap1)).run Try.prog w.drew=.ok cells1.toArray w.drew:=by
     rw[hs0]
     refine qef hl1' ?_
     rcases hsrc1 with ⟨h1,h2⟩ | ⟨b,o,cs,h1,h2,h3,h4⟩
     ·exact .inl ⟨h1,h2⟩
     ·exact .inr ⟨b,o,h1,qcn (h4 ▸ qbi h2 h3)⟩
    have hfit:Builtin.nextslicecap (xs.length+ys.length) cap1 * i0.bytes≤281474976710656:=by
     have:=Room.nextslicecap_le' (need:=xs.length+ys.length) (old:=cap1) hg
     rw[hb0];omega
    have hr:=fun ty=>qjw (P:=Try.prog) w (ats:=#[27,27]) (ty:=ty) rfl rfl uT uT hi0 hz0 hn2d hn1d hg (by omega) hfit
    have hge:=grownCap_ge w (xs.length+ys.length) cap1 30
    generalize grownCap w (xs.length+ys.length) cap1 30=cap' at hr hge
    have hcss:(cells1.toArray++cells2.toArray++Builtin.zeroCells z0.cells (cap' - (xs.length+ys.length))).size=cap' * 2:=by
     simp only[Array.size_append,List.size_toArray,size_zeroCells,hzs,hl1',hl2'];omega
    have htk:(cells1.toArray++cells2.toArray++Builtin.zeroCells z0.cells (cap' - (xs.length+ys.length))).toList.take ((xs.length+ys.length) * 2)=cells1++cells2:=by
     simp only[Array.toList_append,List.append_assoc]
     rw[←List.append_assoc,List.take_append_of_le_length (by rw[List.length_append];omega),List.take_of_length_le (by rw[List.length_append];omega)]
    generalize cells1.toArray++cells2.toArray++Builtin.zeroCells z0.cells (cap' - (xs.length+ys.length))=cs at hr hcss htk
    have h1a:(∃ b,ad1=some ⟨b,0,none⟩)∨(xs.length=0∧cap1=0):=by
     rcases hown1 0 _ rfl with hc0 | ⟨b1,cs1,rfl,_⟩
     ·exact .inr ⟨by omega,hc0⟩
     ·exact .inl ⟨b1,rfl⟩
    refine (qrv ad1 xs.length cap1 ys.length (some ⟨b2,0,none⟩) cap2 w _ _ hm hlc1 h1a hr).mono ?_
    rintro e w' ⟨rfl,rfl⟩
    obtain ⟨val,Pr',Gs,Os,us,hv,hp⟩:=qmk (w2:=w.drew.alloc (.cells cs 30)) pre elz hFs (B:=w.heap.size) (cs:=cs) qr.new (cap:=cap') (by rw[hw1,hcss];exact Nat.le_refl _) (by rw[hlz];exact hge) (by rw[hw1,hlz];exact htk) (.inl rfl)
     (fun t hb=>by obtain ⟨k,hk⟩:=hFs t _ hb;exact Nat.lt_irrefl _ (pre.lim k _ hk)) (fun b' hb1 _=>qdf b' hb1) (by show w.heap.size≤(w.heap.push _).size;simp) (by show w.heap.size<(w.heap.push _).size;simp) rfl rfl rfl () (houts _ _ _ _)
    exact ⟨val,Pr',Gs,Os,us,by rw[←hv,hlz],hp⟩
  ·have hlt:i<xs.length:=by omega
   rcases hown1 0 _ rfl with hc0 | ⟨b1,cs1,rfl,hbF1,hbo1,hcapb1,hFb1,hcells1⟩
   ·exact absurd hc0 (by omega)
   replace hcapb1:cap1 * 2≤cs1.size:=by rw[hw1] at hcapb1;exact hcapb1
   replace hcells1:cells1=sub cs1 0 (xs.length * 2):=by rw[hcells1,hw1]
   have hb12:b2≠b1:=fun e=>pre.dis 0 2 (by decide) b1 hbF1 (e ▸ hbF2)
   have hcd:cells1.drop (i * 2)=sub cs1 (i * 2) ((xs.length - i) * 2):=by
    rw[hcells1]
    simp only[sub,List.drop_zero,List.drop_take]
    congr 1;omega
   have hct:cells1.take (i * 2)=cs1.toList.take (i * 2):=by
    rw[hcells1]
    simp only[sub,List.drop_zero,List.take_take]
    congr 1;omega
   have hdl:(cells1.drop (i * 2)).length=(xs.length - i) * 2:=by rw[List.length_drop,hl1'];omega
   have honed:∀ u∈cells1.drop (i * 2),u.oneCell'=true:=fun u hu=>hone1 u (List.mem_of_mem_drop hu)
   have hFBb:∀ t,¬ FF t b1:=fun t hb=>by
    rcases hFF t b1 hb with ⟨c,hc⟩ | ⟨c,hc⟩
    ·exact hFb1 c hc
    ·exact pre.dis 0 2 (by decide) b1 hbF1 (hF2 c b1 hc)
   by_cases hroom:xs.length+ys.length≤cap1
   ·have hov:∀ lb cb,(callFunc 21 #[.slice (some ⟨b2,0,none⟩) ys.length cap2,.slice (some ⟨b1,(i+ys.length) * 2,none⟩) lb cb]).run Try.prog w=.ok (.value (.bool false)) w:=by
     intro lb cb
     obtain ⟨e2,lo2,hi2,he2,hf2⟩:=hbo2
     obtain ⟨e1,lo1,hi1,he1,hf1⟩:=hbo1
     have hnf:∀ k,k≤cs2.size→w.frozen? ⟨b2,k,none⟩=false:=fun k hk=>by
      have:=hf2 k hk
      simp only[World.frozen?,he2]
      simpa using this
     rw[run_callFunc_extern (P:=Try.prog) (f:=21) (fn:=Try.f21) Try.func21 (by kernel_rfl) (by kernel_rfl) (by kernel_rfl) (e:=Extern.SlicesOverlaps.overlaps #[27,27] #[4]) (by kernel_rfl),
      Lib.run_overlaps_apart w 27 4 30 uT 2 (fun w=>by simp[sizeOf,typeInfo,hi0,hs0]) ⟨b2,0,none⟩ ⟨b1,(i+ys.length) * 2,none⟩ ys.length cap2 lb cb hb12 e2 e1 cs2.size cs1.size (by simp[World.shape?,he2]) (by simp[World.shape?,he1]) (by omega) (hnf 0 (by omega)) (hnf _ (Nat.le_refl _))]
     rfl
    have hfitA:(i+ys.length) * 2+(cells1.drop (i * 2)).length≤cs1.size:=by rw[hdl];omega
    have thA:=qd8 (w:=w) (o:=(i+ys.length) * 2) (n:=(cells1.drop (i * 2)).length) hbo1 hfitA
    have hB:∀ ty dc sc,(Builtin.copy_ #[27,27] ty #[.slice (some ⟨b1,(i+ys.length) * 2,none⟩) (xs.length+ys.length - (i+ys.length)) dc,.slice (some ⟨b1,i * 2,none⟩) (xs.length+ys.length - i) sc]).run Try.prog w.drew=.ok (goInt (Nat.min (xs.length+ys.length - i) (xs.length+ys.length - (i+ys.length)))) (w.drew.setCells b1 ((i+ys.length) * 2) (cells1.drop (i * 2))):=fun ty dc sc=>
     qgh w.drew 27 27 ty 30 b1 ((i+ys.length) * 2) _ dc ⟨b1,i * 2,none⟩ _ sc (cells1.drop (i * 2)) uT hi0 (by rw[hdl,hs0];simp only[Nat.min_def];split<;>omega)
      (fun k v hk=>by rw[Addr.add_mid];exact qcn (w:=w) (b:=b1) (o:=i * 2) (cs:=cells1.drop (i * 2)) (by rw[hcd];exact qbi hbo1.blk (by omega)) k v hk) (fun k hk=>(thA k hk).1) (fun k hk=>(thA k hk).2) honed
    obtain ⟨ty,lo,hi',he,hfz⟩:=hbo1
    obtain ⟨cs3,hcs3,hcs3l⟩:=qc8 (cells1.drop (i * 2)) ((i+ys.length) * 2) w.drew cs1 he hfitA
    have hsz3:cs3.size=cs1.size:=by rw[←Array.length_toList,hcs3l,qbs (by simpa using hfitA),Array.length_toList]
    have hob3:qr (w.drew.setCells b1 ((i+ys.length) * 2) (cells1.drop (i * 2))).heap b1 cs3:=⟨ty,lo,hi',hcs3,fun t ht=>hfz t (by omega)⟩
    have hfitB:i * 2+cells2.length≤cs3.size:=by omega
    have thB:=qd8 (w:=w.drew.setCells b1 ((i+ys.length) * 2) (cells1.drop (i * 2))) (o:=i * 2) (n:=cells2.length) hob3 hfitB
    have hr2:(w.drew.setCells b1 ((i+ys.length) * 2) (cells1.drop (i * 2))).rangeAt b2 0 cells2:=by
     rw[hcells2]
     exact qbi (Blk.congr hbo2.blk (qbb (cells1.drop (i * 2)) _ w.drew b2 hb12)) (by omega)
    have hC:∀ ty dc,(Builtin.copy_ #[27,27] ty #[.slice (some ⟨b1,i * 2,none⟩) (xs.length+ys.length - i) dc,.slice (some ⟨b2,0,none⟩) ys.length cap2]).run Try.prog (w.drew.setCells b1 ((i+ys.length) * 2) (cells1.drop (i * 2)))=.ok (goInt (Nat.min ys.length (xs.length+ys.length - i))) ((w.drew.setCells b1 ((i+ys.length) * 2) (cells1.drop (i * 2))).setCells b1 (i * 2) cells2):=fun ty dc=>
     qgh _ 27 27 ty 30 b1 (i * 2) _ dc ⟨b2,0,none⟩ _ cap2 cells2 uT hi0 (by rw[hl2',hs0];simp only[Nat.min_def];split<;>omega)
      (fun k v hk=>by rw[Addr.add_mid];exact hr2 k v hk) (fun k hk=>(thB k hk).1) (fun k hk=>(thB k hk).2) hone2
    obtain ⟨cs4,hcs4,hcs4l⟩:=qc8 cells2 (i * 2) _ cs3 hcs3 hfitB
    have hsz4:cs4.size=cs3.size:=by rw[←Array.length_toList,hcs4l,qbs (by simpa using hfitB),Array.length_toList]
    have hob4:qr ((w.drew.setCells b1 ((i+ys.length) * 2) (cells1.drop (i * 2))).setCells b1 (i * 2) cells2).heap b1 cs4:=⟨ty,lo,hi',hcs4,fun t ht=>hfz t (by omega)⟩
    have h7:cs1.toList.length=cs1.size:=Array.length_toList
    have htake:cs4.toList.take ((xs.take i++ys++xs.drop i).length * TWay.width)=cells1.take (i * 2)++cells2++cells1.drop (i * 2):=by
     have e:=qxr (l:=cs1.toList) (D:=cells1.drop (i * 2)) (C:=cells2) (i:=i * 2) (m:=ys.length * 2) hl2' (by rw[h7,←Nat.add_mul];exact hfitA)
     rw[hw1,hlz,hcs4l,hcs3l,hct,Nat.add_mul i]
     rw[show (xs.length+ys.length) * 2=i * 2+ys.length * 2+(cells1.drop (i * 2)).length by rw[hdl];omega]
     exact e
    have hrest1:=qb4 (b:=b1) (cells1.drop (i * 2)) ((i+ys.length) * 2) w.drew
    have hrest2:=qb4 (b:=b1) cells2 (i * 2) (w.drew.setCells b1 ((i+ys.length) * 2) (cells1.drop (i * 2)))
    have hsize:((w.drew.setCells b1 ((i+ys.length) * 2) (cells1.drop (i * 2))).setCells b1 (i * 2) cells2).heap.size=w.heap.size:=by rw[qw,qw];rfl
    refine (qth b1 xs.length cap1 i ys.length ⟨b2,0,none⟩ cap2 w _ _ _ _ hlt hm hroom (by omega) hov hB hC).mono ?_
    rintro e w' ⟨rfl,rfl⟩
    obtain ⟨val,Pr',Gs,Os,us,hv,hp⟩:=qmk pre elz hFs hob4 (cap:=cap1) (by rw[hw1];omega) (by rw[hlz];exact hroom) htake (.inr ⟨0,hbF1⟩) hFBb
     (fun b' _ hb'=>(qbb cells2 _ _ b' hb').trans (qbb (cells1.drop (i * 2)) _ w.drew b' hb')) (by rw[hsize];exact Nat.le_refl _) (by rw[hsize];exact pre.lim 0 b1 hbF1) (hrest2.1.trans hrest1.1) (hrest2.2.1.trans hrest1.2.1) (hrest2.2.2.trans hrest1.2.2) () (houts _ _ _ _)
    exact ⟨val,Pr',Gs,Os,us,by rw[←hv,hlz],hp⟩
   ·have hg:cap1<xs.length+ys.length:=by omega
    obtain ⟨K,hK⟩:∃ K,K=xs.length+ys.length - i:=⟨_,rfl⟩
    have hKi:i+K=xs.length+ys.length:=by omega
    have hn1d:(Builtin.firstCells i0.size i (.slice (some ⟨b1,0,none⟩) i cap1)).run Try.prog w.drew=.ok (cells1.take (i * 2)).toArray w.drew:=by
     rw[hs0]
     refine qef (by rw[List.length_take,hl1'];omega) (.inr ⟨b1,0,rfl,qcn ?_⟩)
     have e:cells1.take (i * 2)=sub cs1 0 (i * 2):=by rw[hct];simp only[sub,List.drop_zero]
     rw[e];exact qbi hbo1.blk (by omega)
    have hfit:Builtin.nextslicecap (i+K) cap1 * i0.bytes≤281474976710656:=by
     have:=Room.nextslicecap_le' (need:=i+K) (old:=cap1) (by omega)
     rw[hb0];omega
    have hr:=fun ty=>Lib.run_append_grow_zeros (P:=Try.prog) w 27 3 ty 30 i0 _ .i64 .i64 uT u3 hi0 hz0 (some ⟨b1,0,none⟩) i cap1 (cells1.take (i * 2)) hn1d K (by omega) (by omega) (by omega) (by omega) (by rw[hb0];omega) hfit
    have hge:=grownCap_ge w (i+K) cap1 30
    generalize grownCap w (i+K) cap1 30=cap' at hr hge
    have hcss:((cells1.take (i * 2)).toArray++Builtin.zeroCells z0.cells K++Builtin.zeroCells z0.cells (cap' - (i+K))).size=cap' * 2:=by
     simp only[Array.size_append,List.size_toArray,size_zeroCells,hzs,List.length_take,hl1'];omega
    have htk:((cells1.take (i * 2)).toArray++Builtin.zeroCells z0.cells K++Builtin.zeroCells z0.cells (cap' - (i+K))).toList.take (i * 2)=cells1.take (i * 2):=by
     simp only[Array.toList_append,List.append_assoc]
     rw[List.take_append_of_le_length (by rw[List.length_take,hl1'];omega),List.take_of_length_le (by rw[List.length_take,hl1'];omega)]
    generalize (cells1.take (i * 2)).toArray++Builtin.zeroCells z0.cells K++Builtin.zeroCells z0.cells (cap' - (i+K))=cs0 at hr hcss htk
    rw[hKi] at hr hge
    have hKI:((K:Nat):Int)=(xs.length:Int)+(ys.length:Int) - (i:Int):=by omega
    rw[hKI] at hr
    have hob0:qr (w.drew.alloc (.cells cs0 30)).heap w.heap.size cs0:=qr.new
    have hb1lt:=pre.lim 0 b1 hbF1
    have hb2lt:=pre.lim 2 b2 hbF2
    have hb1B:b1≠w.heap.size:=by omega
    have hb2B:b2≠w.heap.size:=by omega
    have hold:∀ b',b'<w.heap.size→(w.drew.alloc (.cells cs0 30)).heap[b']? = w.heap[b']?:=fun b' hb'=>qdf b' hb'
    have hfitA:i * 2+cells2.length≤cs0.size:=by omega
    have thA:=qd8 (w:=w.drew.alloc (.cells cs0 30)) (o:=i * 2) (n:=cells2.length) hob0 hfitA
    have hr2:(w.drew.alloc (.cells cs0 30)).rangeAt b2 0 cells2:=by
     rw[hcells2]
     exact qbi (Blk.congr hbo2.blk (hold b2 hb2lt)) (by omega)
    have hB:∀ ty,(Builtin.copy_ #[27,27] ty #[.slice (some ⟨w.heap.size,i * 2,none⟩) (xs.length+ys.length - i) (cap' - i),.slice (some ⟨b2,0,none⟩) ys.length cap2]).run Try.prog (w.drew.alloc (.cells cs0 30))=.ok (goInt (Nat.min ys.length (xs.length+ys.length - i))) ((w.drew.alloc (.cells cs0 30)).setCells w.heap.size (i * 2) cells2):=fun ty=>
     qgh _ 27 27 ty 30 w.heap.size (i * 2) _ _ ⟨b2,0,none⟩ _ cap2 cells2 uT hi0 (by rw[hl2',hs0];simp only[Nat.min_def];split<;>omega)
      (fun k v hk=>by rw[Addr.add_mid];exact hr2 k v hk) (fun k hk=>(thA k hk).1) (fun k hk=>(thA k hk).2) hone2
    obtain ⟨ty,lo,hi',he,hfz⟩:=hob0
    obtain ⟨cs3,hcs3,hcs3l⟩:=qc8 cells2 (i * 2) (w.drew.alloc (.cells cs0 30)) cs0 he hfitA
    have h7:cs0.toList.length=cs0.size:=Array.length_toList
    have hsz3:cs3.size=cs0.size:=by rw[←Array.length_toList,hcs3l,qbs (by simpa using hfitA),Array.length_toList]
    have hob3:qr ((w.drew.alloc (.cells cs0 30)).setCells w.heap.size (i * 2) cells2).drew.heap w.heap.size cs3:=⟨ty,lo,hi',hcs3,fun t ht=>hfz t (by omega)⟩
    have hfitB:(i+ys.length) * 2+(cells1.drop (i * 2)).length≤cs3.size:=by rw[hdl];omega
    have thB:=qd8 (w:=((w.drew.alloc (.cells cs0 30)).setCells w.heap.size (i * 2) cells2).drew) (o:=(i+ys.length) * 2) (n:=(cells1.drop (i * 2)).length) hob3 hfitB
    have hr1:((w.drew.alloc (.cells cs0 30)).setCells w.heap.size (i * 2) cells2).drew.rangeAt b1 (i * 2) (cells1.drop (i * 2)):=by
     rw[hcd]
     exact qcn (qbi (Blk.congr hbo1.blk ((qbb cells2 _ _ b1 hb1B).trans (hold b1 hb1lt))) (by omega))
    have hC:∀ ty,(Builtin.copy_ #[27,27] ty #[.slice (some ⟨w.heap.size,(i+ys.length) * 2,none⟩) (xs.length+ys.length - (i+ys.length)) (cap' - (i+ys.length)),.slice (some ⟨b1,i * 2,none⟩) (xs.length - i) (cap1 - i)]).run Try.prog ((w.drew.alloc (.cells cs0 30)).setCells w.heap.size (i * 2) cells2).drew=.ok (goInt (Nat.min (xs.length - i) (xs.length+ys.length - (i+ys.length)))) (((w.drew.alloc (.cells cs0 30)).setCells w.heap.size (i * 2) cells2).drew.setCells w.heap.size ((i+ys.length) * 2) (cells1.drop (i * 2))):=fun ty=>
     qgh _ 27 27 ty 30 w.heap.size ((i+ys.length) * 2) _ _ ⟨b1,i * 2,none⟩ _ _ (cells1.drop (i * 2)) uT hi0 (by rw[hdl,hs0];simp only[Nat.min_def];split<;>omega)
      (fun k v hk=>by rw[Addr.add_mid];exact hr1 k v hk) (fun k hk=>(thB k hk).1) (fun k hk=>(thB k hk).2) honed
    obtain ⟨cs4,hcs4,hcs4l⟩:=qc8 (cells1.drop (i * 2)) ((i+ys.length) * 2) ((w.drew.alloc (.cells cs0 30)).setCells w.heap.size (i * 2) cells2).drew cs3 hcs3 hfitB
    have hsz4:cs4.size=cs3.size:=by rw[←Array.length_toList,hcs4l,qbs (by simpa using hfitB),Array.length_toList]
    have hob4:qr (((w.drew.alloc (.cells cs0 30)).setCells w.heap.size (i * 2) cells2).drew.setCells w.heap.size ((i+ys.length) * 2) (cells1.drop (i * 2))).heap w.heap.size cs4:=⟨ty,lo,hi',hcs4,fun t ht=>hfz t (by omega)⟩
    have htake:cs4.toList.take ((xs.take i++ys++xs.drop i).length * TWay.width)=cells1.take (i * 2)++cells2++cells1.drop (i * 2):=by
     have e:=qxy (l:=cs0.toList) (D:=cells1.drop (i * 2)) (C:=cells2) (i:=i * 2) (m:=ys.length * 2) hl2' (by rw[h7];omega)
     rw[hw1,hlz,hcs4l,hcs3l,←htk,Nat.add_mul i]
     rw[show (xs.length+ys.length) * 2=i * 2+ys.length * 2+(cells1.drop (i * 2)).length by rw[hdl];omega]
     exact e
    have hrest1:=qb4 (b:=w.heap.size) cells2 (i * 2) (w.drew.alloc (.cells cs0 30))
    have hrest2:=qb4 (b:=w.heap.size) (cells1.drop (i * 2)) ((i+ys.length) * 2) ((w.drew.alloc (.cells cs0 30)).setCells w.heap.size (i * 2) cells2).drew
    have hsize:(((w.drew.alloc (.cells cs0 30)).setCells w.heap.size (i * 2) cells2).drew.setCells w.heap.size ((i+ys.length) * 2) (cells1.drop (i * 2))).heap.size=w.heap.size+1:=by
     rw[qw]
     show ((w.drew.alloc (.cells cs0 30)).setCells w.heap.size (i * 2) cells2).heap.size=_
     rw[qw];show (w.heap.push _).size=_;simp
    refine (qua b1 xs.length cap1 i ys.length ⟨b2,0,none⟩ cap2 w.heap.size cap' w _ _ _ _ _ hlt hm hlc1 hg hge (by omega) hr hB hC).mono ?_
    rintro e w' ⟨rfl,rfl⟩
    obtain ⟨val,Pr',Gs,Os,us,hv,hp⟩:=qmk pre elz hFs hob4 (cap:=cap') (by rw[hw1];omega) (by rw[hlz];exact hge) htake (.inl rfl)
     (fun t hb=>by obtain ⟨k,hk⟩:=hFs t _ hb;exact Nat.lt_irrefl _ (pre.lim k _ hk))
     (fun b' hb1 hb'=>(qbb (cells1.drop (i * 2)) _ _ b' hb').trans ((qbb cells2 _ _ b' hb').trans (hold b' hb1))) (by rw[hsize];omega) (by rw[hsize];omega) (hrest2.1.trans hrest1.1) (hrest2.2.1.trans hrest1.2.1) (hrest2.2.2.trans hrest1.2.2) () (houts _ _ _ _)
    exact ⟨val,Pr',Gs,Os,us,by rw[←hv,hlz],hp⟩
 ·simp at h
end Go.V

namespace Go.V
set_option maxRecDepth 100000
open Go Go.Proofs Go.RowKit
def qow (a:PDen SigW.params):Option (RDen SigW.res×ODen SigW.params):=(insW a.1 a.2.1 a.2.2.1).map fun r=>((r,()),())
noncomputable def qrj:Den ctx:=fun g a=>
 if h:g=18 then qqw (f:=g) (by rw[h];exact sigW) qow a else
 none
theorem qr5:qrj 18=qqw sigW qow:=by
 funext a
 simp only[qrj,dif_pos]
def qon (f:FuncId):Bool:=f.beq 18
theorem qq6 {f:FuncId} (h:qon f=true):f=18:=by
 simp only[qon,Bool.or_eq_true] at h
 exact Nat.eq_of_beq_eq_true h
theorem qxo:qgp Try.prog 18:=⟨Try.f18,Try.func18,by decide +kernel,rfl⟩
noncomputable def qly:Ext where
 den:=qrj
 is:=qon
 ok:=fun f hf=>by
  rcases qq6 hf with rfl
  ·exact qwo sigW qr5 qxc
 call:=fun f a r hf _=>by
  rcases qq6 hf with rfl
  ·exact qxo
theorem qxw (xs:List TWay.den) (i:Int) (ys:List TWay.den):qqw sigW qow (xs,i,ys,())=qow (xs,i,ys,()):=by kernel_rfl
theorem qwl (n:Nat) (xs:List TWay.den) (i:Int) (ys:List TWay.den):DD qly (n+1) 18 (xs,i,ys,())=qow (xs,i,ys,()):=
 (qxp qly (g:=18) rfl n (xs,i,ys,())).trans ((congrFun qr5 (xs,i,ys,())).trans (qxw xs i ys))
theorem qu3 {k:Nat} (h18:Nat.beq k 18=false):qon k=false:=by
 simp only[qon,Bool.or_eq_false_iff]
 exact h18
end Go.V

namespace Go.G
open Go Go.V
abbrev WayT:Ty:=.pair .str (.pair .str .unit)
abbrev Way:=ByteArray×ByteArray×Unit
theorem qwe {X:Ext} (hX:XOk X) {n:Nat} (hn:1≤n) (a b:Way):qhe (DD X n) a b=some ((decide (a=b),()),()):=by
 obtain ⟨n,rfl⟩:∃ k,n=k+1:=⟨n - 1,by omega⟩
 rw[qq3 hX]
 obtain ⟨a1,a2,⟨⟩⟩:=a
 obtain ⟨b1,b2,⟨⟩⟩:=b
 simp only[qj0,ql9,qj5]
 by_cases h1:a1=b1<;>by_cases h2:a2=b2<;>simp[h1,h2,br]
theorem qrk (D:Den ctx) (n:Nat) (K0:Bool→Option ((Bool×Unit)×Unit)) (K1:Option ((Bool×Unit)×Unit)):∀ (m i:Nat) (a b:List Way),(∀ x y,y∈b→qhe D x y=some ((decide (x=y),()),()))→
  a.length=b.length→a.length≤maxLen→i≤a.length→a.length - i<m→qds D n K0 K1 m a b i=if a.drop i=b.drop i then K1 else K0 false
 | 0,_,_,_,_,_,_,_,h=>by omega
 | m+1,i,a,b,he,hl,hm,hi,hk=>by
  simp only[qds,qh2]
  have hd:=qbe
  by_cases h:i<a.length
  ·rw[qcr (by exact_mod_cast h),ix h,br_t,ix (hl ▸ h),br_t,qfp (by omega),Int.toNat_natCast,qjo h,qjo (hl ▸ h),he _ _ (List.getElem_mem _),qbo,qgw h,qgw (hl ▸ h:i<b.length)]
   by_cases e:a[i]=b[i]'(hl ▸ h)
   ·simp only[e,decide_true,Bool.not_true,br_f,List.cons.injEq,true_and]
    exact qrk D n K0 K1 m (i+1) a b he hl hm (by omega) (by omega)
   ·simp only[e,decide_false,Bool.not_false,br_t,List.cons.injEq,false_and,if_false]
  ·rw[qcw (by exact_mod_cast h),qh3 h,qh3 (hl ▸ h)];rfl
theorem qr3 {X:Ext} (hX:XOk X) {n:Nat} (hn:W+3≤n) (a b:List Way) (hb:b.length≤maxLen):qdz (DD X n) a b=some ((decide (a=b),()),()):=by
 obtain ⟨n,rfl⟩:∃ k,n=k+1:=⟨n - 1,by omega⟩
 rw[qqn hX]
 simp only[qiy,qiz,qg8]
 by_cases h:a.length=b.length
 ·have e:((a.length:Int) != (b.length:Int))=false:=by simp[h]
  rw[e,br_f]
  have:=qrk (DD X n) n (fun v=>qex (DD X n) n v) (qez (DD X n) n) n 0 a b (fun x y hy=>qwe hX (by omega) x y) h (by omega) (by omega) (by have:=qjc;have:=qbe;omega)
  rw[show ((0:Nat):Int)=0 from rfl] at this
  rw[this]
  simp only[List.drop_zero,qex,qez]
  by_cases h:a=b<;>simp[h]
 ·have e:((a.length:Int) != (b.length:Int))=true:=by simp;omega
  have:a≠b:=fun h2=>h (by rw[h2])
  rw[e,br_t];simp[this]
theorem qs2 {X:Ext} (hX:XOk X) {n:Nat} (hn:1≤n) (a:Way):qdu (DD X n) a=some ((a,()),()):=by
 obtain ⟨n,rfl⟩:∃ k,n=k+1:=⟨n - 1,by omega⟩
 rw[qr6 hX];rfl
theorem qru (D:Den ctx) (n:Nat) (K:List Way→Option ((List Way×Unit)×Unit)):∀ (m i:Nat) (a c:List Way),(∀ x∈a,qdu D x=some ((x,()),()))→a.length=c.length→a.length≤maxLen→i≤a.length→a.length - i<m→
  qdk D n K m a i c=K (c.take i++a.drop i)
 | 0,_,_,_,_,_,_,_,h=>by omega
 | m+1,i,a,c,he,hl,hm,hi,hk=>by
  simp only[qdk,qhu]
  have hd:=qbe
  by_cases h:i<a.length
  ·rw[qcr (by exact_mod_cast h),ix h,br_t,Int.toNat_natCast,qjo h,he _ (List.getElem_mem _),qbo,ix (hl ▸ h),br_t,qfp (by omega)]
   have e:=qru D n K m (i+1) a (c.set i a[i]) he (by simp[hl]) hm (by omega) (by omega)
   rw[qgw h]
   refine Eq.trans e ?_
   rw[qrb (hl ▸ h),List.append_assoc];rfl
  ·rw[qcw (by exact_mod_cast h),qh3 h,List.take_of_length_le (by omega),List.append_nil]
theorem qvp {X:Ext} (hX:XOk X) {n:Nat} (hn:W+3≤n) (a:List Way) (ha:a.length≤qbl):qd0 (DD X n) a=some ((a,()),()):=by
 obtain ⟨n,rfl⟩:∃ k,n=k+1:=⟨n - 1,by omega⟩
 rw[qqh hX]
 simp only[qi8,qi4,qhh]
 rw[qws ha,br_t]
 have h1:=qg3
 have:=qru (DD X n) n (fun v=>qew (DD X n) n v) n 0 a (List.replicate (Int.toNat (a.length:Int)) (ByteArray.empty,ByteArray.empty,())) (fun x hx=>qs2 hX (by omega) x) (by simp) (by rw[qbe];omega) (by omega) (by have:=qjc;omega)
 rw[show ((0:Nat):Int)=0 from rfl] at this
 rw[this]
 simp only[List.take_zero,List.drop_zero,List.nil_append,qew]
theorem qsp {X:Ext} (hX:XOk X) {n:Nat} (hn:1≤n) (a:Way) (k:Int) (ha:Wf WayT a) (hk:0≤k∧k≤maxLen):qfu (DD X n) a k=some ((left WayT a k,()),()):=by
 obtain ⟨n,rfl⟩:∃ k,n=k+1:=⟨n - 1,by omega⟩
 have hd:=qbe
 obtain ⟨w1,w2,-⟩:=ha
 have w1':a.1.size≤maxLen:=w1
 have w2':a.2.1.size≤maxLen:=w2
 have ht:tot WayT a=a.1.size+(a.2.1.size+0):=rfl
 rw[qrs hX]
 simp only[qjq,ql7]
 rw[qf2 (by omega) (by omega)]
 by_cases h:k - (a.1.size:Int)<0
 ·rw[qcr h,qlf (by omega)]
 ·rw[qcw h,qf2 (by omega) (by omega)]
  by_cases h2:k - (a.1.size:Int) - (a.2.1.size:Int)<0
  ·rw[qcr h2,qlf (by omega)]
  ·rw[qcw h2,qnh (by omega)]
   congr 3;omega
theorem qrc (D:Den ctx) (n:Nat) (K0:Int→Int→Option ((Int×Unit)×Unit)) (K1:Int→Option ((Int×Unit)×Unit)) (hK:∀ k,K1 k=some ((k,()),())) (hK0:∀ k,K0 k (-1)=some ((-1,()),())):∀ (m i:Nat) (k:Int) (a:List Way),
  (∀ x∈a,∀ k:Int,0≤k→k≤maxLen→qfu D x k=some ((left WayT x k,()),()))→a.length≤maxLen→i≤a.length→a.length - i<m→0≤k→k≤maxLen→
  qdr D n K0 K1 m a k i=some ((if (((a.drop i).map (tot WayT)).sum:Int)≤k then k - ((a.drop i).map (tot WayT)).sum else -1,()),())
 | 0,_,_,_,_,_,_,h,_,_=>by omega
 | m+1,i,k,a,he,hm,hi,hf,h0,h1=>by
  simp only[qdr,qhv]
  have hd:=qbe
  by_cases h:i<a.length
  ·rw[qcr (by exact_mod_cast h),ix h,br_t,Int.toNat_natCast,qjo h,he _ (List.getElem_mem _) k h0 h1,qbo,qfp (by omega),ql4 h]
   by_cases h2:left WayT a[i] k<0
   ·rw[qcr h2,hK0,if_neg]
    intro h3
    rw[qnh (by omega)] at h2
    omega
   ·obtain ⟨e1,e2⟩:=qm7 h2 h0
    rw[qcw h2,e1];dsimp only
    rw[qrc D n K0 K1 hK hK0 m (i+1) _ a he hm (by omega) (by omega) (by omega) (by omega)]
    congr 3
    push_cast
    split<;>split<;>omega
  ·rw[qcw (by exact_mod_cast h),qh3 h,hK]
   simp[h0]
theorem qv1 {X:Ext} (hX:XOk X) {n:Nat} (hn:W+3≤n) (a:List Way) (k:Int) (ha:Wf (.sl WayT) a) (hk:0≤k∧k≤maxLen):qi2 (DD X n) a k=some ((left (.sl WayT) a k,()),()):=by
 obtain ⟨n,rfl⟩:∃ k,n=k+1:=⟨n - 1,by omega⟩
 have hd:=qbe
 have w1:a.length≤maxLen:=ha.1
 have hts:=qt3 (t:=WayT) a
 rw[qqi hX]
 simp only[qi5,qi6,qhg]
 rw[qf2 (by omega) (by omega)]
 by_cases h:k - (a.length:Int)<0
 ·rw[qcr h,qlf (by omega)]
 ·rw[qcw h]
  have:=qrc (DD X n) n (fun v w=>qgn (DD X n) n v w) (fun v=>qgv (DD X n) n v) (fun _=>rfl) (fun _=>rfl) n 0 (k - a.length) a
   (fun x hx k h0 h1=>qsp hX (by omega) x k (ha.2 x hx) ⟨h0,h1⟩) w1 (by omega) (by have:=qjc;omega) (by omega) (by omega)
  rw[show ((0:Nat):Int)=0 from rfl] at this
  rw[this,List.drop_zero]
  by_cases h2:(tot (.sl WayT) a:Int)≤k
  ·rw[qnh h2,if_pos (by omega)];congr 3;omega
  ·rw[qlf h2,if_neg (by omega)]
theorem qn8 {X:Ext} (hX:XOk X) (N n:Nat) (hN:W+1≤N) (K:Int→List Way→Option ((Int×Unit)×List Way×Unit)):∀ (m i:Nat) (k:Int) (a:List Way),a.length≤maxLen→i≤a.length→a.length - i<m→0≤k→k+((a.drop i).map (cnt WayT)).sum≤maxLen→
  qc0 (DD X N) n K m k i a=K (mkL (mkT WayT) k (a.drop i)).1 (a.take i++(mkL (mkT WayT) k (a.drop i)).2)
 | 0,_,_,_,_,_,h,_,_=>by omega
 | m+1,i,k,a,hm,hi,hf,hk,hkl=>by
  simp only[qc0,qgq]
  have hd:=qbe
  by_cases h:i<a.length
  ·rw[ql4 h] at hkl
   have hc:cnt WayT a[i]=2:=rfl
   rw[qcr (by exact_mod_cast h),qjf hX hN k (by omega),qbo,ix h,br_t]
   simp only[List.length_set,Int.toNat_natCast,qqk h,qjo h,List.set_set]
   rw[qf2 (by omega) (by omega),qjf hX hN (k+1) (by omega),qbo,ix h,br_t,qf2 (by omega) (by omega),qfp (by omega)]
   have e:=qn8 hX N n hN K m (i+1) (k+1+1) (a.set i (qld k,qld (k+1),a[i].2.2)) (by simpa using hm) (by simp;omega) (by simp;omega) (by omega) (by rw[List.drop_set_of_lt (by omega)];omega)
   refine Eq.trans e ?_
   rw[qrb h,qgw h,List.drop_set_of_lt (by omega),List.append_assoc]
   rfl
  ·rw[qcw (by exact_mod_cast h),qh3 h,List.take_of_length_le (by omega)]
   simp only[mkL,List.append_nil]
theorem qos {X:Ext} (hX:XOk X) {n:Nat} (hn:W+2≤n) (a:List Way) (k:Int) (ha:a.length≤maxLen) (hk:0≤k) (h:k+cnt (.sl WayT) a≤maxLen) :
  qfh (DD X n) a k=some (((mkT (.sl WayT) k a).1,()),((mkT (.sl WayT) k a).2,())):=by
 obtain ⟨n,rfl⟩:∃ k,n=k+1:=⟨n - 1,by omega⟩
 have hd:=qbe
 rw[qoa hX]
 simp only[qhi,qhc,qga]
 have:=qn8 hX n n (by omega) (fun v w=>qd3 (DD X n) n v w) n 0 k a ha (by omega) (by have:=qjc;omega) hk (by rw[List.drop_zero];exact h)
 rw[show ((0:Nat):Int)=0 from rfl] at this
 rw[this]
 simp only[List.take_zero,List.drop_zero,List.nil_append,qd3,mkT]
theorem qo0 {X:Ext} (hX:XOk X) (N n:Nat) (hN:W+1≤N) (K0:Int→Int→Option ((Int×Unit)×Unit)) (K1:Int→Option ((Int×Unit)×Unit)):∀ (m i:Nat) (k:Int) (a l:List Way),a.length≤maxLen→i≤a.length→a.length - i<m→0≤k→k+(l.map (cnt WayT)).sum≤maxLen→
  a.drop i=(mkL (mkT WayT) k l).2→qc4 (DD X N) n K0 K1 m a k i=K1 (mkL (mkT WayT) k l).1
 | 0,_,_,_,_,_,_,h,_,_,_=>by omega
 | m+1,i,k,a,l,hm,hi,hf,hk,hkl,hl=>by
  simp only[qc4,qgr]
  have hd:=qbe
  by_cases h:i<a.length
  ·rw[qgw h] at hl
   cases l with
   | nil=>simp[mkL] at hl;omega
   | cons x l=>
    simp only[mkL,List.cons.injEq] at hl
    obtain ⟨hx,hl⟩:=hl
    simp only[List.map_cons,List.sum_cons] at hkl
    have hc:cnt WayT x=2:=rfl
    have hx1:a[i].1=qld k:=by rw[hx];rfl
    have hx2:a[i].2.1=qld (k+1):=by rw[hx];rfl
    rw[qcr (by exact_mod_cast h),ix h,br_t,qjf hX hN k (by omega),qbo,Int.toNat_natCast,qjo h,hx1,hx2,qj5]
    simp only[decide_true,Bool.not_true,br_f,br_t]
    rw[qf2 (by omega) (by omega),qjf hX hN (k+1) (by omega),qbo,qj5]
    simp only[decide_true,Bool.not_true,br_f]
    rw[qf2 (by omega) (by omega),qfp (by omega)]
    have e:=qo0 hX N n hN K0 K1 m (i+1) (mkT WayT k x).1 a l hm (by omega) (by omega) (by rw[qjn];omega) (by rw[qjn];omega) hl
    exact e
  ·rw[qcw (by exact_mod_cast h)]
   rw[qh3 h] at hl
   cases l with
   | nil=>rfl
   | cons x l=>simp[mkL] at hl
theorem qs6 {X:Ext} (hX:XOk X) {n:Nat} (hn:W+2≤n) (a:List Way) (k:Int) (ha:a.length≤maxLen) (hk:0≤k) (h:k+cnt (.sl WayT) a≤maxLen) :
  qfg (DD X n) (mkT (.sl WayT) k a).2 k=some (((mkT (.sl WayT) k a).1,()),()):=by
 obtain ⟨n,rfl⟩:∃ k,n=k+1:=⟨n - 1,by omega⟩
 have hd:=qbe
 rw[qoq hX]
 simp only[qhd,qhj,qf9]
 have hml:(mkT (.sl WayT) k a).2.length=a.length:=qsu k a
 have:=qo0 hX n n (by omega) (fun v w=>qfw (DD X n) n v w) (fun v=>qd4 (DD X n) n v) n 0 k (mkT (.sl WayT) k a).2 a (by omega) (by omega) (by have:=qjc;omega) hk h (by simp[mkT])
 rw[show ((0:Nat):Int)=0 from rfl] at this
 rw[this]
 simp only[qd4,mkT]
end Go.G

namespace Go.G
set_option maxRecDepth 100000
open Go Go.V Go.Proofs
def M:Nat:=4194304
theorem qqv:M=4194304:=rfl
def qct (P:Nat→Bool):Nat→Nat→Option Nat
 | _,0=>none
 | i,k+1=>if P i=true then some i else qct P (i+1) k
theorem qhw {P:Nat→Bool}:∀ {k i j:Nat},qct P i k=some j→i≤j∧j<i+k∧P j=true∧∀ l,i≤l→l<j→P l=false
 | 0,i,j,h=>by simp[qct] at h
 | k+1,i,j,h=>by
  simp only[qct] at h
  split at h
  ·rename_i hp
   simp only[Option.some.injEq] at h
   subst h
   exact ⟨Nat.le_refl _,by omega,hp,fun l h1 h2=>by omega⟩
  ·rename_i hp
   obtain ⟨h1,h2,h3,h4⟩:=qhw h
   refine ⟨by omega,by omega,h3,fun l h5 h6=>?_⟩
   rcases Nat.eq_or_lt_of_le h5 with rfl | h5
   ·simpa using hp
   ·exact h4 l h5 h6
theorem qv4 {R:Type} {L:Nat→Nat→Option R} {N:Nat} {P:Nat→Bool} {A:Nat→Option R} {B:Option R}
  (hs:∀ m i,i≤N→L (m+1) i=if i<N then br (P i) (A i) (L m (i+1)) else B):∀ m i,i≤N→N - i<m→L m i=match qct P i (N - i) with | some j=>A j | none=>B
 | 0,_,_,h=>by omega
 | m+1,i,hi,hm=>by
  rw[hs m i hi]
  by_cases h:i<N
  ·rw[if_pos h]
   obtain ⟨k,hk⟩:∃ k,N - i=k+1:=⟨N - i - 1,by omega⟩
   rw[hk]
   simp only[qct]
   by_cases hp:P i=true
   ·rw[if_pos hp,hp];rfl
   ·rw[if_neg hp,qv4 hs m (i+1) (by omega) (by omega)]
    simp only[Bool.not_eq_true] at hp
    have:N - (i+1)=k:=by omega
    rw[this,hp];rfl
  ·rw[if_neg h]
   have:N - i=0:=by omega
   rw[this];rfl
theorem qt4 {R:Type} {L:Nat→Nat→Option R} {N:Nat} {P:Nat→Bool} {A:Nat→Option R} {B:Option R}
  (hs:∀ m i,i≤N→L (m+1) i=if i<N then br (P i) (A i) (L m (i+1)) else B) {m:Nat} (hm:N<m):L m 0=match qct P 0 N with | some j=>A j | none=>B:=by
 have:=qv4 hs m 0 (by omega) (by omega)
 rwa [Nat.sub_zero] at this
end Go.G

namespace Go.G
set_option maxRecDepth 100000
open Go Go.V Go.Proofs
abbrev wd:Way:=(ByteArray.empty,ByteArray.empty,())
def wlt (a b:Way):Bool:=bif Op.bytesLess (ByteArray.toList a.1) (ByteArray.toList b.1) then true else bif List.beq (ByteArray.toList a.1) (ByteArray.toList b.1) then Op.bytesLess (ByteArray.toList a.2.1) (ByteArray.toList b.2.1) else false
theorem qpx (a b:Way):qf1 (Ty.pair Ty.str (Ty.pair Ty.str Ty.unit)) a b=decide (a=b):=by
 obtain ⟨a1,a2,⟨⟩⟩:=a
 obtain ⟨b1,b2,⟨⟩⟩:=b
 have e:∀ x y:ByteArray,(x.toList == y.toList)=decide (x=y):=fun x y=>qj5
 simp only[qf1,e]
 by_cases h1:a1=b1<;>by_cases h2:a2=b2<;>simp[h1,h2]
theorem qqp {X:Ext} (hX:XOk X) {n:Nat} (hn:1≤n) (a b:Way):qh7 (DD X n) a b=some ((wlt a b,()),()):=by
 obtain ⟨n,rfl⟩:∃ k,n=k+1:=⟨n - 1,by omega⟩
 rw[qpd hX];rfl
theorem qql {X:Ext} (hX:XOk X) {n:Nat} (hn:1≤n) (a b:Way):qie (DD X n) a b=some ((wlt a b,()),()):=by
 obtain ⟨n,rfl⟩:∃ k,n=k+1:=⟨n - 1,by omega⟩
 rw[qpi hX];rfl
def qfa (l:List Way) (w:Way):List Way:=match qct (fun i=>!wlt (l.getD i wd) w) 0 l.length with
 | some j=>if l.getD j wd=w then l else l.take j++[w]++l.drop j
 | none=>l++[w]
theorem qte (D:Den ctx) (w x:Way):qfm ctx D (Clo.mk 16 [CapV.rptr (Ty.pair Ty.str (Ty.pair Ty.str Ty.unit)) w]) [CapV.val (Ty.pair Ty.str (Ty.pair Ty.str Ty.unit)) x] Ty.bool=(qj8 D x w).bind fun q=>some q.1.1:=by kernel_rfl
theorem qvb {X:Ext} (hX:XOk X) {n:Nat} (hn:W+1≤n) (l:List Way) (hl:l.length≤maxLen) (c:Clo) (P:Nat→Bool)
  (hP:∀ i,i<l.length→qfm ctx (DD X (n - 1)) c [CapV.val (Ty.pair Ty.str (Ty.pair Ty.str Ty.unit)) (l.getD i wd)] Ty.bool=some (P i)) :
  qb1 (DD X n) l c=some ((match qct P 0 l.length with | some j=>(j:Int) | none=>-1,()),()):=by
 obtain ⟨n,rfl⟩:∃ k,n=k+1:=⟨n - 1,by omega⟩
 have hd:=qbe
 have hW:=qjc
 rw[qfx hX]
 simp only[qb3,qb0,qbt]
 refine Eq.trans (qt4 (L:=fun m i=>qv (DD X n) n c _ _ m l l.length (i:Int)) (N:=l.length) (P:=P)
  (A:=fun j=>some (((j:Int),()),())) (B:=some ((-1,()),())) (fun m i hi=>?_) (m:=n) (by omega)) ?_
 ·simp only[qv,qbx]
  by_cases h:i<l.length
  ·have hp:qfm ctx (DD X n) c [CapV.val (Ty.pair Ty.str (Ty.pair Ty.str Ty.unit)) (l.getD i wd)] Ty.bool=some (P i):=hP i h
   rw[qcr (by exact_mod_cast h),ix h,br_t,Int.toNat_natCast,hp,qbo,qfp (by omega),if_pos h];rfl
  ·rw[qcw (by exact_mod_cast h),if_neg h];rfl
 ·cases qct P 0 l.length<;>rfl
theorem qtb {X:Ext} (hX:XOk X) {n:Nat} (hn:1≤n) (a:List Way) (ha:a.length≤qbl):qcg (DD X n) a=some ((a,()),()):=by
 obtain ⟨n,rfl⟩:∃ k,n=k+1:=⟨n - 1,by omega⟩
 rw[qgo hX]
 simp only[qch,qdv]
 cases a with
 | nil=>simp[qui,both,qg3]
 | cons x a=>simp[qui];simpa using ha
theorem qrr {X:Ext} (hX:XOk X) (hI:∀ n xs i ys,qcd (DD X (n+1)) xs i ys=(insW xs i ys).map fun r=>((r,()),())) {n:Nat} (hn:W+3≤n) (l:List Way) (hl:l.length≤M) (w:Way) :
  qgl (DD X n) l w=some ((qfa l w,()),()):=by
 obtain ⟨n,rfl⟩:∃ k,n=k+2:=⟨n - 2,by omega⟩
 have hd:=qbe
 have hM:=qqv
 have hb:=qg3
 have hW:=qjc
 rw[qqj hX]
 simp only[qi1,qlo]
 rw[qtb hX (by omega) l (by omega),qbo,qvb hX (n:=n+1) (by omega) l (by omega) _ (fun i=>!wlt (l.getD i wd) w) (fun i hi=>by
  obtain ⟨n,rfl⟩:∃ k,n=k+1:=⟨n - 1,by omega⟩
  rw[qte,show n+1+1 - 1=n+1 from rfl,qoe hX]
  simp only[qhk,qj7]
  rw[qqp hX (by omega),qbo]
  rfl),qbo]
 dsimp only
 unfold qfa
 cases hf:qct (fun i=>!wlt (l.getD i wd) w) 0 l.length with
 | none=>
  dsimp only
  rw[qcr (by decide),hI]
  unfold insW
  rw[if_pos ⟨by omega,by omega,by simp,by simp;omega⟩,Int.toNat_natCast,List.take_length,List.drop_length,List.append_nil]
  rfl
 | some j=>
  have hj:=(qhw hf).2.1
  have hj:j<l.length:=by omega
  dsimp only
  rw[qcw (show ¬ (j:Int)<0 by omega),ix hj,br_t,Int.toNat_natCast,qpx,hI]
  by_cases e:l.getD j wd=w
  ·rw[decide_eq_true e,br_t,if_pos e]
  ·rw[decide_eq_false e,br_f,if_neg e]
   unfold insW
   rw[if_pos ⟨by omega,by omega,by simp,by simp;omega⟩,Int.toNat_natCast]
   rfl
theorem qps {X:Ext} (N n:Nat) (l:List Way) (hl:l.length≤M) (w:Way) (p:Nat) (hp:p≤l.length) :
  qc1 (DD X N) n l (p:Int) w=some ((if p<l.length∧l.getD p wd=w then l else l.take p++[w]++l.drop p,()),()):=by
 have hd:=qbe
 have hM:=qqv
 have hb:=qg3
 have c1:(decide ((0:Nat)≤0)&&decide ((0:Int)≤(p:Int))&&decide ((p:Int)≤(l.length:Int)))=true:=by
  rw[decide_eq_true (by omega),decide_eq_true (by omega),decide_eq_true (by omega)];rfl
 have c2:(decide ((0:Int)≤(p:Int))&&decide ((p:Int)≤(l.length:Int))&&decide ((l.length:Int)≤(l.length:Int)))=true:=by
  rw[decide_eq_true (by omega),decide_eq_true (by omega),decide_eq_true (by omega)];rfl
 have t1:List.drop (Int.toNat 0) (List.take p l)=l.take p:=rfl
 simp only[qc1]
 have d1:decide (0+(l.take p).length≤qbl)=true:=decide_eq_true (by rw[List.length_take];omega)
 have d2:decide ((l.take p).length+1≤qbl)=true:=decide_eq_true (by rw[List.length_take];omega)
 have d3:decide ((l.take p++[w]).length+(l.drop p).length≤qbl)=true:=decide_eq_true (by simp only[List.length_append,List.length_take,List.length_drop,List.length_cons,List.length_nil];omega)
 have d4:decide (0+l.length≤qbl)=true:=decide_eq_true (by omega)
 simp only[c1,c2,Int.toNat_natCast,t1,List.take_length,List.nil_append,d1,d2,d3,d4,br_t,qpx]
 by_cases h:p<l.length
 ·rw[qcr (by exact_mod_cast h),ix h,br_t]
  by_cases e:l.getD p wd=w
  ·rw[decide_eq_true e,br_t,if_pos ⟨h,e⟩]
  ·rw[decide_eq_false e,br_f,if_neg (fun k=>e k.2)]
 ·rw[qcw (by exact_mod_cast h),if_neg (fun k=>h k.1)]
theorem qq7 {X:Ext} (hX:XOk X) {n:Nat} (hn:W+2≤n) (l:List Way) (hl:l.length≤M) (w:Way) :
  qix (DD X n) l w=some ((qfa l w,()),()):=by
 obtain ⟨n,rfl⟩:∃ k,n=k+1:=⟨n - 1,by omega⟩
 have hd:=qbe
 have hM:=qqv
 have hb:=qg3
 have hW:=qjc
 rw[qqm hX]
 simp only[qi7,qi3,qg6]
 refine Eq.trans (qt4 (L:=fun m i=>qdo (DD X n) n _ m l (i:Int) w) (N:=l.length) (P:=fun i=>!wlt (l.getD i wd) w)
  (A:=fun j=>qc1 (DD X n) n l (j:Int) w) (B:=qc1 (DD X n) n l (l.length:Int) w) (fun m i hi=>?_) (m:=n) (by omega)) ?_
 ·simp only[qdo,qij]
  by_cases h:i<l.length
  ·rw[qcr (by exact_mod_cast h),ix h,br_t,Int.toNat_natCast,qql hX (by omega),qbo,qfp (by omega),if_pos h]
   dsimp only
   cases wlt (l.getD i wd) w<;>rfl
  ·have hin:i=l.length:=by omega
   rw[qcw (by exact_mod_cast h),if_neg h,hin]
 ·unfold qfa
  cases hf:qct (fun i=>!wlt (l.getD i wd) w) 0 l.length with
  | none=>
   refine (qps n n l hl w _ (Nat.le_refl _)).trans ?_
   rw[if_neg (fun k=>Nat.lt_irrefl _ k.1),List.take_length,List.drop_length,List.append_nil]
  | some j=>
   have hj:=(qhw hf).2.1
   have hj:j<l.length:=by omega
   refine (qps n n l hl w j (by omega)).trans ?_
   by_cases e:l.getD j wd=w
   ·rw[if_pos ⟨hj,e⟩]
    dsimp only
    rw[if_pos e]
   ·rw[if_neg (fun k=>e k.2)]
    dsimp only
    rw[if_neg e]
theorem qti (l:List Way) (w:Way):(qfa l w).length≤l.length+1:=by
 unfold qfa
 split
 ·split
  ·omega
  ·simp only[List.length_append,List.length_take,List.length_drop,List.length_cons,List.length_nil];omega
 ·simp
end Go.G

/- The row FnExactWayPut holds: for all arguments the law returns true and the arguments read as before. No condition. -/
namespace Go.G
set_option linter.unusedVariables false
set_option linter.unusedSimpArgs false
set_option maxRecDepth 100000
open Go Go.V Go.Proofs

theorem qtx:XOk qly:=fun k h=>by
 exact qu3 h
theorem qnk:∀ (a:List Way),cnt (.sl WayT) a=2 * a.length
 | []=>rfl
 | x::a=>by
  have:=qnk a
  rw[qxe] at this ⊢
  rw[List.map_cons,List.sum_cons,this,List.length_cons]
  have:cnt WayT x=2:=rfl
  omega
theorem qlx (a:List Way) (k:Int) (hk:0≤k):¬ (mkT (.sl WayT) k a).1<0:=by rw[qjn];omega
theorem qmx (a:List Way) (w:Way) (wa:Wf (.sl WayT) a) (ww:Wf WayT w):qhs (DD qly (W+6)) a w=some ((true,()),()):=by
 have hX:=qtx
 have hM:=qqv
 have hd:=qbe
 have hb:=qg3
 rw[qk2 hX]
 simp only[qer,qhm]
 rw[qv1 hX (by omega) a 1048576 wa (by omega),qbo];dsimp only
 by_cases h:left (.sl WayT) a 1048576<0
 ·rw[qcr h]
 ·rw[qcw h]
  obtain ⟨h1,h2⟩:=qm7 h (by omega)
  rw[qsp hX (by omega) w _ ww (by omega),qbo];dsimp only
  by_cases h3:left WayT w (left (.sl WayT) a 1048576)<0
  ·rw[qcr h3]
  ·rw[qcw h3]
   have ht:=qt3 (t:=WayT) a
   have hl:a.length≤1048576:=by omega
   have hl2:=qti a w
   have hc:=qnk a
   have hc2:=qnk (qfa a w)
   have e1:=qvp hX (n:=W+5) (by omega) a (by omega)
   have e2:=qs2 hX (n:=W+5) (by omega) w
   have e3:=qq7 hX (n:=W+5) (by omega) a (by omega) w
   have e4:=qrr hX qwl (n:=W+5) (by omega) a (by omega) w
   have e5:=qr3 hX (n:=W+5) (by omega) a a (by omega)
   have e6:=qr3 hX (n:=W+5) (by omega) (qfa a w) (qfa a w) (by omega)
   have e7:=qos hX (n:=W+5) (by omega) a 1 (by omega) (by omega) (by omega)
   have e8:=qos hX (n:=W+5) (by omega) (qfa a w) 1 (by omega) (by omega) (by omega)
   have e9:=qs6 hX (n:=W+5) (by omega) (qfa a w) 1 (by omega) (by omega) (by omega)
   have p1:=decide_eq_false (qlx a 1 (by omega))
   have p2:=decide_eq_false (qlx (qfa a w) 1 (by omega))
   simp only[e1,e2,e3,e4,e5,e6,e7,e8,e9,p1,p2,qbo,decide_true,Bool.not_true,br_f,bne_self_eq_false]
end Go.G
namespace Go.Proofs.Ytkggbhppapcmnaa
open Go.ChangeShapes Go.WideShapes Go.ChangeAt Go.RowKit Go.V Go.G
set_option maxRecDepth 100000
theorem fnExactWayPut_lifted (os:Os) (started:os.Started) (H:Type) (enc:TypeId×Value→H) :
  ReturnsInHanded {} Try.checked os 3 .any (Rows.fnExactWayPutSpec.pre6 enc Try.prog Try.f3 Rows.fnExactWayPutRow.domain false) (Rows.fnExactWayPutSpec.post enc Try.prog Try.f3 false true false false):=
 quh (X:=qly) (tb:=4) started Try.func3 (by kernel_rfl)
  (ChangeSpec.witness6 (enc:=enc) (C:=Try.checked) false ⟨#[],Try.f3.params.map fun t=>((Try.prog.info? t).bind (·.zero)).getD .nilIface,[]⟩ 8 (by kernel_rfl) (by kernel_rfl) (by kernel_rfl) (by kernel_rfl))
  ⟨rfl,rfl,rfl,rfl,trivial⟩ (by kernel_rfl) (by kernel_rfl) (by kernel_rfl) rfl
  (fun ds h=>by
   match ds,h with
   | [d0,d1],_=>exact ⟨rfl,rfl,rfl⟩)
  (fun a wa=>⟨W+6,((true,()),()),qmx a.1 a.2.1 wa.1 wa.2.1,fun h Pr Gs us k=>by
   obtain ⟨v,vs,rfl,⟨c,r,rfl⟩,e⟩:=k
   obtain rfl:vs=[]:=e
   simp only[Rep] at r
   subst r
   rfl⟩)
theorem fnExactWayPut_holds:Rows.FnExactWayPutSaid:=
 OpenClaim.holds_of_wide 3 Try.f3 rfl rfl rfl rfl rfl rfl rfl ⟨rfl,rfl,rfl,rfl,rfl⟩ rfl rfl rfl rfl rfl (by kernel_rfl) Try.func3 (by kernel_rfl)
  (of_decide_eq_true (by kernel_rfl)) (by unfold Func.isWrapper;first | (rw[if_pos (by decide +kernel)];kernel_rfl) | (rw[if_neg (by decide +kernel)];exact ⟨rfl,rfl⟩))
  (fun os started H enc _=>fnExactWayPut_lifted os started H enc)
#print axioms fnExactWayPut_holds
end Go.Proofs.Ytkggbhppapcmnaa


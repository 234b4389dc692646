import Derived.Test.YtcdcbckcploljaaGreatAPFnAlwaysSomething1
set_option linter.unusedVariables false
set_option linter.unusedSimpArgs false
set_option linter.unusedSectionVars false
namespace Go.G
open Go Go.V
theorem br_t {R:Type} {a b:Option R}:br true a b=a:=rfl
theorem br_f {R:Type} {a b:Option R}:br false a b=b:=rfl
theorem qk {R:Type} {a b:Option R} {p:Prop} [Decidable p] (h:p):br (decide p) a b=a:=by simp[br,h]
theorem qh {R:Type} {a b:Option R} {p:Prop} [Decidable p] (h:¬ p):br (decide p) a b=b:=by simp[br,h]
theorem qc {α R:Type} {a:α} {f:α→Option R}:qd (some a) f=f a:=rfl
theorem qbeb (x:Int):IntKind.wrap IntKind.i64 x=if x % 18446744073709551616≥9223372036854775808 then x % 18446744073709551616 - 18446744073709551616 else x % 18446744073709551616:=by
 by_cases h:x % 18446744073709551616≥9223372036854775808<;>simp[IntKind.wrap,IntKind.signed,IntKind.bits,h]
theorem qb8 {x:Int} (h1 : -9223372036854775808≤x) (h2:x≤9223372036854775807):IntKind.wrap IntKind.i64 x=x:=by
 rw[qbeb]
 split<;>omega
def W:Nat:=9223372036854775808
theorem qci:W=9223372036854775808:=rfl
theorem qhu:qem=274877906944:=rfl
theorem ix {α:Type} {l:List α} {i:Nat} (h:i<l.length):(decide (0≤(i:Int))&&decide ((i:Int)<(l.length:Int)))=true:=by
 simp only[Bool.and_eq_true,decide_eq_true_eq];omega
theorem ixn {α:Type} {l:List α} {i:Int} (h0:0≤i) (h:i<l.length):(decide (0≤i)&&decide (i<(l.length:Int)))=true:=by
 simp only[Bool.and_eq_true,decide_eq_true_eq];omega
theorem qbk {i:Nat} (h:i<9223372036854775807):IntKind.wrap IntKind.i64 ((i:Int)+1)=((i+1:Nat):Int):=by
 rw[qb8]<;>omega
theorem qfq {α:Type} {l:List α} {i:Nat} {d:α} (h:i<l.length):l.getD i d=l[i]:=by
 simp[List.getD,h]
theorem qkt {α:Type} {l:List α} {i:Nat} (h:i<l.length):l.drop i=l[i]::l.drop (i+1):=List.drop_eq_getElem_cons h
theorem qmw {α:Type} {l:List α} {i:Nat} (h:¬ i<l.length):l.drop i=[]:=List.drop_eq_nil_of_le (by omega)
def tot:(t:Ty)→t.den→Nat
 | .unit,_=>0
 | .int _,_=>0
 | .bool,_=>0
 | .str,s=>s.size
 | .sl t,xs=>xs.length+(xs.map (tot t)).sum
 | .pair a b,x=>tot a x.1+tot b x.2
def left (t:Ty) (a:t.den) (k:Int):Int:=if (tot t a:Int)≤k then k - tot t a else -1
end Go.G

namespace Go.G
open Go Go.V
end Go.G

namespace Go.G
set_option maxRecDepth 100000
open Go Go.V Go.Proofs
abbrev Pair:=Int×Int×Unit
abbrev Got:=List Pair
abbrev Op3:=Int×Int×Int×Unit
abbrev qcc:=Got×List Int×Int×Bool×Unit
abbrev Work:=Got×Int×Bool×Unit
def inR (x a b:Int):Bool:=bif decide (x≥a) then decide (x≤b) else false
theorem qb2 {x a b:Int}:inR x a b=true↔a≤x∧x≤b:=by
 unfold inR
 by_cases h:x≥a
 ·rw[decide_eq_true h];simp only[cond_true,decide_eq_true_eq];omega
 ·rw[decide_eq_false h];simp only[cond_false];constructor
  ·intro k;cases k
  ·intro k;omega
theorem qku {x a b:Int} (h:¬ (a≤x∧x≤b)):inR x a b=false:=by
 cases k:inR x a b
 ·rfl
 ·exact absurd (qb2.1 k) h
def qz (k:Int):Int:=bif inR k 0 3 then k else -1
def qbe (v:Int):Int:=bif inR v 1 6 then IntKind.wrap IntKind.i64 (3+v) else -1
def qbl (c:Int):Int:=bif inR c 0 2 then IntKind.wrap IntKind.i64 (10+c) else -1
def qbc (v:Int):Int:=bif inR v 1 6 then IntKind.wrap IntKind.i64 (13+v) else -1
def qp (v:Int):Int:=bif inR v 1 6 then Int.tmod v 3 else -1
section
variable {X:Ext} (hX:XOk X) {n:Nat}
include hX
theorem q4j (hn:1≤n) (x a b:Int):qls (DD X n) x a b=some ((inR x a b,()),()):=by
 obtain ⟨n,rfl⟩:∃ k,n=k+1:=⟨n - 1,by omega⟩
 rw[qbck hX];rfl
theorem qse (hn:1≤n) (x a b:Int):qeu (DD X n) x a b=some ((inR x a b,()),()):=by
 obtain ⟨n,rfl⟩:∃ k,n=k+1:=⟨n - 1,by omega⟩
 rw[qbb7 hX];rfl
theorem qyb (hn:1≤n) (b:Bool) (x:Int):qis (DD X n) b x=some ((bif b then x else -1,()),()):=by
 obtain ⟨n,rfl⟩:∃ k,n=k+1:=⟨n - 1,by omega⟩
 rw[q78 hX]
 cases b<;>rfl
theorem q7r (hn:2≤n) (x:Int):qf3 (DD X n) x=some ((inR x 0 3,()),()):=by
 obtain ⟨n,rfl⟩:∃ k,n=k+1:=⟨n - 1,by omega⟩
 rw[q87 hX]
 simp only[qvi,qze]
 rw[q4j hX (by omega),qc]
theorem qkr (hn:2≤n) (x:Int):qbt (DD X n) x=some ((inR x 1 6,()),()):=by
 obtain ⟨n,rfl⟩:∃ k,n=k+1:=⟨n - 1,by omega⟩
 rw[q9q hX]
 simp only[qvm,qz2]
 rw[q4j hX (by omega),qc]
theorem q86 (hn:2≤n) (x:Int):qds (DD X n) x=some ((inR x 0 2,()),()):=by
 obtain ⟨n,rfl⟩:∃ k,n=k+1:=⟨n - 1,by omega⟩
 rw[q51 hX]
 simp only[qqu,qxn]
 rw[q4j hX (by omega),qc]
theorem q69 (hn:2≤n) (x:Int):qp5 (DD X n) x=some ((inR x 0 3,()),()):=by
 obtain ⟨n,rfl⟩:∃ k,n=k+1:=⟨n - 1,by omega⟩
 rw[q9n hX]
 simp only[qu1,qzr]
 rw[qse hX (by omega),qc]
theorem qoq (hn:2≤n) (x:Int):qeq (DD X n) x=some ((inR x 1 6,()),()):=by
 obtain ⟨n,rfl⟩:∃ k,n=k+1:=⟨n - 1,by omega⟩
 rw[q9d hX]
 simp only[qvs,q0h]
 rw[qse hX (by omega),qc]
theorem qbcr (hn:2≤n) (x:Int):qpx (DD X n) x=some ((inR x 1 4,()),()):=by
 obtain ⟨n,rfl⟩:∃ k,n=k+1:=⟨n - 1,by omega⟩
 rw[qbai hX]
 simp only[qvf,qzy]
 rw[qse hX (by omega),qc]
theorem qkj (hn:1≤n) (x:Int):qfd (DD X n) x=some ((bif bif bif decide (x=1) then true else decide (x=2) then true else decide (x=5) then true else decide (x=10),()),()):=by
 obtain ⟨n,rfl⟩:∃ k,n=k+1:=⟨n - 1,by omega⟩
 rw[qbbp hX];rfl
theorem qdy (hn:1≤n):qbo (DD X n)=some ((13,()),()):=by
 obtain ⟨n,rfl⟩:∃ k,n=k+1:=⟨n - 1,by omega⟩
 rw[q5x hX];rfl
theorem qe9 (hn:1≤n):qb5 (DD X n)=some ((13,()),()):=by
 obtain ⟨n,rfl⟩:∃ k,n=k+1:=⟨n - 1,by omega⟩
 rw[q44 hX];rfl
theorem qd1 (hn:3≤n) (x:Int):qcs (DD X n) x=some ((qz x,()),()):=by
 obtain ⟨n,rfl⟩:∃ k,n=k+1:=⟨n - 1,by omega⟩
 rw[q89 hX]
 simp only[qvq,qzq]
 rw[q7r hX (by omega),qc,qyb hX (by omega),qc]
 rfl
theorem qfg (hn:3≤n) (x:Int):qdb (DD X n) x=some ((qbe x,()),()):=by
 obtain ⟨n,rfl⟩:∃ k,n=k+1:=⟨n - 1,by omega⟩
 rw[q5t hX]
 simp only[qq8,qxc]
 rw[qkr hX (by omega),qc,qyb hX (by omega),qc]
 rfl
theorem qff (hn:3≤n) (x:Int):qc8 (DD X n) x=some ((qbl x,()),()):=by
 obtain ⟨n,rfl⟩:∃ k,n=k+1:=⟨n - 1,by omega⟩
 rw[q56 hX]
 simp only[qq9,qw6]
 rw[q86 hX (by omega),qc,qyb hX (by omega),qc]
 rfl
theorem qgv (hn:3≤n) (x:Int):qct (DD X n) x=some ((qbc x,()),()):=by
 obtain ⟨n,rfl⟩:∃ k,n=k+1:=⟨n - 1,by omega⟩
 rw[q9f hX]
 simp only[qux,qzm]
 rw[qkr hX (by omega),qc,qdy hX (by omega),qc,qyb hX (by omega),qc]
 rfl
theorem qgq (hn:3≤n) (x:Int):qc1 (DD X n) x=some ((qp x,()),()):=by
 obtain ⟨n,rfl⟩:∃ k,n=k+1:=⟨n - 1,by omega⟩
 rw[q5l hX]
 simp only[qqn,qxj]
 rw[qkr hX (by omega),qc]
 unfold qp
 cases inR x 1 6<;>rfl
theorem qep (hn:3≤n) (x:Int):qb9 (DD X n) x=some ((qz x,()),()):=by
 obtain ⟨n,rfl⟩:∃ k,n=k+1:=⟨n - 1,by omega⟩
 rw[qbbl hX]
 simp only[qup,q0i]
 rw[q69 hX (by omega),qc]
 unfold qz
 cases inR x 0 3<;>rfl
theorem qhv (hn:3≤n) (x:Int):qcb (DD X n) x=some ((qbe x,()),()):=by
 obtain ⟨n,rfl⟩:∃ k,n=k+1:=⟨n - 1,by omega⟩
 rw[q5o hX]
 simp only[qqo,qxb]
 rw[qoq hX (by omega),qc]
 unfold qbe
 cases inR x 1 6<;>rfl
theorem qjg (hn:3≤n) (x:Int):qed (DD X n) x=some ((qbl x,()),()):=by
 obtain ⟨n,rfl⟩:∃ k,n=k+1:=⟨n - 1,by omega⟩
 rw[q5i hX]
 simp only[qqv,qxw]
 rw[qse hX (by omega),qc]
 unfold qbl
 cases inR x 0 2<;>rfl
theorem qkp (hn:3≤n) (x:Int):qc4 (DD X n) x=some ((qbc x,()),()):=by
 obtain ⟨n,rfl⟩:∃ k,n=k+1:=⟨n - 1,by omega⟩
 rw[q9g hX]
 simp only[qve,qzb]
 rw[qoq hX (by omega),qc,qe9 hX (by omega),qc]
 unfold qbc
 cases inR x 1 6<;>rfl
theorem qjh (hn:3≤n) (x:Int):qb4 (DD X n) x=some ((qp x,()),()):=by
 obtain ⟨n,rfl⟩:∃ k,n=k+1:=⟨n - 1,by omega⟩
 rw[q5u hX]
 simp only[qqd,qw7]
 rw[qoq hX (by omega),qc]
 unfold qp
 cases inR x 1 6<;>rfl
end
def rd (at':Int):Got→Int→Bool→Int×Bool
 | [],n,ok=>(n,ok)
 | p::l,n,ok=>if p.1=at' then rd at' l p.2.1 true else rd at' l n ok
theorem q6h (at':Int) (p:Pair):∀ (l:Got) (n:Int) (ok:Bool),rd at' (l++[p]) n ok=if p.1=at' then (p.2.1,true) else rd at' l n ok
 | [],n,ok=>by simp only[List.nil_append,rd]
 | q::l,n,ok=>by
  simp only[List.cons_append,rd]
  by_cases h:q.1=at'
  ·rw[if_pos h,if_pos h];exact q6h at' p l _ _
  ·rw[if_neg h,if_neg h];exact q6h at' p l _ _
def qv (got:Got) (at':Int):Int×Bool:=rd at' got 0 false
theorem qx1 (D:Den ctx) (n:Nat) (K:Int→Bool→Option ((Int×Bool×Unit)×Unit)) (got:Got) (hg:got.length≤1048576) (at':Int):∀ (m i:Nat) (v:Int) (ok:Bool),i≤got.length→got.length - i<m→
  qkn D n K m got at' v ok (i:Int)=K (rd at' (got.drop i) v ok).1 (rd at' (got.drop i) v ok).2
 | 0,_,_,_,_,h=>by omega
 | m+1,i,v,ok,hi,hf=>by
  simp only[qkn,qut]
  by_cases h:i<got.length
  ·rw[qk (by exact_mod_cast h),ix h,br_t,br_t,Int.toNat_natCast,qbk (by omega),qfq h,qkt h]
   simp only[rd]
   by_cases e:got[i].1=at'
   ·rw[qk e,if_pos e];exact qx1 D n K got hg at' m (i+1) _ _ (by omega) (by omega)
   ·rw[qh e,if_neg e];exact qx1 D n K got hg at' m (i+1) _ _ (by omega) (by omega)
  ·rw[qh (by exact_mod_cast h),qmw h];rfl
theorem q3n (D:Den ctx) (n:Nat) (K0:Int→Bool→Option ((Int×Bool×Unit)×Unit)) (K1:Option ((Int×Bool×Unit)×Unit)) (hK:K0 0 false=K1) (got:Got) (hg:got.length≤1048576) (at':Int):∀ (m k:Nat),k≤got.length→k<m→
  qkd D n K0 K1 m got at' ((k:Int) - 1)=K0 (qv (got.take k) at').1 (qv (got.take k) at').2
 | 0,_,_,h=>by omega
 | m+1,k,hk,hf=>by
  simp only[qkd,qu5]
  cases k with
  | zero=>
   rw[qh (by omega),List.take_zero]
   exact hK.symm
  | succ j=>
   have hj:j<got.length:=by omega
   have e1:(((j+1:Nat):Int) - 1)=(j:Int):=by omega
   have e2:IntKind.wrap IntKind.i64 ((j:Int) - 1)=(j:Int) - 1:=qb8 (by omega) (by omega)
   rw[e1,qk (by omega),ix hj,br_t,br_t,Int.toNat_natCast,e2,qfq hj,List.take_succ_eq_append_getElem hj]
   unfold qv
   rw[q6h]
   by_cases e:got[j].1=at'
   ·rw[qk e,if_pos e]
   ·rw[qh e,if_neg e]
    exact q3n D n K0 K1 hK got hg at' m j (by omega) (by omega)
theorem qd8 {X:Ext} (hX:XOk X) {n:Nat} (hn:W+1≤n) (got:Got) (hg:got.length≤1048576) (at':Int):qdg (DD X n) got at'=some (((qv got at').1,(qv got at').2,()),()):=by
 obtain ⟨n,rfl⟩:∃ k,n=k+1:=⟨n - 1,by omega⟩
 have hW:=qci
 rw[qbcf hX]
 simp only[qwn,qwi,qst]
 have e:=qx1 (DD X n) n (fun v0_0 v0_1=>qrc (DD X n) n v0_0 v0_1) got hg at' n 0 0 false (Nat.zero_le _) (by omega)
 rw[show ((0:Nat):Int)=0 from rfl] at e
 rw[e];rfl
theorem qez {X:Ext} (hX:XOk X) {n:Nat} (hn:W+1≤n) (got:Got) (hg:got.length≤1048576) (at':Int):qee (DD X n) got at'=some (((qv got at').1,(qv got at').2,()),()):=by
 obtain ⟨n,rfl⟩:∃ k,n=k+1:=⟨n - 1,by omega⟩
 have hW:=qci
 rw[qbcd hX]
 simp only[qwh,qwt,qs8]
 rw[qb8 (by omega) (by omega),q3n (DD X n) n (fun v0_0 v0_1=>qre (DD X n) n v0_0 v0_1) (qqy (DD X n) n) rfl got hg at' n got.length (Nat.le_refl _) (by omega),List.take_length]
 rfl
end Go.G

namespace Go.G
set_option maxRecDepth 100000
open Go Go.V Go.Proofs
structure Both (got:Got) (a:qcc) (w:Work) (k:Nat):Prop where
 g1:a.1=got
 g2:w.1=got
 miss:a.2.2.1=w.2.1
 over:a.2.2.2.1=w.2.2.1
 pl:a.2.1.length≤k
section
variable {X:Ext} (hX:XOk X) {n:Nat} (hn:W+6≤n) {got:Got} (hg:got.length≤1048576)
include hX hn hg
theorem qco {a:qcc} {w:Work} {k:Nat} (h:Both got a w k) (hk:k≤1000) (p:Int):∃ (v:Int) (a':qcc) (w':Work),qj (DD X n) a p=some ((v,()),(a',()))∧qy (DD X n) w p=some ((v,()),(w',()))∧Both got a' w' (k+1):=by
 obtain ⟨n,rfl⟩:∃ k,n=k+1:=⟨n - 1,by omega⟩
 have hb:=qhu
 obtain ⟨a1,a2,a3,a4,⟨⟩⟩:=a
 obtain ⟨w1,w2,w3,⟨⟩⟩:=w
 obtain ⟨g1,g2,hm,ho,hp⟩:=h
 dsimp only at g1 g2 hm ho hp
 subst g1;subst g2;subst hm;subst ho
 rw[qig hX,qiw hX]
 simp only[qfj,qgk,qiy,qlk]
 cases a4
 ·rw[br_f,br_f,qez hX (by omega) w1 hg,qc,qd8 hX (by omega) w1 hg,qc]
  dsimp only
  by_cases h0:p<0
  ·rw[decide_eq_true h0]
   cases (qv w1 p).2
   ·exact ⟨_,_,_,rfl,rfl,rfl,rfl,rfl,rfl,by show a2.length≤k+1;omega⟩
   ·exact ⟨_,_,_,rfl,rfl,rfl,rfl,rfl,rfl,by show a2.length≤k+1;omega⟩
  ·rw[decide_eq_false h0]
   cases (qv w1 p).2
   ·exact ⟨_,_,_,rfl,rfl,rfl,rfl,rfl,rfl,by show a2.length≤k+1;omega⟩
   ·refine ⟨_,(w1,a2++[p],a3,false,()),(w1,a3,false,()),?_,rfl,rfl,rfl,rfl,rfl,by simp;exact hp⟩
    rw[Bool.not_true,cond_false,br_f,qk (by omega)]
 ·exact ⟨_,_,_,rfl,rfl,rfl,rfl,rfl,rfl,by show a2.length≤k+1;omega⟩
theorem qkq {a:qcc} {w:Work} {k:Nat} (h:Both got a w k) (b:Bool):∃ (a':qcc) (w':Work),qw (DD X n) a b=some ((),(a',()))∧qfx (DD X n) w b=some ((),(w',()))∧Both got a' w' k:=by
 obtain ⟨n,rfl⟩:∃ k,n=k+1:=⟨n - 1,by omega⟩
 obtain ⟨a1,a2,a3,a4,⟨⟩⟩:=a
 obtain ⟨w1,w2,w3,⟨⟩⟩:=w
 obtain ⟨g1,g2,hm,ho,hp⟩:=h
 dsimp only at g1 g2 hm ho hp
 subst g1;subst g2;subst hm;subst ho
 rw[qhj hX,q1w hX]
 exact ⟨_,_,rfl,rfl,rfl,rfl,rfl,rfl,hp⟩
end
theorem qyk {X:Ext} (hX:XOk X) {n:Nat} (hn:1≤n) {a:qcc} (h:a.2.2.2.1=true) (p:Int):qj (DD X n) a p=some ((0,()),(a,())):=by
 obtain ⟨n,rfl⟩:∃ k,n=k+1:=⟨n - 1,by omega⟩
 rw[qig hX]
 simp only[qfj,qgk]
 rw[h,br_t]
theorem qq1 {X:Ext} (hX:XOk X) (N n:Nat) (hN:3≤N) (K:qcc→Option (Unit×qcc×Unit)) (l:List Int) (hl:l.length≤2) {a:qcc} (h:a.2.2.2.1=true):∀ (m i:Nat),l.length - i<m→
  qc5 (DD X N) n K m l (l.length:Int) (i:Int) a=K a
 | 0,_,h=>by omega
 | m+1,i,hf=>by
  simp only[qc5,qhi]
  by_cases hi:i<l.length
  ·rw[qk (by exact_mod_cast hi),ix hi,br_t,Int.toNat_natCast,qgv hX (by omega),qc]
   dsimp only
   rw[qyk hX (by omega) h,qc,qbk (by omega)]
   exact qq1 hX N n hN K l hl h m (i+1) (by omega)
  ·rw[qh (by exact_mod_cast hi)]
theorem q93 {X:Ext} (hX:XOk X) (N n:Nat) (hN:W+6≤N) {got:Got} (hg:got.length≤1048576) (KA:qcc→Option (Unit×qcc×Unit)) (KW:Work→Option (Unit×Work×Unit)) (c v:Int) (l:List Int) (hl:l.length≤2) (hv:v>IntKind.wrap IntKind.i64 (c+1)) :
  ∀ (m i k:Nat) (a:qcc) (w:Work),l.length - i<m→i≤l.length→k+(l.length - i)≤100→Both got a w k→∃ (a':qcc) (w':Work),qc5 (DD X N) n KA m l (l.length:Int) (i:Int) a=KA a'∧qhh (DD X N) n KW m c l v (i:Int) w=KW w'∧Both got a' w' 1000
 | 0,_,_,_,_,h,_,_,_=>by omega
 | m+1,i,k,a,w,hf,hil,hk,h=>by
  simp only[qc5,qhi,qhh,qn3]
  by_cases hi:i<l.length
  ·obtain ⟨x,a1,w1,e1,e2,h1⟩:=qco hX (n:=N) hN hg h (by omega) (qbc (l.getD i 0))
   rw[qk (by exact_mod_cast hi),ix hi,br_t,qk (by exact_mod_cast hi),qk hv,br_t,Int.toNat_natCast,qgv hX (by omega),qc,qkp hX (by omega),qc]
   dsimp only
   rw[e1,qc,e2,qc,qbk (by omega)]
   exact q93 hX N n hN hg KA KW c v l hl hv m (i+1) (k+1) a1 w1 (by omega) (by omega) (by omega) h1
  ·rw[qh (by exact_mod_cast hi),qh (by exact_mod_cast hi)]
   exact ⟨a,w,rfl,rfl,h.g1,h.g2,h.miss,h.over,by have:=h.pl;omega⟩
theorem q8w {X:Ext} (hX:XOk X) {n:Nat} (hn:W+8≤n) {got:Got} (hg:got.length≤1048576) {a:qcc} {w:Work} {k:Nat} (h:Both got a w k) (hk:k≤50) (c:Int) (l:List Int) (hl:l.length≤2) :
  ∃ (a':qcc) (w':Work),qer (DD X n) a c l=some ((),(a',()))∧qkg (DD X n) w c l=some ((),(w',()))∧a'.2.2.1=w'.2.1:=by
 obtain ⟨n,rfl⟩:∃ k,n=k+1:=⟨n - 1,by omega⟩
 have hW:=qci
 rw[qof hX,qba5 hX]
 simp only[qia,qii,qgz,qt8,qvl,qrn]
 obtain ⟨v,a1,w1,e1,e2,h1⟩:=qco hX (n:=n) (by omega) hg h (by omega) 13
 obtain ⟨a2,w2,e3,_,h2⟩:=qkq hX (n:=n) (by omega) hg h1 (decide (v≤IntKind.wrap IntKind.i64 (c+1)))
 rw[qdy hX (by omega),qc,qe9 hX (by omega),qc]
 dsimp only
 rw[e1,qc,e2,qc]
 dsimp only
 rw[e3,qc]
 dsimp only
 by_cases hv:v>IntKind.wrap IntKind.i64 (c+1)
 ·have h2':Both got a2 w1 (k+1):=by
   obtain ⟨m,rfl⟩:∃ k,n=k+1:=⟨n - 1,by omega⟩
   rw[qhj hX,decide_eq_false (show ¬ v≤_ by omega)] at e3
   simp only[qj0,qnr,Option.some.injEq,Prod.mk.injEq,true_and,and_true] at e3
   obtain ⟨q1,q2,q3,q4,q5⟩:=h1
   subst e3
   refine ⟨q1,q2,q3,?_,q5⟩
   show (bif a1.2.2.2.1 then true else false)=_
   rw[←q4];cases a1.2.2.2.1<;>rfl
  obtain ⟨a3,w3,r1,r2,r3⟩:=q93 hX n n (by omega) hg (fun v0_0=>qdl (DD X n) n v0_0) (fun v0_0=>qo2 (DD X n) n v0_0) c v l hl hv n 0 (k+1) a2 w1 (by omega) (Nat.zero_le _) (by omega) h2'
  rw[show ((0:Nat):Int)=0 from rfl] at r1 r2
  exact ⟨a3,w3,r1,r2,r3.miss⟩
 ·have ho:a2.2.2.2.1=true∧a2.2.2.1=a1.2.2.1:=by
   obtain ⟨m,rfl⟩:∃ k,n=k+1:=⟨n - 1,by omega⟩
   rw[qhj hX,decide_eq_true (show v≤_ by omega)] at e3
   simp only[qj0,qnr,Option.some.injEq,Prod.mk.injEq,true_and,and_true] at e3
   subst e3
   refine ⟨?_,rfl⟩
   show (bif a1.2.2.2.1 then true else true)=true
   cases a1.2.2.2.1<;>rfl
  have r1:=qq1 hX n n (by omega) (fun v0_0=>qdl (DD X n) n v0_0) l hl ho.1 n 0 (by omega)
  rw[show ((0:Nat):Int)=0 from rfl] at r1
  refine ⟨a2,w1,r1,?_,ho.2.trans h1.miss⟩
  obtain ⟨m,rfl⟩:∃ k,n=k+1:=⟨n - 1,by omega⟩
  simp only[qhh,qn3]
  by_cases h0:(0:Int)<(l.length:Int)
  ·rw[qk h0,qh hv];rfl
  ·rw[qh h0];rfl
end Go.G

namespace Go.G
set_option maxRecDepth 100000
open Go Go.V Go.Proofs
section
variable {X:Ext} (hX:XOk X) {n:Nat} {got:Got} (hg:got.length≤1048576)
include hX hg
theorem qbjf (hn:W+10≤n) {a:qcc} {w:Work} {k:Nat} (h:Both got a w k) (hk:k≤10) (o:Op3) (h1:o.1=1) :
  ∃ (a':qcc) (w':Work),qcm (DD X n) a o=some ((),(a',()))∧qvj (DD X n) w o=some ((),(w',()))∧a'.2.2.1=w'.2.1:=by
 obtain ⟨n,rfl⟩:∃ k,n=k+1:=⟨n - 1,by omega⟩
 obtain ⟨v1,a1,w1,e1,f1,b1⟩:=qco hX (n:=n) (by omega) hg h (by omega) (qz o.2.1)
 obtain ⟨a2,w2,e2,f2,b2⟩:=qkq hX (n:=n) (by omega) hg b1 (v1 != 0)
 obtain ⟨v3,a3,w3,e3,f3,b3⟩:=qco hX (n:=n) (by omega) hg b2 (by omega) (qbe o.2.2.1)
 obtain ⟨a4,w4,e4,f4,b4⟩:=qkq hX (n:=n) (by omega) hg b3 (v3 != 0)
 obtain ⟨v5,a5,w5,e5,f5,b5⟩:=qco hX (n:=n) (by omega) hg b4 (by omega) (qbl (qp o.2.2.1))
 obtain ⟨a6,w6,e6,f6,b6⟩:=q8w hX (n:=n) (by omega) hg b5 (by omega) o.2.1 [o.2.2.1] (by simp)
 rw[qe7 hX,q9u hX]
 simp only[qdk,qef,qt7,q0c]
 simp only[qd1 hX (n:=n) (by omega),qep hX (n:=n) (by omega),qfg hX (n:=n) (by omega),qhv hX (n:=n) (by omega),qgq hX (n:=n) (by omega),qjh hX (n:=n) (by omega),qff hX (n:=n) (by omega),qjg hX (n:=n) (by omega),qc,e1,f1,e2,f2,e3,f3,e4,f4,e5,f5,e6,f6,qk h1]
 exact ⟨a6,w6,rfl,rfl,b6⟩
theorem qbjc (hn:W+10≤n) {a:qcc} {w:Work} {k:Nat} (h:Both got a w k) (hk:k≤10) (o:Op3) (h1:¬ o.1=1) (h2:o.1=2) :
  ∃ (a':qcc) (w':Work),qcm (DD X n) a o=some ((),(a',()))∧qug (DD X n) w o=some ((),(w',()))∧a'.2.2.1=w'.2.1:=by
 obtain ⟨n,rfl⟩:∃ k,n=k+1:=⟨n - 1,by omega⟩
 obtain ⟨v1,a1,w1,e1,f1,b1⟩:=qco hX (n:=n) (by omega) hg h (by omega) (qz o.2.1)
 obtain ⟨a2,w2,e2,f2,b2⟩:=qkq hX (n:=n) (by omega) hg b1 (bif decide (v1=0) then true else decide (v1=o.2.2.1))
 obtain ⟨v3,a3,w3,e3,f3,b3⟩:=qco hX (n:=n) (by omega) hg b2 (by omega) (qbe o.2.2.1)
 obtain ⟨a4,w4,e4,f4,b4⟩:=qkq hX (n:=n) (by omega) hg b3 (v3 != 0)
 obtain ⟨v5,a5,w5,e5,f5,b5⟩:=qco hX (n:=n) (by omega) hg b4 (by omega) (qbe v1)
 obtain ⟨v6,a6,w6,e6,f6,b6⟩:=qco hX (n:=n) (by omega) hg b5 (by omega) (qbl (qp v1))
 obtain ⟨v7,a7,w7,e7,f7,b7⟩:=qco hX (n:=n) (by omega) hg b6 (by omega) (qbl (qp o.2.2.1))
 obtain ⟨a8,w8,e8,f8,b8⟩:=q8w hX (n:=n) (by omega) hg b7 (by omega) o.2.1 [v1,o.2.2.1] (by simp)
 obtain ⟨a9,w9,e9,f9,b9⟩:=q8w hX (n:=n) (by omega) hg b5 (by omega) o.2.1 [v1,o.2.2.1] (by simp)
 rw[qe7 hX,q9w hX]
 simp only[qdk,qef,qva,qzo]
 simp only[qd1 hX (n:=n) (by omega),qep hX (n:=n) (by omega),qfg hX (n:=n) (by omega),qhv hX (n:=n) (by omega),qgq hX (n:=n) (by omega),qjh hX (n:=n) (by omega),qff hX (n:=n) (by omega),qjg hX (n:=n) (by omega),qc,e1,f1,e2,f2,e3,f3,e4,f4,e5,f5,qh h1,qk h2]
 cases hc:(qp v1 != qp o.2.2.1)
 ·simp only[br_f,e9,f9,qc]
  exact ⟨a9,w9,rfl,rfl,b9⟩
 ·simp only[br_t,e6,f6,e7,f7,e8,f8,qc]
  exact ⟨a8,w8,rfl,rfl,b8⟩
theorem qbje (hn:W+10≤n) {a:qcc} {w:Work} {k:Nat} (h:Both got a w k) (hk:k≤10) (o:Op3) (h1:¬ o.1=1) (h2:¬ o.1=2) :
  ∃ (a':qcc) (w':Work),qcm (DD X n) a o=some ((),(a',()))∧qt5 (DD X n) w o=some ((),(w',()))∧a'.2.2.1=w'.2.1:=by
 obtain ⟨n,rfl⟩:∃ k,n=k+1:=⟨n - 1,by omega⟩
 obtain ⟨v1,a1,w1,e1,f1,b1⟩:=qco hX (n:=n) (by omega) hg h (by omega) (qz o.2.1)
 obtain ⟨a2,w2,e2,f2,b2⟩:=qkq hX (n:=n) (by omega) hg b1 (decide (v1=0))
 obtain ⟨v3,a3,w3,e3,f3,b3⟩:=qco hX (n:=n) (by omega) hg b2 (by omega) (qbe v1)
 obtain ⟨v5,a5,w5,e5,f5,b5⟩:=qco hX (n:=n) (by omega) hg b3 (by omega) (qbl (qp v1))
 obtain ⟨a6,w6,e6,f6,b6⟩:=q8w hX (n:=n) (by omega) hg b5 (by omega) o.2.1 [v1] (by simp)
 rw[qe7 hX,qbaq hX]
 simp only[qdk,qef,qvh,qza]
 simp only[qd1 hX (n:=n) (by omega),qep hX (n:=n) (by omega),qfg hX (n:=n) (by omega),qhv hX (n:=n) (by omega),qgq hX (n:=n) (by omega),qjh hX (n:=n) (by omega),qff hX (n:=n) (by omega),qjg hX (n:=n) (by omega),qc,e1,f1,e2,f2,e3,f3,e5,f5,e6,f6,qh h1,qh h2]
 exact ⟨a6,w6,rfl,rfl,b6⟩
theorem q7g (N n:Nat) (hN:W+6≤N) (KA:qcc→Option ((qcc×Unit)×Unit)) (KW:Work→Option ((Work×Unit)×Unit)):∀ (m i k:Nat) (a:qcc) (w:Work),4 - i<m→i≤4→k≤i→Both got a w k→∃ (a':qcc) (w':Work),
  qeb (DD X N) n KA m (i:Int) a=KA a'∧qi4 (DD X N) n KW m (i:Int) w=KW w'∧a'.2.2.1=w'.2.1
 | 0,_,_,_,_,h,_,_,_=>by omega
 | m+1,i,k,a,w,hf,hi,hk,h=>by
  simp only[qeb,qit,qi4,qsx]
  by_cases h4:(i:Int)<4
  ·obtain ⟨v,a1,w1,e1,f1,b1⟩:=qco hX (n:=N) hN hg h (by omega) (qz (i:Int))
   rw[qk h4,qk h4,qd1 hX (by omega),qc,qep hX (by omega),qc]
   dsimp only
   rw[e1,qc,f1,qc,qbk (by omega)]
   exact q7g N n hN KA KW m (i+1) (k+1) a1 w1 (by omega) (by omega) (by omega) b1
  ·rw[qh h4,qh h4]
   exact ⟨a,w,rfl,rfl,h.miss⟩
end
theorem q68 {X:Ext} (hX:XOk X) {n:Nat} (hn:1≤n) (a:qcc) (b:Bool):∃ a',qw (DD X n) a b=some ((),(a',()))∧a'.2.2.1=a.2.2.1∧(b=true→a'.2.2.2.1=true)∧(b=false→a'=a):=by
 obtain ⟨n,rfl⟩:∃ k,n=k+1:=⟨n - 1,by omega⟩
 obtain ⟨a1,a2,a3,a4,⟨⟩⟩:=a
 rw[qhj hX]
 refine ⟨_,rfl,rfl,fun h=>?_,fun h=>?_⟩
 ·subst h;cases a4<;>rfl
 ·subst h;cases a4<;>rfl
theorem q7h {X:Ext} (hX:XOk X) {n:Nat} (hn:W+6≤n) {a a':qcc} (hg:a.1.length≤1048576) {p v:Int} (h:qj (DD X n) a p=some ((v,()),(a',()))) :
  (a'.2.2.2.1=true→v=0)∧(a'.2.2.2.1=false→a'.2.2.1=a.2.2.1∧a.2.2.2.1=false):=by
 obtain ⟨n,rfl⟩:∃ k,n=k+1:=⟨n - 1,by omega⟩
 obtain ⟨a1,a2,a3,a4,⟨⟩⟩:=a
 dsimp only at hg
 rw[qig hX] at h
 simp only[qfj,qgk] at h
 cases a4
 ·rw[br_f,qez hX (by omega) a1 hg,qc] at h
  dsimp only at h
  cases hc:(bif decide (p<0) then true else !(qv a1 p).2)
  ·rw[hc,br_f] at h
   by_cases hb:a2.length+1≤qem
   ·rw[qk hb] at h
    simp only[Option.some.injEq,Prod.mk.injEq,and_true] at h
    obtain ⟨_,h⟩:=h
    subst h
    exact ⟨(fun k=>nomatch k),fun _=>⟨rfl,rfl⟩⟩
   ·rw[qh hb] at h;cases h
  ·rw[hc,br_t] at h
   simp only[Option.some.injEq,Prod.mk.injEq,and_true] at h
   obtain ⟨h1,h⟩:=h
   subst h
   exact ⟨fun _=>h1.symm,fun k=>nomatch k⟩
 ·rw[br_t] at h
  simp only[Option.some.injEq,Prod.mk.injEq,and_true] at h
  obtain ⟨h1,h⟩:=h
  subst h
  exact ⟨fun _=>h1.symm,fun k=>nomatch k⟩
section
variable {X:Ext} (hX:XOk X) {n:Nat} {got:Got} (hg:got.length≤1048576)
include hX hg
theorem qbgu (hn:W+8≤n) {a:qcc} {w:Work} {k:Nat} (h:Both got a w k) (hk:k≤20) (v:Int) (hz:a.2.2.2.1=true→v=0) (hmi:a.2.2.2.1=false→a.2.2.1 = -1) :
  ∃ (a1 a2:qcc) (x:Int) (w':Work),qw (DD X n) a (!inR v 1 6)=some ((),(a1,()))∧qj (DD X n) a1 (qbc v)=some ((x,()),(a2,()))∧
   (if v=0 then w'=w else ∃ y:Int,qy (DD X n) w (qbc v)=some ((y,()),(w',())))∧a2.2.2.1=w'.2.1:=by
 obtain ⟨a1,e1,m1,o1,s1⟩:=q68 hX (n:=n) (by omega) a (!inR v 1 6)
 cases hv:inR v 1 6
 ·rw[hv] at e1 o1 s1
  have ho:=o1 rfl
  refine ⟨a1,a1,0,?_⟩
  by_cases h0:v=0
  ·exact ⟨w,e1,qyk hX (by omega) ho _,by rw[if_pos h0],m1.trans h.miss⟩
  ·have hov:a.2.2.2.1=false:=by
    cases q:a.2.2.2.1
    ·rfl
    ·exact absurd (hz q) h0
   have hvia:qbc v = -1:=by unfold qbc;rw[hv];rfl
   obtain ⟨n,rfl⟩:∃ k,n=k+1:=⟨n - 1,by omega⟩
   obtain ⟨w1,w2,w3,⟨⟩⟩:=w
   obtain ⟨g1,g2,hm,hoo,hp⟩:=h
   dsimp only at g2 hm hoo
   rw[hov] at hoo
   subst hoo
   refine ⟨(w1,-1,true,()),e1,qyk hX (by omega) ho _,?_,m1.trans (hmi hov)⟩
   rw[if_neg h0,hvia,qiw hX]
   simp only[qiy,qlk]
   rw[br_f,qd8 hX (by omega) w1 (by rw[g2];exact hg),qc]
   refine ⟨0,?_⟩
   dsimp only
   rw[decide_eq_true (show (-1:Int)<0 by decide)]
   cases (qv w1 (-1)).2<;>rfl
 ·rw[hv] at e1 o1 s1
  obtain rfl:=s1 rfl
  obtain ⟨x,a2,w2,e2,f2,b2⟩:=qco hX (n:=n) (by omega) hg h (by omega) (qbc v)
  have h0:¬ v=0:=by
   have:=qb2.1 hv
   omega
  exact ⟨a1,a2,x,w2,e1,e2,by rw[if_neg h0];exact ⟨x,f2⟩,b2.miss⟩
end
end Go.G

namespace Go.G
set_option maxRecDepth 100000
open Go Go.V Go.Proofs
theorem qbe6 (v:Int):(bif decide (v<1) then true else decide (v>4))=!inR v 1 4:=by
 by_cases h:v<1
 ·rw[decide_eq_true h,qku (by omega)];rfl
 ·by_cases h4:v>4
  ·rw[decide_eq_false h,decide_eq_true h4,qku (by omega)];rfl
  ·rw[decide_eq_false h,decide_eq_false h4,qb2.2 (by omega)];rfl
theorem qbhs {X:Ext} (hX:XOk X) {n:Nat} (hn:W+12≤n) (got:Got) (hg:got.length≤1048576) (o:Op3) :
  ∃ (a':qcc) (w':Work),qpn (DD X n) o got=some ((a',()),())∧quh (DD X n) o got=some ((w',()),())∧a'.2.2.1=w'.2.1:=by
 obtain ⟨n,rfl⟩:∃ k,n=k+1:=⟨n - 1,by omega⟩
 have hW:=qci
 have h0:Both got (got,[],-1,false,()) (got,-1,false,()) 0:=⟨rfl,rfl,rfl,rfl,Nat.le_refl _⟩
 rw[q0b hX,qbbg hX]
 simp only[qpd,qpg,qm9,quw,qt9,qq4]
 by_cases h1:o.1=1
 ·obtain ⟨a,w,e,f,b⟩:=qbjf hX hg (n:=n) (by omega) h0 (by omega) o h1
  simp only[qk h1,e,f,qc]
  exact ⟨a,w,rfl,rfl,b⟩
 by_cases h2:o.1=2
 ·obtain ⟨a,w,e,f,b⟩:=qbjc hX hg (n:=n) (by omega) h0 (by omega) o h1 h2
  simp only[qh h1,qk h2,e,f,qc]
  exact ⟨a,w,rfl,rfl,b⟩
 by_cases h3:o.1=3
 ·obtain ⟨a,w,e,f,b⟩:=qbje hX hg (n:=n) (by omega) h0 (by omega) o h1 h2
  simp only[qh h1,qh h2,qk h3,e,f,qc]
  exact ⟨a,w,rfl,rfl,b⟩
 by_cases h4:o.1=4
 ·obtain ⟨v,a,w,e,f,b⟩:=qco hX (n:=n) (by omega) hg h0 (by omega) (qz o.2.1)
  simp only[qh h1,qh h2,qh h3,qk h4,qd1 hX (n:=n) (by omega),qep hX (n:=n) (by omega),e,f,qc]
  exact ⟨a,w,rfl,rfl,b.miss⟩
 by_cases h5:o.1=5
 ·obtain ⟨v,a,w,e,f,b⟩:=qco hX (n:=n) (by omega) hg h0 (by omega) (qbe o.2.2.1)
  simp only[qh h1,qh h2,qh h3,qh h4,qk h5,qfg hX (n:=n) (by omega),qhv hX (n:=n) (by omega),e,f,qc]
  exact ⟨a,w,rfl,rfl,b.miss⟩
 by_cases h6:o.1=6
 ·obtain ⟨v,a,w,e,f,b⟩:=qco hX (n:=n) (by omega) hg h0 (by omega) (qbl o.2.1)
  simp only[qh h1,qh h2,qh h3,qh h4,qh h5,qk h6,qff hX (n:=n) (by omega),qjg hX (n:=n) (by omega),e,f,qc]
  exact ⟨a,w,rfl,rfl,b.miss⟩
 by_cases h7:o.1=7
 ·obtain ⟨a,w,e,f,b⟩:=q7g hX hg n n (by omega) (fun v0_0=>ql6 (DD X n) n v0_0) (fun v0_0=>qpr (DD X n) n v0_0) n 0 0 _ _ (by omega) (by omega) (Nat.le_refl _) h0
  rw[show ((0:Nat):Int)=0 from rfl] at e f
  simp only[qh h1,qh h2,qh h3,qh h4,qh h5,qh h6,qk h7,e,f]
  exact ⟨a,w,rfl,rfl,b⟩
 by_cases h8:o.1=8
 ·obtain ⟨v,a,w,e,f,b⟩:=qco hX (n:=n) (by omega) hg h0 (by omega) 13
  simp only[qh h1,qh h2,qh h3,qh h4,qh h5,qh h6,qh h7,qk h8,qdy hX (n:=n) (by omega),qe9 hX (n:=n) (by omega),e,f,qc]
  exact ⟨a,w,rfl,rfl,b.miss⟩
 by_cases h9:o.1=9
 ·obtain ⟨v1,a1,w1,e1,f1,b1⟩:=qco hX (n:=n) (by omega) hg h0 (by omega) 13
  obtain ⟨v1',a1',w1',e1',f1',b1'⟩:=qco hX (n:=n - 1) (by omega) hg h0 (by omega) 13
  obtain ⟨m,rfl⟩:∃ k,n=k+1:=⟨n - 1,by omega⟩
  have mk:∃ (a':qcc) (w':Work),(qd (qbo (DD X (m+1))) fun b=>qd (qj (DD X (m+1)) (got,[],-1,false,()) b.1.1) fun b=>qd (qw (DD X (m+1)) b.2.1 (bif decide (b.1.1<1) then true else decide (b.1.1>4))) fun b_1=>qd (qcs (DD X (m+1)) (IntKind.wrap IntKind.i64 (b.1.1 - 1))) fun b=>qd (qj (DD X (m+1)) b_1.2.1 b.1.1) fun b=>qd (qbt (DD X (m+1)) b.1.1) fun b_2=>qd (qw (DD X (m+1)) b.2.1 (!b_2.1.1)) fun b_3=>qd (qct (DD X (m+1)) b.1.1) fun b=>qd (qj (DD X (m+1)) b_3.2.1 b.1.1) fun b=>some ((b.2.1,()),()))=some ((a',()),())∧
    qs3 (DD X (m+1)) (got,-1,false,())=some ((),(w',()))∧a'.2.2.1=w'.2.1:=by
   rw[q8o hX]
   simp only[qsr,qy2]
   rw[qdy hX (by omega),qc,qe9 hX (by omega),qc]
   dsimp only
   have hstep:∀ {a:qcc} {w:Work} {k:Nat},Both got a w k→k≤100→∀ p:Int,∃ (v:Int) (a':qcc) (w':Work),qj (DD X (m+1)) a p=some ((v,()),(a',()))∧qy (DD X m) w p=some ((v,()),(w',()))∧Both got a' w' (k+1):=by
    intro a w k h hk p
    obtain ⟨v,a',w',e,f,b⟩:=qco hX (n:=m+1) (by omega) hg h (by omega) p
    obtain ⟨v2,a2,w2,e2,f2,b2⟩:=qco hX (n:=m) (by omega) hg h (by omega) p
    have q:qy (DD X (m+1)) w p=qy (DD X m) w p:=by
     obtain ⟨m,rfl⟩:∃ k,m=k+1:=⟨m - 1,by omega⟩
     rw[qiw hX,qiw hX]
     simp only[qiy,qlk]
     rw[qd8 hX (by omega) w.1 (by rw[h.g2];exact hg),qd8 hX (by omega) w.1 (by rw[h.g2];exact hg)]
    exact ⟨v,a',w',e,by rw[←q];exact f,b⟩
   obtain ⟨v1,a1,w1,e1,f1,b1⟩:=hstep h0 (by omega) 13
   have k1:=q7h hX (n:=m+1) (by omega) (a:=(got,[],-1,false,())) hg e1
   rw[e1,qc,f1,qc]
   dsimp only
   rw[qbe6,qse hX (by omega),qc]
   dsimp only
   obtain ⟨a2,w2,e2,f2,b2⟩:=qkq hX (n:=m+1) (by omega) hg b1 (!inR v1 1 4)
   obtain ⟨a2',s1,s2,s3,s4⟩:=q68 hX (n:=m+1) (by omega) a1 (!inR v1 1 4)
   rw[e2] at s1
   simp only[Option.some.injEq,Prod.mk.injEq,true_and,and_true] at s1
   subst s1
   have q2:qfx (DD X m) w1 (!inR v1 1 4)=some ((),(w2,())):=by
    obtain ⟨m,rfl⟩:∃ k,m=k+1:=⟨m - 1,by omega⟩
    rw[q1w hX] at f2 ⊢
    exact f2
   rw[e2,qc,q2,qc]
   dsimp only
   rw[qd1 hX (by omega),qc,qep hX (by omega),qc]
   dsimp only
   obtain ⟨v3,a3,w3,e3,f3,b3⟩:=hstep b2 (by omega) (qz (IntKind.wrap IntKind.i64 (v1 - 1)))
   have k3:=q7h hX (n:=m+1) (by omega) (a:=a2) (by rw[b2.g1];exact hg) e3
   have hmi:a3.2.2.2.1=false→a3.2.2.1 = -1:=fun h=>by
    obtain ⟨r1,r2⟩:=k3.2 h
    have hb:(!inR v1 1 4)=false:=by
     cases q:(!inR v1 1 4)
     ·rfl
     ·have:=s3 q;rw[r2] at this;cases this
    have ea:=s4 hb
    subst ea
    exact r1.trans (k1.2 r2).1
   rw[e3,qc,f3,qc]
   dsimp only
   obtain ⟨a4,a5,x,w5,e4,e5,f5,hm⟩:=qbgu hX hg (n:=m+1) (by omega) b3 (by omega) v3 k3.1 hmi
   rw[qkr hX (by omega),qc]
   dsimp only
   rw[e4,qc]
   dsimp only
   rw[qgv hX (by omega),qc]
   dsimp only
   rw[e5,qc]
   by_cases hv:v3=0
   ·rw[if_pos hv] at f5
    subst f5
    subst hv
    exact ⟨a5,_,rfl,rfl,hm⟩
   ·rw[if_neg hv] at f5
    obtain ⟨y,f5⟩:=f5
    have q:qy (DD X (m+1)) w3 (qbc v3)=qy (DD X m) w3 (qbc v3):=by
     obtain ⟨m,rfl⟩:∃ k,m=k+1:=⟨m - 1,by omega⟩
     rw[qiw hX,qiw hX]
     simp only[qiy,qlk]
     rw[qd8 hX (by omega) w3.1 (by rw[b3.g2];exact hg),qd8 hX (by omega) w3.1 (by rw[b3.g2];exact hg)]
    rw[q] at f5
    refine ⟨a5,w5,rfl,?_,hm⟩
    rw[bne_iff_ne.2 hv,br_t,qkp hX (by omega),qc]
    dsimp only
    rw[f5,qc]
  obtain ⟨a,w,e,f,b⟩:=mk
  simp only[qh h1,qh h2,qh h3,qh h4,qh h5,qh h6,qh h7,qh h8,qk h9]
  refine ⟨a,w,e,?_,b⟩
  rw[f,qc]
 by_cases h10:o.1=10
 ·obtain ⟨v1,a1,w1,e1,f1,b1⟩:=qco hX (n:=n) (by omega) hg h0 (by omega) 13
  obtain ⟨a2,w2,e2,f2,b2⟩:=qkq hX (n:=n) (by omega) hg b1 (v1 != 5)
  obtain ⟨v3,a3,w3,e3,f3,b3⟩:=qco hX (n:=n) (by omega) hg b2 (by omega) (qbc o.2.2.1)
  simp only[qh h1,qh h2,qh h3,qh h4,qh h5,qh h6,qh h7,qh h8,qh h9,qk h10,qdy hX (n:=n) (by omega),qe9 hX (n:=n) (by omega),qgv hX (n:=n) (by omega),qkp hX (n:=n) (by omega),e1,f1,e2,f2,e3,f3,qc]
  exact ⟨a3,w3,rfl,rfl,b3.miss⟩
 ·simp only[qh h1,qh h2,qh h3,qh h4,qh h5,qh h6,qh h7,qh h8,qh h9,qh h10]
  exact ⟨_,_,rfl,rfl,rfl⟩
end Go.G

namespace Go.G
set_option maxRecDepth 100000
open Go Go.V Go.Proofs
def hit (got:Got) (p:Int):Bool:=decide (0≤p)&&(qv got p).2
inductive PR where
 | done
 | ask (p:Int) (k:Int→PR)
def run (got:Got):PR→List Int×Int
 | .done=>([],-1)
 | .ask p k=>bif hit got p then (p::(run got (k (qv got p).1)).1,(run got (k (qv got p).1)).2) else ([],p)
theorem qcx {got:Got} {p:Int} {k:Int→PR} (h:hit got p=false):run got (.ask p k)=([],p):=by
 simp only[run];rw[h];rfl
theorem qdh {got:Got} {p:Int} {k:Int→PR} (h:hit got p=true):run got (.ask p k)=(p::(run got (k (qv got p).1)).1,(run got (k (qv got p).1)).2):=by
 simp only[run];rw[h];rfl
def qv9:List Int→PR
 | []=>.done
 | v::l=>.ask (qbc v) fun _=>qv9 l
def qlp (k:Int) (l:List Int):PR:=.ask 13 fun st=>bif decide (st≤IntKind.wrap IntKind.i64 (k+1)) then .done else qv9 l
def qow (o:Op3):PR:=.ask (qz o.2.1) fun r=>bif r != 0 then .done else .ask (qbe o.2.2.1) fun w=>bif w != 0 then .done else .ask (qbl (qp o.2.2.1)) fun _=>qlp o.2.1 [o.2.2.1]
def qot (o:Op3):PR:=.ask (qz o.2.1) fun r=>bif (bif decide (r=0) then true else decide (r=o.2.2.1)) then .done else .ask (qbe o.2.2.1) fun w=>bif w != 0 then .done else .ask (qbe r) fun _=>
 bif qp r != qp o.2.2.1 then .ask (qbl (qp r)) fun _=>.ask (qbl (qp o.2.2.1)) fun _=>qlp o.2.1 [r,o.2.2.1] else qlp o.2.1 [r,o.2.2.1]
def qt0 (o:Op3):PR:=.ask (qz o.2.1) fun r=>bif decide (r=0) then .done else .ask (qbe r) fun _=>.ask (qbl (qp r)) fun _=>qlp o.2.1 [r]
def qms:PR:=.ask 13 fun st=>bif (bif decide (st<1) then true else decide (st>4)) then .done else .ask (qz (IntKind.wrap IntKind.i64 (st - 1))) fun r=>bif !inR r 1 6 then .done else .ask (qbc r) fun _=>.done
def qnj (o:Op3):PR:=.ask 13 fun st=>bif st != 5 then .done else .ask (qbc o.2.2.1) fun _=>.done
def qmc:PR:=.ask 0 fun _=>.ask 1 fun _=>.ask 2 fun _=>.ask 3 fun _=>.done
def prog (o:Op3):PR:=
 if o.1=1 then qow o else if o.1=2 then qot o else if o.1=3 then qt0 o else
 if o.1=4 then .ask (qz o.2.1) fun _=>.done else if o.1=5 then .ask (qbe o.2.2.1) fun _=>.done else if o.1=6 then .ask (qbl o.2.1) fun _=>.done else
 if o.1=7 then qmc else if o.1=8 then .ask 13 fun _=>.done else if o.1=9 then qms else if o.1=10 then qnj o else .done
section
variable {X:Ext} (hX:XOk X) {n:Nat} {got:Got}
include hX
theorem qqr (hn:1≤n) (pl:List Int) (m p:Int):qj (DD X n) (got,pl,m,true,()) p=some ((0,()),((got,pl,m,true,()),())):=qyk hX hn rfl p
theorem qr4 (hn:1≤n) (pl:List Int) (m:Int) (o b:Bool):qw (DD X n) (got,pl,m,o,()) b=some ((),((got,pl,m,bif o then true else b,()),())):=by
 obtain ⟨n,rfl⟩:∃ k,n=k+1:=⟨n - 1,by omega⟩
 rw[qhj hX];rfl
theorem qek (hn:W+2≤n) (hg:got.length≤1048576) {pl:List Int} (hl:pl.length≤1000) (m:Int) {p:Int} (h:hit got p=true) :
  qj (DD X n) (got,pl,m,false,()) p=some (((qv got p).1,()),((got,pl++[p],m,false,()),())):=by
 obtain ⟨n,rfl⟩:∃ k,n=k+1:=⟨n - 1,by omega⟩
 have hb:=qhu
 unfold hit at h
 simp only[Bool.and_eq_true,decide_eq_true_eq] at h
 rw[qig hX]
 simp only[qfj,qgk]
 rw[br_f,qez hX (by omega) got hg,qc]
 dsimp only
 rw[decide_eq_false (by omega:¬ p<0),h.2,Bool.not_true,cond_false,br_f,qk (by omega)]
theorem qdp (hn:W+2≤n) (hg:got.length≤1048576) (pl:List Int) (m:Int) {p:Int} (h:hit got p=false) :
  qj (DD X n) (got,pl,m,false,()) p=some ((0,()),((got,pl,p,true,()),())):=by
 obtain ⟨n,rfl⟩:∃ k,n=k+1:=⟨n - 1,by omega⟩
 unfold hit at h
 rw[qig hX]
 simp only[qfj,qgk]
 rw[br_f,qez hX (by omega) got hg,qc]
 dsimp only
 have:(bif decide (p<0) then true else !(qv got p).2)=true:=by
  by_cases h0:p<0
  ·rw[decide_eq_true h0];rfl
  ·rw[decide_eq_false h0]
   rw[decide_eq_true (by omega:0≤p),Bool.true_and] at h
   rw[h];rfl
 rw[this,br_t]
theorem qbg9 (N m0:Nat) (hN:W+4≤N) (hg:got.length≤1048576) (K:qcc→Option (Unit×qcc×Unit)) (l:List Int) (hl:l.length≤2):∀ (m i:Nat) (pl:List Int),l.length - i<m→i≤l.length→pl.length≤20+i→
  ∃ b,qc5 (DD X N) n K m l (l.length:Int) (i:Int) (got,pl,-1,false,())=K (got,pl++(run got (qv9 (l.drop i))).1,(run got (qv9 (l.drop i))).2,b,())
 | 0,_,_,h,_,_=>by omega
 | m+1,i,pl,hf,hi,hp=>by
  simp only[qc5,qhi]
  by_cases h:i<l.length
  ·rw[qk (by exact_mod_cast h),ix h,br_t,Int.toNat_natCast,qgv hX (by omega),qc,qfq h]
   dsimp only
   rw[qkt h]
   simp only[qv9]
   rw[qbk (by omega)]
   cases hh:hit got (qbc l[i])
   ·rw[qdp hX (by omega) hg _ _ hh,qc,qcx hh]
    dsimp only
    rw[qq1 hX N n (by omega) K l hl (by rfl) m (i+1) (by omega)]
    exact ⟨true,by rw[List.append_nil]⟩
   ·rw[qek hX (by omega) hg (by omega) _ hh,qc,qdh hh]
    dsimp only
    obtain ⟨b,e⟩:=qbg9 N m0 hN hg K l hl m (i+1) (pl++[qbc l[i]]) (by omega) (by omega) (by rw[List.length_append];simp only[List.length_cons,List.length_nil];omega)
    rw[e]
    exact ⟨b,by rw[List.append_assoc];rfl⟩
  ·rw[qh (by exact_mod_cast h),qmw h]
   exact ⟨false,by simp only[qv9,run];rw[List.append_nil]⟩
theorem q3c (hn:W+6≤n) (hg:got.length≤1048576) {pl:List Int} (hp:pl.length≤10) (c:Int) (l:List Int) (hl:l.length≤2) :
  ∃ b,qer (DD X n) (got,pl,-1,false,()) c l=some ((),((got,pl++(run got (qlp c l)).1,(run got (qlp c l)).2,b,()),())):=by
 obtain ⟨n,rfl⟩:∃ k,n=k+1:=⟨n - 1,by omega⟩
 have hW:=qci
 rw[qof hX]
 simp only[qia,qii,qgz]
 rw[qdy hX (by omega),qc]
 dsimp only
 unfold qlp
 cases h:hit got 13
 ·rw[qdp hX (by omega) hg _ _ h,qc,qcx h]
  dsimp only
  rw[qr4 hX (by omega),qc]
  dsimp only
  rw[cond_true]
  have e:=qq1 hX n n (by omega) (fun v0_0=>qdl (DD X n) n v0_0) l hl (a:=(got,pl,13,true,())) rfl n 0 (by omega)
  rw[show ((0:Nat):Int)=0 from rfl] at e
  rw[e]
  exact ⟨true,by rw[List.append_nil];rfl⟩
 ·rw[qek hX (by omega) hg (by omega) _ h,qc,qdh h]
  dsimp only
  rw[qr4 hX (by omega),qc]
  dsimp only
  rw[cond_false]
  cases hs:decide ((qv got 13).1≤IntKind.wrap IntKind.i64 (c+1))
  ·rw[cond_false]
   obtain ⟨b,e⟩:=qbg9 hX n 0 (by omega) hg (fun v0_0=>qdl (DD X n) n v0_0) l hl n 0 (pl++[13]) (by omega) (by omega) (by rw[List.length_append];simp only[List.length_cons,List.length_nil];omega)
   rw[show ((0:Nat):Int)=0 from rfl,List.drop_zero] at e
   rw[e]
   exact ⟨b,by rw[List.append_assoc];rfl⟩
  ·rw[cond_true]
   have e:=qq1 hX n n (by omega) (fun v0_0=>qdl (DD X n) n v0_0) l hl (a:=(got,pl++[13],-1,true,())) rfl n 0 (by omega)
   rw[show ((0:Nat):Int)=0 from rfl] at e
   rw[e]
   exact ⟨true,rfl⟩
theorem q17 (hn:5≤n) (pl:List Int) (m c:Int) (l:List Int) (hl:l.length≤2) (hW2:W+6≤n):qer (DD X n) (got,pl,m,true,()) c l=some ((),((got,pl,m,true,()),())):=by
 obtain ⟨n,rfl⟩:∃ k,n=k+1:=⟨n - 1,by omega⟩
 have hW:=qci
 rw[qof hX]
 simp only[qia,qii,qgz]
 rw[qdy hX (by omega),qc]
 dsimp only
 rw[qqr hX (by omega),qc]
 dsimp only
 rw[qr4 hX (by omega),qc]
 dsimp only
 rw[cond_true]
 have e:=qq1 hX n n (by omega) (fun v0_0=>qdl (DD X n) n v0_0) l hl (a:=(got,pl,m,true,())) rfl n 0 (by omega)
 rw[show ((0:Nat):Int)=0 from rfl] at e
 rw[e]
 rfl
end
end Go.G

namespace Go.G
set_option maxRecDepth 100000
open Go Go.V Go.Proofs
section
variable {X:Ext} (hX:XOk X) {n:Nat} {got:Got}
include hX
theorem qbgj (hn:W+8≤n) (hg:got.length≤1048576) (K V:Int) :
  ∃ b,qcm (DD X n) (got,[],-1,false,()) (1,K,V,())=some ((),((got,(run got (qow (1,K,V,()))).1,(run got (qow (1,K,V,()))).2,b,()),())):=by
 obtain ⟨n,rfl⟩:∃ k,n=k+1:=⟨n - 1,by omega⟩
 have hW:=qci
 have he:=fun pl m p=>qqr hX (n:=n) (got:=got) (by omega) pl m p
 have hs:=fun pl m o b=>qr4 hX (n:=n) (got:=got) (by omega) pl m o b
 have hr:=fun x=>qd1 hX (n:=n) (by omega) x
 have ho:=fun x=>qfg hX (n:=n) (by omega) x
 have hc:=fun x=>qff hX (n:=n) (by omega) x
 have hk:=fun x=>qgq hX (n:=n) (by omega) x
 have hwe:=fun pl m c l hl=>q17 hX (n:=n) (got:=got) (by omega) pl m c l hl (by omega)
 rw[qe7 hX]
 simp only[qdk,qef]
 rw[hr,qc]
 dsimp only
 unfold qow
 dsimp only
 cases h1:hit got (qz K)
 ·rw[qdp hX (by omega) hg _ _ h1,qc,qcx h1]
  dsimp only
  rw[qk trivial]
  simp only[he,hs,ho,hc,hk,qc,cond_true,hwe _ _ _ [V] (by simp)]
  exact ⟨true,rfl⟩
 ·rw[qek hX (by omega) hg (by simp) _ h1,qc,qdh h1]
  dsimp only
  rw[qk trivial,hs,qc]
  dsimp only
  rw[cond_false]
  cases h2:((qv got (qz K)).1 != 0)
  ·rw[cond_false,ho,qc]
   dsimp only
   cases h3:hit got (qbe V)
   ·rw[qdp hX (by omega) hg _ _ h3,qc,qcx h3]
    simp only[he,hs,ho,hc,hk,qc,cond_true,hwe _ _ _ [V] (by simp)]
    exact ⟨true,rfl⟩
   ·rw[qek hX (by omega) hg (by simp) _ h3,qc,qdh h3]
    dsimp only
    rw[hs,qc]
    dsimp only
    rw[cond_false]
    cases h4:((qv got (qbe V)).1 != 0)
    ·rw[cond_false,hk,qc]
     dsimp only
     rw[hc,qc]
     dsimp only
     cases h5:hit got (qbl (qp V))
     ·rw[qdp hX (by omega) hg _ _ h5,qc,qcx h5]
      simp only[qc,hwe _ _ _ [V] (by simp)]
      exact ⟨true,rfl⟩
     ·rw[qek hX (by omega) hg (by simp) _ h5,qc,qdh h5]
      dsimp only
      obtain ⟨b,e⟩:=q3c hX (n:=n) (by omega) hg (pl:=[]++[qz K]++[qbe V]++[qbl (qp V)]) (by simp) K [V] (by simp)
      rw[e,qc]
      exact ⟨b,rfl⟩
    ·simp only[he,hs,ho,hc,hk,qc,cond_true,hwe _ _ _ [V] (by simp),run]
     exact ⟨true,rfl⟩
  ·simp only[he,hs,ho,hc,hk,qc,cond_true,hwe _ _ _ [V] (by simp),run]
   exact ⟨true,rfl⟩
theorem qbgx (hn:W+8≤n) (hg:got.length≤1048576) (K V:Int) :
  ∃ b,qcm (DD X n) (got,[],-1,false,()) (2,K,V,())=some ((),((got,(run got (qot (2,K,V,()))).1,(run got (qot (2,K,V,()))).2,b,()),())):=by
 obtain ⟨n,rfl⟩:∃ k,n=k+1:=⟨n - 1,by omega⟩
 have hW:=qci
 have he:=fun pl m p=>qqr hX (n:=n) (got:=got) (by omega) pl m p
 have hs:=fun pl m o b=>qr4 hX (n:=n) (got:=got) (by omega) pl m o b
 have hr:=fun x=>qd1 hX (n:=n) (by omega) x
 have ho:=fun x=>qfg hX (n:=n) (by omega) x
 have hc:=fun x=>qff hX (n:=n) (by omega) x
 have hk:=fun x=>qgq hX (n:=n) (by omega) x
 have hwe:=fun pl m c a b=>q17 hX (n:=n) (got:=got) (by omega) pl m c [a,b] (by simp) (by omega)
 have hsame:∀ (c:Bool) (x:Option (Unit×qcc×Unit)),br c x x=x:=by intro c x;cases c<;>rfl
 rw[qe7 hX]
 simp only[qdk,qef]
 rw[hr,qc]
 dsimp only
 unfold qot
 dsimp only
 cases h1:hit got (qz K)
 ·rw[qdp hX (by omega) hg _ _ h1,qc,qcx h1]
  dsimp only
  rw[qh (by decide),qk trivial]
  simp only[he,hs,ho,hc,hk,qc,cond_true,hwe,hsame]
  exact ⟨true,rfl⟩
 ·rw[qek hX (by omega) hg (by simp) _ h1,qc,qdh h1]
  dsimp only
  generalize hv:(qv got (qz K)).1=v
  rw[qh (by decide),qk trivial,hs,qc]
  dsimp only
  rw[cond_false]
  cases h2:(bif decide (v=0) then true else decide (v=V))
  ·rw[cond_false,ho,qc]
   dsimp only
   cases h3:hit got (qbe V)
   ·rw[qdp hX (by omega) hg _ _ h3,qc,qcx h3]
    simp only[he,hs,ho,hc,hk,qc,cond_true,hwe,hsame]
    exact ⟨true,rfl⟩
   ·rw[qek hX (by omega) hg (by simp) _ h3,qc,qdh h3]
    dsimp only
    rw[hs,qc]
    dsimp only
    rw[cond_false]
    cases h4:((qv got (qbe V)).1 != 0)
    ·rw[cond_false,ho,qc]
     dsimp only
     cases h5:hit got (qbe v)
     ·rw[qdp hX (by omega) hg _ _ h5,qc,qcx h5]
      simp only[he,hs,ho,hc,hk,qc,cond_true,hwe,hsame]
      exact ⟨true,rfl⟩
     ·rw[qek hX (by omega) hg (by simp) _ h5,qc,qdh h5,hk,qc,hk,qc]
      dsimp only
      cases h6:(qp v != qp V)
      ·rw[br_f,cond_false]
       obtain ⟨b,e⟩:=q3c hX (n:=n) (by omega) hg (pl:=[]++[qz K]++[qbe V]++[qbe v]) (by simp) K [v,V] (by simp)
       rw[e,qc]
       exact ⟨b,rfl⟩
      ·rw[br_t,cond_true]
       simp only[qc]
       rw[hc,qc]
       dsimp only
       cases h7:hit got (qbl (qp v))
       ·rw[qdp hX (by omega) hg _ _ h7,qc,qcx h7]
        simp only[he,hs,ho,hc,hk,qc,cond_true,hwe,hsame]
        exact ⟨true,rfl⟩
       ·rw[qek hX (by omega) hg (by simp) _ h7,qc,qdh h7]
        simp only[qc]
        rw[hc,qc]
        dsimp only
        cases h8:hit got (qbl (qp V))
        ·rw[qdp hX (by omega) hg _ _ h8,qc,qcx h8]
         simp only[he,hs,ho,hc,hk,qc,cond_true,hwe,hsame]
         exact ⟨true,rfl⟩
        ·rw[qek hX (by omega) hg (by simp) _ h8,qc,qdh h8]
         dsimp only
         obtain ⟨b,e⟩:=q3c hX (n:=n) (by omega) hg (pl:=[]++[qz K]++[qbe V]++[qbe v]++[qbl (qp v)]++[qbl (qp V)]) (by simp) K [v,V] (by simp)
         rw[e,qc]
         exact ⟨b,rfl⟩
    ·simp only[he,hs,ho,hc,hk,qc,cond_true,hwe,run,hsame]
     exact ⟨true,rfl⟩
  ·simp only[he,hs,ho,hc,hk,qc,cond_true,hwe,run,hsame]
   exact ⟨true,rfl⟩
theorem qbgb (hn:W+8≤n) (hg:got.length≤1048576) (K V:Int) :
  ∃ b,qcm (DD X n) (got,[],-1,false,()) (3,K,V,())=some ((),((got,(run got (qt0 (3,K,V,()))).1,(run got (qt0 (3,K,V,()))).2,b,()),())):=by
 obtain ⟨n,rfl⟩:∃ k,n=k+1:=⟨n - 1,by omega⟩
 have hW:=qci
 have he:=fun pl m p=>qqr hX (n:=n) (got:=got) (by omega) pl m p
 have hs:=fun pl m o b=>qr4 hX (n:=n) (got:=got) (by omega) pl m o b
 have hr:=fun x=>qd1 hX (n:=n) (by omega) x
 have ho:=fun x=>qfg hX (n:=n) (by omega) x
 have hc:=fun x=>qff hX (n:=n) (by omega) x
 have hk:=fun x=>qgq hX (n:=n) (by omega) x
 have hwe:=fun pl m c a=>q17 hX (n:=n) (got:=got) (by omega) pl m c [a] (by simp) (by omega)
 rw[qe7 hX]
 simp only[qdk,qef]
 rw[hr,qc]
 dsimp only
 unfold qt0
 dsimp only
 cases h1:hit got (qz K)
 ·rw[qdp hX (by omega) hg _ _ h1,qc,qcx h1]
  dsimp only
  rw[qh (by decide),qh (by decide)]
  simp only[he,hs,ho,hc,hk,qc,cond_true,hwe]
  exact ⟨true,rfl⟩
 ·rw[qek hX (by omega) hg (by simp) _ h1,qc,qdh h1]
  dsimp only
  generalize hv:(qv got (qz K)).1=v
  rw[qh (by decide),qh (by decide),hs,qc]
  dsimp only
  rw[cond_false]
  cases h2:decide (v=0)
  ·rw[cond_false,ho,qc]
   dsimp only
   cases h3:hit got (qbe v)
   ·rw[qdp hX (by omega) hg _ _ h3,qc,qcx h3]
    simp only[he,hs,ho,hc,hk,qc,cond_true,hwe]
    exact ⟨true,rfl⟩
   ·rw[qek hX (by omega) hg (by simp) _ h3,qc,qdh h3,hk,qc]
    dsimp only
    rw[hc,qc]
    dsimp only
    cases h5:hit got (qbl (qp v))
    ·rw[qdp hX (by omega) hg _ _ h5,qc,qcx h5]
     simp only[he,hs,ho,hc,hk,qc,cond_true,hwe]
     exact ⟨true,rfl⟩
    ·rw[qek hX (by omega) hg (by simp) _ h5,qc,qdh h5]
     dsimp only
     obtain ⟨b,e⟩:=q3c hX (n:=n) (by omega) hg (pl:=[]++[qz K]++[qbe v]++[qbl (qp v)]) (by simp) K [v] (by simp)
     rw[e,qc]
     exact ⟨b,rfl⟩
  ·simp only[he,hs,ho,hc,hk,qc,cond_true,hwe,run]
   exact ⟨true,rfl⟩
end
end Go.G

namespace Go.G
set_option maxRecDepth 100000
open Go Go.V Go.Proofs
section
variable {X:Ext} (hX:XOk X) {n:Nat} {got:Got}
include hX
theorem q0j (hn:W+2≤n) (hg:got.length≤1048576) (p:Int):∃ b,qd (qj (DD X n) (got,[],-1,false,()) p) (fun b=>some ((b.2.1,()),())) =
  (some (((got,(run got (.ask p fun _=>.done)).1,(run got (.ask p fun _=>.done)).2,b,()),()),()):Option ((qcc×Unit)×Unit)):=by
 cases h:hit got p
 ·rw[qdp hX hn hg _ _ h,qc,qcx h];exact ⟨true,rfl⟩
 ·rw[qek hX hn hg (by simp) _ h,qc,qdh h];exact ⟨false,rfl⟩
theorem qbeq (hn:W+2≤n) (hn3:3≤n) (hg:got.length≤1048576):∃ b,
  qd (qbo (DD X n)) (fun b↦
          qd (qj (DD X n) (got,[],-1,false,()) (Prod.fst (Prod.fst b))) fun b↦
           qd
            (qw (DD X n) (Prod.fst (Prod.snd b))
             (bif decide (Prod.fst (Prod.fst b)<1) then true else decide (Prod.fst (Prod.fst b)>4)))
            fun b_1↦
            qd (qcs (DD X n) (IntKind.wrap IntKind.i64 (Prod.fst (Prod.fst b) - 1))) fun b↦
             qd (qj (DD X n) (Prod.fst (Prod.snd b_1)) (Prod.fst (Prod.fst b))) fun b↦
              qd (qbt (DD X n) (Prod.fst (Prod.fst b))) fun b_2↦
               qd (qw (DD X n) (Prod.fst (Prod.snd b)) !Prod.fst (Prod.fst b_2)) fun b_3↦
                qd (qct (DD X n) (Prod.fst (Prod.fst b))) fun b↦
                 qd (qj (DD X n) (Prod.fst (Prod.snd b_3)) (Prod.fst (Prod.fst b))) fun b↦
                  some ((Prod.fst (Prod.snd b),()),()))=(some (((got,(run got qms).1,(run got qms).2,b,()),()),()):Option ((qcc×Unit)×Unit)):=by
 have he:=fun pl m p=>qqr hX (n:=n) (got:=got) (by omega) pl m p
 have hs:=fun pl m o b=>qr4 hX (n:=n) (got:=got) (by omega) pl m o b
 have hr:=fun x=>qd1 hX (n:=n) (by omega) x
 have hv:=fun x=>qkr hX (n:=n) (by omega) x
 have hi:=fun x=>qgv hX (n:=n) (by omega) x
 rw[qdy hX (by omega),qc]
 dsimp only
 unfold qms
 cases h:hit got 13
 ·rw[qdp hX hn hg _ _ h,qc,qcx h]
  simp only[he,hs,hr,hv,hi,qc,cond_true]
  exact ⟨true,rfl⟩
 ·rw[qek hX hn hg (by simp) _ h,qc,qdh h]
  dsimp only
  generalize (qv got 13).1=st
  rw[hs,qc]
  dsimp only
  rw[cond_false]
  cases h2:(bif decide (st<1) then true else decide (st>4))
  ·rw[cond_false,hr,qc]
   dsimp only
   cases h3:hit got (qz (IntKind.wrap IntKind.i64 (st - 1)))
   ·rw[qdp hX hn hg _ _ h3,qc,qcx h3]
    simp only[he,hs,hr,hv,hi,qc,cond_true]
    exact ⟨true,rfl⟩
   ·rw[qek hX hn hg (by simp) _ h3,qc,qdh h3]
    dsimp only
    generalize (qv got (qz (IntKind.wrap IntKind.i64 (st - 1)))).1=r
    rw[hv,qc]
    dsimp only
    rw[hs,qc]
    dsimp only
    rw[cond_false]
    cases h4:inR r 1 6
    ·simp only[he,hs,hr,hv,hi,qc,Bool.not_false,cond_true,run]
     exact ⟨true,rfl⟩
    ·rw[Bool.not_true,cond_false,hi,qc]
     dsimp only
     cases h5:hit got (qbc r)
     ·rw[qdp hX hn hg _ _ h5,qc,qcx h5];exact ⟨true,rfl⟩
     ·rw[qek hX hn hg (by simp) _ h5,qc,qdh h5];exact ⟨false,rfl⟩
  ·simp only[he,hs,hr,hv,hi,qc,cond_true,run]
   exact ⟨true,rfl⟩
theorem qbfp (hn:W+2≤n) (hn3:3≤n) (hg:got.length≤1048576) (o:Op3):∃ b,
  qd (qbo (DD X n)) (fun b↦
           qd (qj (DD X n) (got,[],-1,false,()) (Prod.fst (Prod.fst b))) fun b↦
            qd (qw (DD X n) (Prod.fst (Prod.snd b)) (Prod.fst (Prod.fst b) != 5)) fun b↦
             qd (qct (DD X n) o.2.2.1) fun b_1↦
              qd (qj (DD X n) (Prod.fst (Prod.snd b)) (Prod.fst (Prod.fst b_1))) fun b↦some ((Prod.fst (Prod.snd b),()),())) =
  (some (((got,(run got (qnj o)).1,(run got (qnj o)).2,b,()),()),()):Option ((qcc×Unit)×Unit)):=by
 have he:=fun pl m p=>qqr hX (n:=n) (got:=got) (by omega) pl m p
 have hs:=fun pl m o b=>qr4 hX (n:=n) (got:=got) (by omega) pl m o b
 have hi:=fun x=>qgv hX (n:=n) (by omega) x
 rw[qdy hX (by omega),qc]
 dsimp only
 unfold qnj
 cases h:hit got 13
 ·rw[qdp hX hn hg _ _ h,qc,qcx h]
  simp only[he,hs,hi,qc,cond_true]
  exact ⟨true,rfl⟩
 ·rw[qek hX hn hg (by simp) _ h,qc,qdh h]
  dsimp only
  generalize (qv got 13).1=st
  rw[hs,qc]
  dsimp only
  rw[cond_false]
  cases h2:(st != 5)
  ·rw[cond_false,hi,qc]
   dsimp only
   cases h5:hit got (qbc o.2.2.1)
   ·rw[qdp hX hn hg _ _ h5,qc,qcx h5];exact ⟨true,rfl⟩
   ·rw[qek hX hn hg (by simp) _ h5,qc,qdh h5];exact ⟨false,rfl⟩
  ·simp only[he,hs,hi,qc,cond_true,run]
   exact ⟨true,rfl⟩
def quv:Nat→Nat→PR
 | _,0=>.done
 | i,d+1=>.ask (i:Int) fun _=>quv (i+1) d
theorem q9l (N n:Nat) (hN:3≤N) (K:qcc→Option ((qcc×Unit)×Unit)) (pl:List Int) (m0:Int):∀ (m i:Nat),i≤4→4 - i<m→qeb (DD X N) n K m (i:Int) (got,pl,m0,true,())=K (got,pl,m0,true,())
 | 0,_,_,h=>by omega
 | m+1,i,hi,hf=>by
  simp only[qeb,qit]
  by_cases h:(i:Int)<4
  ·rw[qk h,qd1 hX (by omega),qc]
   dsimp only
   rw[qqr hX (by omega),qc,qbk (by omega)]
   exact q9l N n hN K pl m0 m (i+1) (by omega) (by omega)
  ·rw[qh h]
theorem qbe9 (N n:Nat) (hN:W+6≤N) (hN3:3≤N) (hg:got.length≤1048576) (K:qcc→Option ((qcc×Unit)×Unit)):∀ (m d i:Nat) (pl:List Int),i+d=4→d<m→pl.length≤i→
  ∃ b,qeb (DD X N) n K m (i:Int) (got,pl,-1,false,())=K (got,pl++(run got (quv i d)).1,(run got (quv i d)).2,b,())
 | 0,_,_,_,_,h,_=>by omega
 | m+1,0,i,pl,hi,hf,hp=>by
  simp only[qeb,qit]
  rw[qh (by omega)]
  exact ⟨false,by simp only[quv,run];rw[List.append_nil]⟩
 | m+1,d+1,i,pl,hi,hf,hp=>by
  simp only[qeb,qit]
  have hr:qz (i:Int)=i:=by unfold qz;rw[qb2.2 (by omega)];rfl
  rw[qk (by omega),qd1 hX (by omega),qc,hr]
  dsimp only
  simp only[quv]
  rw[qbk (by omega)]
  cases h:hit got (i:Int)
  ·rw[qdp hX (by omega) hg _ _ h,qc,qcx h]
   dsimp only
   rw[q9l hX N n hN3 K pl (i:Int) m (i+1) (by omega) (by omega)]
   exact ⟨true,by rw[List.append_nil]⟩
  ·rw[qek hX (by omega) hg (by omega) _ h,qc,qdh h]
   dsimp only
   obtain ⟨b,e⟩:=qbe9 N n hN hN3 hg K m d (i+1) (pl++[(i:Int)]) (by omega) (by omega) (by rw[List.length_append];simp only[List.length_cons,List.length_nil];omega)
   rw[e]
   exact ⟨b,by rw[List.append_assoc];rfl⟩
theorem qban (hn:W+10≤n) (hg:got.length≤1048576) (o:Op3) :
  ∃ b,qpn (DD X n) o got=some (((got,(run got (prog o)).1,(run got (prog o)).2,b,()),()),()):=by
 obtain ⟨n,rfl⟩:∃ k,n=k+1:=⟨n - 1,by omega⟩
 have hW:=qci
 obtain ⟨k,K,V,⟨⟩⟩:=o
 rw[q0b hX]
 simp only[qpd,qpg]
 unfold prog
 dsimp only
 by_cases k1:k=1
 ·subst k1
  obtain ⟨b,e⟩:=qbgj hX (n:=n) (by omega) hg K V
  rw[qk rfl,qk rfl,e,qc,if_pos rfl]
  exact ⟨b,rfl⟩
 rw[qh k1,if_neg k1]
 by_cases k2:k=2
 ·subst k2
  obtain ⟨b,e⟩:=qbgx hX (n:=n) (by omega) hg K V
  rw[qk rfl,qk rfl,e,qc,if_pos rfl]
  exact ⟨b,rfl⟩
 rw[qh k2,if_neg k2]
 by_cases k3:k=3
 ·subst k3
  obtain ⟨b,e⟩:=qbgb hX (n:=n) (by omega) hg K V
  rw[qk rfl,e,qc,if_pos rfl]
  exact ⟨b,rfl⟩
 rw[qh k3,if_neg k3]
 by_cases k4:k=4
 ·rw[qk k4,if_pos k4,qd1 hX (by omega),qc]
  exact q0j hX (by omega) hg _
 rw[qh k4,if_neg k4]
 by_cases k5:k=5
 ·rw[qk k5,if_pos k5,qfg hX (by omega),qc]
  exact q0j hX (by omega) hg _
 rw[qh k5,if_neg k5]
 by_cases k6:k=6
 ·rw[qk k6,if_pos k6,qff hX (by omega),qc]
  exact q0j hX (by omega) hg _
 rw[qh k6,if_neg k6]
 by_cases k7:k=7
 ·rw[qk k7,if_pos k7]
  simp only[qm9]
  obtain ⟨b,e⟩:=qbe9 hX n n (by omega) (by omega) hg (fun v0_0=>ql6 (DD X n) n v0_0) n 4 0 [] rfl (by omega) (by simp)
  rw[show ((0:Nat):Int)=0 from rfl] at e
  rw[e]
  exact ⟨b,rfl⟩
 rw[qh k7,if_neg k7]
 by_cases k8:k=8
 ·rw[qk k8,if_pos k8,qdy hX (by omega),qc]
  exact q0j hX (by omega) hg _
 rw[qh k8,if_neg k8]
 by_cases k9:k=9
 ·rw[qk k9,if_pos k9]
  exact qbeq hX (by omega) (by omega) hg
 rw[qh k9,if_neg k9]
 by_cases k10:k=10
 ·rw[qk k10,if_pos k10]
  exact qbfp hX (by omega) (by omega) hg (k,K,V,())
 rw[qh k10,if_neg k10]
 exact ⟨false,rfl⟩
end
end Go.G

namespace Go.G
set_option maxRecDepth 100000
open Go Go.V Go.Proofs
abbrev qbw:=Int×Int×Int×Unit
def bubR {α:Type} (key:α→Int):List α→α→List α
 | [],x=>[x]
 | y::rs,x=>if key x<key y then y::bubR key rs x else x::y::rs
def bub {α:Type} (key:α→Int) (s:List α) (x:α):List α:=(bubR key s.reverse x).reverse
theorem qbaa {α:Type} (key:α→Int):∀ (rs:List α) (x:α),(bubR key rs x).length=rs.length+1
 | [],x=>rfl
 | y::rs,x=>by
  simp only[bubR]
  split
  ·simp only[List.length_cons,qbaa key rs x]
  ·simp only[List.length_cons]
theorem q0t {α:Type} (key:α→Int) (s:List α) (x:α):(bub key s x).length=s.length+1:=by
 unfold bub;rw[List.length_reverse,qbaa,List.length_reverse]
theorem q9t {α:Type} (key:α→Int):∀ (rs:List α) (x z:α),z∈bubR key rs x↔z=x∨z∈rs
 | [],x,z=>by simp[bubR]
 | y::rs,x,z=>by
  simp only[bubR]
  split
  ·simp only[List.mem_cons,q9t key rs x z]
   constructor
   ·rintro (h | h | h)
    ·exact .inr (.inl h)
    ·exact .inl h
    ·exact .inr (.inr h)
   ·rintro (h | h | h)
    ·exact .inr (.inl h)
    ·exact .inl h
    ·exact .inr (.inr h)
  ·simp only[List.mem_cons]
theorem q6t {α:Type} (key:α→Int) (s:List α) (x z:α):z∈bub key s x↔z=x∨z∈s:=by
 unfold bub;rw[List.mem_reverse,q9t,List.mem_reverse]
theorem qbfl {α:Type} (key:α→Int) (e:α) (l1:List α) (h1:∀ y∈l1,key y≤key e):∀ (l2:List α),(∀ y∈l2,key e<key y)→bub key (l1++l2.reverse) e=l1++e::l2.reverse
 | [],_=>by
  unfold bub
  rw[List.reverse_nil,List.append_nil]
  cases h:l1.reverse with
  | nil=>
   have:l1=[]:=List.reverse_eq_nil_iff.1 h
   subst this;rfl
  | cons y rs=>
   have hy:y∈l1:=by rw[←List.mem_reverse,h];exact List.mem_cons_self
   simp only[bubR]
   rw[if_neg (by have:=h1 y hy;omega)]
   have:l1=rs.reverse++[y]:=by rw[←List.reverse_reverse l1,h,List.reverse_cons]
   rw[this]
   simp
 | y::l2,h2=>by
  have ih:=qbfl key e l1 h1 l2 (fun z hz=>h2 z (List.mem_cons_of_mem _ hz))
  unfold bub at ih ⊢
  rw[List.reverse_cons,←List.append_assoc,List.reverse_append]
  show (bubR key (y::(l1++l2.reverse).reverse) e).reverse=_
  simp only[bubR]
  rw[if_pos (h2 y List.mem_cons_self),List.reverse_cons,ih]
  simp
theorem qw9 {α:Type} (l:List α) (x:α) (t:List α) (d:α):(l++x::t).getD l.length d=x:=by simp[List.getD]
theorem q0m {α:Type} (l:List α) (x y:α) (t:List α):(l++x::t).set l.length y=l++y::t:=by simp
abbrev EntT:Ty:=Ty.pair (Ty.int IntKind.i64) (Ty.pair (Ty.int IntKind.i64) (Ty.pair (Ty.int IntKind.i64) Ty.unit))
def qi9 (k:Int):Prop:=-1000≤k∧k≤1000
def ekey (e:qbw):Int:=e.1
section
variable {X:Ext} (hX:XOk X) {n:Nat}
include hX
theorem qbh8 (hn:1≤n) (a b:qbw) (ha:qi9 a.1) (hb:qi9 b.1):qe2 ctx (DD X n) (Clo.mk 80 []) [CapV.val EntT a,CapV.val EntT b] (Ty.int IntKind.i64)=some (a.1 - b.1):=by
 obtain ⟨n,rfl⟩:∃ k,n=k+1:=⟨n - 1,by omega⟩
 have h:∀ D:Den ctx,qe2 ctx D (Clo.mk 80 []) [CapV.val EntT a,CapV.val EntT b] (Ty.int IntKind.i64)=(qvb D a b).bind fun r=>some r.1.1:=fun D=>by kernel_rfl
 unfold qi9 at ha hb
 rw[h,q2o hX]
 simp only[qn8,qu9,Option.bind_some]
 rw[qb8 (by omega) (by omega)]
theorem qbgk (hn:1≤n) {a b x y:qbw} (ha:a=x) (hb:b=y) (hx:qi9 x.1) (hy:qi9 y.1):qe2 ctx (DD X n) (Clo.mk 80 []) [CapV.val EntT a,CapV.val EntT b] (Ty.int IntKind.i64)=some (x.1 - y.1):=by
 subst ha;subst hb;exact qbh8 hX hn a b hx hy
theorem q96 (N n:Nat) (hN:1≤N) (K0:Int→Int→Int→List qbw→Option (Unit×List qbw×Unit)) (b i:Int) (x:qbw) (hx:qi9 x.1):∀ (m:Nat) (rs t:List qbw),rs.length<m→rs.length+t.length≤1000→(∀ e∈rs,qi9 e.1)→
  qbg (DD X N) n (Clo.mk 80 []) K0 m 0 b i (rs.length:Int) (rs.reverse++x::t)=K0 0 b i ((bubR ekey rs x).reverse++t)
 | 0,_,_,h,_,_=>by omega
 | m+1,[],t,_,_,_=>by
  simp only[qbg,qcq]
  rw[qh (by simp)]
  simp[bubR]
 | m+1,y::rs,t,hf,hl,hs=>by
  have hy:=hs y List.mem_cons_self
  have hlen:((y::rs).reverse++x::t).length=rs.length+t.length+2:=by simp;omega
  simp only[List.length_cons] at hf hl
  have e1:((y::rs).length:Int)=((rs.length+1:Nat):Int):=by simp
  have e2:IntKind.wrap IntKind.i64 (((rs.length+1:Nat):Int) - 1)=((rs.length:Nat):Int):=by rw[qb8 (by omega) (by omega)];omega
  have g1:((y::rs).reverse++x::t).getD (rs.length+1) (0,0,0,())=x:=by
   have:=qw9 (y::rs).reverse x t (0,0,0,());rw[List.length_reverse,List.length_cons] at this;exact this
  have g2:((y::rs).reverse++x::t).getD rs.length (0,0,0,())=y:=by
   have:=qw9 rs.reverse y (x::t) (0,0,0,());rw[List.length_reverse] at this
   rw[List.reverse_cons,List.append_assoc];exact this
  have s1:((y::rs).reverse++x::t).set (rs.length+1) y=rs.reverse++y::(y::t):=by
   have:=q0m (y::rs).reverse x y t;rw[List.length_reverse,List.length_cons] at this
   rw[this,List.reverse_cons,List.append_assoc];rfl
  have s2:(rs.reverse++y::(y::t)).set rs.length x=rs.reverse++x::(y::t):=by
   have:=q0m rs.reverse y x (y::t);rw[List.length_reverse] at this;exact this
  simp only[qbg,qcq]
  rw[e1,e2,qk (by omega),ixn (by omega) (by rw[hlen];omega),br_t,ixn (by omega) (by rw[hlen];omega),br_t]
  simp only[Int.toNat_natCast,List.length_set]
  rw[qbgk hX hN g1 g2 hx hy,qc,g1,g2,br_t,br_t,br_t,s1,s2]
  have hl2:(rs.reverse++y::(y::t)).length=rs.length+t.length+2:=by simp;omega
  simp only[bubR]
  by_cases hlt:x.1<y.1
  ·rw[qk (show x.1 - y.1<0 by omega),ixn (by omega) (by rw[hlen];omega),br_t,if_pos (show ekey x<ekey y from hlt)]
   rw[q96 N n hN K0 b i x hx m rs (y::t) (by omega) (by simp only[List.length_cons];omega) (fun e he=>hs e (List.mem_cons_of_mem _ he))]
   rw[List.reverse_cons,List.append_assoc];rfl
  ·rw[qh (show ¬ x.1 - y.1<0 by omega),if_neg (show ¬ ekey x<ekey y from hlt)]
   simp
theorem q66 (N:Nat) (hN:1≤N) (hW:2000≤N) (K0:List qbw→Option (Unit×List qbw×Unit)):∀ (rest s:List qbw) (m:Nat),rest.length<m→s.length+rest.length≤1000→(∀ e∈s,qi9 e.1)→(∀ e∈rest,qi9 e.1)→
  qu (DD X N) N (Clo.mk 80 []) K0 m 0 ((s.length+rest.length:Nat):Int) (s.length:Int) (s++rest)=K0 (rest.foldl (bub ekey) s)
 | [],s,0,h,_,_,_=>by omega
 | _::_,s,0,h,_,_,_=>by omega
 | [],s,m+1,_,_,_,_=>by
  simp only[qu,qb0]
  rw[qh (by simp),List.append_nil]
  rfl
 | x::rest,s,m+1,hf,hl,hs,hr=>by
  simp only[List.length_cons] at hf hl
  simp only[qu,qb0,qdu]
  rw[qk (by simp only[List.length_cons];omega)]
  have e:=q96 hX N N hN (fun v0_0 v0_1 v0_2 v0_3=>qcg (DD X N) N (Clo.mk 80 []) (qu (DD X N) N (Clo.mk 80 []) K0 m) K0 v0_0 v0_1 v0_2 v0_3)
   ((s.length+(x::rest).length:Nat):Int) (s.length:Int) x (hr x List.mem_cons_self) N s.reverse rest (by rw[List.length_reverse];omega) (by rw[List.length_reverse];omega) (fun e he=>hs e (List.mem_reverse.1 he))
  rw[List.length_reverse,List.reverse_reverse] at e
  rw[e]
  simp only[qcg]
  rw[qbk (by omega)]
  have e2:=q66 N hN hW K0 rest (bub ekey s x) m (by omega) (by rw[q0t];omega) (fun z hz=>by
   rcases (q6t ekey s x z).1 hz with h | h
   ·subst h;exact hr _ List.mem_cons_self
   ·exact hs z h) (fun z hz=>hr z (List.mem_cons_of_mem _ hz))
  rw[q0t] at e2
  rw[show s.length+(x::rest).length=s.length+1+rest.length by simp only[List.length_cons];omega]
  exact e2
end
end Go.G

namespace Go.G
set_option maxRecDepth 100000
open Go Go.V Go.Proofs
def ikey (e:Int):Int:=e
theorem qbid (D:Den ctx) (n:Nat):qbq D n 0=some ((0,()),()):=by kernel_rfl
theorem qbhg (D:Den ctx) (n:Nat):qbq D n 1=some ((1,()),()):=by kernel_rfl
theorem qbhm (D:Den ctx) (n:Nat):qbq D n 2=some ((2,()),()):=by kernel_rfl
theorem qbh0 (D:Den ctx) (n:Nat):qbq D n 3=some ((2,()),()):=by kernel_rfl
theorem qbhv (D:Den ctx) (n:Nat):qbq D n 4=some ((3,()),()):=by kernel_rfl
theorem qbhu (D:Den ctx) (n:Nat):qbq D n 5=some ((3,()),()):=by kernel_rfl
theorem qbhz (D:Den ctx) (n:Nat):qbq D n 6=some ((3,()),()):=by kernel_rfl
theorem qbh3 (D:Den ctx) (n:Nat):qbq D n 7=some ((3,()),()):=by kernel_rfl
theorem qbh9 (D:Den ctx) (n:Nat):qbq D n 8=some ((4,()),()):=by kernel_rfl
theorem qbh7 (D:Den ctx) (n:Nat):qbq D n 9=some ((4,()),()):=by kernel_rfl
theorem qbgw (D:Den ctx) (n:Nat):qbq D n 10=some ((4,()),()):=by kernel_rfl
theorem qbgp (D:Den ctx) (n:Nat):qbq D n 11=some ((4,()),()):=by kernel_rfl
theorem qbgg (D:Den ctx) (n:Nat):qbq D n 12=some ((4,()),()):=by kernel_rfl
section
variable {X:Ext} (hX:XOk X) {n:Nat}
include hX
theorem qbi8 (hn:2≤n) (a b:Int):qdx (DD X n) a b=some ((decide (a<b),()),()):=by
 obtain ⟨n,rfl⟩:∃ k,n=k+2:=⟨n - 2,by omega⟩
 rw[q50 hX]
 simp only[qra,qwz]
 rw[q3y hX]
 simp only[qpf,qvu,qc]
 rw[show (a != a)=false by simp,br_f]
 rfl
theorem qba8 (N n:Nat) (hN:2≤N) (K0:Int→Int→Int→List Int→Option (Unit×List Int×Unit)) (b i:Int) (x:Int) (hx:qi9 x):∀ (m:Nat) (rs t:List Int),rs.length<m→rs.length+t.length≤1000→(∀ e∈rs,qi9 e)→
  qbv (DD X N) n K0 m 0 b i (rs.length:Int) (rs.reverse++x::t)=K0 0 b i ((bubR ikey rs x).reverse++t)
 | 0,_,_,h,_,_=>by omega
 | m+1,[],t,_,_,_=>by
  simp only[qbv,qdm]
  rw[qh (by simp)]
  simp[bubR]
 | m+1,y::rs,t,hf,hl,hs=>by
  have hy:=hs y List.mem_cons_self
  have hlen:((y::rs).reverse++x::t).length=rs.length+t.length+2:=by simp;omega
  simp only[List.length_cons] at hf hl
  have e1:((y::rs).length:Int)=((rs.length+1:Nat):Int):=by simp
  have e2:IntKind.wrap IntKind.i64 (((rs.length+1:Nat):Int) - 1)=((rs.length:Nat):Int):=by rw[qb8 (by omega) (by omega)];omega
  have g1:((y::rs).reverse++x::t).getD (rs.length+1) 0=x:=by
   have:=qw9 (y::rs).reverse x t 0;rw[List.length_reverse,List.length_cons] at this;exact this
  have g2:((y::rs).reverse++x::t).getD rs.length 0=y:=by
   have:=qw9 rs.reverse y (x::t) 0;rw[List.length_reverse] at this
   rw[List.reverse_cons,List.append_assoc];exact this
  have s1:((y::rs).reverse++x::t).set (rs.length+1) y=rs.reverse++y::(y::t):=by
   have:=q0m (y::rs).reverse x y t;rw[List.length_reverse,List.length_cons] at this
   rw[this,List.reverse_cons,List.append_assoc];rfl
  have s2:(rs.reverse++y::(y::t)).set rs.length x=rs.reverse++x::(y::t):=by
   have:=q0m rs.reverse y x (y::t);rw[List.length_reverse] at this;exact this
  simp only[qbv,qdm]
  rw[e1,e2,qk (by omega),ixn (by omega) (by rw[hlen];omega),br_t,ixn (by omega) (by rw[hlen];omega),br_t]
  simp only[Int.toNat_natCast,List.length_set]
  rw[g1,g2,qbi8 hX hN,qc]
  dsimp only
  rw[br_t,br_t,br_t,s1,s2]
  have hl2:(rs.reverse++y::(y::t)).length=rs.length+t.length+2:=by simp;omega
  simp only[bubR]
  by_cases hlt:x<y
  ·rw[qk (show x<y from hlt),ixn (by omega) (by rw[hlen];omega),br_t,if_pos (show ikey x<ikey y from hlt)]
   rw[qba8 N n hN K0 b i x hx m rs (y::t) (by omega) (by simp only[List.length_cons];omega) (fun e he=>hs e (List.mem_cons_of_mem _ he))]
   rw[List.reverse_cons,List.append_assoc];rfl
  ·rw[qh (show ¬ x<y from hlt),if_neg (show ¬ ikey x<ikey y from hlt)]
   simp
theorem q6y (N:Nat) (hN:2≤N) (hW:2000≤N) (K0:List Int→Option (Unit×List Int×Unit)):∀ (rest s:List Int) (m:Nat),rest.length<m→s.length+rest.length≤1000→(∀ e∈s,qi9 e)→(∀ e∈rest,qi9 e)→
  q8 (DD X N) N K0 m 0 ((s.length+rest.length:Nat):Int) (s.length:Int) (s++rest)=K0 (rest.foldl (bub ikey) s)
 | [],s,0,h,_,_,_=>by omega
 | _::_,s,0,h,_,_,_=>by omega
 | [],s,m+1,_,_,_,_=>by
  simp only[q8,qcr]
  rw[qh (by simp),List.append_nil]
  rfl
 | x::rest,s,m+1,hf,hl,hs,hr=>by
  simp only[List.length_cons] at hf hl
  simp only[q8,qcr,qev]
  rw[qk (by simp only[List.length_cons];omega)]
  have e:=qba8 hX N N hN (fun v0_0 v0_1 v0_2 v0_3=>qdc (DD X N) N (q8 (DD X N) N K0 m) K0 v0_0 v0_1 v0_2 v0_3)
   ((s.length+(x::rest).length:Nat):Int) (s.length:Int) x (hr x List.mem_cons_self) N s.reverse rest (by rw[List.length_reverse];omega) (by rw[List.length_reverse];omega) (fun e he=>hs e (List.mem_reverse.1 he))
  rw[List.length_reverse,List.reverse_reverse] at e
  rw[e]
  simp only[qdc]
  rw[qbk (by omega)]
  have e2:=q6y N hN hW K0 rest (bub ikey s x) m (by omega) (by rw[q0t];omega) (fun z hz=>by
   rcases (q6t ikey s x z).1 hz with h | h
   ·subst h;exact hr _ List.mem_cons_self
   ·exact hs z h) (fun z hz=>hr z (List.mem_cons_of_mem _ hz))
  rw[q0t] at e2
  rw[show s.length+(x::rest).length=s.length+1+rest.length by simp only[List.length_cons];omega]
  exact e2
theorem qbha (hn:2≤n) (k:Nat) (hk:k≤12):∃ v,ql8 (DD X n) (IntKind.wrap IntKind.u64 (k:Int))=some ((v,()),()):=by
 obtain ⟨n,rfl⟩:∃ k,n=k+2:=⟨n - 2,by omega⟩
 have hw:IntKind.wrap IntKind.u64 (k:Int)=(k:Int):=by
  have:∀ j:Fin 13,IntKind.wrap IntKind.u64 ((j:Nat):Int)=((j:Nat):Int):=by decide +kernel
  exact this ⟨k,by omega⟩
 rw[hw,q3f hX]
 simp only[qpm,qwc]
 rw[q00 hX]
 have key:∃ v,qbq (DD X n) n (k:Int)=some ((v,()),()):=by
  match k,hk with
  | 0,_=>exact ⟨_,qbid _ _⟩
  | 1,_=>exact ⟨_,qbhg _ _⟩
  | 2,_=>exact ⟨_,qbhm _ _⟩
  | 3,_=>exact ⟨_,qbh0 _ _⟩
  | 4,_=>exact ⟨_,qbhv _ _⟩
  | 5,_=>exact ⟨_,qbhu _ _⟩
  | 6,_=>exact ⟨_,qbhz _ _⟩
  | 7,_=>exact ⟨_,qbh3 _ _⟩
  | 8,_=>exact ⟨_,qbh9 _ _⟩
  | 9,_=>exact ⟨_,qbh7 _ _⟩
  | 10,_=>exact ⟨_,qbgw _ _⟩
  | 11,_=>exact ⟨_,qbgp _ _⟩
  | 12,_=>exact ⟨_,qbgg _ _⟩
  | k+13,h=>omega
 obtain ⟨v,e⟩:=key
 rw[e,qc]
 exact ⟨v,rfl⟩
theorem qbh6 (hn:W+6≤n) (l:List Int) (hl:l.length≤12) (hs:∀ e∈l,qi9 e):qg2 (DD X n) l=some ((),l.foldl (bub ikey) [],()):=by
 obtain ⟨n,rfl⟩:∃ k,n=k+3:=⟨n - 3,by omega⟩
 have hW:=qci
 rw[qxz hX]
 simp only[qkh,qor]
 obtain ⟨v,e⟩:=qbha hX (n:=n+2) (by omega) l.length hl
 rw[e,qc]
 dsimp only
 rw[qr7 hX]
 simp only[qgu,qgt,qgc]
 rw[show n+1=n+1 from rfl]
 simp only[qdt,qgj]
 rw[qb8 (by omega) (by omega),qk (by omega),qnz hX]
 simp only[qfb,qfe,qex]
 rw[show IntKind.wrap IntKind.i64 (0+1)=((1:Nat):Int) by decide +kernel]
 cases l with
 | nil=>
  obtain ⟨n,rfl⟩:∃ k,n=k+1:=⟨n - 1,by omega⟩
  simp only[q8,qcr]
  rw[qh (by simp)]
  rfl
 | cons x l=>
  have:=q6y hX n (by omega) (by omega) (fun v0_0=>qet (DD X n) n v0_0) l [x] n (by simp only[List.length_cons] at hl;omega) (by simp only[List.length_cons,List.length_nil] at hl ⊢;omega) (fun e he=>hs e (by simp only[List.mem_singleton] at he;subst he;exact List.mem_cons_self)) (fun e he=>hs e (List.mem_cons_of_mem _ he))
  simp only[List.length_cons,List.length_nil,Nat.zero_add,List.singleton_append] at this ⊢
  rw[show l.length+1=1+l.length by omega,this]
  rfl
theorem qbih (hn:W+6≤n) (l:List qbw) (hl:l.length≤12) (hs:∀ e∈l,qi9 e.1):qc3 (DD X n) l (Clo.mk 80 [])=some ((),l.foldl (bub ekey) [],()):=by
 obtain ⟨n,rfl⟩:∃ k,n=k+3:=⟨n - 3,by omega⟩
 have hW:=qci
 rw[qli hX]
 simp only[qec,qf9]
 obtain ⟨v,e⟩:=qbha hX (n:=n+2) (by omega) l.length hl
 rw[e,qc]
 dsimp only
 rw[qns hX]
 simp only[qe3,qe1,qeo]
 simp only[qck,qew]
 rw[qb8 (by omega) (by omega),qk (by omega),qk2 hX]
 simp only[qea,qd7,qdq]
 rw[show IntKind.wrap IntKind.i64 (0+1)=((1:Nat):Int) by decide +kernel]
 cases l with
 | nil=>
  obtain ⟨n,rfl⟩:∃ k,n=k+1:=⟨n - 1,by omega⟩
  simp only[qu,qb0]
  rw[qh (by simp)]
  rfl
 | cons x l=>
  have:=q66 hX n (by omega) (by omega) (fun v0_0=>qdj (DD X n) n (Clo.mk 80 []) v0_0) l [x] n (by simp only[List.length_cons] at hl;omega) (by simp only[List.length_cons,List.length_nil] at hl ⊢;omega) (fun e he=>hs e (by simp only[List.mem_singleton] at he;subst he;exact List.mem_cons_self)) (fun e he=>hs e (List.mem_cons_of_mem _ he))
  simp only[List.length_cons,List.length_nil,Nat.zero_add,List.singleton_append] at this ⊢
  rw[show l.length+1=1+l.length by omega,this]
  rfl
end
end Go.G

namespace Go.G
set_option maxRecDepth 100000
open Go Go.V Go.Proofs
def ent (got:Got) (p:Int) (f:Int→Int):List qbw:=bif hit got p then [(p,(qv got p).1,f (qv got p).1,())] else []
theorem qf7 {got:Got} {p:Int} (h:hit got p=true) (f:Int→Int):ent got p f=[(p,(qv got p).1,f (qv got p).1,())]:=by unfold ent;rw[h];rfl
theorem qql {got:Got} {p:Int} (h:hit got p=false) (f:Int→Int):ent got p f=[]:=by unfold ent;rw[h];rfl
theorem qfl (got:Got) (p:Int) (f:Int→Int):(ent got p f).length≤1:=by unfold ent;cases hit got p<;>simp
def one (v:Int):Int:=IntKind.wrap IntKind.i64 (v+1)
def less (v:Int):Int:=if IntKind.wrap IntKind.i64 (v - 1)>0 then IntKind.wrap IntKind.i64 (v - 1) else 0
def insS (l:List qbw) (e:qbw):List qbw:=l.takeWhile (fun y=>decide (y.1<e.1))++e::l.dropWhile (fun y=>decide (y.1<e.1))
theorem qoj (l:List qbw) (e:qbw):(insS l e).length=l.length+1:=by
 unfold insS
 have:=congrArg List.length (List.takeWhile_append_dropWhile (p:=fun y:qbw=>decide (y.1<e.1)) (l:=l))
 rw[List.length_append] at this ⊢
 rw[List.length_cons]
 omega
theorem q5e (got:Got) (p:Int):(bif decide (p<0) then true else !(qv got p).2)=!hit got p:=by
 unfold hit
 by_cases h:p<0
 ·rw[decide_eq_true h,decide_eq_false (by omega:¬ 0≤p)];rfl
 ·rw[decide_eq_false h,decide_eq_true (by omega:0≤p)];rfl
theorem qbf5 (got:Got) (p:Int):(bif !(qv got p).2 then true else decide (p<0))=!hit got p:=by
 unfold hit
 by_cases h:p<0
 ·rw[decide_eq_true h,decide_eq_false (by omega:¬ 0≤p)];cases (qv got p).2<;>rfl
 ·rw[decide_eq_false h,decide_eq_true (by omega:0≤p)];cases (qv got p).2<;>rfl
section
variable {X:Ext} (hX:XOk X) {n:Nat} {got:Got}
include hX
theorem qxt (hn:W+2≤n) (hg:got.length≤1048576) {out:List qbw} (ho:out.length≤100) (p to:Int):qcn (DD X n) p to 0 got out=some ((),(out++ent got p (fun _=>to)),()):=by
 obtain ⟨n,rfl⟩:∃ k,n=k+1:=⟨n - 1,by omega⟩
 have hb:=qhu
 rw[qn9 hX]
 simp only[qic,qk8]
 rw[qez hX (by omega) got hg,qc]
 dsimp only
 rw[q5e]
 cases h:hit got p
 ·rw[Bool.not_false,br_t,qql h,List.append_nil]
 ·rw[Bool.not_true,br_f,qh (by decide),qh (by decide),qk (by omega),qf7 h]
theorem qbi4 (hn:W+2≤n) (hg:got.length≤1048576) {out:List qbw} (ho:out.length≤100) (p to:Int):qcn (DD X n) p to 1 got out=some ((),(out++ent got p one),()):=by
 obtain ⟨n,rfl⟩:∃ k,n=k+1:=⟨n - 1,by omega⟩
 have hb:=qhu
 rw[qn9 hX]
 simp only[qic,qk8]
 rw[qez hX (by omega) got hg,qc]
 dsimp only
 rw[q5e]
 cases h:hit got p
 ·rw[Bool.not_false,br_t,qql h,List.append_nil]
 ·rw[Bool.not_true,br_f,qk trivial,qk (by omega),qf7 h];rfl
theorem qbi3 (hn:W+2≤n) (hg:got.length≤1048576) {out:List qbw} (ho:out.length≤100) (p to:Int):qcn (DD X n) p to (-1) got out=some ((),(out++ent got p less),()):=by
 obtain ⟨n,rfl⟩:∃ k,n=k+1:=⟨n - 1,by omega⟩
 have hb:=qhu
 rw[qn9 hX]
 simp only[qic,qk8]
 rw[qez hX (by omega) got hg,qc]
 dsimp only
 rw[q5e]
 cases h:hit got p
 ·rw[Bool.not_false,br_t,qql h,List.append_nil]
 ·rw[Bool.not_true,br_f,qh (by decide),qk trivial,qk (by omega),qf7 h];rfl
theorem qbc0 (D:Den ctx) (n:Nat) (K:List qbw→Int→Int→Int→Int→Option ((List qbw×Unit)×Unit)) (l:List qbw) (hl:l.length≤1000) (p a b:Int):∀ (m:Nat) (l1 l2:List qbw),l=l1++l2→l2.length<m→
  qhe D n K m l p a b (l1.length:Int)=K l p a b ((l1++l2.takeWhile (fun y=>decide (y.1<p))).length:Int)
 | 0,_,_,_,h=>by omega
 | m+1,l1,[],e,hf=>by
  simp only[qhe,qn4]
  subst e
  rw[qh (by simp)]
  simp
 | m+1,l1,y::l2,e,hf=>by
  simp only[qhe,qn4]
  have hlen:l.length=l1.length+(l2.length+1):=by rw[e,List.length_append,List.length_cons]
  rw[qk (by omega),ixn (by omega) (by omega),br_t]
  have g:l.getD (Int.toNat (l1.length:Int)) (0,0,0,())=y:=by rw[Int.toNat_natCast,e];exact qw9 _ _ _ _
  rw[g]
  by_cases h:y.1<p
  ·rw[qk h,qbk (by omega)]
   have:=qbc0 D n K l hl p a b m (l1++[y]) l2 (by rw[e,List.append_assoc];rfl) (by simp only[List.length_cons] at hf;omega)
   rw[List.length_append,List.length_singleton] at this
   rw[this,List.takeWhile_cons_of_pos (by exact decide_eq_true h),List.append_assoc]
   rfl
  ·rw[qh h,List.takeWhile_cons_of_neg (by simpa using h),List.append_nil]
theorem qlu (hn:W+2≤n) (hg:got.length≤1048576) {l:List qbw} (hl:l.length≤100) (p a:Int):qbu (DD X n) l got p a=some (((ent got p (fun _=>a)).foldl insS l,()),()):=by
 obtain ⟨n,rfl⟩:∃ k,n=k+1:=⟨n - 1,by omega⟩
 have hb:=qhu
 have hW:=qci
 rw[q9c hX]
 simp only[qvk,qud,qro]
 rw[qd8 hX (by omega) got hg,qc]
 dsimp only
 rw[qbf5]
 cases h:hit got p
 ·rw[Bool.not_false,br_t,qql h];rfl
 ·rw[Bool.not_true,br_f,qf7 h]
  have e:=qbc0 hX (DD X n) n (fun v0_0 v0_1 v0_2 v0_3 v0_4=>ql0 (DD X n) n v0_0 v0_1 v0_2 v0_3 v0_4) l (by omega) p a (qv got p).1 n [] l rfl (by omega)
  rw[show (([]:List qbw).length:Int)=0 from rfl,List.nil_append] at e
  rw[e]
  simp only[ql0]
  have hsplit:=List.takeWhile_append_dropWhile (p:=fun y:qbw=>decide (y.1<p)) (l:=l)
  generalize hA:l.takeWhile (fun y:qbw=>decide (y.1<p))=A at hsplit
  generalize hB:l.dropWhile (fun y:qbw=>decide (y.1<p))=B at hsplit
  have hlen:A.length+B.length=l.length:=by rw[←hsplit,List.length_append]
  have t1:l.take A.length=A:=by rw[←hsplit];simp
  have t2:l.drop A.length=B:=by rw[←hsplit];simp
  simp only[Int.toNat_natCast,Int.toNat_zero,List.drop_zero,List.nil_append,t1,List.take_length,t2,List.length_append,List.length_singleton]
  rw[show (decide ((0:Nat)≤0)&&decide ((0:Int)≤(A.length:Int))&&decide ((A.length:Int)≤(l.length:Int)))=true by
   rw[decide_eq_true (by omega:(0:Int)≤(A.length:Int)),decide_eq_true (by omega:(A.length:Int)≤(l.length:Int))];rfl]
  rw[br_t,qk (by omega),qk (by omega)]
  rw[show (decide ((0:Int)≤(A.length:Int))&&decide ((A.length:Int)≤(l.length:Int))&&decide ((l.length:Int)≤(l.length:Int)))=true by
   rw[decide_eq_true (by omega:(0:Int)≤(A.length:Int)),decide_eq_true (by omega:(A.length:Int)≤(l.length:Int)),decide_eq_true (by omega:(l.length:Int)≤(l.length:Int))];rfl]
  rw[br_t,qk (by omega)]
  simp only[List.foldl_cons,List.foldl_nil,insS]
  rw[hA,hB,List.append_assoc]
  rfl
theorem qvg (hn:W+4≤n) (hg:got.length≤1048576) {l:List qbw} (hl:l.length≤100) (p:Int):qfi (DD X n) l got p=some (((ent got p (fun v=>v)).foldl insS l,()),()):=by
 obtain ⟨n,rfl⟩:∃ k,n=k+1:=⟨n - 1,by omega⟩
 rw[q8b hX]
 simp only[qsz,qy0]
 rw[qd8 hX (by omega) got hg,qc]
 dsimp only
 rw[qlu hX (by omega) hg hl,qc]
 rfl
theorem qbhd (hn:1≤n) (a b:Int):qun (DD X n) a b=some ((max a b,()),()):=by
 obtain ⟨n,rfl⟩:∃ k,n=k+1:=⟨n - 1,by omega⟩
 rw[q9s hX]
 simp only[qvr,qz6]
 by_cases h:a>b
 ·rw[qk h,Int.max_eq_left (by omega)]
 ·rw[qh h,Int.max_eq_right (by omega)]
theorem q9x (hn:W+4≤n) (hg:got.length≤1048576) {l:List qbw} (hl:l.length≤100) (v by_:Int) :
  qgb (DD X n) l got v by_=some (((ent got (qbl (qp v)) (fun x=>max (IntKind.wrap IntKind.i64 (x+by_)) 0)).foldl insS l,()),()):=by
 obtain ⟨n,rfl⟩:∃ k,n=k+1:=⟨n - 1,by omega⟩
 rw[q8f hX]
 simp only[qsm,qyv]
 rw[qjh hX (by omega),qc]
 dsimp only
 rw[qjg hX (by omega),qc]
 dsimp only
 rw[qd8 hX (by omega) got hg,qc]
 dsimp only
 rw[qbhd hX (by omega),qc]
 dsimp only
 rw[qlu hX (by omega) hg hl,qc]
 rfl
end
end Go.G

namespace Go.G
set_option maxRecDepth 100000
open Go Go.V Go.Proofs
theorem qp0 (k:Int):((0≤k∧k≤3)∧qz k=k)∨(¬ (0≤k∧k≤3)∧qz k = -1):=by
 unfold qz
 by_cases h:0≤k∧k≤3
 ·rw[qb2.2 h];exact .inl ⟨h,rfl⟩
 ·rw[qku h];exact .inr ⟨h,rfl⟩
theorem qjm (v:Int):((1≤v∧v≤6)∧qbe v=3+v)∨(¬ (1≤v∧v≤6)∧qbe v = -1):=by
 unfold qbe
 by_cases h:1≤v∧v≤6
 ·rw[qb2.2 h,cond_true,qb8 (by omega) (by omega)];exact .inl ⟨h,rfl⟩
 ·rw[qku h];exact .inr ⟨h,rfl⟩
theorem qhk (v:Int):((1≤v∧v≤6)∧qbc v=13+v)∨(¬ (1≤v∧v≤6)∧qbc v = -1):=by
 unfold qbc
 by_cases h:1≤v∧v≤6
 ·rw[qb2.2 h,cond_true,qb8 (by omega) (by omega)];exact .inl ⟨h,rfl⟩
 ·rw[qku h];exact .inr ⟨h,rfl⟩
theorem qie (c:Int):((0≤c∧c≤2)∧qbl c=10+c)∨(¬ (0≤c∧c≤2)∧qbl c = -1):=by
 unfold qbl
 by_cases h:0≤c∧c≤2
 ·rw[qb2.2 h,cond_true,qb8 (by omega) (by omega)];exact .inl ⟨h,rfl⟩
 ·rw[qku h];exact .inr ⟨h,rfl⟩
theorem q2y (v:Int):((1≤v∧v≤6)∧0≤qp v∧qp v≤2)∨(¬ (1≤v∧v≤6)∧qp v = -1):=by
 unfold qp
 by_cases h:1≤v∧v≤6
 ·rw[qb2.2 h,cond_true,Int.tmod_eq_emod_of_nonneg (by omega)]
  exact .inl ⟨h,Int.emod_nonneg _ (by omega),by have:=Int.emod_lt_of_pos v (show (0:Int)<3 by omega);omega⟩
 ·rw[qku h];exact .inr ⟨h,rfl⟩
def Asc (l:List qbw):Prop:=l.Pairwise fun a b=>a.1<b.1
theorem q54 (p:Int):∀ (l:List qbw),Asc l→∀ y∈l.dropWhile (fun y=>decide (y.1<p)),p≤y.1
 | [],_,y,h=>by simp at h
 | x::l,hs,y,h=>by
  have hs2:=List.pairwise_cons.1 hs
  by_cases hx:x.1<p
  ·rw[List.dropWhile_cons_of_pos (by exact decide_eq_true hx)] at h
   exact q54 p l hs2.2 y h
  ·rw[List.dropWhile_cons_of_neg (by simpa using hx)] at h
   rcases List.mem_cons.1 h with h | h
   ·subst h;omega
   ·have:=hs2.1 y h;omega
theorem q5p (p:Int):∀ (l:List qbw),∀ y∈l.takeWhile (fun y=>decide (y.1<p)),y.1<p
 | [],y,h=>by simp at h
 | x::l,y,h=>by
  by_cases hx:x.1<p
  ·rw[List.takeWhile_cons_of_pos (by exact decide_eq_true hx)] at h
   rcases List.mem_cons.1 h with h | h
   ·subst h;exact hx
   ·exact q5p p l y h
  ·rw[List.takeWhile_cons_of_neg (by simpa using hx)] at h;simp at h
theorem qbam (l:List qbw) (e z:qbw):z∈insS l e↔z=e∨z∈l:=by
 unfold insS
 have h:z∈l↔z∈l.takeWhile (fun y=>decide (y.1<e.1))∨z∈l.dropWhile (fun y=>decide (y.1<e.1)):=by
  rw[←List.mem_append,List.takeWhile_append_dropWhile]
 rw[List.mem_append,List.mem_cons,h]
 constructor
 ·rintro (h | h | h)
  ·exact .inr (.inl h)
  ·exact .inl h
  ·exact .inr (.inr h)
 ·rintro (h | h | h)
  ·exact .inr (.inl h)
  ·exact .inl h
  ·exact .inr (.inr h)
theorem qbgt {l:List qbw} (hs:Asc l) {e:qbw} (he:∀ y∈l,y.1≠e.1):Asc (insS l e):=by
 unfold insS
 have hd:∀ y∈l.dropWhile (fun y=>decide (y.1<e.1)),e.1<y.1:=fun y hy=>by
  have h1:=q54 e.1 l hs y hy
  have h2:=he y (List.dropWhile_sublist _ |>.mem hy)
  omega
 have ht:=q5p e.1 l
 refine List.pairwise_append.2 ⟨hs.sublist (List.takeWhile_sublist _),List.pairwise_cons.2 ⟨hd,hs.sublist (List.dropWhile_sublist _)⟩,fun a ha b hb=>?_⟩
 have h1:=ht a ha
 rcases List.mem_cons.1 hb with h | h
 ·subst h;exact h1
 ·have:=hd b h;omega
theorem qbhx {l:List qbw} (hs:Asc l) {e:qbw} (he:∀ y∈l,y.1≠e.1):bub ekey l e=insS l e:=by
 have hd:∀ y∈l.dropWhile (fun y=>decide (y.1<e.1)),e.1<y.1:=fun y hy=>by
  have h1:=q54 e.1 l hs y hy
  have h2:=he y (List.dropWhile_sublist _ |>.mem hy)
  omega
 have ht:=q5p e.1 l
 have:=qbfl ekey e (l.takeWhile (fun y=>decide (y.1<e.1))) (fun y hy=>by have:=ht y hy;unfold ekey;omega) (l.dropWhile (fun y=>decide (y.1<e.1))).reverse (fun y hy=>hd y (List.mem_reverse.1 hy))
 rw[List.reverse_reverse,List.takeWhile_append_dropWhile] at this
 rw[this]
 rfl
def qbdq (l:List qbw):Prop:=l.Pairwise fun a b=>a.1≠b.1
theorem qba1:∀ (L acc:List qbw),Asc acc→qbdq L→(∀ a∈acc,∀ e∈L,a.1≠e.1)→L.foldl (bub ekey) acc=L.foldl insS acc∧Asc (L.foldl insS acc)∧(∀ z,z∈L.foldl insS acc↔z∈acc∨z∈L)∧(L.foldl insS acc).length=acc.length+L.length
 | [],acc,h,_,_=>⟨rfl,h,fun z=>by simp,rfl⟩
 | e::L,acc,h,hL,hx=>by
  have hL2:=List.pairwise_cons.1 hL
  have he:∀ y∈acc,y.1≠e.1:=fun y hy=>hx y hy e List.mem_cons_self
  simp only[List.foldl_cons]
  rw[qbhx h he]
  obtain ⟨r1,r2,r3,r4⟩:=qba1 L (insS acc e) (qbgt h he) hL2.2 (fun a ha b hb=>by
   rcases (qbam acc e a).1 ha with q | q
   ·subst q;exact hL2.1 b hb
   ·exact hx a q b (List.mem_cons_of_mem _ hb))
  refine ⟨r1,r2,fun z=>?_,by rw[r4,qoj,List.length_cons];omega⟩
  rw[r3 z,qbam,List.mem_cons]
  constructor
  ·rintro ((h | h) | h)
   ·exact .inr (.inl h)
   ·exact .inl h
   ·exact .inr (.inr h)
  ·rintro (h | h | h)
   ·exact .inl (.inr h)
   ·exact .inl (.inl h)
   ·exact .inr h
theorem qks:∀ (L acc:List qbw),(L.foldl insS acc).length=acc.length+L.length
 | [],acc=>rfl
 | e::L,acc=>by rw[List.foldl_cons,qks L,qoj,List.length_cons];omega
abbrev Want:=Int×(Int→Int)
def ents (got:Got) (L:List Want):List qbw:=L.flatMap fun p=>ent got p.1 p.2
theorem qbas (got:Got):∀ (L:List Want),(ents got L).length≤L.length
 | []=>Nat.le_refl _
 | p::L=>by
  have h1:=qfl got p.1 p.2
  have h2:=qbas got L
  show ((p::L).flatMap _).length≤_
  rw[List.flatMap_cons,List.length_append,List.length_cons]
  have:(L.flatMap fun p=>ent got p.1 p.2).length≤L.length:=h2
  omega
theorem qbag (got:Got) (L:List Want) (e:qbw):e∈ents got L↔∃ p∈L,hit got p.1=true∧e=(p.1,(qv got p.1).1,p.2 (qv got p.1).1,()):=by
 unfold ents
 rw[List.mem_flatMap]
 constructor
 ·rintro ⟨p,hp,he⟩
  refine ⟨p,hp,?_⟩
  unfold ent at he
  cases h:hit got p.1
  ·rw[h] at he;simp at he
  ·rw[h] at he;simp only[cond_true,List.mem_singleton] at he;exact ⟨rfl,he⟩
 ·rintro ⟨p,hp,h,rfl⟩
  exact ⟨p,hp,by rw[qf7 h];exact List.mem_singleton.2 rfl⟩
theorem qbdd {got:Got} {p:Int} (h:hit got p=true):0≤p:=by
 unfold hit at h
 simp only[Bool.and_eq_true,decide_eq_true_eq] at h
 exact h.1
theorem q3d (got:Got):∀ (L:List Want),(L.Pairwise fun p q=>0≤p.1→p.1≠q.1)→qbdq (ents got L)
 | [],_=>List.Pairwise.nil
 | p::L,h=>by
  have h2:=List.pairwise_cons.1 h
  have ih:=q3d got L h2.2
  show qbdq ((p::L).flatMap _)
  rw[List.flatMap_cons]
  cases hh:hit got p.1
  ·rw[qql hh];exact ih
  ·rw[qf7 hh]
   refine List.pairwise_cons.2 ⟨fun e he=>?_,ih⟩
   obtain ⟨q,hq,_,rfl⟩:=(qbag got L e).1 he
   exact h2.1 q hq (qbdd hh)
theorem qbd2 (got:Got) (L:List Want) (h:∀ p∈L,p.1≤19):∀ e∈ents got L,qi9 e.1:=by
 intro e he
 obtain ⟨p,hp,hh,rfl⟩:=(qbag got L e).1 he
 have h1:=qbdd hh
 have h2:=h p hp
 exact ⟨by show -1000≤p.1;omega,by show p.1≤1000;omega⟩
def chgL (K V held st:Int):List Want:=
 [(qz K,fun _=>V),(13,fun _=>st),(qbe held,fun _=>0),(qbc held,fun _=>0),(qbe V,fun _=>IntKind.wrap IntKind.i64 (K+1)),(qbc V,fun _=>IntKind.wrap IntKind.i64 (K+1))]++
  (bif qp held != qp V then [(qbl (qp held),less),(qbl (qp V),one)] else [])
theorem qbfy (K V held st:Int):(chgL K V held st).length≤8:=by
 unfold chgL
 cases qp held != qp V<;>simp
theorem qbij (K V held st:Int):∀ p∈chgL K V held st,p.1≤19:=by
 have h1:=qp0 K
 have h2:=qjm held
 have h3:=qjm V
 have h4:=qhk held
 have h5:=qhk V
 have h6:=qie (qp held)
 have h7:=qie (qp V)
 unfold chgL
 cases qp held != qp V
 ·intro p hp
  simp only[cond_false,List.append_nil,List.mem_cons,List.not_mem_nil,or_false] at hp
  rcases hp with rfl | rfl | rfl | rfl | rfl | rfl<;>dsimp only<;>omega
 ·intro p hp
  simp only[cond_true,List.cons_append,List.nil_append,List.mem_cons,List.not_mem_nil,or_false] at hp
  rcases hp with rfl | rfl | rfl | rfl | rfl | rfl | rfl | rfl<;>dsimp only<;>omega
theorem qbdk {K V held st:Int} (hv:1≤held∧held≤6→held≠V):(chgL K V held st).Pairwise fun p q=>0≤p.1→p.1≠q.1:=by
 have h1:=qp0 K
 have h2:=qjm held
 have h3:=qjm V
 have h4:=qhk held
 have h5:=qhk V
 have h6:=qie (qp held)
 have h7:=qie (qp V)
 unfold chgL
 cases hc:qp held != qp V
 ·simp only[cond_false,List.append_nil,List.pairwise_cons,List.mem_cons,List.not_mem_nil,or_false,forall_eq_or_imp,forall_eq,List.Pairwise.nil,and_true,false_implies,implies_true,forall_const]
  refine ⟨⟨?_,?_,?_,?_,?_⟩,⟨?_,?_,?_,?_⟩,⟨?_,?_,?_⟩,⟨?_,?_⟩,?_⟩<;>omega
 ·have hne:qp held≠qp V:=by simpa using hc
  simp only[cond_true,List.cons_append,List.nil_append,List.pairwise_cons,List.mem_cons,List.not_mem_nil,or_false,forall_eq_or_imp,forall_eq,List.Pairwise.nil,and_true,false_implies,implies_true,forall_const]
  refine ⟨⟨?_,?_,?_,?_,?_,?_,?_⟩,⟨?_,?_,?_,?_,?_,?_⟩,⟨?_,?_,?_,?_,?_⟩,⟨?_,?_,?_,?_⟩,⟨?_,?_,?_⟩,⟨?_,?_⟩,?_⟩<;>omega
end Go.G

namespace Go.G
set_option maxRecDepth 100000
open Go Go.V Go.Proofs
def qz3 (got:Got):Prop:=∀ x∈got,-1≤x.2.1∧x.2.1≤1000000
theorem q80 {got:Got}:∀ (l:Got),(∀ x∈l,x∈got)→qz3 got→∀ (p v:Int) (ok:Bool),-1≤v∧v≤1000000→-1≤(rd p l v ok).1∧(rd p l v ok).1≤1000000
 | [],_,_,p,v,ok,h=>h
 | x::l,hl,hg,p,v,ok,h=>by
  simp only[rd]
  split
  ·exact q80 l (fun y hy=>hl y (List.mem_cons_of_mem _ hy)) hg p _ _ (hg x (hl x List.mem_cons_self))
  ·exact q80 l (fun y hy=>hl y (List.mem_cons_of_mem _ hy)) hg p _ _ h
theorem qbfo {got:Got} (hg:qz3 got) (p:Int) : -1≤(qv got p).1∧(qv got p).1≤1000000:=q80 got (fun _ h=>h) hg p 0 false (by omega)
theorem qy9 {got:Got} {p:Int} {f g:Int→Int} (h:f (qv got p).1=g (qv got p).1):ent got p f=ent got p g:=by unfold ent;rw[h]
theorem qbhw (x:Int):less x=max (IntKind.wrap IntKind.i64 (x + -1)) 0:=by
 unfold less
 rw[show x - 1=x + -1 by omega]
 split
 ·rw[Int.max_eq_left (by omega)]
 ·rw[Int.max_eq_right (by omega)]
theorem qbiy {x:Int} (h : -1≤x∧x≤1000000):one x=max (IntKind.wrap IntKind.i64 (x+1)) 0:=by
 unfold one
 rw[qb8 (by omega) (by omega),Int.max_eq_left (by omega)]
section
variable {X:Ext} (hX:XOk X) {n:Nat} {got:Got}
include hX
theorem qbfg (hn:W+9≤n) (hg:got.length≤1048576) (k K V held st:Int) :
  qm8 (DD X n) (k,K,V,()) got held st=some (((ents got (chgL K V held st)).foldl (bub ekey) [],()),()):=by
 obtain ⟨n,rfl⟩:∃ k,n=k+1:=⟨n - 1,by omega⟩
 have hW:=qci
 obtain ⟨E1,h1⟩:∃ E,E=ent got (qz K) (fun _=>V):=⟨_,rfl⟩
 obtain ⟨E2,h2⟩:∃ E,E=ent got 13 (fun _=>st):=⟨_,rfl⟩
 obtain ⟨E3,h3⟩:∃ E,E=ent got (qbe held) (fun _=>0):=⟨_,rfl⟩
 obtain ⟨E4,h4⟩:∃ E,E=ent got (qbc held) (fun _=>0):=⟨_,rfl⟩
 obtain ⟨E5,h5⟩:∃ E,E=ent got (qbe V) (fun _=>IntKind.wrap IntKind.i64 (K+1)):=⟨_,rfl⟩
 obtain ⟨E6,h6⟩:∃ E,E=ent got (qbc V) (fun _=>IntKind.wrap IntKind.i64 (K+1)):=⟨_,rfl⟩
 obtain ⟨E7,h7⟩:∃ E,E=ent got (qbl (qp held)) less:=⟨_,rfl⟩
 obtain ⟨E8,h8⟩:∃ E,E=ent got (qbl (qp V)) one:=⟨_,rfl⟩
 have l1:E1.length≤1:=by rw[h1];exact qfl ..
 have l2:E2.length≤1:=by rw[h2];exact qfl ..
 have l3:E3.length≤1:=by rw[h3];exact qfl ..
 have l4:E4.length≤1:=by rw[h4];exact qfl ..
 have l5:E5.length≤1:=by rw[h5];exact qfl ..
 have l6:E6.length≤1:=by rw[h6];exact qfl ..
 have l7:E7.length≤1:=by rw[h7];exact qfl ..
 have l8:E8.length≤1:=by rw[h8];exact qfl ..
 have hs:=fun l hl hk=>qbih hX (n:=n) (by omega) l hl hk
 have hlen:=Nat.le_trans (qbas got (chgL K V held st)) (qbfy K V held st)
 have hsm:=qbd2 got (chgL K V held st) (qbij K V held st)
 have heq:ents got (chgL K V held st)=bif qp held != qp V then []++E1++E2++E3++E4++E5++E6++E7++E8 else []++E1++E2++E3++E4++E5++E6:=by
  unfold ents chgL
  cases qp held != qp V
  ·simp only[cond_false,List.append_nil,List.flatMap_cons,List.flatMap_nil,List.nil_append,List.append_assoc,←h1,←h2,←h3,←h4,←h5,←h6]
  ·simp only[cond_true,List.cons_append,List.nil_append,List.append_nil,List.flatMap_cons,List.flatMap_nil,List.append_assoc,←h1,←h2,←h3,←h4,←h5,←h6,←h7,←h8]
 rw[q45 hX]
 simp only[qrq,qxq]
 rw[qd1 hX (by omega),qc]
 dsimp only
 rw[qxt hX (by omega) hg (by simp),←h1,qc]
 dsimp only
 rw[qdy hX (by omega),qc]
 dsimp only
 rw[qxt hX (by omega) hg (by simp only[List.length_append,List.length_nil];omega),←h2,qc]
 dsimp only
 rw[qfg hX (by omega),qc]
 dsimp only
 rw[qxt hX (by omega) hg (by simp only[List.length_append,List.length_nil];omega),←h3,qc]
 dsimp only
 rw[qgv hX (by omega),qc]
 dsimp only
 rw[qxt hX (by omega) hg (by simp only[List.length_append,List.length_nil];omega),←h4,qc]
 dsimp only
 rw[qfg hX (by omega),qc]
 dsimp only
 rw[qxt hX (by omega) hg (by simp only[List.length_append,List.length_nil];omega),←h5,qc]
 dsimp only
 rw[qgv hX (by omega),qc]
 dsimp only
 rw[qxt hX (by omega) hg (by simp only[List.length_append,List.length_nil];omega),←h6,qc]
 dsimp only
 rw[qgq hX (by omega),qc,qgq hX (by omega),qc]
 dsimp only
 cases hc:qp held != qp V
 ·rw[hc,cond_false] at heq
  rw[br_f,←heq,hs _ (by omega) hsm,qc]
 ·rw[hc,cond_true] at heq
  rw[br_t]
  simp only[qc]
  rw[qff hX (by omega),qc]
  dsimp only
  rw[qbi3 hX (by omega) hg (by simp only[List.length_append,List.length_nil];omega),←h7,qc]
  dsimp only
  rw[qff hX (by omega),qc]
  dsimp only
  rw[qbi4 hX (by omega) hg (by simp only[List.length_append,List.length_nil];omega),←h8,qc]
  dsimp only
  rw[←heq,hs _ (by omega) hsm,qc]
theorem qbd5 (hn:W+7≤n) (hg:got.length≤1048576) (hv:qz3 got) (k K V:Int) (hk:k=3→V=0) :
  qoy (DD X n) (k,K,V,()) got=some (((ents got (chgL K V (qv got (qz K)).1 (qv got 13).1)).foldl insS [],()),()):=by
 obtain ⟨n,rfl⟩:∃ k,n=k+1:=⟨n - 1,by omega⟩
 have hW:=qci
 generalize hheld:(qv got (qz K)).1=held
 generalize hst:(qv got 13).1=st
 obtain ⟨E1,h1⟩:∃ E,E=ent got (qz K) (fun _=>V):=⟨_,rfl⟩
 obtain ⟨E2,h2⟩:∃ E,E=ent got 13 (fun _=>st):=⟨_,rfl⟩
 obtain ⟨E3,h3⟩:∃ E,E=ent got (qbe held) (fun _=>0):=⟨_,rfl⟩
 obtain ⟨E4,h4⟩:∃ E,E=ent got (qbc held) (fun _=>0):=⟨_,rfl⟩
 obtain ⟨E5,h5⟩:∃ E,E=ent got (qbe V) (fun _=>IntKind.wrap IntKind.i64 (K+1)):=⟨_,rfl⟩
 obtain ⟨E6,h6⟩:∃ E,E=ent got (qbc V) (fun _=>IntKind.wrap IntKind.i64 (K+1)):=⟨_,rfl⟩
 obtain ⟨E7,h7⟩:∃ E,E=ent got (qbl (qp held)) less:=⟨_,rfl⟩
 obtain ⟨E8,h8⟩:∃ E,E=ent got (qbl (qp V)) one:=⟨_,rfl⟩
 have l1:E1.length≤1:=by rw[h1];exact qfl ..
 have l2:E2.length≤1:=by rw[h2];exact qfl ..
 have l3:E3.length≤1:=by rw[h3];exact qfl ..
 have l4:E4.length≤1:=by rw[h4];exact qfl ..
 have l5:E5.length≤1:=by rw[h5];exact qfl ..
 have l6:E6.length≤1:=by rw[h6];exact qfl ..
 have l7:E7.length≤1:=by rw[h7];exact qfl ..
 have l8:E8.length≤1:=by rw[h8];exact qfl ..
 have e2:ent got 13 (fun v=>v)=E2:=by rw[h2];exact qy9 hst
 have e7:ent got (qbl (qp held)) (fun x=>max (IntKind.wrap IntKind.i64 (x + -1)) 0)=E7:=by rw[h7];exact qy9 (qbhw _).symm
 have e8:ent got (qbl (qp V)) (fun x=>max (IntKind.wrap IntKind.i64 (x+1)) 0)=E8:=by rw[h8];exact qy9 (qbiy (qbfo hv _)).symm
 have heq:(ents got (chgL K V held st)).foldl insS []=bif qp held != qp V then E8.foldl insS (E7.foldl insS (E6.foldl insS (E5.foldl insS (E4.foldl insS (E3.foldl insS (E2.foldl insS (E1.foldl insS [])))))))
   else E6.foldl insS (E5.foldl insS (E4.foldl insS (E3.foldl insS (E2.foldl insS (E1.foldl insS []))))):=by
  unfold ents chgL
  cases qp held != qp V
  ·simp only[cond_false,List.append_nil,List.flatMap_cons,List.flatMap_nil,List.foldl_append,List.foldl_nil,←h1,←h2,←h3,←h4,←h5,←h6]
  ·simp only[cond_true,List.cons_append,List.nil_append,List.flatMap_cons,List.flatMap_nil,List.foldl_append,List.foldl_nil,←h1,←h2,←h3,←h4,←h5,←h6,←h7,←h8]
 have key:∀ L:Option ((List qbw×Unit)×Unit),L=(qd (qb9 (DD X n) K) fun b_1↦
     qd (qbu (DD X n) [] got (Prod.fst (Prod.fst b_1)) V) fun b_2↦
      qd (qb5 (DD X n)) fun b_3↦
       qd (qfi (DD X n) (Prod.fst (Prod.fst b_2)) got (Prod.fst (Prod.fst b_3))) fun b_4↦
        qd (qcb (DD X n) held) fun b_5↦
         qd (qbu (DD X n) (Prod.fst (Prod.fst b_4)) got (Prod.fst (Prod.fst b_5)) 0) fun b_6↦
          qd (qc4 (DD X n) held) fun b_7↦
           qd (qbu (DD X n) (Prod.fst (Prod.fst b_6)) got (Prod.fst (Prod.fst b_7)) 0) fun b_8↦
            qd (qcb (DD X n) V) fun b_9↦
             qd
              (qbu (DD X n) (Prod.fst (Prod.fst b_8)) got (Prod.fst (Prod.fst b_9))
               (IntKind.wrap IntKind.i64 (K+1)))
              fun b_10↦
              qd (qc4 (DD X n) V) fun b_11↦
               qd
                (qbu (DD X n) (Prod.fst (Prod.fst b_10)) got (Prod.fst (Prod.fst b_11))
                 (IntKind.wrap IntKind.i64 (K+1)))
                fun b_12↦
                qd (qb4 (DD X n) held) fun b_13↦
                 qd (qb4 (DD X n) V) fun b_14↦
                  br (Prod.fst (Prod.fst b_13) != Prod.fst (Prod.fst b_14))
                   (qd (qgb (DD X n) (Prod.fst (Prod.fst b_12)) got held (-1)) fun b↦
                    qd (qgb (DD X n) (Prod.fst (Prod.fst b)) got V 1) fun b↦some ((Prod.fst (Prod.fst b),()),()))
                   (some ((Prod.fst (Prod.fst b_12),()),())))→L=some (((ents got (chgL K V held st)).foldl insS [],()),()):=by
  intro L hL
  rw[hL,heq,qep hX (by omega),qc]
  dsimp only
  rw[qlu hX (by omega) hg (by simp),←h1,qc]
  dsimp only
  rw[qe9 hX (by omega),qc]
  dsimp only
  rw[qvg hX (by omega) hg (by simp only[qks,List.length_nil];omega),e2,qc]
  dsimp only
  rw[qhv hX (by omega),qc]
  dsimp only
  rw[qlu hX (by omega) hg (by simp only[qks,List.length_nil];omega),←h3,qc]
  dsimp only
  rw[qkp hX (by omega),qc]
  dsimp only
  rw[qlu hX (by omega) hg (by simp only[qks,List.length_nil];omega),←h4,qc]
  dsimp only
  rw[qhv hX (by omega),qc]
  dsimp only
  rw[qlu hX (by omega) hg (by simp only[qks,List.length_nil];omega),←h5,qc]
  dsimp only
  rw[qkp hX (by omega),qc]
  dsimp only
  rw[qlu hX (by omega) hg (by simp only[qks,List.length_nil];omega),←h6,qc]
  dsimp only
  rw[qjh hX (by omega),qc,qjh hX (by omega),qc]
  dsimp only
  cases hc:qp held != qp V
  ·rw[br_f,cond_false]
  ·rw[br_t,cond_true,q9x hX (by omega) hg (by simp only[qks,List.length_nil];omega),e7,qc]
   dsimp only
   rw[q9x hX (by omega) hg (by simp only[qks,List.length_nil];omega),e8,qc]
 rw[q4f hX]
 simp only[qpw,qvt]
 rw[qep hX (by omega),qc]
 rw[qd8 hX (by omega) got hg,qc]
 dsimp only
 rw[hheld]
 by_cases h3k:k=3
 ·have hV:=hk h3k
  subst hV
  rw[show (k != 3)=false by simp[h3k],br_f]
  refine key _ ?_
  rw[qep hX (by omega),qc]
 ·rw[show (k != 3)=true by simp[h3k],br_t]
  refine key _ ?_
  rw[qep hX (by omega),qc]
end
end Go.G

namespace Go.G
set_option maxRecDepth 100000
open Go Go.V Go.Proofs
def opOk (o:Op3):Bool:=
 bif decide (o.1=1)||decide (o.1=2) then inR o.2.1 0 3&&inR o.2.2.1 1 6
 else bif decide (o.1=3)||decide (o.1=4) then inR o.2.1 0 3&&decide (o.2.2.1=0)
 else bif decide (o.1=5)||decide (o.1=10) then decide (o.2.1=0)&&inR o.2.2.1 1 6
 else bif decide (o.1=6) then inR o.2.1 0 2&&decide (o.2.2.1=0)
 else bif decide (o.1=7)||(decide (o.1=8)||decide (o.1=9)) then decide (o.2.1=0)&&decide (o.2.2.1=0) else false
def nowP (k V row owner st cnt:Int):Option (Int×List Int):=
 if k=1∧row≠0 then some (1,[]) else
 if k=1∧owner≠0 then some (2,[]) else
 if (k=2∨k=3∨k=4)∧row=0 then some (3,[]) else
 if k=2∧row=V then some (0,[]) else
 if k=2∧owner≠0 then some (2,[]) else
 if k=4 then some (0,[row]) else
 if k=5∧owner=0 then some (3,[]) else
 if k=5 then some (0,[IntKind.wrap IntKind.i64 (owner - 1)]) else
 if k=6 then some (0,[cnt]) else
 if k=8∧st≠0 then some (4,[]) else
 if k=9∧(st<1∨st>4) then some (4,[]) else
 if k=10∧st≠5 then some (4,[]) else none
def qkx:Option (Int×List Int)→(Int×List Int×Unit)×Bool×Unit
 | some x=>((x.1,x.2,()),true,())
 | none=>((0,[],()),false,())
abbrev Plan:=Bool×(Int×List Int×Unit)×List qbw×Unit
def qid:Option (Int×List Int)→Plan×Bool×Unit
 | some x=>((true,(x.1,x.2,()),[],()),true,())
 | none=>((true,(-1,[],()),[],()),false,())
def qhm (o:Op3) (got:Got):Option (Int×List Int):=
 nowP o.1 o.2.2.1 (qv got (qz o.2.1)).1 (qv got (qbe o.2.2.1)).1 (qv got 13).1 (qv got (qbl o.2.1)).1
theorem bned (a b:Int):(a != b)=!decide (a=b):=by by_cases h:a=b<;>simp[h]
section
variable {X:Ext} (hX:XOk X) {n:Nat} {got:Got}
include hX
theorem q35 (hn:4≤n) (k K V:Int):qrz (DD X n) (k,K,V,())=some ((opOk (k,K,V,()),()),()):=by
 obtain ⟨n,rfl⟩:∃ k,n=k+1:=⟨n - 1,by omega⟩
 rw[qbbu hX]
 simp only[qwm,q1g]
 simp only[q69 hX (n:=n) (by omega),qoq hX (n:=n) (by omega),qse hX (n:=n) (by omega),qbcr hX (n:=n) (by omega),qkj hX (n:=n) (by omega),qc]
 unfold opOk
 dsimp only
 generalize hA:inR K 0 3=A
 generalize hB:inR V 1 6=B
 generalize hC:inR K 0 2=C
 generalize hD:decide (K=0)=D
 generalize hE:decide (V=0)=E
 by_cases h:1≤k∧k≤10
 ·have:k=1∨k=2∨k=3∨k=4∨k=5∨k=6∨k=7∨k=8∨k=9∨k=10:=by omega
  rcases this with rfl | rfl | rfl | rfl | rfl | rfl | rfl | rfl | rfl | rfl<;>cases A<;>cases B<;>cases C<;>cases D<;>cases E<;>rfl
 ·rw[qku h,Bool.not_false,br_t]
  simp only[decide_eq_false (by omega:¬ k=1),decide_eq_false (by omega:¬ k=2),decide_eq_false (by omega:¬ k=3),decide_eq_false (by omega:¬ k=4),decide_eq_false (by omega:¬ k=5),decide_eq_false (by omega:¬ k=6),decide_eq_false (by omega:¬ k=7),decide_eq_false (by omega:¬ k=8),decide_eq_false (by omega:¬ k=9),decide_eq_false (by omega:¬ k=10),Bool.or_false,cond_false]
theorem q3p (hn:5≤n) (k K V:Int):qr3 (DD X n) (k,K,V,())=some ((opOk (k,K,V,()),()),()):=by
 obtain ⟨n,rfl⟩:∃ k,n=k+1:=⟨n - 1,by omega⟩
 rw[qbb0 hX]
 simp only[qwk,q1q]
 simp only[q7r hX (n:=n) (by omega),qkr hX (n:=n) (by omega),q86 hX (n:=n) (by omega),qc]
 unfold opOk
 dsimp only
 generalize hA:inR K 0 3=A
 generalize hB:inR V 1 6=B
 generalize hC:inR K 0 2=C
 generalize hD:decide (K=0)=D
 generalize hE:decide (V=0)=E
 by_cases h:1≤k∧k≤10
 ·have:k=1∨k=2∨k=3∨k=4∨k=5∨k=6∨k=7∨k=8∨k=9∨k=10:=by omega
  rcases this with rfl | rfl | rfl | rfl | rfl | rfl | rfl | rfl | rfl | rfl<;>cases A<;>cases B<;>cases C<;>cases D<;>cases E<;>rfl
 ·simp only[decide_eq_false (by omega:¬ k=1),decide_eq_false (by omega:¬ k=2),decide_eq_false (by omega:¬ k=3),decide_eq_false (by omega:¬ k=4),decide_eq_false (by omega:¬ k=5),decide_eq_false (by omega:¬ k=6),decide_eq_false (by omega:¬ k=7),decide_eq_false (by omega:¬ k=8),decide_eq_false (by omega:¬ k=9),decide_eq_false (by omega:¬ k=10),Bool.or_false,cond_false,br_f]
theorem qbga (hn:W+5≤n) (hg:got.length≤1048576) (o:Op3):qs9 (DD X n) o got=some (qkx (qhm o got),()):=by
 obtain ⟨n,rfl⟩:∃ k,n=k+1:=⟨n - 1,by omega⟩
 have hW:=qci
 obtain ⟨k,K,V,⟨⟩⟩:=o
 rw[q8p hX]
 simp only[qs5,qy3]
 simp only[qd1 hX (n:=n) (by omega),qfg hX (n:=n) (by omega),qff hX (n:=n) (by omega),qdy hX (n:=n) (by omega),qez hX (n:=n) (by omega) got hg,qc]
 unfold qhm
 dsimp only
 generalize (qv got (qz K)).1=row
 generalize (qv got (qbe V)).1=owner
 generalize (qv got 13).1=st
 generalize (qv got (qbl K)).1=cnt
 unfold nowP
 by_cases h:1≤k∧k≤10
 ·have:k=1∨k=2∨k=3∨k=4∨k=5∨k=6∨k=7∨k=8∨k=9∨k=10:=by omega
  rcases this with rfl | rfl | rfl | rfl | rfl | rfl | rfl | rfl | rfl | rfl
  ·by_cases r0:row=0<;>by_cases w0:owner=0<;>simp[r0,w0,br,qkx,bned]
  ·by_cases rV:row=V
   ·subst rV;by_cases r0:row=0<;>simp[r0,br,qkx,bned]
   ·by_cases r0:row=0<;>by_cases w0:owner=0<;>simp[r0,rV,w0,br,qkx,bned]
  ·by_cases r0:row=0<;>simp[r0,br,qkx,bned]
  ·by_cases r0:row=0<;>simp[r0,br,qkx,bned]
  ·by_cases w0:owner=0<;>simp[w0,br,qkx,bned]
  ·simp[br,qkx,bned]
  ·simp[br,qkx,bned]
  ·by_cases s0:st=0<;>simp[s0,br,qkx,bned]
  ·by_cases s1:st<1<;>by_cases s4:4<st<;>simp[s1,s4,br,qkx,bned]
  ·by_cases s5:st=5<;>simp[s5,br,qkx,bned]
 ·simp only[decide_eq_false (by omega:¬ k=1),decide_eq_false (by omega:¬ k=2),decide_eq_false (by omega:¬ k=3),decide_eq_false (by omega:¬ k=4),decide_eq_false (by omega:¬ k=5),decide_eq_false (by omega:¬ k=6),decide_eq_false (by omega:¬ k=7),decide_eq_false (by omega:¬ k=8),decide_eq_false (by omega:¬ k=9),decide_eq_false (by omega:¬ k=10),cond_false,br_f]
  have k1:¬ k=1:=by omega
  have k2:¬ k=2:=by omega
  have k3:¬ k=3:=by omega
  have k4:¬ k=4:=by omega
  have k5:¬ k=5:=by omega
  have k6:¬ k=6:=by omega
  have k8:¬ k=8:=by omega
  have k9:¬ k=9:=by omega
  have k10:¬ k=10:=by omega
  simp[k1,k2,k3,k4,k5,k6,k8,k9,k10,qkx]
theorem qbir (hn:W+5≤n) (hg:got.length≤1048576) (o:Op3):quk (DD X n) o got=some (qid (qhm o got),()):=by
 obtain ⟨n,rfl⟩:∃ k,n=k+1:=⟨n - 1,by omega⟩
 have hW:=qci
 obtain ⟨k,K,V,⟨⟩⟩:=o
 rw[qbax hX]
 simp only[quf,qz1]
 simp only[qep hX (n:=n) (by omega),qhv hX (n:=n) (by omega),qjg hX (n:=n) (by omega),qe9 hX (n:=n) (by omega),qd8 hX (n:=n) (by omega) got hg,qse hX (n:=n) (by omega),qc]
 simp only[←qbe6]
 unfold qhm
 dsimp only
 generalize (qv got (qz K)).1=row
 generalize (qv got (qbe V)).1=owner
 generalize (qv got 13).1=st
 generalize (qv got (qbl K)).1=cnt
 unfold nowP
 by_cases h:1≤k∧k≤10
 ·have:k=1∨k=2∨k=3∨k=4∨k=5∨k=6∨k=7∨k=8∨k=9∨k=10:=by omega
  rcases this with rfl | rfl | rfl | rfl | rfl | rfl | rfl | rfl | rfl | rfl
  ·by_cases r0:row=0<;>by_cases w0:owner=0<;>simp[r0,w0,br,qid,bned]
  ·by_cases rV:row=V
   ·subst rV;by_cases r0:row=0<;>simp[r0,br,qid,bned]
   ·by_cases r0:row=0<;>by_cases w0:owner=0<;>simp[r0,rV,w0,br,qid,bned]
  ·by_cases r0:row=0<;>simp[r0,br,qid,bned]
  ·by_cases r0:row=0<;>simp[r0,br,qid,bned]
  ·by_cases w0:owner=0<;>simp[w0,br,qid,bned]
  ·simp[br,qid,bned]
  ·simp[br,qid,bned]
  ·by_cases s0:st=0<;>simp[s0,br,qid,bned]
  ·by_cases s1:st<1<;>by_cases s4:4<st<;>simp[s1,s4,br,qid,bned]
  ·by_cases s5:st=5<;>simp[s5,br,qid,bned]
 ·simp only[decide_eq_false (by omega:¬ k=1),decide_eq_false (by omega:¬ k=2),decide_eq_false (by omega:¬ k=3),decide_eq_false (by omega:¬ k=4),decide_eq_false (by omega:¬ k=5),decide_eq_false (by omega:¬ k=6),decide_eq_false (by omega:¬ k=7),decide_eq_false (by omega:¬ k=8),decide_eq_false (by omega:¬ k=9),decide_eq_false (by omega:¬ k=10),cond_false,br_f]
  have k1:¬ k=1:=by omega
  have k2:¬ k=2:=by omega
  have k3:¬ k=3:=by omega
  have k4:¬ k=4:=by omega
  have k5:¬ k=5:=by omega
  have k6:¬ k=6:=by omega
  have k8:¬ k=8:=by omega
  have k9:¬ k=9:=by omega
  have k10:¬ k=10:=by omega
  simp[k1,k2,k3,k4,k5,k6,k8,k9,k10,qid]
end
end Go.G

namespace Go.G
set_option maxRecDepth 100000
open Go Go.V Go.Proofs
def val (got:Got) (p:Int):Int:=(qv got p).1
def becP (k row st p old:Int):Int:=if k=8 then IntKind.wrap IntKind.i64 (old+1) else if k=9 then (if p=13 then IntKind.wrap IntKind.i64 (old+1) else if p=qbc row then st else old) else old
def same (got:Got) (p:Int):qbw:=(p,val got p,val got p,())
def entP (o:Op3) (got:Got):List qbw:=
 if o.1=1∨o.1=2∨o.1=3 then (ents got (chgL o.2.1 o.2.2.1 (val got (qz o.2.1)) (val got 13))).foldl insS [] else
 if o.1=7 then [same got 0,same got 1,same got 2,same got 3] else
 if o.1=8 then [(13,val got 13,1,())] else
 if o.1=9 then same got (qz (IntKind.wrap IntKind.i64 (val got 13 - 1)))::(13,val got 13,IntKind.wrap IntKind.i64 (val got 13+1),())::
  (bif inR (val got (qz (IntKind.wrap IntKind.i64 (val got 13 - 1)))) 1 6 then [(qbc (val got (qz (IntKind.wrap IntKind.i64 (val got 13 - 1)))),val got (qbc (val got (qz (IntKind.wrap IntKind.i64 (val got 13 - 1))))),val got 13,())] else []) else
 if o.1=10 then [same got 13,same got (qbc o.2.2.1)] else []
def resP (o:Op3) (got:Got):Int×List Int×Unit:=
 if o.1=7 then (0,[val got 0,val got 1,val got 2,val got 3],()) else
 if o.1=10 then (if val got (qbc o.2.2.1)=0 then (3,[],()) else (0,[IntKind.wrap IntKind.i64 (val got (qbc o.2.2.1) - 1)],())) else (0,[],())
def qbi1:Plan:=(false,(0,[],()),[],())
def qpk (o:Op3) (got:Got):Plan×Bool×Unit:=
 if opOk o=true∧(run got (prog o)).2<0 then
  match qhm o got with
  | some x=>((true,(x.1,x.2,()),[],()),true,())
  | none=>((false,resP o got,entP o got,()),true,())
 else (qbi1,false,())
theorem qlq {got:Got} {p:Int} {k:Int→PR} (hp:0≤p) (h:(run got (.ask p k)).2<0):hit got p=true∧(run got (k (val got p))).2<0∧(run got (.ask p k)).1=p::(run got (k (val got p))).1:=by
 cases hh:hit got p
 ·rw[qcx hh] at h;dsimp only at h;omega
 ·rw[qdh hh] at h ⊢;exact ⟨rfl,h,rfl⟩
theorem qtt {o:Op3} (h:opOk o=true):((o.1=1∨o.1=2)∧(0≤o.2.1∧o.2.1≤3)∧(1≤o.2.2.1∧o.2.2.1≤6))∨((o.1=3∨o.1=4)∧(0≤o.2.1∧o.2.1≤3)∧o.2.2.1=0)∨
  ((o.1=5∨o.1=10)∧o.2.1=0∧(1≤o.2.2.1∧o.2.2.1≤6))∨(o.1=6∧(0≤o.2.1∧o.2.1≤2)∧o.2.2.1=0)∨((o.1=7∨o.1=8∨o.1=9)∧o.2.1=0∧o.2.2.1=0):=by
 unfold opOk at h
 by_cases k12:o.1=1∨o.1=2
 ·rw[show (decide (o.1=1)||decide (o.1=2))=true by simpa using k12,cond_true,Bool.and_eq_true] at h
  exact .inl ⟨k12,qb2.1 h.1,qb2.1 h.2⟩
 rw[show (decide (o.1=1)||decide (o.1=2))=false by simpa using k12,cond_false] at h
 by_cases k34:o.1=3∨o.1=4
 ·rw[show (decide (o.1=3)||decide (o.1=4))=true by simpa using k34,cond_true,Bool.and_eq_true,decide_eq_true_eq] at h
  exact .inr (.inl ⟨k34,qb2.1 h.1,h.2⟩)
 rw[show (decide (o.1=3)||decide (o.1=4))=false by simpa using k34,cond_false] at h
 by_cases k5:o.1=5∨o.1=10
 ·rw[show (decide (o.1=5)||decide (o.1=10))=true by simpa using k5,cond_true,Bool.and_eq_true,decide_eq_true_eq] at h
  exact .inr (.inr (.inl ⟨k5,h.1,qb2.1 h.2⟩))
 rw[show (decide (o.1=5)||decide (o.1=10))=false by simpa using k5,cond_false] at h
 by_cases k6:o.1=6
 ·rw[decide_eq_true k6,cond_true,Bool.and_eq_true,decide_eq_true_eq] at h
  exact .inr (.inr (.inr (.inl ⟨k6,qb2.1 h.1,h.2⟩)))
 rw[decide_eq_false k6,cond_false] at h
 by_cases k7:o.1=7∨o.1=8∨o.1=9
 ·rw[show (decide (o.1=7)||(decide (o.1=8)||decide (o.1=9)))=true by simpa using k7,cond_true,Bool.and_eq_true,decide_eq_true_eq,decide_eq_true_eq] at h
  exact .inr (.inr (.inr (.inr ⟨k7,h.1,h.2⟩)))
 ·rw[show (decide (o.1=7)||(decide (o.1=8)||decide (o.1=9)))=false by simpa using k7,cond_false] at h
  exact absurd h (by simp)
theorem qbf8 {got:Got} {K V held st:Int} (hv:1≤held∧held≤6→held≠V):(ents got (chgL K V held st)).foldl (bub ekey) []=(ents got (chgL K V held st)).foldl insS []∧Asc ((ents got (chgL K V held st)).foldl insS [])∧
  (∀ z,z∈(ents got (chgL K V held st)).foldl insS []↔z∈ents got (chgL K V held st))∧((ents got (chgL K V held st)).foldl insS []).length=(ents got (chgL K V held st)).length:=by
 obtain ⟨r1,r2,r3,r4⟩:=qba1 (ents got (chgL K V held st)) [] List.Pairwise.nil (q3d got _ (qbdk hv)) (fun a ha=>by simp at ha)
 exact ⟨r1,r2,fun z=>by rw[r3];simp,by rw[r4];simp⟩
theorem qbib {o:Op3} {got:Got} (ho:opOk o=true) (hn:qhm o got=none) (hk:o.1=1∨o.1=2∨o.1=3):1≤val got (qz o.2.1)∧val got (qz o.2.1)≤6→val got (qz o.2.1)≠o.2.2.1:=by
 intro h
 have:=qtt ho
 unfold qhm nowP at hn
 rcases hk with k | k | k
 ·rw[k] at hn
  by_cases h0:(qv got (qz o.2.1)).1=0
  ·unfold val at h;omega
  ·rw[if_pos ⟨rfl,h0⟩] at hn;cases hn
 ·rw[k] at hn
  rw[if_neg (by omega),if_neg (by omega)] at hn
  by_cases h0:(qv got (qz o.2.1)).1=0
  ·unfold val at h;omega
  ·rw[if_neg (by omega)] at hn
   by_cases h1:(qv got (qz o.2.1)).1=o.2.2.1
   ·rw[if_pos ⟨rfl,h1⟩] at hn;cases hn
   ·exact h1
 ·omega
section
variable {X:Ext} (hX:XOk X) {n:Nat} {got:Got}
include hX
theorem qbf3 (hn:4≤n) (o:Op3) (p old row st:Int):qss (DD X n) o p old row st=some ((becP o.1 row st p old,()),()):=by
 obtain ⟨n,rfl⟩:∃ k,n=k+1:=⟨n - 1,by omega⟩
 rw[q8i hX]
 simp only[qtc,qyt]
 rw[qdy hX (by omega),qc,qgv hX (by omega),qc]
 unfold becP
 by_cases h8:o.1=8
 ·rw[qk h8,if_pos h8]
 rw[qh h8,if_neg h8]
 by_cases h9:o.1=9
 ·rw[qk h9,if_pos h9]
  by_cases h1:p=13
  ·rw[qk h1,if_pos h1]
  rw[qh h1,if_neg h1]
  by_cases h2:p=qbc row
  ·rw[qk h2,if_pos h2]
  ·rw[qh h2,if_neg h2]
 ·rw[qh h9,if_neg h9]
theorem q84 (N n:Nat) (hN:W+2≤N) (hg:got.length≤1048576) (K:Got→Op3→Plan→Plan→Option ((Plan×Bool×Unit)×Unit)) (st row:Int) (o:Op3) (x6:Plan) (g:Got) (P:List Int) (mo:Int×Bool×Unit) (hP:P.length≤20) :
  ∀ (m i:Nat) (rl:List Int) (el:List qbw),i≤P.length→P.length - i<m→rl.length≤i→el.length≤i→
  qgh (DD X N) n K m got st row (P.length:Int) (i:Int) o x6 (false,(0,rl,()),el,()) (g,P,mo) =
   K got o x6 (false,(0,rl++(if o.1=7 then (P.drop i).map (val got) else []),()),el++(P.drop i).map (fun p=>(p,val got p,becP o.1 row st p (val got p),())),())
 | 0,_,_,_,_,h,_,_=>by omega
 | m+1,i,rl,el,hi,hf,h1,h2=>by
  have hb:=qhu
  have hW:=qci
  simp only[qgh,qrj]
  by_cases h:i<P.length
  ·rw[qk (by omega),ix h,br_t,qez hX (by omega) got hg,qc,Int.toNat_natCast,qfq h]
   dsimp only
   rw[qbf3 hX (by omega),qc]
   dsimp only
   rw[qk (by omega),qkt h]
   simp only[List.map_cons]
   by_cases h7:o.1=7
   ·rw[qk h7,qk (by omega),qbk (by omega)]
    rw[q84 N n hN hg K st row o x6 g P mo hP m (i+1) _ _ (by omega) (by omega) (by rw[List.length_append,List.length_singleton];omega) (by rw[List.length_append,List.length_singleton];omega)]
    rw[if_pos h7,if_pos h7,List.append_assoc,List.append_assoc]
    rfl
   ·rw[qh h7,qbk (by omega)]
    rw[q84 N n hN hg K st row o x6 g P mo hP m (i+1) _ _ (by omega) (by omega) (by omega) (by rw[List.length_append,List.length_singleton];omega)]
    rw[if_neg h7,if_neg h7,List.append_assoc]
    rfl
  ·rw[qh (by omega),qmw h]
   simp
end
end Go.G

namespace Go.G
set_option maxRecDepth 100000
open Go Go.V Go.Proofs
theorem q7i {o:Op3} {got:Got} (ho:opOk o=true) (hn:qhm o got=none) (hr:(run got (prog o)).2<0) (hk:¬ (o.1=1∨o.1=2∨o.1=3)) :
    ((run got (prog o)).1.length≤12∧∀ e∈(run got (prog o)).1,qi9 e)∧
    ((o.1=7∧(run got (prog o)).1.foldl (bub ikey) []=[0,1,2,3])∨
     (o.1=8∧val got 13=0∧(run got (prog o)).1.foldl (bub ikey) []=[13])∨
     (o.1=9∧(1≤val got 13∧val got 13≤4)∧(run got (prog o)).1.foldl (bub ikey) []=qz (IntKind.wrap IntKind.i64 (val got 13 - 1))::13::(bif inR (val got (qz (IntKind.wrap IntKind.i64 (val got 13 - 1)))) 1 6 then [qbc (val got (qz (IntKind.wrap IntKind.i64 (val got 13 - 1))))] else []))∨
     (o.1=10∧(run got (prog o)).1.foldl (bub ikey) []=[13,qbc o.2.2.1])):=by
  have hkd:=qtt ho
  unfold qhm nowP at hn
  rw[if_neg (by omega),if_neg (by omega)] at hn
  by_cases k4:o.1=4
  · exfalso
    by_cases h0:(qv got (qz o.2.1)).1=0
    · rw[if_pos ⟨.inr (.inr k4),h0⟩] at hn;cases hn
    · rw[if_neg (by omega),if_neg (by omega),if_neg (by omega),if_pos k4] at hn;cases hn
  rw[if_neg (by omega),if_neg (by omega),if_neg (by omega),if_neg k4] at hn
  by_cases k5:o.1=5
  · exfalso
    by_cases h0:(qv got (qbe o.2.2.1)).1=0
    · rw[if_pos ⟨k5,h0⟩] at hn;cases hn
    · rw[if_neg (by omega),if_pos k5] at hn;cases hn
  rw[if_neg (by omega),if_neg k5] at hn
  by_cases k6:o.1=6
  · exfalso;rw[if_pos k6] at hn;cases hn
  rw[if_neg k6] at hn
  have kk:o.1=7∨o.1=8∨o.1=9∨o.1=10:=by omega
  have hprog:prog o=if o.1=7 then qmc else if o.1=8 then .ask 13 (fun _=>.done) else if o.1=9 then qms else if o.1=10 then qnj o else .done:=by
    unfold prog
    rw[if_neg (by omega),if_neg (by omega),if_neg (by omega),if_neg k4,if_neg k5,if_neg k6]
  rw[hprog] at hr ⊢
  rcases kk with k | k | k | k
  · rw[if_pos k] at hr ⊢
    unfold qmc at hr ⊢
    obtain ⟨_,r1,e1⟩:=qlq (by omega) hr
    obtain ⟨_,r2,e2⟩:=qlq (by omega) r1
    obtain ⟨_,r3,e3⟩:=qlq (by omega) r2
    obtain ⟨_,_,e4⟩:=qlq (by omega) r3
    rw[e1,e2,e3,e4]
    refine ⟨⟨by simp[run],fun e he=>?_⟩,.inl ⟨k,rfl⟩⟩
    simp only[run,List.mem_cons,List.not_mem_nil,or_false] at he
    rcases he with rfl | rfl | rfl | rfl<;>exact ⟨by omega,by omega⟩
  · rw[if_neg (by omega),if_pos k] at hr ⊢
    obtain ⟨_,_,e1⟩:=qlq (by omega) hr
    rw[e1]
    refine ⟨⟨by simp[run],fun e he=>?_⟩,.inr (.inl ⟨k,?_,rfl⟩)⟩
    · simp only[run,List.mem_cons,List.not_mem_nil,or_false] at he
      subst he;exact ⟨by omega,by omega⟩
    · by_cases s0:(qv got 13).1=0
      · exact s0
      · rw[if_pos ⟨k,s0⟩] at hn;cases hn
  · rw[if_neg (by omega),if_neg (by omega),if_pos k] at hr ⊢
    rw[if_neg (by omega)] at hn
    have hst:1≤val got 13∧val got 13≤4:=by
      by_cases s0:(qv got 13).1<1∨(qv got 13).1>4
      · rw[if_pos ⟨k,s0⟩] at hn;cases hn
      · unfold val;omega
    unfold qms at hr ⊢
    obtain ⟨_,r1,e1⟩:=qlq (by omega) hr
    rw[e1]
    have hb:(bif decide (val got 13<1) then true else decide (val got 13>4))=false:=by
      rw[decide_eq_false (by omega),decide_eq_false (by omega)];rfl
    rw[hb,cond_false] at r1 ⊢
    have hw:IntKind.wrap IntKind.i64 (val got 13 - 1)=val got 13 - 1:=qb8 (by omega) (by omega)
    have hrow:=qp0 (IntKind.wrap IntKind.i64 (val got 13 - 1))
    rw[hw] at hrow
    rw[hw] at r1 ⊢
    obtain ⟨_,r2,e2⟩:=qlq (by omega) r1
    rw[e2]
    generalize hrr:qz (val got 13 - 1)=p at *
    have hp:0≤p∧p≤3:=by omega
    cases hv:inR (val got p) 1 6
    · rw[Bool.not_false,cond_true,cond_false]
      have es:[(13:Int),p].foldl (bub ikey) []=[p,13]:=by
        simp only[List.foldl_cons,List.foldl_nil,bub,List.reverse_nil,bubR,List.reverse_singleton]
        rw[if_pos (show ikey p<ikey 13 by unfold ikey;omega)];rfl
      refine ⟨⟨by simp[run],fun e he=>?_⟩,.inr (.inr (.inl ⟨k,hst,es⟩))⟩
      simp only[run,List.mem_cons,List.not_mem_nil,or_false] at he
      rcases he with rfl | rfl<;>exact ⟨by omega,by omega⟩
    · rw[hv,Bool.not_true,cond_false] at r2
      rw[Bool.not_true,cond_false,cond_true]
      have hvia:=qhk (val got p)
      have hvr:=qb2.1 hv
      obtain ⟨_,_,e3⟩:=qlq (by omega) r2
      rw[e3]
      have es:[(13:Int),p,qbc (val got p)].foldl (bub ikey) []=[p,13,qbc (val got p)]:=by
        simp only[List.foldl_cons,List.foldl_nil,bub,List.reverse_nil,bubR,List.reverse_singleton]
        rw[if_pos (show ikey p<ikey 13 by unfold ikey;omega)]
        simp only[List.reverse_cons,List.reverse_nil,List.nil_append,List.cons_append,bubR]
        rw[if_neg (show ¬ ikey (qbc (val got p))<ikey 13 by unfold ikey;omega)]
        rfl
      refine ⟨⟨by simp[run],fun e he=>?_⟩,.inr (.inr (.inl ⟨k,hst,es⟩))⟩
      simp only[run,List.mem_cons,List.not_mem_nil,or_false] at he
      rcases he with rfl | rfl | rfl<;>exact ⟨by omega,by omega⟩
  · rw[if_neg (by omega),if_neg (by omega),if_neg (by omega),if_pos k] at hr ⊢
    rw[if_neg (by omega),if_neg (by omega)] at hn
    have hst:val got 13=5:=by
      by_cases s0:(qv got 13).1=5
      · exact s0
      · rw[if_pos ⟨k,s0⟩] at hn;cases hn
    unfold qnj at hr ⊢
    obtain ⟨_,r1,e1⟩:=qlq (by omega) hr
    rw[e1]
    rw[hst] at r1 ⊢
    rw[show ((5:Int) != 5)=false by decide,cond_false] at r1 ⊢
    have hvia:=qhk o.2.2.1
    obtain ⟨_,_,e3⟩:=qlq (by omega) r1
    rw[e3]
    have es:[(13:Int),qbc o.2.2.1].foldl (bub ikey) []=[13,qbc o.2.2.1]:=by
      simp only[List.foldl_cons,List.foldl_nil,bub,List.reverse_nil,bubR,List.reverse_singleton]
      rw[if_neg (show ¬ ikey (qbc o.2.2.1)<ikey 13 by unfold ikey;omega)]
      rfl
    refine ⟨⟨by simp[run],fun e he=>?_⟩,.inr (.inr (.inr ⟨k,es⟩))⟩
    simp only[run,List.mem_cons,List.not_mem_nil,or_false] at he
    rcases he with rfl | rfl<;>exact ⟨by omega,by omega⟩
end Go.G

namespace Go.G
set_option maxRecDepth 100000
open Go Go.V Go.Proofs
section
variable {X:Ext} (hX:XOk X) {n:Nat} {got:Got}
include hX
theorem qbfa (hn:W+3≤n) (hg:got.length≤1048576) (o:Op3) (x6:Plan) (rl:List Int) (el:List qbw):qgf (DD X n) n got o x6 (false,(0,rl,()),el,()) =
  some (((false,(if o.1=10 then (if val got (qbc o.2.2.1)=0 then (3,rl,()) else (0,[IntKind.wrap IntKind.i64 (val got (qbc o.2.2.1) - 1)],())) else (0,rl,())),el,()),true,()),()):=by
 have hW:=qci
 simp only[qgf]
 by_cases k:o.1=10
 ·rw[qk k,if_pos k,qgv hX (by omega),qc]
  dsimp only
  rw[qez hX (by omega) got hg,qc]
  dsimp only
  unfold val
  by_cases h:(qv got (qbc o.2.2.1)).1=0
  ·rw[bned,decide_eq_true h,Bool.not_true,br_f,if_pos h]
  ·rw[bned,decide_eq_false h,Bool.not_false,br_t,if_neg h]
 ·rw[qh k,if_neg k]
theorem qbay (hn:W+14≤n) (hg:got.length≤1048576) (o:Op3):qs2 (DD X n) o got=some (qpk o got,()):=by
 obtain ⟨n,rfl⟩:∃ k,n=k+1:=⟨n - 1,by omega⟩
 have hW:=qci
 obtain ⟨k,K,V,⟨⟩⟩:=o
 rw[q8m hX]
 simp only[qsy,qs6,qpi]
 rw[q3p hX (by omega),qc]
 dsimp only
 unfold qpk
 cases ho:opOk (k,K,V,())
 ·rw[Bool.not_false,br_t,if_neg (by simp)];rfl
 obtain ⟨b,e⟩:=qban hX (n:=n) (by omega) hg (k,K,V,())
 rw[Bool.not_true,br_f,e,qc]
 dsimp only
 by_cases hr:(run got (prog (k,K,V,()))).2<0
 ·rw[qh (by omega),if_pos ⟨rfl,hr⟩,qbga hX (by omega) hg,qc]
  cases hnow:qhm (k,K,V,()) got with
  | some x=>
   simp only[qkx]
   rw[br_t]
  | none=>
   simp only[qkx]
   rw[br_f,qdy hX (by omega),qc]
   dsimp only
   rw[qez hX (by omega) got hg,qc]
   dsimp only
   rw[qd1 hX (by omega),qc]
   dsimp only
   rw[qez hX (by omega) got hg,qc]
   dsimp only
   by_cases hk:k=1∨k=2∨k=3
   ·have hne:=qbib ho hnow hk
    obtain ⟨c1,_,_,_⟩:=qbf8 (got:=got) (K:=K) (V:=V) (held:=val got (qz K)) (st:=val got 13) hne
    have h123:(bif bif decide (k=1) then true else decide (k=2) then true else decide (k=3))=true:=by
     rcases hk with h | h | h<;>subst h<;>rfl
    rw[qh (by omega),h123,br_t,qbfg hX (by omega) hg,qc]
    dsimp only
    unfold resP entP
    rw[if_pos hk,if_neg (show ¬ k=7 by omega),if_neg (show ¬ k=10 by omega)]
    have c1':=c1
    unfold val at c1' ⊢
    rw[c1']
   ·obtain ⟨⟨p1,p2⟩,pl⟩:=q7i ho hnow hr hk
    have h123:(bif bif decide (k=1) then true else decide (k=2) then true else decide (k=3))=false:=by
     rw[decide_eq_false (show ¬ k=1 by omega),decide_eq_false (show ¬ k=2 by omega),decide_eq_false (show ¬ k=3 by omega)];rfl
    rw[h123]
    simp only[br_f]
    have hsort:=qbh6 hX (n:=n) (by omega) _ p1 p2
    have hloop:∀ (row:Int) (P:List Int) (x6:Plan),P.length≤20→qgh (DD X n) n (fun v0_0 v0_1 v0_2 v0_3=>qgf (DD X n) n v0_0 v0_1 v0_2 v0_3) n got (qv got 13).1 row (P.length:Int) 0 (k,K,V,()) x6 (false,(0,[],()),[],()) (got,P,(run got (prog (k,K,V,()))).2,b,()) =
      some (((false,(if k=10 then (if val got (qbc V)=0 then (3,(if k=7 then P.map (val got) else []),()) else (0,[IntKind.wrap IntKind.i64 (val got (qbc V) - 1)],())) else (0,(if k=7 then P.map (val got) else []),())),P.map (fun p=>(p,val got p,becP k row (qv got 13).1 p (val got p),())),()),true,()),()):=by
     intro row P x6 hP
     have:=q84 hX n n (by omega) hg (fun v0_0 v0_1 v0_2 v0_3=>qgf (DD X n) n v0_0 v0_1 v0_2 v0_3) (qv got 13).1 row (k,K,V,()) x6 got P ((run got (prog (k,K,V,()))).2,b,()) hP n 0 [] [] (by omega) (by omega) (by simp) (by simp)
     rw[show ((0:Nat):Int)=0 from rfl,List.drop_zero] at this
     rw[this]
     rw[qbfa hX (by omega) hg]
     simp only[List.nil_append]
    unfold resP entP
    dsimp only
    rw[if_neg hk]
    rcases pl with ⟨h7,hp⟩ | ⟨h8,hz,hp⟩ | ⟨h9,hz,hp⟩ | ⟨h10,hp⟩
    ·dsimp only at h7;subst h7
     rw[qh (by decide),hsort,qc,hp]
     dsimp only
     rw[hloop _ [0,1,2,3] _ (by simp)]
     rfl
    ·dsimp only at h8;subst h8
     rw[qh (by decide),hsort,qc,hp]
     dsimp only
     rw[hloop _ [13] _ (by simp),if_neg (by decide),if_neg (by decide),if_neg (by decide),if_neg (by decide),if_pos rfl,if_neg (by decide)]
     simp only[List.map_cons,List.map_nil,becP,if_true]
     rw[hz]
     rfl
    ·dsimp only at h9;subst h9
     rw[qk rfl,qd1 hX (by omega),qc]
     dsimp only
     rw[qez hX (by omega) got hg,qc]
     dsimp only
     rw[hsort,qc,hp]
     dsimp only
     rw[hloop _ _ _ (by cases inR (val got (qz (IntKind.wrap IntKind.i64 (val got 13 - 1)))) 1 6<;>simp)]
     have hw:IntKind.wrap IntKind.i64 (val got 13 - 1)=val got 13 - 1:=qb8 (by omega) (by omega)
     have hrow:=qp0 (IntKind.wrap IntKind.i64 (val got 13 - 1))
     rw[hw] at hrow
     rw[if_neg (by decide),if_neg (by decide),if_neg (by decide),if_neg (by decide),if_pos rfl,if_neg (by decide),if_neg (by decide)]
     have hvv:(qv got 13).1=val got 13:=rfl
     rw[hvv,hw]
     have hv2:(qv got (qz (val got 13 - 1))).1=val got (qz (val got 13 - 1)):=rfl
     rw[hv2]
     generalize qz (val got 13 - 1)=p at *
     have hpr:0≤p∧p≤3:=by omega
     have hvia:=qhk (val got p)
     have b1:∀ x,becP 9 (val got p) (val got 13) p x=x:=fun x=>by
      unfold becP;rw[if_neg (by decide),if_pos rfl,if_neg (by omega),if_neg (by omega)]
     have b2:∀ x,becP 9 (val got p) (val got 13) 13 x=IntKind.wrap IntKind.i64 (x+1):=fun x=>by
      unfold becP;rw[if_neg (by decide),if_pos rfl,if_pos rfl]
     cases hin:inR (val got p) 1 6
     ·simp only[cond_false,List.map_cons,List.map_nil,b1,b2]
      rfl
     ·have hvr:=qb2.1 hin
      have b3:∀ x,becP 9 (val got p) (val got 13) (qbc (val got p)) x=val got 13:=fun x=>by
       unfold becP;rw[if_neg (by decide),if_pos rfl,if_neg (by omega),if_pos rfl]
      simp only[cond_true,List.map_cons,List.map_nil,b1,b2,b3]
      rfl
    ·dsimp only at h10;subst h10
     rw[qh (by decide),hsort,qc,hp]
     dsimp only
     rw[hloop _ [13,qbc V] _ (by simp)]
     simp[becP,same]
 ·rw[qk (by omega),if_neg (fun h=>hr h.2)];rfl
end
end Go.G

namespace Go.G
set_option maxRecDepth 100000
open Go Go.V Go.Proofs
def Bnd:PR→Prop
 | .done=>True
 | .ask p k=>(-1≤p∧p<20)∧∀ v,Bnd (k v)
theorem qbde (got:Got):∀ (P:PR),Bnd P→-1≤(run got P).2∧(run got P).2<20
 | .done,_=>⟨by simp[run],by simp[run]⟩
 | .ask p k,h=>by
  cases hh:hit got p
  ·rw[qcx hh];exact h.1
  ·rw[qdh hh];exact qbde got (k (qv got p).1) (h.2 _)
theorem qlr {b:Bool} {P Q:PR} (h1:Bnd P) (h2:Bnd Q):Bnd (bif b then P else Q):=by cases b<;>assumption
theorem qxl (k:Int) : -1≤qz k∧qz k<20:=by have:=qp0 k;omega
theorem qsl (k:Int) : -1≤qbe k∧qbe k<20:=by have:=qjm k;omega
theorem q6j (k:Int) : -1≤qbc k∧qbc k<20:=by have:=qhk k;omega
theorem qr6 (k:Int) : -1≤qbl k∧qbl k<20:=by have:=qie k;omega
theorem q60:∀ l,Bnd (qv9 l)
 | []=>trivial
 | v::l=>⟨q6j v,fun _=>q60 l⟩
theorem q0l (k:Int) (l:List Int):Bnd (qlp k l):=⟨by omega,fun _=>qlr trivial (q60 l)⟩
theorem qbfv (o:Op3):Bnd (prog o):=by
 unfold prog
 repeat' split
 ·exact ⟨qxl _,fun _=>qlr trivial ⟨qsl _,fun _=>qlr trivial ⟨qr6 _,fun _=>q0l _ _⟩⟩⟩
 ·exact ⟨qxl _,fun _=>qlr trivial ⟨qsl _,fun _=>qlr trivial ⟨qsl _,fun _=>qlr ⟨qr6 _,fun _=>⟨qr6 _,fun _=>q0l _ _⟩⟩ (q0l _ _)⟩⟩⟩
 ·exact ⟨qxl _,fun _=>qlr trivial ⟨qsl _,fun _=>⟨qr6 _,fun _=>q0l _ _⟩⟩⟩
 ·exact ⟨qxl _,fun _=>trivial⟩
 ·exact ⟨qsl _,fun _=>trivial⟩
 ·exact ⟨qr6 _,fun _=>trivial⟩
 ·exact ⟨by omega,fun _=>⟨by omega,fun _=>⟨by omega,fun _=>⟨by omega,fun _=>trivial⟩⟩⟩⟩
 ·exact ⟨by omega,fun _=>trivial⟩
 ·exact ⟨by omega,fun _=>qlr trivial ⟨qxl _,fun _=>qlr trivial ⟨q6j _,fun _=>trivial⟩⟩⟩
 ·exact ⟨by omega,fun _=>qlr trivial ⟨q6j _,fun _=>trivial⟩⟩
 ·trivial
theorem q9h (got:Got):∀ (P:PR),∀ p∈(run got P).1,hit got p=true
 | .done,p,h=>by simp[run] at h
 | .ask q k,p,h=>by
  cases hh:hit got q
  ·rw[qcx hh] at h;simp at h
  ·rw[qdh hh] at h
   rcases List.mem_cons.1 h with h | h
   ·subst h;exact hh
   ·exact q9h got _ p h
theorem q7l {α:Type} (key:α→Int):∀ (L acc:List α) (z:α),z∈L.foldl (bub key) acc↔z∈acc∨z∈L
 | [],acc,z=>by simp
 | e::L,acc,z=>by
  rw[List.foldl_cons,q7l key L,q6t,List.mem_cons]
  constructor
  ·rintro ((h | h) | h)
   ·exact .inr (.inl h)
   ·exact .inl h
   ·exact .inr (.inr h)
  ·rintro (h | h | h)
   ·exact .inl (.inr h)
   ·exact .inl (.inl h)
   ·exact .inr h
theorem qnu {o:Op3} {got:Got} {L:List Int} (h:(run got (prog o)).1.foldl (bub ikey) []=L) {p:Int} (hp:p∈L):hit got p=true:=by
 rw[←h,q7l] at hp
 rcases hp with hp | hp
 ·simp at hp
 ·exact q9h got _ p hp
def q3x (o:Op3) (got:Got):Int:=if opOk o=true then (run got (prog o)).2 else -1
section
variable {X:Ext} (hX:XOk X) {n:Nat} {got:Got}
include hX
theorem q10 (hn:W+13≤n) (hg:got.length≤1048576) (o:Op3):qry (DD X n) o got=some ((q3x o got,()),()):=by
 obtain ⟨n,rfl⟩:∃ k,n=k+1:=⟨n - 1,by omega⟩
 have hW:=qci
 rw[qbb9 hX]
 simp only[qwp,q1h]
 obtain ⟨b,e⟩:=qban hX (n:=n) (by omega) hg o
 obtain ⟨a,w,e3,e4,h⟩:=qbhs hX (n:=n) (by omega) got hg o
 rw[e] at e3
 simp only[Option.some.injEq,Prod.mk.injEq,and_true] at e3
 obtain ⟨k,K,V,⟨⟩⟩:=o
 rw[q35 hX (by omega),qc]
 dsimp only
 unfold q3x
 cases ho:opOk (k,K,V,())
 ·rw[Bool.not_false,br_t];rfl
 ·rw[Bool.not_true,br_f,e4,qc,if_pos rfl]
  dsimp only
  rw[←h,←e3]
theorem qv0 (N n:Nat) (hN:W+6≤N) (hg:got.length≤1048576) (K:Plan→Plan→Option ((Plan×Bool×Unit)×Unit)) (m:Nat) (i:Nat) (hi:i<4) (x2:Plan) (rl:List Int) (el:List qbw) (h1:rl.length≤50) (h2:el.length≤50) :
  qc0 (DD X N) n K (m+1) got (i:Int) x2 (false,(0,rl,()),el,()) =
   qc0 (DD X N) n K m got ((i+1:Nat):Int) x2 (false,(0,rl++[val got (i:Int)],()),(ent got (i:Int) (fun v=>v)).foldl insS el,()):=by
 have hb:=qhu
 have hW:=qci
 have hr:qz (i:Int)=i:=by unfold qz;rw[qb2.2 (by omega)];rfl
 rw[show qc0 (DD X N) n K (m+1)=fun x0 x1 x2 x3=>qko (DD X N) n (qc0 (DD X N) n K m) K x0 x1 x2 x3 from rfl]
 simp only[qko]
 rw[qk (by omega),qep hX (by omega),qc,hr]
 dsimp only
 rw[qvg hX (by omega) hg (by omega),qc]
 simp only[qc]
 rw[qd8 hX (by omega) got hg,qc]
 dsimp only
 rw[qk (by omega),qbk (by omega)]
 rfl
theorem qbf7 (N n:Nat) (K:Plan→Plan→Option ((Plan×Bool×Unit)×Unit)) (m:Nat) (x2 x3:Plan):qc0 (DD X N) n K (m+1) got 4 x2 x3=K x2 x3:=by
 simp only[qc0,qko]
 rw[qh (by decide)]
theorem q9p (hn:W+15≤n) (hg:got.length≤1048576) (hv:qz3 got) (o:Op3):qs7 (DD X n) o got=some (qpk o got,()):=by
 obtain ⟨n,rfl⟩:∃ k,n=k+1:=⟨n - 1,by omega⟩
 have hW:=qci
 have hnx:=q10 hX (n:=n) (by omega) hg o
 have hnow5:=qbir hX (n:=n) (by omega) hg o
 obtain ⟨k,K,V,⟨⟩⟩:=o
 have hbd:=qbde got (prog (k,K,V,())) (qbfv _)
 rw[q79 hX]
 simp only[qs1,qsv,qpl]
 rw[q35 hX (by omega),qc]
 dsimp only
 unfold qpk
 unfold q3x at hnx
 cases ho:opOk (k,K,V,())
 ·rw[Bool.not_false,br_t,if_neg (by simp)];rfl
 rw[ho,if_pos rfl] at hnx
 rw[Bool.not_true,br_f,hnx,qc]
 dsimp only
 by_cases hr:(run got (prog (k,K,V,()))).2<0
 ·rw[show ((run got (prog (k,K,V,()))).2 != -1)=false by rw[bned,decide_eq_true (by omega)];rfl,br_f,if_pos ⟨rfl,hr⟩,hnow5,qc]
  cases hnow:qhm (k,K,V,()) got with
  | some x=>
   simp only[qid]
   rw[br_t]
  | none=>
   simp only[qid]
   rw[br_f,qe9 hX (by omega),qc]
   dsimp only
   rw[qd8 hX (by omega) got hg,qc]
   dsimp only
   by_cases hk:k=1∨k=2∨k=3
   ·have hkd:=qtt ho
    dsimp only at hkd
    rw[qh (show ¬ k=7 by omega),qh (show ¬ k=8 by omega),qh (show ¬ k=9 by omega),qh (show ¬ k=10 by omega),qbd5 hX (by omega) hg hv k K V (by omega),qc]
    dsimp only
    unfold resP entP
    rw[if_pos hk,if_neg (show ¬ k=7 by omega),if_neg (show ¬ k=10 by omega)]
    rfl
   ·obtain ⟨⟨p1,p2⟩,pl⟩:=q7i ho hnow hr hk
    unfold resP entP
    dsimp only
    rw[if_neg hk]
    rcases pl with ⟨h7,hp⟩ | ⟨h8,hz,hp⟩ | ⟨h9,hz,hp⟩ | ⟨h10,hp⟩
    ·dsimp only at h7;subst h7
     have t0:hit got ((0:Nat):Int)=true:=qnu hp (by simp)
     have t1:hit got ((1:Nat):Int)=true:=qnu hp (by simp)
     have t2:hit got ((2:Nat):Int)=true:=qnu hp (by simp)
     have t3:hit got ((3:Nat):Int)=true:=qnu hp (by simp)
     obtain ⟨n2,hn2⟩:∃ k,n=k+5:=⟨n - 5,by omega⟩
     rw[qk rfl]
     generalize hKK:(fun v0_0 v0_1=>qoa (DD X n) n v0_0 v0_1)=KK
     have hrun:qc0 (DD X n) n KK n got ((0:Nat):Int) (false,(0,[],()),[],()) (false,(0,[],()),[],())=KK (false,(0,[],()),[],()) (false,(0,[val got 0,val got 1,val got 2,val got 3],()),[same got 0,same got 1,same got 2,same got 3],()):=by
      have hfuel:∀ m,n=m→qc0 (DD X n) n KK n got ((0:Nat):Int) (false,(0,[],()),[],()) (false,(0,[],()),[],())=qc0 (DD X n) n KK m got ((0:Nat):Int) (false,(0,[],()),[],()) (false,(0,[],()),[],()):=fun m hm=>by rw[←hm]
      rw[hfuel (n2+5) hn2]
      rw[qv0 hX n n (by omega) hg KK (n2+4) 0 (by omega) _ [] [] (by simp) (by simp),qf7 t0]
      rw[qv0 hX n n (by omega) hg KK (n2+3) 1 (by omega) _ _ _ (by simp) (by simp[qoj]),qf7 t1]
      rw[qv0 hX n n (by omega) hg KK (n2+2) 2 (by omega) _ _ _ (by simp) (by simp[qoj]),qf7 t2]
      rw[qv0 hX n n (by omega) hg KK (n2+1) 3 (by omega) _ _ _ (by simp) (by simp[qoj]),qf7 t3]
      rw[show ((3+1:Nat):Int)=4 from rfl,qbf7 hX n n KK n2]
      rfl
     rw[show ((0:Nat):Int)=0 from rfl] at hrun
     rw[hrun,←hKK]
     rfl
    ·dsimp only at h8;subst h8
     have t:=qnu hp (p:=13) (by simp)
     rw[qh (by decide),qk rfl]
     simp only[qc,qe9 hX (n:=n) (by omega)]
     rw[qlu hX (by omega) hg (by simp),qc,qf7 t]
     rfl
    ·dsimp only at h9;subst h9
     have t:=qnu hp (p:=13) (by simp)
     have hw:IntKind.wrap IntKind.i64 (val got 13 - 1)=val got 13 - 1:=qb8 (by omega) (by omega)
     have hrow:=qp0 (IntKind.wrap IntKind.i64 (val got 13 - 1))
     rw[hw] at hrow hp
     have tp:=qnu hp (p:=qz (val got 13 - 1)) (by simp)
     rw[qh (by decide),qh (by decide),qk rfl,qep hX (by omega),qc]
     have hvv:(qv got 13).1=val got 13:=rfl
     rw[hvv,hw]
     dsimp only
     rw[qd8 hX (by omega) got hg,qc]
     simp only[qc]
     rw[qlu hX (by omega) hg (by simp),qc,qf7 t]
     have hv2:(qv got (qz (val got 13 - 1))).1=val got (qz (val got 13 - 1)):=rfl
     rw[hv2]
     simp only[qc,qep hX (n:=n) (by omega)]
     generalize qz (val got 13 - 1)=p at *
     have hpr:0≤p∧p≤3:=by omega
     rw[qvg hX (by omega) hg (by simp[qoj]),qc,qf7 tp]
     dsimp only
     rw[qkp hX (by omega),qc]
     dsimp only
     have e2:[(p,(qv got p).1,(qv got p).1,())].foldl insS ([((13:Int),(qv got 13).1,IntKind.wrap IntKind.i64 (val got 13+1),())].foldl insS [])=[same got p,((13:Int),val got 13,IntKind.wrap IntKind.i64 (val got 13+1),())]:=by
      simp only[List.foldl_cons,List.foldl_nil,insS,List.takeWhile_nil,List.dropWhile_nil,List.nil_append]
      rw[List.takeWhile_cons_of_neg (by simp;omega),List.dropWhile_cons_of_neg (by simp;omega)]
      rfl
     rw[e2,qlu hX (by omega) hg (by simp),qc]
     have hvia:=qhk (val got p)
     cases hin:inR (val got p) 1 6
     ·have hm:hit got (qbc (val got p))=false:=by
       have:¬ (1≤val got p∧val got p≤6):=fun h=>by rw[qb2.2 h] at hin;cases hin
       unfold hit
       rw[decide_eq_false (by omega)];rfl
      rw[qql hm]
      rfl
     ·have hvr:=qb2.1 hin
      rw[hin,cond_true] at hp
      have tv:=qnu hp (p:=qbc (val got p)) (by simp)
      rw[qf7 tv]
      simp only[List.foldl_cons,List.foldl_nil,insS,cond_true]
      have q1:decide ((same got p).1<qbc (val got p))=true:=decide_eq_true (show p<qbc (val got p) by omega)
      have q2:decide ((13:Int)<qbc (val got p))=true:=decide_eq_true (by omega)
      simp only[List.takeWhile_cons,List.dropWhile_cons,q1,q2,if_true,List.takeWhile_nil,List.dropWhile_nil]
      rfl
    ·dsimp only at h10;subst h10
     have t:=qnu hp (p:=13) (by simp)
     have tv:=qnu hp (p:=qbc V) (by simp)
     have hkd:=qtt ho
     dsimp only at hkd
     have hvia:=qhk V
     rw[qh (by decide),qh (by decide),qh (by decide),qk rfl]
     simp only[qc,qe9 hX (n:=n) (by omega)]
     rw[qvg hX (by omega) hg (by simp),qc,qf7 t]
     dsimp only
     rw[qkp hX (by omega),qc]
     dsimp only
     rw[qvg hX (by omega) hg (by simp[qoj]),qc,qf7 tv]
     simp only[qc]
     rw[qd8 hX (by omega) got hg,qc]
     have e2:[(qbc V,(qv got (qbc V)).1,(qv got (qbc V)).1,())].foldl insS ([((13:Int),(qv got 13).1,(qv got 13).1,())].foldl insS [])=[same got 13,same got (qbc V)]:=by
      simp only[List.foldl_cons,List.foldl_nil,insS,List.takeWhile_nil,List.dropWhile_nil,List.nil_append]
      rw[List.takeWhile_cons_of_pos (by simp;omega),List.dropWhile_cons_of_pos (by simp;omega)]
      rfl
     rw[e2]
     dsimp only
     by_cases h0:(qv got (qbc V)).1=0
     ·rw[qk h0]
      simp[val,h0]
     ·rw[qh h0]
      simp[val,h0]
 ·rw[show ((run got (prog (k,K,V,()))).2 != -1)=true by rw[bned,decide_eq_false (by omega)];rfl,br_t,if_neg (fun h=>hr h.2)];rfl
end
end Go.G

namespace Go.G
open Go Go.V
abbrev Cur:=List Int×Int×Int×Unit
def qlx (c:Cur):Prop:=c.1.length≤1048576∧0≤c.2.1∧c.2.1≤c.1.length
theorem q0q (x:BitVec (IntKind.bits IntKind.i64)):0≤IntKind.wrap IntKind.i64 ((BitVec.toNat (BitVec.and x (BitVec.ofInt (IntKind.bits IntKind.i64) 255)):Nat):Int)∧IntKind.wrap IntKind.i64 ((BitVec.toNat (BitVec.and x (BitVec.ofInt (IntKind.bits IntKind.i64) 255)):Nat):Int)≤255:=by
 have h:BitVec.toNat (BitVec.and x (BitVec.ofInt (IntKind.bits IntKind.i64) 255))≤255:=by
  show BitVec.toNat (x &&&BitVec.ofInt (IntKind.bits IntKind.i64) 255)≤255
  rw[BitVec.toNat_and]
  exact Nat.le_trans Nat.and_le_right (by decide)
 rw[qb8 (by omega) (by omega)]
 omega
theorem qum {X:Ext} (hX:XOk X) {n:Nat} (hn:1≤n) {c:Cur} (hc:qlx c):∃ (x:Int) (c':Cur),0≤x∧x≤255∧qlx c'∧qhf (DD X n) c=some ((x,()),(c',())):=by
 obtain ⟨n,rfl⟩:∃ k,n=k+1:=⟨n - 1,by omega⟩
 obtain ⟨h1,h2,h3⟩:=hc
 rw[q8k hX]
 simp only[qsu,qyz]
 by_cases h:c.2.1<(c.1.length:Int)
 ·rw[qk h,ixn h2 h,br_t,qb8 (x:=c.2.1+1) (by omega) (by omega)]
  refine ⟨_,(c.1,c.2.1+1,_,()),(q0q _).1,(q0q _).2,⟨h1,?_,?_⟩,rfl⟩
  ·show 0≤c.2.1+1;omega
  ·show c.2.1+1≤(c.1.length:Int);omega
 ·rw[qh h]
  have k:∀ h u,qlx (c.1,c.2.1,h,u):=fun _ _=>⟨h1,h2,h3⟩
  exact ⟨_,_,(q0q _).1,(q0q _).2,k _ _,rfl⟩
theorem qr8 {X:Ext} (hX:XOk X) {n:Nat} (hn:2≤n) {c:Cur} (hc:qlx c) (k:Int):∃ (x:Int) (c':Cur),(0<k→0≤x∧x<k)∧(k≤0→x=0)∧qlx c'∧qdv (DD X n) c k=some ((x,()),(c',())):=by
 obtain ⟨n,rfl⟩:∃ k,n=k+1:=⟨n - 1,by omega⟩
 rw[q6d hX]
 simp only[qq5,qwx]
 by_cases h:k≤0
 ·rw[qk h]
  exact ⟨0,c,fun h2=>by omega,fun _=>rfl,hc,rfl⟩
 ·rw[qh h]
  by_cases h2:k≤256
  ·obtain ⟨x,c',x0,x1,hc',e⟩:=qum hX (n:=n) (by omega) hc
   rw[qk h2,e,qc]
   dsimp only
   rw[qh (by omega)]
   refine ⟨_,_,fun _=>?_,fun h3=>by omega,hc',rfl⟩
   rw[Int.tmod_eq_emod_of_nonneg x0]
   exact ⟨Int.emod_nonneg _ (by omega),Int.emod_lt_of_pos _ (by omega)⟩
  ·obtain ⟨x,c1,x0,x1,hc1,e1⟩:=qum hX (n:=n) (by omega) hc
   obtain ⟨y,c2,y0,y1,hc2,e2⟩:=qum hX (n:=n) (by omega) hc1
   obtain ⟨z,c3,z0,z1,hc3,e3⟩:=qum hX (n:=n) (by omega) hc2
   obtain ⟨w,c4,w0,w1,hc4,e4⟩:=qum hX (n:=n) (by omega) hc3
   rw[qh h2,e1,qc]
   dsimp only
   rw[e2,qc]
   dsimp only
   rw[e3,qc]
   dsimp only
   rw[e4,qc]
   dsimp only
   rw[qh (by omega),qb8 (x:=x * 16777216) (by omega) (by omega),qb8 (x:=y * 65536) (by omega) (by omega),qb8 (x:=x * 16777216+y * 65536) (by omega) (by omega),
    qb8 (x:=z * 256) (by omega) (by omega),qb8 (x:=x * 16777216+y * 65536+z * 256) (by omega) (by omega),qb8 (x:=x * 16777216+y * 65536+z * 256+w) (by omega) (by omega)]
   refine ⟨_,_,fun _=>?_,fun h3=>by omega,hc4,rfl⟩
   rw[Int.tmod_eq_emod_of_nonneg (by omega)]
   exact ⟨Int.emod_nonneg _ (by omega),Int.emod_lt_of_pos _ (by omega)⟩
theorem q1i {X:Ext} (hX:XOk X) {n:Nat} (hn:3≤n) {c:Cur} (hc:qlx c) (l:List Int) (hl:0<l.length):∃ (x:Int) (c':Cur),x∈l∧qlx c'∧qkz (DD X n) c l=some ((x,()),(c',())):=by
 obtain ⟨n,rfl⟩:∃ k,n=k+1:=⟨n - 1,by omega⟩
 rw[q19 hX]
 simp only[qom,qu0]
 obtain ⟨x,c',h1,_,hc',e⟩:=qr8 hX (n:=n) (by omega) hc (l.length:Int)
 obtain ⟨x0,x1⟩:=h1 (by omega)
 rw[e,qc]
 dsimp only
 rw[ixn x0 x1,br_t,qfq (by omega)]
 exact ⟨_,_,List.getElem_mem _,hc',rfl⟩
theorem qbc9 (D:Den ctx) (n:Nat) {K0:List Int→Int→Option ((Cur×Unit)×Unit)} (a:List Int) (ha:a.length≤1048576):∀ (m i:Nat) (h:Int),i≤a.length→a.length - i<m→∃ h':Int,qiv D n K0 m a h i=K0 a h'
 | 0,_,_,_,h=>by omega
 | m+1,i,h,hi,hf=>by
  simp only[qiv,qtb]
  by_cases h1:i<a.length
  ·by_cases h2:(i:Int)<4000
   ·rw[decide_eq_true (by omega:(i:Int)<(a.length:Int)),cond_true,qk h2,decide_eq_true (by omega:(0:Int)≤(i:Int)),Bool.and_self,br_t,qbk (by omega)]
    exact qbc9 D n a ha m (i+1) _ (by omega) (by omega)
   ·rw[decide_eq_true (by omega:(i:Int)<(a.length:Int)),cond_true,qh h2]
    exact ⟨h,rfl⟩
  ·rw[decide_eq_false (by omega:¬ (i:Int)<(a.length:Int)),cond_false,br_f]
   exact ⟨h,rfl⟩
theorem qbhn {X:Ext} (hX:XOk X) {n:Nat} (hn:W+1≤n) (a:List Int) (ha:a.length≤1048576):∃ c:Cur,qlx c∧quu (DD X n) a=some ((c,()),()):=by
 obtain ⟨n,rfl⟩:∃ k,n=k+1:=⟨n - 1,by omega⟩
 have hW:=qci
 rw[qbbn hX]
 simp only[qu7,qt4,qq7]
 obtain ⟨h',e⟩:=qbc9 (DD X n) n (K0:=fun v w=>qpp (DD X n) n v w) a ha n 0 (IntKind.wrap IntKind.i64 (27323+(a.length:Int))) (by omega) (by omega)
 rw[show ((0:Nat):Int)=0 from rfl] at e
 exact ⟨(a,0,h',()),⟨ha,by show (0:Int)≤0;omega,by show (0:Int)≤(a.length:Int);omega⟩,e⟩
theorem qbji {X:Ext} (hX:XOk X) {n:Nat} (hn:1≤n) (a:List Int):qyh (DD X n) a=some ((decide ((a.length:Int)>1048576),()),()):=by
 obtain ⟨n,rfl⟩:∃ k,n=k+1:=⟨n - 1,by omega⟩
 rw[qbd4 hX];rfl
end Go.G

namespace Go.G
set_option maxRecDepth 100000
open Go Go.V Go.Proofs
abbrev qbn:=List Int×Int×Unit
def keyF (v:Int):List Int→Nat→Int
 | [],_=>-1
 | x::l,i=>if x=v then (i:Int) else keyF v l (i+1)
theorem qx5 (v:Int):∀ (l:List Int) (i:Nat),keyF v l i<0→v∉l
 | [],i,_=>by simp
 | x::l,i,h=>by
  simp only[keyF] at h
  by_cases e:x=v
  ·rw[if_pos e] at h;omega
  ·rw[if_neg e] at h
   have:=qx5 v l (i+1) h
   intro hm
   rcases List.mem_cons.1 hm with k | k
   ·exact e k.symm
   ·exact this k
theorem qw3 (v:Int):∀ (l:List Int) (i k:Nat),l[k]? = some v→(∀ j<k,l[j]?≠some v)→keyF v l i=((i+k:Nat):Int)
 | [],i,k,h,_=>by simp at h
 | x::l,i,0,h,_=>by
  simp only[List.getElem?_cons_zero,Option.some.injEq] at h
  simp only[keyF];rw[if_pos h];rfl
 | x::l,i,k+1,h,hj=>by
  simp only[List.getElem?_cons_succ] at h
  simp only[keyF]
  rw[if_neg (by have:=hj 0 (by omega);simp only[List.getElem?_cons_zero,ne_eq,Option.some.injEq] at this;exact this),qw3 v l (i+1) k h (fun j h2=>by have:=hj (j+1) (by omega);simpa using this)]
  congr 1;omega
structure RightR (r:qbn):Prop where
 len:r.1.length=4
 rng:∀ x∈r.1,0≤x∧x≤6
 once:∀ i j:Nat,i<j→∀ v,r.1[i]? = some v→r.1[j]? = some v→v=0
 st:0≤r.2.1∧r.2.1≤5
section
variable {X:Ext} (hX:XOk X) {n:Nat}
include hX
theorem qbcp (D:Den ctx) (n:Nat) (K0:Int→Option ((Int×Unit)×Unit)) (K1:Option ((Int×Unit)×Unit)) (hK:K0 (-1)=K1) (r:qbn) (hr:r.1.length≤1000) (v:Int):∀ (m i:Nat),i≤r.1.length→r.1.length - i<m→
  qix D n K0 K1 m v (i:Int) r=K0 (keyF v (r.1.drop i) i)
 | 0,_,_,h=>by omega
 | m+1,i,hi,hf=>by
  simp only[qix,qs4]
  by_cases h:i<r.1.length
  ·rw[qk (by omega),ix h,br_t,Int.toNat_natCast,qfq h,qkt h]
   simp only[keyF]
   by_cases e:r.1[i]=v
   ·rw[qk e,if_pos e]
   ·rw[qh e,if_neg e,qbk (by omega)]
    exact qbcp D n K0 K1 hK r hr v m (i+1) (by omega) (by omega)
  ·rw[qh (by omega),qmw h]
   exact hK.symm
theorem q1r (hn:W+1≤n) (r:qbn) (hr:r.1.length≤1000) (v:Int):qp2 (DD X n) r v=some ((keyF v r.1 0,()),()):=by
 obtain ⟨n,rfl⟩:∃ k,n=k+1:=⟨n - 1,by omega⟩
 have hW:=qci
 rw[q88 hX]
 simp only[qu4,quj,qq2]
 have e:=qbcp hX (DD X n) n (fun v0_0=>qps (DD X n) n v0_0) (qo1 (DD X n) n) rfl r hr v n 0 (by omega) (by omega)
 rw[show ((0:Nat):Int)=0 from rfl] at e
 rw[e];rfl
theorem q20 (N n:Nat) (hN:W+2≤N) (K0:Bool→qbn→Option ((Bool×Unit)×Unit)) (K1:qbn→Option ((Bool×Unit)×Unit)) {r:qbn} (hr:RightR r):∀ (m i:Nat),i≤r.1.length→r.1.length - i<m→
  qh3 (DD X N) n K0 K1 m (i:Int) r=K1 r
 | 0,_,_,h=>by omega
 | m+1,i,hi,hf=>by
  have hl:=hr.len
  have hW:=qci
  simp only[qh3,qqf]
  by_cases h:i<r.1.length
  ·rw[qk (by omega),ix h,br_t,Int.toNat_natCast,qfq h]
   by_cases e:r.1[i]=0
   ·rw[bned,decide_eq_true e,Bool.not_true,br_f,qbk (by omega)]
    exact q20 N n hN K0 K1 hr m (i+1) (by omega) (by omega)
   ·have hv:=hr.rng r.1[i] (List.getElem_mem h)
    rw[bned,decide_eq_false e,Bool.not_false,br_t,br_t,qoq hX (by omega),qc]
    dsimp only
    rw[qb2.2 (by omega),Bool.not_true,br_f,br_t,q1r hX (by omega) r (by omega),qc]
    dsimp only
    have hk:keyF r.1[i] r.1 0=(i:Int):=by
     rw[qw3 r.1[i] r.1 0 i (List.getElem?_eq_getElem h) (fun j hj hc=>e (hr.once j i hj _ hc (List.getElem?_eq_getElem h)))]
     congr 1;omega
    rw[hk,bned,decide_eq_true rfl,Bool.not_true,br_f,qbk (by omega)]
    exact q20 N n hN K0 K1 hr m (i+1) (by omega) (by omega)
  ·rw[qh (by omega)]
theorem q97 (hn:W+3≤n) {r:qbn} (hr:RightR r):qsp (DD X n) r=some ((true,()),()):=by
 obtain ⟨n,rfl⟩:∃ k,n=k+1:=⟨n - 1,by omega⟩
 have hW:=qci
 have hl:=hr.len
 rw[q7z hX]
 simp only[qte,qso,qp3]
 have e:=q20 hX n n (by omega) (fun v0_0 v0_1=>qoc (DD X n) n v0_0 v0_1) (fun v1_0=>qlf (DD X n) n v1_0) hr n 0 (by omega) (by omega)
 rw[show ((0:Nat):Int)=0 from rfl] at e
 rw[e]
 simp only[qlf]
 rw[qk (by omega),qse hX (by omega),qc,qb2.2 hr.st]
theorem qzx (N n:Nat) (hN:W+2≤N) (K0:Cur→qbn→qbn→Option ((qbn×Unit)×(Cur×Unit))) (z:qbn):∀ (m i:Nat) (c:Cur) (r:qbn),qlx c→RightR r→i≤4→4 - i<m→
  ∃ (c':Cur) (r':qbn),qlx c'∧RightR r'∧qe4 (DD X N) n K0 m (i:Int) c z r=K0 c' z r'
 | 0,_,_,_,_,_,_,h=>by omega
 | m+1,i,c,r,hc,hr,hi,hf=>by
  have hl:=hr.len
  have hW:=qci
  simp only[qe4,qlw]
  by_cases h:i<4
  ·obtain ⟨x,c1,h1,_,hc1,e1⟩:=qr8 hX (n:=N) (by omega) hc 7
   obtain ⟨x0,x1⟩:=h1 (by omega)
   rw[qk (by omega),e1,qc]
   dsimp only
   rw[show (r.1,r.2)=r from rfl,q1r hX (by omega) r (by omega),qc]
   dsimp only
   by_cases hk:keyF x r.1 0<0
   ·have hnot:=qx5 x r.1 0 hk
    rw[qk hk,ixn (by omega) (by omega),br_t,qbk (by omega),Int.toNat_natCast]
    have hr2:RightR (r.1.set i x,r.2):=by
     refine ⟨by show (r.1.set i x).length=4;rw[List.length_set];exact hl,fun y hy=>?_,fun a b hab v ha hb=>?_,hr.st⟩
     ·rcases List.mem_or_eq_of_mem_set hy with hy | rfl
      ·exact hr.rng y hy
      ·omega
     ·simp only[List.getElem?_set] at ha hb
      by_cases ea:i=a
      ·rw[if_pos ea] at ha
       rw[if_neg (by omega)] at hb
       split at ha
       ·simp only[Option.some.injEq] at ha
        subst ha
        exact absurd (List.mem_iff_getElem?.2 ⟨b,hb⟩) hnot
       ·simp at ha
      ·rw[if_neg ea] at ha
       by_cases eb:i=b
       ·rw[if_pos eb] at hb
        split at hb
        ·simp only[Option.some.injEq] at hb
         subst hb
         exact absurd (List.mem_iff_getElem?.2 ⟨a,ha⟩) hnot
        ·simp at hb
       ·rw[if_neg eb] at hb
        exact hr.once a b hab v ha hb
    exact qzx N n hN K0 z m (i+1) c1 (r.1.set i x,r.2) hc1 hr2 (by omega) (by omega)
   ·rw[qh hk,qbk (by omega)]
    exact qzx N n hN K0 z m (i+1) c1 r hc1 hr (by omega) (by omega)
  ·rw[qh (by omega)]
   exact ⟨c,r,hc,hr,rfl⟩
theorem q72 (hn:W+3≤n) {c:Cur} (hc:qlx c):∃ (r:qbn) (c':Cur),RightR r∧(r.2.1=0∨r.2.1=1∨r.2.1=3∨r.2.1=5)∧qlx c'∧qml (DD X n) c=some ((r,()),(c',())):=by
 obtain ⟨n,rfl⟩:∃ k,n=k+1:=⟨n - 1,by omega⟩
 have hW:=qci
 have hnew:qqc (DD X n)=some ((((List.replicate (Int.toNat 4) 0,0,()):qbn),()),()):=by
  obtain ⟨n,rfl⟩:∃ k,n=k+1:=⟨n - 1,by omega⟩
  rw[q5y hX];rfl
 rw[qzd hX]
 simp only[qmk,qm0,qk4]
 rw[hnew,qc]
 dsimp only
 have h0:RightR ((List.replicate (Int.toNat 4) 0,0,()):qbn):=by
  refine ⟨rfl,fun x hx=>?_,fun i j hij v hi hj=>?_,by show (0:Int)≤0∧(0:Int)≤5;omega⟩
  ·have:=(List.mem_replicate.1 hx).2;omega
  ·simp only[List.getElem?_replicate] at hi
   split at hi
   ·simp only[Option.some.injEq] at hi;exact hi.symm
   ·simp at hi
 obtain ⟨c',r',h1,h2,e⟩:=qzx hX n n (by omega) (fun v0_0 v0_1 v0_2=>qg6 (DD X n) n v0_0 v0_1 v0_2) ([],0,()) n 0 c _ hc h0 (by omega) (by omega)
 rw[show ((0:Nat):Int)=0 from rfl] at e
 rw[e]
 simp only[qg6]
 obtain ⟨s,c2,hs,hc2,e2⟩:=q1i hX (n:=n) (by omega) h1 [0,0,1,3,5] (by simp)
 rw[e2,qc]
 have hs2:s=0∨s=1∨s=3∨s=5:=by
  simp only[List.mem_cons,List.not_mem_nil,or_false] at hs
  omega
 exact ⟨(r'.1,s,()),c2,⟨h2.len,h2.rng,h2.once,by show 0≤s∧s≤5;omega⟩,hs2,hc2,rfl⟩
end
end Go.G

namespace Go.G
set_option maxRecDepth 100000
open Go Go.V Go.Proofs
def q42 (ws:List Int):Prop:=ws.length=20∧∀ x∈ws,0≤x∧x≤1000
theorem q42.set {ws:List Int} (h:q42 ws) (i:Nat) {x:Int} (hx:0≤x∧x≤1000):q42 (ws.set i x):=
 ⟨by rw[List.length_set];exact h.1,fun y hy=>by
  rcases List.mem_or_eq_of_mem_set hy with q | rfl
  ·exact h.2 y q
  ·exact hx⟩
def many (c:Int):List Int→Int
 | []=>0
 | x::l=>(bif inR x 1 6&&decide (qp x=c) then 1 else 0)+many c l
theorem qbab (c:Int):∀ l,0≤many c l∧many c l≤(l.length:Int)
 | []=>⟨by simp[many],by simp[many]⟩
 | x::l=>by
  have:=qbab c l
  simp only[many,List.length_cons]
  cases inR x 1 6&&decide (qp x=c)<;>simp only[cond_true,cond_false]<;>omega
section
variable {X:Ext} (hX:XOk X) {n:Nat}
include hX
theorem qbc7 (hn:1≤n) (b:Bool):qo8 (DD X n) b=some ((bif b then 1 else 0,()),()):=by
 obtain ⟨n,rfl⟩:∃ k,n=k+1:=⟨n - 1,by omega⟩
 rw[qbav hX]
 cases b<;>rfl
theorem q92 (N n:Nat) (hN:4≤N) (K:Int→Option ((Int×Unit)×Unit)) (r:qbn) (hr:r.1.length≤1000) (c:Int):∀ (m i:Nat) (a:Int),i≤r.1.length→r.1.length - i<m→0≤a∧a≤i→
  qg5 (DD X N) n K m c a (i:Int) r=K (a+many c (r.1.drop i))
 | 0,_,_,_,h,_=>by omega
 | m+1,i,a,hi,hf,ha=>by
  simp only[qg5,qpj]
  by_cases h:i<r.1.length
  ·rw[qk (by omega),ix h,br_t,Int.toNat_natCast,qfq h,qoq hX (by omega),qc,qkt h]
   simp only[many]
   cases hv:inR r.1[i] 1 6
   ·rw[br_f,qbc7 hX (by omega),qc]
    dsimp only
    rw[cond_false,qb8 (by omega) (by omega),qbk (by omega),q92 N n hN K r hr c m (i+1) _ (by omega) (by omega) (by omega)]
    congr 1
    simp only[Bool.false_and,cond_false]
    omega
   ·rw[br_t,br_t,qjh hX (by omega),qc]
    dsimp only
    rw[qbc7 hX (by omega),qc]
    dsimp only
    have hb:0≤(bif decide (qp r.1[i]=c) then (1:Int) else 0)∧(bif decide (qp r.1[i]=c) then (1:Int) else 0)≤1:=by
     cases decide (qp r.1[i]=c)<;>simp
    rw[qb8 (by omega) (by omega),qbk (by omega),q92 N n hN K r hr c m (i+1) _ (by omega) (by omega) (by omega)]
    congr 1
    simp only[Bool.true_and]
    omega
  ·rw[qh (by omega),qmw h]
   congr 1;simp[many]
theorem q7y (hn:W+1≤n) (r:qbn) (hr:r.1.length≤1000) (c:Int):qqg (DD X n) r c=some ((many c r.1,()),()):=by
 obtain ⟨n,rfl⟩:∃ k,n=k+1:=⟨n - 1,by omega⟩
 have hW:=qci
 rw[q52 hX]
 simp only[qqe,qqh,qoi]
 have e:=q92 hX n n (by omega) (fun v0_0=>qnp (DD X n) n v0_0) r hr c n 0 0 (by omega) (by omega) (by omega)
 rw[show ((0:Nat):Int)=0 from rfl,List.drop_zero,Int.zero_add] at e
 rw[e];rfl
end
end Go.G

namespace Go.G
set_option maxRecDepth 100000
open Go Go.V Go.Proofs
section
variable {X:Ext} (hX:XOk X) {n:Nat}
include hX
theorem q8r (hn:6≤n) {c:Cur} (hc:qlx c):∃ (o:Op3) (c':Cur),qlx c'∧opOk o=true∧qmr (DD X n) c=some ((o,()),(c',())):=by
 obtain ⟨n,rfl⟩:∃ k,n=k+1:=⟨n - 1,by omega⟩
 rw[qzl hX]
 simp only[qmx,qsb]
 obtain ⟨k,c1,hk,hc1,e1⟩:=q1i hX (n:=n) (by omega) hc [1,1,1,2,2,3,4,5,6,7,8,9,9,10] (by simp)
 have hk2:k=1∨k=2∨k=3∨k=4∨k=5∨k=6∨k=7∨k=8∨k=9∨k=10:=by
  simp only[List.mem_cons,List.not_mem_nil,or_false] at hk
  omega
 obtain ⟨x,c2,h2,_,hc2,e2⟩:=qr8 hX (n:=n) (by omega) hc1 4
 obtain ⟨y,c3,h3,_,hc3,e3⟩:=qr8 hX (n:=n) (by omega) hc2 4
 obtain ⟨z,c4,h4,_,hc4,e4⟩:=qr8 hX (n:=n) (by omega) hc1 3
 obtain ⟨x0,x1⟩:=h2 (by omega)
 obtain ⟨y0,y1⟩:=h3 (by omega)
 obtain ⟨z0,z1⟩:=h4 (by omega)
 have ix4:inR x 0 3=true:=qb2.2 (by omega)
 have iz:inR z 0 2=true:=qb2.2 (by omega)
 have wy:IntKind.wrap IntKind.i64 (1+y)=1+y:=qb8 (by omega) (by omega)
 have wx:IntKind.wrap IntKind.i64 (1+x)=1+x:=qb8 (by omega) (by omega)
 have iy:inR (1+y) 1 6=true:=qb2.2 (by omega)
 have ix6:inR (1+x) 1 6=true:=qb2.2 (by omega)
 simp only[show (List.set (List.set (List.set (List.set (List.set (List.set (List.set (List.set (List.set (List.set (List.set (List.set (List.set (List.set (List.replicate 14 (0:Int)) 0 1) 1 1) 2 1) 3 2) 4 2) 5 3) 6 4) 7 5) 8 6) 9 7) 10 8) 11 9) 12 9) 13 10)=[1,1,1,2,2,3,4,5,6,7,8,9,9,10] from rfl]
 rw[e1,qc]
 dsimp only
 rw[qbcr hX (by omega),qc]
 dsimp only
 rcases hk2 with rfl | rfl | rfl | rfl | rfl | rfl | rfl | rfl | rfl | rfl
 ·rw[show inR 1 1 4=true from rfl,br_t,e2,qc]
  dsimp only
  rw[qh (by decide),qkj hX (by omega),qc]
  dsimp only
  rw[show (bif bif bif decide ((1:Int)=1) then true else decide ((1:Int)=2) then true else decide ((1:Int)=5) then true else decide ((1:Int)=10))=true from rfl,br_t,e3,qc,wy]
  exact ⟨_,_,hc3,by show (inR x 0 3&&inR (1+y) 1 6)=true;rw[ix4,iy];rfl,rfl⟩
 ·rw[show inR 2 1 4=true from rfl,br_t,e2,qc]
  dsimp only
  rw[qh (by decide),qkj hX (by omega),qc]
  dsimp only
  rw[show (bif bif bif decide ((2:Int)=1) then true else decide ((2:Int)=2) then true else decide ((2:Int)=5) then true else decide ((2:Int)=10))=true from rfl,br_t,e3,qc,wy]
  exact ⟨_,_,hc3,by show (inR x 0 3&&inR (1+y) 1 6)=true;rw[ix4,iy];rfl,rfl⟩
 ·rw[show inR 3 1 4=true from rfl,br_t,e2,qc]
  dsimp only
  rw[qh (by decide),qkj hX (by omega),qc]
  dsimp only
  rw[show (bif bif bif decide ((3:Int)=1) then true else decide ((3:Int)=2) then true else decide ((3:Int)=5) then true else decide ((3:Int)=10))=false from rfl,br_f]
  exact ⟨_,_,hc2,by show (inR x 0 3&&true)=true;rw[ix4];rfl,rfl⟩
 ·rw[show inR 4 1 4=true from rfl,br_t,e2,qc]
  dsimp only
  rw[qh (by decide),qkj hX (by omega),qc]
  dsimp only
  rw[show (bif bif bif decide ((4:Int)=1) then true else decide ((4:Int)=2) then true else decide ((4:Int)=5) then true else decide ((4:Int)=10))=false from rfl,br_f]
  exact ⟨_,_,hc2,by show (inR x 0 3&&true)=true;rw[ix4];rfl,rfl⟩
 ·rw[show inR 5 1 4=false from rfl,br_f,qh (by decide),qkj hX (by omega),qc]
  dsimp only
  rw[show (bif bif bif decide ((5:Int)=1) then true else decide ((5:Int)=2) then true else decide ((5:Int)=5) then true else decide ((5:Int)=10))=true from rfl,br_t,e2,qc,wx]
  exact ⟨_,_,hc2,by show (true&&inR (1+x) 1 6)=true;rw[ix6];rfl,rfl⟩
 ·rw[show inR 6 1 4=false from rfl,br_f,qk rfl,e4,qc]
  dsimp only
  rw[qkj hX (by omega),qc]
  dsimp only
  rw[show (bif bif bif decide ((6:Int)=1) then true else decide ((6:Int)=2) then true else decide ((6:Int)=5) then true else decide ((6:Int)=10))=false from rfl,br_f]
  exact ⟨_,_,hc4,by show (inR z 0 2&&true)=true;rw[iz];rfl,rfl⟩
 ·rw[show inR 7 1 4=false from rfl,br_f,qh (by decide),qkj hX (by omega),qc]
  exact ⟨_,_,hc1,rfl,rfl⟩
 ·rw[show inR 8 1 4=false from rfl,br_f,qh (by decide),qkj hX (by omega),qc]
  exact ⟨_,_,hc1,rfl,rfl⟩
 ·rw[show inR 9 1 4=false from rfl,br_f,qh (by decide),qkj hX (by omega),qc]
  exact ⟨_,_,hc1,rfl,rfl⟩
 ·rw[show inR 10 1 4=false from rfl,br_f,qh (by decide),qkj hX (by omega),qc]
  dsimp only
  rw[show (bif bif bif decide ((10:Int)=1) then true else decide ((10:Int)=2) then true else decide ((10:Int)=5) then true else decide ((10:Int)=10))=true from rfl,br_t,e2,qc,wx]
  exact ⟨_,_,hc2,by show (true&&inR (1+x) 1 6)=true;rw[ix6];rfl,rfl⟩
end
end Go.G

namespace Go.G
set_option maxRecDepth 100000
open Go Go.V Go.Proofs
section
variable {X:Ext} (hX:XOk X) {n:Nat}
include hX
end
end Go.G

namespace Go.G
set_option maxRecDepth 100000
open Go Go.V Go.Proofs
theorem qhd (l:List Int) (i j:Nat) (x:Int) (h:i<l.length):(l.set i x).getD j 0=if j=i then x else l.getD j 0:=by
 simp only[List.getD,List.getElem?_set]
 by_cases e:i=j
 ·subst e;rw[if_pos rfl,if_pos h,if_pos rfl];rfl
 ·rw[if_neg e,if_neg (fun k=>e k.symm)]
theorem qbaw (v:Int):∀ (l:List Int) (i k:Nat),keyF v l i=(k:Int)→i≤k∧l[k - i]? = some v
 | [],i,k,h=>by simp only[keyF] at h;omega
 | x::l,i,k,h=>by
  simp only[keyF] at h
  by_cases e:x=v
  ·rw[if_pos e] at h
   have:i=k:=by omega
   subst this
   refine ⟨Nat.le_refl _,?_⟩
   rw[Nat.sub_self,e];rfl
  ·rw[if_neg e] at h
   obtain ⟨h1,h2⟩:=qbaw v l (i+1) k h
   refine ⟨by omega,?_⟩
   rw[show k - i=(k - (i+1))+1 by omega];exact h2
theorem qnb (v:Int):∀ (l:List Int) (i:Nat),-1≤keyF v l i∧keyF v l i<(i+l.length:Nat)
 | [],i=>by simp only[keyF,List.length_nil];omega
 | x::l,i=>by
  have:=qnb v l (i+1)
  simp only[keyF,List.length_cons]
  split<;>omega
def viaW (v:Int) (h:List Int) (i:Int) (st:Int):Int:=if 0≤keyF v h 0∧keyF v h 0<i∧keyF v h 0<st - 1 then keyF v h 0+1 else 0
def ownW (v:Int) (h:List Int) (i:Int):Int:=if 0≤keyF v h 0∧keyF v h 0<i then keyF v h 0+1 else 0
def qtl (r:qbn) (i p:Nat):Int:=
 if p<4 then (if p<i then r.1.getD p 0 else 0) else if p<10 then ownW ((p:Int) - 3) r.1 i else if p<14 then 0 else viaW ((p:Int) - 13) r.1 i r.2.1
def qr0 (r:qbn) (p:Nat):Int:=
 if p<4 then r.1.getD p 0 else if p<10 then ownW ((p:Int) - 3) r.1 4 else if p<13 then many ((p:Int) - 10) r.1 else if p=13 then r.2.1 else viaW ((p:Int) - 13) r.1 4 r.2.1
section
variable {X:Ext} (hX:XOk X) {n:Nat}
include hX
theorem qbex {r:qbn} (hr:RightR r) {i:Nat} (hi:i<4) (hi2:i<r.1.length) (p:Nat) (hp:p<20) :
  qtl r (i+1) p=if p<4 then (if p=i then r.1[i] else qtl r i p) else if r.1[i]≠0∧(p:Int)=3+r.1[i] then (i:Int)+1 else
   if r.1[i]≠0∧(p:Int)=13+r.1[i]∧(i:Int)<r.2.1 - 1 then (i:Int)+1 else qtl r i p:=by
 have hx:=hr.rng r.1[i] (List.getElem_mem hi2)
 have hkey:r.1[i]≠0→keyF r.1[i] r.1 0=(i:Int):=fun e=>by
  rw[qw3 r.1[i] r.1 0 i (List.getElem?_eq_getElem hi2) (fun j hj hc=>e (hr.once j i hj _ hc (List.getElem?_eq_getElem hi2)))]
  congr 1;omega
 have hother:∀ v:Int,v≠r.1[i]→keyF v r.1 0≠(i:Int):=fun v hv hc=>by
  obtain ⟨_,h2⟩:=qbaw v r.1 0 i hc
  rw[Nat.sub_zero,List.getElem?_eq_getElem hi2] at h2
  exact hv (Option.some.inj h2).symm
 unfold qtl
 by_cases h4:p<4
 ·simp only[if_pos h4]
  by_cases e:p=i
  ·subst e;simp only[if_pos (show p<p+1 by omega),if_true,qfq hi2]
  ·simp only[if_neg e]
   by_cases e2:p<i
   ·simp only[if_pos e2,if_pos (show p<i+1 by omega)]
   ·simp only[if_neg e2,if_neg (show ¬ p<i+1 by omega)]
 simp only[if_neg h4]
 by_cases h10:p<10
 ·have n13:¬ (r.1[i]≠0∧(p:Int)=13+r.1[i]∧(i:Int)<r.2.1 - 1):=by omega
  simp only[if_pos h10,if_neg n13]
  unfold ownW
  by_cases e:r.1[i]≠0∧(p:Int)=3+r.1[i]
  ·simp only[if_pos e]
   rw[show (p:Int) - 3=r.1[i] by omega,hkey e.1,if_pos (by omega)]
  ·simp only[if_neg e]
   have hk:keyF ((p:Int) - 3) r.1 0≠(i:Int):=by
    by_cases q:(p:Int) - 3=r.1[i]
    ·exact absurd ⟨by omega,by omega⟩ e
    ·exact hother _ q
   by_cases c:0≤keyF ((p:Int) - 3) r.1 0∧keyF ((p:Int) - 3) r.1 0<(i:Int)
   ·simp only[if_pos c,if_pos (show 0≤keyF ((p:Int) - 3) r.1 0∧keyF ((p:Int) - 3) r.1 0<((i+1:Nat):Int) by omega)]
   ·simp only[if_neg c,if_neg (show ¬ (0≤keyF ((p:Int) - 3) r.1 0∧keyF ((p:Int) - 3) r.1 0<((i+1:Nat):Int)) by omega)]
 have n3:¬ (r.1[i]≠0∧(p:Int)=3+r.1[i]):=by omega
 simp only[if_neg h10,if_neg n3]
 by_cases h14:p<14
 ·have n13:¬ (r.1[i]≠0∧(p:Int)=13+r.1[i]∧(i:Int)<r.2.1 - 1):=by omega
  simp only[if_pos h14,if_neg n13]
 simp only[if_neg h14]
 unfold viaW
 by_cases e:r.1[i]≠0∧(p:Int)=13+r.1[i]
 ·rw[show (p:Int) - 13=r.1[i] by omega,hkey e.1]
  by_cases c:(i:Int)<r.2.1 - 1
  ·simp only[if_pos (show 0≤(i:Int)∧(i:Int)<((i+1:Nat):Int)∧(i:Int)<r.2.1 - 1 by omega),if_pos (show r.1[i]≠0∧(p:Int)=13+r.1[i]∧(i:Int)<r.2.1 - 1 from ⟨e.1,e.2,c⟩)]
  ·simp only[if_neg (show ¬ (0≤(i:Int)∧(i:Int)<((i+1:Nat):Int)∧(i:Int)<r.2.1 - 1) by omega),if_neg (show ¬ (r.1[i]≠0∧(p:Int)=13+r.1[i]∧(i:Int)<r.2.1 - 1) from fun k=>c k.2.2),if_neg (show ¬ (0≤(i:Int)∧(i:Int)<(i:Int)∧(i:Int)<r.2.1 - 1) by omega)]
 ·simp only[if_neg (show ¬ (r.1[i]≠0∧(p:Int)=13+r.1[i]∧(i:Int)<r.2.1 - 1) from fun k=>e ⟨k.1,k.2.1⟩)]
  have hk:keyF ((p:Int) - 13) r.1 0≠(i:Int)∨(p:Int) - 13=0:=by
   by_cases q:(p:Int) - 13=r.1[i]
   ·by_cases z:r.1[i]=0
    ·exact .inr (by omega)
    ·exact absurd ⟨z,by omega⟩ e
   ·exact .inl (hother _ q)
  by_cases c:0≤keyF ((p:Int) - 13) r.1 0∧keyF ((p:Int) - 13) r.1 0<(i:Int)∧keyF ((p:Int) - 13) r.1 0<r.2.1 - 1
  ·simp only[if_pos c,if_pos (show 0≤keyF ((p:Int) - 13) r.1 0∧keyF ((p:Int) - 13) r.1 0<((i+1:Nat):Int)∧keyF ((p:Int) - 13) r.1 0<r.2.1 - 1 by omega)]
  ·simp only[if_neg c,if_neg (show ¬ (0≤keyF ((p:Int) - 13) r.1 0∧keyF ((p:Int) - 13) r.1 0<((i+1:Nat):Int)∧keyF ((p:Int) - 13) r.1 0<r.2.1 - 1) by omega)]
theorem qv5 (N n:Nat) (hN:4≤N) (K:qbn→List Int→Option ((List Int×Unit)×Unit)) {r:qbn} (hr:RightR r):∀ (m i:Nat) (ws:List Int),i≤4→4 - i<m→ws.length=20→(∀ p<20,ws.getD p 0=qtl r i p)→
  ∃ ws',ws'.length=20∧(∀ p<20,ws'.getD p 0=qtl r 4 p)∧qg8 (DD X N) n K m (i:Int) r ws=K r ws'
 | 0,_,_,_,h,_,_=>by omega
 | m+1,i,ws,hi,hf,hlw,hw=>by
  have hl:=hr.len
  have hst:=hr.st
  simp only[qg8,qpu]
  by_cases h:i<4
  ·have hi2:i<r.1.length:=by omega
   have hv:=hr.rng r.1[i] (List.getElem_mem hi2)
   have hrow:qz (i:Int)=i:=by unfold qz;rw[qb2.2 (by omega)];rfl
   have hps:=qbex hX hr h hi2
   rw[qk (by omega),ix hi2,br_t,Int.toNat_natCast,qfq hi2,qep hX (by omega),qc,hrow]
   dsimp only
   rw[ixn (by omega) (by rw[hlw];omega),br_t,Int.toNat_natCast]
   by_cases h0:r.1[i]=0
   ·rw[qk h0,qbk (by omega)]
    refine qv5 N n hN K hr m (i+1) _ (by omega) (by omega) (by rw[List.length_set];exact hlw) (fun p hp=>?_)
    rw[hps p hp,qhd _ _ _ _ (by omega)]
    by_cases e:p=i
    ·rw[if_pos e,if_pos (by omega),if_pos e]
    ·rw[if_neg e,hw p hp,if_neg e]
     rw[if_neg (show ¬ (r.1[i]≠0∧(p:Int)=3+r.1[i]) from fun k=>k.1 h0),if_neg (show ¬ (r.1[i]≠0∧(p:Int)=13+r.1[i]∧(i:Int)<r.2.1 - 1) from fun k=>k.1 h0)]
     split<;>rfl
   ·rw[qh h0,qhv hX (by omega),qc]
    dsimp only
    have ho:=qjm r.1[i]
    have hvi:=qhk r.1[i]
    have ho2:qbe r.1[i]=3+r.1[i]:=by omega
    have hvi2:qbc r.1[i]=13+r.1[i]:=by omega
    have hws:IntKind.wrap IntKind.i64 (r.2.1 - 1)=r.2.1 - 1:=qb8 (by omega) (by omega)
    rw[ixn (by omega) (by rw[List.length_set,hlw];omega),br_t,qbk (by omega),hws,ho2]
    by_cases hs:(i:Int)<r.2.1 - 1
    ·rw[qk hs,qkp hX (by omega),qc]
     dsimp only
     rw[ixn (by omega) (by rw[List.length_set,List.length_set,hlw];omega),br_t,hvi2]
     refine qv5 N n hN K hr m (i+1) _ (by omega) (by omega) (by rw[List.length_set,List.length_set,List.length_set];exact hlw) (fun p hp=>?_)
     rw[hps p hp,qhd _ _ _ _ (by rw[List.length_set,List.length_set,hlw];omega),qhd _ _ _ _ (by rw[List.length_set,hlw];omega),qhd _ _ _ _ (by omega),hw p hp]
     by_cases e3:p=(13+r.1[i]).toNat
     ·rw[if_pos e3,if_neg (by omega),if_neg (by omega),if_pos ⟨h0,by omega,hs⟩];omega
     rw[if_neg e3]
     by_cases e2:p=(3+r.1[i]).toNat
     ·rw[if_pos e2,if_neg (by omega),if_pos ⟨h0,by omega⟩];omega
     rw[if_neg e2]
     by_cases e:p=i
     ·simp only[if_pos e,if_pos (show p<4 by omega)]
     ·simp only[if_neg e]
      rw[if_neg (show ¬ (r.1[i]≠0∧(p:Int)=3+r.1[i]) by omega),if_neg (show ¬ (r.1[i]≠0∧(p:Int)=13+r.1[i]∧(i:Int)<r.2.1 - 1) by omega)]
      split<;>rfl
    ·rw[qh hs]
     refine qv5 N n hN K hr m (i+1) _ (by omega) (by omega) (by rw[List.length_set,List.length_set];exact hlw) (fun p hp=>?_)
     rw[hps p hp,qhd _ _ _ _ (by rw[List.length_set,hlw];omega),qhd _ _ _ _ (by omega),hw p hp]
     rw[if_neg (show ¬ (r.1[i]≠0∧(p:Int)=13+r.1[i]∧(i:Int)<r.2.1 - 1) by omega)]
     by_cases e2:p=(3+r.1[i]).toNat
     ·rw[if_pos e2,if_neg (by omega),if_pos ⟨h0,by omega⟩];omega
     rw[if_neg e2]
     by_cases e:p=i
     ·simp only[if_pos e,if_pos (show p<4 by omega)]
     ·simp only[if_neg e]
      rw[if_neg (show ¬ (r.1[i]≠0∧(p:Int)=3+r.1[i]) by omega)]
      split<;>rfl
  ·rw[qh (by omega)]
   have:i=4:=by omega
   subst this
   exact ⟨ws,hlw,hw,rfl⟩
def cntW (r:qbn) (i p:Nat):Int:=if 10≤p∧p<10+i then many ((p:Int) - 10) r.1 else qtl r 4 p
theorem q7d (N n:Nat) (hN:W+4≤N) (K:qbn→List Int→Option ((List Int×Unit)×Unit)) {r:qbn} (hr:RightR r):∀ (m i:Nat) (ws:List Int),i≤3→3 - i<m→ws.length=20→(∀ p<20,ws.getD p 0=cntW r i p)→
  ∃ ws',ws'.length=20∧(∀ p<20,ws'.getD p 0=cntW r 3 p)∧qg7 (DD X N) n K m (i:Int) r ws=K r ws'
 | 0,_,_,_,h,_,_=>by omega
 | m+1,i,ws,hi,hf,hlw,hw=>by
  have hl:=hr.len
  have hW:=qci
  simp only[qg7,qpq]
  by_cases h:i<3
  ·have hc:=qie (i:Int)
   have hc2:qbl (i:Int)=10+i:=by omega
   rw[qk (by omega),qjg hX (by omega),qc]
   dsimp only
   rw[q7y hX (by omega) r (by omega),qc]
   dsimp only
   rw[ixn (by omega) (by rw[hlw];omega),br_t,qbk (by omega),hc2]
   refine q7d N n hN K hr m (i+1) _ (by omega) (by omega) (by rw[List.length_set];exact hlw) (fun p hp=>?_)
   rw[qhd _ _ _ _ (by omega),hw p hp]
   unfold cntW
   by_cases e:p=(10+(i:Int)).toNat
   ·rw[if_pos e,if_pos (by omega),show (p:Int) - 10=i by omega]
   ·rw[if_neg e]
    by_cases c:10≤p∧p<10+i
    ·rw[if_pos c,if_pos (by omega)]
    ·rw[if_neg c,if_neg (by omega)]
  ·rw[qh (by omega)]
   have:i=3:=by omega
   subst this
   exact ⟨ws,hlw,hw,rfl⟩
theorem qbf9 (hn:W+6≤n) {r:qbn} (hr:RightR r):∃ ws:List Int,ws.length=20∧(∀ p<20,ws.getD p 0=qr0 r p)∧qq6 (DD X n) r=some ((ws,()),()):=by
 obtain ⟨n,rfl⟩:∃ k,n=k+1:=⟨n - 1,by omega⟩
 have hW:=qci
 have hst:=hr.st
 rw[q5m hX]
 simp only[qqk,qri]
 rw[q97 hX (by omega) hr,qc]
 dsimp only
 rw[Bool.not_true,br_f]
 simp only[qol]
 obtain ⟨w1,l1,h1,e1⟩:=qv5 hX n n (by omega) (fun v0_0 v0_1=>qj5 (DD X n) n (qlc (DD X n) n) v0_0 v0_1) hr n 0 (List.replicate (Int.toNat 20) 0) (by omega) (by omega) rfl (fun p hp=>by
  have e0:(List.replicate (Int.toNat 20) (0:Int)).getD p 0=0:=by
   simp only[List.getD,List.getElem?_replicate];split<;>rfl
  rw[e0]
  unfold qtl ownW viaW
  split
  ·rfl
  ·split
   ·rw[if_neg (by omega)]
   ·split
    ·rfl
    ·rw[if_neg (by omega)])
 rw[show ((0:Nat):Int)=0 from rfl] at e1
 obtain ⟨w2,l2,h2,e2⟩:=q7d hX n n (by omega) (fun v0_0 v0_1=>qj4 (DD X n) n v0_0 v0_1) hr n 0 w1 (by omega) (by omega) l1 (fun p hp=>by
  rw[h1 p hp];unfold cntW;rw[if_neg (by omega)])
 rw[show ((0:Nat):Int)=0 from rfl] at e2
 refine ⟨w2.set 13 r.2.1,by rw[List.length_set];exact l2,fun p hp=>?_,e1.trans ?_⟩
 ·rw[qhd _ _ _ _ (by omega),h2 p hp]
  unfold qr0 cntW qtl
  have hlen:=hr.len
  by_cases e:p=13
  ·rw[if_pos e,if_neg (by omega),if_neg (by omega),if_neg (by omega),if_pos e]
  rw[if_neg e]
  by_cases a1:p<4
  ·rw[if_neg (by omega),if_pos a1,if_pos a1,if_pos a1]
  by_cases a2:p<10
  ·rw[if_neg (by omega),if_neg a1,if_pos a2,if_neg a1,if_pos a2];rfl
  by_cases a3:p<13
  ·rw[if_pos (by omega),if_neg a1,if_neg a2,if_pos a3]
  ·rw[if_neg (by omega),if_neg a1,if_neg a2,if_neg (by omega),if_neg a1,if_neg a2,if_neg a3,if_neg e];rfl
 simp only[qj5,qlc]
 rw[e2]
 simp only[qj4]
 rw[qe9 hX (by omega),qc]
 dsimp only
 rw[ixn (by omega) (by rw[l2];omega),br_t]
 rfl
end
end Go.G

namespace Go.G
set_option maxRecDepth 100000
open Go Go.V Go.Proofs
def path (w:Int→Int):PR→List Int
 | .done=>[]
 | .ask p k=>p::path w (k (w p))
def q8t (got:Got) (w:Int→Int) (L:List Int):Prop:=∀ q,qv got q=if q∈L then (w q,true) else (0,false)
theorem q7e (w:Int→Int):∀ (L:List Int),q8t (L.map fun p=>(p,w p,())) w L:=by
 intro L q
 unfold qv
 have key:∀ (L:List Int) (v:Int) (ok:Bool),rd q (L.map fun p=>(p,w p,())) v ok=if q∈L then (w q,true) else (v,ok):=by
  intro L
  induction L with
  | nil=>intro v ok;simp[rd]
  | cons a L ih=>
   intro v ok
   simp only[List.map_cons,rd]
   by_cases e:a=q
   ·rw[if_pos e,ih]
    by_cases m:q∈L
    ·rw[if_pos m,if_pos (List.mem_cons_of_mem _ m)]
    ·rw[if_neg m,if_pos (by rw[e];exact List.mem_cons_self),e]
   ·rw[if_neg e,ih]
    by_cases m:q∈L
    ·rw[if_pos m,if_pos (List.mem_cons_of_mem _ m)]
    ·rw[if_neg m,if_neg (by
      intro k
      rcases List.mem_cons.1 k with k | k
      ·exact e k.symm
      ·exact m k)]
 exact key L 0 false
theorem q64 {got:Got} {w:Int→Int} {L:List Int} (h:q8t got w L) {p:Int} (hp:0≤p):hit got p=decide (p∈L):=by
 unfold hit
 rw[decide_eq_true hp,Bool.true_and,h p]
 by_cases m:p∈L
 ·rw[if_pos m,decide_eq_true m]
 ·rw[if_neg m,decide_eq_false m]
theorem q24 {got:Got} {w:Int→Int} {L:List Int} (h:q8t got w L):∀ (A B:List Int) (P:PR),path w P=A++B→(∀ a∈A,a∈L)→(∀ a∈A++B,0≤a)→(∀ b B',B=b::B'→b∉L)→run got P=(A,B.headD (-1))
 | [],B,P,hp,_,hz,hB=>by
  cases P with
  | done=>simp only[path,List.nil_append] at hp;subst hp;rfl
  | ask p k=>
   simp only[path,List.nil_append] at hp
   subst hp
   have hm:hit got p=false:=by
    rw[q64 h (hz p (by simp)),decide_eq_false (hB p _ rfl)]
   rw[qcx hm];rfl
 | a::A,B,P,hp,hA,hz,hB=>by
  cases P with
  | done=>simp[path] at hp
  | ask p k=>
   simp only[path,List.cons_append,List.cons.injEq] at hp
   obtain ⟨rfl,hp⟩:=hp
   have hm:hit got p=true:=by
    rw[q64 h (hz p (by simp)),decide_eq_true (hA p List.mem_cons_self)]
   have hv:(qv got p).1=w p:=by rw[h p,if_pos (hA p List.mem_cons_self)]
   rw[qdh hm,hv,q24 h A B (k (w p)) hp (fun a ha=>hA a (List.mem_cons_of_mem _ ha)) (fun a ha=>hz a (List.mem_cons_of_mem _ ha)) hB]
structure PathOk (w:Int→Int) (l:List Int):Prop where
 once:l.Nodup
 rng:∀ p∈l,0≤p∧p<20
 len:l.length≤8
theorem qyg (w:Int→Int) (K:Int) (l:List Int):path w (qlp K l)=13::(if w 13≤IntKind.wrap IntKind.i64 (K+1) then [] else l.map qbc):=by
 unfold qlp
 simp only[path]
 by_cases h:w 13≤IntKind.wrap IntKind.i64 (K+1)
 ·rw[decide_eq_true h,if_pos h];rfl
 ·rw[decide_eq_false h,if_neg h,cond_false]
  congr 1
  induction l with
  | nil=>rfl
  | cons a l ih=>simp only[qv9,path,List.map_cons,ih]
theorem q0z {o:Op3} (ho:opOk o=true) (w:Int→Int) (hw:∀ k,0≤k∧k≤3→0≤w k∧w k≤6):PathOk w (path w (prog o)):=by
 have hk:=qtt ho
 have hr:=qp0 o.2.1
 have hoV:=qjm o.2.2.1
 have hvV:=qhk o.2.2.1
 have hcl:=q2y o.2.2.1
 have hcV:=qie (qp o.2.2.1)
 unfold prog
 by_cases k1:o.1=1
 ·rw[if_pos k1]
  unfold qow
  simp only[path]
  cases w (qz o.2.1) != 0
  ·simp only[cond_false,path]
   cases w (qbe o.2.2.1) != 0
   ·simp only[cond_false,path,qyg,List.map_cons,List.map_nil]
    split
    ·exact ⟨by simp;omega,by simp;omega,by simp⟩
    ·exact ⟨by simp;omega,by simp;omega,by simp⟩
   ·exact ⟨by simp[path];omega,by simp[path];omega,by simp[path]⟩
  ·exact ⟨by simp[path],by simp[path];omega,by simp[path]⟩
 rw[if_neg k1]
 by_cases k2:o.1=2
 ·rw[if_pos k2]
  have hK:0≤o.2.1∧o.2.1≤3:=by omega
  have hrow:qz o.2.1=o.2.1:=by omega
  have hwv:=hw o.2.1 hK
  unfold qot
  simp only[path]
  rw[hrow]
  generalize w o.2.1=v at *
  have hov:=qjm v
  have hvv:=qhk v
  have hcv:=q2y v
  have hccv:=qie (qp v)
  by_cases hb:v=0∨v=o.2.2.1
  ·rw[show (bif decide (v=0) then true else decide (v=o.2.2.1))=true by
    rcases hb with h | h
    ·rw[decide_eq_true h];rfl
    ·rw[decide_eq_true h];cases decide (v=0)<;>rfl]
   exact ⟨by simp[path],by simp[path];omega,by simp[path]⟩
  ·rw[show (bif decide (v=0) then true else decide (v=o.2.2.1))=false by
    rw[decide_eq_false (by omega),decide_eq_false (by omega)];rfl]
   simp only[cond_false,path]
   cases w (qbe o.2.2.1) != 0
   ·simp only[cond_false,path]
    cases hc:qp v != qp o.2.2.1
    ·simp only[cond_false,path,qyg,List.map_cons,List.map_nil]
     split
     ·exact ⟨by simp;omega,by simp;omega,by simp⟩
     ·exact ⟨by simp;omega,by simp;omega,by simp⟩
    ·have hne:qp v≠qp o.2.2.1:=by simpa using hc
     simp only[cond_true,path,qyg,List.map_cons,List.map_nil]
     split
     ·exact ⟨by simp;omega,by simp;omega,by simp⟩
     ·exact ⟨by simp;omega,by simp;omega,by simp⟩
   ·exact ⟨by simp[path];omega,by simp[path];omega,by simp[path]⟩
 rw[if_neg k2]
 by_cases k3:o.1=3
 ·rw[if_pos k3]
  have hK:0≤o.2.1∧o.2.1≤3:=by omega
  have hrow:qz o.2.1=o.2.1:=by omega
  have hwv:=hw o.2.1 hK
  unfold qt0
  simp only[path]
  rw[hrow]
  generalize w o.2.1=v at *
  have hov:=qjm v
  have hvv:=qhk v
  have hcv:=q2y v
  have hccv:=qie (qp v)
  by_cases hb:v=0
  ·rw[decide_eq_true hb]
   exact ⟨by simp[path],by simp[path];omega,by simp[path]⟩
  ·rw[decide_eq_false hb]
   simp only[cond_false,path,qyg,List.map_cons,List.map_nil]
   split
   ·exact ⟨by simp;omega,by simp;omega,by simp⟩
   ·exact ⟨by simp;omega,by simp;omega,by simp⟩
 rw[if_neg k3]
 by_cases k4:o.1=4
 ·rw[if_pos k4];exact ⟨by simp[path],by simp[path];omega,by simp[path]⟩
 rw[if_neg k4]
 by_cases k5:o.1=5
 ·rw[if_pos k5];exact ⟨by simp[path],by simp[path];omega,by simp[path]⟩
 rw[if_neg k5]
 by_cases k6:o.1=6
 ·rw[if_pos k6]
  have:=qie o.2.1
  exact ⟨by simp[path],by simp[path];omega,by simp[path]⟩
 rw[if_neg k6]
 by_cases k7:o.1=7
 ·rw[if_pos k7];exact ⟨by simp[path,qmc],by simp[path,qmc],by simp[path,qmc]⟩
 rw[if_neg k7]
 by_cases k8:o.1=8
 ·rw[if_pos k8];exact ⟨by simp[path],by simp[path],by simp[path]⟩
 rw[if_neg k8]
 by_cases k9:o.1=9
 ·rw[if_pos k9]
  unfold qms
  simp only[path]
  generalize w 13=st
  by_cases hs:st<1∨st>4
  ·rw[show (bif decide (st<1) then true else decide (st>4))=true by
    rcases hs with h | h
    ·rw[decide_eq_true h];rfl
    ·rw[decide_eq_true h];cases decide (st<1)<;>rfl]
   exact ⟨by simp[path],by simp[path],by simp[path]⟩
  ·rw[show (bif decide (st<1) then true else decide (st>4))=false by
    rw[decide_eq_false (by omega),decide_eq_false (by omega)];rfl]
   have hws:IntKind.wrap IntKind.i64 (st - 1)=st - 1:=qb8 (by omega) (by omega)
   have hrr:=qp0 (st - 1)
   simp only[cond_false,path]
   rw[hws]
   have hp:qz (st - 1)=st - 1:=by omega
   rw[hp]
   cases hin:inR (w (st - 1)) 1 6
   ·exact ⟨by simp[path];omega,by simp[path];omega,by simp[path]⟩
   ·have hi:=qb2.1 hin
    have hvv:=qhk (w (st - 1))
    simp only[Bool.not_true,cond_false,path]
    exact ⟨by simp;omega,by simp;omega,by simp⟩
 rw[if_neg k9]
 have k10:o.1=10:=by omega
 rw[if_pos k10]
 unfold qnj
 simp only[path]
 cases w 13 != 5
 ·simp only[cond_false,path]
  exact ⟨by simp;omega,by simp;omega,by simp⟩
 ·exact ⟨by simp[path],by simp[path],by simp[path]⟩
end Go.G

namespace Go.G
set_option maxRecDepth 100000
open Go Go.V Go.Proofs
end Go.G

namespace Go.G
set_option maxRecDepth 100000
open Go Go.V Go.Proofs
def wOf (r:qbn) (p:Int):Int:=qr0 r p.toNat
theorem qop {r:qbn} (hr:RightR r) {k:Int} (hk:0≤k∧k≤3):wOf r k=r.1.getD k.toNat 0∧0≤wOf r k∧wOf r k≤6:=by
 have hl:=hr.len
 have e:wOf r k=r.1.getD k.toNat 0:=by unfold wOf qr0;rw[if_pos (by omega)]
 refine ⟨e,?_⟩
 rw[e,qfq (by omega)]
 exact hr.rng _ (List.getElem_mem _)
theorem qbig {r:qbn} (hr:RightR r) (p:Int) (hp:0≤p∧p<20):0≤wOf r p∧wOf r p≤1000:=by
 have hl:=hr.len
 have hst:=hr.st
 unfold wOf qr0
 split
 ·rw[qfq (by omega)]
  have:=hr.rng _ (List.getElem_mem (l:=r.1) (show p.toNat<r.1.length by omega));omega
 ·split
  ·unfold ownW
   have:=qnb ((p.toNat:Int) - 3) r.1 0
   split<;>omega
  ·split
   ·have:=qbab ((p.toNat:Int) - 10) r.1;omega
   ·split
    ·omega
    ·unfold viaW
     have:=qnb ((p.toNat:Int) - 13) r.1 0
     split<;>omega
def qik (r:qbn) (o:Op3):Got:=(path (wOf r) (prog o)).map fun p=>(p,wOf r p,())
theorem q1o (r:qbn) (o:Op3):q8t (qik r o) (wOf r) (path (wOf r) (prog o)):=q7e _ _
theorem q65 {r:qbn} (hr:RightR r) {o:Op3} (ho:opOk o=true):run (qik r o) (prog o)=(path (wOf r) (prog o),-1):=by
 have hpk:=q0z ho (wOf r) (fun k hk=>(qop hr hk).2)
 exact q24 (q1o r o) (path (wOf r) (prog o)) [] (prog o) (by rw[List.append_nil]) (fun a ha=>ha) (fun a ha=>(hpk.rng a (by simpa using ha)).1) (fun b B' h=>by cases h)
theorem qbdt {r:qbn} (hr:RightR r) {o:Op3} (ho:opOk o=true):qz3 (qik r o):=by
 have hpk:=q0z ho (wOf r) (fun k hk=>(qop hr hk).2)
 intro x hx
 obtain ⟨p,hp,rfl⟩:=List.mem_map.1 hx
 have:=qbig hr p (hpk.rng p hp)
 exact ⟨by show -1≤wOf r p;omega,by show wOf r p≤1000000;omega⟩
section
variable {X:Ext} (hX:XOk X) {n:Nat}
include hX
theorem qbda (N n:Nat) (hN:W+13≤N) (K:qbn→Op3→qbn→Op3→Got→Option ((qbn×Op3×Got×Unit)×Unit)) (z1:qbn) (z2:Op3) {r:qbn} (hr:RightR r) {o:Op3} (ho:opOk o=true) {ws:List Int} (hwl:ws.length=20) (hw:∀ p<20,ws.getD p 0=qr0 r p) :
  ∀ (m i:Nat),i≤(path (wOf r) (prog o)).length→12 - i<m→
  qf6 (DD X N) n K m (i:Int) z1 z2 r o ws (((path (wOf r) (prog o)).take i).map fun p=>(p,wOf r p,()))=K z1 z2 r o (qik r o)
 | 0,_,_,h=>by omega
 | m+1,i,hi,hf=>by
  have hb:=qhu
  have hpk:=q0z ho (wOf r) (fun k hk=>(qop hr hk).2)
  have hlen:=hpk.len
  have hkn:=q7e (wOf r) ((path (wOf r) (prog o)).take i)
  have hsplit:=List.take_append_drop i (path (wOf r) (prog o))
  have hrun:run (((path (wOf r) (prog o)).take i).map fun p=>(p,wOf r p,())) (prog o)=((path (wOf r) (prog o)).take i,((path (wOf r) (prog o)).drop i).headD (-1)):=
   q24 hkn _ _ (prog o) hsplit.symm (fun a ha=>ha) (fun a ha=>(hpk.rng a (by rw[hsplit] at ha;exact ha)).1) (fun b B' hB hmem=>by
    have hn:=hpk.once
    rw[←hsplit,hB] at hn
    rw[List.nodup_append] at hn
    exact hn.2.2 b hmem b List.mem_cons_self rfl)
  have hnx:q3x o (((path (wOf r) (prog o)).take i).map fun p=>(p,wOf r p,()))=((path (wOf r) (prog o)).drop i).headD (-1):=by
   unfold q3x;rw[if_pos ho,hrun]
  have enx:=q10 hX (n:=N) (by omega) (got:=((path (wOf r) (prog o)).take i).map fun p=>(p,wOf r p,())) (by rw[List.length_map,List.length_take];omega) o
  have hgl:(((path (wOf r) (prog o)).take i).map fun p=>(p,wOf r p,())).length+1≤qem:=by rw[List.length_map,List.length_take];omega
  rw[hnx] at enx
  simp only[qf6,qnq]
  rw[qk (show (i:Int)<12 by omega)]
  by_cases h:i<(path (wOf r) (prog o)).length
  ·rw[qkt h,List.headD_cons] at enx
   have hp:=hpk.rng _ (List.getElem_mem h)
   rw[enx,qc]
   dsimp only
   rw[qh (show ¬ (path (wOf r) (prog o))[i]<0 by omega),ixn (by omega) (by rw[hwl];omega),br_t,qk hgl,qbk (by omega),hw _ (by omega)]
   have e:((path (wOf r) (prog o)).take i).map (fun p=>(p,wOf r p,()))++[((path (wOf r) (prog o))[i],qr0 r ((path (wOf r) (prog o))[i]).toNat,())]=((path (wOf r) (prog o)).take (i+1)).map fun p=>(p,wOf r p,()):=by
    rw[List.take_succ_eq_append_getElem h,List.map_append];rfl
   rw[e]
   exact qbda N n hN K z1 z2 hr ho hwl hw m (i+1) (by omega) (by omega)
  ·rw[qmw h,List.headD_nil] at enx
   rw[enx,qc]
   dsimp only
   rw[qk (show (-1:Int)<0 by decide),List.take_of_length_le (by omega)]
   rfl
theorem qbby (hn:W+15≤n) (a:List Int) (ha:a.length≤1048576):∃ (r:qbn) (o:Op3),RightR r∧opOk o=true∧qoh (DD X n) a=some ((r,o,qik r o,()),()):=by
 obtain ⟨n,rfl⟩:∃ k,n=k+1:=⟨n - 1,by omega⟩
 have hW:=qci
 rw[q2x hX]
 simp only[qog,qoe,qmu]
 obtain ⟨c,hc,e1⟩:=qbhn hX (n:=n) (by omega) a ha
 obtain ⟨r,c2,hr,_,hc2,e3⟩:=q72 hX (n:=n) (by omega) hc
 obtain ⟨o,c3,hc3,ho,e2⟩:=q8r hX (n:=n) (by omega) hc2
 obtain ⟨ws,hwl,hw,e4⟩:=qbf9 hX (n:=n) (by omega) hr
 rw[e1,qc]
 dsimp only
 rw[e3,qc]
 dsimp only
 rw[e2,qc]
 dsimp only
 rw[show (r.1,r.2)=r from rfl,e4,qc]
 dsimp only
 have e:=qbda hX n n (by omega) (fun v0_0 v0_1 v0_2 v0_3 v0_4=>qlv (DD X n) n v0_0 v0_1 v0_2 v0_3 v0_4) ([],0,()) (0,0,0,()) hr ho hwl hw n 0 (by omega) (by omega)
 rw[show ((0:Nat):Int)=0 from rfl,List.take_zero,List.map_nil] at e
 rw[e]
 exact ⟨r,o,hr,ho,rfl⟩
end
end Go.G

namespace Go.G
set_option maxRecDepth 100000
open Go Go.V Go.Proofs
inductive Out (r:qbn) (o:Op3):Int→List Int→Prop
 | put1:o.1=1→r.1.getD o.2.1.toNat 0≠0→Out r o 1 []
 | put2:o.1=1→r.1.getD o.2.1.toNat 0=0→0≤keyF o.2.2.1 r.1 0→Out r o 2 []
 | put0:o.1=1→r.1.getD o.2.1.toNat 0=0→keyF o.2.2.1 r.1 0<0→Out r o 0 []
 | set3:o.1=2→r.1.getD o.2.1.toNat 0=0→Out r o 3 []
 | setS:o.1=2→r.1.getD o.2.1.toNat 0≠0→r.1.getD o.2.1.toNat 0=o.2.2.1→Out r o 0 []
 | set2:o.1=2→r.1.getD o.2.1.toNat 0≠0→r.1.getD o.2.1.toNat 0≠o.2.2.1→0≤keyF o.2.2.1 r.1 0→Out r o 2 []
 | set0:o.1=2→r.1.getD o.2.1.toNat 0≠0→r.1.getD o.2.1.toNat 0≠o.2.2.1→keyF o.2.2.1 r.1 0<0→Out r o 0 []
 | del3:o.1=3→r.1.getD o.2.1.toNat 0=0→Out r o 3 []
 | del0:o.1=3→r.1.getD o.2.1.toNat 0≠0→Out r o 0 []
 | get3:o.1=4→r.1.getD o.2.1.toNat 0=0→Out r o 3 []
 | get0:o.1=4→r.1.getD o.2.1.toNat 0≠0→Out r o 0 [r.1.getD o.2.1.toNat 0]
 | find3:o.1=5→keyF o.2.2.1 r.1 0<0→Out r o 3 []
 | find0:o.1=5→0≤keyF o.2.2.1 r.1 0→Out r o 0 [keyF o.2.2.1 r.1 0]
 | cnt0:o.1=6→Out r o 0 [many o.2.1 r.1]
 | scan0:o.1=7→Out r o 0 r.1
 | open4:o.1=8→r.2.1≠0→Out r o 4 []
 | open0:o.1=8→r.2.1=0→Out r o 0 []
 | make4:o.1=9→r.2.1=0∨r.2.1=5→Out r o 4 []
 | make0:o.1=9→1≤r.2.1∧r.2.1≤4→Out r o 0 []
 | via4:o.1=10→r.2.1≠5→Out r o 4 []
 | via3:o.1=10→r.2.1=5→keyF o.2.2.1 r.1 0<0→Out r o 3 []
 | via0:o.1=10→r.2.1=5→0≤keyF o.2.2.1 r.1 0→Out r o 0 [keyF o.2.2.1 r.1 0]
theorem qzu {r:qbn} (hr:RightR r) {v:Int} (hv:1≤v∧v≤6):wOf r (qbe v)=keyF v r.1 0+1:=by
 have ho:=qjm v
 have hl:=hr.len
 have hk:=qnb v r.1 0
 have e:qbe v=3+v:=by omega
 unfold wOf qr0
 rw[e,if_neg (by omega),if_pos (by omega)]
 unfold ownW
 rw[show (((3+v).toNat:Nat):Int) - 3=v by omega]
 by_cases h:0≤keyF v r.1 0∧keyF v r.1 0<4
 ·rw[if_pos h]
 ·rw[if_neg h];omega
theorem q61 (r:qbn):wOf r 13=r.2.1:=rfl
theorem qbff {r:qbn} {c:Int} (hc:0≤c∧c≤2):wOf r (qbl c)=many c r.1:=by
 have ho:=qie c
 have e:qbl c=10+c:=by omega
 unfold wOf qr0
 rw[e,if_neg (by omega),if_neg (by omega),if_pos (by omega),show (((10+c).toNat:Nat):Int) - 10=c by omega]
theorem qbik {r:qbn} {v:Int} (hv:1≤v∧v≤6):wOf r (qbc v)=viaW v r.1 4 r.2.1:=by
 have ho:=qhk v
 have e:qbc v=13+v:=by omega
 unfold wOf qr0
 rw[e,if_neg (by omega),if_neg (by omega),if_neg (by omega),if_neg (by omega),show (((13+v).toNat:Nat):Int) - 13=v by omega]
theorem qbjl {l:List Int} (h:l.length=4):l=[l.getD 0 0,l.getD 1 0,l.getD 2 0,l.getD 3 0]:=by
 match l,h with
 | [a,b,c,d],_=>rfl
theorem qbhf {r:qbn} (hr:RightR r) {o:Op3} (ho:opOk o=true):Out r o (qpk o (qik r o)).1.2.1.1 (qpk o (qik r o)).1.2.1.2.1:=by
 have hkd:=qtt ho
 have hrun:=q65 hr ho
 have hkn:=q1o r o
 have hcond:opOk o=true∧(run (qik r o) (prog o)).2<0:=⟨ho,by rw[hrun];show (-1:Int)<0;omega⟩
 have hst:=hr.st
 have hl:=hr.len
 have hrd:∀ p,p∈path (wOf r) (prog o)→(qv (qik r o) p).1=wOf r p:=fun p hp=>by rw[hkn p,if_pos hp]
 have hrow:=qp0 o.2.1
 unfold qpk
 rw[if_pos hcond]
 by_cases k1:o.1=1
 ·have hK:qz o.2.1=o.2.1:=by omega
  have hw:=qop hr (k:=o.2.1) (by omega)
  have hp:prog o=qow o:=by unfold prog;rw[if_pos k1]
  have m1:qz o.2.1∈path (wOf r) (prog o):=by rw[hp];unfold qow;simp only[path];exact List.mem_cons_self
  have r1:=hrd _ m1
  rw[hK,hw.1] at r1
  unfold qhm
  rw[hK,r1]
  unfold nowP
  by_cases c1:r.1.getD o.2.1.toNat 0≠0
  ·rw[if_pos ⟨k1,c1⟩];exact .put1 k1 c1
  have c1':r.1.getD o.2.1.toNat 0=0:=by omega
  rw[if_neg (fun q=>c1 q.2)]
  have m2:qbe o.2.2.1∈path (wOf r) (prog o):=by
   rw[hp];unfold qow;simp only[path]
   rw[hK,hw.1,c1']
   simp only[bned,decide_true,Bool.not_true,cond_false,path]
   simp
  rw[hrd _ m2,qzu hr (by omega)]
  by_cases c2:keyF o.2.2.1 r.1 0+1≠0
  ·rw[if_pos ⟨k1,c2⟩];exact .put2 k1 c1' (by have:=qnb o.2.2.1 r.1 0;omega)
  rw[if_neg (fun q=>c2 q.2),if_neg (by omega),if_neg (by omega),if_neg (by omega),if_neg (by omega),if_neg (by omega),if_neg (by omega),if_neg (by omega),if_neg (by omega),if_neg (by omega),if_neg (by omega)]
  dsimp only
  unfold resP
  rw[if_neg (by omega),if_neg (by omega)]
  exact .put0 k1 c1' (by omega)
 by_cases k2:o.1=2
 ·have hK:qz o.2.1=o.2.1:=by omega
  have hw:=qop hr (k:=o.2.1) (by omega)
  have hp:prog o=qot o:=by unfold prog;rw[if_neg k1,if_pos k2]
  have m1:qz o.2.1∈path (wOf r) (prog o):=by rw[hp];unfold qot;simp only[path];exact List.mem_cons_self
  have r1:=hrd _ m1
  rw[hK,hw.1] at r1
  unfold qhm
  rw[hK,r1]
  unfold nowP
  rw[if_neg (by omega),if_neg (by omega)]
  by_cases c1:r.1.getD o.2.1.toNat 0=0
  ·rw[if_pos ⟨.inl k2,c1⟩];exact .set3 k2 c1
  rw[if_neg (fun q=>c1 q.2)]
  by_cases c3:r.1.getD o.2.1.toNat 0=o.2.2.1
  ·rw[if_pos ⟨k2,c3⟩];exact .setS k2 c1 c3
  rw[if_neg (fun q=>c3 q.2)]
  have m2:qbe o.2.2.1∈path (wOf r) (prog o):=by
   rw[hp];unfold qot;simp only[path]
   rw[hK,hw.1,decide_eq_false c1,decide_eq_false c3]
   simp only[cond_false,path]
   simp
  rw[hrd _ m2,qzu hr (by omega)]
  by_cases c2:keyF o.2.2.1 r.1 0+1≠0
  ·rw[if_pos ⟨k2,c2⟩];exact .set2 k2 c1 c3 (by have:=qnb o.2.2.1 r.1 0;omega)
  rw[if_neg (fun q=>c2 q.2),if_neg (by omega),if_neg (by omega),if_neg (by omega),if_neg (by omega),if_neg (by omega),if_neg (by omega),if_neg (by omega)]
  dsimp only
  unfold resP
  rw[if_neg (by omega),if_neg (by omega)]
  exact .set0 k2 c1 c3 (by omega)
 by_cases k34:o.1=3∨o.1=4
 ·have hK:qz o.2.1=o.2.1:=by omega
  have hw:=qop hr (k:=o.2.1) (by omega)
  have m1:qz o.2.1∈path (wOf r) (prog o):=by
   unfold prog
   rw[if_neg k1,if_neg k2]
   rcases k34 with k | k
   ·rw[if_pos k];unfold qt0;simp only[path];exact List.mem_cons_self
   ·rw[if_neg (by omega),if_pos k];simp only[path];exact List.mem_cons_self
  have r1:=hrd _ m1
  rw[hK,hw.1] at r1
  unfold qhm
  rw[hK,r1]
  unfold nowP
  rw[if_neg (by omega),if_neg (by omega)]
  by_cases c1:r.1.getD o.2.1.toNat 0=0
  ·rw[if_pos ⟨.inr k34,c1⟩]
   rcases k34 with k | k
   ·exact .del3 k c1
   ·exact .get3 k c1
  rw[if_neg (fun q=>c1 q.2),if_neg (by omega),if_neg (by omega)]
  rcases k34 with k | k
  ·rw[if_neg (by omega),if_neg (by omega),if_neg (by omega),if_neg (by omega),if_neg (by omega),if_neg (by omega),if_neg (by omega)]
   dsimp only
   unfold resP
   rw[if_neg (by omega),if_neg (by omega)]
   exact .del0 k c1
  ·rw[if_pos k];exact .get0 k c1
 by_cases k5:o.1=5
 ·have m1:qbe o.2.2.1∈path (wOf r) (prog o):=by
   unfold prog
   rw[if_neg k1,if_neg k2,if_neg (by omega),if_neg (by omega),if_pos k5];simp only[path];exact List.mem_cons_self
  have hk:=qnb o.2.2.1 r.1 0
  unfold qhm
  rw[hrd _ m1,qzu hr (by omega)]
  unfold nowP
  rw[if_neg (by omega),if_neg (by omega),if_neg (by omega),if_neg (by omega),if_neg (by omega),if_neg (by omega)]
  by_cases c:keyF o.2.2.1 r.1 0+1=0
  ·rw[if_pos ⟨k5,c⟩];exact .find3 k5 (by omega)
  ·rw[if_neg (fun q=>c q.2),if_pos k5]
   dsimp only
   rw[show keyF o.2.2.1 r.1 0+1 - 1=keyF o.2.2.1 r.1 0 by omega,qb8 (by omega) (by omega)]
   exact .find0 k5 (by omega)
 by_cases k6:o.1=6
 ·have m1:qbl o.2.1∈path (wOf r) (prog o):=by
   unfold prog
   rw[if_neg k1,if_neg k2,if_neg (by omega),if_neg (by omega),if_neg k5,if_pos k6];simp only[path];exact List.mem_cons_self
  unfold qhm
  rw[hrd _ m1,qbff (by omega)]
  unfold nowP
  rw[if_neg (by omega),if_neg (by omega),if_neg (by omega),if_neg (by omega),if_neg (by omega),if_neg (by omega),if_neg (by omega),if_neg k5,if_pos k6]
  exact .cnt0 k6
 by_cases k7:o.1=7
 ·have hp:prog o=qmc:=by
   unfold prog
   rw[if_neg k1,if_neg k2,if_neg (by omega),if_neg (by omega),if_neg k5,if_neg k6,if_pos k7]
  unfold qhm nowP
  rw[if_neg (by omega),if_neg (by omega),if_neg (by omega),if_neg (by omega),if_neg (by omega),if_neg (by omega),if_neg (by omega),if_neg k5,if_neg k6,if_neg (by omega),if_neg (by omega),if_neg (by omega)]
  dsimp only
  unfold resP
  rw[if_pos k7]
  have hv:∀ p:Int,0≤p∧p≤3→val (qik r o) p=r.1.getD p.toNat 0:=fun p hp2=>by
   unfold val
   rw[hrd p (by rw[hp];unfold qmc;simp only[path,List.mem_cons,List.not_mem_nil,or_false];omega)]
   exact (qop hr hp2).1
  dsimp only
  rw[hv 0 (by omega),hv 1 (by omega),hv 2 (by omega),hv 3 (by omega)]
  have:=qbjl hl
  have e:[r.1.getD (0:Int).toNat 0,r.1.getD (1:Int).toNat 0,r.1.getD (2:Int).toNat 0,r.1.getD (3:Int).toNat 0]=r.1:=this.symm
  rw[e]
  exact .scan0 k7
 have m13:(13:Int)∈path (wOf r) (prog o):=by
  unfold prog
  rw[if_neg k1,if_neg k2,if_neg (by omega),if_neg (by omega),if_neg k5,if_neg k6,if_neg k7]
  by_cases k8:o.1=8
  ·rw[if_pos k8];simp only[path];exact List.mem_cons_self
  by_cases k9:o.1=9
  ·rw[if_neg k8,if_pos k9];unfold qms;simp only[path];exact List.mem_cons_self
  ·rw[if_neg k8,if_neg k9,if_pos (by omega)];unfold qnj;simp only[path];exact List.mem_cons_self
 unfold qhm
 rw[hrd _ m13,q61]
 unfold nowP
 rw[if_neg (by omega),if_neg (by omega),if_neg (by omega),if_neg (by omega),if_neg (by omega),if_neg (by omega),if_neg (by omega),if_neg k5,if_neg k6]
 by_cases k8:o.1=8
 ·by_cases c:r.2.1≠0
  ·rw[if_pos ⟨k8,c⟩];exact .open4 k8 c
  ·rw[if_neg (fun q=>c q.2),if_neg (by omega),if_neg (by omega)]
   dsimp only
   unfold resP
   rw[if_neg (by omega),if_neg (by omega)]
   exact .open0 k8 (by omega)
 rw[if_neg (by omega)]
 by_cases k9:o.1=9
 ·by_cases c:r.2.1<1∨r.2.1>4
  ·rw[if_pos ⟨k9,c⟩];exact .make4 k9 (by omega)
  ·rw[if_neg (fun q=>c q.2),if_neg (by omega)]
   dsimp only
   unfold resP
   rw[if_neg (by omega),if_neg (by omega)]
   exact .make0 k9 (by omega)
 rw[if_neg (by omega)]
 have k10:o.1=10:=by omega
 by_cases c:r.2.1≠5
 ·rw[if_pos ⟨k10,c⟩];exact .via4 k10 c
 rw[if_neg (fun q=>c q.2)]
 have c5:r.2.1=5:=by omega
 have mv:qbc o.2.2.1∈path (wOf r) (prog o):=by
  unfold prog
  rw[if_neg k1,if_neg k2,if_neg (by omega),if_neg (by omega),if_neg k5,if_neg k6,if_neg k7,if_neg k8,if_neg k9,if_pos k10]
  unfold qnj
  simp only[path]
  rw[q61,c5]
  simp only[show ((5:Int) != 5)=false by decide,cond_false,path]
  simp
 have hk:=qnb o.2.2.1 r.1 0
 have hvv:val (qik r o) (qbc o.2.2.1)=keyF o.2.2.1 r.1 0+1:=by
  unfold val
  rw[hrd _ mv,qbik (by omega)]
  unfold viaW
  by_cases q:0≤keyF o.2.2.1 r.1 0∧keyF o.2.2.1 r.1 0<4∧keyF o.2.2.1 r.1 0<r.2.1 - 1
  ·rw[if_pos q]
  ·rw[if_neg q];omega
 dsimp only
 unfold resP
 rw[if_neg k7,if_pos k10,hvv]
 by_cases q:keyF o.2.2.1 r.1 0+1=0
 ·rw[if_pos q];exact .via3 k10 c5 (by omega)
 ·rw[if_neg q]
  dsimp only
  rw[show keyF o.2.2.1 r.1 0+1 - 1=keyF o.2.2.1 r.1 0 by omega,qb8 (by omega) (by omega)]
  exact .via0 k10 c5 (by omega)
end Go.G

namespace Go.G
set_option maxRecDepth 100000
open Go Go.V Go.Proofs
theorem q62 (v:Int):∀ (l:List Int) (i:Nat),v∉l→keyF v l i = -1
 | [],i,_=>rfl
 | x::l,i,h=>by
  simp only[keyF]
  rw[if_neg (fun e=>h (by rw[e];exact List.mem_cons_self)),q62 v l (i+1) (fun m=>h (List.mem_cons_of_mem _ m))]
section
variable {X:Ext} (hX:XOk X) {n:Nat}
include hX
theorem qbcz (D:Den ctx) (n:Nat) (K0:Int→Option ((Int×Unit)×Unit)) (K1:Option ((Int×Unit)×Unit)) (hK:K0 (-1)=K1) (l:List Int) (hl:l.length≤1000) (v:Int):∀ (m i:Nat),i≤l.length→l.length - i<m→
  qd3 D n K0 K1 m l v (l.length:Int) (i:Int)=K0 (keyF v (l.drop i) i)
 | 0,_,_,h=>by omega
 | m+1,i,hi,hf=>by
  simp only[qd3,qip]
  by_cases h:i<l.length
  ·rw[qk (by omega),ix h,br_t,Int.toNat_natCast,qfq h,qkt h]
   simp only[keyF]
   by_cases e:l[i]=v
   ·rw[qk e.symm,if_pos e]
   ·rw[qh (fun k=>e k.symm),if_neg e,qbk (by omega)]
    exact qbcz D n K0 K1 hK l hl v m (i+1) (by omega) (by omega)
  ·rw[qh (by omega),qmw h]
   exact hK.symm
theorem qbcu (hn:W+1≤n) (l:List Int) (hl:l.length≤1000) (v:Int):qgo (DD X n) l v=some ((keyF v l 0,()),()):=by
 obtain ⟨n,rfl⟩:∃ k,n=k+1:=⟨n - 1,by omega⟩
 have hW:=qci
 rw[qws hX]
 simp only[qjj,qjp,qib]
 have e:=qbcz hX (DD X n) n (fun v0_0=>qhl (DD X n) n v0_0) (qhs (DD X n) n) rfl l hl v n 0 (by omega) (by omega)
 rw[show ((0:Nat):Int)=0 from rfl] at e
 rw[e];rfl
theorem q1m (hn:W+2≤n) (r:qbn) (hr:r.1.length≤1000) (v:Int):qke (DD X n) r v=some ((keyF v r.1 0,()),()):=by
 obtain ⟨n,rfl⟩:∃ k,n=k+1:=⟨n - 1,by omega⟩
 rw[qbac hX]
 simp only[qt6,qzc]
 rw[qbcu hX (by omega) r.1 hr,qc]
theorem qbd6 (hn:W+2≤n) (l:List Int) (hl:l.length≤1000) (v:Int) (h:v∉l):qhp (DD X n) l v=some ((false,()),()):=by
 obtain ⟨n,rfl⟩:∃ k,n=k+1:=⟨n - 1,by omega⟩
 rw[qtj hX]
 simp only[qhq,ql5]
 rw[qbcu hX (by omega) l hl,qc,q62 v l 0 h]
 rfl
theorem qx2 (N n:Nat) (hN:W+3≤N) (K0:Bool→qbn→Option ((Bool×Unit)×Unit)) (K1:qbn→Option ((Bool×Unit)×Unit)) {r:qbn} (hr:RightR r):∀ (m i:Nat),i≤r.1.length→r.1.length - i<m→
  qh8 (DD X N) n K0 K1 m r.1 (r.1.length:Int) (i:Int) r=K1 r
 | 0,_,_,h=>by omega
 | m+1,i,hi,hf=>by
  have hl:=hr.len
  have hW:=qci
  simp only[qh8,qrg]
  by_cases h:i<r.1.length
  ·rw[qk (by omega),ix h,br_t,Int.toNat_natCast,qfq h]
   by_cases e:r.1[i]=0
   ·rw[bned,decide_eq_true e,Bool.not_true,br_f,qbk (by omega)]
    exact qx2 N n hN K0 K1 hr m (i+1) (by omega) (by omega)
   ·have hv:=hr.rng r.1[i] (List.getElem_mem h)
    rw[bned,decide_eq_false e,Bool.not_false,br_t,qkr hX (by omega),qc]
    dsimp only
    rw[qb2.2 (by omega),Bool.not_true,br_f]
    rw[show (decide ((0:Nat)≤0)&&decide ((0:Int)≤(i:Int))&&decide ((i:Int)≤(r.1.length:Int)))=true by
     rw[decide_eq_true (by omega:(0:Int)≤(i:Int)),decide_eq_true (by omega:(i:Int)≤(r.1.length:Int))];rfl]
    rw[br_t,Int.toNat_zero,List.drop_zero]
    have hnot:r.1[i]∉r.1.take i:=fun hm=>by
     obtain ⟨j,hj⟩:=List.mem_iff_getElem?.1 hm
     rw[List.getElem?_take] at hj
     split at hj
     ·exact e (hr.once j i (by assumption) _ hj (List.getElem?_eq_getElem h))
     ·simp at hj
    rw[qbd6 hX (by omega) _ (by rw[List.length_take];omega) _ hnot,qc]
    dsimp only
    rw[br_f,qbk (by omega)]
    exact qx2 N n hN K0 K1 hr m (i+1) (by omega) (by omega)
  ·rw[qh (by omega)]
theorem q94 (hn:W+4≤n) {r:qbn} (hr:RightR r):qsq (DD X n) r=some ((true,()),()):=by
 obtain ⟨n,rfl⟩:∃ k,n=k+1:=⟨n - 1,by omega⟩
 have hW:=qci
 have hl:=hr.len
 rw[q8a hX]
 simp only[qsw,qs0,qo4]
 have e:=qx2 hX n n (by omega) (fun v0_0 v0_1=>qoo (DD X n) n v0_0 v0_1) (fun v1_0=>qkw (DD X n) n v1_0) hr n 0 (by omega) (by omega)
 rw[show ((0:Nat):Int)=0 from rfl] at e
 rw[e]
 simp only[qkw]
 rw[qk (by omega),q4j hX (by omega),qc,qb2.2 hr.st]
theorem qtr (N n:Nat) (hN:4≤N) (K:Int→Option ((Int×Unit)×Unit)) (l:List Int) (hr:l.length≤1000) (c:Int):∀ (m i:Nat) (a:Int),i≤l.length→l.length - i<m→0≤a∧a≤i→
  qha (DD X N) n K m c a l (l.length:Int) (i:Int)=K (a+many c (l.drop i))
 | 0,_,_,_,h,_=>by omega
 | m+1,i,a,hi,hf,ha=>by
  simp only[qha,qpv]
  by_cases h:i<l.length
  ·rw[qk (by omega),ix h,br_t,Int.toNat_natCast,qfq h,qkr hX (by omega),qc,qkt h]
   simp only[many]
   cases hv:inR l[i] 1 6
   ·rw[br_f,qbk (by omega),qtr N n hN K l hr c m (i+1) _ (by omega) (by omega) (by omega)]
    congr 1
    simp only[Bool.false_and,cond_false]
    omega
   ·rw[br_t,qgq hX (by omega),qc]
    dsimp only
    by_cases e:qp l[i]=c
    ·rw[qk e,qb8 (by omega) (by omega),qbk (by omega),qtr N n hN K l hr c m (i+1) _ (by omega) (by omega) (by omega)]
     congr 1
     simp only[e,Bool.true_and,decide_true,cond_true]
     omega
    ·rw[qh e,qbk (by omega),qtr N n hN K l hr c m (i+1) _ (by omega) (by omega) (by omega)]
     congr 1
     simp only[decide_eq_false e,Bool.true_and,cond_false]
     omega
  ·rw[qh (by omega),qmw h]
   congr 1;simp[many]
theorem q76 (hn:W+1≤n) (r:qbn) (hr:r.1.length≤1000) (c:Int):qqm (DD X n) r c=some ((many c r.1,()),()):=by
 obtain ⟨n,rfl⟩:∃ k,n=k+1:=⟨n - 1,by omega⟩
 have hW:=qci
 rw[q5n hX]
 simp only[qrv,qrd,qon]
 have e:=qtr hX n n (by omega) (fun v0_0=>qnm (DD X n) n v0_0) r.1 hr c n 0 0 (by omega) (by omega) (by omega)
 rw[show ((0:Nat):Int)=0 from rfl,List.drop_zero,Int.zero_add] at e
 rw[e];rfl
theorem qbi7 (hn:1≤n) (r:qbn):qjo (DD X n) r=some ((decide (r.2.1=5),()),()):=by
 obtain ⟨n,rfl⟩:∃ k,n=k+1:=⟨n - 1,by omega⟩
 rw[qbca hX];rfl
theorem qbc2 (D:Den ctx) (n:Nat) (K0:Bool→Option ((Bool×Unit)×Unit)) (K1:Option ((Bool×Unit)×Unit)) (l:List Int) (hl:l.length≤1000):∀ (m i:Nat),i≤l.length→l.length - i<m→
  qd2 D n K0 K1 m l l (l.length:Int) (i:Int)=K1
 | 0,_,_,h=>by omega
 | m+1,i,hi,hf=>by
  simp only[qd2,qio]
  by_cases h:i<l.length
  ·rw[qk (by omega),ix h,br_t,br_t,bned,decide_eq_true rfl,Bool.not_true,br_f,qbk (by omega)]
   exact qbc2 D n K0 K1 l hl m (i+1) (by omega) (by omega)
  ·rw[qh (by omega)]
theorem qbiu (hn:W+1≤n) (l:List Int) (hl:l.length≤1000):qjs (DD X n) l l=some ((true,()),()):=by
 obtain ⟨n,rfl⟩:∃ k,n=k+1:=⟨n - 1,by omega⟩
 have hW:=qci
 rw[qwr hX]
 simp only[qjk,qjl,qh9]
 have e:=qbc2 hX (DD X n) n (fun v0_0=>qhn (DD X n) n v0_0) (qho (DD X n) n) l hl n 0 (by omega) (by omega)
 rw[show ((0:Nat):Int)=0 from rfl] at e
 rw[show ((l.length:Int) != (l.length:Int))=false by simp,br_f,e]
 rfl
theorem qbeh (D:Den ctx) (n:Nat) (K0:Bool→Option ((Bool×Unit)×Unit)) (K1:Option ((Bool×Unit)×Unit)) (l:List Int) (hl:l.length≤1000):∀ (m i:Nat),i≤l.length→l.length - i<m→
  qgg D n K0 K1 m l l (i:Int)=K1
 | 0,_,_,h=>by omega
 | m+1,i,hi,hf=>by
  simp only[qgg,qod]
  by_cases h:i<l.length
  ·rw[qk (by omega),ix h,br_t,br_t,bned,decide_eq_true rfl,Bool.not_true,br_f,qbk (by omega)]
   exact qbeh D n K0 K1 l hl m (i+1) (by omega) (by omega)
  ·rw[qh (by omega)]
theorem q3g (hn:W+1≤n) (l:List Int) (hl:l.length≤1000):qdd (DD X n) l l=some ((true,()),()):=by
 obtain ⟨n,rfl⟩:∃ k,n=k+1:=⟨n - 1,by omega⟩
 have hW:=qci
 rw[q36 hX]
 simp only[qp4,qp8,qnn]
 have e:=qbeh hX (DD X n) n (fun v0_0=>qmp (DD X n) n v0_0) (qmv (DD X n) n) l hl n 0 (by omega) (by omega)
 rw[show ((0:Nat):Int)=0 from rfl] at e
 rw[show ((l.length:Int) != (l.length:Int))=false by simp,br_f,e]
 rfl
theorem qbdu (hn:2≤n) {r:qbn} (hr:RightR r):qpo (DD X n) r=some ((r,()),()):=by
 obtain ⟨n,rfl⟩:∃ k,n=k+2:=⟨n - 2,by omega⟩
 have hl:=hr.len
 have hb:=qhu
 rw[q39 hX]
 simp only[qpe,qwb]
 rw[qwe hX]
 simp only[qjq,qn0]
 rw[qh (by rw[Int.toNat_natCast];omega),qk (by omega),qc]
 rfl
end
end Go.G

namespace Go.G
set_option maxRecDepth 100000
open Go Go.V Go.Proofs
def q4r (r:qbn) (o:Op3) (code:Int):qbn:=
 if code≠0 then r else if o.1=1∨o.1=2 then (r.1.set o.2.1.toNat o.2.2.1,r.2) else if o.1=3 then (r.1.set o.2.1.toNat 0,r.2) else
 if o.1=8∨o.1=9 then (r.1,IntKind.wrap IntKind.i64 (r.2.1+1),()) else r
section
variable {X:Ext} (hX:XOk X) {n:Nat}
include hX
theorem q7j (hn:W+6≤n) {r:qbn} (hr:RightR r) {o:Op3} (ho:opOk o=true) {code:Int} {list:List Int} (h:Out r o code list):qnc (DD X n) r o (code,list,())=some ((true,()),()):=by
 obtain ⟨n,rfl⟩:∃ k,n=k+2:=⟨n - 2,by omega⟩
 have hW:=qci
 have hl:=hr.len
 have hkd:=qtt ho
 have hkey:=fun v=>q1m hX (n:=n) (by omega) r (by omega) v
 have hmade:=qbi7 hX (n:=n) (by omega) r
 have hmany:=fun c=>q76 hX (n:=n) (by omega) r (by omega) c
 have heq:=fun l hl=>qbiu hX (n:=n+1) (by omega) l hl
 obtain ⟨k,K,V,⟨⟩⟩:=o
 dsimp only at hkd
 rw[q5c hX]
 simp only[qqz,qxx]
 rw[q94 hX (by omega) hr,qc]
 dsimp only
 rw[Bool.not_true,br_f,q3p hX (by omega),ho,qc]
 dsimp only
 rw[Bool.not_true,br_f]
 have hix:k=1∨k=2∨k=3∨k=4→(decide (0≤K)&&decide (K<(r.1.length:Int)))=true:=fun q=>ixn (by omega) (by omega)
 have hkk:=qnb V r.1 0
 have hkV:r.1.getD K.toNat 0=V→(0≤K∧K≤3)→V≠0→keyF V r.1 0=K:=fun e hK hV=>by
  have hget:r.1[K.toNat]? = some V:=by rw[←e,List.getElem?_eq_getElem (by omega),qfq (by omega)]
  rw[qw3 V r.1 0 K.toNat hget (fun j hj hc=>hV (hr.once j K.toNat hj V hc hget))]
  omega
 cases h with
 | put1 hk h1=>
  dsimp only at hk h1
  subst hk
  have hI:=hix (by omega)
  rw[show ((1:Int) != 0)=true by decide,br_t,qk (by simp),qdo hX]
  simp only[qcy,qda]
  rw[hkey V,qc]
  generalize r.1.getD K.toNat 0=x at *
  simp only[hmade]
  simp[br,bned,qd,hI,h1]
 | put2 hk h1 h2=>
  dsimp only at hk h1 h2
  subst hk
  have hI:=hix (by omega)
  rw[show ((2:Int) != 0)=true by decide,br_t,qk (by simp),qdo hX]
  simp only[qcy,qda]
  rw[hkey V,qc]
  generalize r.1.getD K.toNat 0=x at *
  simp only[hmade]
  simp[br,bned,qd,hI,h1,h2]
 | put0 hk h1 h2=>
  dsimp only at hk h1 h2
  subst hk
  have hI:=hix (by omega)
  rw[show ((0:Int) != 0)=false by decide,br_f,qdr hX]
  simp only[qcz,qc9]
  rw[hkey V,qc]
  generalize r.1.getD K.toNat 0=x at *
  simp only[hmade,hmany]
  have hq:=heq ([]:List Int) (by simp)
  simp[br,bned,qd,hq,hI,h1,h2]
 | set3 hk h1=>
  dsimp only at hk h1
  subst hk
  have hI:=hix (by omega)
  rw[show ((3:Int) != 0)=true by decide,br_t,qk (by simp),qdo hX]
  simp only[qcy,qda]
  rw[hkey V,qc]
  generalize r.1.getD K.toNat 0=x at *
  simp only[hmade]
  simp[br,bned,qd,hI,h1]
 | setS hk h1 h2=>
  dsimp only at hk h1 h2
  subst hk
  have hI:=hix (by omega)
  have hkv:=hkV h2 (by omega) (by omega)
  rw[show ((0:Int) != 0)=false by decide,br_f,qdr hX]
  simp only[qcz,qc9]
  rw[hkey V,qc]
  generalize r.1.getD K.toNat 0=x at *
  simp only[hmade,hmany]
  have hq:=heq ([]:List Int) (by simp)
  simp[br,bned,qd,hq,hI,h1,h2,hkv,(show ¬ V=0 from fun e=>h1 (h2.trans e))]
 | set2 hk h1 h2 h3=>
  dsimp only at hk h1 h2 h3
  subst hk
  have hI:=hix (by omega)
  rw[show ((2:Int) != 0)=true by decide,br_t,qk (by simp),qdo hX]
  simp only[qcy,qda]
  rw[hkey V,qc]
  generalize r.1.getD K.toNat 0=x at *
  simp only[hmade]
  simp[br,bned,qd,hI,h1,h2,h3]
 | set0 hk h1 h2 h3=>
  dsimp only at hk h1 h2 h3
  subst hk
  have hI:=hix (by omega)
  rw[show ((0:Int) != 0)=false by decide,br_f,qdr hX]
  simp only[qcz,qc9]
  rw[hkey V,qc]
  generalize r.1.getD K.toNat 0=x at *
  simp only[hmade,hmany]
  have hq:=heq ([]:List Int) (by simp)
  simp[br,bned,qd,hq,hI,h1,h2,h3]
 | del3 hk h1=>
  dsimp only at hk h1
  subst hk
  have hI:=hix (by omega)
  rw[show ((3:Int) != 0)=true by decide,br_t,qk (by simp),qdo hX]
  simp only[qcy,qda]
  rw[hkey V,qc]
  generalize r.1.getD K.toNat 0=x at *
  simp only[hmade]
  simp[br,bned,qd,hI,h1]
 | del0 hk h1=>
  dsimp only at hk h1
  subst hk
  have hI:=hix (by omega)
  rw[show ((0:Int) != 0)=false by decide,br_f,qdr hX]
  simp only[qcz,qc9]
  rw[hkey V,qc]
  generalize r.1.getD K.toNat 0=x at *
  simp only[hmade,hmany]
  have hq:=heq ([]:List Int) (by simp)
  simp[br,bned,qd,hq,hI,h1]
 | get3 hk h1=>
  dsimp only at hk h1
  subst hk
  have hI:=hix (by omega)
  rw[show ((3:Int) != 0)=true by decide,br_t,qk (by simp),qdo hX]
  simp only[qcy,qda]
  rw[hkey V,qc]
  generalize r.1.getD K.toNat 0=x at *
  simp only[hmade]
  simp[br,bned,qd,hI,h1]
 | get0 hk h1=>
  dsimp only at hk h1
  subst hk
  have hI:=hix (by omega)
  rw[show ((0:Int) != 0)=false by decide,br_f,qdr hX]
  simp only[qcz,qc9]
  rw[hkey V,qc]
  generalize r.1.getD K.toNat 0=x at *
  simp only[hmade,hmany]
  have hq:=heq [x] (by simp)
  simp[br,bned,qd,hq,hI,h1]
 | find3 hk h1=>
  dsimp only at hk h1
  subst hk
  rw[show ((3:Int) != 0)=true by decide,br_t,qk (by simp),qdo hX]
  simp only[qcy,qda]
  rw[hkey V,qc]
  simp only[hmade]
  simp[br,bned,qd,h1]
 | find0 hk h1=>
  dsimp only at hk h1
  subst hk
  rw[show ((0:Int) != 0)=false by decide,br_f,qdr hX]
  simp only[qcz,qc9]
  rw[hkey V,qc]
  simp only[hmade,hmany]
  have hq:=heq [keyF V r.1 0] (by simp)
  simp[br,bned,qd,hq,h1]
 | cnt0 hk=>
  dsimp only at hk
  subst hk
  rw[show ((0:Int) != 0)=false by decide,br_f,qdr hX]
  simp only[qcz,qc9]
  rw[hkey V,qc]
  simp only[hmade,hmany]
  have hq:=heq [many K r.1] (by simp)
  simp[br,bned,qd,hq]
 | scan0 hk=>
  dsimp only at hk
  subst hk
  rw[show ((0:Int) != 0)=false by decide,br_f,qdr hX]
  simp only[qcz,qc9]
  rw[hkey V,qc]
  simp only[hmade,hmany]
  have hq:=heq r.1 (by omega)
  simp[br,bned,qd,hq]
 | open4 hk h1=>
  dsimp only at hk h1
  subst hk
  rw[show ((4:Int) != 0)=true by decide,br_t,qk (by simp),qdo hX]
  simp only[qcy,qda]
  rw[hkey V,qc]
  simp only[hmade]
  simp[br,bned,qd,h1]
 | open0 hk h1=>
  dsimp only at hk h1
  subst hk
  rw[show ((0:Int) != 0)=false by decide,br_f,qdr hX]
  simp only[qcz,qc9]
  rw[hkey V,qc]
  simp only[hmade,hmany]
  have hq:=heq ([]:List Int) (by simp)
  simp[br,bned,qd,hq,h1]
 | make4 hk h1=>
  dsimp only at hk h1
  subst hk
  rw[show ((4:Int) != 0)=true by decide,br_t,qk (by simp),qdo hX]
  simp only[qcy,qda]
  rw[hkey V,qc]
  simp only[hmade]
  rcases h1 with h1 | h1<;>simp[br,bned,qd,h1]
 | make0 hk h1=>
  dsimp only at hk h1
  subst hk
  rw[show ((0:Int) != 0)=false by decide,br_f,qdr hX]
  simp only[qcz,qc9]
  rw[hkey V,qc]
  simp only[hmade,hmany]
  have hq:=heq ([]:List Int) (by simp)
  simp[br,bned,qd,hq,show ¬ r.2.1=0 by omega,show ¬ r.2.1=5 by omega]
 | via4 hk h1=>
  dsimp only at hk h1
  subst hk
  rw[show ((4:Int) != 0)=true by decide,br_t,qk (by simp),qdo hX]
  simp only[qcy,qda]
  rw[hkey V,qc]
  simp only[hmade]
  simp[br,bned,qd,h1]
 | via3 hk h1 h2=>
  dsimp only at hk h1 h2
  subst hk
  rw[show ((3:Int) != 0)=true by decide,br_t,qk (by simp),qdo hX]
  simp only[qcy,qda]
  rw[hkey V,qc]
  simp only[hmade]
  simp[br,bned,qd,h1,h2]
 | via0 hk h1 h2=>
  dsimp only at hk h1 h2
  subst hk
  rw[show ((0:Int) != 0)=false by decide,br_f,qdr hX]
  simp only[qcz,qc9]
  rw[hkey V,qc]
  simp only[hmade,hmany]
  have hq:=heq [keyF V r.1 0] (by simp)
  simp[br,bned,qd,hq,h1,h2]
theorem qbiv (hn:W+7≤n) {r:qbn} (hr:RightR r) {o:Op3} (ho:opOk o=true) {code:Int} {list:List Int} (h:Out r o code list):qu2 (DD X n) r o (code,list,())=some ((q4r r o code,()),()):=by
 obtain ⟨n,rfl⟩:∃ k,n=k+1:=⟨n - 1,by omega⟩
 have hW:=qci
 have hl:=hr.len
 have hkd:=qtt ho
 have hal:=q7j hX (n:=n) (by omega) hr ho h
 have hcp:=qbdu hX (n:=n) (by omega) hr
 obtain ⟨k,K,V,⟨⟩⟩:=o
 dsimp only at hkd
 rw[q9b hX]
 simp only[qvo,q0f]
 rw[hcp,qc,hal,qc]
 dsimp only
 rw[Bool.not_true,cond_false]
 unfold q4r
 by_cases hc:code=0
 ·subst hc
  rw[show ((0:Int) != 0)=false by decide,br_f,if_neg (by omega)]
  dsimp only
  by_cases k1:k=1
  ·rw[qk k1,qk k1,ixn (by omega) (by omega),br_t,if_pos (.inl k1)]
  rw[qh k1]
  by_cases k2:k=2
  ·rw[qk k2,ixn (by omega) (by omega),br_t,if_pos (.inr k2)]
  rw[qh k2,if_neg (by omega)]
  by_cases k3:k=3
  ·rw[qk k3,ixn (by omega) (by omega),br_t,if_pos k3]
  rw[qh k3,if_neg k3]
  by_cases k8:k=8
  ·rw[qk k8,qk k8,if_pos (.inl k8)]
  rw[qh k8]
  by_cases k9:k=9
  ·rw[qk k9,if_pos (.inr k9)]
  rw[qh k9,if_neg (by omega)]
 ·rw[show (code != 0)=true by rw[bned,decide_eq_false hc];rfl,br_t,if_pos hc]
end
end Go.G


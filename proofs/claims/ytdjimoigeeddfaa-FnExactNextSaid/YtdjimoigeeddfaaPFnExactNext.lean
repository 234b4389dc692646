/- The row FnExactNext holds: for all arguments the law returns true and the arguments read as before. No condition. -/
import Derived.Test.YtdjimoigeeddfaaAPFnExactNext0
set_option linter.unusedVariables false
set_option linter.unusedSimpArgs false
set_option linter.unusedSectionVars false
namespace Go.G
open Go Go.V
theorem br_t {R:Type} {a b:Option R}:br true a b=a:=rfl
theorem br_f {R:Type} {a b:Option R}:br false a b=b:=rfl
theorem qbj {R:Type} {a b:Option R} {p:Prop} [Decidable p] (h:p):br (decide p) a b=a:=by simp[br,h]
theorem ql {R:Type} {a b:Option R} {p:Prop} [Decidable p] (h:¬ p):br (decide p) a b=b:=by simp[br,h]
theorem qf {α R:Type} {a:α} {f:α→Option R}:qc (some a) f=f a:=rfl
theorem qx8 (x:Int):IntKind.wrap IntKind.i64 x=if x % 18446744073709551616≥9223372036854775808 then x % 18446744073709551616 - 18446744073709551616 else x % 18446744073709551616:=by
 by_cases h:x % 18446744073709551616≥9223372036854775808<;>simp[IntKind.wrap,IntKind.signed,IntKind.bits,h]
theorem qov {x:Int} (h1 : -9223372036854775808≤x) (h2:x≤9223372036854775807):IntKind.wrap IntKind.i64 x=x:=by
 rw[qx8]
 split<;>omega
def W:Nat:=9223372036854775808
theorem qm1:W=9223372036854775808:=rfl
theorem qhr:maxLen=9223372036854775807:=rfl
theorem qnw:qdg=274877906944:=rfl
theorem ix {α:Type} {l:List α} {i:Nat} (h:i<l.length):(decide (0≤(i:Int))&&decide ((i:Int)<(l.length:Int)))=true:=by
 simp only[Bool.and_eq_true,decide_eq_true_eq];omega
theorem qg0 {i:Nat} (h:i<9223372036854775807):IntKind.wrap IntKind.i64 ((i:Int)+1)=((i+1:Nat):Int):=by
 rw[qov]<;>omega
theorem qme {α:Type} {l:List α} {i:Nat} {d:α} (h:i<l.length):l.getD i d=l[i]:=by
 simp[List.getD,h]
theorem qk8 {α:Type} {l:List α} {i:Nat} (h:i<l.length):l.drop i=l[i]::l.drop (i+1):=List.drop_eq_getElem_cons h
theorem qmx {α:Type} {l:List α} {i:Nat} (h:¬ i<l.length):l.drop i=[]:=List.drop_eq_nil_of_le (by omega)
def tot:(t:Ty)→t.den→Nat
 | .unit,_=>0
 | .int _,_=>0
 | .bool,_=>0
 | .str,s=>s.size
 | .sl t,xs=>xs.length+(xs.map (tot t)).sum
 | .pair a b,x=>tot a x.1+tot b x.2
def left (t:Ty) (a:t.den) (k:Int):Int:=if (tot t a:Int)≤k then k - tot t a else -1
end Go.G

namespace Go.G
open Go Go.V
theorem qzb {α:Type} {l:List α} {i:Nat} {x:α} (h:i<l.length):(l.set i x).take (i+1)=l.take i++[x]:=by
 rw[List.take_add_one,List.take_set_of_le (Nat.le_refl _)]
 simp[List.getElem?_set,h]
theorem q00 {a:Nat} (h:a≤qdg):(decide (0≤(a:Int))&&decide ((a:Int)≤(a:Int))&&decide ((a:Int)≤((qdg:Nat):Int)))=true:=by
 simp only[Bool.and_eq_true,decide_eq_true_eq];omega
end Go.G

namespace Go.G
set_option maxRecDepth 100000
open Go Go.V Go.Proofs
abbrev Pair:=Int×Int×Unit
abbrev Got:=List Pair
abbrev Op3:=Int×Int×Int×Unit
abbrev qbm:=Got×List Int×Int×Bool×Unit
abbrev Work:=Got×Int×Bool×Unit
def inR (x a b:Int):Bool:=bif decide (x≥a) then decide (x≤b) else false
theorem qb2 {x a b:Int}:inR x a b=true↔a≤x∧x≤b:=by
 unfold inR
 by_cases h:x≥a
 ·rw[decide_eq_true h];simp only[cond_true,decide_eq_true_eq];omega
 ·rw[decide_eq_false h];simp only[cond_false];constructor
  ·intro k;cases k
  ·intro k;omega
theorem qd8 {x a b:Int} (h:¬ (a≤x∧x≤b)):inR x a b=false:=by
 cases k:inR x a b
 ·rfl
 ·exact absurd (qb2.1 k) h
def qju (k:Int):Int:=bif inR k 0 3 then k else -1
def qg5 (v:Int):Int:=bif inR v 1 6 then IntKind.wrap IntKind.i64 (3+v) else -1
def qg3 (c:Int):Int:=bif inR c 0 2 then IntKind.wrap IntKind.i64 (10+c) else -1
def qgk (v:Int):Int:=bif inR v 1 6 then IntKind.wrap IntKind.i64 (13+v) else -1
def qfh (v:Int):Int:=bif inR v 1 6 then Int.tmod v 3 else -1
section
variable {X:Ext} (hX:XOk X) {n:Nat}
include hX
theorem qt7 (hn:1≤n) (x a b:Int):qgh (DD X n) x a b=some ((inR x a b,()),()):=by
 obtain ⟨n,rfl⟩:∃ k,n=k+1:=⟨n - 1,by omega⟩
 rw[qwc hX];rfl
theorem qmi (hn:1≤n) (x a b:Int):qcn (DD X n) x a b=some ((inR x a b,()),()):=by
 obtain ⟨n,rfl⟩:∃ k,n=k+1:=⟨n - 1,by omega⟩
 rw[qwo hX];rfl
theorem qnc (hn:1≤n) (b:Bool) (x:Int):qd4 (DD X n) b x=some ((bif b then x else -1,()),()):=by
 obtain ⟨n,rfl⟩:∃ k,n=k+1:=⟨n - 1,by omega⟩
 rw[qtm hX]
 cases b<;>rfl
theorem qsx (hn:2≤n) (x:Int):qcs (DD X n) x=some ((inR x 0 3,()),()):=by
 obtain ⟨n,rfl⟩:∃ k,n=k+1:=⟨n - 1,by omega⟩
 rw[qvs hX]
 simp only[qk0,qnz]
 rw[qt7 hX (by omega),qf]
theorem qjd (hn:2≤n) (x:Int):q0 (DD X n) x=some ((inR x 1 6,()),()):=by
 obtain ⟨n,rfl⟩:∃ k,n=k+1:=⟨n - 1,by omega⟩
 rw[qud hX]
 simp only[qkm,qn1]
 rw[qt7 hX (by omega),qf]
theorem qvj (hn:2≤n) (x:Int):qbo (DD X n) x=some ((inR x 0 2,()),()):=by
 obtain ⟨n,rfl⟩:∃ k,n=k+1:=⟨n - 1,by omega⟩
 rw[qsk hX]
 simp only[qiv,qmn]
 rw[qt7 hX (by omega),qf]
theorem qs9 (hn:2≤n) (x:Int):qho (DD X n) x=some ((inR x 0 3,()),()):=by
 obtain ⟨n,rfl⟩:∃ k,n=k+1:=⟨n - 1,by omega⟩
 rw[qvh hX]
 simp only[qkb,qoa]
 rw[qmi hX (by omega),qf]
theorem qlj (hn:2≤n) (x:Int):qcp (DD X n) x=some ((inR x 1 6,()),()):=by
 obtain ⟨n,rfl⟩:∃ k,n=k+1:=⟨n - 1,by omega⟩
 rw[quh hX]
 simp only[qkv,qop]
 rw[qmi hX (by omega),qf]
theorem q0n (hn:2≤n) (x:Int):qk5 (DD X n) x=some ((inR x 1 4,()),()):=by
 obtain ⟨n,rfl⟩:∃ k,n=k+1:=⟨n - 1,by omega⟩
 rw[qui hX]
 simp only[qkg,qn2]
 rw[qmi hX (by omega),qf]
theorem q0s (hn:1≤n) (x:Int):qew (DD X n) x=some ((bif bif bif decide (x=1) then true else decide (x=2) then true else decide (x=5) then true else decide (x=10),()),()):=by
 obtain ⟨n,rfl⟩:∃ k,n=k+1:=⟨n - 1,by omega⟩
 rw[qt6 hX];rfl
theorem qgc (hn:1≤n):qbe (DD X n)=some ((13,()),()):=by
 obtain ⟨n,rfl⟩:∃ k,n=k+1:=⟨n - 1,by omega⟩
 rw[qrn hX];rfl
theorem qge (hn:1≤n):qc0 (DD X n)=some ((13,()),()):=by
 obtain ⟨n,rfl⟩:∃ k,n=k+1:=⟨n - 1,by omega⟩
 rw[qsj hX];rfl
theorem qgz (hn:3≤n) (x:Int):qb3 (DD X n) x=some ((qju x,()),()):=by
 obtain ⟨n,rfl⟩:∃ k,n=k+1:=⟨n - 1,by omega⟩
 rw[quf hX]
 simp only[qkd,qon]
 rw[qsx hX (by omega),qf,qnc hX (by omega),qf]
 rfl
theorem qiz (hn:3≤n) (x:Int):qb6 (DD X n) x=some ((qg5 x,()),()):=by
 obtain ⟨n,rfl⟩:∃ k,n=k+1:=⟨n - 1,by omega⟩
 rw[qrl hX]
 simp only[qhz,qmh]
 rw[qjd hX (by omega),qf,qnc hX (by omega),qf]
 rfl
theorem qi3 (hn:3≤n) (x:Int):qb5 (DD X n) x=some ((qg3 x,()),()):=by
 obtain ⟨n,rfl⟩:∃ k,n=k+1:=⟨n - 1,by omega⟩
 rw[qro hX]
 simp only[qhs,qmd]
 rw[qvj hX (by omega),qf,qnc hX (by omega),qf]
 rfl
theorem qlc (hn:3≤n) (x:Int):qcd (DD X n) x=some ((qgk x,()),()):=by
 obtain ⟨n,rfl⟩:∃ k,n=k+1:=⟨n - 1,by omega⟩
 rw[qt8 hX]
 simp only[qkz,qnx]
 rw[qjd hX (by omega),qf,qgc hX (by omega),qf,qnc hX (by omega),qf]
 rfl
theorem qlu (hn:3≤n) (x:Int):qch (DD X n) x=some ((qfh x,()),()):=by
 obtain ⟨n,rfl⟩:∃ k,n=k+1:=⟨n - 1,by omega⟩
 rw[qrs hX]
 simp only[qh7,ql9]
 rw[qjd hX (by omega),qf]
 unfold qfh
 cases inR x 1 6<;>rfl
theorem qg1 (hn:3≤n) (x:Int):qc8 (DD X n) x=some ((qju x,()),()):=by
 obtain ⟨n,rfl⟩:∃ k,n=k+1:=⟨n - 1,by omega⟩
 rw[quj hX]
 simp only[qkx,qod]
 rw[qs9 hX (by omega),qf]
 unfold qju
 cases inR x 0 3<;>rfl
theorem qix (hn:3≤n) (x:Int):qcz (DD X n) x=some ((qg5 x,()),()):=by
 obtain ⟨n,rfl⟩:∃ k,n=k+1:=⟨n - 1,by omega⟩
 rw[qrt hX]
 simp only[qhy,qml]
 rw[qlj hX (by omega),qf]
 unfold qg5
 cases inR x 1 6<;>rfl
theorem qi4 (hn:3≤n) (x:Int):qc1 (DD X n) x=some ((qg3 x,()),()):=by
 obtain ⟨n,rfl⟩:∃ k,n=k+1:=⟨n - 1,by omega⟩
 rw[qrq hX]
 simp only[qiq,qmg]
 rw[qmi hX (by omega),qf]
 unfold qg3
 cases inR x 0 2<;>rfl
theorem qn0 (hn:3≤n) (x:Int):qfu (DD X n) x=some ((qgk x,()),()):=by
 obtain ⟨n,rfl⟩:∃ k,n=k+1:=⟨n - 1,by omega⟩
 rw[quy hX]
 simp only[qk6,qn5]
 rw[qlj hX (by omega),qf,qge hX (by omega),qf]
 unfold qgk
 cases inR x 1 6<;>rfl
theorem qls (hn:3≤n) (x:Int):qcj (DD X n) x=some ((qfh x,()),()):=by
 obtain ⟨n,rfl⟩:∃ k,n=k+1:=⟨n - 1,by omega⟩
 rw[qr2 hX]
 simp only[qh4,qmj]
 rw[qlj hX (by omega),qf]
 unfold qfh
 cases inR x 1 6<;>rfl
end
def rd (at':Int):Got→Int→Bool→Int×Bool
 | [],n,ok=>(n,ok)
 | p::l,n,ok=>if p.1=at' then rd at' l p.2.1 true else rd at' l n ok
theorem qry (at':Int) (p:Pair):∀ (l:Got) (n:Int) (ok:Bool),rd at' (l++[p]) n ok=if p.1=at' then (p.2.1,true) else rd at' l n ok
 | [],n,ok=>by simp only[List.nil_append,rd]
 | q::l,n,ok=>by
  simp only[List.cons_append,rd]
  by_cases h:q.1=at'
  ·rw[if_pos h,if_pos h];exact qry at' p l _ _
  ·rw[if_neg h,if_neg h];exact qry at' p l _ _
def qhm (got:Got) (at':Int):Int×Bool:=rd at' got 0 false
theorem qnb (D:Den ctx) (n:Nat) (K:Int→Bool→Option ((Int×Bool×Unit)×Unit)) (got:Got) (hg:got.length≤1048576) (at':Int):∀ (m i:Nat) (v:Int) (ok:Bool),i≤got.length→got.length - i<m→
  qep D n K m got at' v ok (i:Int)=K (rd at' (got.drop i) v ok).1 (rd at' (got.drop i) v ok).2
 | 0,_,_,_,_,h=>by omega
 | m+1,i,v,ok,hi,hf=>by
  simp only[qep,qka]
  by_cases h:i<got.length
  ·rw[qbj (by exact_mod_cast h),ix h,br_t,br_t,Int.toNat_natCast,qg0 (by omega),qme h,qk8 h]
   simp only[rd]
   by_cases e:got[i].1=at'
   ·rw[qbj e,if_pos e];exact qnb D n K got hg at' m (i+1) _ _ (by omega) (by omega)
   ·rw[ql e,if_neg e];exact qnb D n K got hg at' m (i+1) _ _ (by omega) (by omega)
  ·rw[ql (by exact_mod_cast h),qmx h];rfl
theorem qqv (D:Den ctx) (n:Nat) (K0:Int→Bool→Option ((Int×Bool×Unit)×Unit)) (K1:Option ((Int×Bool×Unit)×Unit)) (hK:K0 0 false=K1) (got:Got) (hg:got.length≤1048576) (at':Int):∀ (m k:Nat),k≤got.length→k<m→
  qez D n K0 K1 m got at' ((k:Int) - 1)=K0 (qhm (got.take k) at').1 (qhm (got.take k) at').2
 | 0,_,_,h=>by omega
 | m+1,k,hk,hf=>by
  simp only[qez,qkf]
  cases k with
  | zero=>
   rw[ql (by omega),List.take_zero]
   exact hK.symm
  | succ j=>
   have hj:j<got.length:=by omega
   have e1:(((j+1:Nat):Int) - 1)=(j:Int):=by omega
   have e2:IntKind.wrap IntKind.i64 ((j:Int) - 1)=(j:Int) - 1:=qov (by omega) (by omega)
   rw[e1,qbj (by omega),ix hj,br_t,br_t,Int.toNat_natCast,e2,qme hj,List.take_succ_eq_append_getElem hj]
   unfold qhm
   rw[qry]
   by_cases e:got[j].1=at'
   ·rw[qbj e,if_pos e]
   ·rw[ql e,if_neg e]
    exact qqv D n K0 K1 hK got hg at' m j (by omega) (by omega)
theorem qf7 {X:Ext} (hX:XOk X) {n:Nat} (hn:W+1≤n) (got:Got) (hg:got.length≤1048576) (at':Int):qln (DD X n) got at'=some (((qhm got at').1,(qhm got at').2,()),()):=by
 obtain ⟨n,rfl⟩:∃ k,n=k+1:=⟨n - 1,by omega⟩
 have hW:=qm1
 rw[qv5 hX]
 simp only[qlw,qlo,qjl]
 have e:=qnb (DD X n) n (fun v0_0 v0_1=>qh5 (DD X n) n v0_0 v0_1) got hg at' n 0 0 false (Nat.zero_le _) (by omega)
 rw[show ((0:Nat):Int)=0 from rfl] at e
 rw[e];rfl
theorem qq6 {X:Ext} (hX:XOk X) {n:Nat} (hn:W+1≤n) (got:Got) (hg:got.length≤1048576) (at':Int):qlt (DD X n) got at'=some (((qhm got at').1,(qhm got at').2,()),()):=by
 obtain ⟨n,rfl⟩:∃ k,n=k+1:=⟨n - 1,by omega⟩
 have hW:=qm1
 rw[qvv hX]
 simp only[qll,ql1,qjo]
 rw[qov (by omega) (by omega),qqv (DD X n) n (fun v0_0 v0_1=>qib (DD X n) n v0_0 v0_1) (qiu (DD X n) n) rfl got hg at' n got.length (Nat.le_refl _) (by omega),List.take_length]
 rfl
end Go.G

namespace Go.G
set_option maxRecDepth 100000
open Go Go.V Go.Proofs
structure Both (got:Got) (a:qbm) (w:Work) (k:Nat):Prop where
 g1:a.1=got
 g2:w.1=got
 miss:a.2.2.1=w.2.1
 over:a.2.2.2.1=w.2.2.1
 pl:a.2.1.length≤k
section
variable {X:Ext} (hX:XOk X) {n:Nat} (hn:W+6≤n) {got:Got} (hg:got.length≤1048576)
include hX hn hg
theorem qbf {a:qbm} {w:Work} {k:Nat} (h:Both got a w k) (hk:k≤1000) (p:Int):∃ (v:Int) (a':qbm) (w':Work),qg (DD X n) a p=some ((v,()),(a',()))∧qm (DD X n) w p=some ((v,()),(w',()))∧Both got a' w' (k+1):=by
 obtain ⟨n,rfl⟩:∃ k,n=k+1:=⟨n - 1,by omega⟩
 have hb:=qnw
 obtain ⟨a1,a2,a3,a4,⟨⟩⟩:=a
 obtain ⟨w1,w2,w3,⟨⟩⟩:=w
 obtain ⟨g1,g2,hm,ho,hp⟩:=h
 dsimp only at g1 g2 hm ho hp
 subst g1;subst g2;subst hm;subst ho
 rw[qgp hX,qdw hX]
 simp only[qdp,qe8,qd2,qfd]
 cases a4
 ·rw[br_f,br_f,qq6 hX (by omega) w1 hg,qf,qf7 hX (by omega) w1 hg,qf]
  dsimp only
  by_cases h0:p<0
  ·rw[decide_eq_true h0]
   cases (qhm w1 p).2
   ·exact ⟨_,_,_,rfl,rfl,rfl,rfl,rfl,rfl,by show a2.length≤k+1;omega⟩
   ·exact ⟨_,_,_,rfl,rfl,rfl,rfl,rfl,rfl,by show a2.length≤k+1;omega⟩
  ·rw[decide_eq_false h0]
   cases (qhm w1 p).2
   ·exact ⟨_,_,_,rfl,rfl,rfl,rfl,rfl,rfl,by show a2.length≤k+1;omega⟩
   ·refine ⟨_,(w1,a2++[p],a3,false,()),(w1,a3,false,()),?_,rfl,rfl,rfl,rfl,rfl,by simp;exact hp⟩
    rw[Bool.not_true,cond_false,br_f,qbj (by omega)]
 ·exact ⟨_,_,_,rfl,rfl,rfl,rfl,rfl,rfl,by show a2.length≤k+1;omega⟩
theorem qe4 {a:qbm} {w:Work} {k:Nat} (h:Both got a w k) (b:Bool):∃ (a':qbm) (w':Work),qp (DD X n) a b=some ((),(a',()))∧qcm (DD X n) w b=some ((),(w',()))∧Both got a' w' k:=by
 obtain ⟨n,rfl⟩:∃ k,n=k+1:=⟨n - 1,by omega⟩
 obtain ⟨a1,a2,a3,a4,⟨⟩⟩:=a
 obtain ⟨w1,w2,w3,⟨⟩⟩:=w
 obtain ⟨g1,g2,hm,ho,hp⟩:=h
 dsimp only at g1 g2 hm ho hp
 subst g1;subst g2;subst hm;subst ho
 rw[qef hX,qpa hX]
 exact ⟨_,_,rfl,rfl,rfl,rfl,rfl,rfl,hp⟩
end
theorem qp3 {X:Ext} (hX:XOk X) {n:Nat} (hn:1≤n) {a:qbm} (h:a.2.2.2.1=true) (p:Int):qg (DD X n) a p=some ((0,()),(a,())):=by
 obtain ⟨n,rfl⟩:∃ k,n=k+1:=⟨n - 1,by omega⟩
 rw[qgp hX]
 simp only[qdp,qe8]
 rw[h,br_t]
theorem qve {X:Ext} (hX:XOk X) (N n:Nat) (hN:3≤N) (K:qbm→Option (Unit×qbm×Unit)) (l:List Int) (hl:l.length≤2) {a:qbm} (h:a.2.2.2.1=true):∀ (m i:Nat),l.length - i<m→
  qbu (DD X N) n K m l (l.length:Int) (i:Int) a=K a
 | 0,_,h=>by omega
 | m+1,i,hf=>by
  simp only[qbu,qen]
  by_cases hi:i<l.length
  ·rw[qbj (by exact_mod_cast hi),ix hi,br_t,Int.toNat_natCast,qlc hX (by omega),qf]
   dsimp only
   rw[qp3 hX (by omega) h,qf,qg0 (by omega)]
   exact qve hX N n hN K l hl h m (i+1) (by omega)
  ·rw[ql (by exact_mod_cast hi)]
theorem qt0 {X:Ext} (hX:XOk X) (N n:Nat) (hN:W+6≤N) {got:Got} (hg:got.length≤1048576) (KA:qbm→Option (Unit×qbm×Unit)) (KW:Work→Option (Unit×Work×Unit)) (c v:Int) (l:List Int) (hl:l.length≤2) (hv:v>IntKind.wrap IntKind.i64 (c+1)) :
  ∀ (m i k:Nat) (a:qbm) (w:Work),l.length - i<m→i≤l.length→k+(l.length - i)≤100→Both got a w k→∃ (a':qbm) (w':Work),qbu (DD X N) n KA m l (l.length:Int) (i:Int) a=KA a'∧qdf (DD X N) n KW m c l v (i:Int) w=KW w'∧Both got a' w' 1000
 | 0,_,_,_,_,h,_,_,_=>by omega
 | m+1,i,k,a,w,hf,hil,hk,h=>by
  simp only[qbu,qen,qdf,qgl]
  by_cases hi:i<l.length
  ·obtain ⟨x,a1,w1,e1,e2,h1⟩:=qbf hX (n:=N) hN hg h (by omega) (qgk (l.getD i 0))
   rw[qbj (by exact_mod_cast hi),ix hi,br_t,qbj (by exact_mod_cast hi),qbj hv,br_t,Int.toNat_natCast,qlc hX (by omega),qf,qn0 hX (by omega),qf]
   dsimp only
   rw[e1,qf,e2,qf,qg0 (by omega)]
   exact qt0 hX N n hN hg KA KW c v l hl hv m (i+1) (k+1) a1 w1 (by omega) (by omega) (by omega) h1
  ·rw[ql (by exact_mod_cast hi),ql (by exact_mod_cast hi)]
   exact ⟨a,w,rfl,rfl,h.g1,h.g2,h.miss,h.over,by have:=h.pl;omega⟩
theorem qtx {X:Ext} (hX:XOk X) {n:Nat} (hn:W+8≤n) {got:Got} (hg:got.length≤1048576) {a:qbm} {w:Work} {k:Nat} (h:Both got a w k) (hk:k≤50) (c:Int) (l:List Int) (hl:l.length≤2) :
  ∃ (a':qbm) (w':Work),qcy (DD X n) a c l=some ((),(a',()))∧qes (DD X n) w c l=some ((),(w',()))∧a'.2.2.1=w'.2.1:=by
 obtain ⟨n,rfl⟩:∃ k,n=k+1:=⟨n - 1,by omega⟩
 have hW:=qm1
 rw[qqa hX,quz hX]
 simp only[qgq,qgw,qfv,qk3,qku,qif]
 obtain ⟨v,a1,w1,e1,e2,h1⟩:=qbf hX (n:=n) (by omega) hg h (by omega) 13
 obtain ⟨a2,w2,e3,_,h2⟩:=qe4 hX (n:=n) (by omega) hg h1 (decide (v≤IntKind.wrap IntKind.i64 (c+1)))
 rw[qgc hX (by omega),qf,qge hX (by omega),qf]
 dsimp only
 rw[e1,qf,e2,qf]
 dsimp only
 rw[e3,qf]
 dsimp only
 by_cases hv:v>IntKind.wrap IntKind.i64 (c+1)
 ·have h2':Both got a2 w1 (k+1):=by
   obtain ⟨m,rfl⟩:∃ k,n=k+1:=⟨n - 1,by omega⟩
   rw[qef hX,decide_eq_false (show ¬ v≤_ by omega)] at e3
   simp only[qek,qga,Option.some.injEq,Prod.mk.injEq,true_and,and_true] at e3
   obtain ⟨q1,q2,q3,q4,q5⟩:=h1
   subst e3
   refine ⟨q1,q2,q3,?_,q5⟩
   show (bif a1.2.2.2.1 then true else false)=_
   rw[←q4];cases a1.2.2.2.1<;>rfl
  obtain ⟨a3,w3,r1,r2,r3⟩:=qt0 hX n n (by omega) hg (fun v0_0=>qdq (DD X n) n v0_0) (fun v0_0=>qha (DD X n) n v0_0) c v l hl hv n 0 (k+1) a2 w1 (by omega) (Nat.zero_le _) (by omega) h2'
  rw[show ((0:Nat):Int)=0 from rfl] at r1 r2
  exact ⟨a3,w3,r1,r2,r3.miss⟩
 ·have ho:a2.2.2.2.1=true∧a2.2.2.1=a1.2.2.1:=by
   obtain ⟨m,rfl⟩:∃ k,n=k+1:=⟨n - 1,by omega⟩
   rw[qef hX,decide_eq_true (show v≤_ by omega)] at e3
   simp only[qek,qga,Option.some.injEq,Prod.mk.injEq,true_and,and_true] at e3
   subst e3
   refine ⟨?_,rfl⟩
   show (bif a1.2.2.2.1 then true else true)=true
   cases a1.2.2.2.1<;>rfl
  have r1:=qve hX n n (by omega) (fun v0_0=>qdq (DD X n) n v0_0) l hl ho.1 n 0 (by omega)
  rw[show ((0:Nat):Int)=0 from rfl] at r1
  refine ⟨a2,w1,r1,?_,ho.2.trans h1.miss⟩
  obtain ⟨m,rfl⟩:∃ k,n=k+1:=⟨n - 1,by omega⟩
  simp only[qdf,qgl]
  by_cases h0:(0:Int)<(l.length:Int)
  ·rw[qbj h0,ql hv];rfl
  ·rw[ql h0];rfl
end Go.G

namespace Go.G
set_option maxRecDepth 100000
open Go Go.V Go.Proofs
section
variable {X:Ext} (hX:XOk X) {n:Nat} {got:Got} (hg:got.length≤1048576)
include hX hg
theorem q1l (hn:W+10≤n) {a:qbm} {w:Work} {k:Nat} (h:Both got a w k) (hk:k≤10) (o:Op3) (h1:o.1=1) :
  ∃ (a':qbm) (w':Work),qbv (DD X n) a o=some ((),(a',()))∧qkj (DD X n) w o=some ((),(w',()))∧a'.2.2.1=w'.2.1:=by
 obtain ⟨n,rfl⟩:∃ k,n=k+1:=⟨n - 1,by omega⟩
 obtain ⟨v1,a1,w1,e1,f1,b1⟩:=qbf hX (n:=n) (by omega) hg h (by omega) (qju o.2.1)
 obtain ⟨a2,w2,e2,f2,b2⟩:=qe4 hX (n:=n) (by omega) hg b1 (v1 != 0)
 obtain ⟨v3,a3,w3,e3,f3,b3⟩:=qbf hX (n:=n) (by omega) hg b2 (by omega) (qg5 o.2.2.1)
 obtain ⟨a4,w4,e4,f4,b4⟩:=qe4 hX (n:=n) (by omega) hg b3 (v3 != 0)
 obtain ⟨v5,a5,w5,e5,f5,b5⟩:=qbf hX (n:=n) (by omega) hg b4 (by omega) (qg3 (qfh o.2.2.1))
 obtain ⟨a6,w6,e6,f6,b6⟩:=qtx hX (n:=n) (by omega) hg b5 (by omega) o.2.1 [o.2.2.1] (by simp)
 rw[qfj hX,qu0 hX]
 simp only[qcx,qdt,qkn,qof]
 simp only[qgz hX (n:=n) (by omega),qg1 hX (n:=n) (by omega),qiz hX (n:=n) (by omega),qix hX (n:=n) (by omega),qlu hX (n:=n) (by omega),qls hX (n:=n) (by omega),qi3 hX (n:=n) (by omega),qi4 hX (n:=n) (by omega),qf,e1,f1,e2,f2,e3,f3,e4,f4,e5,f5,e6,f6,qbj h1]
 exact ⟨a6,w6,rfl,rfl,b6⟩
theorem q1m (hn:W+10≤n) {a:qbm} {w:Work} {k:Nat} (h:Both got a w k) (hk:k≤10) (o:Op3) (h1:¬ o.1=1) (h2:o.1=2) :
  ∃ (a':qbm) (w':Work),qbv (DD X n) a o=some ((),(a',()))∧qkw (DD X n) w o=some ((),(w',()))∧a'.2.2.1=w'.2.1:=by
 obtain ⟨n,rfl⟩:∃ k,n=k+1:=⟨n - 1,by omega⟩
 obtain ⟨v1,a1,w1,e1,f1,b1⟩:=qbf hX (n:=n) (by omega) hg h (by omega) (qju o.2.1)
 obtain ⟨a2,w2,e2,f2,b2⟩:=qe4 hX (n:=n) (by omega) hg b1 (bif decide (v1=0) then true else decide (v1=o.2.2.1))
 obtain ⟨v3,a3,w3,e3,f3,b3⟩:=qbf hX (n:=n) (by omega) hg b2 (by omega) (qg5 o.2.2.1)
 obtain ⟨a4,w4,e4,f4,b4⟩:=qe4 hX (n:=n) (by omega) hg b3 (v3 != 0)
 obtain ⟨v5,a5,w5,e5,f5,b5⟩:=qbf hX (n:=n) (by omega) hg b4 (by omega) (qg5 v1)
 obtain ⟨v6,a6,w6,e6,f6,b6⟩:=qbf hX (n:=n) (by omega) hg b5 (by omega) (qg3 (qfh v1))
 obtain ⟨v7,a7,w7,e7,f7,b7⟩:=qbf hX (n:=n) (by omega) hg b6 (by omega) (qg3 (qfh o.2.2.1))
 obtain ⟨a8,w8,e8,f8,b8⟩:=qtx hX (n:=n) (by omega) hg b7 (by omega) o.2.1 [v1,o.2.2.1] (by simp)
 obtain ⟨a9,w9,e9,f9,b9⟩:=qtx hX (n:=n) (by omega) hg b5 (by omega) o.2.1 [v1,o.2.2.1] (by simp)
 rw[qfj hX,qu5 hX]
 simp only[qcx,qdt,qk2,qoc]
 simp only[qgz hX (n:=n) (by omega),qg1 hX (n:=n) (by omega),qiz hX (n:=n) (by omega),qix hX (n:=n) (by omega),qlu hX (n:=n) (by omega),qls hX (n:=n) (by omega),qi3 hX (n:=n) (by omega),qi4 hX (n:=n) (by omega),qf,e1,f1,e2,f2,e3,f3,e4,f4,e5,f5,ql h1,qbj h2]
 cases hc:(qfh v1 != qfh o.2.2.1)
 ·simp only[br_f,e9,f9,qf]
  exact ⟨a9,w9,rfl,rfl,b9⟩
 ·simp only[br_t,e6,f6,e7,f7,e8,f8,qf]
  exact ⟨a8,w8,rfl,rfl,b8⟩
theorem q1p (hn:W+10≤n) {a:qbm} {w:Work} {k:Nat} (h:Both got a w k) (hk:k≤10) (o:Op3) (h1:¬ o.1=1) (h2:¬ o.1=2) :
  ∃ (a':qbm) (w':Work),qbv (DD X n) a o=some ((),(a',()))∧qkp (DD X n) w o=some ((),(w',()))∧a'.2.2.1=w'.2.1:=by
 obtain ⟨n,rfl⟩:∃ k,n=k+1:=⟨n - 1,by omega⟩
 obtain ⟨v1,a1,w1,e1,f1,b1⟩:=qbf hX (n:=n) (by omega) hg h (by omega) (qju o.2.1)
 obtain ⟨a2,w2,e2,f2,b2⟩:=qe4 hX (n:=n) (by omega) hg b1 (decide (v1=0))
 obtain ⟨v3,a3,w3,e3,f3,b3⟩:=qbf hX (n:=n) (by omega) hg b2 (by omega) (qg5 v1)
 obtain ⟨v5,a5,w5,e5,f5,b5⟩:=qbf hX (n:=n) (by omega) hg b3 (by omega) (qg3 (qfh v1))
 obtain ⟨a6,w6,e6,f6,b6⟩:=qtx hX (n:=n) (by omega) hg b5 (by omega) o.2.1 [v1] (by simp)
 rw[qfj hX,qus hX]
 simp only[qcx,qdt,qk4,qnu]
 simp only[qgz hX (n:=n) (by omega),qg1 hX (n:=n) (by omega),qiz hX (n:=n) (by omega),qix hX (n:=n) (by omega),qlu hX (n:=n) (by omega),qls hX (n:=n) (by omega),qi3 hX (n:=n) (by omega),qi4 hX (n:=n) (by omega),qf,e1,f1,e2,f2,e3,f3,e5,f5,e6,f6,ql h1,ql h2]
 exact ⟨a6,w6,rfl,rfl,b6⟩
theorem qst (N n:Nat) (hN:W+6≤N) (KA:qbm→Option ((qbm×Unit)×Unit)) (KW:Work→Option ((Work×Unit)×Unit)):∀ (m i k:Nat) (a:qbm) (w:Work),4 - i<m→i≤4→k≤i→Both got a w k→∃ (a':qbm) (w':Work),
  qdx (DD X N) n KA m (i:Int) a=KA a'∧qdz (DD X N) n KW m (i:Int) w=KW w'∧a'.2.2.1=w'.2.1
 | 0,_,_,_,_,h,_,_,_=>by omega
 | m+1,i,k,a,w,hf,hi,hk,h=>by
  simp only[qdx,qjr,qdz,qjq]
  by_cases h4:(i:Int)<4
  ·obtain ⟨v,a1,w1,e1,f1,b1⟩:=qbf hX (n:=N) hN hg h (by omega) (qju (i:Int))
   rw[qbj h4,qbj h4,qgz hX (by omega),qf,qg1 hX (by omega),qf]
   dsimp only
   rw[e1,qf,f1,qf,qg0 (by omega)]
   exact qst N n hN KA KW m (i+1) (k+1) a1 w1 (by omega) (by omega) (by omega) b1
  ·rw[ql h4,ql h4]
   exact ⟨a,w,rfl,rfl,h.miss⟩
end
theorem qss {X:Ext} (hX:XOk X) {n:Nat} (hn:1≤n) (a:qbm) (b:Bool):∃ a',qp (DD X n) a b=some ((),(a',()))∧a'.2.2.1=a.2.2.1∧(b=true→a'.2.2.2.1=true)∧(b=false→a'=a):=by
 obtain ⟨n,rfl⟩:∃ k,n=k+1:=⟨n - 1,by omega⟩
 obtain ⟨a1,a2,a3,a4,⟨⟩⟩:=a
 rw[qef hX]
 refine ⟨_,rfl,rfl,fun h=>?_,fun h=>?_⟩
 ·subst h;cases a4<;>rfl
 ·subst h;cases a4<;>rfl
theorem qsq {X:Ext} (hX:XOk X) {n:Nat} (hn:W+6≤n) {a a':qbm} (hg:a.1.length≤1048576) {p v:Int} (h:qg (DD X n) a p=some ((v,()),(a',()))) :
  (a'.2.2.2.1=true→v=0)∧(a'.2.2.2.1=false→a'.2.2.1=a.2.2.1∧a.2.2.2.1=false):=by
 obtain ⟨n,rfl⟩:∃ k,n=k+1:=⟨n - 1,by omega⟩
 obtain ⟨a1,a2,a3,a4,⟨⟩⟩:=a
 dsimp only at hg
 rw[qgp hX] at h
 simp only[qdp,qe8] at h
 cases a4
 ·rw[br_f,qq6 hX (by omega) a1 hg,qf] at h
  dsimp only at h
  cases hc:(bif decide (p<0) then true else !(qhm a1 p).2)
  ·rw[hc,br_f] at h
   by_cases hb:a2.length+1≤qdg
   ·rw[qbj hb] at h
    simp only[Option.some.injEq,Prod.mk.injEq,and_true] at h
    obtain ⟨_,h⟩:=h
    subst h
    exact ⟨(fun k=>nomatch k),fun _=>⟨rfl,rfl⟩⟩
   ·rw[ql hb] at h;cases h
  ·rw[hc,br_t] at h
   simp only[Option.some.injEq,Prod.mk.injEq,and_true] at h
   obtain ⟨h1,h⟩:=h
   subst h
   exact ⟨fun _=>h1.symm,fun k=>nomatch k⟩
 ·rw[br_t] at h
  simp only[Option.some.injEq,Prod.mk.injEq,and_true] at h
  obtain ⟨h1,h⟩:=h
  subst h
  exact ⟨fun _=>h1.symm,fun k=>nomatch k⟩
section
variable {X:Ext} (hX:XOk X) {n:Nat} {got:Got} (hg:got.length≤1048576)
include hX hg
theorem qzj (hn:W+8≤n) {a:qbm} {w:Work} {k:Nat} (h:Both got a w k) (hk:k≤20) (v:Int) (hz:a.2.2.2.1=true→v=0) (hmi:a.2.2.2.1=false→a.2.2.1 = -1) :
  ∃ (a1 a2:qbm) (x:Int) (w':Work),qp (DD X n) a (!inR v 1 6)=some ((),(a1,()))∧qg (DD X n) a1 (qgk v)=some ((x,()),(a2,()))∧
   (if v=0 then w'=w else ∃ y:Int,qm (DD X n) w (qgk v)=some ((y,()),(w',())))∧a2.2.2.1=w'.2.1:=by
 obtain ⟨a1,e1,m1,o1,s1⟩:=qss hX (n:=n) (by omega) a (!inR v 1 6)
 cases hv:inR v 1 6
 ·rw[hv] at e1 o1 s1
  have ho:=o1 rfl
  refine ⟨a1,a1,0,?_⟩
  by_cases h0:v=0
  ·exact ⟨w,e1,qp3 hX (by omega) ho _,by rw[if_pos h0],m1.trans h.miss⟩
  ·have hov:a.2.2.2.1=false:=by
    cases q:a.2.2.2.1
    ·rfl
    ·exact absurd (hz q) h0
   have hvia:qgk v = -1:=by unfold qgk;rw[hv];rfl
   obtain ⟨n,rfl⟩:∃ k,n=k+1:=⟨n - 1,by omega⟩
   obtain ⟨w1,w2,w3,⟨⟩⟩:=w
   obtain ⟨g1,g2,hm,hoo,hp⟩:=h
   dsimp only at g2 hm hoo
   rw[hov] at hoo
   subst hoo
   refine ⟨(w1,-1,true,()),e1,qp3 hX (by omega) ho _,?_,m1.trans (hmi hov)⟩
   rw[if_neg h0,hvia,qdw hX]
   simp only[qd2,qfd]
   rw[br_f,qf7 hX (by omega) w1 (by rw[g2];exact hg),qf]
   refine ⟨0,?_⟩
   dsimp only
   rw[decide_eq_true (show (-1:Int)<0 by decide)]
   cases (qhm w1 (-1)).2<;>rfl
 ·rw[hv] at e1 o1 s1
  obtain rfl:=s1 rfl
  obtain ⟨x,a2,w2,e2,f2,b2⟩:=qbf hX (n:=n) (by omega) hg h (by omega) (qgk v)
  have h0:¬ v=0:=by
   have:=qb2.1 hv
   omega
  exact ⟨a1,a2,x,w2,e1,e2,by rw[if_neg h0];exact ⟨x,f2⟩,b2.miss⟩
end
end Go.G

namespace Go.G
set_option maxRecDepth 100000
open Go Go.V Go.Proofs
theorem q1e (v:Int):(bif decide (v<1) then true else decide (v>4))=!inR v 1 4:=by
 by_cases h:v<1
 ·rw[decide_eq_true h,qd8 (by omega)];rfl
 ·by_cases h4:v>4
  ·rw[decide_eq_false h,decide_eq_true h4,qd8 (by omega)];rfl
  ·rw[decide_eq_false h,decide_eq_false h4,qb2.2 (by omega)];rfl
theorem q0u {X:Ext} (hX:XOk X) {n:Nat} (hn:W+12≤n) (got:Got) (hg:got.length≤1048576) (o:Op3) :
  ∃ (a':qbm) (w':Work),qkt (DD X n) o got=some ((a',()),())∧qky (DD X n) o got=some ((w',()),())∧a'.2.2.1=w'.2.1:=by
 obtain ⟨n,rfl⟩:∃ k,n=k+1:=⟨n - 1,by omega⟩
 have hW:=qm1
 have h0:Both got (got,[],-1,false,()) (got,-1,false,()) 0:=⟨rfl,rfl,rfl,rfl,Nat.le_refl _⟩
 rw[qva hX,qvc hX]
 simp only[qj5,qko,qii,qj7,qke,qh9]
 by_cases h1:o.1=1
 ·obtain ⟨a,w,e,f,b⟩:=q1l hX hg (n:=n) (by omega) h0 (by omega) o h1
  simp only[qbj h1,e,f,qf]
  exact ⟨a,w,rfl,rfl,b⟩
 by_cases h2:o.1=2
 ·obtain ⟨a,w,e,f,b⟩:=q1m hX hg (n:=n) (by omega) h0 (by omega) o h1 h2
  simp only[ql h1,qbj h2,e,f,qf]
  exact ⟨a,w,rfl,rfl,b⟩
 by_cases h3:o.1=3
 ·obtain ⟨a,w,e,f,b⟩:=q1p hX hg (n:=n) (by omega) h0 (by omega) o h1 h2
  simp only[ql h1,ql h2,qbj h3,e,f,qf]
  exact ⟨a,w,rfl,rfl,b⟩
 by_cases h4:o.1=4
 ·obtain ⟨v,a,w,e,f,b⟩:=qbf hX (n:=n) (by omega) hg h0 (by omega) (qju o.2.1)
  simp only[ql h1,ql h2,ql h3,qbj h4,qgz hX (n:=n) (by omega),qg1 hX (n:=n) (by omega),e,f,qf]
  exact ⟨a,w,rfl,rfl,b.miss⟩
 by_cases h5:o.1=5
 ·obtain ⟨v,a,w,e,f,b⟩:=qbf hX (n:=n) (by omega) hg h0 (by omega) (qg5 o.2.2.1)
  simp only[ql h1,ql h2,ql h3,ql h4,qbj h5,qiz hX (n:=n) (by omega),qix hX (n:=n) (by omega),e,f,qf]
  exact ⟨a,w,rfl,rfl,b.miss⟩
 by_cases h6:o.1=6
 ·obtain ⟨v,a,w,e,f,b⟩:=qbf hX (n:=n) (by omega) hg h0 (by omega) (qg3 o.2.1)
  simp only[ql h1,ql h2,ql h3,ql h4,ql h5,qbj h6,qi3 hX (n:=n) (by omega),qi4 hX (n:=n) (by omega),e,f,qf]
  exact ⟨a,w,rfl,rfl,b.miss⟩
 by_cases h7:o.1=7
 ·obtain ⟨a,w,e,f,b⟩:=qst hX hg n n (by omega) (fun v0_0=>qhd (DD X n) n v0_0) (fun v0_0=>qhp (DD X n) n v0_0) n 0 0 _ _ (by omega) (by omega) (Nat.le_refl _) h0
  rw[show ((0:Nat):Int)=0 from rfl] at e f
  simp only[ql h1,ql h2,ql h3,ql h4,ql h5,ql h6,qbj h7,e,f]
  exact ⟨a,w,rfl,rfl,b⟩
 by_cases h8:o.1=8
 ·obtain ⟨v,a,w,e,f,b⟩:=qbf hX (n:=n) (by omega) hg h0 (by omega) 13
  simp only[ql h1,ql h2,ql h3,ql h4,ql h5,ql h6,ql h7,qbj h8,qgc hX (n:=n) (by omega),qge hX (n:=n) (by omega),e,f,qf]
  exact ⟨a,w,rfl,rfl,b.miss⟩
 by_cases h9:o.1=9
 ·obtain ⟨v1,a1,w1,e1,f1,b1⟩:=qbf hX (n:=n) (by omega) hg h0 (by omega) 13
  obtain ⟨v1',a1',w1',e1',f1',b1'⟩:=qbf hX (n:=n - 1) (by omega) hg h0 (by omega) 13
  obtain ⟨m,rfl⟩:∃ k,n=k+1:=⟨n - 1,by omega⟩
  have mk:∃ (a':qbm) (w':Work),(qc (qbe (DD X (m+1))) fun b=>qc (qg (DD X (m+1)) (got,[],-1,false,()) b.1.1) fun b=>qc (qp (DD X (m+1)) b.2.1 (bif decide (b.1.1<1) then true else decide (b.1.1>4))) fun b_1=>qc (qb3 (DD X (m+1)) (IntKind.wrap IntKind.i64 (b.1.1 - 1))) fun b=>qc (qg (DD X (m+1)) b_1.2.1 b.1.1) fun b=>qc (q0 (DD X (m+1)) b.1.1) fun b_2=>qc (qp (DD X (m+1)) b.2.1 (!b_2.1.1)) fun b_3=>qc (qcd (DD X (m+1)) b.1.1) fun b=>qc (qg (DD X (m+1)) b_3.2.1 b.1.1) fun b=>some ((b.2.1,()),()))=some ((a',()),())∧
    qjs (DD X (m+1)) (got,-1,false,())=some ((),(w',()))∧a'.2.2.1=w'.2.1:=by
   rw[qtl hX]
   simp only[qjp,qnp]
   rw[qgc hX (by omega),qf,qge hX (by omega),qf]
   dsimp only
   have hstep:∀ {a:qbm} {w:Work} {k:Nat},Both got a w k→k≤100→∀ p:Int,∃ (v:Int) (a':qbm) (w':Work),qg (DD X (m+1)) a p=some ((v,()),(a',()))∧qm (DD X m) w p=some ((v,()),(w',()))∧Both got a' w' (k+1):=by
    intro a w k h hk p
    obtain ⟨v,a',w',e,f,b⟩:=qbf hX (n:=m+1) (by omega) hg h (by omega) p
    obtain ⟨v2,a2,w2,e2,f2,b2⟩:=qbf hX (n:=m) (by omega) hg h (by omega) p
    have q:qm (DD X (m+1)) w p=qm (DD X m) w p:=by
     obtain ⟨m,rfl⟩:∃ k,m=k+1:=⟨m - 1,by omega⟩
     rw[qdw hX,qdw hX]
     simp only[qd2,qfd]
     rw[qf7 hX (by omega) w.1 (by rw[h.g2];exact hg),qf7 hX (by omega) w.1 (by rw[h.g2];exact hg)]
    exact ⟨v,a',w',e,by rw[←q];exact f,b⟩
   obtain ⟨v1,a1,w1,e1,f1,b1⟩:=hstep h0 (by omega) 13
   have k1:=qsq hX (n:=m+1) (by omega) (a:=(got,[],-1,false,())) hg e1
   rw[e1,qf,f1,qf]
   dsimp only
   rw[q1e,qmi hX (by omega),qf]
   dsimp only
   obtain ⟨a2,w2,e2,f2,b2⟩:=qe4 hX (n:=m+1) (by omega) hg b1 (!inR v1 1 4)
   obtain ⟨a2',s1,s2,s3,s4⟩:=qss hX (n:=m+1) (by omega) a1 (!inR v1 1 4)
   rw[e2] at s1
   simp only[Option.some.injEq,Prod.mk.injEq,true_and,and_true] at s1
   subst s1
   have q2:qcm (DD X m) w1 (!inR v1 1 4)=some ((),(w2,())):=by
    obtain ⟨m,rfl⟩:∃ k,m=k+1:=⟨m - 1,by omega⟩
    rw[qpa hX] at f2 ⊢
    exact f2
   rw[e2,qf,q2,qf]
   dsimp only
   rw[qgz hX (by omega),qf,qg1 hX (by omega),qf]
   dsimp only
   obtain ⟨v3,a3,w3,e3,f3,b3⟩:=hstep b2 (by omega) (qju (IntKind.wrap IntKind.i64 (v1 - 1)))
   have k3:=qsq hX (n:=m+1) (by omega) (a:=a2) (by rw[b2.g1];exact hg) e3
   have hmi:a3.2.2.2.1=false→a3.2.2.1 = -1:=fun h=>by
    obtain ⟨r1,r2⟩:=k3.2 h
    have hb:(!inR v1 1 4)=false:=by
     cases q:(!inR v1 1 4)
     ·rfl
     ·have:=s3 q;rw[r2] at this;cases this
    have ea:=s4 hb
    subst ea
    exact r1.trans (k1.2 r2).1
   rw[e3,qf,f3,qf]
   dsimp only
   obtain ⟨a4,a5,x,w5,e4,e5,f5,hm⟩:=qzj hX hg (n:=m+1) (by omega) b3 (by omega) v3 k3.1 hmi
   rw[qjd hX (by omega),qf]
   dsimp only
   rw[e4,qf]
   dsimp only
   rw[qlc hX (by omega),qf]
   dsimp only
   rw[e5,qf]
   by_cases hv:v3=0
   ·rw[if_pos hv] at f5
    subst f5
    subst hv
    exact ⟨a5,_,rfl,rfl,hm⟩
   ·rw[if_neg hv] at f5
    obtain ⟨y,f5⟩:=f5
    have q:qm (DD X (m+1)) w3 (qgk v3)=qm (DD X m) w3 (qgk v3):=by
     obtain ⟨m,rfl⟩:∃ k,m=k+1:=⟨m - 1,by omega⟩
     rw[qdw hX,qdw hX]
     simp only[qd2,qfd]
     rw[qf7 hX (by omega) w3.1 (by rw[b3.g2];exact hg),qf7 hX (by omega) w3.1 (by rw[b3.g2];exact hg)]
    rw[q] at f5
    refine ⟨a5,w5,rfl,?_,hm⟩
    rw[bne_iff_ne.2 hv,br_t,qn0 hX (by omega),qf]
    dsimp only
    rw[f5,qf]
  obtain ⟨a,w,e,f,b⟩:=mk
  simp only[ql h1,ql h2,ql h3,ql h4,ql h5,ql h6,ql h7,ql h8,qbj h9]
  refine ⟨a,w,e,?_,b⟩
  rw[f,qf]
 by_cases h10:o.1=10
 ·obtain ⟨v1,a1,w1,e1,f1,b1⟩:=qbf hX (n:=n) (by omega) hg h0 (by omega) 13
  obtain ⟨a2,w2,e2,f2,b2⟩:=qe4 hX (n:=n) (by omega) hg b1 (v1 != 5)
  obtain ⟨v3,a3,w3,e3,f3,b3⟩:=qbf hX (n:=n) (by omega) hg b2 (by omega) (qgk o.2.2.1)
  simp only[ql h1,ql h2,ql h3,ql h4,ql h5,ql h6,ql h7,ql h8,ql h9,qbj h10,qgc hX (n:=n) (by omega),qge hX (n:=n) (by omega),qlc hX (n:=n) (by omega),qn0 hX (n:=n) (by omega),e1,f1,e2,f2,e3,f3,qf]
  exact ⟨a3,w3,rfl,rfl,b3.miss⟩
 ·simp only[ql h1,ql h2,ql h3,ql h4,ql h5,ql h6,ql h7,ql h8,ql h9,ql h10]
  exact ⟨_,_,rfl,rfl,rfl⟩
end Go.G

/- The row FnExactNext holds: for all arguments the law returns true and the arguments read as before. No condition. -/
namespace Go.G
set_option linter.unusedVariables false
set_option linter.unusedSimpArgs false
set_option maxRecDepth 100000
open Go Go.V Go.Proofs

theorem qwv (a b:Int):(a != b)=!decide (a=b):=by by_cases h:a=b<;>simp[h]
theorem qyz {X:Ext} (hX:XOk X) {n:Nat} (hn:1≤n) (a b:Pair):qgn (DD X n) a b=some ((decide (a=b),()),()):=by
 obtain ⟨n,rfl⟩:∃ k,n=k+1:=⟨n - 1,by omega⟩
 rw[qtg hX]
 obtain ⟨a1,a2,⟨⟩⟩:=a
 obtain ⟨b1,b2,⟨⟩⟩:=b
 simp only[qjm,qnl]
 rw[qwv,qwv]
 by_cases h1:a1=b1<;>by_cases h2:a2=b2<;>simp[h1,h2,br]
theorem qy1 {X:Ext} (hX:XOk X) {n:Nat} (hn:1≤n) (a:Pair):qgo (DD X n) a=some ((a,()),()):=by
 obtain ⟨n,rfl⟩:∃ k,n=k+1:=⟨n - 1,by omega⟩
 rw[qtp hX];rfl
theorem qsl (D:Den ctx) (n:Nat) (K0:Bool→Option ((Bool×Unit)×Unit)) (K1:Option ((Bool×Unit)×Unit)):∀ (m i:Nat) (a b:List Pair),(∀ x y,y∈b→qgn D x y=some ((decide (x=y),()),()))→
  a.length=b.length→a.length≤maxLen→i≤a.length→a.length - i<m→qdb D n K0 K1 m a b i=if a.drop i=b.drop i then K1 else K0 false
 | 0,_,_,_,_,_,_,_,h=>by omega
 | m+1,i,a,b,he,hl,hm,hi,hk=>by
  simp only[qdb,qhe]
  have hd:=qhr
  by_cases h:i<a.length
  ·rw[qbj (by exact_mod_cast h),ix h,br_t,ix (hl ▸ h),br_t,qg0 (by omega),Int.toNat_natCast,qme h,qme (hl ▸ h),he _ _ (List.getElem_mem _),qf,qk8 h,qk8 (hl ▸ h:i<b.length)]
   by_cases e:a[i]=b[i]'(hl ▸ h)
   ·simp only[e,decide_true,Bool.not_true,br_f,List.cons.injEq,true_and]
    exact qsl D n K0 K1 m (i+1) a b he hl hm (by omega) (by omega)
   ·simp only[e,decide_false,Bool.not_false,br_t,List.cons.injEq,false_and,if_false]
  ·rw[ql (by exact_mod_cast h),qmx h,qmx (hl ▸ h)];rfl
theorem qyf {X:Ext} (hX:XOk X) {n:Nat} (hn:W+3≤n) (a b:List Pair) (hb:b.length≤maxLen):qil (DD X n) a b=some ((decide (a=b),()),()):=by
 obtain ⟨n,rfl⟩:∃ k,n=k+1:=⟨n - 1,by omega⟩
 rw[qr1 hX]
 simp only[qht,qia,qgs]
 by_cases h:a.length=b.length
 ·have e:((a.length:Int) != (b.length:Int))=false:=by simp[h]
  rw[e,br_f]
  have:=qsl (DD X n) n (fun v=>qel (DD X n) n v) (qej (DD X n) n) n 0 a b (fun x y hy=>qyz hX (by omega) x y) h (by omega) (by omega) (by have:=qm1;have:=qhr;omega)
  rw[show ((0:Nat):Int)=0 from rfl] at this
  rw[this]
  simp only[List.drop_zero,qel,qej]
  by_cases h:a=b<;>simp[h]
 ·have e:((a.length:Int) != (b.length:Int))=true:=by simp;omega
  have:a≠b:=fun h2=>h (by rw[h2])
  rw[e,br_t];simp[this]

theorem qtb (D:Den ctx) (n:Nat) (K:List Pair→Option ((List Pair×Unit)×Unit)):∀ (m i:Nat) (a c:List Pair),(∀ x∈a,qgo D x=some ((x,()),()))→a.length=c.length→a.length≤maxLen→i≤a.length→a.length - i<m→
  qda D n K m a i c=K (c.take i++a.drop i)
 | 0,_,_,_,_,_,_,_,h=>by omega
 | m+1,i,a,c,he,hl,hm,hi,hk=>by
  simp only[qda,qhi]
  have hd:=qhr
  by_cases h:i<a.length
  ·rw[qbj (by exact_mod_cast h),ix h,br_t,Int.toNat_natCast,qme h,he _ (List.getElem_mem _),qf,ix (hl ▸ h),br_t,qg0 (by omega)]
   have e:=qtb D n K m (i+1) a (c.set i a[i]) he (by simp[hl]) hm (by omega) (by omega)
   rw[qk8 h]
   refine Eq.trans e ?_
   rw[qzb (hl ▸ h),List.append_assoc];rfl
  ·rw[ql (by exact_mod_cast h),qmx h,List.take_of_length_le (by omega),List.append_nil]
theorem qxv {X:Ext} (hX:XOk X) {n:Nat} (hn:W+3≤n) (a:List Pair) (ha:a.length≤qdg):qev (DD X n) a=some ((a,()),()):=by
 obtain ⟨n,rfl⟩:∃ k,n=k+1:=⟨n - 1,by omega⟩
 rw[qr7 hX]
 simp only[qit,qhu,qgv]
 rw[q00 ha,br_t]
 have h1:=qnw
 have:=qtb (DD X n) n (fun v=>qei (DD X n) n v) n 0 a (List.replicate (Int.toNat (a.length:Int)) (0,0,())) (fun x hx=>qy1 hX (by omega) x) (by simp) (by rw[qhr];omega) (by omega) (by have:=qm1;omega)
 rw[show ((0:Nat):Int)=0 from rfl] at this
 rw[this]
 simp only[List.take_zero,List.drop_zero,List.nil_append,qei]

theorem q1c {X:Ext} (hX:XOk X) {n:Nat} (hn:5≤n) (o:Op3):∃ b:Bool,qlm (DD X n) o=some ((b,()),())∧qlq (DD X n) o=some ((b,()),()):=by
 obtain ⟨n,rfl⟩:∃ k,n=k+1:=⟨n - 1,by omega⟩
 rw[qvu hX,qv9 hX]
 simp only[qlr,qpb,qly,qpi]
 simp only[qsx hX (n:=n) (by omega),qjd hX (n:=n) (by omega),qvj hX (n:=n) (by omega),qs9 hX (n:=n) (by omega),qlj hX (n:=n) (by omega),qmi hX (n:=n) (by omega),q0n hX (n:=n) (by omega),q0s hX (n:=n) (by omega),qf]
 by_cases h1:o.1=1
 ·simp only[decide_eq_false (show ¬ o.1=2 by omega),decide_eq_false (show ¬ o.1=3 by omega),decide_eq_false (show ¬ o.1=4 by omega),decide_eq_false (show ¬ o.1=5 by omega),decide_eq_false (show ¬ o.1=6 by omega),decide_eq_false (show ¬ o.1=7 by omega),decide_eq_false (show ¬ o.1=8 by omega),decide_eq_false (show ¬ o.1=9 by omega),decide_eq_false (show ¬ o.1=10 by omega),decide_eq_true h1,qb2.2 (show 1≤o.1∧o.1≤10 by omega),qb2.2 (show 1≤o.1∧o.1≤4 by omega),Bool.not_true,br_t,br_f,cond_true,cond_false]
  first | exact ⟨_,rfl,rfl⟩ | (cases inR o.2.1 0 3<;>exact ⟨_,rfl,rfl⟩) | (cases decide (o.2.1=0)<;>exact ⟨_,rfl,rfl⟩)
 by_cases h2:o.1=2
 ·simp only[decide_eq_false (show ¬ o.1=1 by omega),decide_eq_false (show ¬ o.1=3 by omega),decide_eq_false (show ¬ o.1=4 by omega),decide_eq_false (show ¬ o.1=5 by omega),decide_eq_false (show ¬ o.1=6 by omega),decide_eq_false (show ¬ o.1=7 by omega),decide_eq_false (show ¬ o.1=8 by omega),decide_eq_false (show ¬ o.1=9 by omega),decide_eq_false (show ¬ o.1=10 by omega),decide_eq_true h2,qb2.2 (show 1≤o.1∧o.1≤10 by omega),qb2.2 (show 1≤o.1∧o.1≤4 by omega),Bool.not_true,br_t,br_f,cond_true,cond_false]
  first | exact ⟨_,rfl,rfl⟩ | (cases inR o.2.1 0 3<;>exact ⟨_,rfl,rfl⟩) | (cases decide (o.2.1=0)<;>exact ⟨_,rfl,rfl⟩)
 by_cases h3:o.1=3
 ·simp only[decide_eq_false (show ¬ o.1=1 by omega),decide_eq_false (show ¬ o.1=2 by omega),decide_eq_false (show ¬ o.1=4 by omega),decide_eq_false (show ¬ o.1=5 by omega),decide_eq_false (show ¬ o.1=6 by omega),decide_eq_false (show ¬ o.1=7 by omega),decide_eq_false (show ¬ o.1=8 by omega),decide_eq_false (show ¬ o.1=9 by omega),decide_eq_false (show ¬ o.1=10 by omega),decide_eq_true h3,qb2.2 (show 1≤o.1∧o.1≤10 by omega),qb2.2 (show 1≤o.1∧o.1≤4 by omega),Bool.not_true,br_t,br_f,cond_true,cond_false]
  first | exact ⟨_,rfl,rfl⟩ | (cases inR o.2.1 0 3<;>exact ⟨_,rfl,rfl⟩) | (cases decide (o.2.1=0)<;>exact ⟨_,rfl,rfl⟩)
 by_cases h4:o.1=4
 ·simp only[decide_eq_false (show ¬ o.1=1 by omega),decide_eq_false (show ¬ o.1=2 by omega),decide_eq_false (show ¬ o.1=3 by omega),decide_eq_false (show ¬ o.1=5 by omega),decide_eq_false (show ¬ o.1=6 by omega),decide_eq_false (show ¬ o.1=7 by omega),decide_eq_false (show ¬ o.1=8 by omega),decide_eq_false (show ¬ o.1=9 by omega),decide_eq_false (show ¬ o.1=10 by omega),decide_eq_true h4,qb2.2 (show 1≤o.1∧o.1≤10 by omega),qb2.2 (show 1≤o.1∧o.1≤4 by omega),Bool.not_true,br_t,br_f,cond_true,cond_false]
  first | exact ⟨_,rfl,rfl⟩ | (cases inR o.2.1 0 3<;>exact ⟨_,rfl,rfl⟩) | (cases decide (o.2.1=0)<;>exact ⟨_,rfl,rfl⟩)
 by_cases h5:o.1=5
 ·simp only[decide_eq_false (show ¬ o.1=1 by omega),decide_eq_false (show ¬ o.1=2 by omega),decide_eq_false (show ¬ o.1=3 by omega),decide_eq_false (show ¬ o.1=4 by omega),decide_eq_false (show ¬ o.1=6 by omega),decide_eq_false (show ¬ o.1=7 by omega),decide_eq_false (show ¬ o.1=8 by omega),decide_eq_false (show ¬ o.1=9 by omega),decide_eq_false (show ¬ o.1=10 by omega),decide_eq_true h5,qb2.2 (show 1≤o.1∧o.1≤10 by omega),qd8 (show ¬ (1≤o.1∧o.1≤4) by omega),Bool.not_true,br_t,br_f,cond_true,cond_false]
  first | exact ⟨_,rfl,rfl⟩ | (cases inR o.2.1 0 3<;>exact ⟨_,rfl,rfl⟩) | (cases decide (o.2.1=0)<;>exact ⟨_,rfl,rfl⟩)
 by_cases h6:o.1=6
 ·simp only[decide_eq_false (show ¬ o.1=1 by omega),decide_eq_false (show ¬ o.1=2 by omega),decide_eq_false (show ¬ o.1=3 by omega),decide_eq_false (show ¬ o.1=4 by omega),decide_eq_false (show ¬ o.1=5 by omega),decide_eq_false (show ¬ o.1=7 by omega),decide_eq_false (show ¬ o.1=8 by omega),decide_eq_false (show ¬ o.1=9 by omega),decide_eq_false (show ¬ o.1=10 by omega),decide_eq_true h6,qb2.2 (show 1≤o.1∧o.1≤10 by omega),qd8 (show ¬ (1≤o.1∧o.1≤4) by omega),Bool.not_true,br_t,br_f,cond_true,cond_false]
  first | exact ⟨_,rfl,rfl⟩ | (cases inR o.2.1 0 3<;>exact ⟨_,rfl,rfl⟩) | (cases decide (o.2.1=0)<;>exact ⟨_,rfl,rfl⟩)
 by_cases h7:o.1=7
 ·simp only[decide_eq_false (show ¬ o.1=1 by omega),decide_eq_false (show ¬ o.1=2 by omega),decide_eq_false (show ¬ o.1=3 by omega),decide_eq_false (show ¬ o.1=4 by omega),decide_eq_false (show ¬ o.1=5 by omega),decide_eq_false (show ¬ o.1=6 by omega),decide_eq_false (show ¬ o.1=8 by omega),decide_eq_false (show ¬ o.1=9 by omega),decide_eq_false (show ¬ o.1=10 by omega),decide_eq_true h7,qb2.2 (show 1≤o.1∧o.1≤10 by omega),qd8 (show ¬ (1≤o.1∧o.1≤4) by omega),Bool.not_true,br_t,br_f,cond_true,cond_false]
  first | exact ⟨_,rfl,rfl⟩ | (cases inR o.2.1 0 3<;>exact ⟨_,rfl,rfl⟩) | (cases decide (o.2.1=0)<;>exact ⟨_,rfl,rfl⟩)
 by_cases h8:o.1=8
 ·simp only[decide_eq_false (show ¬ o.1=1 by omega),decide_eq_false (show ¬ o.1=2 by omega),decide_eq_false (show ¬ o.1=3 by omega),decide_eq_false (show ¬ o.1=4 by omega),decide_eq_false (show ¬ o.1=5 by omega),decide_eq_false (show ¬ o.1=6 by omega),decide_eq_false (show ¬ o.1=7 by omega),decide_eq_false (show ¬ o.1=9 by omega),decide_eq_false (show ¬ o.1=10 by omega),decide_eq_true h8,qb2.2 (show 1≤o.1∧o.1≤10 by omega),qd8 (show ¬ (1≤o.1∧o.1≤4) by omega),Bool.not_true,br_t,br_f,cond_true,cond_false]
  first | exact ⟨_,rfl,rfl⟩ | (cases inR o.2.1 0 3<;>exact ⟨_,rfl,rfl⟩) | (cases decide (o.2.1=0)<;>exact ⟨_,rfl,rfl⟩)
 by_cases h9:o.1=9
 ·simp only[decide_eq_false (show ¬ o.1=1 by omega),decide_eq_false (show ¬ o.1=2 by omega),decide_eq_false (show ¬ o.1=3 by omega),decide_eq_false (show ¬ o.1=4 by omega),decide_eq_false (show ¬ o.1=5 by omega),decide_eq_false (show ¬ o.1=6 by omega),decide_eq_false (show ¬ o.1=7 by omega),decide_eq_false (show ¬ o.1=8 by omega),decide_eq_false (show ¬ o.1=10 by omega),decide_eq_true h9,qb2.2 (show 1≤o.1∧o.1≤10 by omega),qd8 (show ¬ (1≤o.1∧o.1≤4) by omega),Bool.not_true,br_t,br_f,cond_true,cond_false]
  first | exact ⟨_,rfl,rfl⟩ | (cases inR o.2.1 0 3<;>exact ⟨_,rfl,rfl⟩) | (cases decide (o.2.1=0)<;>exact ⟨_,rfl,rfl⟩)
 by_cases h10:o.1=10
 ·simp only[decide_eq_false (show ¬ o.1=1 by omega),decide_eq_false (show ¬ o.1=2 by omega),decide_eq_false (show ¬ o.1=3 by omega),decide_eq_false (show ¬ o.1=4 by omega),decide_eq_false (show ¬ o.1=5 by omega),decide_eq_false (show ¬ o.1=6 by omega),decide_eq_false (show ¬ o.1=7 by omega),decide_eq_false (show ¬ o.1=8 by omega),decide_eq_false (show ¬ o.1=9 by omega),decide_eq_true h10,qb2.2 (show 1≤o.1∧o.1≤10 by omega),qd8 (show ¬ (1≤o.1∧o.1≤4) by omega),Bool.not_true,br_t,br_f,cond_true,cond_false]
  first | exact ⟨_,rfl,rfl⟩ | (cases inR o.2.1 0 3<;>exact ⟨_,rfl,rfl⟩) | (cases decide (o.2.1=0)<;>exact ⟨_,rfl,rfl⟩)
 ·simp only[decide_eq_false h1,decide_eq_false h2,decide_eq_false h3,decide_eq_false h4,decide_eq_false h5,decide_eq_false h6,decide_eq_false h7,decide_eq_false h8,decide_eq_false h9,decide_eq_false h10,qd8 (show ¬ (1≤o.1∧o.1≤10) by omega),Bool.not_false,br_t,br_f]
  exact ⟨_,rfl,rfl⟩
theorem qxn {X:Ext} (hX:XOk X) {n:Nat} (hn:W+13≤n) (got:Got) (hg:got.length≤1048576) (o:Op3):∃ x:Int,qlx (DD X n) o got=some ((x,()),())∧ql2 (DD X n) o got=some ((x,()),()):=by
 obtain ⟨n,rfl⟩:∃ k,n=k+1:=⟨n - 1,by omega⟩
 obtain ⟨b,e1,e2⟩:=q1c hX (n:=n) (by omega) o
 obtain ⟨a,w,e3,e4,h⟩:=q0u hX (n:=n) (by omega) got hg o
 rw[qv2 hX,qvw hX]
 simp only[ql3,qpn,qlk,qpc]
 rw[e1,qf,e2,qf]
 dsimp only
 cases b
 ·exact ⟨_,rfl,rfl⟩
 ·rw[Bool.not_true,br_f,br_f,e3,qf,e4,qf]
  refine ⟨_,rfl,?_⟩
  dsimp only
  rw[h]
theorem qqr (o:Op3) (got:Got) (hl:got.length≤maxLen):qjc (DD qqp (W+16)) o got=some ((true,()),()):=by
 have hX:=qzf
 have hd:=qhr
 have hb:=qnw
 have hW:=qm1
 rw[qoi hX]
 simp only[qfo,qji]
 have e0:qis (DD qqp (W+15)) got 1048576=some ((if (got.length:Int)≤1048576 then 1048576 - (got.length:Int) else -1,()),()):=by
  rw[show W+15=(W+14)+1 from rfl,qr8 hX]
  simp only[qh1,ql4]
  rw[qov (by omega) (by omega)]
  by_cases h:(got.length:Int)≤1048576
  ·rw[if_pos h,ql (by omega)]
  ·rw[if_neg h,qbj (by omega)]
 rw[e0,qf]
 dsimp only
 by_cases h:(got.length:Int)≤1048576
 ·rw[if_pos h,ql (by omega)]
  have hg:got.length≤1048576:=by omega
  have e1:qi1 (DD qqp (W+15)) o=some ((o,()),()):=by
   rw[show W+15=(W+14)+1 from rfl,qvx hX];rfl
  have e2:=qxv hX (n:=W+15) (by omega) got (by omega)
  obtain ⟨x,e3,e4⟩:=qxn hX (n:=W+15) (by omega) got hg o
  have e5:=qyf hX (n:=W+15) (by omega) got got (by omega)
  simp only[e1,e2,e3,e4,e5,qf,decide_true,Bool.not_true,br_f,bne_self_eq_false]
 ·rw[if_neg h,qbj (by omega)]
end Go.G
namespace Go.Proofs.Ytdjimoigeeddfaa
open Go.ChangeShapes Go.WideShapes Go.ChangeAt Go.RowKit Go.V Go.G
set_option maxRecDepth 100000
theorem fnExactNext_lifted (os:Os) (started:os.Started) (H:Type) (enc:TypeId×Value→H) :
  ReturnsInHanded {} Try.checked os 3 .any (Rows.fnExactNextSpec.pre6 enc Try.prog Try.f3 Rows.fnExactNextRow.domain false) (Rows.fnExactNextSpec.post enc Try.prog Try.f3 false true false false):=
 qyn (X:=qqp) (tb:=4) started Try.func3 (by kernel_rfl)
  (ChangeSpec.witness6 (enc:=enc) (C:=Try.checked) false ⟨#[],Try.f3.params.map fun t=>((Try.prog.info? t).bind (·.zero)).getD .nilIface,[]⟩ 8 (by kernel_rfl) (by kernel_rfl) (by kernel_rfl) (by kernel_rfl))
  ⟨rfl,rfl,rfl,rfl,trivial⟩ (by kernel_rfl) (by kernel_rfl) (by kernel_rfl) rfl
  (fun ds h=>by
   match ds,h with
   | [d0,d1],_=>exact ⟨rfl,rfl,rfl⟩)
  (fun a wa=>⟨W+16,((true,()),()),qqr a.1 a.2.1 wa.2.1.1,fun h Pr Gs us k=>by
   obtain ⟨v,vs,rfl,⟨c,r,rfl⟩,e⟩:=k
   obtain rfl:vs=[]:=e
   simp only[Rep] at r
   subst r
   rfl⟩)
theorem fnExactNext_holds:Rows.FnExactNextSaid:=
 OpenClaim.holds_of_wide 3 Try.f3 rfl rfl rfl rfl rfl rfl rfl ⟨rfl,rfl,rfl,rfl,rfl⟩ rfl rfl rfl rfl rfl (by kernel_rfl) Try.func3 (by kernel_rfl)
  (of_decide_eq_true (by kernel_rfl)) (by unfold Func.isWrapper;first | (rw[if_pos (by decide +kernel)];kernel_rfl) | (rw[if_neg (by decide +kernel)];exact ⟨rfl,rfl⟩))
  (fun os started H enc _=>fnExactNext_lifted os started H enc)
#print axioms fnExactNext_holds
end Go.Proofs.Ytdjimoigeeddfaa


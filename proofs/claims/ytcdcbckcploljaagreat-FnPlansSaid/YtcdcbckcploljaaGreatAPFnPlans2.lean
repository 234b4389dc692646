import Derived.Test.YtcdcbckcploljaaGreatAPFnPlans1
set_option linter.unusedVariables false
set_option linter.unusedSimpArgs false
set_option linter.unusedSectionVars false
namespace Go.G
open Go Go.V
theorem br_t {R:Type} {a b:Option R}:br true a b=a:=rfl
theorem br_f {R:Type} {a b:Option R}:br false a b=b:=rfl
theorem ql {R:Type} {a b:Option R} {p:Prop} [Decidable p] (h:p):br (decide p) a b=a:=by simp[br,h]
theorem qi {R:Type} {a b:Option R} {p:Prop} [Decidable p] (h:¬ p):br (decide p) a b=b:=by simp[br,h]
theorem qc {α R:Type} {a:α} {f:α→Option R}:qe (some a) f=f a:=rfl
theorem qbhr (x:Int):IntKind.wrap IntKind.i64 x=if x % 18446744073709551616≥9223372036854775808 then x % 18446744073709551616 - 18446744073709551616 else x % 18446744073709551616:=by
 by_cases h:x % 18446744073709551616≥9223372036854775808<;>simp[IntKind.wrap,IntKind.signed,IntKind.bits,h]
theorem qbl {x:Int} (h1 : -9223372036854775808≤x) (h2:x≤9223372036854775807):IntKind.wrap IntKind.i64 x=x:=by
 rw[qbhr]
 split<;>omega
def W:Nat:=9223372036854775808
theorem qca:W=9223372036854775808:=rfl
theorem qfw:qeq=274877906944:=rfl
theorem ix {α:Type} {l:List α} {i:Nat} (h:i<l.length):(decide (0≤(i:Int))&&decide ((i:Int)<(l.length:Int)))=true:=by
 simp only[Bool.and_eq_true,decide_eq_true_eq];omega
theorem ixn {α:Type} {l:List α} {i:Int} (h0:0≤i) (h:i<l.length):(decide (0≤i)&&decide (i<(l.length:Int)))=true:=by
 simp only[Bool.and_eq_true,decide_eq_true_eq];omega
theorem qbh {i:Nat} (h:i<9223372036854775807):IntKind.wrap IntKind.i64 ((i:Int)+1)=((i+1:Nat):Int):=by
 rw[qbl]<;>omega
theorem qc9 {α:Type} {l:List α} {i:Nat} {d:α} (h:i<l.length):l.getD i d=l[i]:=by
 simp[List.getD,h]
theorem qll {α:Type} {l:List α} {i:Nat} (h:i<l.length):l.drop i=l[i]::l.drop (i+1):=List.drop_eq_getElem_cons h
theorem qnw {α:Type} {l:List α} {i:Nat} (h:¬ i<l.length):l.drop i=[]:=List.drop_eq_nil_of_le (by omega)
def tot:(t:Ty)→t.den→Nat
 | .unit,_=>0
 | .int _,_=>0
 | .bool,_=>0
 | .str,s=>s.size
 | .sl t,xs=>xs.length+(xs.map (tot t)).sum
 | .pair a b,x=>tot a x.1+tot b x.2
def left (t:Ty) (a:t.den) (k:Int):Int:=if (tot t a:Int)≤k then k - tot t a else -1
end Go.G

namespace Go.G
open Go Go.V
end Go.G

namespace Go.G
set_option maxRecDepth 100000
open Go Go.V Go.Proofs
abbrev Pair:=Int×Int×Unit
abbrev Got:=List Pair
abbrev Op3:=Int×Int×Int×Unit
abbrev qcf:=Got×List Int×Int×Bool×Unit
abbrev Work:=Got×Int×Bool×Unit
def inR (x a b:Int):Bool:=bif decide (x≥a) then decide (x≤b) else false
theorem qbz {x a b:Int}:inR x a b=true↔a≤x∧x≤b:=by
 unfold inR
 by_cases h:x≥a
 ·rw[decide_eq_true h];simp only[cond_true,decide_eq_true_eq];omega
 ·rw[decide_eq_false h];simp only[cond_false];constructor
  ·intro k;cases k
  ·intro k;omega
theorem qjt {x a b:Int} (h:¬ (a≤x∧x≤b)):inR x a b=false:=by
 cases k:inR x a b
 ·rfl
 ·exact absurd (qbz.1 k) h
def qr (k:Int):Int:=bif inR k 0 3 then k else -1
def qv (v:Int):Int:=bif inR v 1 6 then IntKind.wrap IntKind.i64 (3+v) else -1
def qbg (c:Int):Int:=bif inR c 0 2 then IntKind.wrap IntKind.i64 (10+c) else -1
def q9 (v:Int):Int:=bif inR v 1 6 then IntKind.wrap IntKind.i64 (13+v) else -1
def qh (v:Int):Int:=bif inR v 1 6 then Int.tmod v 3 else -1
section
variable {X:Ext} (hX:XOk X) {n:Nat}
include hX
theorem q6x (hn:1≤n) (x a b:Int):qmp (DD X n) x a b=some ((inR x a b,()),()):=by
 obtain ⟨n,rfl⟩:∃ k,n=k+1:=⟨n - 1,by omega⟩
 rw[qbe3 hX];rfl
theorem qty (hn:1≤n) (x a b:Int):qey (DD X n) x a b=some ((inR x a b,()),()):=by
 obtain ⟨n,rfl⟩:∃ k,n=k+1:=⟨n - 1,by omega⟩
 rw[qbex hX];rfl
theorem qz2 (hn:1≤n) (b:Bool) (x:Int):qjh (DD X n) b x=some ((bif b then x else -1,()),()):=by
 obtain ⟨n,rfl⟩:∃ k,n=k+1:=⟨n - 1,by omega⟩
 rw[qba8 hX]
 cases b<;>rfl
theorem qbai (hn:2≤n) (x:Int):qgf (DD X n) x=some ((inR x 0 3,()),()):=by
 obtain ⟨n,rfl⟩:∃ k,n=k+1:=⟨n - 1,by omega⟩
 rw[qbdo hX]
 simp only[qws,q1r]
 rw[q6x hX (by omega),qc]
theorem qlj (hn:2≤n) (x:Int):qbw (DD X n) x=some ((inR x 1 6,()),()):=by
 obtain ⟨n,rfl⟩:∃ k,n=k+1:=⟨n - 1,by omega⟩
 rw[qbdz hX]
 simp only[qw7,q1m]
 rw[q6x hX (by omega),qc]
theorem qbbu (hn:2≤n) (x:Int):qdy (DD X n) x=some ((inR x 0 2,()),()):=by
 obtain ⟨n,rfl⟩:∃ k,n=k+1:=⟨n - 1,by omega⟩
 rw[q9a hX]
 simp only[qsy,qyx]
 rw[q6x hX (by omega),qc]
theorem q97 (hn:2≤n) (x:Int):qq7 (DD X n) x=some ((inR x 0 3,()),()):=by
 obtain ⟨n,rfl⟩:∃ k,n=k+1:=⟨n - 1,by omega⟩
 rw[qbdh hX]
 simp only[qvs,q1h]
 rw[qty hX (by omega),qc]
theorem qp2 (hn:2≤n) (x:Int):qeu (DD X n) x=some ((inR x 1 6,()),()):=by
 obtain ⟨n,rfl⟩:∃ k,n=k+1:=⟨n - 1,by omega⟩
 rw[qbd9 hX]
 simp only[qvr,q1l]
 rw[qty hX (by omega),qc]
theorem qbfn (hn:2≤n) (x:Int):qp7 (DD X n) x=some ((inR x 1 4,()),()):=by
 obtain ⟨n,rfl⟩:∃ k,n=k+1:=⟨n - 1,by omega⟩
 rw[qbb4 hX]
 simp only[qxc,q1p]
 rw[qty hX (by omega),qc]
theorem qk6 (hn:1≤n) (x:Int):qfm (DD X n) x=some ((bif bif bif decide (x=1) then true else decide (x=2) then true else decide (x=5) then true else decide (x=10),()),()):=by
 obtain ⟨n,rfl⟩:∃ k,n=k+1:=⟨n - 1,by omega⟩
 rw[qbb8 hX];rfl
theorem qdi (hn:1≤n):qbn (DD X n)=some ((13,()),()):=by
 obtain ⟨n,rfl⟩:∃ k,n=k+1:=⟨n - 1,by omega⟩
 rw[q84 hX];rfl
theorem qfn (hn:1≤n):qb6 (DD X n)=some ((13,()),()):=by
 obtain ⟨n,rfl⟩:∃ k,n=k+1:=⟨n - 1,by omega⟩
 rw[q9j hX];rfl
theorem qd3 (hn:3≤n) (x:Int):qcx (DD X n) x=some ((qr x,()),()):=by
 obtain ⟨n,rfl⟩:∃ k,n=k+1:=⟨n - 1,by omega⟩
 rw[qbee hX]
 simp only[qwk,q1u]
 rw[qbai hX (by omega),qc,qz2 hX (by omega),qc]
 rfl
theorem qex (hn:3≤n) (x:Int):qc4 (DD X n) x=some ((qv x,()),()):=by
 obtain ⟨n,rfl⟩:∃ k,n=k+1:=⟨n - 1,by omega⟩
 rw[q7z hX]
 simp only[qse,qyr]
 rw[qlj hX (by omega),qc,qz2 hX (by omega),qc]
 rfl
theorem qez (hn:3≤n) (x:Int):qc2 (DD X n) x=some ((qbg x,()),()):=by
 obtain ⟨n,rfl⟩:∃ k,n=k+1:=⟨n - 1,by omega⟩
 rw[q8k hX]
 simp only[qsk,qzm]
 rw[qbbu hX (by omega),qc,qz2 hX (by omega),qc]
 rfl
theorem qgo (hn:3≤n) (x:Int):qcj (DD X n) x=some ((q9 x,()),()):=by
 obtain ⟨n,rfl⟩:∃ k,n=k+1:=⟨n - 1,by omega⟩
 rw[qbb0 hX]
 simp only[qwq,q1k]
 rw[qlj hX (by omega),qc,qdi hX (by omega),qc,qz2 hX (by omega),qc]
 rfl
theorem qf7 (hn:3≤n) (x:Int):qcn (DD X n) x=some ((qh x,()),()):=by
 obtain ⟨n,rfl⟩:∃ k,n=k+1:=⟨n - 1,by omega⟩
 rw[q8b hX]
 simp only[qsf,qy4]
 rw[qlj hX (by omega),qc]
 unfold qh
 cases inR x 1 6<;>rfl
theorem qev (hn:3≤n) (x:Int):qcd (DD X n) x=some ((qr x,()),()):=by
 obtain ⟨n,rfl⟩:∃ k,n=k+1:=⟨n - 1,by omega⟩
 rw[qbdp hX]
 simp only[qv0,q2d]
 rw[q97 hX (by omega),qc]
 unfold qr
 cases inR x 0 3<;>rfl
theorem qif (hn:3≤n) (x:Int):qce (DD X n) x=some ((qv x,()),()):=by
 obtain ⟨n,rfl⟩:∃ k,n=k+1:=⟨n - 1,by omega⟩
 rw[q7x hX]
 simp only[qsz,qzl]
 rw[qp2 hX (by omega),qc]
 unfold qv
 cases inR x 1 6<;>rfl
theorem qka (hn:3≤n) (x:Int):qeh (DD X n) x=some ((qbg x,()),()):=by
 obtain ⟨n,rfl⟩:∃ k,n=k+1:=⟨n - 1,by omega⟩
 rw[q87 hX]
 simp only[qs7,qzj]
 rw[qty hX (by omega),qc]
 unfold qbg
 cases inR x 0 2<;>rfl
theorem qli (hn:3≤n) (x:Int):qc8 (DD X n) x=some ((q9 x,()),()):=by
 obtain ⟨n,rfl⟩:∃ k,n=k+1:=⟨n - 1,by omega⟩
 rw[qbdr hX]
 simp only[qwu,q13]
 rw[qp2 hX (by omega),qc,qfn hX (by omega),qc]
 unfold q9
 cases inR x 1 6<;>rfl
theorem qj5 (hn:3≤n) (x:Int):qb5 (DD X n) x=some ((qh x,()),()):=by
 obtain ⟨n,rfl⟩:∃ k,n=k+1:=⟨n - 1,by omega⟩
 rw[q9f hX]
 simp only[qr1,qy7]
 rw[qp2 hX (by omega),qc]
 unfold qh
 cases inR x 1 6<;>rfl
end
def rd (at':Int):Got→Int→Bool→Int×Bool
 | [],n,ok=>(n,ok)
 | p::l,n,ok=>if p.1=at' then rd at' l p.2.1 true else rd at' l n ok
theorem q8l (at':Int) (p:Pair):∀ (l:Got) (n:Int) (ok:Bool),rd at' (l++[p]) n ok=if p.1=at' then (p.2.1,true) else rd at' l n ok
 | [],n,ok=>by simp only[List.nil_append,rd]
 | q::l,n,ok=>by
  simp only[List.cons_append,rd]
  by_cases h:q.1=at'
  ·rw[if_pos h,if_pos h];exact q8l at' p l _ _
  ·rw[if_neg h,if_neg h];exact q8l at' p l _ _
def qt (got:Got) (at':Int):Int×Bool:=rd at' got 0 false
theorem q0r (D:Den ctx) (n:Nat) (K:Int→Bool→Option ((Int×Bool×Unit)×Unit)) (got:Got) (hg:got.length≤1048576) (at':Int):∀ (m i:Nat) (v:Int) (ok:Bool),i≤got.length→got.length - i<m→
  qk5 D n K m got at' v ok (i:Int)=K (rd at' (got.drop i) v ok).1 (rd at' (got.drop i) v ok).2
 | 0,_,_,_,_,h=>by omega
 | m+1,i,v,ok,hi,hf=>by
  simp only[qk5,qxf]
  by_cases h:i<got.length
  ·rw[ql (by exact_mod_cast h),ix h,br_t,br_t,Int.toNat_natCast,qbh (by omega),qc9 h,qll h]
   simp only[rd]
   by_cases e:got[i].1=at'
   ·rw[ql e,if_pos e];exact q0r D n K got hg at' m (i+1) _ _ (by omega) (by omega)
   ·rw[qi e,if_neg e];exact q0r D n K got hg at' m (i+1) _ _ (by omega) (by omega)
  ·rw[qi (by exact_mod_cast h),qnw h];rfl
theorem q7e (D:Den ctx) (n:Nat) (K0:Int→Bool→Option ((Int×Bool×Unit)×Unit)) (K1:Option ((Int×Bool×Unit)×Unit)) (hK:K0 0 false=K1) (got:Got) (hg:got.length≤1048576) (at':Int):∀ (m k:Nat),k≤got.length→k<m→
  qk0 D n K0 K1 m got at' ((k:Int) - 1)=K0 (qt (got.take k) at').1 (qt (got.take k) at').2
 | 0,_,_,h=>by omega
 | m+1,k,hk,hf=>by
  simp only[qk0,qwz]
  cases k with
  | zero=>
   rw[qi (by omega),List.take_zero]
   exact hK.symm
  | succ j=>
   have hj:j<got.length:=by omega
   have e1:(((j+1:Nat):Int) - 1)=(j:Int):=by omega
   have e2:IntKind.wrap IntKind.i64 ((j:Int) - 1)=(j:Int) - 1:=qbl (by omega) (by omega)
   rw[e1,ql (by omega),ix hj,br_t,br_t,Int.toNat_natCast,e2,qc9 hj,List.take_succ_eq_append_getElem hj]
   unfold qt
   rw[q8l]
   by_cases e:got[j].1=at'
   ·rw[ql e,if_pos e]
   ·rw[qi e,if_neg e]
    exact q7e D n K0 K1 hK got hg at' m j (by omega) (by omega)
theorem qec {X:Ext} (hX:XOk X) {n:Nat} (hn:W+1≤n) (got:Got) (hg:got.length≤1048576) (at':Int):qdj (DD X n) got at'=some (((qt got at').1,(qt got at').2,()),()):=by
 obtain ⟨n,rfl⟩:∃ k,n=k+1:=⟨n - 1,by omega⟩
 have hW:=qca
 rw[qbfg hX]
 simp only[qyl,qyo,quz]
 have e:=q0r (DD X n) n (fun v0_0 v0_1=>qr4 (DD X n) n v0_0 v0_1) got hg at' n 0 0 false (Nat.zero_le _) (by omega)
 rw[show ((0:Nat):Int)=0 from rfl] at e
 rw[e];rfl
theorem qe0 {X:Ext} (hX:XOk X) {n:Nat} (hn:W+1≤n) (got:Got) (hg:got.length≤1048576) (at':Int):qeg (DD X n) got at'=some (((qt got at').1,(qt got at').2,()),()):=by
 obtain ⟨n,rfl⟩:∃ k,n=k+1:=⟨n - 1,by omega⟩
 have hW:=qca
 rw[qbfd hX]
 simp only[qyh,qyk,quy]
 rw[qbl (by omega) (by omega),q7e (DD X n) n (fun v0_0 v0_1=>qrt (DD X n) n v0_0 v0_1) (qr6 (DD X n) n) rfl got hg at' n got.length (Nat.le_refl _) (by omega),List.take_length]
 rfl
end Go.G

namespace Go.G
set_option maxRecDepth 100000
open Go Go.V Go.Proofs
structure Both (got:Got) (a:qcf) (w:Work) (k:Nat):Prop where
 g1:a.1=got
 g2:w.1=got
 miss:a.2.2.1=w.2.1
 over:a.2.2.2.1=w.2.2.1
 pl:a.2.1.length≤k
section
variable {X:Ext} (hX:XOk X) {n:Nat} (hn:W+6≤n) {got:Got} (hg:got.length≤1048576)
include hX hn hg
theorem qcs {a:qcf} {w:Work} {k:Nat} (h:Both got a w k) (hk:k≤1000) (p:Int):∃ (v:Int) (a':qcf) (w':Work),qk (DD X n) a p=some ((v,()),(a',()))∧q7 (DD X n) w p=some ((v,()),(w',()))∧Both got a' w' (k+1):=by
 obtain ⟨n,rfl⟩:∃ k,n=k+1:=⟨n - 1,by omega⟩
 have hb:=qfw
 obtain ⟨a1,a2,a3,a4,⟨⟩⟩:=a
 obtain ⟨w1,w2,w3,⟨⟩⟩:=w
 obtain ⟨g1,g2,hm,ho,hp⟩:=h
 dsimp only at g1 g2 hm ho hp
 subst g1;subst g2;subst hm;subst ho
 rw[qiv hX,qjl hX]
 simp only[qfs,qgs,qjm,qmg]
 cases a4
 ·rw[br_f,br_f,qe0 hX (by omega) w1 hg,qc,qec hX (by omega) w1 hg,qc]
  dsimp only
  by_cases h0:p<0
  ·rw[decide_eq_true h0]
   cases (qt w1 p).2
   ·exact ⟨_,_,_,rfl,rfl,rfl,rfl,rfl,rfl,by show a2.length≤k+1;omega⟩
   ·exact ⟨_,_,_,rfl,rfl,rfl,rfl,rfl,rfl,by show a2.length≤k+1;omega⟩
  ·rw[decide_eq_false h0]
   cases (qt w1 p).2
   ·exact ⟨_,_,_,rfl,rfl,rfl,rfl,rfl,rfl,by show a2.length≤k+1;omega⟩
   ·refine ⟨_,(w1,a2++[p],a3,false,()),(w1,a3,false,()),?_,rfl,rfl,rfl,rfl,rfl,by simp;exact hp⟩
    rw[Bool.not_true,cond_false,br_f,ql (by omega)]
 ·exact ⟨_,_,_,rfl,rfl,rfl,rfl,rfl,rfl,by show a2.length≤k+1;omega⟩
theorem qlh {a:qcf} {w:Work} {k:Nat} (h:Both got a w k) (b:Bool):∃ (a':qcf) (w':Work),qz (DD X n) a b=some ((),(a',()))∧qf6 (DD X n) w b=some ((),(w',()))∧Both got a' w' k:=by
 obtain ⟨n,rfl⟩:∃ k,n=k+1:=⟨n - 1,by omega⟩
 obtain ⟨a1,a2,a3,a4,⟨⟩⟩:=a
 obtain ⟨w1,w2,w3,⟨⟩⟩:=w
 obtain ⟨g1,g2,hm,ho,hp⟩:=h
 dsimp only at g1 g2 hm ho hp
 subst g1;subst g2;subst hm;subst ho
 rw[qh3 hX,q3y hX]
 exact ⟨_,_,rfl,rfl,rfl,rfl,rfl,rfl,hp⟩
end
theorem qz8 {X:Ext} (hX:XOk X) {n:Nat} (hn:1≤n) {a:qcf} (h:a.2.2.2.1=true) (p:Int):qk (DD X n) a p=some ((0,()),(a,())):=by
 obtain ⟨n,rfl⟩:∃ k,n=k+1:=⟨n - 1,by omega⟩
 rw[qiv hX]
 simp only[qfs,qgs]
 rw[h,br_t]
theorem qrp {X:Ext} (hX:XOk X) (N n:Nat) (hN:3≤N) (K:qcf→Option (Unit×qcf×Unit)) (l:List Int) (hl:l.length≤2) {a:qcf} (h:a.2.2.2.1=true):∀ (m i:Nat),l.length - i<m→
  qda (DD X N) n K m l (l.length:Int) (i:Int) a=K a
 | 0,_,h=>by omega
 | m+1,i,hf=>by
  simp only[qda,qh4]
  by_cases hi:i<l.length
  ·rw[ql (by exact_mod_cast hi),ix hi,br_t,Int.toNat_natCast,qgo hX (by omega),qc]
   dsimp only
   rw[qz8 hX (by omega) h,qc,qbh (by omega)]
   exact qrp hX N n hN K l hl h m (i+1) (by omega)
  ·rw[qi (by exact_mod_cast hi)]
theorem qbec {X:Ext} (hX:XOk X) (N n:Nat) (hN:W+6≤N) {got:Got} (hg:got.length≤1048576) (KA:qcf→Option (Unit×qcf×Unit)) (KW:Work→Option (Unit×Work×Unit)) (c v:Int) (l:List Int) (hl:l.length≤2) (hv:v>IntKind.wrap IntKind.i64 (c+1)) :
  ∀ (m i k:Nat) (a:qcf) (w:Work),l.length - i<m→i≤l.length→k+(l.length - i)≤100→Both got a w k→∃ (a':qcf) (w':Work),qda (DD X N) n KA m l (l.length:Int) (i:Int) a=KA a'∧qhz (DD X N) n KW m c l v (i:Int) w=KW w'∧Both got a' w' 1000
 | 0,_,_,_,_,h,_,_,_=>by omega
 | m+1,i,k,a,w,hf,hil,hk,h=>by
  simp only[qda,qh4,qhz,qpb]
  by_cases hi:i<l.length
  ·obtain ⟨x,a1,w1,e1,e2,h1⟩:=qcs hX (n:=N) hN hg h (by omega) (q9 (l.getD i 0))
   rw[ql (by exact_mod_cast hi),ix hi,br_t,ql (by exact_mod_cast hi),ql hv,br_t,Int.toNat_natCast,qgo hX (by omega),qc,qli hX (by omega),qc]
   dsimp only
   rw[e1,qc,e2,qc,qbh (by omega)]
   exact qbec hX N n hN hg KA KW c v l hl hv m (i+1) (k+1) a1 w1 (by omega) (by omega) (by omega) h1
  ·rw[qi (by exact_mod_cast hi),qi (by exact_mod_cast hi)]
   exact ⟨a,w,rfl,rfl,h.g1,h.g2,h.miss,h.over,by have:=h.pl;omega⟩
theorem qbbn {X:Ext} (hX:XOk X) {n:Nat} (hn:W+8≤n) {got:Got} (hg:got.length≤1048576) {a:qcf} {w:Work} {k:Nat} (h:Both got a w k) (hk:k≤50) (c:Int) (l:List Int) (hl:l.length≤2) :
  ∃ (a':qcf) (w':Work),qes (DD X n) a c l=some ((),(a',()))∧qld (DD X n) w c l=some ((),(w',()))∧a'.2.2.1=w'.2.1:=by
 obtain ⟨n,rfl⟩:∃ k,n=k+1:=⟨n - 1,by omega⟩
 have hW:=qca
 rw[qpg hX,qbby hX]
 simp only[qiy,qi2,qhe,qwe,qw2,qsv]
 obtain ⟨v,a1,w1,e1,e2,h1⟩:=qcs hX (n:=n) (by omega) hg h (by omega) 13
 obtain ⟨a2,w2,e3,_,h2⟩:=qlh hX (n:=n) (by omega) hg h1 (decide (v≤IntKind.wrap IntKind.i64 (c+1)))
 rw[qdi hX (by omega),qc,qfn hX (by omega),qc]
 dsimp only
 rw[e1,qc,e2,qc]
 dsimp only
 rw[e3,qc]
 dsimp only
 by_cases hv:v>IntKind.wrap IntKind.i64 (c+1)
 ·have h2':Both got a2 w1 (k+1):=by
   obtain ⟨m,rfl⟩:∃ k,n=k+1:=⟨n - 1,by omega⟩
   rw[qh3 hX,decide_eq_false (show ¬ v≤_ by omega)] at e3
   simp only[qkn,qot,Option.some.injEq,Prod.mk.injEq,true_and,and_true] at e3
   obtain ⟨q1,q2,q3,q4,q5⟩:=h1
   subst e3
   refine ⟨q1,q2,q3,?_,q5⟩
   show (bif a1.2.2.2.1 then true else false)=_
   rw[←q4];cases a1.2.2.2.1<;>rfl
  obtain ⟨a3,w3,r1,r2,r3⟩:=qbec hX n n (by omega) hg (fun v0_0=>qdo (DD X n) n v0_0) (fun v0_0=>qrc (DD X n) n v0_0) c v l hl hv n 0 (k+1) a2 w1 (by omega) (Nat.zero_le _) (by omega) h2'
  rw[show ((0:Nat):Int)=0 from rfl] at r1 r2
  exact ⟨a3,w3,r1,r2,r3.miss⟩
 ·have ho:a2.2.2.2.1=true∧a2.2.2.1=a1.2.2.1:=by
   obtain ⟨m,rfl⟩:∃ k,n=k+1:=⟨n - 1,by omega⟩
   rw[qh3 hX,decide_eq_true (show v≤_ by omega)] at e3
   simp only[qkn,qot,Option.some.injEq,Prod.mk.injEq,true_and,and_true] at e3
   subst e3
   refine ⟨?_,rfl⟩
   show (bif a1.2.2.2.1 then true else true)=true
   cases a1.2.2.2.1<;>rfl
  have r1:=qrp hX n n (by omega) (fun v0_0=>qdo (DD X n) n v0_0) l hl ho.1 n 0 (by omega)
  rw[show ((0:Nat):Int)=0 from rfl] at r1
  refine ⟨a2,w1,r1,?_,ho.2.trans h1.miss⟩
  obtain ⟨m,rfl⟩:∃ k,n=k+1:=⟨n - 1,by omega⟩
  simp only[qhz,qpb]
  by_cases h0:(0:Int)<(l.length:Int)
  ·rw[ql h0,qi hv];rfl
  ·rw[qi h0];rfl
end Go.G

namespace Go.G
set_option maxRecDepth 100000
open Go Go.V Go.Proofs
section
variable {X:Ext} (hX:XOk X) {n:Nat} {got:Got} (hg:got.length≤1048576)
include hX hg
theorem qbmw (hn:W+10≤n) {a:qcf} {w:Work} {k:Nat} (h:Both got a w k) (hk:k≤10) (o:Op3) (h1:o.1=1) :
  ∃ (a':qcf) (w':Work),qcq (DD X n) a o=some ((),(a',()))∧qv2 (DD X n) w o=some ((),(w',()))∧a'.2.2.1=w'.2.1:=by
 obtain ⟨n,rfl⟩:∃ k,n=k+1:=⟨n - 1,by omega⟩
 obtain ⟨v1,a1,w1,e1,f1,b1⟩:=qcs hX (n:=n) (by omega) hg h (by omega) (qr o.2.1)
 obtain ⟨a2,w2,e2,f2,b2⟩:=qlh hX (n:=n) (by omega) hg b1 (v1 != 0)
 obtain ⟨v3,a3,w3,e3,f3,b3⟩:=qcs hX (n:=n) (by omega) hg b2 (by omega) (qv o.2.2.1)
 obtain ⟨a4,w4,e4,f4,b4⟩:=qlh hX (n:=n) (by omega) hg b3 (v3 != 0)
 obtain ⟨v5,a5,w5,e5,f5,b5⟩:=qcs hX (n:=n) (by omega) hg b4 (by omega) (qbg (qh o.2.2.1))
 obtain ⟨a6,w6,e6,f6,b6⟩:=qbbn hX (n:=n) (by omega) hg b5 (by omega) o.2.1 [o.2.2.1] (by simp)
 rw[qfc hX,qbbv hX]
 simp only[qdp,qei,qwi,q1e]
 simp only[qd3 hX (n:=n) (by omega),qev hX (n:=n) (by omega),qex hX (n:=n) (by omega),qif hX (n:=n) (by omega),qf7 hX (n:=n) (by omega),qj5 hX (n:=n) (by omega),qez hX (n:=n) (by omega),qka hX (n:=n) (by omega),qc,e1,f1,e2,f2,e3,f3,e4,f4,e5,f5,e6,f6,ql h1]
 exact ⟨a6,w6,rfl,rfl,b6⟩
theorem qbmt (hn:W+10≤n) {a:qcf} {w:Work} {k:Nat} (h:Both got a w k) (hk:k≤10) (o:Op3) (h1:¬ o.1=1) (h2:o.1=2) :
  ∃ (a':qcf) (w':Work),qcq (DD X n) a o=some ((),(a',()))∧qxd (DD X n) w o=some ((),(w',()))∧a'.2.2.1=w'.2.1:=by
 obtain ⟨n,rfl⟩:∃ k,n=k+1:=⟨n - 1,by omega⟩
 obtain ⟨v1,a1,w1,e1,f1,b1⟩:=qcs hX (n:=n) (by omega) hg h (by omega) (qr o.2.1)
 obtain ⟨a2,w2,e2,f2,b2⟩:=qlh hX (n:=n) (by omega) hg b1 (bif decide (v1=0) then true else decide (v1=o.2.2.1))
 obtain ⟨v3,a3,w3,e3,f3,b3⟩:=qcs hX (n:=n) (by omega) hg b2 (by omega) (qv o.2.2.1)
 obtain ⟨a4,w4,e4,f4,b4⟩:=qlh hX (n:=n) (by omega) hg b3 (v3 != 0)
 obtain ⟨v5,a5,w5,e5,f5,b5⟩:=qcs hX (n:=n) (by omega) hg b4 (by omega) (qv v1)
 obtain ⟨v6,a6,w6,e6,f6,b6⟩:=qcs hX (n:=n) (by omega) hg b5 (by omega) (qbg (qh v1))
 obtain ⟨v7,a7,w7,e7,f7,b7⟩:=qcs hX (n:=n) (by omega) hg b6 (by omega) (qbg (qh o.2.2.1))
 obtain ⟨a8,w8,e8,f8,b8⟩:=qbbn hX (n:=n) (by omega) hg b7 (by omega) o.2.1 [v1,o.2.2.1] (by simp)
 obtain ⟨a9,w9,e9,f9,b9⟩:=qbbn hX (n:=n) (by omega) hg b5 (by omega) o.2.1 [v1,o.2.2.1] (by simp)
 rw[qfc hX,qbd3 hX]
 simp only[qdp,qei,qvp,q10]
 simp only[qd3 hX (n:=n) (by omega),qev hX (n:=n) (by omega),qex hX (n:=n) (by omega),qif hX (n:=n) (by omega),qf7 hX (n:=n) (by omega),qj5 hX (n:=n) (by omega),qez hX (n:=n) (by omega),qka hX (n:=n) (by omega),qc,e1,f1,e2,f2,e3,f3,e4,f4,e5,f5,qi h1,ql h2]
 cases hc:(qh v1 != qh o.2.2.1)
 ·simp only[br_f,e9,f9,qc]
  exact ⟨a9,w9,rfl,rfl,b9⟩
 ·simp only[br_t,e6,f6,e7,f7,e8,f8,qc]
  exact ⟨a8,w8,rfl,rfl,b8⟩
theorem qbmx (hn:W+10≤n) {a:qcf} {w:Work} {k:Nat} (h:Both got a w k) (hk:k≤10) (o:Op3) (h1:¬ o.1=1) (h2:¬ o.1=2) :
  ∃ (a':qcf) (w':Work),qcq (DD X n) a o=some ((),(a',()))∧qwh (DD X n) w o=some ((),(w',()))∧a'.2.2.1=w'.2.1:=by
 obtain ⟨n,rfl⟩:∃ k,n=k+1:=⟨n - 1,by omega⟩
 obtain ⟨v1,a1,w1,e1,f1,b1⟩:=qcs hX (n:=n) (by omega) hg h (by omega) (qr o.2.1)
 obtain ⟨a2,w2,e2,f2,b2⟩:=qlh hX (n:=n) (by omega) hg b1 (decide (v1=0))
 obtain ⟨v3,a3,w3,e3,f3,b3⟩:=qcs hX (n:=n) (by omega) hg b2 (by omega) (qv v1)
 obtain ⟨v5,a5,w5,e5,f5,b5⟩:=qcs hX (n:=n) (by omega) hg b3 (by omega) (qbg (qh v1))
 obtain ⟨a6,w6,e6,f6,b6⟩:=qbbn hX (n:=n) (by omega) hg b5 (by omega) o.2.1 [v1] (by simp)
 rw[qfc hX,qbde hX]
 simp only[qdp,qei,qwv,q2k]
 simp only[qd3 hX (n:=n) (by omega),qev hX (n:=n) (by omega),qex hX (n:=n) (by omega),qif hX (n:=n) (by omega),qf7 hX (n:=n) (by omega),qj5 hX (n:=n) (by omega),qez hX (n:=n) (by omega),qka hX (n:=n) (by omega),qc,e1,f1,e2,f2,e3,f3,e5,f5,e6,f6,qi h1,qi h2]
 exact ⟨a6,w6,rfl,rfl,b6⟩
theorem qbah (N n:Nat) (hN:W+6≤N) (KA:qcf→Option ((qcf×Unit)×Unit)) (KW:Work→Option ((Work×Unit)×Unit)):∀ (m i k:Nat) (a:qcf) (w:Work),4 - i<m→i≤4→k≤i→Both got a w k→∃ (a':qcf) (w':Work),
  qef (DD X N) n KA m (i:Int) a=KA a'∧qji (DD X N) n KW m (i:Int) w=KW w'∧a'.2.2.1=w'.2.1
 | 0,_,_,_,_,h,_,_,_=>by omega
 | m+1,i,k,a,w,hf,hi,hk,h=>by
  simp only[qef,qjo,qji,qup]
  by_cases h4:(i:Int)<4
  ·obtain ⟨v,a1,w1,e1,f1,b1⟩:=qcs hX (n:=N) hN hg h (by omega) (qr (i:Int))
   rw[ql h4,ql h4,qd3 hX (by omega),qc,qev hX (by omega),qc]
   dsimp only
   rw[e1,qc,f1,qc,qbh (by omega)]
   exact qbah N n hN KA KW m (i+1) (k+1) a1 w1 (by omega) (by omega) (by omega) b1
  ·rw[qi h4,qi h4]
   exact ⟨a,w,rfl,rfl,h.miss⟩
end
theorem qbam {X:Ext} (hX:XOk X) {n:Nat} (hn:1≤n) (a:qcf) (b:Bool):∃ a',qz (DD X n) a b=some ((),(a',()))∧a'.2.2.1=a.2.2.1∧(b=true→a'.2.2.2.1=true)∧(b=false→a'=a):=by
 obtain ⟨n,rfl⟩:∃ k,n=k+1:=⟨n - 1,by omega⟩
 obtain ⟨a1,a2,a3,a4,⟨⟩⟩:=a
 rw[qh3 hX]
 refine ⟨_,rfl,rfl,fun h=>?_,fun h=>?_⟩
 ·subst h;cases a4<;>rfl
 ·subst h;cases a4<;>rfl
theorem q90 {X:Ext} (hX:XOk X) {n:Nat} (hn:W+6≤n) {a a':qcf} (hg:a.1.length≤1048576) {p v:Int} (h:qk (DD X n) a p=some ((v,()),(a',()))) :
  (a'.2.2.2.1=true→v=0)∧(a'.2.2.2.1=false→a'.2.2.1=a.2.2.1∧a.2.2.2.1=false):=by
 obtain ⟨n,rfl⟩:∃ k,n=k+1:=⟨n - 1,by omega⟩
 obtain ⟨a1,a2,a3,a4,⟨⟩⟩:=a
 dsimp only at hg
 rw[qiv hX] at h
 simp only[qfs,qgs] at h
 cases a4
 ·rw[br_f,qe0 hX (by omega) a1 hg,qc] at h
  dsimp only at h
  cases hc:(bif decide (p<0) then true else !(qt a1 p).2)
  ·rw[hc,br_f] at h
   by_cases hb:a2.length+1≤qeq
   ·rw[ql hb] at h
    simp only[Option.some.injEq,Prod.mk.injEq,and_true] at h
    obtain ⟨_,h⟩:=h
    subst h
    exact ⟨(fun k=>nomatch k),fun _=>⟨rfl,rfl⟩⟩
   ·rw[qi hb] at h;cases h
  ·rw[hc,br_t] at h
   simp only[Option.some.injEq,Prod.mk.injEq,and_true] at h
   obtain ⟨h1,h⟩:=h
   subst h
   exact ⟨fun _=>h1.symm,fun k=>nomatch k⟩
 ·rw[br_t] at h
  simp only[Option.some.injEq,Prod.mk.injEq,and_true] at h
  obtain ⟨h1,h⟩:=h
  subst h
  exact ⟨fun _=>h1.symm,fun k=>nomatch k⟩
section
variable {X:Ext} (hX:XOk X) {n:Nat} {got:Got} (hg:got.length≤1048576)
include hX hg
theorem qbiw (hn:W+8≤n) {a:qcf} {w:Work} {k:Nat} (h:Both got a w k) (hk:k≤20) (v:Int) (hz:a.2.2.2.1=true→v=0) (hmi:a.2.2.2.1=false→a.2.2.1 = -1) :
  ∃ (a1 a2:qcf) (x:Int) (w':Work),qz (DD X n) a (!inR v 1 6)=some ((),(a1,()))∧qk (DD X n) a1 (q9 v)=some ((x,()),(a2,()))∧
   (if v=0 then w'=w else ∃ y:Int,q7 (DD X n) w (q9 v)=some ((y,()),(w',())))∧a2.2.2.1=w'.2.1:=by
 obtain ⟨a1,e1,m1,o1,s1⟩:=qbam hX (n:=n) (by omega) a (!inR v 1 6)
 cases hv:inR v 1 6
 ·rw[hv] at e1 o1 s1
  have ho:=o1 rfl
  refine ⟨a1,a1,0,?_⟩
  by_cases h0:v=0
  ·exact ⟨w,e1,qz8 hX (by omega) ho _,by rw[if_pos h0],m1.trans h.miss⟩
  ·have hov:a.2.2.2.1=false:=by
    cases q:a.2.2.2.1
    ·rfl
    ·exact absurd (hz q) h0
   have hvia:q9 v = -1:=by unfold q9;rw[hv];rfl
   obtain ⟨n,rfl⟩:∃ k,n=k+1:=⟨n - 1,by omega⟩
   obtain ⟨w1,w2,w3,⟨⟩⟩:=w
   obtain ⟨g1,g2,hm,hoo,hp⟩:=h
   dsimp only at g2 hm hoo
   rw[hov] at hoo
   subst hoo
   refine ⟨(w1,-1,true,()),e1,qz8 hX (by omega) ho _,?_,m1.trans (hmi hov)⟩
   rw[if_neg h0,hvia,qjl hX]
   simp only[qjm,qmg]
   rw[br_f,qec hX (by omega) w1 (by rw[g2];exact hg),qc]
   refine ⟨0,?_⟩
   dsimp only
   rw[decide_eq_true (show (-1:Int)<0 by decide)]
   cases (qt w1 (-1)).2<;>rfl
 ·rw[hv] at e1 o1 s1
  obtain rfl:=s1 rfl
  obtain ⟨x,a2,w2,e2,f2,b2⟩:=qcs hX (n:=n) (by omega) hg h (by omega) (q9 v)
  have h0:¬ v=0:=by
   have:=qbz.1 hv
   omega
  exact ⟨a1,a2,x,w2,e1,e2,by rw[if_neg h0];exact ⟨x,f2⟩,b2.miss⟩
end
end Go.G

namespace Go.G
set_option maxRecDepth 100000
open Go Go.V Go.Proofs
theorem qbip (v:Int):(bif decide (v<1) then true else decide (v>4))=!inR v 1 4:=by
 by_cases h:v<1
 ·rw[decide_eq_true h,qjt (by omega)];rfl
 ·by_cases h4:v>4
  ·rw[decide_eq_false h,decide_eq_true h4,qjt (by omega)];rfl
  ·rw[decide_eq_false h,decide_eq_false h4,qbz.2 (by omega)];rfl
theorem qbkw {X:Ext} (hX:XOk X) {n:Nat} (hn:W+12≤n) (got:Got) (hg:got.length≤1048576) (o:Op3) :
  ∃ (a':qcf) (w':Work),qqh (DD X n) o got=some ((a',()),())∧qwb (DD X n) o got=some ((w',()),())∧a'.2.2.1=w'.2.1:=by
 obtain ⟨n,rfl⟩:∃ k,n=k+1:=⟨n - 1,by omega⟩
 have hW:=qca
 have h0:Both got (got,[],-1,false,()) (got,-1,false,()) 0:=⟨rfl,rfl,rfl,rfl,Nat.le_refl _⟩
 rw[q17 hX,qbbz hX]
 simp only[qq8,qqb,qoi,qvt,qvx,qs9]
 by_cases h1:o.1=1
 ·obtain ⟨a,w,e,f,b⟩:=qbmw hX hg (n:=n) (by omega) h0 (by omega) o h1
  simp only[ql h1,e,f,qc]
  exact ⟨a,w,rfl,rfl,b⟩
 by_cases h2:o.1=2
 ·obtain ⟨a,w,e,f,b⟩:=qbmt hX hg (n:=n) (by omega) h0 (by omega) o h1 h2
  simp only[qi h1,ql h2,e,f,qc]
  exact ⟨a,w,rfl,rfl,b⟩
 by_cases h3:o.1=3
 ·obtain ⟨a,w,e,f,b⟩:=qbmx hX hg (n:=n) (by omega) h0 (by omega) o h1 h2
  simp only[qi h1,qi h2,ql h3,e,f,qc]
  exact ⟨a,w,rfl,rfl,b⟩
 by_cases h4:o.1=4
 ·obtain ⟨v,a,w,e,f,b⟩:=qcs hX (n:=n) (by omega) hg h0 (by omega) (qr o.2.1)
  simp only[qi h1,qi h2,qi h3,ql h4,qd3 hX (n:=n) (by omega),qev hX (n:=n) (by omega),e,f,qc]
  exact ⟨a,w,rfl,rfl,b.miss⟩
 by_cases h5:o.1=5
 ·obtain ⟨v,a,w,e,f,b⟩:=qcs hX (n:=n) (by omega) hg h0 (by omega) (qv o.2.2.1)
  simp only[qi h1,qi h2,qi h3,qi h4,ql h5,qex hX (n:=n) (by omega),qif hX (n:=n) (by omega),e,f,qc]
  exact ⟨a,w,rfl,rfl,b.miss⟩
 by_cases h6:o.1=6
 ·obtain ⟨v,a,w,e,f,b⟩:=qcs hX (n:=n) (by omega) hg h0 (by omega) (qbg o.2.1)
  simp only[qi h1,qi h2,qi h3,qi h4,qi h5,ql h6,qez hX (n:=n) (by omega),qka hX (n:=n) (by omega),e,f,qc]
  exact ⟨a,w,rfl,rfl,b.miss⟩
 by_cases h7:o.1=7
 ·obtain ⟨a,w,e,f,b⟩:=qbah hX hg n n (by omega) (fun v0_0=>qmw (DD X n) n v0_0) (fun v0_0=>qqu (DD X n) n v0_0) n 0 0 _ _ (by omega) (by omega) (Nat.le_refl _) h0
  rw[show ((0:Nat):Int)=0 from rfl] at e f
  simp only[qi h1,qi h2,qi h3,qi h4,qi h5,qi h6,ql h7,e,f]
  exact ⟨a,w,rfl,rfl,b⟩
 by_cases h8:o.1=8
 ·obtain ⟨v,a,w,e,f,b⟩:=qcs hX (n:=n) (by omega) hg h0 (by omega) 13
  simp only[qi h1,qi h2,qi h3,qi h4,qi h5,qi h6,qi h7,ql h8,qdi hX (n:=n) (by omega),qfn hX (n:=n) (by omega),e,f,qc]
  exact ⟨a,w,rfl,rfl,b.miss⟩
 by_cases h9:o.1=9
 ·obtain ⟨v1,a1,w1,e1,f1,b1⟩:=qcs hX (n:=n) (by omega) hg h0 (by omega) 13
  obtain ⟨v1',a1',w1',e1',f1',b1'⟩:=qcs hX (n:=n - 1) (by omega) hg h0 (by omega) 13
  obtain ⟨m,rfl⟩:∃ k,n=k+1:=⟨n - 1,by omega⟩
  have mk:∃ (a':qcf) (w':Work),(qe (qbn (DD X (m+1))) fun b=>qe (qk (DD X (m+1)) (got,[],-1,false,()) b.1.1) fun b=>qe (qz (DD X (m+1)) b.2.1 (bif decide (b.1.1<1) then true else decide (b.1.1>4))) fun b_1=>qe (qcx (DD X (m+1)) (IntKind.wrap IntKind.i64 (b.1.1 - 1))) fun b=>qe (qk (DD X (m+1)) b_1.2.1 b.1.1) fun b=>qe (qbw (DD X (m+1)) b.1.1) fun b_2=>qe (qz (DD X (m+1)) b.2.1 (!b_2.1.1)) fun b_3=>qe (qcj (DD X (m+1)) b.1.1) fun b=>qe (qk (DD X (m+1)) b_3.2.1 b.1.1) fun b=>some ((b.2.1,()),()))=some ((a',()),())∧
    qur (DD X (m+1)) (got,-1,false,())=some ((),(w',()))∧a'.2.2.1=w'.2.1:=by
   rw[qbap hX]
   simp only[qt5,q03]
   rw[qdi hX (by omega),qc,qfn hX (by omega),qc]
   dsimp only
   have hstep:∀ {a:qcf} {w:Work} {k:Nat},Both got a w k→k≤100→∀ p:Int,∃ (v:Int) (a':qcf) (w':Work),qk (DD X (m+1)) a p=some ((v,()),(a',()))∧q7 (DD X m) w p=some ((v,()),(w',()))∧Both got a' w' (k+1):=by
    intro a w k h hk p
    obtain ⟨v,a',w',e,f,b⟩:=qcs hX (n:=m+1) (by omega) hg h (by omega) p
    obtain ⟨v2,a2,w2,e2,f2,b2⟩:=qcs hX (n:=m) (by omega) hg h (by omega) p
    have q:q7 (DD X (m+1)) w p=q7 (DD X m) w p:=by
     obtain ⟨m,rfl⟩:∃ k,m=k+1:=⟨m - 1,by omega⟩
     rw[qjl hX,qjl hX]
     simp only[qjm,qmg]
     rw[qec hX (by omega) w.1 (by rw[h.g2];exact hg),qec hX (by omega) w.1 (by rw[h.g2];exact hg)]
    exact ⟨v,a',w',e,by rw[←q];exact f,b⟩
   obtain ⟨v1,a1,w1,e1,f1,b1⟩:=hstep h0 (by omega) 13
   have k1:=q90 hX (n:=m+1) (by omega) (a:=(got,[],-1,false,())) hg e1
   rw[e1,qc,f1,qc]
   dsimp only
   rw[qbip,qty hX (by omega),qc]
   dsimp only
   obtain ⟨a2,w2,e2,f2,b2⟩:=qlh hX (n:=m+1) (by omega) hg b1 (!inR v1 1 4)
   obtain ⟨a2',s1,s2,s3,s4⟩:=qbam hX (n:=m+1) (by omega) a1 (!inR v1 1 4)
   rw[e2] at s1
   simp only[Option.some.injEq,Prod.mk.injEq,true_and,and_true] at s1
   subst s1
   have q2:qf6 (DD X m) w1 (!inR v1 1 4)=some ((),(w2,())):=by
    obtain ⟨m,rfl⟩:∃ k,m=k+1:=⟨m - 1,by omega⟩
    rw[q3y hX] at f2 ⊢
    exact f2
   rw[e2,qc,q2,qc]
   dsimp only
   rw[qd3 hX (by omega),qc,qev hX (by omega),qc]
   dsimp only
   obtain ⟨v3,a3,w3,e3,f3,b3⟩:=hstep b2 (by omega) (qr (IntKind.wrap IntKind.i64 (v1 - 1)))
   have k3:=q90 hX (n:=m+1) (by omega) (a:=a2) (by rw[b2.g1];exact hg) e3
   have hmi:a3.2.2.2.1=false→a3.2.2.1 = -1:=fun h=>by
    obtain ⟨r1,r2⟩:=k3.2 h
    have hb:(!inR v1 1 4)=false:=by
     cases q:(!inR v1 1 4)
     ·rfl
     ·have:=s3 q;rw[r2] at this;cases this
    have ea:=s4 hb
    subst ea
    exact r1.trans (k1.2 r2).1
   rw[e3,qc,f3,qc]
   dsimp only
   obtain ⟨a4,a5,x,w5,e4,e5,f5,hm⟩:=qbiw hX hg (n:=m+1) (by omega) b3 (by omega) v3 k3.1 hmi
   rw[qlj hX (by omega),qc]
   dsimp only
   rw[e4,qc]
   dsimp only
   rw[qgo hX (by omega),qc]
   dsimp only
   rw[e5,qc]
   by_cases hv:v3=0
   ·rw[if_pos hv] at f5
    subst f5
    subst hv
    exact ⟨a5,_,rfl,rfl,hm⟩
   ·rw[if_neg hv] at f5
    obtain ⟨y,f5⟩:=f5
    have q:q7 (DD X (m+1)) w3 (q9 v3)=q7 (DD X m) w3 (q9 v3):=by
     obtain ⟨m,rfl⟩:∃ k,m=k+1:=⟨m - 1,by omega⟩
     rw[qjl hX,qjl hX]
     simp only[qjm,qmg]
     rw[qec hX (by omega) w3.1 (by rw[b3.g2];exact hg),qec hX (by omega) w3.1 (by rw[b3.g2];exact hg)]
    rw[q] at f5
    refine ⟨a5,w5,rfl,?_,hm⟩
    rw[bne_iff_ne.2 hv,br_t,qli hX (by omega),qc]
    dsimp only
    rw[f5,qc]
  obtain ⟨a,w,e,f,b⟩:=mk
  simp only[qi h1,qi h2,qi h3,qi h4,qi h5,qi h6,qi h7,qi h8,ql h9]
  refine ⟨a,w,e,?_,b⟩
  rw[f,qc]
 by_cases h10:o.1=10
 ·obtain ⟨v1,a1,w1,e1,f1,b1⟩:=qcs hX (n:=n) (by omega) hg h0 (by omega) 13
  obtain ⟨a2,w2,e2,f2,b2⟩:=qlh hX (n:=n) (by omega) hg b1 (v1 != 5)
  obtain ⟨v3,a3,w3,e3,f3,b3⟩:=qcs hX (n:=n) (by omega) hg b2 (by omega) (q9 o.2.2.1)
  simp only[qi h1,qi h2,qi h3,qi h4,qi h5,qi h6,qi h7,qi h8,qi h9,ql h10,qdi hX (n:=n) (by omega),qfn hX (n:=n) (by omega),qgo hX (n:=n) (by omega),qli hX (n:=n) (by omega),e1,f1,e2,f2,e3,f3,qc]
  exact ⟨a3,w3,rfl,rfl,b3.miss⟩
 ·simp only[qi h1,qi h2,qi h3,qi h4,qi h5,qi h6,qi h7,qi h8,qi h9,qi h10]
  exact ⟨_,_,rfl,rfl,rfl⟩
end Go.G

namespace Go.G
set_option maxRecDepth 100000
open Go Go.V Go.Proofs
def hit (got:Got) (p:Int):Bool:=decide (0≤p)&&(qt got p).2
inductive PR where
 | done
 | ask (p:Int) (k:Int→PR)
def run (got:Got):PR→List Int×Int
 | .done=>([],-1)
 | .ask p k=>bif hit got p then (p::(run got (k (qt got p).1)).1,(run got (k (qt got p).1)).2) else ([],p)
theorem qcz {got:Got} {p:Int} {k:Int→PR} (h:hit got p=false):run got (.ask p k)=([],p):=by
 simp only[run];rw[h];rfl
theorem qdk {got:Got} {p:Int} {k:Int→PR} (h:hit got p=true):run got (.ask p k)=(p::(run got (k (qt got p).1)).1,(run got (k (qt got p).1)).2):=by
 simp only[run];rw[h];rfl
def qxl:List Int→PR
 | []=>.done
 | v::l=>.ask (q9 v) fun _=>qxl l
def qgt (k:Int) (l:List Int):PR:=.ask 13 fun st=>bif decide (st≤IntKind.wrap IntKind.i64 (k+1)) then .done else qxl l
def qjn (o:Op3):PR:=.ask (qr o.2.1) fun r=>bif r != 0 then .done else .ask (qv o.2.2.1) fun w=>bif w != 0 then .done else .ask (qbg (qh o.2.2.1)) fun _=>qgt o.2.1 [o.2.2.1]
def qhl (o:Op3):PR:=.ask (qr o.2.1) fun r=>bif (bif decide (r=0) then true else decide (r=o.2.2.1)) then .done else .ask (qv o.2.2.1) fun w=>bif w != 0 then .done else .ask (qv r) fun _=>
 bif qh r != qh o.2.2.1 then .ask (qbg (qh r)) fun _=>.ask (qbg (qh o.2.2.1)) fun _=>qgt o.2.1 [r,o.2.2.1] else qgt o.2.1 [r,o.2.2.1]
def qmr (o:Op3):PR:=.ask (qr o.2.1) fun r=>bif decide (r=0) then .done else .ask (qv r) fun _=>.ask (qbg (qh r)) fun _=>qgt o.2.1 [r]
def qnl:PR:=.ask 13 fun st=>bif (bif decide (st<1) then true else decide (st>4)) then .done else .ask (qr (IntKind.wrap IntKind.i64 (st - 1))) fun r=>bif !inR r 1 6 then .done else .ask (q9 r) fun _=>.done
def qn6 (o:Op3):PR:=.ask 13 fun st=>bif st != 5 then .done else .ask (q9 o.2.2.1) fun _=>.done
def qn1:PR:=.ask 0 fun _=>.ask 1 fun _=>.ask 2 fun _=>.ask 3 fun _=>.done
def prog (o:Op3):PR:=
 if o.1=1 then qjn o else if o.1=2 then qhl o else if o.1=3 then qmr o else
 if o.1=4 then .ask (qr o.2.1) fun _=>.done else if o.1=5 then .ask (qv o.2.2.1) fun _=>.done else if o.1=6 then .ask (qbg o.2.1) fun _=>.done else
 if o.1=7 then qn1 else if o.1=8 then .ask 13 fun _=>.done else if o.1=9 then qnl else if o.1=10 then qn6 o else .done
section
variable {X:Ext} (hX:XOk X) {n:Nat} {got:Got}
include hX
theorem qsq (hn:1≤n) (pl:List Int) (m p:Int):qk (DD X n) (got,pl,m,true,()) p=some ((0,()),((got,pl,m,true,()),())):=qz8 hX hn rfl p
theorem qts (hn:1≤n) (pl:List Int) (m:Int) (o b:Bool):qz (DD X n) (got,pl,m,o,()) b=some ((),((got,pl,m,bif o then true else b,()),())):=by
 obtain ⟨n,rfl⟩:∃ k,n=k+1:=⟨n - 1,by omega⟩
 rw[qh3 hX];rfl
theorem qen (hn:W+2≤n) (hg:got.length≤1048576) {pl:List Int} (hl:pl.length≤1000) (m:Int) {p:Int} (h:hit got p=true) :
  qk (DD X n) (got,pl,m,false,()) p=some (((qt got p).1,()),((got,pl++[p],m,false,()),())):=by
 obtain ⟨n,rfl⟩:∃ k,n=k+1:=⟨n - 1,by omega⟩
 have hb:=qfw
 unfold hit at h
 simp only[Bool.and_eq_true,decide_eq_true_eq] at h
 rw[qiv hX]
 simp only[qfs,qgs]
 rw[br_f,qe0 hX (by omega) got hg,qc]
 dsimp only
 rw[decide_eq_false (by omega:¬ p<0),h.2,Bool.not_true,cond_false,br_f,ql (by omega)]
theorem qdu (hn:W+2≤n) (hg:got.length≤1048576) (pl:List Int) (m:Int) {p:Int} (h:hit got p=false) :
  qk (DD X n) (got,pl,m,false,()) p=some ((0,()),((got,pl,p,true,()),())):=by
 obtain ⟨n,rfl⟩:∃ k,n=k+1:=⟨n - 1,by omega⟩
 unfold hit at h
 rw[qiv hX]
 simp only[qfs,qgs]
 rw[br_f,qe0 hX (by omega) got hg,qc]
 dsimp only
 have:(bif decide (p<0) then true else !(qt got p).2)=true:=by
  by_cases h0:p<0
  ·rw[decide_eq_true h0];rfl
  ·rw[decide_eq_false h0]
   rw[decide_eq_true (by omega:0≤p),Bool.true_and] at h
   rw[h];rfl
 rw[this,br_t]
theorem qbki (N m0:Nat) (hN:W+4≤N) (hg:got.length≤1048576) (K:qcf→Option (Unit×qcf×Unit)) (l:List Int) (hl:l.length≤2):∀ (m i:Nat) (pl:List Int),l.length - i<m→i≤l.length→pl.length≤20+i→
  ∃ b,qda (DD X N) n K m l (l.length:Int) (i:Int) (got,pl,-1,false,())=K (got,pl++(run got (qxl (l.drop i))).1,(run got (qxl (l.drop i))).2,b,())
 | 0,_,_,h,_,_=>by omega
 | m+1,i,pl,hf,hi,hp=>by
  simp only[qda,qh4]
  by_cases h:i<l.length
  ·rw[ql (by exact_mod_cast h),ix h,br_t,Int.toNat_natCast,qgo hX (by omega),qc,qc9 h]
   dsimp only
   rw[qll h]
   simp only[qxl]
   rw[qbh (by omega)]
   cases hh:hit got (q9 l[i])
   ·rw[qdu hX (by omega) hg _ _ hh,qc,qcz hh]
    dsimp only
    rw[qrp hX N n (by omega) K l hl (by rfl) m (i+1) (by omega)]
    exact ⟨true,by rw[List.append_nil]⟩
   ·rw[qen hX (by omega) hg (by omega) _ hh,qc,qdk hh]
    dsimp only
    obtain ⟨b,e⟩:=qbki N m0 hN hg K l hl m (i+1) (pl++[q9 l[i]]) (by omega) (by omega) (by rw[List.length_append];simp only[List.length_cons,List.length_nil];omega)
    rw[e]
    exact ⟨b,by rw[List.append_assoc];rfl⟩
  ·rw[qi (by exact_mod_cast h),qnw h]
   exact ⟨false,by simp only[qxl,run];rw[List.append_nil]⟩
theorem q6y (hn:W+6≤n) (hg:got.length≤1048576) {pl:List Int} (hp:pl.length≤10) (c:Int) (l:List Int) (hl:l.length≤2) :
  ∃ b,qes (DD X n) (got,pl,-1,false,()) c l=some ((),((got,pl++(run got (qgt c l)).1,(run got (qgt c l)).2,b,()),())):=by
 obtain ⟨n,rfl⟩:∃ k,n=k+1:=⟨n - 1,by omega⟩
 have hW:=qca
 rw[qpg hX]
 simp only[qiy,qi2,qhe]
 rw[qdi hX (by omega),qc]
 dsimp only
 unfold qgt
 cases h:hit got 13
 ·rw[qdu hX (by omega) hg _ _ h,qc,qcz h]
  dsimp only
  rw[qts hX (by omega),qc]
  dsimp only
  rw[cond_true]
  have e:=qrp hX n n (by omega) (fun v0_0=>qdo (DD X n) n v0_0) l hl (a:=(got,pl,13,true,())) rfl n 0 (by omega)
  rw[show ((0:Nat):Int)=0 from rfl] at e
  rw[e]
  exact ⟨true,by rw[List.append_nil];rfl⟩
 ·rw[qen hX (by omega) hg (by omega) _ h,qc,qdk h]
  dsimp only
  rw[qts hX (by omega),qc]
  dsimp only
  rw[cond_false]
  cases hs:decide ((qt got 13).1≤IntKind.wrap IntKind.i64 (c+1))
  ·rw[cond_false]
   obtain ⟨b,e⟩:=qbki hX n 0 (by omega) hg (fun v0_0=>qdo (DD X n) n v0_0) l hl n 0 (pl++[13]) (by omega) (by omega) (by rw[List.length_append];simp only[List.length_cons,List.length_nil];omega)
   rw[show ((0:Nat):Int)=0 from rfl,List.drop_zero] at e
   rw[e]
   exact ⟨b,by rw[List.append_assoc];rfl⟩
  ·rw[cond_true]
   have e:=qrp hX n n (by omega) (fun v0_0=>qdo (DD X n) n v0_0) l hl (a:=(got,pl++[13],-1,true,())) rfl n 0 (by omega)
   rw[show ((0:Nat):Int)=0 from rfl] at e
   rw[e]
   exact ⟨true,rfl⟩
theorem q48 (hn:5≤n) (pl:List Int) (m c:Int) (l:List Int) (hl:l.length≤2) (hW2:W+6≤n):qes (DD X n) (got,pl,m,true,()) c l=some ((),((got,pl,m,true,()),())):=by
 obtain ⟨n,rfl⟩:∃ k,n=k+1:=⟨n - 1,by omega⟩
 have hW:=qca
 rw[qpg hX]
 simp only[qiy,qi2,qhe]
 rw[qdi hX (by omega),qc]
 dsimp only
 rw[qsq hX (by omega),qc]
 dsimp only
 rw[qts hX (by omega),qc]
 dsimp only
 rw[cond_true]
 have e:=qrp hX n n (by omega) (fun v0_0=>qdo (DD X n) n v0_0) l hl (a:=(got,pl,m,true,())) rfl n 0 (by omega)
 rw[show ((0:Nat):Int)=0 from rfl] at e
 rw[e]
 rfl
end
end Go.G

namespace Go.G
set_option maxRecDepth 100000
open Go Go.V Go.Proofs
section
variable {X:Ext} (hX:XOk X) {n:Nat} {got:Got}
include hX
theorem qbjx (hn:W+8≤n) (hg:got.length≤1048576) (K V:Int) :
  ∃ b,qcq (DD X n) (got,[],-1,false,()) (1,K,V,())=some ((),((got,(run got (qjn (1,K,V,()))).1,(run got (qjn (1,K,V,()))).2,b,()),())):=by
 obtain ⟨n,rfl⟩:∃ k,n=k+1:=⟨n - 1,by omega⟩
 have hW:=qca
 have he:=fun pl m p=>qsq hX (n:=n) (got:=got) (by omega) pl m p
 have hs:=fun pl m o b=>qts hX (n:=n) (got:=got) (by omega) pl m o b
 have hr:=fun x=>qd3 hX (n:=n) (by omega) x
 have ho:=fun x=>qex hX (n:=n) (by omega) x
 have hc:=fun x=>qez hX (n:=n) (by omega) x
 have hk:=fun x=>qf7 hX (n:=n) (by omega) x
 have hwe:=fun pl m c l hl=>q48 hX (n:=n) (got:=got) (by omega) pl m c l hl (by omega)
 rw[qfc hX]
 simp only[qdp,qei]
 rw[hr,qc]
 dsimp only
 unfold qjn
 dsimp only
 cases h1:hit got (qr K)
 ·rw[qdu hX (by omega) hg _ _ h1,qc,qcz h1]
  dsimp only
  rw[ql trivial]
  simp only[he,hs,ho,hc,hk,qc,cond_true,hwe _ _ _ [V] (by simp)]
  exact ⟨true,rfl⟩
 ·rw[qen hX (by omega) hg (by simp) _ h1,qc,qdk h1]
  dsimp only
  rw[ql trivial,hs,qc]
  dsimp only
  rw[cond_false]
  cases h2:((qt got (qr K)).1 != 0)
  ·rw[cond_false,ho,qc]
   dsimp only
   cases h3:hit got (qv V)
   ·rw[qdu hX (by omega) hg _ _ h3,qc,qcz h3]
    simp only[he,hs,ho,hc,hk,qc,cond_true,hwe _ _ _ [V] (by simp)]
    exact ⟨true,rfl⟩
   ·rw[qen hX (by omega) hg (by simp) _ h3,qc,qdk h3]
    dsimp only
    rw[hs,qc]
    dsimp only
    rw[cond_false]
    cases h4:((qt got (qv V)).1 != 0)
    ·rw[cond_false,hk,qc]
     dsimp only
     rw[hc,qc]
     dsimp only
     cases h5:hit got (qbg (qh V))
     ·rw[qdu hX (by omega) hg _ _ h5,qc,qcz h5]
      simp only[qc,hwe _ _ _ [V] (by simp)]
      exact ⟨true,rfl⟩
     ·rw[qen hX (by omega) hg (by simp) _ h5,qc,qdk h5]
      dsimp only
      obtain ⟨b,e⟩:=q6y hX (n:=n) (by omega) hg (pl:=[]++[qr K]++[qv V]++[qbg (qh V)]) (by simp) K [V] (by simp)
      rw[e,qc]
      exact ⟨b,rfl⟩
    ·simp only[he,hs,ho,hc,hk,qc,cond_true,hwe _ _ _ [V] (by simp),run]
     exact ⟨true,rfl⟩
  ·simp only[he,hs,ho,hc,hk,qc,cond_true,hwe _ _ _ [V] (by simp),run]
   exact ⟨true,rfl⟩
theorem qbjd (hn:W+8≤n) (hg:got.length≤1048576) (K V:Int) :
  ∃ b,qcq (DD X n) (got,[],-1,false,()) (2,K,V,())=some ((),((got,(run got (qhl (2,K,V,()))).1,(run got (qhl (2,K,V,()))).2,b,()),())):=by
 obtain ⟨n,rfl⟩:∃ k,n=k+1:=⟨n - 1,by omega⟩
 have hW:=qca
 have he:=fun pl m p=>qsq hX (n:=n) (got:=got) (by omega) pl m p
 have hs:=fun pl m o b=>qts hX (n:=n) (got:=got) (by omega) pl m o b
 have hr:=fun x=>qd3 hX (n:=n) (by omega) x
 have ho:=fun x=>qex hX (n:=n) (by omega) x
 have hc:=fun x=>qez hX (n:=n) (by omega) x
 have hk:=fun x=>qf7 hX (n:=n) (by omega) x
 have hwe:=fun pl m c a b=>q48 hX (n:=n) (got:=got) (by omega) pl m c [a,b] (by simp) (by omega)
 have hsame:∀ (c:Bool) (x:Option (Unit×qcf×Unit)),br c x x=x:=by intro c x;cases c<;>rfl
 rw[qfc hX]
 simp only[qdp,qei]
 rw[hr,qc]
 dsimp only
 unfold qhl
 dsimp only
 cases h1:hit got (qr K)
 ·rw[qdu hX (by omega) hg _ _ h1,qc,qcz h1]
  dsimp only
  rw[qi (by decide),ql trivial]
  simp only[he,hs,ho,hc,hk,qc,cond_true,hwe,hsame]
  exact ⟨true,rfl⟩
 ·rw[qen hX (by omega) hg (by simp) _ h1,qc,qdk h1]
  dsimp only
  generalize hv:(qt got (qr K)).1=v
  rw[qi (by decide),ql trivial,hs,qc]
  dsimp only
  rw[cond_false]
  cases h2:(bif decide (v=0) then true else decide (v=V))
  ·rw[cond_false,ho,qc]
   dsimp only
   cases h3:hit got (qv V)
   ·rw[qdu hX (by omega) hg _ _ h3,qc,qcz h3]
    simp only[he,hs,ho,hc,hk,qc,cond_true,hwe,hsame]
    exact ⟨true,rfl⟩
   ·rw[qen hX (by omega) hg (by simp) _ h3,qc,qdk h3]
    dsimp only
    rw[hs,qc]
    dsimp only
    rw[cond_false]
    cases h4:((qt got (qv V)).1 != 0)
    ·rw[cond_false,ho,qc]
     dsimp only
     cases h5:hit got (qv v)
     ·rw[qdu hX (by omega) hg _ _ h5,qc,qcz h5]
      simp only[he,hs,ho,hc,hk,qc,cond_true,hwe,hsame]
      exact ⟨true,rfl⟩
     ·rw[qen hX (by omega) hg (by simp) _ h5,qc,qdk h5,hk,qc,hk,qc]
      dsimp only
      cases h6:(qh v != qh V)
      ·rw[br_f,cond_false]
       obtain ⟨b,e⟩:=q6y hX (n:=n) (by omega) hg (pl:=[]++[qr K]++[qv V]++[qv v]) (by simp) K [v,V] (by simp)
       rw[e,qc]
       exact ⟨b,rfl⟩
      ·rw[br_t,cond_true]
       simp only[qc]
       rw[hc,qc]
       dsimp only
       cases h7:hit got (qbg (qh v))
       ·rw[qdu hX (by omega) hg _ _ h7,qc,qcz h7]
        simp only[he,hs,ho,hc,hk,qc,cond_true,hwe,hsame]
        exact ⟨true,rfl⟩
       ·rw[qen hX (by omega) hg (by simp) _ h7,qc,qdk h7]
        simp only[qc]
        rw[hc,qc]
        dsimp only
        cases h8:hit got (qbg (qh V))
        ·rw[qdu hX (by omega) hg _ _ h8,qc,qcz h8]
         simp only[he,hs,ho,hc,hk,qc,cond_true,hwe,hsame]
         exact ⟨true,rfl⟩
        ·rw[qen hX (by omega) hg (by simp) _ h8,qc,qdk h8]
         dsimp only
         obtain ⟨b,e⟩:=q6y hX (n:=n) (by omega) hg (pl:=[]++[qr K]++[qv V]++[qv v]++[qbg (qh v)]++[qbg (qh V)]) (by simp) K [v,V] (by simp)
         rw[e,qc]
         exact ⟨b,rfl⟩
    ·simp only[he,hs,ho,hc,hk,qc,cond_true,hwe,run,hsame]
     exact ⟨true,rfl⟩
  ·simp only[he,hs,ho,hc,hk,qc,cond_true,hwe,run,hsame]
   exact ⟨true,rfl⟩
theorem qbj1 (hn:W+8≤n) (hg:got.length≤1048576) (K V:Int) :
  ∃ b,qcq (DD X n) (got,[],-1,false,()) (3,K,V,())=some ((),((got,(run got (qmr (3,K,V,()))).1,(run got (qmr (3,K,V,()))).2,b,()),())):=by
 obtain ⟨n,rfl⟩:∃ k,n=k+1:=⟨n - 1,by omega⟩
 have hW:=qca
 have he:=fun pl m p=>qsq hX (n:=n) (got:=got) (by omega) pl m p
 have hs:=fun pl m o b=>qts hX (n:=n) (got:=got) (by omega) pl m o b
 have hr:=fun x=>qd3 hX (n:=n) (by omega) x
 have ho:=fun x=>qex hX (n:=n) (by omega) x
 have hc:=fun x=>qez hX (n:=n) (by omega) x
 have hk:=fun x=>qf7 hX (n:=n) (by omega) x
 have hwe:=fun pl m c a=>q48 hX (n:=n) (got:=got) (by omega) pl m c [a] (by simp) (by omega)
 rw[qfc hX]
 simp only[qdp,qei]
 rw[hr,qc]
 dsimp only
 unfold qmr
 dsimp only
 cases h1:hit got (qr K)
 ·rw[qdu hX (by omega) hg _ _ h1,qc,qcz h1]
  dsimp only
  rw[qi (by decide),qi (by decide)]
  simp only[he,hs,ho,hc,hk,qc,cond_true,hwe]
  exact ⟨true,rfl⟩
 ·rw[qen hX (by omega) hg (by simp) _ h1,qc,qdk h1]
  dsimp only
  generalize hv:(qt got (qr K)).1=v
  rw[qi (by decide),qi (by decide),hs,qc]
  dsimp only
  rw[cond_false]
  cases h2:decide (v=0)
  ·rw[cond_false,ho,qc]
   dsimp only
   cases h3:hit got (qv v)
   ·rw[qdu hX (by omega) hg _ _ h3,qc,qcz h3]
    simp only[he,hs,ho,hc,hk,qc,cond_true,hwe]
    exact ⟨true,rfl⟩
   ·rw[qen hX (by omega) hg (by simp) _ h3,qc,qdk h3,hk,qc]
    dsimp only
    rw[hc,qc]
    dsimp only
    cases h5:hit got (qbg (qh v))
    ·rw[qdu hX (by omega) hg _ _ h5,qc,qcz h5]
     simp only[he,hs,ho,hc,hk,qc,cond_true,hwe]
     exact ⟨true,rfl⟩
    ·rw[qen hX (by omega) hg (by simp) _ h5,qc,qdk h5]
     dsimp only
     obtain ⟨b,e⟩:=q6y hX (n:=n) (by omega) hg (pl:=[]++[qr K]++[qv v]++[qbg (qh v)]) (by simp) K [v] (by simp)
     rw[e,qc]
     exact ⟨b,rfl⟩
  ·simp only[he,hs,ho,hc,hk,qc,cond_true,hwe,run]
   exact ⟨true,rfl⟩
end
end Go.G

namespace Go.G
set_option maxRecDepth 100000
open Go Go.V Go.Proofs
section
variable {X:Ext} (hX:XOk X) {n:Nat} {got:Got}
include hX
theorem q2r (hn:W+2≤n) (hg:got.length≤1048576) (p:Int):∃ b,qe (qk (DD X n) (got,[],-1,false,()) p) (fun b=>some ((b.2.1,()),())) =
  (some (((got,(run got (.ask p fun _=>.done)).1,(run got (.ask p fun _=>.done)).2,b,()),()),()):Option ((qcf×Unit)×Unit)):=by
 cases h:hit got p
 ·rw[qdu hX hn hg _ _ h,qc,qcz h];exact ⟨true,rfl⟩
 ·rw[qen hX hn hg (by simp) _ h,qc,qdk h];exact ⟨false,rfl⟩
theorem qbii (hn:W+2≤n) (hn3:3≤n) (hg:got.length≤1048576):∃ b,
  qe (qbn (DD X n)) (fun b↦
          qe (qk (DD X n) (got,[],-1,false,()) (Prod.fst (Prod.fst b))) fun b↦
           qe
            (qz (DD X n) (Prod.fst (Prod.snd b))
             (bif decide (Prod.fst (Prod.fst b)<1) then true else decide (Prod.fst (Prod.fst b)>4)))
            fun b_1↦
            qe (qcx (DD X n) (IntKind.wrap IntKind.i64 (Prod.fst (Prod.fst b) - 1))) fun b↦
             qe (qk (DD X n) (Prod.fst (Prod.snd b_1)) (Prod.fst (Prod.fst b))) fun b↦
              qe (qbw (DD X n) (Prod.fst (Prod.fst b))) fun b_2↦
               qe (qz (DD X n) (Prod.fst (Prod.snd b)) !Prod.fst (Prod.fst b_2)) fun b_3↦
                qe (qcj (DD X n) (Prod.fst (Prod.fst b))) fun b↦
                 qe (qk (DD X n) (Prod.fst (Prod.snd b_3)) (Prod.fst (Prod.fst b))) fun b↦
                  some ((Prod.fst (Prod.snd b),()),()))=(some (((got,(run got qnl).1,(run got qnl).2,b,()),()),()):Option ((qcf×Unit)×Unit)):=by
 have he:=fun pl m p=>qsq hX (n:=n) (got:=got) (by omega) pl m p
 have hs:=fun pl m o b=>qts hX (n:=n) (got:=got) (by omega) pl m o b
 have hr:=fun x=>qd3 hX (n:=n) (by omega) x
 have hv:=fun x=>qlj hX (n:=n) (by omega) x
 have hi:=fun x=>qgo hX (n:=n) (by omega) x
 rw[qdi hX (by omega),qc]
 dsimp only
 unfold qnl
 cases h:hit got 13
 ·rw[qdu hX hn hg _ _ h,qc,qcz h]
  simp only[he,hs,hr,hv,hi,qc,cond_true]
  exact ⟨true,rfl⟩
 ·rw[qen hX hn hg (by simp) _ h,qc,qdk h]
  dsimp only
  generalize (qt got 13).1=st
  rw[hs,qc]
  dsimp only
  rw[cond_false]
  cases h2:(bif decide (st<1) then true else decide (st>4))
  ·rw[cond_false,hr,qc]
   dsimp only
   cases h3:hit got (qr (IntKind.wrap IntKind.i64 (st - 1)))
   ·rw[qdu hX hn hg _ _ h3,qc,qcz h3]
    simp only[he,hs,hr,hv,hi,qc,cond_true]
    exact ⟨true,rfl⟩
   ·rw[qen hX hn hg (by simp) _ h3,qc,qdk h3]
    dsimp only
    generalize (qt got (qr (IntKind.wrap IntKind.i64 (st - 1)))).1=r
    rw[hv,qc]
    dsimp only
    rw[hs,qc]
    dsimp only
    rw[cond_false]
    cases h4:inR r 1 6
    ·simp only[he,hs,hr,hv,hi,qc,Bool.not_false,cond_true,run]
     exact ⟨true,rfl⟩
    ·rw[Bool.not_true,cond_false,hi,qc]
     dsimp only
     cases h5:hit got (q9 r)
     ·rw[qdu hX hn hg _ _ h5,qc,qcz h5];exact ⟨true,rfl⟩
     ·rw[qen hX hn hg (by simp) _ h5,qc,qdk h5];exact ⟨false,rfl⟩
  ·simp only[he,hs,hr,hv,hi,qc,cond_true,run]
   exact ⟨true,rfl⟩
theorem qbje (hn:W+2≤n) (hn3:3≤n) (hg:got.length≤1048576) (o:Op3):∃ b,
  qe (qbn (DD X n)) (fun b↦
           qe (qk (DD X n) (got,[],-1,false,()) (Prod.fst (Prod.fst b))) fun b↦
            qe (qz (DD X n) (Prod.fst (Prod.snd b)) (Prod.fst (Prod.fst b) != 5)) fun b↦
             qe (qcj (DD X n) o.2.2.1) fun b_1↦
              qe (qk (DD X n) (Prod.fst (Prod.snd b)) (Prod.fst (Prod.fst b_1))) fun b↦some ((Prod.fst (Prod.snd b),()),())) =
  (some (((got,(run got (qn6 o)).1,(run got (qn6 o)).2,b,()),()),()):Option ((qcf×Unit)×Unit)):=by
 have he:=fun pl m p=>qsq hX (n:=n) (got:=got) (by omega) pl m p
 have hs:=fun pl m o b=>qts hX (n:=n) (got:=got) (by omega) pl m o b
 have hi:=fun x=>qgo hX (n:=n) (by omega) x
 rw[qdi hX (by omega),qc]
 dsimp only
 unfold qn6
 cases h:hit got 13
 ·rw[qdu hX hn hg _ _ h,qc,qcz h]
  simp only[he,hs,hi,qc,cond_true]
  exact ⟨true,rfl⟩
 ·rw[qen hX hn hg (by simp) _ h,qc,qdk h]
  dsimp only
  generalize (qt got 13).1=st
  rw[hs,qc]
  dsimp only
  rw[cond_false]
  cases h2:(st != 5)
  ·rw[cond_false,hi,qc]
   dsimp only
   cases h5:hit got (q9 o.2.2.1)
   ·rw[qdu hX hn hg _ _ h5,qc,qcz h5];exact ⟨true,rfl⟩
   ·rw[qen hX hn hg (by simp) _ h5,qc,qdk h5];exact ⟨false,rfl⟩
  ·simp only[he,hs,hi,qc,cond_true,run]
   exact ⟨true,rfl⟩
def qw4:Nat→Nat→PR
 | _,0=>.done
 | i,d+1=>.ask (i:Int) fun _=>qw4 (i+1) d
theorem qbef (N n:Nat) (hN:3≤N) (K:qcf→Option ((qcf×Unit)×Unit)) (pl:List Int) (m0:Int):∀ (m i:Nat),i≤4→4 - i<m→qef (DD X N) n K m (i:Int) (got,pl,m0,true,())=K (got,pl,m0,true,())
 | 0,_,_,h=>by omega
 | m+1,i,hi,hf=>by
  simp only[qef,qjo]
  by_cases h:(i:Int)<4
  ·rw[ql h,qd3 hX (by omega),qc]
   dsimp only
   rw[qsq hX (by omega),qc,qbh (by omega)]
   exact qbef N n hN K pl m0 m (i+1) (by omega) (by omega)
  ·rw[qi h]
theorem qbh3 (N n:Nat) (hN:W+6≤N) (hN3:3≤N) (hg:got.length≤1048576) (K:qcf→Option ((qcf×Unit)×Unit)):∀ (m d i:Nat) (pl:List Int),i+d=4→d<m→pl.length≤i→
  ∃ b,qef (DD X N) n K m (i:Int) (got,pl,-1,false,())=K (got,pl++(run got (qw4 i d)).1,(run got (qw4 i d)).2,b,())
 | 0,_,_,_,_,h,_=>by omega
 | m+1,0,i,pl,hi,hf,hp=>by
  simp only[qef,qjo]
  rw[qi (by omega)]
  exact ⟨false,by simp only[qw4,run];rw[List.append_nil]⟩
 | m+1,d+1,i,pl,hi,hf,hp=>by
  simp only[qef,qjo]
  have hr:qr (i:Int)=i:=by unfold qr;rw[qbz.2 (by omega)];rfl
  rw[ql (by omega),qd3 hX (by omega),qc,hr]
  dsimp only
  simp only[qw4]
  rw[qbh (by omega)]
  cases h:hit got (i:Int)
  ·rw[qdu hX (by omega) hg _ _ h,qc,qcz h]
   dsimp only
   rw[qbef hX N n hN3 K pl (i:Int) m (i+1) (by omega) (by omega)]
   exact ⟨true,by rw[List.append_nil]⟩
  ·rw[qen hX (by omega) hg (by omega) _ h,qc,qdk h]
   dsimp only
   obtain ⟨b,e⟩:=qbh3 N n hN hN3 hg K m d (i+1) (pl++[(i:Int)]) (by omega) (by omega) (by rw[List.length_append];simp only[List.length_cons,List.length_nil];omega)
   rw[e]
   exact ⟨b,by rw[List.append_assoc];rfl⟩
theorem qbei (hn:W+10≤n) (hg:got.length≤1048576) (o:Op3) :
  ∃ b,qqh (DD X n) o got=some (((got,(run got (prog o)).1,(run got (prog o)).2,b,()),()),()):=by
 obtain ⟨n,rfl⟩:∃ k,n=k+1:=⟨n - 1,by omega⟩
 have hW:=qca
 obtain ⟨k,K,V,⟨⟩⟩:=o
 rw[q17 hX]
 simp only[qq8,qqb]
 unfold prog
 dsimp only
 by_cases k1:k=1
 ·subst k1
  obtain ⟨b,e⟩:=qbjx hX (n:=n) (by omega) hg K V
  rw[ql rfl,ql rfl,e,qc,if_pos rfl]
  exact ⟨b,rfl⟩
 rw[qi k1,if_neg k1]
 by_cases k2:k=2
 ·subst k2
  obtain ⟨b,e⟩:=qbjd hX (n:=n) (by omega) hg K V
  rw[ql rfl,ql rfl,e,qc,if_pos rfl]
  exact ⟨b,rfl⟩
 rw[qi k2,if_neg k2]
 by_cases k3:k=3
 ·subst k3
  obtain ⟨b,e⟩:=qbj1 hX (n:=n) (by omega) hg K V
  rw[ql rfl,e,qc,if_pos rfl]
  exact ⟨b,rfl⟩
 rw[qi k3,if_neg k3]
 by_cases k4:k=4
 ·rw[ql k4,if_pos k4,qd3 hX (by omega),qc]
  exact q2r hX (by omega) hg _
 rw[qi k4,if_neg k4]
 by_cases k5:k=5
 ·rw[ql k5,if_pos k5,qex hX (by omega),qc]
  exact q2r hX (by omega) hg _
 rw[qi k5,if_neg k5]
 by_cases k6:k=6
 ·rw[ql k6,if_pos k6,qez hX (by omega),qc]
  exact q2r hX (by omega) hg _
 rw[qi k6,if_neg k6]
 by_cases k7:k=7
 ·rw[ql k7,if_pos k7]
  simp only[qoi]
  obtain ⟨b,e⟩:=qbh3 hX n n (by omega) (by omega) hg (fun v0_0=>qmw (DD X n) n v0_0) n 4 0 [] rfl (by omega) (by simp)
  rw[show ((0:Nat):Int)=0 from rfl] at e
  rw[e]
  exact ⟨b,rfl⟩
 rw[qi k7,if_neg k7]
 by_cases k8:k=8
 ·rw[ql k8,if_pos k8,qdi hX (by omega),qc]
  exact q2r hX (by omega) hg _
 rw[qi k8,if_neg k8]
 by_cases k9:k=9
 ·rw[ql k9,if_pos k9]
  exact qbii hX (by omega) (by omega) hg
 rw[qi k9,if_neg k9]
 by_cases k10:k=10
 ·rw[ql k10,if_pos k10]
  exact qbje hX (by omega) (by omega) hg (k,K,V,())
 rw[qi k10,if_neg k10]
 exact ⟨false,rfl⟩
end
end Go.G

namespace Go.G
set_option maxRecDepth 100000
open Go Go.V Go.Proofs
abbrev qbr:=Int×Int×Int×Unit
def bubR {α:Type} (key:α→Int):List α→α→List α
 | [],x=>[x]
 | y::rs,x=>if key x<key y then y::bubR key rs x else x::y::rs
def bub {α:Type} (key:α→Int) (s:List α) (x:α):List α:=(bubR key s.reverse x).reverse
theorem qbcb {α:Type} (key:α→Int):∀ (rs:List α) (x:α),(bubR key rs x).length=rs.length+1
 | [],x=>rfl
 | y::rs,x=>by
  simp only[bubR]
  split
  ·simp only[List.length_cons,qbcb key rs x]
  ·simp only[List.length_cons]
theorem qzo {α:Type} (key:α→Int) (s:List α) (x:α):(bub key s x).length=s.length+1:=by
 unfold bub;rw[List.length_reverse,qbcb,List.length_reverse]
theorem qbdx {α:Type} (key:α→Int):∀ (rs:List α) (x z:α),z∈bubR key rs x↔z=x∨z∈rs
 | [],x,z=>by simp[bubR]
 | y::rs,x,z=>by
  simp only[bubR]
  split
  ·simp only[List.mem_cons,qbdx key rs x z]
   constructor
   ·rintro (h | h | h)
    ·exact .inr (.inl h)
    ·exact .inl h
    ·exact .inr (.inr h)
   ·rintro (h | h | h)
    ·exact .inr (.inl h)
    ·exact .inl h
    ·exact .inr (.inr h)
  ·simp only[List.mem_cons]
theorem q8p {α:Type} (key:α→Int) (s:List α) (x z:α):z∈bub key s x↔z=x∨z∈s:=by
 unfold bub;rw[List.mem_reverse,qbdx,List.mem_reverse]
theorem qbhd {α:Type} (key:α→Int) (e:α) (l1:List α) (h1:∀ y∈l1,key y≤key e):∀ (l2:List α),(∀ y∈l2,key e<key y)→bub key (l1++l2.reverse) e=l1++e::l2.reverse
 | [],_=>by
  unfold bub
  rw[List.reverse_nil,List.append_nil]
  cases h:l1.reverse with
  | nil=>
   have:l1=[]:=List.reverse_eq_nil_iff.1 h
   subst this;rfl
  | cons y rs=>
   have hy:y∈l1:=by rw[←List.mem_reverse,h];exact List.mem_cons_self
   simp only[bubR]
   rw[if_neg (by have:=h1 y hy;omega)]
   have:l1=rs.reverse++[y]:=by rw[←List.reverse_reverse l1,h,List.reverse_cons]
   rw[this]
   simp
 | y::l2,h2=>by
  have ih:=qbhd key e l1 h1 l2 (fun z hz=>h2 z (List.mem_cons_of_mem _ hz))
  unfold bub at ih ⊢
  rw[List.reverse_cons,←List.append_assoc,List.reverse_append]
  show (bubR key (y::(l1++l2.reverse).reverse) e).reverse=_
  simp only[bubR]
  rw[if_pos (h2 y List.mem_cons_self),List.reverse_cons,ih]
  simp
theorem qys {α:Type} (l:List α) (x:α) (t:List α) (d:α):(l++x::t).getD l.length d=x:=by simp[List.getD]
theorem q23 {α:Type} (l:List α) (x y:α) (t:List α):(l++x::t).set l.length y=l++y::t:=by simp
abbrev EntT:Ty:=Ty.pair (Ty.int IntKind.i64) (Ty.pair (Ty.int IntKind.i64) (Ty.pair (Ty.int IntKind.i64) Ty.unit))
def qjw (k:Int):Prop:=-1000≤k∧k≤1000
def ekey (e:qbr):Int:=e.1
section
variable {X:Ext} (hX:XOk X) {n:Nat}
include hX
theorem qbl0 (hn:1≤n) (a b:qbr) (ha:qjw a.1) (hb:qjw b.1):qfa ctx (DD X n) (Clo.mk 80 []) [CapV.val EntT a,CapV.val EntT b] (Ty.int IntKind.i64)=some (a.1 - b.1):=by
 obtain ⟨n,rfl⟩:∃ k,n=k+1:=⟨n - 1,by omega⟩
 have h:∀ D:Den ctx,qfa ctx D (Clo.mk 80 []) [CapV.val EntT a,CapV.val EntT b] (Ty.int IntKind.i64)=(qwd D a b).bind fun r=>some r.1.1:=fun D=>by kernel_rfl
 unfold qjw at ha hb
 rw[h,q4k hX]
 simp only[qpf,qwa,Option.bind_some]
 rw[qbl (by omega) (by omega)]
theorem qbjm (hn:1≤n) {a b x y:qbr} (ha:a=x) (hb:b=y) (hx:qjw x.1) (hy:qjw y.1):qfa ctx (DD X n) (Clo.mk 80 []) [CapV.val EntT a,CapV.val EntT b] (Ty.int IntKind.i64)=some (x.1 - y.1):=by
 subst ha;subst hb;exact qbl0 hX hn a b hx hy
theorem qbds (N n:Nat) (hN:1≤N) (K0:Int→Int→Int→List qbr→Option (Unit×List qbr×Unit)) (b i:Int) (x:qbr) (hx:qjw x.1):∀ (m:Nat) (rs t:List qbr),rs.length<m→rs.length+t.length≤1000→(∀ e∈rs,qjw e.1)→
  qbk (DD X N) n (Clo.mk 80 []) K0 m 0 b i (rs.length:Int) (rs.reverse++x::t)=K0 0 b i ((bubR ekey rs x).reverse++t)
 | 0,_,_,h,_,_=>by omega
 | m+1,[],t,_,_,_=>by
  simp only[qbk,qcv]
  rw[qi (by simp)]
  simp[bubR]
 | m+1,y::rs,t,hf,hl,hs=>by
  have hy:=hs y List.mem_cons_self
  have hlen:((y::rs).reverse++x::t).length=rs.length+t.length+2:=by simp;omega
  simp only[List.length_cons] at hf hl
  have e1:((y::rs).length:Int)=((rs.length+1:Nat):Int):=by simp
  have e2:IntKind.wrap IntKind.i64 (((rs.length+1:Nat):Int) - 1)=((rs.length:Nat):Int):=by rw[qbl (by omega) (by omega)];omega
  have g1:((y::rs).reverse++x::t).getD (rs.length+1) (0,0,0,())=x:=by
   have:=qys (y::rs).reverse x t (0,0,0,());rw[List.length_reverse,List.length_cons] at this;exact this
  have g2:((y::rs).reverse++x::t).getD rs.length (0,0,0,())=y:=by
   have:=qys rs.reverse y (x::t) (0,0,0,());rw[List.length_reverse] at this
   rw[List.reverse_cons,List.append_assoc];exact this
  have s1:((y::rs).reverse++x::t).set (rs.length+1) y=rs.reverse++y::(y::t):=by
   have:=q23 (y::rs).reverse x y t;rw[List.length_reverse,List.length_cons] at this
   rw[this,List.reverse_cons,List.append_assoc];rfl
  have s2:(rs.reverse++y::(y::t)).set rs.length x=rs.reverse++x::(y::t):=by
   have:=q23 rs.reverse y x (y::t);rw[List.length_reverse] at this;exact this
  simp only[qbk,qcv]
  rw[e1,e2,ql (by omega),ixn (by omega) (by rw[hlen];omega),br_t,ixn (by omega) (by rw[hlen];omega),br_t]
  simp only[Int.toNat_natCast,List.length_set]
  rw[qbjm hX hN g1 g2 hx hy,qc,g1,g2,br_t,br_t,br_t,s1,s2]
  have hl2:(rs.reverse++y::(y::t)).length=rs.length+t.length+2:=by simp;omega
  simp only[bubR]
  by_cases hlt:x.1<y.1
  ·rw[ql (show x.1 - y.1<0 by omega),ixn (by omega) (by rw[hlen];omega),br_t,if_pos (show ekey x<ekey y from hlt)]
   rw[qbds N n hN K0 b i x hx m rs (y::t) (by omega) (by simp only[List.length_cons];omega) (fun e he=>hs e (List.mem_cons_of_mem _ he))]
   rw[List.reverse_cons,List.append_assoc];rfl
  ·rw[qi (show ¬ x.1 - y.1<0 by omega),if_neg (show ¬ ekey x<ekey y from hlt)]
   simp
theorem q9w (N:Nat) (hN:1≤N) (hW:2000≤N) (K0:List qbr→Option (Unit×List qbr×Unit)):∀ (rest s:List qbr) (m:Nat),rest.length<m→s.length+rest.length≤1000→(∀ e∈s,qjw e.1)→(∀ e∈rest,qjw e.1)→
  qy (DD X N) N (Clo.mk 80 []) K0 m 0 ((s.length+rest.length:Nat):Int) (s.length:Int) (s++rest)=K0 (rest.foldl (bub ekey) s)
 | [],s,0,h,_,_,_=>by omega
 | _::_,s,0,h,_,_,_=>by omega
 | [],s,m+1,_,_,_,_=>by
  simp only[qy,qb3]
  rw[qi (by simp),List.append_nil]
  rfl
 | x::rest,s,m+1,hf,hl,hs,hr=>by
  simp only[List.length_cons] at hf hl
  simp only[qy,qb3,qdv]
  rw[ql (by simp only[List.length_cons];omega)]
  have e:=qbds hX N N hN (fun v0_0 v0_1 v0_2 v0_3=>qck (DD X N) N (Clo.mk 80 []) (qy (DD X N) N (Clo.mk 80 []) K0 m) K0 v0_0 v0_1 v0_2 v0_3)
   ((s.length+(x::rest).length:Nat):Int) (s.length:Int) x (hr x List.mem_cons_self) N s.reverse rest (by rw[List.length_reverse];omega) (by rw[List.length_reverse];omega) (fun e he=>hs e (List.mem_reverse.1 he))
  rw[List.length_reverse,List.reverse_reverse] at e
  rw[e]
  simp only[qck]
  rw[qbh (by omega)]
  have e2:=q9w N hN hW K0 rest (bub ekey s x) m (by omega) (by rw[qzo];omega) (fun z hz=>by
   rcases (q8p ekey s x z).1 hz with h | h
   ·subst h;exact hr _ List.mem_cons_self
   ·exact hs z h) (fun z hz=>hr z (List.mem_cons_of_mem _ hz))
  rw[qzo] at e2
  rw[show s.length+(x::rest).length=s.length+1+rest.length by simp only[List.length_cons];omega]
  exact e2
end
end Go.G

namespace Go.G
set_option maxRecDepth 100000
open Go Go.V Go.Proofs
def ikey (e:Int):Int:=e
theorem qbll (D:Den ctx) (n:Nat):qbu D n 0=some ((0,()),()):=by kernel_rfl
theorem qbl3 (D:Den ctx) (n:Nat):qbu D n 1=some ((1,()),()):=by kernel_rfl
theorem qbli (D:Den ctx) (n:Nat):qbu D n 2=some ((2,()),()):=by kernel_rfl
theorem qbkz (D:Den ctx) (n:Nat):qbu D n 3=some ((2,()),()):=by kernel_rfl
theorem qblk (D:Den ctx) (n:Nat):qbu D n 4=some ((3,()),()):=by kernel_rfl
theorem qblx (D:Den ctx) (n:Nat):qbu D n 5=some ((3,()),()):=by kernel_rfl
theorem qbln (D:Den ctx) (n:Nat):qbu D n 6=some ((3,()),()):=by kernel_rfl
theorem qbkr (D:Den ctx) (n:Nat):qbu D n 7=some ((3,()),()):=by kernel_rfl
theorem qblv (D:Den ctx) (n:Nat):qbu D n 8=some ((4,()),()):=by kernel_rfl
theorem qblg (D:Den ctx) (n:Nat):qbu D n 9=some ((4,()),()):=by kernel_rfl
theorem qbja (D:Den ctx) (n:Nat):qbu D n 10=some ((4,()),()):=by kernel_rfl
theorem qbj4 (D:Den ctx) (n:Nat):qbu D n 11=some ((4,()),()):=by kernel_rfl
theorem qbjt (D:Den ctx) (n:Nat):qbu D n 12=some ((4,()),()):=by kernel_rfl
section
variable {X:Ext} (hX:XOk X) {n:Nat}
include hX
theorem qbmh (hn:2≤n) (a b:Int):qds (DD X n) a b=some ((decide (a<b),()),()):=by
 obtain ⟨n,rfl⟩:∃ k,n=k+2:=⟨n - 2,by omega⟩
 rw[q89 hX]
 simp only[qso,qy3]
 rw[q5u hX]
 simp only[qra,qxj,qc]
 rw[show (a != a)=false by simp,br_f]
 rfl
theorem qbd6 (N n:Nat) (hN:2≤N) (K0:Int→Int→Int→List Int→Option (Unit×List Int×Unit)) (b i:Int) (x:Int) (hx:qjw x):∀ (m:Nat) (rs t:List Int),rs.length<m→rs.length+t.length≤1000→(∀ e∈rs,qjw e)→
  qby (DD X N) n K0 m 0 b i (rs.length:Int) (rs.reverse++x::t)=K0 0 b i ((bubR ikey rs x).reverse++t)
 | 0,_,_,h,_,_=>by omega
 | m+1,[],t,_,_,_=>by
  simp only[qby,qdq]
  rw[qi (by simp)]
  simp[bubR]
 | m+1,y::rs,t,hf,hl,hs=>by
  have hy:=hs y List.mem_cons_self
  have hlen:((y::rs).reverse++x::t).length=rs.length+t.length+2:=by simp;omega
  simp only[List.length_cons] at hf hl
  have e1:((y::rs).length:Int)=((rs.length+1:Nat):Int):=by simp
  have e2:IntKind.wrap IntKind.i64 (((rs.length+1:Nat):Int) - 1)=((rs.length:Nat):Int):=by rw[qbl (by omega) (by omega)];omega
  have g1:((y::rs).reverse++x::t).getD (rs.length+1) 0=x:=by
   have:=qys (y::rs).reverse x t 0;rw[List.length_reverse,List.length_cons] at this;exact this
  have g2:((y::rs).reverse++x::t).getD rs.length 0=y:=by
   have:=qys rs.reverse y (x::t) 0;rw[List.length_reverse] at this
   rw[List.reverse_cons,List.append_assoc];exact this
  have s1:((y::rs).reverse++x::t).set (rs.length+1) y=rs.reverse++y::(y::t):=by
   have:=q23 (y::rs).reverse x y t;rw[List.length_reverse,List.length_cons] at this
   rw[this,List.reverse_cons,List.append_assoc];rfl
  have s2:(rs.reverse++y::(y::t)).set rs.length x=rs.reverse++x::(y::t):=by
   have:=q23 rs.reverse y x (y::t);rw[List.length_reverse] at this;exact this
  simp only[qby,qdq]
  rw[e1,e2,ql (by omega),ixn (by omega) (by rw[hlen];omega),br_t,ixn (by omega) (by rw[hlen];omega),br_t]
  simp only[Int.toNat_natCast,List.length_set]
  rw[g1,g2,qbmh hX hN,qc]
  dsimp only
  rw[br_t,br_t,br_t,s1,s2]
  have hl2:(rs.reverse++y::(y::t)).length=rs.length+t.length+2:=by simp;omega
  simp only[bubR]
  by_cases hlt:x<y
  ·rw[ql (show x<y from hlt),ixn (by omega) (by rw[hlen];omega),br_t,if_pos (show ikey x<ikey y from hlt)]
   rw[qbd6 N n hN K0 b i x hx m rs (y::t) (by omega) (by simp only[List.length_cons];omega) (fun e he=>hs e (List.mem_cons_of_mem _ he))]
   rw[List.reverse_cons,List.append_assoc];rfl
  ·rw[qi (show ¬ x<y from hlt),if_neg (show ¬ ikey x<ikey y from hlt)]
   simp
theorem qban (N:Nat) (hN:2≤N) (hW:2000≤N) (K0:List Int→Option (Unit×List Int×Unit)):∀ (rest s:List Int) (m:Nat),rest.length<m→s.length+rest.length≤1000→(∀ e∈s,qjw e)→(∀ e∈rest,qjw e)→
  qbc (DD X N) N K0 m 0 ((s.length+rest.length:Nat):Int) (s.length:Int) (s++rest)=K0 (rest.foldl (bub ikey) s)
 | [],s,0,h,_,_,_=>by omega
 | _::_,s,0,h,_,_,_=>by omega
 | [],s,m+1,_,_,_,_=>by
  simp only[qbc,qcw]
  rw[qi (by simp),List.append_nil]
  rfl
 | x::rest,s,m+1,hf,hl,hs,hr=>by
  simp only[List.length_cons] at hf hl
  simp only[qbc,qcw,qe3]
  rw[ql (by simp only[List.length_cons];omega)]
  have e:=qbd6 hX N N hN (fun v0_0 v0_1 v0_2 v0_3=>qdh (DD X N) N (qbc (DD X N) N K0 m) K0 v0_0 v0_1 v0_2 v0_3)
   ((s.length+(x::rest).length:Nat):Int) (s.length:Int) x (hr x List.mem_cons_self) N s.reverse rest (by rw[List.length_reverse];omega) (by rw[List.length_reverse];omega) (fun e he=>hs e (List.mem_reverse.1 he))
  rw[List.length_reverse,List.reverse_reverse] at e
  rw[e]
  simp only[qdh]
  rw[qbh (by omega)]
  have e2:=qban N hN hW K0 rest (bub ikey s x) m (by omega) (by rw[qzo];omega) (fun z hz=>by
   rcases (q8p ikey s x z).1 hz with h | h
   ·subst h;exact hr _ List.mem_cons_self
   ·exact hs z h) (fun z hz=>hr z (List.mem_cons_of_mem _ hz))
  rw[qzo] at e2
  rw[show s.length+(x::rest).length=s.length+1+rest.length by simp only[List.length_cons];omega]
  exact e2
theorem qbkg (hn:2≤n) (k:Nat) (hk:k≤12):∃ v,qm5 (DD X n) (IntKind.wrap IntKind.u64 (k:Int))=some ((v,()),()):=by
 obtain ⟨n,rfl⟩:∃ k,n=k+2:=⟨n - 2,by omega⟩
 have hw:IntKind.wrap IntKind.u64 (k:Int)=(k:Int):=by
  have:∀ j:Fin 13,IntKind.wrap IntKind.u64 ((j:Nat):Int)=((j:Nat):Int):=by decide +kernel
  exact this ⟨k,by omega⟩
 rw[hw,q5q hX]
 simp only[qq4,qxz]
 rw[q27 hX]
 have key:∃ v,qbu (DD X n) n (k:Int)=some ((v,()),()):=by
  match k,hk with
  | 0,_=>exact ⟨_,qbll _ _⟩
  | 1,_=>exact ⟨_,qbl3 _ _⟩
  | 2,_=>exact ⟨_,qbli _ _⟩
  | 3,_=>exact ⟨_,qbkz _ _⟩
  | 4,_=>exact ⟨_,qblk _ _⟩
  | 5,_=>exact ⟨_,qblx _ _⟩
  | 6,_=>exact ⟨_,qbln _ _⟩
  | 7,_=>exact ⟨_,qbkr _ _⟩
  | 8,_=>exact ⟨_,qblv _ _⟩
  | 9,_=>exact ⟨_,qblg _ _⟩
  | 10,_=>exact ⟨_,qbja _ _⟩
  | 11,_=>exact ⟨_,qbj4 _ _⟩
  | 12,_=>exact ⟨_,qbjt _ _⟩
  | k+13,h=>omega
 obtain ⟨v,e⟩:=key
 rw[e,qc]
 exact ⟨v,rfl⟩
theorem qblc (hn:W+6≤n) (l:List Int) (hl:l.length≤12) (hs:∀ e∈l,qjw e):qhn (DD X n) l=some ((),l.foldl (bub ikey) [],()):=by
 obtain ⟨n,rfl⟩:∃ k,n=k+3:=⟨n - 3,by omega⟩
 have hW:=qca
 rw[qyu hX]
 simp only[qk2,qpz]
 obtain ⟨v,e⟩:=qbkg hX (n:=n+2) (by omega) l.length hl
 rw[e,qc]
 dsimp only
 rw[qtv hX]
 simp only[qhc,qhb,qgp]
 rw[show n+1=n+1 from rfl]
 simp only[qdx,qgw]
 rw[qbl (by omega) (by omega),ql (by omega),qox hX]
 simp only[qfl,qfj,qe5]
 rw[show IntKind.wrap IntKind.i64 (0+1)=((1:Nat):Int) by decide +kernel]
 cases l with
 | nil=>
  obtain ⟨n,rfl⟩:∃ k,n=k+1:=⟨n - 1,by omega⟩
  simp only[qbc,qcw]
  rw[qi (by simp)]
  rfl
 | cons x l=>
  have:=qban hX n (by omega) (by omega) (fun v0_0=>qer (DD X n) n v0_0) l [x] n (by simp only[List.length_cons] at hl;omega) (by simp only[List.length_cons,List.length_nil] at hl ⊢;omega) (fun e he=>hs e (by simp only[List.mem_singleton] at he;subst he;exact List.mem_cons_self)) (fun e he=>hs e (List.mem_cons_of_mem _ he))
  simp only[List.length_cons,List.length_nil,Nat.zero_add,List.singleton_append] at this ⊢
  rw[show l.length+1=1+l.length by omega,this]
  rfl
theorem qbl2 (hn:W+6≤n) (l:List qbr) (hl:l.length≤12) (hs:∀ e∈l,qjw e.1):qc7 (DD X n) l (Clo.mk 80 [])=some ((),l.foldl (bub ekey) [],()):=by
 obtain ⟨n,rfl⟩:∃ k,n=k+3:=⟨n - 3,by omega⟩
 have hW:=qca
 rw[qmh hX]
 simp only[qee,qgm]
 obtain ⟨v,e⟩:=qbkg hX (n:=n+2) (by omega) l.length hl
 rw[e,qc]
 dsimp only
 rw[qoq hX]
 simp only[qe8,qe9,qew]
 simp only[qcm,qe1]
 rw[qbl (by omega) (by omega),ql (by omega),qlz hX]
 simp only[qed,qd8,qd0]
 rw[show IntKind.wrap IntKind.i64 (0+1)=((1:Nat):Int) by decide +kernel]
 cases l with
 | nil=>
  obtain ⟨n,rfl⟩:∃ k,n=k+1:=⟨n - 1,by omega⟩
  simp only[qy,qb3]
  rw[qi (by simp)]
  rfl
 | cons x l=>
  have:=q9w hX n (by omega) (by omega) (fun v0_0=>qdn (DD X n) n (Clo.mk 80 []) v0_0) l [x] n (by simp only[List.length_cons] at hl;omega) (by simp only[List.length_cons,List.length_nil] at hl ⊢;omega) (fun e he=>hs e (by simp only[List.mem_singleton] at he;subst he;exact List.mem_cons_self)) (fun e he=>hs e (List.mem_cons_of_mem _ he))
  simp only[List.length_cons,List.length_nil,Nat.zero_add,List.singleton_append] at this ⊢
  rw[show l.length+1=1+l.length by omega,this]
  rfl
end
end Go.G

namespace Go.G
set_option maxRecDepth 100000
open Go Go.V Go.Proofs
def ent (got:Got) (p:Int) (f:Int→Int):List qbr:=bif hit got p then [(p,(qt got p).1,f (qt got p).1,())] else []
theorem qgg {got:Got} {p:Int} (h:hit got p=true) (f:Int→Int):ent got p f=[(p,(qt got p).1,f (qt got p).1,())]:=by unfold ent;rw[h];rfl
theorem qr7 {got:Got} {p:Int} (h:hit got p=false) (f:Int→Int):ent got p f=[]:=by unfold ent;rw[h];rfl
theorem qfx (got:Got) (p:Int) (f:Int→Int):(ent got p f).length≤1:=by unfold ent;cases hit got p<;>simp
def one (v:Int):Int:=IntKind.wrap IntKind.i64 (v+1)
def less (v:Int):Int:=if IntKind.wrap IntKind.i64 (v - 1)>0 then IntKind.wrap IntKind.i64 (v - 1) else 0
def insS (l:List qbr) (e:qbr):List qbr:=l.takeWhile (fun y=>decide (y.1<e.1))++e::l.dropWhile (fun y=>decide (y.1<e.1))
theorem qpn (l:List qbr) (e:qbr):(insS l e).length=l.length+1:=by
 unfold insS
 have:=congrArg List.length (List.takeWhile_append_dropWhile (p:=fun y:qbr=>decide (y.1<e.1)) (l:=l))
 rw[List.length_append] at this ⊢
 rw[List.length_cons]
 omega
theorem q8g (got:Got) (p:Int):(bif decide (p<0) then true else !(qt got p).2)=!hit got p:=by
 unfold hit
 by_cases h:p<0
 ·rw[decide_eq_true h,decide_eq_false (by omega:¬ 0≤p)];rfl
 ·rw[decide_eq_false h,decide_eq_true (by omega:0≤p)];rfl
theorem qbjb (got:Got) (p:Int):(bif !(qt got p).2 then true else decide (p<0))=!hit got p:=by
 unfold hit
 by_cases h:p<0
 ·rw[decide_eq_true h,decide_eq_false (by omega:¬ 0≤p)];cases (qt got p).2<;>rfl
 ·rw[decide_eq_false h,decide_eq_true (by omega:0≤p)];cases (qt got p).2<;>rfl
section
variable {X:Ext} (hX:XOk X) {n:Nat} {got:Got}
include hX
theorem qze (hn:W+2≤n) (hg:got.length≤1048576) {out:List qbr} (ho:out.length≤100) (p to:Int):qcr (DD X n) p to 0 got out=some ((),(out++ent got p (fun _=>to)),()):=by
 obtain ⟨n,rfl⟩:∃ k,n=k+1:=⟨n - 1,by omega⟩
 have hb:=qfw
 rw[qpp hX]
 simp only[qiw,qlx]
 rw[qe0 hX (by omega) got hg,qc]
 dsimp only
 rw[q8g]
 cases h:hit got p
 ·rw[Bool.not_false,br_t,qr7 h,List.append_nil]
 ·rw[Bool.not_true,br_f,qi (by decide),qi (by decide),ql (by omega),qgg h]
theorem qbmf (hn:W+2≤n) (hg:got.length≤1048576) {out:List qbr} (ho:out.length≤100) (p to:Int):qcr (DD X n) p to 1 got out=some ((),(out++ent got p one),()):=by
 obtain ⟨n,rfl⟩:∃ k,n=k+1:=⟨n - 1,by omega⟩
 have hb:=qfw
 rw[qpp hX]
 simp only[qiw,qlx]
 rw[qe0 hX (by omega) got hg,qc]
 dsimp only
 rw[q8g]
 cases h:hit got p
 ·rw[Bool.not_false,br_t,qr7 h,List.append_nil]
 ·rw[Bool.not_true,br_f,ql trivial,ql (by omega),qgg h];rfl
theorem qbmj (hn:W+2≤n) (hg:got.length≤1048576) {out:List qbr} (ho:out.length≤100) (p to:Int):qcr (DD X n) p to (-1) got out=some ((),(out++ent got p less),()):=by
 obtain ⟨n,rfl⟩:∃ k,n=k+1:=⟨n - 1,by omega⟩
 have hb:=qfw
 rw[qpp hX]
 simp only[qiw,qlx]
 rw[qe0 hX (by omega) got hg,qc]
 dsimp only
 rw[q8g]
 cases h:hit got p
 ·rw[Bool.not_false,br_t,qr7 h,List.append_nil]
 ·rw[Bool.not_true,br_f,qi (by decide),ql trivial,ql (by omega),qgg h];rfl
theorem qbgg (D:Den ctx) (n:Nat) (K:List qbr→Int→Int→Int→Int→Option ((List qbr×Unit)×Unit)) (l:List qbr) (hl:l.length≤1000) (p a b:Int):∀ (m:Nat) (l1 l2:List qbr),l=l1++l2→l2.length<m→
  qhy D n K m l p a b (l1.length:Int)=K l p a b ((l1++l2.takeWhile (fun y=>decide (y.1<p))).length:Int)
 | 0,_,_,_,h=>by omega
 | m+1,l1,[],e,hf=>by
  simp only[qhy,qo9]
  subst e
  rw[qi (by simp)]
  simp
 | m+1,l1,y::l2,e,hf=>by
  simp only[qhy,qo9]
  have hlen:l.length=l1.length+(l2.length+1):=by rw[e,List.length_append,List.length_cons]
  rw[ql (by omega),ixn (by omega) (by omega),br_t]
  have g:l.getD (Int.toNat (l1.length:Int)) (0,0,0,())=y:=by rw[Int.toNat_natCast,e];exact qys _ _ _ _
  rw[g]
  by_cases h:y.1<p
  ·rw[ql h,qbh (by omega)]
   have:=qbgg D n K l hl p a b m (l1++[y]) l2 (by rw[e,List.append_assoc];rfl) (by simp only[List.length_cons] at hf;omega)
   rw[List.length_append,List.length_singleton] at this
   rw[this,List.takeWhile_cons_of_pos (by exact decide_eq_true h),List.append_assoc]
   rfl
  ·rw[qi h,List.takeWhile_cons_of_neg (by simpa using h),List.append_nil]
theorem qmo (hn:W+2≤n) (hg:got.length≤1048576) {l:List qbr} (hl:l.length≤100) (p a:Int):qbx (DD X n) l got p a=some (((ent got p (fun _=>a)).foldl insS l,()),()):=by
 obtain ⟨n,rfl⟩:∃ k,n=k+1:=⟨n - 1,by omega⟩
 have hb:=qfw
 have hW:=qca
 rw[qbel hX]
 simp only[qwy,qv9,qsb]
 rw[qec hX (by omega) got hg,qc]
 dsimp only
 rw[qbjb]
 cases h:hit got p
 ·rw[Bool.not_false,br_t,qr7 h];rfl
 ·rw[Bool.not_true,br_f,qgg h]
  have e:=qbgg hX (DD X n) n (fun v0_0 v0_1 v0_2 v0_3 v0_4=>qm6 (DD X n) n v0_0 v0_1 v0_2 v0_3 v0_4) l (by omega) p a (qt got p).1 n [] l rfl (by omega)
  rw[show (([]:List qbr).length:Int)=0 from rfl,List.nil_append] at e
  rw[e]
  simp only[qm6]
  have hsplit:=List.takeWhile_append_dropWhile (p:=fun y:qbr=>decide (y.1<p)) (l:=l)
  generalize hA:l.takeWhile (fun y:qbr=>decide (y.1<p))=A at hsplit
  generalize hB:l.dropWhile (fun y:qbr=>decide (y.1<p))=B at hsplit
  have hlen:A.length+B.length=l.length:=by rw[←hsplit,List.length_append]
  have t1:l.take A.length=A:=by rw[←hsplit];simp
  have t2:l.drop A.length=B:=by rw[←hsplit];simp
  simp only[Int.toNat_natCast,Int.toNat_zero,List.drop_zero,List.nil_append,t1,List.take_length,t2,List.length_append,List.length_singleton]
  rw[show (decide ((0:Nat)≤0)&&decide ((0:Int)≤(A.length:Int))&&decide ((A.length:Int)≤(l.length:Int)))=true by
   rw[decide_eq_true (by omega:(0:Int)≤(A.length:Int)),decide_eq_true (by omega:(A.length:Int)≤(l.length:Int))];rfl]
  rw[br_t,ql (by omega),ql (by omega)]
  rw[show (decide ((0:Int)≤(A.length:Int))&&decide ((A.length:Int)≤(l.length:Int))&&decide ((l.length:Int)≤(l.length:Int)))=true by
   rw[decide_eq_true (by omega:(0:Int)≤(A.length:Int)),decide_eq_true (by omega:(A.length:Int)≤(l.length:Int)),decide_eq_true (by omega:(l.length:Int)≤(l.length:Int))];rfl]
  rw[br_t,ql (by omega)]
  simp only[List.foldl_cons,List.foldl_nil,insS]
  rw[hA,hB,List.append_assoc]
  rfl
theorem qwn (hn:W+4≤n) (hg:got.length≤1048576) {l:List qbr} (hl:l.length≤100) (p:Int):qfq (DD X n) l got p=some (((ent got p (fun v=>v)).foldl insS l,()),()):=by
 obtain ⟨n,rfl⟩:∃ k,n=k+1:=⟨n - 1,by omega⟩
 rw[qbau hX]
 simp only[quv,q0z]
 rw[qec hX (by omega) got hg,qc]
 dsimp only
 rw[qmo hX (by omega) hg hl,qc]
 rfl
theorem qble (hn:1≤n) (a b:Int):qwf (DD X n) a b=some ((max a b,()),()):=by
 obtain ⟨n,rfl⟩:∃ k,n=k+1:=⟨n - 1,by omega⟩
 rw[qbdq hX]
 simp only[qv4,q12]
 by_cases h:a>b
 ·rw[ql h,Int.max_eq_left (by omega)]
 ·rw[qi h,Int.max_eq_right (by omega)]
theorem qbdf (hn:W+4≤n) (hg:got.length≤1048576) {l:List qbr} (hl:l.length≤100) (v by_:Int) :
  qgn (DD X n) l got v by_=some (((ent got (qbg (qh v)) (fun x=>max (IntKind.wrap IntKind.i64 (x+by_)) 0)).foldl insS l,()),()):=by
 obtain ⟨n,rfl⟩:∃ k,n=k+1:=⟨n - 1,by omega⟩
 rw[qba3 hX]
 simp only[qt6,q00]
 rw[qj5 hX (by omega),qc]
 dsimp only
 rw[qka hX (by omega),qc]
 dsimp only
 rw[qec hX (by omega) got hg,qc]
 dsimp only
 rw[qble hX (by omega),qc]
 dsimp only
 rw[qmo hX (by omega) hg hl,qc]
 rfl
end
end Go.G

namespace Go.G
set_option maxRecDepth 100000
open Go Go.V Go.Proofs
theorem qjz (k:Int):((0≤k∧k≤3)∧qr k=k)∨(¬ (0≤k∧k≤3)∧qr k = -1):=by
 unfold qr
 by_cases h:0≤k∧k≤3
 ·rw[qbz.2 h];exact .inl ⟨h,rfl⟩
 ·rw[qjt h];exact .inr ⟨h,rfl⟩
theorem qgy (v:Int):((1≤v∧v≤6)∧qv v=3+v)∨(¬ (1≤v∧v≤6)∧qv v = -1):=by
 unfold qv
 by_cases h:1≤v∧v≤6
 ·rw[qbz.2 h,cond_true,qbl (by omega) (by omega)];exact .inl ⟨h,rfl⟩
 ·rw[qjt h];exact .inr ⟨h,rfl⟩
theorem qfo (v:Int):((1≤v∧v≤6)∧q9 v=13+v)∨(¬ (1≤v∧v≤6)∧q9 v = -1):=by
 unfold q9
 by_cases h:1≤v∧v≤6
 ·rw[qbz.2 h,cond_true,qbl (by omega) (by omega)];exact .inl ⟨h,rfl⟩
 ·rw[qjt h];exact .inr ⟨h,rfl⟩
theorem qf9 (c:Int):((0≤c∧c≤2)∧qbg c=10+c)∨(¬ (0≤c∧c≤2)∧qbg c = -1):=by
 unfold qbg
 by_cases h:0≤c∧c≤2
 ·rw[qbz.2 h,cond_true,qbl (by omega) (by omega)];exact .inl ⟨h,rfl⟩
 ·rw[qjt h];exact .inr ⟨h,rfl⟩
theorem qi1 (v:Int):((1≤v∧v≤6)∧0≤qh v∧qh v≤2)∨(¬ (1≤v∧v≤6)∧qh v = -1):=by
 unfold qh
 by_cases h:1≤v∧v≤6
 ·rw[qbz.2 h,cond_true,Int.tmod_eq_emod_of_nonneg (by omega)]
  exact .inl ⟨h,Int.emod_nonneg _ (by omega),by have:=Int.emod_lt_of_pos v (show (0:Int)<3 by omega);omega⟩
 ·rw[qjt h];exact .inr ⟨h,rfl⟩
def Asc (l:List qbr):Prop:=l.Pairwise fun a b=>a.1<b.1
theorem q8q (p:Int):∀ (l:List qbr),Asc l→∀ y∈l.dropWhile (fun y=>decide (y.1<p)),p≤y.1
 | [],_,y,h=>by simp at h
 | x::l,hs,y,h=>by
  have hs2:=List.pairwise_cons.1 hs
  by_cases hx:x.1<p
  ·rw[List.dropWhile_cons_of_pos (by exact decide_eq_true hx)] at h
   exact q8q p l hs2.2 y h
  ·rw[List.dropWhile_cons_of_neg (by simpa using hx)] at h
   rcases List.mem_cons.1 h with h | h
   ·subst h;omega
   ·have:=hs2.1 y h;omega
theorem q8y (p:Int):∀ (l:List qbr),∀ y∈l.takeWhile (fun y=>decide (y.1<p)),y.1<p
 | [],y,h=>by simp at h
 | x::l,y,h=>by
  by_cases hx:x.1<p
  ·rw[List.takeWhile_cons_of_pos (by exact decide_eq_true hx)] at h
   rcases List.mem_cons.1 h with h | h
   ·subst h;exact hx
   ·exact q8y p l y h
  ·rw[List.takeWhile_cons_of_neg (by simpa using hx)] at h;simp at h
theorem qbb3 (l:List qbr) (e z:qbr):z∈insS l e↔z=e∨z∈l:=by
 unfold insS
 have h:z∈l↔z∈l.takeWhile (fun y=>decide (y.1<e.1))∨z∈l.dropWhile (fun y=>decide (y.1<e.1)):=by
  rw[←List.mem_append,List.takeWhile_append_dropWhile]
 rw[List.mem_append,List.mem_cons,h]
 constructor
 ·rintro (h | h | h)
  ·exact .inr (.inl h)
  ·exact .inl h
  ·exact .inr (.inr h)
 ·rintro (h | h | h)
  ·exact .inr (.inl h)
  ·exact .inl h
  ·exact .inr (.inr h)
theorem qbjh {l:List qbr} (hs:Asc l) {e:qbr} (he:∀ y∈l,y.1≠e.1):Asc (insS l e):=by
 unfold insS
 have hd:∀ y∈l.dropWhile (fun y=>decide (y.1<e.1)),e.1<y.1:=fun y hy=>by
  have h1:=q8q e.1 l hs y hy
  have h2:=he y (List.dropWhile_sublist _ |>.mem hy)
  omega
 have ht:=q8y e.1 l
 refine List.pairwise_append.2 ⟨hs.sublist (List.takeWhile_sublist _),List.pairwise_cons.2 ⟨hd,hs.sublist (List.dropWhile_sublist _)⟩,fun a ha b hb=>?_⟩
 have h1:=ht a ha
 rcases List.mem_cons.1 hb with h | h
 ·subst h;exact h1
 ·have:=hd b h;omega
theorem qbl1 {l:List qbr} (hs:Asc l) {e:qbr} (he:∀ y∈l,y.1≠e.1):bub ekey l e=insS l e:=by
 have hd:∀ y∈l.dropWhile (fun y=>decide (y.1<e.1)),e.1<y.1:=fun y hy=>by
  have h1:=q8q e.1 l hs y hy
  have h2:=he y (List.dropWhile_sublist _ |>.mem hy)
  omega
 have ht:=q8y e.1 l
 have:=qbhd ekey e (l.takeWhile (fun y=>decide (y.1<e.1))) (fun y hy=>by have:=ht y hy;unfold ekey;omega) (l.dropWhile (fun y=>decide (y.1<e.1))).reverse (fun y hy=>hd y (List.mem_reverse.1 hy))
 rw[List.reverse_reverse,List.takeWhile_append_dropWhile] at this
 rw[this]
 rfl
def qbgl (l:List qbr):Prop:=l.Pairwise fun a b=>a.1≠b.1
theorem qbcn:∀ (L acc:List qbr),Asc acc→qbgl L→(∀ a∈acc,∀ e∈L,a.1≠e.1)→L.foldl (bub ekey) acc=L.foldl insS acc∧Asc (L.foldl insS acc)∧(∀ z,z∈L.foldl insS acc↔z∈acc∨z∈L)∧(L.foldl insS acc).length=acc.length+L.length
 | [],acc,h,_,_=>⟨rfl,h,fun z=>by simp,rfl⟩
 | e::L,acc,h,hL,hx=>by
  have hL2:=List.pairwise_cons.1 hL
  have he:∀ y∈acc,y.1≠e.1:=fun y hy=>hx y hy e List.mem_cons_self
  simp only[List.foldl_cons]
  rw[qbl1 h he]
  obtain ⟨r1,r2,r3,r4⟩:=qbcn L (insS acc e) (qbjh h he) hL2.2 (fun a ha b hb=>by
   rcases (qbb3 acc e a).1 ha with q | q
   ·subst q;exact hL2.1 b hb
   ·exact hx a q b (List.mem_cons_of_mem _ hb))
  refine ⟨r1,r2,fun z=>?_,by rw[r4,qpn,List.length_cons];omega⟩
  rw[r3 z,qbb3,List.mem_cons]
  constructor
  ·rintro ((h | h) | h)
   ·exact .inr (.inl h)
   ·exact .inl h
   ·exact .inr (.inr h)
  ·rintro (h | h | h)
   ·exact .inl (.inr h)
   ·exact .inl (.inl h)
   ·exact .inr h
theorem qjs:∀ (L acc:List qbr),(L.foldl insS acc).length=acc.length+L.length
 | [],acc=>rfl
 | e::L,acc=>by rw[List.foldl_cons,qjs L,qpn,List.length_cons];omega
abbrev Want:=Int×(Int→Int)
def ents (got:Got) (L:List Want):List qbr:=L.flatMap fun p=>ent got p.1 p.2
theorem q4o (got:Got):∀ (L:List Want),(ents got L).length≤L.length
 | []=>Nat.le_refl _
 | p::L=>by
  have h1:=qfx got p.1 p.2
  have h2:=q4o got L
  show ((p::L).flatMap _).length≤_
  rw[List.flatMap_cons,List.length_append,List.length_cons]
  have:(L.flatMap fun p=>ent got p.1 p.2).length≤L.length:=h2
  omega
theorem qvv (got:Got) (L:List Want) (e:qbr):e∈ents got L↔∃ p∈L,hit got p.1=true∧e=(p.1,(qt got p.1).1,p.2 (qt got p.1).1,()):=by
 unfold ents
 rw[List.mem_flatMap]
 constructor
 ·rintro ⟨p,hp,he⟩
  refine ⟨p,hp,?_⟩
  unfold ent at he
  cases h:hit got p.1
  ·rw[h] at he;simp at he
  ·rw[h] at he;simp only[cond_true,List.mem_singleton] at he;exact ⟨rfl,he⟩
 ·rintro ⟨p,hp,h,rfl⟩
  exact ⟨p,hp,by rw[qgg h];exact List.mem_singleton.2 rfl⟩
theorem q21 {got:Got} {p:Int} (h:hit got p=true):0≤p:=by
 unfold hit at h
 simp only[Bool.and_eq_true,decide_eq_true_eq] at h
 exact h.1
theorem q60 (got:Got):∀ (L:List Want),(L.Pairwise fun p q=>0≤p.1→p.1≠q.1)→qbgl (ents got L)
 | [],_=>List.Pairwise.nil
 | p::L,h=>by
  have h2:=List.pairwise_cons.1 h
  have ih:=q60 got L h2.2
  show qbgl ((p::L).flatMap _)
  rw[List.flatMap_cons]
  cases hh:hit got p.1
  ·rw[qr7 hh];exact ih
  ·rw[qgg hh]
   refine List.pairwise_cons.2 ⟨fun e he=>?_,ih⟩
   obtain ⟨q,hq,_,rfl⟩:=(qvv got L e).1 he
   exact h2.1 q hq (q21 hh)
theorem qbgw (got:Got) (L:List Want) (h:∀ p∈L,p.1≤19):∀ e∈ents got L,qjw e.1:=by
 intro e he
 obtain ⟨p,hp,hh,rfl⟩:=(qvv got L e).1 he
 have h1:=q21 hh
 have h2:=h p hp
 exact ⟨by show -1000≤p.1;omega,by show p.1≤1000;omega⟩
def chgL (K V held st:Int):List Want:=
 [(qr K,fun _=>V),(13,fun _=>st),(qv held,fun _=>0),(q9 held,fun _=>0),(qv V,fun _=>IntKind.wrap IntKind.i64 (K+1)),(q9 V,fun _=>IntKind.wrap IntKind.i64 (K+1))]++
  (bif qh held != qh V then [(qbg (qh held),less),(qbg (qh V),one)] else [])
theorem qbdm (K V held st:Int):(chgL K V held st).length≤8:=by
 unfold chgL
 cases qh held != qh V<;>simp
theorem qbfm (K V held st:Int):∀ p∈chgL K V held st,p.1≤19:=by
 have h1:=qjz K
 have h2:=qgy held
 have h3:=qgy V
 have h4:=qfo held
 have h5:=qfo V
 have h6:=qf9 (qh held)
 have h7:=qf9 (qh V)
 unfold chgL
 cases qh held != qh V
 ·intro p hp
  simp only[cond_false,List.append_nil,List.mem_cons,List.not_mem_nil,or_false] at hp
  rcases hp with rfl | rfl | rfl | rfl | rfl | rfl<;>dsimp only<;>omega
 ·intro p hp
  simp only[cond_true,List.cons_append,List.nil_append,List.mem_cons,List.not_mem_nil,or_false] at hp
  rcases hp with rfl | rfl | rfl | rfl | rfl | rfl | rfl | rfl<;>dsimp only<;>omega
theorem qbhc {K V held st:Int} (hv:1≤held∧held≤6→held≠V):(chgL K V held st).Pairwise fun p q=>0≤p.1→p.1≠q.1:=by
 have h1:=qjz K
 have h2:=qgy held
 have h3:=qgy V
 have h4:=qfo held
 have h5:=qfo V
 have h6:=qf9 (qh held)
 have h7:=qf9 (qh V)
 unfold chgL
 cases hc:qh held != qh V
 ·simp only[cond_false,List.append_nil,List.pairwise_cons,List.mem_cons,List.not_mem_nil,or_false,forall_eq_or_imp,forall_eq,List.Pairwise.nil,and_true,false_implies,implies_true,forall_const]
  refine ⟨⟨?_,?_,?_,?_,?_⟩,⟨?_,?_,?_,?_⟩,⟨?_,?_,?_⟩,⟨?_,?_⟩,?_⟩<;>omega
 ·have hne:qh held≠qh V:=by simpa using hc
  simp only[cond_true,List.cons_append,List.nil_append,List.pairwise_cons,List.mem_cons,List.not_mem_nil,or_false,forall_eq_or_imp,forall_eq,List.Pairwise.nil,and_true,false_implies,implies_true,forall_const]
  refine ⟨⟨?_,?_,?_,?_,?_,?_,?_⟩,⟨?_,?_,?_,?_,?_,?_⟩,⟨?_,?_,?_,?_,?_⟩,⟨?_,?_,?_,?_⟩,⟨?_,?_,?_⟩,⟨?_,?_⟩,?_⟩<;>omega
end Go.G

namespace Go.G
set_option maxRecDepth 100000
open Go Go.V Go.Proofs
def q1w (got:Got):Prop:=∀ x∈got,-1≤x.2.1∧x.2.1≤1000000
theorem qbdb {got:Got}:∀ (l:Got),(∀ x∈l,x∈got)→q1w got→∀ (p v:Int) (ok:Bool),-1≤v∧v≤1000000→-1≤(rd p l v ok).1∧(rd p l v ok).1≤1000000
 | [],_,_,p,v,ok,h=>h
 | x::l,hl,hg,p,v,ok,h=>by
  simp only[rd]
  split
  ·exact qbdb l (fun y hy=>hl y (List.mem_cons_of_mem _ hy)) hg p _ _ (hg x (hl x List.mem_cons_self))
  ·exact qbdb l (fun y hy=>hl y (List.mem_cons_of_mem _ hy)) hg p _ _ h
theorem qbju {got:Got} (hg:q1w got) (p:Int) : -1≤(qt got p).1∧(qt got p).1≤1000000:=qbdb got (fun _ h=>h) hg p 0 false (by omega)
theorem q2j {got:Got} {p:Int} {f g:Int→Int} (h:f (qt got p).1=g (qt got p).1):ent got p f=ent got p g:=by unfold ent;rw[h]
theorem qbku (x:Int):less x=max (IntKind.wrap IntKind.i64 (x + -1)) 0:=by
 unfold less
 rw[show x - 1=x + -1 by omega]
 split
 ·rw[Int.max_eq_left (by omega)]
 ·rw[Int.max_eq_right (by omega)]
theorem qbml {x:Int} (h : -1≤x∧x≤1000000):one x=max (IntKind.wrap IntKind.i64 (x+1)) 0:=by
 unfold one
 rw[qbl (by omega) (by omega),Int.max_eq_left (by omega)]
section
variable {X:Ext} (hX:XOk X) {n:Nat} {got:Got}
include hX
theorem qbhi (hn:W+9≤n) (hg:got.length≤1048576) (k K V held st:Int) :
  qn7 (DD X n) (k,K,V,()) got held st=some (((ents got (chgL K V held st)).foldl (bub ekey) [],()),()):=by
 obtain ⟨n,rfl⟩:∃ k,n=k+1:=⟨n - 1,by omega⟩
 have hW:=qca
 obtain ⟨E1,h1⟩:∃ E,E=ent got (qr K) (fun _=>V):=⟨_,rfl⟩
 obtain ⟨E2,h2⟩:∃ E,E=ent got 13 (fun _=>st):=⟨_,rfl⟩
 obtain ⟨E3,h3⟩:∃ E,E=ent got (qv held) (fun _=>0):=⟨_,rfl⟩
 obtain ⟨E4,h4⟩:∃ E,E=ent got (q9 held) (fun _=>0):=⟨_,rfl⟩
 obtain ⟨E5,h5⟩:∃ E,E=ent got (qv V) (fun _=>IntKind.wrap IntKind.i64 (K+1)):=⟨_,rfl⟩
 obtain ⟨E6,h6⟩:∃ E,E=ent got (q9 V) (fun _=>IntKind.wrap IntKind.i64 (K+1)):=⟨_,rfl⟩
 obtain ⟨E7,h7⟩:∃ E,E=ent got (qbg (qh held)) less:=⟨_,rfl⟩
 obtain ⟨E8,h8⟩:∃ E,E=ent got (qbg (qh V)) one:=⟨_,rfl⟩
 have l1:E1.length≤1:=by rw[h1];exact qfx ..
 have l2:E2.length≤1:=by rw[h2];exact qfx ..
 have l3:E3.length≤1:=by rw[h3];exact qfx ..
 have l4:E4.length≤1:=by rw[h4];exact qfx ..
 have l5:E5.length≤1:=by rw[h5];exact qfx ..
 have l6:E6.length≤1:=by rw[h6];exact qfx ..
 have l7:E7.length≤1:=by rw[h7];exact qfx ..
 have l8:E8.length≤1:=by rw[h8];exact qfx ..
 have hs:=fun l hl hk=>qbl2 hX (n:=n) (by omega) l hl hk
 have hlen:=Nat.le_trans (q4o got (chgL K V held st)) (qbdm K V held st)
 have hsm:=qbgw got (chgL K V held st) (qbfm K V held st)
 have heq:ents got (chgL K V held st)=bif qh held != qh V then []++E1++E2++E3++E4++E5++E6++E7++E8 else []++E1++E2++E3++E4++E5++E6:=by
  unfold ents chgL
  cases qh held != qh V
  ·simp only[cond_false,List.append_nil,List.flatMap_cons,List.flatMap_nil,List.nil_append,List.append_assoc,←h1,←h2,←h3,←h4,←h5,←h6]
  ·simp only[cond_true,List.cons_append,List.nil_append,List.append_nil,List.flatMap_cons,List.flatMap_nil,List.append_assoc,←h1,←h2,←h3,←h4,←h5,←h6,←h7,←h8]
 rw[q9l hX]
 simp only[qsx,qy8]
 rw[qd3 hX (by omega),qc]
 dsimp only
 rw[qze hX (by omega) hg (by simp),←h1,qc]
 dsimp only
 rw[qdi hX (by omega),qc]
 dsimp only
 rw[qze hX (by omega) hg (by simp only[List.length_append,List.length_nil];omega),←h2,qc]
 dsimp only
 rw[qex hX (by omega),qc]
 dsimp only
 rw[qze hX (by omega) hg (by simp only[List.length_append,List.length_nil];omega),←h3,qc]
 dsimp only
 rw[qgo hX (by omega),qc]
 dsimp only
 rw[qze hX (by omega) hg (by simp only[List.length_append,List.length_nil];omega),←h4,qc]
 dsimp only
 rw[qex hX (by omega),qc]
 dsimp only
 rw[qze hX (by omega) hg (by simp only[List.length_append,List.length_nil];omega),←h5,qc]
 dsimp only
 rw[qgo hX (by omega),qc]
 dsimp only
 rw[qze hX (by omega) hg (by simp only[List.length_append,List.length_nil];omega),←h6,qc]
 dsimp only
 rw[qf7 hX (by omega),qc,qf7 hX (by omega),qc]
 dsimp only
 cases hc:qh held != qh V
 ·rw[hc,cond_false] at heq
  rw[br_f,←heq,hs _ (by omega) hsm,qc]
 ·rw[hc,cond_true] at heq
  rw[br_t]
  simp only[qc]
  rw[qez hX (by omega),qc]
  dsimp only
  rw[qbmj hX (by omega) hg (by simp only[List.length_append,List.length_nil];omega),←h7,qc]
  dsimp only
  rw[qez hX (by omega),qc]
  dsimp only
  rw[qbmf hX (by omega) hg (by simp only[List.length_append,List.length_nil];omega),←h8,qc]
  dsimp only
  rw[←heq,hs _ (by omega) hsm,qc]
theorem qbgr (hn:W+7≤n) (hg:got.length≤1048576) (hv:q1w got) (k K V:Int) (hk:k=3→V=0) :
  qp6 (DD X n) (k,K,V,()) got=some (((ents got (chgL K V (qt got (qr K)).1 (qt got 13).1)).foldl insS [],()),()):=by
 obtain ⟨n,rfl⟩:∃ k,n=k+1:=⟨n - 1,by omega⟩
 have hW:=qca
 generalize hheld:(qt got (qr K)).1=held
 generalize hst:(qt got 13).1=st
 obtain ⟨E1,h1⟩:∃ E,E=ent got (qr K) (fun _=>V):=⟨_,rfl⟩
 obtain ⟨E2,h2⟩:∃ E,E=ent got 13 (fun _=>st):=⟨_,rfl⟩
 obtain ⟨E3,h3⟩:∃ E,E=ent got (qv held) (fun _=>0):=⟨_,rfl⟩
 obtain ⟨E4,h4⟩:∃ E,E=ent got (q9 held) (fun _=>0):=⟨_,rfl⟩
 obtain ⟨E5,h5⟩:∃ E,E=ent got (qv V) (fun _=>IntKind.wrap IntKind.i64 (K+1)):=⟨_,rfl⟩
 obtain ⟨E6,h6⟩:∃ E,E=ent got (q9 V) (fun _=>IntKind.wrap IntKind.i64 (K+1)):=⟨_,rfl⟩
 obtain ⟨E7,h7⟩:∃ E,E=ent got (qbg (qh held)) less:=⟨_,rfl⟩
 obtain ⟨E8,h8⟩:∃ E,E=ent got (qbg (qh V)) one:=⟨_,rfl⟩
 have l1:E1.length≤1:=by rw[h1];exact qfx ..
 have l2:E2.length≤1:=by rw[h2];exact qfx ..
 have l3:E3.length≤1:=by rw[h3];exact qfx ..
 have l4:E4.length≤1:=by rw[h4];exact qfx ..
 have l5:E5.length≤1:=by rw[h5];exact qfx ..
 have l6:E6.length≤1:=by rw[h6];exact qfx ..
 have l7:E7.length≤1:=by rw[h7];exact qfx ..
 have l8:E8.length≤1:=by rw[h8];exact qfx ..
 have e2:ent got 13 (fun v=>v)=E2:=by rw[h2];exact q2j hst
 have e7:ent got (qbg (qh held)) (fun x=>max (IntKind.wrap IntKind.i64 (x + -1)) 0)=E7:=by rw[h7];exact q2j (qbku _).symm
 have e8:ent got (qbg (qh V)) (fun x=>max (IntKind.wrap IntKind.i64 (x+1)) 0)=E8:=by rw[h8];exact q2j (qbml (qbju hv _)).symm
 have heq:(ents got (chgL K V held st)).foldl insS []=bif qh held != qh V then E8.foldl insS (E7.foldl insS (E6.foldl insS (E5.foldl insS (E4.foldl insS (E3.foldl insS (E2.foldl insS (E1.foldl insS [])))))))
   else E6.foldl insS (E5.foldl insS (E4.foldl insS (E3.foldl insS (E2.foldl insS (E1.foldl insS []))))):=by
  unfold ents chgL
  cases qh held != qh V
  ·simp only[cond_false,List.append_nil,List.flatMap_cons,List.flatMap_nil,List.foldl_append,List.foldl_nil,←h1,←h2,←h3,←h4,←h5,←h6]
  ·simp only[cond_true,List.cons_append,List.nil_append,List.flatMap_cons,List.flatMap_nil,List.foldl_append,List.foldl_nil,←h1,←h2,←h3,←h4,←h5,←h6,←h7,←h8]
 have key:∀ L:Option ((List qbr×Unit)×Unit),L=(qe (qcd (DD X n) K) fun b_1↦
     qe (qbx (DD X n) [] got (Prod.fst (Prod.fst b_1)) V) fun b_2↦
      qe (qb6 (DD X n)) fun b_3↦
       qe (qfq (DD X n) (Prod.fst (Prod.fst b_2)) got (Prod.fst (Prod.fst b_3))) fun b_4↦
        qe (qce (DD X n) held) fun b_5↦
         qe (qbx (DD X n) (Prod.fst (Prod.fst b_4)) got (Prod.fst (Prod.fst b_5)) 0) fun b_6↦
          qe (qc8 (DD X n) held) fun b_7↦
           qe (qbx (DD X n) (Prod.fst (Prod.fst b_6)) got (Prod.fst (Prod.fst b_7)) 0) fun b_8↦
            qe (qce (DD X n) V) fun b_9↦
             qe
              (qbx (DD X n) (Prod.fst (Prod.fst b_8)) got (Prod.fst (Prod.fst b_9))
               (IntKind.wrap IntKind.i64 (K+1)))
              fun b_10↦
              qe (qc8 (DD X n) V) fun b_11↦
               qe
                (qbx (DD X n) (Prod.fst (Prod.fst b_10)) got (Prod.fst (Prod.fst b_11))
                 (IntKind.wrap IntKind.i64 (K+1)))
                fun b_12↦
                qe (qb5 (DD X n) held) fun b_13↦
                 qe (qb5 (DD X n) V) fun b_14↦
                  br (Prod.fst (Prod.fst b_13) != Prod.fst (Prod.fst b_14))
                   (qe (qgn (DD X n) (Prod.fst (Prod.fst b_12)) got held (-1)) fun b↦
                    qe (qgn (DD X n) (Prod.fst (Prod.fst b)) got V 1) fun b↦some ((Prod.fst (Prod.fst b),()),()))
                   (some ((Prod.fst (Prod.fst b_12),()),())))→L=some (((ents got (chgL K V held st)).foldl insS [],()),()):=by
  intro L hL
  rw[hL,heq,qev hX (by omega),qc]
  dsimp only
  rw[qmo hX (by omega) hg (by simp),←h1,qc]
  dsimp only
  rw[qfn hX (by omega),qc]
  dsimp only
  rw[qwn hX (by omega) hg (by simp only[qjs,List.length_nil];omega),e2,qc]
  dsimp only
  rw[qif hX (by omega),qc]
  dsimp only
  rw[qmo hX (by omega) hg (by simp only[qjs,List.length_nil];omega),←h3,qc]
  dsimp only
  rw[qli hX (by omega),qc]
  dsimp only
  rw[qmo hX (by omega) hg (by simp only[qjs,List.length_nil];omega),←h4,qc]
  dsimp only
  rw[qif hX (by omega),qc]
  dsimp only
  rw[qmo hX (by omega) hg (by simp only[qjs,List.length_nil];omega),←h5,qc]
  dsimp only
  rw[qli hX (by omega),qc]
  dsimp only
  rw[qmo hX (by omega) hg (by simp only[qjs,List.length_nil];omega),←h6,qc]
  dsimp only
  rw[qj5 hX (by omega),qc,qj5 hX (by omega),qc]
  dsimp only
  cases hc:qh held != qh V
  ·rw[br_f,cond_false]
  ·rw[br_t,cond_true,qbdf hX (by omega) hg (by simp only[qjs,List.length_nil];omega),e7,qc]
   dsimp only
   rw[qbdf hX (by omega) hg (by simp only[qjs,List.length_nil];omega),e8,qc]
 rw[q6o hX]
 simp only[qqa,qxp]
 rw[qev hX (by omega),qc]
 rw[qec hX (by omega) got hg,qc]
 dsimp only
 rw[hheld]
 by_cases h3k:k=3
 ·have hV:=hk h3k
  subst hV
  rw[show (k != 3)=false by simp[h3k],br_f]
  refine key _ ?_
  rw[qev hX (by omega),qc]
 ·rw[show (k != 3)=true by simp[h3k],br_t]
  refine key _ ?_
  rw[qev hX (by omega),qc]
end
end Go.G

namespace Go.G
set_option maxRecDepth 100000
open Go Go.V Go.Proofs
def opOk (o:Op3):Bool:=
 bif decide (o.1=1)||decide (o.1=2) then inR o.2.1 0 3&&inR o.2.2.1 1 6
 else bif decide (o.1=3)||decide (o.1=4) then inR o.2.1 0 3&&decide (o.2.2.1=0)
 else bif decide (o.1=5)||decide (o.1=10) then decide (o.2.1=0)&&inR o.2.2.1 1 6
 else bif decide (o.1=6) then inR o.2.1 0 2&&decide (o.2.2.1=0)
 else bif decide (o.1=7)||(decide (o.1=8)||decide (o.1=9)) then decide (o.2.1=0)&&decide (o.2.2.1=0) else false
def nowP (k V row owner st cnt:Int):Option (Int×List Int):=
 if k=1∧row≠0 then some (1,[]) else
 if k=1∧owner≠0 then some (2,[]) else
 if (k=2∨k=3∨k=4)∧row=0 then some (3,[]) else
 if k=2∧row=V then some (0,[]) else
 if k=2∧owner≠0 then some (2,[]) else
 if k=4 then some (0,[row]) else
 if k=5∧owner=0 then some (3,[]) else
 if k=5 then some (0,[IntKind.wrap IntKind.i64 (owner - 1)]) else
 if k=6 then some (0,[cnt]) else
 if k=8∧st≠0 then some (4,[]) else
 if k=9∧(st<1∨st>4) then some (4,[]) else
 if k=10∧st≠5 then some (4,[]) else none
def qlr:Option (Int×List Int)→(Int×List Int×Unit)×Bool×Unit
 | some x=>((x.1,x.2,()),true,())
 | none=>((0,[],()),false,())
abbrev Plan:=Bool×(Int×List Int×Unit)×List qbr×Unit
def qix:Option (Int×List Int)→Plan×Bool×Unit
 | some x=>((true,(x.1,x.2,()),[],()),true,())
 | none=>((true,(-1,[],()),[],()),false,())
def qe2 (o:Op3) (got:Got):Option (Int×List Int):=
 nowP o.1 o.2.2.1 (qt got (qr o.2.1)).1 (qt got (qv o.2.2.1)).1 (qt got 13).1 (qt got (qbg o.2.1)).1
theorem bned (a b:Int):(a != b)=!decide (a=b):=by by_cases h:a=b<;>simp[h]
section
variable {X:Ext} (hX:XOk X) {n:Nat} {got:Got}
include hX
theorem q6j (hn:4≤n) (k K V:Int):qtj (DD X n) (k,K,V,())=some ((opOk (k,K,V,()),()),()):=by
 obtain ⟨n,rfl⟩:∃ k,n=k+1:=⟨n - 1,by omega⟩
 rw[qbe7 hX]
 simp only[qx9,q35]
 simp only[q97 hX (n:=n) (by omega),qp2 hX (n:=n) (by omega),qty hX (n:=n) (by omega),qbfn hX (n:=n) (by omega),qk6 hX (n:=n) (by omega),qc]
 unfold opOk
 dsimp only
 generalize hA:inR K 0 3=A
 generalize hB:inR V 1 6=B
 generalize hC:inR K 0 2=C
 generalize hD:decide (K=0)=D
 generalize hE:decide (V=0)=E
 by_cases h:1≤k∧k≤10
 ·have:k=1∨k=2∨k=3∨k=4∨k=5∨k=6∨k=7∨k=8∨k=9∨k=10:=by omega
  rcases this with rfl | rfl | rfl | rfl | rfl | rfl | rfl | rfl | rfl | rfl<;>cases A<;>cases B<;>cases C<;>cases D<;>cases E<;>rfl
 ·rw[qjt h,Bool.not_false,br_t]
  simp only[decide_eq_false (by omega:¬ k=1),decide_eq_false (by omega:¬ k=2),decide_eq_false (by omega:¬ k=3),decide_eq_false (by omega:¬ k=4),decide_eq_false (by omega:¬ k=5),decide_eq_false (by omega:¬ k=6),decide_eq_false (by omega:¬ k=7),decide_eq_false (by omega:¬ k=8),decide_eq_false (by omega:¬ k=9),decide_eq_false (by omega:¬ k=10),Bool.or_false,cond_false]
theorem q0s (hn:5≤n) (k K V:Int):qo2 (DD X n) (k,K,V,())=some ((opOk (k,K,V,()),()),()):=by
 obtain ⟨n,rfl⟩:∃ k,n=k+1:=⟨n - 1,by omega⟩
 rw[qbfb hX]
 simp only[qyn,q32]
 simp only[qbai hX (n:=n) (by omega),qlj hX (n:=n) (by omega),qbbu hX (n:=n) (by omega),qc]
 unfold opOk
 dsimp only
 generalize hA:inR K 0 3=A
 generalize hB:inR V 1 6=B
 generalize hC:inR K 0 2=C
 generalize hD:decide (K=0)=D
 generalize hE:decide (V=0)=E
 by_cases h:1≤k∧k≤10
 ·have:k=1∨k=2∨k=3∨k=4∨k=5∨k=6∨k=7∨k=8∨k=9∨k=10:=by omega
  rcases this with rfl | rfl | rfl | rfl | rfl | rfl | rfl | rfl | rfl | rfl<;>cases A<;>cases B<;>cases C<;>cases D<;>cases E<;>rfl
 ·simp only[decide_eq_false (by omega:¬ k=1),decide_eq_false (by omega:¬ k=2),decide_eq_false (by omega:¬ k=3),decide_eq_false (by omega:¬ k=4),decide_eq_false (by omega:¬ k=5),decide_eq_false (by omega:¬ k=6),decide_eq_false (by omega:¬ k=7),decide_eq_false (by omega:¬ k=8),decide_eq_false (by omega:¬ k=9),decide_eq_false (by omega:¬ k=10),Bool.or_false,cond_false,br_f]
theorem qbi8 (hn:W+5≤n) (hg:got.length≤1048576) (o:Op3):que (DD X n) o got=some (qlr (qe2 o got),()):=by
 obtain ⟨n,rfl⟩:∃ k,n=k+1:=⟨n - 1,by omega⟩
 have hW:=qca
 obtain ⟨k,K,V,⟨⟩⟩:=o
 rw[qbbe hX]
 simp only[qt8,q05]
 simp only[qd3 hX (n:=n) (by omega),qex hX (n:=n) (by omega),qez hX (n:=n) (by omega),qdi hX (n:=n) (by omega),qe0 hX (n:=n) (by omega) got hg,qc]
 unfold qe2
 dsimp only
 generalize (qt got (qr K)).1=row
 generalize (qt got (qv V)).1=owner
 generalize (qt got 13).1=st
 generalize (qt got (qbg K)).1=cnt
 unfold nowP
 by_cases h:1≤k∧k≤10
 ·have:k=1∨k=2∨k=3∨k=4∨k=5∨k=6∨k=7∨k=8∨k=9∨k=10:=by omega
  rcases this with rfl | rfl | rfl | rfl | rfl | rfl | rfl | rfl | rfl | rfl
  ·by_cases r0:row=0<;>by_cases w0:owner=0<;>simp[r0,w0,br,qlr,bned]
  ·by_cases rV:row=V
   ·subst rV;by_cases r0:row=0<;>simp[r0,br,qlr,bned]
   ·by_cases r0:row=0<;>by_cases w0:owner=0<;>simp[r0,rV,w0,br,qlr,bned]
  ·by_cases r0:row=0<;>simp[r0,br,qlr,bned]
  ·by_cases r0:row=0<;>simp[r0,br,qlr,bned]
  ·by_cases w0:owner=0<;>simp[w0,br,qlr,bned]
  ·simp[br,qlr,bned]
  ·simp[br,qlr,bned]
  ·by_cases s0:st=0<;>simp[s0,br,qlr,bned]
  ·by_cases s1:st<1<;>by_cases s4:4<st<;>simp[s1,s4,br,qlr,bned]
  ·by_cases s5:st=5<;>simp[s5,br,qlr,bned]
 ·simp only[decide_eq_false (by omega:¬ k=1),decide_eq_false (by omega:¬ k=2),decide_eq_false (by omega:¬ k=3),decide_eq_false (by omega:¬ k=4),decide_eq_false (by omega:¬ k=5),decide_eq_false (by omega:¬ k=6),decide_eq_false (by omega:¬ k=7),decide_eq_false (by omega:¬ k=8),decide_eq_false (by omega:¬ k=9),decide_eq_false (by omega:¬ k=10),cond_false,br_f]
  have k1:¬ k=1:=by omega
  have k2:¬ k=2:=by omega
  have k3:¬ k=3:=by omega
  have k4:¬ k=4:=by omega
  have k5:¬ k=5:=by omega
  have k6:¬ k=6:=by omega
  have k8:¬ k=8:=by omega
  have k9:¬ k=9:=by omega
  have k10:¬ k=10:=by omega
  simp[k1,k2,k3,k4,k5,k6,k8,k9,k10,qlr]
theorem qblu (hn:W+5≤n) (hg:got.length≤1048576) (o:Op3):qxg (DD X n) o got=some (qix (qe2 o got),()):=by
 obtain ⟨n,rfl⟩:∃ k,n=k+1:=⟨n - 1,by omega⟩
 have hW:=qca
 obtain ⟨k,K,V,⟨⟩⟩:=o
 rw[qbcd hX]
 simp only[qwx,q15]
 simp only[qev hX (n:=n) (by omega),qif hX (n:=n) (by omega),qka hX (n:=n) (by omega),qfn hX (n:=n) (by omega),qec hX (n:=n) (by omega) got hg,qty hX (n:=n) (by omega),qc]
 simp only[←qbip]
 unfold qe2
 dsimp only
 generalize (qt got (qr K)).1=row
 generalize (qt got (qv V)).1=owner
 generalize (qt got 13).1=st
 generalize (qt got (qbg K)).1=cnt
 unfold nowP
 by_cases h:1≤k∧k≤10
 ·have:k=1∨k=2∨k=3∨k=4∨k=5∨k=6∨k=7∨k=8∨k=9∨k=10:=by omega
  rcases this with rfl | rfl | rfl | rfl | rfl | rfl | rfl | rfl | rfl | rfl
  ·by_cases r0:row=0<;>by_cases w0:owner=0<;>simp[r0,w0,br,qix,bned]
  ·by_cases rV:row=V
   ·subst rV;by_cases r0:row=0<;>simp[r0,br,qix,bned]
   ·by_cases r0:row=0<;>by_cases w0:owner=0<;>simp[r0,rV,w0,br,qix,bned]
  ·by_cases r0:row=0<;>simp[r0,br,qix,bned]
  ·by_cases r0:row=0<;>simp[r0,br,qix,bned]
  ·by_cases w0:owner=0<;>simp[w0,br,qix,bned]
  ·simp[br,qix,bned]
  ·simp[br,qix,bned]
  ·by_cases s0:st=0<;>simp[s0,br,qix,bned]
  ·by_cases s1:st<1<;>by_cases s4:4<st<;>simp[s1,s4,br,qix,bned]
  ·by_cases s5:st=5<;>simp[s5,br,qix,bned]
 ·simp only[decide_eq_false (by omega:¬ k=1),decide_eq_false (by omega:¬ k=2),decide_eq_false (by omega:¬ k=3),decide_eq_false (by omega:¬ k=4),decide_eq_false (by omega:¬ k=5),decide_eq_false (by omega:¬ k=6),decide_eq_false (by omega:¬ k=7),decide_eq_false (by omega:¬ k=8),decide_eq_false (by omega:¬ k=9),decide_eq_false (by omega:¬ k=10),cond_false,br_f]
  have k1:¬ k=1:=by omega
  have k2:¬ k=2:=by omega
  have k3:¬ k=3:=by omega
  have k4:¬ k=4:=by omega
  have k5:¬ k=5:=by omega
  have k6:¬ k=6:=by omega
  have k8:¬ k=8:=by omega
  have k9:¬ k=9:=by omega
  have k10:¬ k=10:=by omega
  simp[k1,k2,k3,k4,k5,k6,k8,k9,k10,qix]
end
end Go.G

namespace Go.G
set_option maxRecDepth 100000
open Go Go.V Go.Proofs
def val (got:Got) (p:Int):Int:=(qt got p).1
def becP (k row st p old:Int):Int:=if k=8 then IntKind.wrap IntKind.i64 (old+1) else if k=9 then (if p=13 then IntKind.wrap IntKind.i64 (old+1) else if p=q9 row then st else old) else old
def same (got:Got) (p:Int):qbr:=(p,val got p,val got p,())
def entP (o:Op3) (got:Got):List qbr:=
 if o.1=1∨o.1=2∨o.1=3 then (ents got (chgL o.2.1 o.2.2.1 (val got (qr o.2.1)) (val got 13))).foldl insS [] else
 if o.1=7 then [same got 0,same got 1,same got 2,same got 3] else
 if o.1=8 then [(13,val got 13,1,())] else
 if o.1=9 then same got (qr (IntKind.wrap IntKind.i64 (val got 13 - 1)))::(13,val got 13,IntKind.wrap IntKind.i64 (val got 13+1),())::
  (bif inR (val got (qr (IntKind.wrap IntKind.i64 (val got 13 - 1)))) 1 6 then [(q9 (val got (qr (IntKind.wrap IntKind.i64 (val got 13 - 1)))),val got (q9 (val got (qr (IntKind.wrap IntKind.i64 (val got 13 - 1))))),val got 13,())] else []) else
 if o.1=10 then [same got 13,same got (q9 o.2.2.1)] else []
def resP (o:Op3) (got:Got):Int×List Int×Unit:=
 if o.1=7 then (0,[val got 0,val got 1,val got 2,val got 3],()) else
 if o.1=10 then (if val got (q9 o.2.2.1)=0 then (3,[],()) else (0,[IntKind.wrap IntKind.i64 (val got (q9 o.2.2.1) - 1)],())) else (0,[],())
def qbmb:Plan:=(false,(0,[],()),[],())
def qic (o:Op3) (got:Got):Plan×Bool×Unit:=
 if opOk o=true∧(run got (prog o)).2<0 then
  match qe2 o got with
  | some x=>((true,(x.1,x.2,()),[],()),true,())
  | none=>((false,resP o got,entP o got,()),true,())
 else (qbmb,false,())
theorem qmq {got:Got} {p:Int} {k:Int→PR} (hp:0≤p) (h:(run got (.ask p k)).2<0):hit got p=true∧(run got (k (val got p))).2<0∧(run got (.ask p k)).1=p::(run got (k (val got p))).1:=by
 cases hh:hit got p
 ·rw[qcz hh] at h;dsimp only at h;omega
 ·rw[qdk hh] at h ⊢;exact ⟨rfl,h,rfl⟩
theorem qm2 {o:Op3} (h:opOk o=true):((o.1=1∨o.1=2)∧(0≤o.2.1∧o.2.1≤3)∧(1≤o.2.2.1∧o.2.2.1≤6))∨((o.1=3∨o.1=4)∧(0≤o.2.1∧o.2.1≤3)∧o.2.2.1=0)∨
  ((o.1=5∨o.1=10)∧o.2.1=0∧(1≤o.2.2.1∧o.2.2.1≤6))∨(o.1=6∧(0≤o.2.1∧o.2.1≤2)∧o.2.2.1=0)∨((o.1=7∨o.1=8∨o.1=9)∧o.2.1=0∧o.2.2.1=0):=by
 unfold opOk at h
 by_cases k12:o.1=1∨o.1=2
 ·rw[show (decide (o.1=1)||decide (o.1=2))=true by simpa using k12,cond_true,Bool.and_eq_true] at h
  exact .inl ⟨k12,qbz.1 h.1,qbz.1 h.2⟩
 rw[show (decide (o.1=1)||decide (o.1=2))=false by simpa using k12,cond_false] at h
 by_cases k34:o.1=3∨o.1=4
 ·rw[show (decide (o.1=3)||decide (o.1=4))=true by simpa using k34,cond_true,Bool.and_eq_true,decide_eq_true_eq] at h
  exact .inr (.inl ⟨k34,qbz.1 h.1,h.2⟩)
 rw[show (decide (o.1=3)||decide (o.1=4))=false by simpa using k34,cond_false] at h
 by_cases k5:o.1=5∨o.1=10
 ·rw[show (decide (o.1=5)||decide (o.1=10))=true by simpa using k5,cond_true,Bool.and_eq_true,decide_eq_true_eq] at h
  exact .inr (.inr (.inl ⟨k5,h.1,qbz.1 h.2⟩))
 rw[show (decide (o.1=5)||decide (o.1=10))=false by simpa using k5,cond_false] at h
 by_cases k6:o.1=6
 ·rw[decide_eq_true k6,cond_true,Bool.and_eq_true,decide_eq_true_eq] at h
  exact .inr (.inr (.inr (.inl ⟨k6,qbz.1 h.1,h.2⟩)))
 rw[decide_eq_false k6,cond_false] at h
 by_cases k7:o.1=7∨o.1=8∨o.1=9
 ·rw[show (decide (o.1=7)||(decide (o.1=8)||decide (o.1=9)))=true by simpa using k7,cond_true,Bool.and_eq_true,decide_eq_true_eq,decide_eq_true_eq] at h
  exact .inr (.inr (.inr (.inr ⟨k7,h.1,h.2⟩)))
 ·rw[show (decide (o.1=7)||(decide (o.1=8)||decide (o.1=9)))=false by simpa using k7,cond_false] at h
  exact absurd h (by simp)
theorem q5g {got:Got} {K V held st:Int} (hv:1≤held∧held≤6→held≠V):(ents got (chgL K V held st)).foldl (bub ekey) []=(ents got (chgL K V held st)).foldl insS []∧Asc ((ents got (chgL K V held st)).foldl insS [])∧
  (∀ z,z∈(ents got (chgL K V held st)).foldl insS []↔z∈ents got (chgL K V held st))∧((ents got (chgL K V held st)).foldl insS []).length=(ents got (chgL K V held st)).length:=by
 obtain ⟨r1,r2,r3,r4⟩:=qbcn (ents got (chgL K V held st)) [] List.Pairwise.nil (q60 got _ (qbhc hv)) (fun a ha=>by simp at ha)
 exact ⟨r1,r2,fun z=>by rw[r3];simp,by rw[r4];simp⟩
theorem q83 {o:Op3} {got:Got} (ho:opOk o=true) (hn:qe2 o got=none) (hk:o.1=1∨o.1=2∨o.1=3):1≤val got (qr o.2.1)∧val got (qr o.2.1)≤6→val got (qr o.2.1)≠o.2.2.1:=by
 intro h
 have:=qm2 ho
 unfold qe2 nowP at hn
 rcases hk with k | k | k
 ·rw[k] at hn
  by_cases h0:(qt got (qr o.2.1)).1=0
  ·unfold val at h;omega
  ·rw[if_pos ⟨rfl,h0⟩] at hn;cases hn
 ·rw[k] at hn
  rw[if_neg (by omega),if_neg (by omega)] at hn
  by_cases h0:(qt got (qr o.2.1)).1=0
  ·unfold val at h;omega
  ·rw[if_neg (by omega)] at hn
   by_cases h1:(qt got (qr o.2.1)).1=o.2.2.1
   ·rw[if_pos ⟨rfl,h1⟩] at hn;cases hn
   ·exact h1
 ·omega
section
variable {X:Ext} (hX:XOk X) {n:Nat} {got:Got}
include hX
theorem qbj6 (hn:4≤n) (o:Op3) (p old row st:Int):qug (DD X n) o p old row st=some ((becP o.1 row st p old,()),()):=by
 obtain ⟨n,rfl⟩:∃ k,n=k+1:=⟨n - 1,by omega⟩
 rw[qbbk hX]
 simp only[qun,q04]
 rw[qdi hX (by omega),qc,qgo hX (by omega),qc]
 unfold becP
 by_cases h8:o.1=8
 ·rw[ql h8,if_pos h8]
 rw[qi h8,if_neg h8]
 by_cases h9:o.1=9
 ·rw[ql h9,if_pos h9]
  by_cases h1:p=13
  ·rw[ql h1,if_pos h1]
  rw[qi h1,if_neg h1]
  by_cases h2:p=q9 row
  ·rw[ql h2,if_pos h2]
  ·rw[qi h2,if_neg h2]
 ·rw[qi h9,if_neg h9]
theorem qbd8 (N n:Nat) (hN:W+2≤N) (hg:got.length≤1048576) (K:Got→Op3→Plan→Plan→Option ((Plan×Bool×Unit)×Unit)) (st row:Int) (o:Op3) (x6:Plan) (g:Got) (P:List Int) (mo:Int×Bool×Unit) (hP:P.length≤20) :
  ∀ (m i:Nat) (rl:List Int) (el:List qbr),i≤P.length→P.length - i<m→rl.length≤i→el.length≤i→
  qgz (DD X N) n K m got st row (P.length:Int) (i:Int) o x6 (false,(0,rl,()),el,()) (g,P,mo) =
   K got o x6 (false,(0,rl++(if o.1=7 then (P.drop i).map (val got) else []),()),el++(P.drop i).map (fun p=>(p,val got p,becP o.1 row st p (val got p),())),())
 | 0,_,_,_,_,h,_,_=>by omega
 | m+1,i,rl,el,hi,hf,h1,h2=>by
  have hb:=qfw
  have hW:=qca
  simp only[qgz,qs3]
  by_cases h:i<P.length
  ·rw[ql (by omega),ix h,br_t,qe0 hX (by omega) got hg,qc,Int.toNat_natCast,qc9 h]
   dsimp only
   rw[qbj6 hX (by omega),qc]
   dsimp only
   rw[ql (by omega),qll h]
   simp only[List.map_cons]
   by_cases h7:o.1=7
   ·rw[ql h7,ql (by omega),qbh (by omega)]
    rw[qbd8 N n hN hg K st row o x6 g P mo hP m (i+1) _ _ (by omega) (by omega) (by rw[List.length_append,List.length_singleton];omega) (by rw[List.length_append,List.length_singleton];omega)]
    rw[if_pos h7,if_pos h7,List.append_assoc,List.append_assoc]
    rfl
   ·rw[qi h7,qbh (by omega)]
    rw[qbd8 N n hN hg K st row o x6 g P mo hP m (i+1) _ _ (by omega) (by omega) (by omega) (by rw[List.length_append,List.length_singleton];omega)]
    rw[if_neg h7,if_neg h7,List.append_assoc]
    rfl
  ·rw[qi (by omega),qnw h]
   simp
end
end Go.G

namespace Go.G
set_option maxRecDepth 100000
open Go Go.V Go.Proofs
theorem qxk {o:Op3} {got:Got} (ho:opOk o=true) (hn:qe2 o got=none) (hr:(run got (prog o)).2<0) (hk:¬ (o.1=1∨o.1=2∨o.1=3)) :
    ((run got (prog o)).1.length≤12∧∀ e∈(run got (prog o)).1,qjw e)∧
    ((o.1=7∧(run got (prog o)).1.foldl (bub ikey) []=[0,1,2,3])∨
     (o.1=8∧val got 13=0∧(run got (prog o)).1.foldl (bub ikey) []=[13])∨
     (o.1=9∧(1≤val got 13∧val got 13≤4)∧(run got (prog o)).1.foldl (bub ikey) []=qr (IntKind.wrap IntKind.i64 (val got 13 - 1))::13::(bif inR (val got (qr (IntKind.wrap IntKind.i64 (val got 13 - 1)))) 1 6 then [q9 (val got (qr (IntKind.wrap IntKind.i64 (val got 13 - 1))))] else []))∨
     (o.1=10∧(run got (prog o)).1.foldl (bub ikey) []=[13,q9 o.2.2.1])):=by
  have hkd:=qm2 ho
  unfold qe2 nowP at hn
  rw[if_neg (by omega),if_neg (by omega)] at hn
  by_cases k4:o.1=4
  · exfalso
    by_cases h0:(qt got (qr o.2.1)).1=0
    · rw[if_pos ⟨.inr (.inr k4),h0⟩] at hn;cases hn
    · rw[if_neg (by omega),if_neg (by omega),if_neg (by omega),if_pos k4] at hn;cases hn
  rw[if_neg (by omega),if_neg (by omega),if_neg (by omega),if_neg k4] at hn
  by_cases k5:o.1=5
  · exfalso
    by_cases h0:(qt got (qv o.2.2.1)).1=0
    · rw[if_pos ⟨k5,h0⟩] at hn;cases hn
    · rw[if_neg (by omega),if_pos k5] at hn;cases hn
  rw[if_neg (by omega),if_neg k5] at hn
  by_cases k6:o.1=6
  · exfalso;rw[if_pos k6] at hn;cases hn
  rw[if_neg k6] at hn
  have kk:o.1=7∨o.1=8∨o.1=9∨o.1=10:=by omega
  have hprog:prog o=if o.1=7 then qn1 else if o.1=8 then .ask 13 (fun _=>.done) else if o.1=9 then qnl else if o.1=10 then qn6 o else .done:=by
    unfold prog
    rw[if_neg (by omega),if_neg (by omega),if_neg (by omega),if_neg k4,if_neg k5,if_neg k6]
  rw[hprog] at hr ⊢
  rcases kk with k | k | k | k
  · rw[if_pos k] at hr ⊢
    unfold qn1 at hr ⊢
    obtain ⟨_,r1,e1⟩:=qmq (by omega) hr
    obtain ⟨_,r2,e2⟩:=qmq (by omega) r1
    obtain ⟨_,r3,e3⟩:=qmq (by omega) r2
    obtain ⟨_,_,e4⟩:=qmq (by omega) r3
    rw[e1,e2,e3,e4]
    refine ⟨⟨by simp[run],fun e he=>?_⟩,.inl ⟨k,rfl⟩⟩
    simp only[run,List.mem_cons,List.not_mem_nil,or_false] at he
    rcases he with rfl | rfl | rfl | rfl<;>exact ⟨by omega,by omega⟩
  · rw[if_neg (by omega),if_pos k] at hr ⊢
    obtain ⟨_,_,e1⟩:=qmq (by omega) hr
    rw[e1]
    refine ⟨⟨by simp[run],fun e he=>?_⟩,.inr (.inl ⟨k,?_,rfl⟩)⟩
    · simp only[run,List.mem_cons,List.not_mem_nil,or_false] at he
      subst he;exact ⟨by omega,by omega⟩
    · by_cases s0:(qt got 13).1=0
      · exact s0
      · rw[if_pos ⟨k,s0⟩] at hn;cases hn
  · rw[if_neg (by omega),if_neg (by omega),if_pos k] at hr ⊢
    rw[if_neg (by omega)] at hn
    have hst:1≤val got 13∧val got 13≤4:=by
      by_cases s0:(qt got 13).1<1∨(qt got 13).1>4
      · rw[if_pos ⟨k,s0⟩] at hn;cases hn
      · unfold val;omega
    unfold qnl at hr ⊢
    obtain ⟨_,r1,e1⟩:=qmq (by omega) hr
    rw[e1]
    have hb:(bif decide (val got 13<1) then true else decide (val got 13>4))=false:=by
      rw[decide_eq_false (by omega),decide_eq_false (by omega)];rfl
    rw[hb,cond_false] at r1 ⊢
    have hw:IntKind.wrap IntKind.i64 (val got 13 - 1)=val got 13 - 1:=qbl (by omega) (by omega)
    have hrow:=qjz (IntKind.wrap IntKind.i64 (val got 13 - 1))
    rw[hw] at hrow
    rw[hw] at r1 ⊢
    obtain ⟨_,r2,e2⟩:=qmq (by omega) r1
    rw[e2]
    generalize hrr:qr (val got 13 - 1)=p at *
    have hp:0≤p∧p≤3:=by omega
    cases hv:inR (val got p) 1 6
    · rw[Bool.not_false,cond_true,cond_false]
      have es:[(13:Int),p].foldl (bub ikey) []=[p,13]:=by
        simp only[List.foldl_cons,List.foldl_nil,bub,List.reverse_nil,bubR,List.reverse_singleton]
        rw[if_pos (show ikey p<ikey 13 by unfold ikey;omega)];rfl
      refine ⟨⟨by simp[run],fun e he=>?_⟩,.inr (.inr (.inl ⟨k,hst,es⟩))⟩
      simp only[run,List.mem_cons,List.not_mem_nil,or_false] at he
      rcases he with rfl | rfl<;>exact ⟨by omega,by omega⟩
    · rw[hv,Bool.not_true,cond_false] at r2
      rw[Bool.not_true,cond_false,cond_true]
      have hvia:=qfo (val got p)
      have hvr:=qbz.1 hv
      obtain ⟨_,_,e3⟩:=qmq (by omega) r2
      rw[e3]
      have es:[(13:Int),p,q9 (val got p)].foldl (bub ikey) []=[p,13,q9 (val got p)]:=by
        simp only[List.foldl_cons,List.foldl_nil,bub,List.reverse_nil,bubR,List.reverse_singleton]
        rw[if_pos (show ikey p<ikey 13 by unfold ikey;omega)]
        simp only[List.reverse_cons,List.reverse_nil,List.nil_append,List.cons_append,bubR]
        rw[if_neg (show ¬ ikey (q9 (val got p))<ikey 13 by unfold ikey;omega)]
        rfl
      refine ⟨⟨by simp[run],fun e he=>?_⟩,.inr (.inr (.inl ⟨k,hst,es⟩))⟩
      simp only[run,List.mem_cons,List.not_mem_nil,or_false] at he
      rcases he with rfl | rfl | rfl<;>exact ⟨by omega,by omega⟩
  · rw[if_neg (by omega),if_neg (by omega),if_neg (by omega),if_pos k] at hr ⊢
    rw[if_neg (by omega),if_neg (by omega)] at hn
    have hst:val got 13=5:=by
      by_cases s0:(qt got 13).1=5
      · exact s0
      · rw[if_pos ⟨k,s0⟩] at hn;cases hn
    unfold qn6 at hr ⊢
    obtain ⟨_,r1,e1⟩:=qmq (by omega) hr
    rw[e1]
    rw[hst] at r1 ⊢
    rw[show ((5:Int) != 5)=false by decide,cond_false] at r1 ⊢
    have hvia:=qfo o.2.2.1
    obtain ⟨_,_,e3⟩:=qmq (by omega) r1
    rw[e3]
    have es:[(13:Int),q9 o.2.2.1].foldl (bub ikey) []=[13,q9 o.2.2.1]:=by
      simp only[List.foldl_cons,List.foldl_nil,bub,List.reverse_nil,bubR,List.reverse_singleton]
      rw[if_neg (show ¬ ikey (q9 o.2.2.1)<ikey 13 by unfold ikey;omega)]
      rfl
    refine ⟨⟨by simp[run],fun e he=>?_⟩,.inr (.inr (.inr ⟨k,es⟩))⟩
    simp only[run,List.mem_cons,List.not_mem_nil,or_false] at he
    rcases he with rfl | rfl<;>exact ⟨by omega,by omega⟩
end Go.G

namespace Go.G
set_option maxRecDepth 100000
open Go Go.V Go.Proofs
section
variable {X:Ext} (hX:XOk X) {n:Nat} {got:Got}
include hX
theorem qbh4 (hn:W+3≤n) (hg:got.length≤1048576) (o:Op3) (x6:Plan) (rl:List Int) (el:List qbr):qgx (DD X n) n got o x6 (false,(0,rl,()),el,()) =
  some (((false,(if o.1=10 then (if val got (q9 o.2.2.1)=0 then (3,rl,()) else (0,[IntKind.wrap IntKind.i64 (val got (q9 o.2.2.1) - 1)],())) else (0,rl,())),el,()),true,()),()):=by
 have hW:=qca
 simp only[qgx]
 by_cases k:o.1=10
 ·rw[ql k,if_pos k,qgo hX (by omega),qc]
  dsimp only
  rw[qe0 hX (by omega) got hg,qc]
  dsimp only
  unfold val
  by_cases h:(qt got (q9 o.2.2.1)).1=0
  ·rw[bned,decide_eq_true h,Bool.not_true,br_f,if_pos h]
  ·rw[bned,decide_eq_false h,Bool.not_false,br_t,if_neg h]
 ·rw[qi k,if_neg k]
theorem qbca (hn:W+14≤n) (hg:got.length≤1048576) (o:Op3):qub (DD X n) o got=some (qic o got,()):=by
 obtain ⟨n,rfl⟩:∃ k,n=k+1:=⟨n - 1,by omega⟩
 have hW:=qca
 obtain ⟨k,K,V,⟨⟩⟩:=o
 rw[qbba hX]
 simp only[qul,qux,qre]
 rw[q0s hX (by omega),qc]
 dsimp only
 unfold qic
 cases ho:opOk (k,K,V,())
 ·rw[Bool.not_false,br_t,if_neg (by simp)];rfl
 obtain ⟨b,e⟩:=qbei hX (n:=n) (by omega) hg (k,K,V,())
 rw[Bool.not_true,br_f,e,qc]
 dsimp only
 by_cases hr:(run got (prog (k,K,V,()))).2<0
 ·rw[qi (by omega),if_pos ⟨rfl,hr⟩,qbi8 hX (by omega) hg,qc]
  cases hnow:qe2 (k,K,V,()) got with
  | some x=>
   simp only[qlr]
   rw[br_t]
  | none=>
   simp only[qlr]
   rw[br_f,qdi hX (by omega),qc]
   dsimp only
   rw[qe0 hX (by omega) got hg,qc]
   dsimp only
   rw[qd3 hX (by omega),qc]
   dsimp only
   rw[qe0 hX (by omega) got hg,qc]
   dsimp only
   by_cases hk:k=1∨k=2∨k=3
   ·have hne:=q83 ho hnow hk
    obtain ⟨c1,_,_,_⟩:=q5g (got:=got) (K:=K) (V:=V) (held:=val got (qr K)) (st:=val got 13) hne
    have h123:(bif bif decide (k=1) then true else decide (k=2) then true else decide (k=3))=true:=by
     rcases hk with h | h | h<;>subst h<;>rfl
    rw[qi (by omega),h123,br_t,qbhi hX (by omega) hg,qc]
    dsimp only
    unfold resP entP
    rw[if_pos hk,if_neg (show ¬ k=7 by omega),if_neg (show ¬ k=10 by omega)]
    have c1':=c1
    unfold val at c1' ⊢
    rw[c1']
   ·obtain ⟨⟨p1,p2⟩,pl⟩:=qxk ho hnow hr hk
    have h123:(bif bif decide (k=1) then true else decide (k=2) then true else decide (k=3))=false:=by
     rw[decide_eq_false (show ¬ k=1 by omega),decide_eq_false (show ¬ k=2 by omega),decide_eq_false (show ¬ k=3 by omega)];rfl
    rw[h123]
    simp only[br_f]
    have hsort:=qblc hX (n:=n) (by omega) _ p1 p2
    have hloop:∀ (row:Int) (P:List Int) (x6:Plan),P.length≤20→qgz (DD X n) n (fun v0_0 v0_1 v0_2 v0_3=>qgx (DD X n) n v0_0 v0_1 v0_2 v0_3) n got (qt got 13).1 row (P.length:Int) 0 (k,K,V,()) x6 (false,(0,[],()),[],()) (got,P,(run got (prog (k,K,V,()))).2,b,()) =
      some (((false,(if k=10 then (if val got (q9 V)=0 then (3,(if k=7 then P.map (val got) else []),()) else (0,[IntKind.wrap IntKind.i64 (val got (q9 V) - 1)],())) else (0,(if k=7 then P.map (val got) else []),())),P.map (fun p=>(p,val got p,becP k row (qt got 13).1 p (val got p),())),()),true,()),()):=by
     intro row P x6 hP
     have:=qbd8 hX n n (by omega) hg (fun v0_0 v0_1 v0_2 v0_3=>qgx (DD X n) n v0_0 v0_1 v0_2 v0_3) (qt got 13).1 row (k,K,V,()) x6 got P ((run got (prog (k,K,V,()))).2,b,()) hP n 0 [] [] (by omega) (by omega) (by simp) (by simp)
     rw[show ((0:Nat):Int)=0 from rfl,List.drop_zero] at this
     rw[this]
     rw[qbh4 hX (by omega) hg]
     simp only[List.nil_append]
    unfold resP entP
    dsimp only
    rw[if_neg hk]
    rcases pl with ⟨h7,hp⟩ | ⟨h8,hz,hp⟩ | ⟨h9,hz,hp⟩ | ⟨h10,hp⟩
    ·dsimp only at h7;subst h7
     rw[qi (by decide),hsort,qc,hp]
     dsimp only
     rw[hloop _ [0,1,2,3] _ (by simp)]
     rfl
    ·dsimp only at h8;subst h8
     rw[qi (by decide),hsort,qc,hp]
     dsimp only
     rw[hloop _ [13] _ (by simp),if_neg (by decide),if_neg (by decide),if_neg (by decide),if_neg (by decide),if_pos rfl,if_neg (by decide)]
     simp only[List.map_cons,List.map_nil,becP,if_true]
     rw[hz]
     rfl
    ·dsimp only at h9;subst h9
     rw[ql rfl,qd3 hX (by omega),qc]
     dsimp only
     rw[qe0 hX (by omega) got hg,qc]
     dsimp only
     rw[hsort,qc,hp]
     dsimp only
     rw[hloop _ _ _ (by cases inR (val got (qr (IntKind.wrap IntKind.i64 (val got 13 - 1)))) 1 6<;>simp)]
     have hw:IntKind.wrap IntKind.i64 (val got 13 - 1)=val got 13 - 1:=qbl (by omega) (by omega)
     have hrow:=qjz (IntKind.wrap IntKind.i64 (val got 13 - 1))
     rw[hw] at hrow
     rw[if_neg (by decide),if_neg (by decide),if_neg (by decide),if_neg (by decide),if_pos rfl,if_neg (by decide),if_neg (by decide)]
     have hvv:(qt got 13).1=val got 13:=rfl
     rw[hvv,hw]
     have hv2:(qt got (qr (val got 13 - 1))).1=val got (qr (val got 13 - 1)):=rfl
     rw[hv2]
     generalize qr (val got 13 - 1)=p at *
     have hpr:0≤p∧p≤3:=by omega
     have hvia:=qfo (val got p)
     have b1:∀ x,becP 9 (val got p) (val got 13) p x=x:=fun x=>by
      unfold becP;rw[if_neg (by decide),if_pos rfl,if_neg (by omega),if_neg (by omega)]
     have b2:∀ x,becP 9 (val got p) (val got 13) 13 x=IntKind.wrap IntKind.i64 (x+1):=fun x=>by
      unfold becP;rw[if_neg (by decide),if_pos rfl,if_pos rfl]
     cases hin:inR (val got p) 1 6
     ·simp only[cond_false,List.map_cons,List.map_nil,b1,b2]
      rfl
     ·have hvr:=qbz.1 hin
      have b3:∀ x,becP 9 (val got p) (val got 13) (q9 (val got p)) x=val got 13:=fun x=>by
       unfold becP;rw[if_neg (by decide),if_pos rfl,if_neg (by omega),if_pos rfl]
      simp only[cond_true,List.map_cons,List.map_nil,b1,b2,b3]
      rfl
    ·dsimp only at h10;subst h10
     rw[qi (by decide),hsort,qc,hp]
     dsimp only
     rw[hloop _ [13,q9 V] _ (by simp)]
     simp[becP,same]
 ·rw[ql (by omega),if_neg (fun h=>hr h.2)];rfl
end
end Go.G

namespace Go.G
set_option maxRecDepth 100000
open Go Go.V Go.Proofs
def Bnd:PR→Prop
 | .done=>True
 | .ask p k=>(-1≤p∧p<20)∧∀ v,Bnd (k v)
theorem qbfv (got:Got):∀ (P:PR),Bnd P→-1≤(run got P).2∧(run got P).2<20
 | .done,_=>⟨by simp[run],by simp[run]⟩
 | .ask p k,h=>by
  cases hh:hit got p
  ·rw[qcz hh];exact h.1
  ·rw[qdk hh];exact qbfv got (k (qt got p).1) (h.2 _)
theorem qmk {b:Bool} {P Q:PR} (h1:Bnd P) (h2:Bnd Q):Bnd (bif b then P else Q):=by cases b<;>assumption
theorem qy9 (k:Int) : -1≤qr k∧qr k<20:=by have:=qjz k;omega
theorem qt4 (k:Int) : -1≤qv k∧qv k<20:=by have:=qgy k;omega
theorem q71 (k:Int) : -1≤q9 k∧q9 k<20:=by have:=qfo k;omega
theorem qtz (k:Int) : -1≤qbg k∧qbg k<20:=by have:=qf9 k;omega
theorem qbaf:∀ l,Bnd (qxl l)
 | []=>trivial
 | v::l=>⟨q71 v,fun _=>qbaf l⟩
theorem q2y (k:Int) (l:List Int):Bnd (qgt k l):=⟨by omega,fun _=>qmk trivial (qbaf l)⟩
theorem qbix (o:Op3):Bnd (prog o):=by
 unfold prog
 repeat' split
 ·exact ⟨qy9 _,fun _=>qmk trivial ⟨qt4 _,fun _=>qmk trivial ⟨qtz _,fun _=>q2y _ _⟩⟩⟩
 ·exact ⟨qy9 _,fun _=>qmk trivial ⟨qt4 _,fun _=>qmk trivial ⟨qt4 _,fun _=>qmk ⟨qtz _,fun _=>⟨qtz _,fun _=>q2y _ _⟩⟩ (q2y _ _)⟩⟩⟩
 ·exact ⟨qy9 _,fun _=>qmk trivial ⟨qt4 _,fun _=>⟨qtz _,fun _=>q2y _ _⟩⟩⟩
 ·exact ⟨qy9 _,fun _=>trivial⟩
 ·exact ⟨qt4 _,fun _=>trivial⟩
 ·exact ⟨qtz _,fun _=>trivial⟩
 ·exact ⟨by omega,fun _=>⟨by omega,fun _=>⟨by omega,fun _=>⟨by omega,fun _=>trivial⟩⟩⟩⟩
 ·exact ⟨by omega,fun _=>trivial⟩
 ·exact ⟨by omega,fun _=>qmk trivial ⟨qy9 _,fun _=>qmk trivial ⟨q71 _,fun _=>trivial⟩⟩⟩
 ·exact ⟨by omega,fun _=>qmk trivial ⟨q71 _,fun _=>trivial⟩⟩
 ·trivial
theorem qbbs (got:Got):∀ (P:PR),∀ p∈(run got P).1,hit got p=true
 | .done,p,h=>by simp[run] at h
 | .ask q k,p,h=>by
  cases hh:hit got q
  ·rw[qcz hh] at h;simp at h
  ·rw[qdk hh] at h
   rcases List.mem_cons.1 h with h | h
   ·subst h;exact hh
   ·exact qbbs got _ p h
theorem qx2 {α:Type} (key:α→Int):∀ (L acc:List α) (z:α),z∈L.foldl (bub key) acc↔z∈acc∨z∈L
 | [],acc,z=>by simp
 | e::L,acc,z=>by
  rw[List.foldl_cons,qx2 key L,q8p,List.mem_cons]
  constructor
  ·rintro ((h | h) | h)
   ·exact .inr (.inl h)
   ·exact .inl h
   ·exact .inr (.inr h)
  ·rintro (h | h | h)
   ·exact .inl (.inr h)
   ·exact .inl (.inl h)
   ·exact .inr h
theorem qoy {o:Op3} {got:Got} {L:List Int} (h:(run got (prog o)).1.foldl (bub ikey) []=L) {p:Int} (hp:p∈L):hit got p=true:=by
 rw[←h,qx2] at hp
 rcases hp with hp | hp
 ·simp at hp
 ·exact qbbs got _ p hp
def q6b (o:Op3) (got:Got):Int:=if opOk o=true then (run got (prog o)).2 else -1
section
variable {X:Ext} (hX:XOk X) {n:Nat} {got:Got}
include hX
theorem q3o (hn:W+13≤n) (hg:got.length≤1048576) (o:Op3):qth (DD X n) o got=some ((q6b o got,()),()):=by
 obtain ⟨n,rfl⟩:∃ k,n=k+1:=⟨n - 1,by omega⟩
 have hW:=qca
 rw[qbe9 hX]
 simp only[qyp,q30]
 obtain ⟨b,e⟩:=qbei hX (n:=n) (by omega) hg o
 obtain ⟨a,w,e3,e4,h⟩:=qbkw hX (n:=n) (by omega) got hg o
 rw[e] at e3
 simp only[Option.some.injEq,Prod.mk.injEq,and_true] at e3
 obtain ⟨k,K,V,⟨⟩⟩:=o
 rw[q6j hX (by omega),qc]
 dsimp only
 unfold q6b
 cases ho:opOk (k,K,V,())
 ·rw[Bool.not_false,br_t];rfl
 ·rw[Bool.not_true,br_f,e4,qc,if_pos rfl]
  dsimp only
  rw[←h,←e3]
theorem qx1 (N n:Nat) (hN:W+6≤N) (hg:got.length≤1048576) (K:Plan→Plan→Option ((Plan×Bool×Unit)×Unit)) (m:Nat) (i:Nat) (hi:i<4) (x2:Plan) (rl:List Int) (el:List qbr) (h1:rl.length≤50) (h2:el.length≤50) :
  qc5 (DD X N) n K (m+1) got (i:Int) x2 (false,(0,rl,()),el,()) =
   qc5 (DD X N) n K m got ((i+1:Nat):Int) x2 (false,(0,rl++[val got (i:Int)],()),(ent got (i:Int) (fun v=>v)).foldl insS el,()):=by
 have hb:=qfw
 have hW:=qca
 have hr:qr (i:Int)=i:=by unfold qr;rw[qbz.2 (by omega)];rfl
 rw[show qc5 (DD X N) n K (m+1)=fun x0 x1 x2 x3=>qlb (DD X N) n (qc5 (DD X N) n K m) K x0 x1 x2 x3 from rfl]
 simp only[qlb]
 rw[ql (by omega),qev hX (by omega),qc,hr]
 dsimp only
 rw[qwn hX (by omega) hg (by omega),qc]
 simp only[qc]
 rw[qec hX (by omega) got hg,qc]
 dsimp only
 rw[ql (by omega),qbh (by omega)]
 rfl
theorem qbjg (N n:Nat) (K:Plan→Plan→Option ((Plan×Bool×Unit)×Unit)) (m:Nat) (x2 x3:Plan):qc5 (DD X N) n K (m+1) got 4 x2 x3=K x2 x3:=by
 simp only[qc5,qlb]
 rw[qi (by decide)]
theorem qbb6 (hn:W+15≤n) (hg:got.length≤1048576) (hv:q1w got) (o:Op3):quk (DD X n) o got=some (qic o got,()):=by
 obtain ⟨n,rfl⟩:∃ k,n=k+1:=⟨n - 1,by omega⟩
 have hW:=qca
 have hnx:=q3o hX (n:=n) (by omega) hg o
 have hnow5:=qblu hX (n:=n) (by omega) hg o
 obtain ⟨k,K,V,⟨⟩⟩:=o
 have hbd:=qbfv got (prog (k,K,V,())) (qbix _)
 rw[qbbg hX]
 simp only[quu,quf,qp4]
 rw[q6j hX (by omega),qc]
 dsimp only
 unfold qic
 unfold q6b at hnx
 cases ho:opOk (k,K,V,())
 ·rw[Bool.not_false,br_t,if_neg (by simp)];rfl
 rw[ho,if_pos rfl] at hnx
 rw[Bool.not_true,br_f,hnx,qc]
 dsimp only
 by_cases hr:(run got (prog (k,K,V,()))).2<0
 ·rw[show ((run got (prog (k,K,V,()))).2 != -1)=false by rw[bned,decide_eq_true (by omega)];rfl,br_f,if_pos ⟨rfl,hr⟩,hnow5,qc]
  cases hnow:qe2 (k,K,V,()) got with
  | some x=>
   simp only[qix]
   rw[br_t]
  | none=>
   simp only[qix]
   rw[br_f,qfn hX (by omega),qc]
   dsimp only
   rw[qec hX (by omega) got hg,qc]
   dsimp only
   by_cases hk:k=1∨k=2∨k=3
   ·have hkd:=qm2 ho
    dsimp only at hkd
    rw[qi (show ¬ k=7 by omega),qi (show ¬ k=8 by omega),qi (show ¬ k=9 by omega),qi (show ¬ k=10 by omega),qbgr hX (by omega) hg hv k K V (by omega),qc]
    dsimp only
    unfold resP entP
    rw[if_pos hk,if_neg (show ¬ k=7 by omega),if_neg (show ¬ k=10 by omega)]
    rfl
   ·obtain ⟨⟨p1,p2⟩,pl⟩:=qxk ho hnow hr hk
    unfold resP entP
    dsimp only
    rw[if_neg hk]
    rcases pl with ⟨h7,hp⟩ | ⟨h8,hz,hp⟩ | ⟨h9,hz,hp⟩ | ⟨h10,hp⟩
    ·dsimp only at h7;subst h7
     have t0:hit got ((0:Nat):Int)=true:=qoy hp (by simp)
     have t1:hit got ((1:Nat):Int)=true:=qoy hp (by simp)
     have t2:hit got ((2:Nat):Int)=true:=qoy hp (by simp)
     have t3:hit got ((3:Nat):Int)=true:=qoy hp (by simp)
     obtain ⟨n2,hn2⟩:∃ k,n=k+5:=⟨n - 5,by omega⟩
     rw[ql rfl]
     generalize hKK:(fun v0_0 v0_1=>qpd (DD X n) n v0_0 v0_1)=KK
     have hrun:qc5 (DD X n) n KK n got ((0:Nat):Int) (false,(0,[],()),[],()) (false,(0,[],()),[],())=KK (false,(0,[],()),[],()) (false,(0,[val got 0,val got 1,val got 2,val got 3],()),[same got 0,same got 1,same got 2,same got 3],()):=by
      have hfuel:∀ m,n=m→qc5 (DD X n) n KK n got ((0:Nat):Int) (false,(0,[],()),[],()) (false,(0,[],()),[],())=qc5 (DD X n) n KK m got ((0:Nat):Int) (false,(0,[],()),[],()) (false,(0,[],()),[],()):=fun m hm=>by rw[←hm]
      rw[hfuel (n2+5) hn2]
      rw[qx1 hX n n (by omega) hg KK (n2+4) 0 (by omega) _ [] [] (by simp) (by simp),qgg t0]
      rw[qx1 hX n n (by omega) hg KK (n2+3) 1 (by omega) _ _ _ (by simp) (by simp[qpn]),qgg t1]
      rw[qx1 hX n n (by omega) hg KK (n2+2) 2 (by omega) _ _ _ (by simp) (by simp[qpn]),qgg t2]
      rw[qx1 hX n n (by omega) hg KK (n2+1) 3 (by omega) _ _ _ (by simp) (by simp[qpn]),qgg t3]
      rw[show ((3+1:Nat):Int)=4 from rfl,qbjg hX n n KK n2]
      rfl
     rw[show ((0:Nat):Int)=0 from rfl] at hrun
     rw[hrun,←hKK]
     rfl
    ·dsimp only at h8;subst h8
     have t:=qoy hp (p:=13) (by simp)
     rw[qi (by decide),ql rfl]
     simp only[qc,qfn hX (n:=n) (by omega)]
     rw[qmo hX (by omega) hg (by simp),qc,qgg t]
     rfl
    ·dsimp only at h9;subst h9
     have t:=qoy hp (p:=13) (by simp)
     have hw:IntKind.wrap IntKind.i64 (val got 13 - 1)=val got 13 - 1:=qbl (by omega) (by omega)
     have hrow:=qjz (IntKind.wrap IntKind.i64 (val got 13 - 1))
     rw[hw] at hrow hp
     have tp:=qoy hp (p:=qr (val got 13 - 1)) (by simp)
     rw[qi (by decide),qi (by decide),ql rfl,qev hX (by omega),qc]
     have hvv:(qt got 13).1=val got 13:=rfl
     rw[hvv,hw]
     dsimp only
     rw[qec hX (by omega) got hg,qc]
     simp only[qc]
     rw[qmo hX (by omega) hg (by simp),qc,qgg t]
     have hv2:(qt got (qr (val got 13 - 1))).1=val got (qr (val got 13 - 1)):=rfl
     rw[hv2]
     simp only[qc,qev hX (n:=n) (by omega)]
     generalize qr (val got 13 - 1)=p at *
     have hpr:0≤p∧p≤3:=by omega
     rw[qwn hX (by omega) hg (by simp[qpn]),qc,qgg tp]
     dsimp only
     rw[qli hX (by omega),qc]
     dsimp only
     have e2:[(p,(qt got p).1,(qt got p).1,())].foldl insS ([((13:Int),(qt got 13).1,IntKind.wrap IntKind.i64 (val got 13+1),())].foldl insS [])=[same got p,((13:Int),val got 13,IntKind.wrap IntKind.i64 (val got 13+1),())]:=by
      simp only[List.foldl_cons,List.foldl_nil,insS,List.takeWhile_nil,List.dropWhile_nil,List.nil_append]
      rw[List.takeWhile_cons_of_neg (by simp;omega),List.dropWhile_cons_of_neg (by simp;omega)]
      rfl
     rw[e2,qmo hX (by omega) hg (by simp),qc]
     have hvia:=qfo (val got p)
     cases hin:inR (val got p) 1 6
     ·have hm:hit got (q9 (val got p))=false:=by
       have:¬ (1≤val got p∧val got p≤6):=fun h=>by rw[qbz.2 h] at hin;cases hin
       unfold hit
       rw[decide_eq_false (by omega)];rfl
      rw[qr7 hm]
      rfl
     ·have hvr:=qbz.1 hin
      rw[hin,cond_true] at hp
      have tv:=qoy hp (p:=q9 (val got p)) (by simp)
      rw[qgg tv]
      simp only[List.foldl_cons,List.foldl_nil,insS,cond_true]
      have q1:decide ((same got p).1<q9 (val got p))=true:=decide_eq_true (show p<q9 (val got p) by omega)
      have q2:decide ((13:Int)<q9 (val got p))=true:=decide_eq_true (by omega)
      simp only[List.takeWhile_cons,List.dropWhile_cons,q1,q2,if_true,List.takeWhile_nil,List.dropWhile_nil]
      rfl
    ·dsimp only at h10;subst h10
     have t:=qoy hp (p:=13) (by simp)
     have tv:=qoy hp (p:=q9 V) (by simp)
     have hkd:=qm2 ho
     dsimp only at hkd
     have hvia:=qfo V
     rw[qi (by decide),qi (by decide),qi (by decide),ql rfl]
     simp only[qc,qfn hX (n:=n) (by omega)]
     rw[qwn hX (by omega) hg (by simp),qc,qgg t]
     dsimp only
     rw[qli hX (by omega),qc]
     dsimp only
     rw[qwn hX (by omega) hg (by simp[qpn]),qc,qgg tv]
     simp only[qc]
     rw[qec hX (by omega) got hg,qc]
     have e2:[(q9 V,(qt got (q9 V)).1,(qt got (q9 V)).1,())].foldl insS ([((13:Int),(qt got 13).1,(qt got 13).1,())].foldl insS [])=[same got 13,same got (q9 V)]:=by
      simp only[List.foldl_cons,List.foldl_nil,insS,List.takeWhile_nil,List.dropWhile_nil,List.nil_append]
      rw[List.takeWhile_cons_of_pos (by simp;omega),List.dropWhile_cons_of_pos (by simp;omega)]
      rfl
     rw[e2]
     dsimp only
     by_cases h0:(qt got (q9 V)).1=0
     ·rw[ql h0]
      simp[val,h0]
     ·rw[qi h0]
      simp[val,h0]
 ·rw[show ((run got (prog (k,K,V,()))).2 != -1)=true by rw[bned,decide_eq_false (by omega)];rfl,br_t,if_neg (fun h=>hr h.2)];rfl
end
end Go.G

namespace Go.G
open Go Go.V
abbrev Cur:=List Int×Int×Int×Unit
def qm4 (c:Cur):Prop:=c.1.length≤1048576∧0≤c.2.1∧c.2.1≤c.1.length
theorem q24 (x:BitVec (IntKind.bits IntKind.i64)):0≤IntKind.wrap IntKind.i64 ((BitVec.toNat (BitVec.and x (BitVec.ofInt (IntKind.bits IntKind.i64) 255)):Nat):Int)∧IntKind.wrap IntKind.i64 ((BitVec.toNat (BitVec.and x (BitVec.ofInt (IntKind.bits IntKind.i64) 255)):Nat):Int)≤255:=by
 have h:BitVec.toNat (BitVec.and x (BitVec.ofInt (IntKind.bits IntKind.i64) 255))≤255:=by
  show BitVec.toNat (x &&&BitVec.ofInt (IntKind.bits IntKind.i64) 255)≤255
  rw[BitVec.toNat_and]
  exact Nat.le_trans Nat.and_le_right (by decide)
 rw[qbl (by omega) (by omega)]
 omega
theorem qxb {X:Ext} (hX:XOk X) {n:Nat} (hn:1≤n) {c:Cur} (hc:qm4 c):∃ (x:Int) (c':Cur),0≤x∧x≤255∧qm4 c'∧qh2 (DD X n) c=some ((x,()),(c',())):=by
 obtain ⟨n,rfl⟩:∃ k,n=k+1:=⟨n - 1,by omega⟩
 obtain ⟨h1,h2,h3⟩:=hc
 rw[qbbd hX]
 simp only[quh,q0w]
 by_cases h:c.2.1<(c.1.length:Int)
 ·rw[ql h,ixn h2 h,br_t,qbl (x:=c.2.1+1) (by omega) (by omega)]
  refine ⟨_,(c.1,c.2.1+1,_,()),(q24 _).1,(q24 _).2,⟨h1,?_,?_⟩,rfl⟩
  ·show 0≤c.2.1+1;omega
  ·show c.2.1+1≤(c.1.length:Int);omega
 ·rw[qi h]
  have k:∀ h u,qm4 (c.1,c.2.1,h,u):=fun _ _=>⟨h1,h2,h3⟩
  exact ⟨_,_,(q24 _).1,(q24 _).2,k _ _,rfl⟩
theorem qtn {X:Ext} (hX:XOk X) {n:Nat} (hn:2≤n) {c:Cur} (hc:qm4 c) (k:Int):∃ (x:Int) (c':Cur),(0<k→0≤x∧x<k)∧(k≤0→x=0)∧qm4 c'∧qdr (DD X n) c k=some ((x,()),(c',())):=by
 obtain ⟨n,rfl⟩:∃ k,n=k+1:=⟨n - 1,by omega⟩
 rw[q8e hX]
 simp only[qsj,qzr]
 by_cases h:k≤0
 ·rw[ql h]
  exact ⟨0,c,fun h2=>by omega,fun _=>rfl,hc,rfl⟩
 ·rw[qi h]
  by_cases h2:k≤256
  ·obtain ⟨x,c',x0,x1,hc',e⟩:=qxb hX (n:=n) (by omega) hc
   rw[ql h2,e,qc]
   dsimp only
   rw[qi (by omega)]
   refine ⟨_,_,fun _=>?_,fun h3=>by omega,hc',rfl⟩
   rw[Int.tmod_eq_emod_of_nonneg x0]
   exact ⟨Int.emod_nonneg _ (by omega),Int.emod_lt_of_pos _ (by omega)⟩
  ·obtain ⟨x,c1,x0,x1,hc1,e1⟩:=qxb hX (n:=n) (by omega) hc
   obtain ⟨y,c2,y0,y1,hc2,e2⟩:=qxb hX (n:=n) (by omega) hc1
   obtain ⟨z,c3,z0,z1,hc3,e3⟩:=qxb hX (n:=n) (by omega) hc2
   obtain ⟨w,c4,w0,w1,hc4,e4⟩:=qxb hX (n:=n) (by omega) hc3
   rw[qi h2,e1,qc]
   dsimp only
   rw[e2,qc]
   dsimp only
   rw[e3,qc]
   dsimp only
   rw[e4,qc]
   dsimp only
   rw[qi (by omega),qbl (x:=x * 16777216) (by omega) (by omega),qbl (x:=y * 65536) (by omega) (by omega),qbl (x:=x * 16777216+y * 65536) (by omega) (by omega),
    qbl (x:=z * 256) (by omega) (by omega),qbl (x:=x * 16777216+y * 65536+z * 256) (by omega) (by omega),qbl (x:=x * 16777216+y * 65536+z * 256+w) (by omega) (by omega)]
   refine ⟨_,_,fun _=>?_,fun h3=>by omega,hc4,rfl⟩
   rw[Int.tmod_eq_emod_of_nonneg (by omega)]
   exact ⟨Int.emod_nonneg _ (by omega),Int.emod_lt_of_pos _ (by omega)⟩
theorem q3w {X:Ext} (hX:XOk X) {n:Nat} (hn:3≤n) {c:Cur} (hc:qm4 c) (l:List Int) (hl:0<l.length):∃ (x:Int) (c':Cur),x∈l∧qm4 c'∧ql0 (DD X n) c l=some ((x,()),(c',())):=by
 obtain ⟨n,rfl⟩:∃ k,n=k+1:=⟨n - 1,by omega⟩
 rw[q4z hX]
 simp only[qpc,qw0]
 obtain ⟨x,c',h1,_,hc',e⟩:=qtn hX (n:=n) (by omega) hc (l.length:Int)
 obtain ⟨x0,x1⟩:=h1 (by omega)
 rw[e,qc]
 dsimp only
 rw[ixn x0 x1,br_t,qc9 (by omega)]
 exact ⟨_,_,List.getElem_mem _,hc',rfl⟩
theorem qbfp (D:Den ctx) (n:Nat) {K0:List Int→Int→Option ((Cur×Unit)×Unit)} (a:List Int) (ha:a.length≤1048576):∀ (m i:Nat) (h:Int),i≤a.length→a.length - i<m→∃ h':Int,qjk D n K0 m a h i=K0 a h'
 | 0,_,_,_,h=>by omega
 | m+1,i,h,hi,hf=>by
  simp only[qjk,quq]
  by_cases h1:i<a.length
  ·by_cases h2:(i:Int)<4000
   ·rw[decide_eq_true (by omega:(i:Int)<(a.length:Int)),cond_true,ql h2,decide_eq_true (by omega:(0:Int)≤(i:Int)),Bool.and_self,br_t,qbh (by omega)]
    exact qbfp D n a ha m (i+1) _ (by omega) (by omega)
   ·rw[decide_eq_true (by omega:(i:Int)<(a.length:Int)),cond_true,qi h2]
    exact ⟨h,rfl⟩
  ·rw[decide_eq_false (by omega:¬ (i:Int)<(a.length:Int)),cond_false,br_f]
   exact ⟨h,rfl⟩
theorem qbkt {X:Ext} (hX:XOk X) {n:Nat} (hn:W+1≤n) (a:List Int) (ha:a.length≤1048576):∃ c:Cur,qm4 c∧qw9 (DD X n) a=some ((c,()),()):=by
 obtain ⟨n,rfl⟩:∃ k,n=k+1:=⟨n - 1,by omega⟩
 have hW:=qca
 rw[qbdk hX]
 simp only[qwc,qv5,qr8]
 obtain ⟨h',e⟩:=qbfp (DD X n) n (K0:=fun v w=>qqe (DD X n) n v w) a ha n 0 (IntKind.wrap IntKind.i64 (27323+(a.length:Int))) (by omega) (by omega)
 rw[show ((0:Nat):Int)=0 from rfl] at e
 exact ⟨(a,0,h',()),⟨ha,by show (0:Int)≤0;omega,by show (0:Int)≤(a.length:Int);omega⟩,e⟩
theorem qbms {X:Ext} (hX:XOk X) {n:Nat} (hn:1≤n) (a:List Int):q0t (DD X n) a=some ((decide ((a.length:Int)>1048576),()),()):=by
 obtain ⟨n,rfl⟩:∃ k,n=k+1:=⟨n - 1,by omega⟩
 rw[qbg4 hX];rfl
end Go.G

namespace Go.G
set_option maxRecDepth 100000
open Go Go.V Go.Proofs
abbrev q8:=List Int×Int×Unit
def keyF (v:Int):List Int→Nat→Int
 | [],_=>-1
 | x::l,i=>if x=v then (i:Int) else keyF v l (i+1)
theorem qw1 (v:Int):∀ (l:List Int) (i:Nat),keyF v l i<0→v∉l
 | [],i,_=>by simp
 | x::l,i,h=>by
  simp only[keyF] at h
  by_cases e:x=v
  ·rw[if_pos e] at h;omega
  ·rw[if_neg e] at h
   have:=qw1 v l (i+1) h
   intro hm
   rcases List.mem_cons.1 hm with k | k
   ·exact e k.symm
   ·exact this k
theorem qry (v:Int):∀ (l:List Int) (i k:Nat),l[k]? = some v→(∀ j<k,l[j]?≠some v)→keyF v l i=((i+k:Nat):Int)
 | [],i,k,h,_=>by simp at h
 | x::l,i,0,h,_=>by
  simp only[List.getElem?_cons_zero,Option.some.injEq] at h
  simp only[keyF];rw[if_pos h];rfl
 | x::l,i,k+1,h,hj=>by
  simp only[List.getElem?_cons_succ] at h
  simp only[keyF]
  rw[if_neg (by have:=hj 0 (by omega);simp only[List.getElem?_cons_zero,ne_eq,Option.some.injEq] at this;exact this),qry v l (i+1) k h (fun j h2=>by have:=hj (j+1) (by omega);simpa using this)]
  congr 1;omega
structure RightR (r:q8):Prop where
 len:r.1.length=4
 rng:∀ x∈r.1,0≤x∧x≤6
 once:∀ i j:Nat,i<j→∀ v,r.1[i]? = some v→r.1[j]? = some v→v=0
 st:0≤r.2.1∧r.2.1≤5
section
variable {X:Ext} (hX:XOk X) {n:Nat}
include hX
theorem qbgc (D:Den ctx) (n:Nat) (K0:Int→Option ((Int×Unit)×Unit)) (K1:Option ((Int×Unit)×Unit)) (hK:K0 (-1)=K1) (r:q8) (hr:r.1.length≤1000) (v:Int):∀ (m i:Nat),i≤r.1.length→r.1.length - i<m→
  qjg D n K0 K1 m v (i:Int) r=K0 (keyF v (r.1.drop i) i)
 | 0,_,_,h=>by omega
 | m+1,i,hi,hf=>by
  simp only[qjg,qu0]
  by_cases h:i<r.1.length
  ·rw[ql (by omega),ix h,br_t,Int.toNat_natCast,qc9 h,qll h]
   simp only[keyF]
   by_cases e:r.1[i]=v
   ·rw[ql e,if_pos e]
   ·rw[qi e,if_neg e,qbh (by omega)]
    exact qbgc D n K0 K1 hK r hr v m (i+1) (by omega) (by omega)
  ·rw[qi (by omega),qnw h]
   exact hK.symm
theorem q3v (hn:W+1≤n) (r:q8) (hr:r.1.length≤1000) (v:Int):qqk (DD X n) r v=some ((keyF v r.1 0,()),()):=by
 obtain ⟨n,rfl⟩:∃ k,n=k+1:=⟨n - 1,by omega⟩
 have hW:=qca
 rw[qbct hX]
 simp only[qvo,qwj,qsd]
 have e:=qbgc hX (DD X n) n (fun v0_0=>qqq (DD X n) n v0_0) (qp5 (DD X n) n) rfl r hr v n 0 (by omega) (by omega)
 rw[show ((0:Nat):Int)=0 from rfl] at e
 rw[e];rfl
theorem q5a (N n:Nat) (hN:W+2≤N) (K0:Bool→q8→Option ((Bool×Unit)×Unit)) (K1:q8→Option ((Bool×Unit)×Unit)) {r:q8} (hr:RightR r):∀ (m i:Nat),i≤r.1.length→r.1.length - i<m→
  qil (DD X N) n K0 K1 m (i:Int) r=K1 r
 | 0,_,_,h=>by omega
 | m+1,i,hi,hf=>by
  have hl:=hr.len
  have hW:=qca
  simp only[qil,qta]
  by_cases h:i<r.1.length
  ·rw[ql (by omega),ix h,br_t,Int.toNat_natCast,qc9 h]
   by_cases e:r.1[i]=0
   ·rw[bned,decide_eq_true e,Bool.not_true,br_f,qbh (by omega)]
    exact q5a N n hN K0 K1 hr m (i+1) (by omega) (by omega)
   ·have hv:=hr.rng r.1[i] (List.getElem_mem h)
    rw[bned,decide_eq_false e,Bool.not_false,br_t,br_t,qp2 hX (by omega),qc]
    dsimp only
    rw[qbz.2 (by omega),Bool.not_true,br_f,br_t,q3v hX (by omega) r (by omega),qc]
    dsimp only
    have hk:keyF r.1[i] r.1 0=(i:Int):=by
     rw[qry r.1[i] r.1 0 i (List.getElem?_eq_getElem h) (fun j hj hc=>e (hr.once j i hj _ hc (List.getElem?_eq_getElem h)))]
     congr 1;omega
    rw[hk,bned,decide_eq_true rfl,Bool.not_true,br_f,qbh (by omega)]
    exact q5a N n hN K0 K1 hr m (i+1) (by omega) (by omega)
  ·rw[qi (by omega)]
theorem qbcx (hn:W+3≤n) {r:q8} (hr:RightR r):quc (DD X n) r=some ((true,()),()):=by
 obtain ⟨n,rfl⟩:∃ k,n=k+1:=⟨n - 1,by omega⟩
 have hW:=qca
 have hl:=hr.len
 rw[qbbi hX]
 simp only[qum,qt9,qqv]
 have e:=q5a hX n n (by omega) (fun v0_0 v0_1=>qps (DD X n) n v0_0 v0_1) (fun v1_0=>qmb (DD X n) n v1_0) hr n 0 (by omega) (by omega)
 rw[show ((0:Nat):Int)=0 from rfl] at e
 rw[e]
 simp only[qmb]
 rw[ql (by omega),qty hX (by omega),qc,qbz.2 hr.st]
theorem q14 (N n:Nat) (hN:W+2≤N) (K0:Cur→q8→q8→Option ((q8×Unit)×(Cur×Unit))) (z:q8):∀ (m i:Nat) (c:Cur) (r:q8),qm4 c→RightR r→i≤4→4 - i<m→
  ∃ (c':Cur) (r':q8),qm4 c'∧RightR r'∧qfe (DD X N) n K0 m (i:Int) c z r=K0 c' z r'
 | 0,_,_,_,_,_,_,h=>by omega
 | m+1,i,c,r,hc,hr,hi,hf=>by
  have hl:=hr.len
  have hW:=qca
  simp only[qfe,qmu]
  by_cases h:i<4
  ·obtain ⟨x,c1,h1,_,hc1,e1⟩:=qtn hX (n:=N) (by omega) hc 7
   obtain ⟨x0,x1⟩:=h1 (by omega)
   rw[ql (by omega),e1,qc]
   dsimp only
   rw[show (r.1,r.2)=r from rfl,q3v hX (by omega) r (by omega),qc]
   dsimp only
   by_cases hk:keyF x r.1 0<0
   ·have hnot:=qw1 x r.1 0 hk
    rw[ql hk,ixn (by omega) (by omega),br_t,qbh (by omega),Int.toNat_natCast]
    have hr2:RightR (r.1.set i x,r.2):=by
     refine ⟨by show (r.1.set i x).length=4;rw[List.length_set];exact hl,fun y hy=>?_,fun a b hab v ha hb=>?_,hr.st⟩
     ·rcases List.mem_or_eq_of_mem_set hy with hy | rfl
      ·exact hr.rng y hy
      ·omega
     ·simp only[List.getElem?_set] at ha hb
      by_cases ea:i=a
      ·rw[if_pos ea] at ha
       rw[if_neg (by omega)] at hb
       split at ha
       ·simp only[Option.some.injEq] at ha
        subst ha
        exact absurd (List.mem_iff_getElem?.2 ⟨b,hb⟩) hnot
       ·simp at ha
      ·rw[if_neg ea] at ha
       by_cases eb:i=b
       ·rw[if_pos eb] at hb
        split at hb
        ·simp only[Option.some.injEq] at hb
         subst hb
         exact absurd (List.mem_iff_getElem?.2 ⟨a,ha⟩) hnot
        ·simp at hb
       ·rw[if_neg eb] at hb
        exact hr.once a b hab v ha hb
    exact q14 N n hN K0 z m (i+1) c1 (r.1.set i x,r.2) hc1 hr2 (by omega) (by omega)
   ·rw[qi hk,qbh (by omega)]
    exact q14 N n hN K0 z m (i+1) c1 r hc1 hr (by omega) (by omega)
  ·rw[qi (by omega)]
   exact ⟨c,r,hc,hr,rfl⟩
theorem qbao (hn:W+3≤n) {c:Cur} (hc:qm4 c):∃ (r:q8) (c':Cur),RightR r∧(r.2.1=0∨r.2.1=1∨r.2.1=3∨r.2.1=5)∧qm4 c'∧qnh (DD X n) c=some ((r,()),(c',())):=by
 obtain ⟨n,rfl⟩:∃ k,n=k+1:=⟨n - 1,by omega⟩
 have hW:=qca
 have hnew:qsn (DD X n)=some ((((List.replicate (Int.toNat 4) 0,0,()):q8),()),()):=by
  obtain ⟨n,rfl⟩:∃ k,n=k+1:=⟨n - 1,by omega⟩
  rw[q9k hX];rfl
 rw[q2f hX]
 simp only[qn4,qnm,ql9]
 rw[hnew,qc]
 dsimp only
 have h0:RightR ((List.replicate (Int.toNat 4) 0,0,()):q8):=by
  refine ⟨rfl,fun x hx=>?_,fun i j hij v hi hj=>?_,by show (0:Int)≤0∧(0:Int)≤5;omega⟩
  ·have:=(List.mem_replicate.1 hx).2;omega
  ·simp only[List.getElem?_replicate] at hi
   split at hi
   ·simp only[Option.some.injEq] at hi;exact hi.symm
   ·simp at hi
 obtain ⟨c',r',h1,h2,e⟩:=q14 hX n n (by omega) (fun v0_0 v0_1 v0_2=>qhi (DD X n) n v0_0 v0_1 v0_2) ([],0,()) n 0 c _ hc h0 (by omega) (by omega)
 rw[show ((0:Nat):Int)=0 from rfl] at e
 rw[e]
 simp only[qhi]
 obtain ⟨s,c2,hs,hc2,e2⟩:=q3w hX (n:=n) (by omega) h1 [0,0,1,3,5] (by simp)
 rw[e2,qc]
 have hs2:s=0∨s=1∨s=3∨s=5:=by
  simp only[List.mem_cons,List.not_mem_nil,or_false] at hs
  omega
 exact ⟨(r'.1,s,()),c2,⟨h2.len,h2.rng,h2.once,by show 0≤s∧s≤5;omega⟩,hs2,hc2,rfl⟩
end
end Go.G

namespace Go.G
set_option maxRecDepth 100000
open Go Go.V Go.Proofs
def q81 (ws:List Int):Prop:=ws.length=20∧∀ x∈ws,0≤x∧x≤1000
theorem q81.set {ws:List Int} (h:q81 ws) (i:Nat) {x:Int} (hx:0≤x∧x≤1000):q81 (ws.set i x):=
 ⟨by rw[List.length_set];exact h.1,fun y hy=>by
  rcases List.mem_or_eq_of_mem_set hy with q | rfl
  ·exact h.2 y q
  ·exact hx⟩
def many (c:Int):List Int→Int
 | []=>0
 | x::l=>(bif inR x 1 6&&decide (qh x=c) then 1 else 0)+many c l
theorem qr3 (c:Int):∀ l,0≤many c l∧many c l≤(l.length:Int)
 | []=>⟨by simp[many],by simp[many]⟩
 | x::l=>by
  have:=qr3 c l
  simp only[many,List.length_cons]
  cases inR x 1 6&&decide (qh x=c)<;>simp only[cond_true,cond_false]<;>omega
section
variable {X:Ext} (hX:XOk X) {n:Nat}
include hX
theorem qbfu (hn:1≤n) (b:Bool):qqn (DD X n) b=some ((bif b then 1 else 0,()),()):=by
 obtain ⟨n,rfl⟩:∃ k,n=k+1:=⟨n - 1,by omega⟩
 rw[qbch hX]
 cases b<;>rfl
theorem qbdw (N n:Nat) (hN:4≤N) (K:Int→Option ((Int×Unit)×Unit)) (r:q8) (hr:r.1.length≤1000) (c:Int):∀ (m i:Nat) (a:Int),i≤r.1.length→r.1.length - i<m→0≤a∧a≤i→
  qhj (DD X N) n K m c a (i:Int) r=K (a+many c (r.1.drop i))
 | 0,_,_,_,h,_=>by omega
 | m+1,i,a,hi,hf,ha=>by
  simp only[qhj,qqo]
  by_cases h:i<r.1.length
  ·rw[ql (by omega),ix h,br_t,Int.toNat_natCast,qc9 h,qp2 hX (by omega),qc,qll h]
   simp only[many]
   cases hv:inR r.1[i] 1 6
   ·rw[br_f,qbfu hX (by omega),qc]
    dsimp only
    rw[cond_false,qbl (by omega) (by omega),qbh (by omega),qbdw N n hN K r hr c m (i+1) _ (by omega) (by omega) (by omega)]
    congr 1
    simp only[Bool.false_and,cond_false]
    omega
   ·rw[br_t,br_t,qj5 hX (by omega),qc]
    dsimp only
    rw[qbfu hX (by omega),qc]
    dsimp only
    have hb:0≤(bif decide (qh r.1[i]=c) then (1:Int) else 0)∧(bif decide (qh r.1[i]=c) then (1:Int) else 0)≤1:=by
     cases decide (qh r.1[i]=c)<;>simp
    rw[qbl (by omega) (by omega),qbh (by omega),qbdw N n hN K r hr c m (i+1) _ (by omega) (by omega) (by omega)]
    congr 1
    simp only[Bool.true_and]
    omega
  ·rw[qi (by omega),qnw h]
   congr 1;simp[many]
theorem qbbf (hn:W+1≤n) (r:q8) (hr:r.1.length≤1000) (c:Int):qs6 (DD X n) r c=some ((many c r.1,()),()):=by
 obtain ⟨n,rfl⟩:∃ k,n=k+1:=⟨n - 1,by omega⟩
 have hW:=qca
 rw[q8j hX]
 simp only[qsi,qr5,qpo]
 have e:=qbdw hX n n (by omega) (fun v0_0=>qon (DD X n) n v0_0) r hr c n 0 0 (by omega) (by omega) (by omega)
 rw[show ((0:Nat):Int)=0 from rfl,List.drop_zero,Int.zero_add] at e
 rw[e];rfl
end
end Go.G

namespace Go.G
set_option maxRecDepth 100000
open Go Go.V Go.Proofs
section
variable {X:Ext} (hX:XOk X) {n:Nat}
include hX
theorem qba2 (hn:6≤n) {c:Cur} (hc:qm4 c):∃ (o:Op3) (c':Cur),qm4 c'∧opOk o=true∧qnx (DD X n) c=some ((o,()),(c',())):=by
 obtain ⟨n,rfl⟩:∃ k,n=k+1:=⟨n - 1,by omega⟩
 rw[q18 hX]
 simp only[qnc,qtw]
 obtain ⟨k,c1,hk,hc1,e1⟩:=q3w hX (n:=n) (by omega) hc [1,1,1,2,2,3,4,5,6,7,8,9,9,10] (by simp)
 have hk2:k=1∨k=2∨k=3∨k=4∨k=5∨k=6∨k=7∨k=8∨k=9∨k=10:=by
  simp only[List.mem_cons,List.not_mem_nil,or_false] at hk
  omega
 obtain ⟨x,c2,h2,_,hc2,e2⟩:=qtn hX (n:=n) (by omega) hc1 4
 obtain ⟨y,c3,h3,_,hc3,e3⟩:=qtn hX (n:=n) (by omega) hc2 4
 obtain ⟨z,c4,h4,_,hc4,e4⟩:=qtn hX (n:=n) (by omega) hc1 3
 obtain ⟨x0,x1⟩:=h2 (by omega)
 obtain ⟨y0,y1⟩:=h3 (by omega)
 obtain ⟨z0,z1⟩:=h4 (by omega)
 have ix4:inR x 0 3=true:=qbz.2 (by omega)
 have iz:inR z 0 2=true:=qbz.2 (by omega)
 have wy:IntKind.wrap IntKind.i64 (1+y)=1+y:=qbl (by omega) (by omega)
 have wx:IntKind.wrap IntKind.i64 (1+x)=1+x:=qbl (by omega) (by omega)
 have iy:inR (1+y) 1 6=true:=qbz.2 (by omega)
 have ix6:inR (1+x) 1 6=true:=qbz.2 (by omega)
 simp only[show (List.set (List.set (List.set (List.set (List.set (List.set (List.set (List.set (List.set (List.set (List.set (List.set (List.set (List.set (List.replicate 14 (0:Int)) 0 1) 1 1) 2 1) 3 2) 4 2) 5 3) 6 4) 7 5) 8 6) 9 7) 10 8) 11 9) 12 9) 13 10)=[1,1,1,2,2,3,4,5,6,7,8,9,9,10] from rfl]
 rw[e1,qc]
 dsimp only
 rw[qbfn hX (by omega),qc]
 dsimp only
 rcases hk2 with rfl | rfl | rfl | rfl | rfl | rfl | rfl | rfl | rfl | rfl
 ·rw[show inR 1 1 4=true from rfl,br_t,e2,qc]
  dsimp only
  rw[qi (by decide),qk6 hX (by omega),qc]
  dsimp only
  rw[show (bif bif bif decide ((1:Int)=1) then true else decide ((1:Int)=2) then true else decide ((1:Int)=5) then true else decide ((1:Int)=10))=true from rfl,br_t,e3,qc,wy]
  exact ⟨_,_,hc3,by show (inR x 0 3&&inR (1+y) 1 6)=true;rw[ix4,iy];rfl,rfl⟩
 ·rw[show inR 2 1 4=true from rfl,br_t,e2,qc]
  dsimp only
  rw[qi (by decide),qk6 hX (by omega),qc]
  dsimp only
  rw[show (bif bif bif decide ((2:Int)=1) then true else decide ((2:Int)=2) then true else decide ((2:Int)=5) then true else decide ((2:Int)=10))=true from rfl,br_t,e3,qc,wy]
  exact ⟨_,_,hc3,by show (inR x 0 3&&inR (1+y) 1 6)=true;rw[ix4,iy];rfl,rfl⟩
 ·rw[show inR 3 1 4=true from rfl,br_t,e2,qc]
  dsimp only
  rw[qi (by decide),qk6 hX (by omega),qc]
  dsimp only
  rw[show (bif bif bif decide ((3:Int)=1) then true else decide ((3:Int)=2) then true else decide ((3:Int)=5) then true else decide ((3:Int)=10))=false from rfl,br_f]
  exact ⟨_,_,hc2,by show (inR x 0 3&&true)=true;rw[ix4];rfl,rfl⟩
 ·rw[show inR 4 1 4=true from rfl,br_t,e2,qc]
  dsimp only
  rw[qi (by decide),qk6 hX (by omega),qc]
  dsimp only
  rw[show (bif bif bif decide ((4:Int)=1) then true else decide ((4:Int)=2) then true else decide ((4:Int)=5) then true else decide ((4:Int)=10))=false from rfl,br_f]
  exact ⟨_,_,hc2,by show (inR x 0 3&&true)=true;rw[ix4];rfl,rfl⟩
 ·rw[show inR 5 1 4=false from rfl,br_f,qi (by decide),qk6 hX (by omega),qc]
  dsimp only
  rw[show (bif bif bif decide ((5:Int)=1) then true else decide ((5:Int)=2) then true else decide ((5:Int)=5) then true else decide ((5:Int)=10))=true from rfl,br_t,e2,qc,wx]
  exact ⟨_,_,hc2,by show (true&&inR (1+x) 1 6)=true;rw[ix6];rfl,rfl⟩
 ·rw[show inR 6 1 4=false from rfl,br_f,ql rfl,e4,qc]
  dsimp only
  rw[qk6 hX (by omega),qc]
  dsimp only
  rw[show (bif bif bif decide ((6:Int)=1) then true else decide ((6:Int)=2) then true else decide ((6:Int)=5) then true else decide ((6:Int)=10))=false from rfl,br_f]
  exact ⟨_,_,hc4,by show (inR z 0 2&&true)=true;rw[iz];rfl,rfl⟩
 ·rw[show inR 7 1 4=false from rfl,br_f,qi (by decide),qk6 hX (by omega),qc]
  exact ⟨_,_,hc1,rfl,rfl⟩
 ·rw[show inR 8 1 4=false from rfl,br_f,qi (by decide),qk6 hX (by omega),qc]
  exact ⟨_,_,hc1,rfl,rfl⟩
 ·rw[show inR 9 1 4=false from rfl,br_f,qi (by decide),qk6 hX (by omega),qc]
  exact ⟨_,_,hc1,rfl,rfl⟩
 ·rw[show inR 10 1 4=false from rfl,br_f,qi (by decide),qk6 hX (by omega),qc]
  dsimp only
  rw[show (bif bif bif decide ((10:Int)=1) then true else decide ((10:Int)=2) then true else decide ((10:Int)=5) then true else decide ((10:Int)=10))=true from rfl,br_t,e2,qc,wx]
  exact ⟨_,_,hc2,by show (true&&inR (1+x) 1 6)=true;rw[ix6];rfl,rfl⟩
end
end Go.G

namespace Go.G
set_option maxRecDepth 100000
open Go Go.V Go.Proofs
theorem qbjl {k V row owner st cnt:Int} {x:Int×List Int} (h:nowP k V row owner st cnt=some x):x.2.length≤1:=by
 unfold nowP at h
 by_cases c0:k=1∧row≠0
 ·rw[if_pos c0] at h;cases h;simp
 rw[if_neg c0] at h
 by_cases c1:k=1∧owner≠0
 ·rw[if_pos c1] at h;cases h;simp
 rw[if_neg c1] at h
 by_cases c2:(k=2∨k=3∨k=4)∧row=0
 ·rw[if_pos c2] at h;cases h;simp
 rw[if_neg c2] at h
 by_cases c3:k=2∧row=V
 ·rw[if_pos c3] at h;cases h;simp
 rw[if_neg c3] at h
 by_cases c4:k=2∧owner≠0
 ·rw[if_pos c4] at h;cases h;simp
 rw[if_neg c4] at h
 by_cases c5:k=4
 ·rw[if_pos c5] at h;cases h;simp
 rw[if_neg c5] at h
 by_cases c6:k=5∧owner=0
 ·rw[if_pos c6] at h;cases h;simp
 rw[if_neg c6] at h
 by_cases c7:k=5
 ·rw[if_pos c7] at h;cases h;simp
 rw[if_neg c7] at h
 by_cases c8:k=6
 ·rw[if_pos c8] at h;cases h;simp
 rw[if_neg c8] at h
 by_cases c9:k=8∧st≠0
 ·rw[if_pos c9] at h;cases h;simp
 rw[if_neg c9] at h
 by_cases c10:k=9∧(st<1∨st>4)
 ·rw[if_pos c10] at h;cases h;simp
 rw[if_neg c10] at h
 by_cases c11:k=10∧st≠5
 ·rw[if_pos c11] at h;cases h;simp
 rw[if_neg c11] at h
 cases h
theorem qbhv (o:Op3) (got:Got):(qic o got).1.2.1.2.1.length≤20∧(qic o got).1.2.2.1.length≤20:=by
 unfold qic
 split
 ·cases hn:qe2 o got with
  | some x=>
   have:=qbjl hn
   exact ⟨by show x.2.length≤20;omega,by show (0:Nat)≤20;omega⟩
  | none=>
   refine ⟨?_,?_⟩
   ·show (resP o got).2.1.length≤20
    unfold resP
    repeat' split
    all_goals simp
   ·show (entP o got).length≤20
    unfold entP
    split
    ·rw[qjs]
     have:=Nat.le_trans (q4o got (chgL o.2.1 o.2.2.1 (val got (qr o.2.1)) (val got 13))) (qbdm _ _ _ _)
     simp only[List.length_nil];omega
    ·repeat' split
     ·simp
     ·simp
     ·cases inR (val got (qr (IntKind.wrap IntKind.i64 (val got 13 - 1)))) 1 6<;>simp
     ·simp
     ·simp
 ·exact ⟨by show (0:Nat)≤20;omega,by show (0:Nat)≤20;omega⟩
section
variable {X:Ext} (hX:XOk X) {n:Nat}
include hX
theorem qbio (D:Den ctx) (n:Nat) (K0:List Int→List Int→Bool→Option ((Bool×Unit)×Unit)) (K1:List Int→List Int→Option ((Bool×Unit)×Unit)) (l:List Int) (hl:l.length≤1000):∀ (m i:Nat),i≤l.length→l.length - i<m→
  qip D n K0 K1 m l l (i:Int)=K1 l l
 | 0,_,_,h=>by omega
 | m+1,i,hi,hf=>by
  simp only[qip,qrm]
  by_cases h:i<l.length
  ·rw[decide_eq_true (by omega:(i:Int)<(l.length:Int)),cond_true,br_t,decide_eq_true (by omega:(0:Int)≤(i:Int)),Bool.and_self,br_t,br_t,bned,decide_eq_true rfl,Bool.not_true,br_f,qbh (by omega)]
   exact qbio D n K0 K1 l hl m (i+1) (by omega) (by omega)
  ·rw[decide_eq_false (by omega:¬ (i:Int)<(l.length:Int)),cond_false,br_f]
theorem qbjn (hn:W+1≤n) (l:List Int) (hl:l.length≤1000):qt7 (DD X n) l l=some ((true,()),()):=by
 obtain ⟨n,rfl⟩:∃ k,n=k+1:=⟨n - 1,by omega⟩
 have hW:=qca
 rw[qbar hX]
 simp only[quw,quj,qqp]
 have e:=qbio hX (DD X n) n (fun v0_0 v0_1 v0_2=>qpe (DD X n) n v0_0 v0_1 v0_2) (fun v1_0 v1_1=>ql4 (DD X n) n v1_0 v1_1) l hl n 0 (by omega) (by omega)
 rw[show ((0:Nat):Int)=0 from rfl] at e
 rw[e]
 simp[ql4]
theorem eqE (x:qbr):qo6 (Ty.pair (Ty.int IntKind.i64) (Ty.pair (Ty.int IntKind.i64) (Ty.pair (Ty.int IntKind.i64) Ty.unit))) x x=true:=by
 simp only[qo6,beq_self_eq_true,Bool.and_self]
theorem qbak (D:Den ctx) (n:Nat) (K0:Bool→Option ((Bool×Unit)×Unit)) (K1:Option ((Bool×Unit)×Unit)) (l:List qbr) (hl:l.length≤1000):∀ (m i:Nat),i≤l.length→l.length - i<m→
  qff D n K0 K1 m l l (i:Int)=K1
 | 0,_,_,h=>by omega
 | m+1,i,hi,hf=>by
  simp only[qff,qmt]
  by_cases h:i<l.length
  ·rw[ql (by omega),ix h,br_t,br_t,eqE hX,Bool.not_true,br_f,qbh (by omega)]
   exact qbak D n K0 K1 l hl m (i+1) (by omega) (by omega)
  ·rw[qi (by omega)]
theorem qba9 (hn:W+1≤n) (l:List qbr) (hl:l.length≤1000):qn2 (DD X n) l l=some ((true,()),()):=by
 obtain ⟨n,rfl⟩:∃ k,n=k+1:=⟨n - 1,by omega⟩
 have hW:=qca
 rw[q11 hX]
 simp only[qn3,qni,qlq]
 have e:=qbak hX (DD X n) n (fun v0_0=>qlg (DD X n) n v0_0) (qk1 (DD X n) n) l hl n 0 (by omega) (by omega)
 rw[show ((0:Nat):Int)=0 from rfl] at e
 rw[show ((l.length:Int) != (l.length:Int))=false by simp,br_f,e]
 rfl
theorem qbgy (hn:W+4≤n) (p:Plan) (h1:p.2.1.2.1.length≤1000) (h2:p.2.2.1.length≤1000):qri (DD X n) p p=some ((true,()),()):=by
 obtain ⟨n,rfl⟩:∃ k,n=k+2:=⟨n - 2,by omega⟩
 rw[q5n hX]
 simp only[qqs,qxu]
 rw[ql trivial,q7n hX]
 simp only[qrw,qzs]
 rw[ql trivial,qbjn hX (by omega) _ h1,qc,qc]
 dsimp only
 rw[br_t,qba9 hX (by omega) _ h2,qc]
end
end Go.G

namespace Go.G
set_option maxRecDepth 100000
open Go Go.V Go.Proofs
theorem qd9 (l:List Int) (i j:Nat) (x:Int) (h:i<l.length):(l.set i x).getD j 0=if j=i then x else l.getD j 0:=by
 simp only[List.getD,List.getElem?_set]
 by_cases e:i=j
 ·subst e;rw[if_pos rfl,if_pos h,if_pos rfl];rfl
 ·rw[if_neg e,if_neg (fun k=>e k.symm)]
theorem qv3 (v:Int):∀ (l:List Int) (i k:Nat),keyF v l i=(k:Int)→i≤k∧l[k - i]? = some v
 | [],i,k,h=>by simp only[keyF] at h;omega
 | x::l,i,k,h=>by
  simp only[keyF] at h
  by_cases e:x=v
  ·rw[if_pos e] at h
   have:i=k:=by omega
   subst this
   refine ⟨Nat.le_refl _,?_⟩
   rw[Nat.sub_self,e];rfl
  ·rw[if_neg e] at h
   obtain ⟨h1,h2⟩:=qv3 v l (i+1) k h
   refine ⟨by omega,?_⟩
   rw[show k - i=(k - (i+1))+1 by omega];exact h2
theorem qlf (v:Int):∀ (l:List Int) (i:Nat),-1≤keyF v l i∧keyF v l i<(i+l.length:Nat)
 | [],i=>by simp only[keyF,List.length_nil];omega
 | x::l,i=>by
  have:=qlf v l (i+1)
  simp only[keyF,List.length_cons]
  split<;>omega
def viaW (v:Int) (h:List Int) (i:Int) (st:Int):Int:=if 0≤keyF v h 0∧keyF v h 0<i∧keyF v h 0<st - 1 then keyF v h 0+1 else 0
def ownW (v:Int) (h:List Int) (i:Int):Int:=if 0≤keyF v h 0∧keyF v h 0<i then keyF v h 0+1 else 0
def qpa (r:q8) (i p:Nat):Int:=
 if p<4 then (if p<i then r.1.getD p 0 else 0) else if p<10 then ownW ((p:Int) - 3) r.1 i else if p<14 then 0 else viaW ((p:Int) - 13) r.1 i r.2.1
def qdl (r:q8) (p:Nat):Int:=
 if p<4 then r.1.getD p 0 else if p<10 then ownW ((p:Int) - 3) r.1 4 else if p<13 then many ((p:Int) - 10) r.1 else if p=13 then r.2.1 else viaW ((p:Int) - 13) r.1 4 r.2.1
section
variable {X:Ext} (hX:XOk X) {n:Nat}
include hX
theorem q9t {r:q8} (hr:RightR r) {i:Nat} (hi:i<4) (hi2:i<r.1.length) (p:Nat) (hp:p<20) :
  qpa r (i+1) p=if p<4 then (if p=i then r.1[i] else qpa r i p) else if r.1[i]≠0∧(p:Int)=3+r.1[i] then (i:Int)+1 else
   if r.1[i]≠0∧(p:Int)=13+r.1[i]∧(i:Int)<r.2.1 - 1 then (i:Int)+1 else qpa r i p:=by
 have hx:=hr.rng r.1[i] (List.getElem_mem hi2)
 have hkey:r.1[i]≠0→keyF r.1[i] r.1 0=(i:Int):=fun e=>by
  rw[qry r.1[i] r.1 0 i (List.getElem?_eq_getElem hi2) (fun j hj hc=>e (hr.once j i hj _ hc (List.getElem?_eq_getElem hi2)))]
  congr 1;omega
 have hother:∀ v:Int,v≠r.1[i]→keyF v r.1 0≠(i:Int):=fun v hv hc=>by
  obtain ⟨_,h2⟩:=qv3 v r.1 0 i hc
  rw[Nat.sub_zero,List.getElem?_eq_getElem hi2] at h2
  exact hv (Option.some.inj h2).symm
 unfold qpa
 by_cases h4:p<4
 ·simp only[if_pos h4]
  by_cases e:p=i
  ·subst e;simp only[if_pos (show p<p+1 by omega),if_true,qc9 hi2]
  ·simp only[if_neg e]
   by_cases e2:p<i
   ·simp only[if_pos e2,if_pos (show p<i+1 by omega)]
   ·simp only[if_neg e2,if_neg (show ¬ p<i+1 by omega)]
 simp only[if_neg h4]
 by_cases h10:p<10
 ·have n13:¬ (r.1[i]≠0∧(p:Int)=13+r.1[i]∧(i:Int)<r.2.1 - 1):=by omega
  simp only[if_pos h10,if_neg n13]
  unfold ownW
  by_cases e:r.1[i]≠0∧(p:Int)=3+r.1[i]
  ·simp only[if_pos e]
   rw[show (p:Int) - 3=r.1[i] by omega,hkey e.1,if_pos (by omega)]
  ·simp only[if_neg e]
   have hk:keyF ((p:Int) - 3) r.1 0≠(i:Int):=by
    by_cases q:(p:Int) - 3=r.1[i]
    ·exact absurd ⟨by omega,by omega⟩ e
    ·exact hother _ q
   by_cases c:0≤keyF ((p:Int) - 3) r.1 0∧keyF ((p:Int) - 3) r.1 0<(i:Int)
   ·simp only[if_pos c,if_pos (show 0≤keyF ((p:Int) - 3) r.1 0∧keyF ((p:Int) - 3) r.1 0<((i+1:Nat):Int) by omega)]
   ·simp only[if_neg c,if_neg (show ¬ (0≤keyF ((p:Int) - 3) r.1 0∧keyF ((p:Int) - 3) r.1 0<((i+1:Nat):Int)) by omega)]
 have n3:¬ (r.1[i]≠0∧(p:Int)=3+r.1[i]):=by omega
 simp only[if_neg h10,if_neg n3]
 by_cases h14:p<14
 ·have n13:¬ (r.1[i]≠0∧(p:Int)=13+r.1[i]∧(i:Int)<r.2.1 - 1):=by omega
  simp only[if_pos h14,if_neg n13]
 simp only[if_neg h14]
 unfold viaW
 by_cases e:r.1[i]≠0∧(p:Int)=13+r.1[i]
 ·rw[show (p:Int) - 13=r.1[i] by omega,hkey e.1]
  by_cases c:(i:Int)<r.2.1 - 1
  ·simp only[if_pos (show 0≤(i:Int)∧(i:Int)<((i+1:Nat):Int)∧(i:Int)<r.2.1 - 1 by omega),if_pos (show r.1[i]≠0∧(p:Int)=13+r.1[i]∧(i:Int)<r.2.1 - 1 from ⟨e.1,e.2,c⟩)]
  ·simp only[if_neg (show ¬ (0≤(i:Int)∧(i:Int)<((i+1:Nat):Int)∧(i:Int)<r.2.1 - 1) by omega),if_neg (show ¬ (r.1[i]≠0∧(p:Int)=13+r.1[i]∧(i:Int)<r.2.1 - 1) from fun k=>c k.2.2),if_neg (show ¬ (0≤(i:Int)∧(i:Int)<(i:Int)∧(i:Int)<r.2.1 - 1) by omega)]
 ·simp only[if_neg (show ¬ (r.1[i]≠0∧(p:Int)=13+r.1[i]∧(i:Int)<r.2.1 - 1) from fun k=>e ⟨k.1,k.2.1⟩)]
  have hk:keyF ((p:Int) - 13) r.1 0≠(i:Int)∨(p:Int) - 13=0:=by
   by_cases q:(p:Int) - 13=r.1[i]
   ·by_cases z:r.1[i]=0
    ·exact .inr (by omega)
    ·exact absurd ⟨z,by omega⟩ e
   ·exact .inl (hother _ q)
  by_cases c:0≤keyF ((p:Int) - 13) r.1 0∧keyF ((p:Int) - 13) r.1 0<(i:Int)∧keyF ((p:Int) - 13) r.1 0<r.2.1 - 1
  ·simp only[if_pos c,if_pos (show 0≤keyF ((p:Int) - 13) r.1 0∧keyF ((p:Int) - 13) r.1 0<((i+1:Nat):Int)∧keyF ((p:Int) - 13) r.1 0<r.2.1 - 1 by omega)]
  ·simp only[if_neg c,if_neg (show ¬ (0≤keyF ((p:Int) - 13) r.1 0∧keyF ((p:Int) - 13) r.1 0<((i+1:Nat):Int)∧keyF ((p:Int) - 13) r.1 0<r.2.1 - 1) by omega)]
theorem qxr (N n:Nat) (hN:4≤N) (K:q8→List Int→Option ((List Int×Unit)×Unit)) {r:q8} (hr:RightR r):∀ (m i:Nat) (ws:List Int),i≤4→4 - i<m→ws.length=20→(∀ p<20,ws.getD p 0=qpa r i p)→
  ∃ ws',ws'.length=20∧(∀ p<20,ws'.getD p 0=qpa r 4 p)∧qhu (DD X N) n K m (i:Int) r ws=K r ws'
 | 0,_,_,_,h,_,_=>by omega
 | m+1,i,ws,hi,hf,hlw,hw=>by
  have hl:=hr.len
  have hst:=hr.st
  simp only[qhu,qrd]
  by_cases h:i<4
  ·have hi2:i<r.1.length:=by omega
   have hv:=hr.rng r.1[i] (List.getElem_mem hi2)
   have hrow:qr (i:Int)=i:=by unfold qr;rw[qbz.2 (by omega)];rfl
   have hps:=q9t hX hr h hi2
   rw[ql (by omega),ix hi2,br_t,Int.toNat_natCast,qc9 hi2,qev hX (by omega),qc,hrow]
   dsimp only
   rw[ixn (by omega) (by rw[hlw];omega),br_t,Int.toNat_natCast]
   by_cases h0:r.1[i]=0
   ·rw[ql h0,qbh (by omega)]
    refine qxr N n hN K hr m (i+1) _ (by omega) (by omega) (by rw[List.length_set];exact hlw) (fun p hp=>?_)
    rw[hps p hp,qd9 _ _ _ _ (by omega)]
    by_cases e:p=i
    ·rw[if_pos e,if_pos (by omega),if_pos e]
    ·rw[if_neg e,hw p hp,if_neg e]
     rw[if_neg (show ¬ (r.1[i]≠0∧(p:Int)=3+r.1[i]) from fun k=>k.1 h0),if_neg (show ¬ (r.1[i]≠0∧(p:Int)=13+r.1[i]∧(i:Int)<r.2.1 - 1) from fun k=>k.1 h0)]
     split<;>rfl
   ·rw[qi h0,qif hX (by omega),qc]
    dsimp only
    have ho:=qgy r.1[i]
    have hvi:=qfo r.1[i]
    have ho2:qv r.1[i]=3+r.1[i]:=by omega
    have hvi2:q9 r.1[i]=13+r.1[i]:=by omega
    have hws:IntKind.wrap IntKind.i64 (r.2.1 - 1)=r.2.1 - 1:=qbl (by omega) (by omega)
    rw[ixn (by omega) (by rw[List.length_set,hlw];omega),br_t,qbh (by omega),hws,ho2]
    by_cases hs:(i:Int)<r.2.1 - 1
    ·rw[ql hs,qli hX (by omega),qc]
     dsimp only
     rw[ixn (by omega) (by rw[List.length_set,List.length_set,hlw];omega),br_t,hvi2]
     refine qxr N n hN K hr m (i+1) _ (by omega) (by omega) (by rw[List.length_set,List.length_set,List.length_set];exact hlw) (fun p hp=>?_)
     rw[hps p hp,qd9 _ _ _ _ (by rw[List.length_set,List.length_set,hlw];omega),qd9 _ _ _ _ (by rw[List.length_set,hlw];omega),qd9 _ _ _ _ (by omega),hw p hp]
     by_cases e3:p=(13+r.1[i]).toNat
     ·rw[if_pos e3,if_neg (by omega),if_neg (by omega),if_pos ⟨h0,by omega,hs⟩];omega
     rw[if_neg e3]
     by_cases e2:p=(3+r.1[i]).toNat
     ·rw[if_pos e2,if_neg (by omega),if_pos ⟨h0,by omega⟩];omega
     rw[if_neg e2]
     by_cases e:p=i
     ·simp only[if_pos e,if_pos (show p<4 by omega)]
     ·simp only[if_neg e]
      rw[if_neg (show ¬ (r.1[i]≠0∧(p:Int)=3+r.1[i]) by omega),if_neg (show ¬ (r.1[i]≠0∧(p:Int)=13+r.1[i]∧(i:Int)<r.2.1 - 1) by omega)]
      split<;>rfl
    ·rw[qi hs]
     refine qxr N n hN K hr m (i+1) _ (by omega) (by omega) (by rw[List.length_set,List.length_set];exact hlw) (fun p hp=>?_)
     rw[hps p hp,qd9 _ _ _ _ (by rw[List.length_set,hlw];omega),qd9 _ _ _ _ (by omega),hw p hp]
     rw[if_neg (show ¬ (r.1[i]≠0∧(p:Int)=13+r.1[i]∧(i:Int)<r.2.1 - 1) by omega)]
     by_cases e2:p=(3+r.1[i]).toNat
     ·rw[if_pos e2,if_neg (by omega),if_pos ⟨h0,by omega⟩];omega
     rw[if_neg e2]
     by_cases e:p=i
     ·simp only[if_pos e,if_pos (show p<4 by omega)]
     ·simp only[if_neg e]
      rw[if_neg (show ¬ (r.1[i]≠0∧(p:Int)=3+r.1[i]) by omega)]
      split<;>rfl
  ·rw[qi (by omega)]
   have:i=4:=by omega
   subst this
   exact ⟨ws,hlw,hw,rfl⟩
def cntW (r:q8) (i p:Nat):Int:=if 10≤p∧p<10+i then many ((p:Int) - 10) r.1 else qpa r 4 p
theorem q9m (N n:Nat) (hN:W+4≤N) (K:q8→List Int→Option ((List Int×Unit)×Unit)) {r:q8} (hr:RightR r):∀ (m i:Nat) (ws:List Int),i≤3→3 - i<m→ws.length=20→(∀ p<20,ws.getD p 0=cntW r i p)→
  ∃ ws',ws'.length=20∧(∀ p<20,ws'.getD p 0=cntW r 3 p)∧qho (DD X N) n K m (i:Int) r ws=K r ws'
 | 0,_,_,_,h,_,_=>by omega
 | m+1,i,ws,hi,hf,hlw,hw=>by
  have hl:=hr.len
  have hW:=qca
  simp only[qho,qql]
  by_cases h:i<3
  ·have hc:=qf9 (i:Int)
   have hc2:qbg (i:Int)=10+i:=by omega
   rw[ql (by omega),qka hX (by omega),qc]
   dsimp only
   rw[qbbf hX (by omega) r (by omega),qc]
   dsimp only
   rw[ixn (by omega) (by rw[hlw];omega),br_t,qbh (by omega),hc2]
   refine q9m N n hN K hr m (i+1) _ (by omega) (by omega) (by rw[List.length_set];exact hlw) (fun p hp=>?_)
   rw[qd9 _ _ _ _ (by omega),hw p hp]
   unfold cntW
   by_cases e:p=(10+(i:Int)).toNat
   ·rw[if_pos e,if_pos (by omega),show (p:Int) - 10=i by omega]
   ·rw[if_neg e]
    by_cases c:10≤p∧p<10+i
    ·rw[if_pos c,if_pos (by omega)]
    ·rw[if_neg c,if_neg (by omega)]
  ·rw[qi (by omega)]
   have:i=3:=by omega
   subst this
   exact ⟨ws,hlw,hw,rfl⟩
theorem qbjp (hn:W+6≤n) {r:q8} (hr:RightR r):∃ ws:List Int,ws.length=20∧(∀ p<20,ws.getD p 0=qdl r p)∧qrz (DD X n) r=some ((ws,()),()):=by
 obtain ⟨n,rfl⟩:∃ k,n=k+1:=⟨n - 1,by omega⟩
 have hW:=qca
 have hst:=hr.st
 rw[q77 hX]
 simp only[qsp,qsh]
 rw[qbcx hX (by omega) hr,qc]
 dsimp only
 rw[Bool.not_true,br_f]
 simp only[qpq]
 obtain ⟨w1,l1,h1,e1⟩:=qxr hX n n (by omega) (fun v0_0 v0_1=>qks (DD X n) n (ql5 (DD X n) n) v0_0 v0_1) hr n 0 (List.replicate (Int.toNat 20) 0) (by omega) (by omega) rfl (fun p hp=>by
  have e0:(List.replicate (Int.toNat 20) (0:Int)).getD p 0=0:=by
   simp only[List.getD,List.getElem?_replicate];split<;>rfl
  rw[e0]
  unfold qpa ownW viaW
  split
  ·rfl
  ·split
   ·rw[if_neg (by omega)]
   ·split
    ·rfl
    ·rw[if_neg (by omega)])
 rw[show ((0:Nat):Int)=0 from rfl] at e1
 obtain ⟨w2,l2,h2,e2⟩:=q9m hX n n (by omega) (fun v0_0 v0_1=>qku (DD X n) n v0_0 v0_1) hr n 0 w1 (by omega) (by omega) l1 (fun p hp=>by
  rw[h1 p hp];unfold cntW;rw[if_neg (by omega)])
 rw[show ((0:Nat):Int)=0 from rfl] at e2
 refine ⟨w2.set 13 r.2.1,by rw[List.length_set];exact l2,fun p hp=>?_,e1.trans ?_⟩
 ·rw[qd9 _ _ _ _ (by omega),h2 p hp]
  unfold qdl cntW qpa
  have hlen:=hr.len
  by_cases e:p=13
  ·rw[if_pos e,if_neg (by omega),if_neg (by omega),if_neg (by omega),if_pos e]
  rw[if_neg e]
  by_cases a1:p<4
  ·rw[if_neg (by omega),if_pos a1,if_pos a1,if_pos a1]
  by_cases a2:p<10
  ·rw[if_neg (by omega),if_neg a1,if_pos a2,if_neg a1,if_pos a2];rfl
  by_cases a3:p<13
  ·rw[if_pos (by omega),if_neg a1,if_neg a2,if_pos a3]
  ·rw[if_neg (by omega),if_neg a1,if_neg a2,if_neg (by omega),if_neg a1,if_neg a2,if_neg a3,if_neg e];rfl
 simp only[qks,ql5]
 rw[e2]
 simp only[qku]
 rw[qfn hX (by omega),qc]
 dsimp only
 rw[ixn (by omega) (by rw[l2];omega),br_t]
 rfl
end
end Go.G

namespace Go.G
set_option maxRecDepth 100000
open Go Go.V Go.Proofs
def path (w:Int→Int):PR→List Int
 | .done=>[]
 | .ask p k=>p::path w (k (w p))
def q20 (got:Got) (w:Int→Int) (L:List Int):Prop:=∀ q,qt got q=if q∈L then (w q,true) else (0,false)
theorem q99 (w:Int→Int):∀ (L:List Int),q20 (L.map fun p=>(p,w p,())) w L:=by
 intro L q
 unfold qt
 have key:∀ (L:List Int) (v:Int) (ok:Bool),rd q (L.map fun p=>(p,w p,())) v ok=if q∈L then (w q,true) else (v,ok):=by
  intro L
  induction L with
  | nil=>intro v ok;simp[rd]
  | cons a L ih=>
   intro v ok
   simp only[List.map_cons,rd]
   by_cases e:a=q
   ·rw[if_pos e,ih]
    by_cases m:q∈L
    ·rw[if_pos m,if_pos (List.mem_cons_of_mem _ m)]
    ·rw[if_neg m,if_pos (by rw[e];exact List.mem_cons_self),e]
   ·rw[if_neg e,ih]
    by_cases m:q∈L
    ·rw[if_pos m,if_pos (List.mem_cons_of_mem _ m)]
    ·rw[if_neg m,if_neg (by
      intro k
      rcases List.mem_cons.1 k with k | k
      ·exact e k.symm
      ·exact m k)]
 exact key L 0 false
theorem qx7 {got:Got} {w:Int→Int} {L:List Int} (h:q20 got w L) {p:Int} (hp:0≤p):hit got p=decide (p∈L):=by
 unfold hit
 rw[decide_eq_true hp,Bool.true_and,h p]
 by_cases m:p∈L
 ·rw[if_pos m,decide_eq_true m]
 ·rw[if_neg m,decide_eq_false m]
theorem q5e {got:Got} {w:Int→Int} {L:List Int} (h:q20 got w L):∀ (A B:List Int) (P:PR),path w P=A++B→(∀ a∈A,a∈L)→(∀ a∈A++B,0≤a)→(∀ b B',B=b::B'→b∉L)→run got P=(A,B.headD (-1))
 | [],B,P,hp,_,hz,hB=>by
  cases P with
  | done=>simp only[path,List.nil_append] at hp;subst hp;rfl
  | ask p k=>
   simp only[path,List.nil_append] at hp
   subst hp
   have hm:hit got p=false:=by
    rw[qx7 h (hz p (by simp)),decide_eq_false (hB p _ rfl)]
   rw[qcz hm];rfl
 | a::A,B,P,hp,hA,hz,hB=>by
  cases P with
  | done=>simp[path] at hp
  | ask p k=>
   simp only[path,List.cons_append,List.cons.injEq] at hp
   obtain ⟨rfl,hp⟩:=hp
   have hm:hit got p=true:=by
    rw[qx7 h (hz p (by simp)),decide_eq_true (hA p List.mem_cons_self)]
   have hv:(qt got p).1=w p:=by rw[h p,if_pos (hA p List.mem_cons_self)]
   rw[qdk hm,hv,q5e h A B (k (w p)) hp (fun a ha=>hA a (List.mem_cons_of_mem _ ha)) (fun a ha=>hz a (List.mem_cons_of_mem _ ha)) hB]
structure PathOk (w:Int→Int) (l:List Int):Prop where
 once:l.Nodup
 rng:∀ p∈l,0≤p∧p<20
 len:l.length≤8
theorem qlv (w:Int→Int) (K:Int) (l:List Int):path w (qgt K l)=13::(if w 13≤IntKind.wrap IntKind.i64 (K+1) then [] else l.map q9):=by
 unfold qgt
 simp only[path]
 by_cases h:w 13≤IntKind.wrap IntKind.i64 (K+1)
 ·rw[decide_eq_true h,if_pos h];rfl
 ·rw[decide_eq_false h,if_neg h,cond_false]
  congr 1
  induction l with
  | nil=>rfl
  | cons a l ih=>simp only[qxl,path,List.map_cons,ih]
theorem qvl {o:Op3} (ho:opOk o=true) (w:Int→Int) (hw:∀ k,0≤k∧k≤3→0≤w k∧w k≤6):PathOk w (path w (prog o)):=by
 have hk:=qm2 ho
 have hr:=qjz o.2.1
 have hoV:=qgy o.2.2.1
 have hvV:=qfo o.2.2.1
 have hcl:=qi1 o.2.2.1
 have hcV:=qf9 (qh o.2.2.1)
 unfold prog
 by_cases k1:o.1=1
 ·rw[if_pos k1]
  unfold qjn
  simp only[path]
  cases w (qr o.2.1) != 0
  ·simp only[cond_false,path]
   cases w (qv o.2.2.1) != 0
   ·simp only[cond_false,path,qlv,List.map_cons,List.map_nil]
    split
    ·exact ⟨by simp;omega,by simp;omega,by simp⟩
    ·exact ⟨by simp;omega,by simp;omega,by simp⟩
   ·exact ⟨by simp[path];omega,by simp[path];omega,by simp[path]⟩
  ·exact ⟨by simp[path],by simp[path];omega,by simp[path]⟩
 rw[if_neg k1]
 by_cases k2:o.1=2
 ·rw[if_pos k2]
  have hK:0≤o.2.1∧o.2.1≤3:=by omega
  have hrow:qr o.2.1=o.2.1:=by omega
  have hwv:=hw o.2.1 hK
  unfold qhl
  simp only[path]
  rw[hrow]
  generalize w o.2.1=v at *
  have hov:=qgy v
  have hvv:=qfo v
  have hcv:=qi1 v
  have hccv:=qf9 (qh v)
  by_cases hb:v=0∨v=o.2.2.1
  ·rw[show (bif decide (v=0) then true else decide (v=o.2.2.1))=true by
    rcases hb with h | h
    ·rw[decide_eq_true h];rfl
    ·rw[decide_eq_true h];cases decide (v=0)<;>rfl]
   exact ⟨by simp[path],by simp[path];omega,by simp[path]⟩
  ·rw[show (bif decide (v=0) then true else decide (v=o.2.2.1))=false by
    rw[decide_eq_false (by omega),decide_eq_false (by omega)];rfl]
   simp only[cond_false,path]
   cases w (qv o.2.2.1) != 0
   ·simp only[cond_false,path]
    cases hc:qh v != qh o.2.2.1
    ·simp only[cond_false,path,qlv,List.map_cons,List.map_nil]
     split
     ·exact ⟨by simp;omega,by simp;omega,by simp⟩
     ·exact ⟨by simp;omega,by simp;omega,by simp⟩
    ·have hne:qh v≠qh o.2.2.1:=by simpa using hc
     simp only[cond_true,path,qlv,List.map_cons,List.map_nil]
     split
     ·exact ⟨by simp;omega,by simp;omega,by simp⟩
     ·exact ⟨by simp;omega,by simp;omega,by simp⟩
   ·exact ⟨by simp[path];omega,by simp[path];omega,by simp[path]⟩
 rw[if_neg k2]
 by_cases k3:o.1=3
 ·rw[if_pos k3]
  have hK:0≤o.2.1∧o.2.1≤3:=by omega
  have hrow:qr o.2.1=o.2.1:=by omega
  have hwv:=hw o.2.1 hK
  unfold qmr
  simp only[path]
  rw[hrow]
  generalize w o.2.1=v at *
  have hov:=qgy v
  have hvv:=qfo v
  have hcv:=qi1 v
  have hccv:=qf9 (qh v)
  by_cases hb:v=0
  ·rw[decide_eq_true hb]
   exact ⟨by simp[path],by simp[path];omega,by simp[path]⟩
  ·rw[decide_eq_false hb]
   simp only[cond_false,path,qlv,List.map_cons,List.map_nil]
   split
   ·exact ⟨by simp;omega,by simp;omega,by simp⟩
   ·exact ⟨by simp;omega,by simp;omega,by simp⟩
 rw[if_neg k3]
 by_cases k4:o.1=4
 ·rw[if_pos k4];exact ⟨by simp[path],by simp[path];omega,by simp[path]⟩
 rw[if_neg k4]
 by_cases k5:o.1=5
 ·rw[if_pos k5];exact ⟨by simp[path],by simp[path];omega,by simp[path]⟩
 rw[if_neg k5]
 by_cases k6:o.1=6
 ·rw[if_pos k6]
  have:=qf9 o.2.1
  exact ⟨by simp[path],by simp[path];omega,by simp[path]⟩
 rw[if_neg k6]
 by_cases k7:o.1=7
 ·rw[if_pos k7];exact ⟨by simp[path,qn1],by simp[path,qn1],by simp[path,qn1]⟩
 rw[if_neg k7]
 by_cases k8:o.1=8
 ·rw[if_pos k8];exact ⟨by simp[path],by simp[path],by simp[path]⟩
 rw[if_neg k8]
 by_cases k9:o.1=9
 ·rw[if_pos k9]
  unfold qnl
  simp only[path]
  generalize w 13=st
  by_cases hs:st<1∨st>4
  ·rw[show (bif decide (st<1) then true else decide (st>4))=true by
    rcases hs with h | h
    ·rw[decide_eq_true h];rfl
    ·rw[decide_eq_true h];cases decide (st<1)<;>rfl]
   exact ⟨by simp[path],by simp[path],by simp[path]⟩
  ·rw[show (bif decide (st<1) then true else decide (st>4))=false by
    rw[decide_eq_false (by omega),decide_eq_false (by omega)];rfl]
   have hws:IntKind.wrap IntKind.i64 (st - 1)=st - 1:=qbl (by omega) (by omega)
   have hrr:=qjz (st - 1)
   simp only[cond_false,path]
   rw[hws]
   have hp:qr (st - 1)=st - 1:=by omega
   rw[hp]
   cases hin:inR (w (st - 1)) 1 6
   ·exact ⟨by simp[path];omega,by simp[path];omega,by simp[path]⟩
   ·have hi:=qbz.1 hin
    have hvv:=qfo (w (st - 1))
    simp only[Bool.not_true,cond_false,path]
    exact ⟨by simp;omega,by simp;omega,by simp⟩
 rw[if_neg k9]
 have k10:o.1=10:=by omega
 rw[if_pos k10]
 unfold qn6
 simp only[path]
 cases w 13 != 5
 ·simp only[cond_false,path]
  exact ⟨by simp;omega,by simp;omega,by simp⟩
 ·exact ⟨by simp[path],by simp[path],by simp[path]⟩
end Go.G

namespace Go.G
set_option maxRecDepth 100000
open Go Go.V Go.Proofs
theorem qbaa {α:Type} (key:α→Int):∀ (L acc:List α),(L.foldl (bub key) acc).length=acc.length+L.length
 | [],acc=>rfl
 | e::L,acc=>by rw[List.foldl_cons,qbaa key L,qzo,List.length_cons];omega
theorem q22 (w:Int→Int) (K:Int) (l:List Int):∀ p∈path w (qgt K l),p=13∨p∈l.map q9:=by
 intro p hp
 rw[qlv] at hp
 rcases List.mem_cons.1 hp with h | h
 ·exact .inl h
 ·split at h
  ·simp at h
  ·exact .inr h
theorem qbcl {o:Op3} (ho:opOk o=true) {got:Got} {w:Int→Int} (hw:∀ k,0≤k∧k≤3→0≤w k∧w k≤6) (hk:q20 got w (path w (prog o))) (hn:qe2 o got=none) (h123:o.1=1∨o.1=2∨o.1=3) :
  val got (qr o.2.1)=w o.2.1∧∀ p∈path w (prog o),p∈(chgL o.2.1 o.2.2.1 (w o.2.1) (val got 13)).map (·.1):=by
 have hkd:=qm2 ho
 have hr:=qjz o.2.1
 have hrow:qr o.2.1=o.2.1:=by omega
 have hcl:=qi1 o.2.2.1
 have hwK:=hw o.2.1 (by omega)
 have hfst:∃ P,path w (prog o)=qr o.2.1::P:=by
  unfold prog
  rcases h123 with k | k | k
  ·rw[if_pos k];exact ⟨_,rfl⟩
  ·rw[if_neg (by omega),if_pos k];exact ⟨_,rfl⟩
  ·rw[if_neg (by omega),if_neg (by omega),if_pos k];exact ⟨_,rfl⟩
 obtain ⟨P,hP⟩:=hfst
 have hval:val got (qr o.2.1)=w o.2.1:=by
  unfold val
  rw[hk (qr o.2.1),if_pos (by rw[hP];exact List.mem_cons_self),hrow]
 refine ⟨hval,?_⟩
 have hrd:(qt got (qr o.2.1)).1=w o.2.1:=hval
 unfold qe2 at hn
 rw[hrd] at hn
 unfold nowP at hn
 unfold prog at hk ⊢
 rcases h123 with k | k | k
 ·rw[if_pos k] at hk ⊢
  by_cases c1:w o.2.1≠0
  ·rw[if_pos ⟨k,c1⟩] at hn;cases hn
  have c1':w o.2.1=0:=by omega
  rw[if_neg (fun q=>c1 q.2)] at hn
  have hpath:path w (qjn o)=qr o.2.1::qv o.2.2.1::(bif w (qv o.2.2.1) != 0 then [] else qbg (qh o.2.2.1)::path w (qgt o.2.1 [o.2.2.1])):=by
   unfold qjn
   simp only[path]
   rw[hrow,c1']
   simp only[bned,decide_true,Bool.not_true,cond_false,path]
   cases decide (w (qv o.2.2.1)=0)<;>rfl
  rw[hpath] at hk ⊢
  have hown:(qt got (qv o.2.2.1)).1=w (qv o.2.2.1):=by rw[hk,if_pos (by simp)]
  rw[hown] at hn
  by_cases c2:w (qv o.2.2.1)≠0
  ·rw[if_pos ⟨k,c2⟩] at hn;cases hn
  have c2':w (qv o.2.2.1)=0:=by omega
  rw[c2',show ((0:Int) != 0)=false by decide,cond_false]
  have hz:qh 0 = -1:=by decide
  have hcc:(qh (w o.2.1) != qh o.2.2.1)=true:=by rw[c1',hz,bned,decide_eq_false (by omega)];rfl
  intro p hp
  unfold chgL
  rw[hcc,cond_true]
  simp only[List.cons_append,List.nil_append,List.map_cons,List.map_nil,List.mem_cons,List.not_mem_nil,or_false]
  simp only[List.mem_cons] at hp
  rcases hp with h | h | h | h
  ·exact .inl h
  ·exact .inr (.inr (.inr (.inr (.inl h))))
  ·exact .inr (.inr (.inr (.inr (.inr (.inr (.inr h))))))
  ·rcases q22 w _ _ p h with h | h
   ·exact .inr (.inl h)
   ·simp only[List.map_cons,List.map_nil,List.mem_cons,List.not_mem_nil,or_false] at h
    exact .inr (.inr (.inr (.inr (.inr (.inl h)))))
 ·rw[if_neg (by omega),if_pos k] at hk ⊢
  rw[if_neg (by omega),if_neg (by omega)] at hn
  by_cases c1:w o.2.1=0
  ·rw[if_pos ⟨.inl k,c1⟩] at hn;cases hn
  rw[if_neg (fun q=>c1 q.2)] at hn
  by_cases c3:w o.2.1=o.2.2.1
  ·rw[if_pos ⟨k,c3⟩] at hn;cases hn
  rw[if_neg (fun q=>c3 q.2)] at hn
  have hpath:path w (qhl o)=qr o.2.1::qv o.2.2.1::(bif w (qv o.2.2.1) != 0 then [] else qv (w o.2.1)::(bif qh (w o.2.1) != qh o.2.2.1 then qbg (qh (w o.2.1))::qbg (qh o.2.2.1)::path w (qgt o.2.1 [w o.2.1,o.2.2.1]) else path w (qgt o.2.1 [w o.2.1,o.2.2.1]))):=by
   unfold qhl
   simp only[path]
   rw[hrow,decide_eq_false c1,decide_eq_false c3]
   simp only[cond_false,path]
   cases w (qv o.2.2.1) != 0
   ·simp only[cond_false,path]
    cases qh (w o.2.1) != qh o.2.2.1<;>rfl
   ·rfl
  rw[hpath] at hk ⊢
  have hown:(qt got (qv o.2.2.1)).1=w (qv o.2.2.1):=by rw[hk,if_pos (by simp)]
  rw[hown] at hn
  by_cases c2:w (qv o.2.2.1)≠0
  ·rw[if_pos ⟨k,c2⟩] at hn;cases hn
  have c2':w (qv o.2.2.1)=0:=by omega
  rw[c2',show ((0:Int) != 0)=false by decide,cond_false]
  intro p hp
  unfold chgL
  cases hcc:qh (w o.2.1) != qh o.2.2.1
  ·rw[hcc,cond_false] at hp
   rw[cond_false]
   simp only[List.append_nil,List.map_cons,List.map_nil,List.mem_cons,List.not_mem_nil,or_false]
   simp only[List.mem_cons] at hp
   rcases hp with h | h | h | h
   ·exact .inl h
   ·exact .inr (.inr (.inr (.inr (.inl h))))
   ·exact .inr (.inr (.inl h))
   ·rcases q22 w _ _ p h with h | h
    ·exact .inr (.inl h)
    ·simp only[List.map_cons,List.map_nil,List.mem_cons,List.not_mem_nil,or_false] at h
     rcases h with h | h
     ·exact .inr (.inr (.inr (.inl h)))
     ·exact .inr (.inr (.inr (.inr (.inr h))))
  ·rw[hcc,cond_true] at hp
   rw[cond_true]
   simp only[List.cons_append,List.nil_append,List.map_cons,List.map_nil,List.mem_cons,List.not_mem_nil,or_false]
   simp only[List.mem_cons] at hp
   rcases hp with h | h | h | h | h | h
   ·exact .inl h
   ·exact .inr (.inr (.inr (.inr (.inl h))))
   ·exact .inr (.inr (.inl h))
   ·exact .inr (.inr (.inr (.inr (.inr (.inr (.inl h))))))
   ·exact .inr (.inr (.inr (.inr (.inr (.inr (.inr h))))))
   ·rcases q22 w _ _ p h with h | h
    ·exact .inr (.inl h)
    ·simp only[List.map_cons,List.map_nil,List.mem_cons,List.not_mem_nil,or_false] at h
     rcases h with h | h
     ·exact .inr (.inr (.inr (.inl h)))
     ·exact .inr (.inr (.inr (.inr (.inr (.inl h)))))
 ·rw[if_neg (by omega),if_neg (by omega),if_pos k] at hk ⊢
  rw[if_neg (by omega),if_neg (by omega)] at hn
  by_cases c1:w o.2.1=0
  ·rw[if_pos ⟨.inr (.inl k),c1⟩] at hn;cases hn
  have hpath:path w (qmr o)=qr o.2.1::qv (w o.2.1)::qbg (qh (w o.2.1))::path w (qgt o.2.1 [w o.2.1]):=by
   unfold qmr
   simp only[path]
   rw[hrow,decide_eq_false c1]
   simp only[cond_false,path]
  rw[hpath]
  have hV:o.2.2.1=0:=by omega
  have hz:qh 0 = -1:=by decide
  have hck:=qi1 (w o.2.1)
  have hcc:(qh (w o.2.1) != qh o.2.2.1)=true:=by rw[hV,hz,bned,decide_eq_false (by omega)];rfl
  intro p hp
  unfold chgL
  rw[hcc,cond_true]
  simp only[List.cons_append,List.nil_append,List.map_cons,List.map_nil,List.mem_cons,List.not_mem_nil,or_false]
  simp only[List.mem_cons] at hp
  rcases hp with h | h | h | h
  ·exact .inl h
  ·exact .inr (.inr (.inl h))
  ·exact .inr (.inr (.inr (.inr (.inr (.inr (.inl h))))))
  ·rcases q22 w _ _ p h with h | h
   ·exact .inr (.inl h)
   ·simp only[List.map_cons,List.map_nil,List.mem_cons,List.not_mem_nil,or_false] at h
    exact .inr (.inr (.inr (.inl h)))
theorem qbia {l:List qbr} (h:Asc l):(l.map (·.1)).Nodup:=by
 rw[List.Nodup,List.pairwise_map]
 exact h.imp fun {a b} hab=>by omega
theorem qblz {o:Op3} (ho:opOk o=true) {got:Got} {w:Int→Int} (hw:∀ k,0≤k∧k≤3→0≤w k∧w k≤6) (hk:q20 got w (path w (prog o))) (hrun:run got (prog o)=(path w (prog o),-1)) (hn:qe2 o got=none) :
  (∀ p∈path w (prog o),∃ e∈entP o got,e.1=p∧e.2.1=w p)∧(entP o got).length=(path w (prog o)).length:=by
 have hpk:=qvl ho w hw
 have hvp:∀ p∈path w (prog o),val got p=w p:=fun p hp=>by unfold val;rw[hk p,if_pos hp]
 have hhit:∀ p,0≤p→(hit got p=true↔p∈path w (prog o)):=fun p hp=>by rw[qx7 hk hp,decide_eq_true_eq]
 by_cases h123:o.1=1∨o.1=2∨o.1=3
 ·obtain ⟨hv,hsub⟩:=qbcl ho hw hk hn h123
  have hne:=q83 ho hn h123
  have hE:entP o got=(ents got (chgL o.2.1 o.2.2.1 (w o.2.1) (val got 13))).foldl insS []:=by
   unfold entP;rw[if_pos h123,hv]
  rw[hv] at hne
  obtain ⟨_,r2,r3,r4⟩:=q5g (got:=got) (K:=o.2.1) (V:=o.2.2.1) (held:=w o.2.1) (st:=val got 13) hne
  rw[hE]
  have hA:∀ p∈path w (prog o),∃ e∈(ents got (chgL o.2.1 o.2.2.1 (w o.2.1) (val got 13))).foldl insS [],e.1=p∧e.2.1=w p:=by
   intro p hp
   obtain ⟨q,hq,rfl⟩:=List.mem_map.1 (hsub p hp)
   have hh:=(hhit q.1 (hpk.rng q.1 hp).1).2 hp
   exact ⟨_,(r3 _).2 ((qvv got _ _).2 ⟨q,hq,hh,rfl⟩),rfl,hvp q.1 hp⟩
  refine ⟨hA,?_⟩
  have hperm:(((ents got (chgL o.2.1 o.2.2.1 (w o.2.1) (val got 13))).foldl insS []).map (·.1)).Perm (path w (prog o)):=by
   rw[List.perm_ext_iff_of_nodup (qbia r2) hpk.once]
   intro p
   constructor
   ·intro hp
    obtain ⟨e,he,rfl⟩:=List.mem_map.1 hp
    obtain ⟨q,_,hh,rfl⟩:=(qvv got _ _).1 ((r3 _).1 he)
    exact (hhit q.1 (q21 hh)).1 hh
   ·intro hp
    obtain ⟨e,he,h1,_⟩:=hA p hp
    exact List.mem_map.2 ⟨e,he,h1⟩
  have:=hperm.length_eq
  rw[List.length_map] at this
  exact this
 ·have hneg:(run got (prog o)).2<0:=by rw[hrun];show (-1:Int)<0;omega
  obtain ⟨_,pl⟩:=qxk ho hn hneg h123
  have hr1:(run got (prog o)).1=path w (prog o):=by rw[hrun]
  rw[hr1] at pl
  have hmem:∀ L:List Int,(path w (prog o)).foldl (bub ikey) []=L→(∀ p∈path w (prog o),p∈L)∧L.length=(path w (prog o)).length:=by
   intro L hL
   refine ⟨fun p hp=>?_,?_⟩
   ·rw[←hL,qx2];exact .inr hp
   ·rw[←hL,qbaa];simp
  unfold entP
  rw[if_neg h123]
  rcases pl with ⟨k,hp⟩ | ⟨k,hz,hp⟩ | ⟨k,hz,hp⟩ | ⟨k,hp⟩
  ·obtain ⟨m1,m2⟩:=hmem _ hp
   rw[if_pos k]
   refine ⟨fun p hpp=>?_,by rw[←m2];rfl⟩
   have h2:=m1 p hpp
   have hv:=hvp p hpp
   simp only[List.mem_cons,List.not_mem_nil,or_false] at h2
   rcases h2 with rfl | rfl | rfl | rfl
   ·exact ⟨same got 0,by simp,rfl,hv⟩
   ·exact ⟨same got 1,by simp,rfl,hv⟩
   ·exact ⟨same got 2,by simp,rfl,hv⟩
   ·exact ⟨same got 3,by simp,rfl,hv⟩
  ·obtain ⟨m1,m2⟩:=hmem _ hp
   rw[if_neg (by omega),if_pos k]
   refine ⟨fun p hpp=>?_,by rw[←m2];rfl⟩
   have h2:=m1 p hpp
   have hv:=hvp p hpp
   simp only[List.mem_cons,List.not_mem_nil,or_false] at h2
   subst h2
   exact ⟨_,List.mem_singleton.2 rfl,rfl,hv⟩
  ·obtain ⟨m1,m2⟩:=hmem _ hp
   rw[if_neg (by omega),if_neg (by omega),if_pos k]
   generalize qr (IntKind.wrap IntKind.i64 (val got 13 - 1))=q at *
   refine ⟨fun p hpp=>?_,by rw[←m2];cases inR (val got q) 1 6<;>rfl⟩
   have h2:=m1 p hpp
   have hv:=hvp p hpp
   simp only[List.mem_cons] at h2
   rcases h2 with rfl | rfl | h2
   ·exact ⟨same got p,List.mem_cons_self,rfl,hv⟩
   ·exact ⟨_,List.mem_cons_of_mem _ List.mem_cons_self,rfl,hv⟩
   ·cases hin:inR (val got q) 1 6
    ·rw[hin] at h2;simp at h2
    ·rw[hin,cond_true,List.mem_singleton] at h2
     subst h2
     exact ⟨_,List.mem_cons_of_mem _ (List.mem_cons_of_mem _ (by rw[cond_true];exact List.mem_singleton.2 rfl)),rfl,hv⟩
  ·obtain ⟨m1,m2⟩:=hmem _ hp
   rw[if_neg (by omega),if_neg (by omega),if_neg (by omega),if_pos k]
   refine ⟨fun p hpp=>?_,by rw[←m2];rfl⟩
   have h2:=m1 p hpp
   have hv:=hvp p hpp
   simp only[List.mem_cons,List.not_mem_nil,or_false] at h2
   rcases h2 with rfl | rfl
   ·exact ⟨same got 13,by simp,rfl,hv⟩
   ·exact ⟨same got (q9 o.2.2.1),by simp,rfl,hv⟩
end Go.G

namespace Go.G
set_option maxRecDepth 100000
open Go Go.V Go.Proofs
def wOf (r:q8) (p:Int):Int:=qdl r p.toNat
theorem qio {r:q8} (hr:RightR r) {k:Int} (hk:0≤k∧k≤3):wOf r k=r.1.getD k.toNat 0∧0≤wOf r k∧wOf r k≤6:=by
 have hl:=hr.len
 have e:wOf r k=r.1.getD k.toNat 0:=by unfold wOf qdl;rw[if_pos (by omega)]
 refine ⟨e,?_⟩
 rw[e,qc9 (by omega)]
 exact hr.rng _ (List.getElem_mem _)
theorem qbkv {r:q8} (hr:RightR r) (p:Int) (hp:0≤p∧p<20):0≤wOf r p∧wOf r p≤1000:=by
 have hl:=hr.len
 have hst:=hr.st
 unfold wOf qdl
 split
 ·rw[qc9 (by omega)]
  have:=hr.rng _ (List.getElem_mem (l:=r.1) (show p.toNat<r.1.length by omega));omega
 ·split
  ·unfold ownW
   have:=qlf ((p.toNat:Int) - 3) r.1 0
   split<;>omega
  ·split
   ·have:=qr3 ((p.toNat:Int) - 10) r.1;omega
   ·split
    ·omega
    ·unfold viaW
     have:=qlf ((p.toNat:Int) - 13) r.1 0
     split<;>omega
def q0 (r:q8) (o:Op3):Got:=(path (wOf r) (prog o)).map fun p=>(p,wOf r p,())
theorem qti (r:q8) (o:Op3):q20 (q0 r o) (wOf r) (path (wOf r) (prog o)):=q99 _ _
theorem q1n {r:q8} (hr:RightR r) {o:Op3} (ho:opOk o=true):run (q0 r o) (prog o)=(path (wOf r) (prog o),-1):=by
 have hpk:=qvl ho (wOf r) (fun k hk=>(qio hr hk).2)
 exact q5e (qti r o) (path (wOf r) (prog o)) [] (prog o) (by rw[List.append_nil]) (fun a ha=>ha) (fun a ha=>(hpk.rng a (by simpa using ha)).1) (fun b B' h=>by cases h)
theorem qbg8 {r:q8} (hr:RightR r) {o:Op3} (ho:opOk o=true):q1w (q0 r o):=by
 have hpk:=qvl ho (wOf r) (fun k hk=>(qio hr hk).2)
 intro x hx
 obtain ⟨p,hp,rfl⟩:=List.mem_map.1 hx
 have:=qbkv hr p (hpk.rng p hp)
 exact ⟨by show -1≤wOf r p;omega,by show wOf r p≤1000000;omega⟩
section
variable {X:Ext} (hX:XOk X) {n:Nat}
include hX
theorem qbga (N n:Nat) (hN:W+13≤N) (K:q8→Op3→q8→Op3→Got→Option ((q8×Op3×Got×Unit)×Unit)) (z1:q8) (z2:Op3) {r:q8} (hr:RightR r) {o:Op3} (ho:opOk o=true) {ws:List Int} (hwl:ws.length=20) (hw:∀ p<20,ws.getD p 0=qdl r p) :
  ∀ (m i:Nat),i≤(path (wOf r) (prog o)).length→12 - i<m→
  qgj (DD X N) n K m (i:Int) z1 z2 r o ws (((path (wOf r) (prog o)).take i).map fun p=>(p,wOf r p,()))=K z1 z2 r o (q0 r o)
 | 0,_,_,h=>by omega
 | m+1,i,hi,hf=>by
  have hb:=qfw
  have hpk:=qvl ho (wOf r) (fun k hk=>(qio hr hk).2)
  have hlen:=hpk.len
  have hkn:=q99 (wOf r) ((path (wOf r) (prog o)).take i)
  have hsplit:=List.take_append_drop i (path (wOf r) (prog o))
  have hrun:run (((path (wOf r) (prog o)).take i).map fun p=>(p,wOf r p,())) (prog o)=((path (wOf r) (prog o)).take i,((path (wOf r) (prog o)).drop i).headD (-1)):=
   q5e hkn _ _ (prog o) hsplit.symm (fun a ha=>ha) (fun a ha=>(hpk.rng a (by rw[hsplit] at ha;exact ha)).1) (fun b B' hB hmem=>by
    have hn:=hpk.once
    rw[←hsplit,hB] at hn
    rw[List.nodup_append] at hn
    exact hn.2.2 b hmem b List.mem_cons_self rfl)
  have hnx:q6b o (((path (wOf r) (prog o)).take i).map fun p=>(p,wOf r p,()))=((path (wOf r) (prog o)).drop i).headD (-1):=by
   unfold q6b;rw[if_pos ho,hrun]
  have enx:=q3o hX (n:=N) (by omega) (got:=((path (wOf r) (prog o)).take i).map fun p=>(p,wOf r p,())) (by rw[List.length_map,List.length_take];omega) o
  have hgl:(((path (wOf r) (prog o)).take i).map fun p=>(p,wOf r p,())).length+1≤qeq:=by rw[List.length_map,List.length_take];omega
  rw[hnx] at enx
  simp only[qgj,qor]
  rw[ql (show (i:Int)<12 by omega)]
  by_cases h:i<(path (wOf r) (prog o)).length
  ·rw[qll h,List.headD_cons] at enx
   have hp:=hpk.rng _ (List.getElem_mem h)
   rw[enx,qc]
   dsimp only
   rw[qi (show ¬ (path (wOf r) (prog o))[i]<0 by omega),ixn (by omega) (by rw[hwl];omega),br_t,ql hgl,qbh (by omega),hw _ (by omega)]
   have e:((path (wOf r) (prog o)).take i).map (fun p=>(p,wOf r p,()))++[((path (wOf r) (prog o))[i],qdl r ((path (wOf r) (prog o))[i]).toNat,())]=((path (wOf r) (prog o)).take (i+1)).map fun p=>(p,wOf r p,()):=by
    rw[List.take_succ_eq_append_getElem h,List.map_append];rfl
   rw[e]
   exact qbga N n hN K z1 z2 hr ho hwl hw m (i+1) (by omega) (by omega)
  ·rw[qnw h,List.headD_nil] at enx
   rw[enx,qc]
   dsimp only
   rw[ql (show (-1:Int)<0 by decide),List.take_of_length_le (by omega)]
   rfl
theorem qbe5 (hn:W+15≤n) (a:List Int) (ha:a.length≤1048576):∃ (r:q8) (o:Op3),RightR r∧opOk o=true∧qpj (DD X n) a=some ((r,o,q0 r o,()),()):=by
 obtain ⟨n,rfl⟩:∃ k,n=k+1:=⟨n - 1,by omega⟩
 have hW:=qca
 rw[q46 hX]
 simp only[qpm,qpt,qns]
 obtain ⟨c,hc,e1⟩:=qbkt hX (n:=n) (by omega) a ha
 obtain ⟨r,c2,hr,_,hc2,e3⟩:=qbao hX (n:=n) (by omega) hc
 obtain ⟨o,c3,hc3,ho,e2⟩:=qba2 hX (n:=n) (by omega) hc2
 obtain ⟨ws,hwl,hw,e4⟩:=qbjp hX (n:=n) (by omega) hr
 rw[e1,qc]
 dsimp only
 rw[e3,qc]
 dsimp only
 rw[e2,qc]
 dsimp only
 rw[show (r.1,r.2)=r from rfl,e4,qc]
 dsimp only
 have e:=qbga hX n n (by omega) (fun v0_0 v0_1 v0_2 v0_3 v0_4=>qms (DD X n) n v0_0 v0_1 v0_2 v0_3 v0_4) ([],0,()) (0,0,0,()) hr ho hwl hw n 0 (by omega) (by omega)
 rw[show ((0:Nat):Int)=0 from rfl,List.take_zero,List.map_nil] at e
 rw[e]
 exact ⟨r,o,hr,ho,rfl⟩
end
end Go.G

namespace Go.G
set_option maxRecDepth 100000
open Go Go.V Go.Proofs
inductive Out (r:q8) (o:Op3):Int→List Int→Prop
 | put1:o.1=1→r.1.getD o.2.1.toNat 0≠0→Out r o 1 []
 | put2:o.1=1→r.1.getD o.2.1.toNat 0=0→0≤keyF o.2.2.1 r.1 0→Out r o 2 []
 | put0:o.1=1→r.1.getD o.2.1.toNat 0=0→keyF o.2.2.1 r.1 0<0→Out r o 0 []
 | set3:o.1=2→r.1.getD o.2.1.toNat 0=0→Out r o 3 []
 | setS:o.1=2→r.1.getD o.2.1.toNat 0≠0→r.1.getD o.2.1.toNat 0=o.2.2.1→Out r o 0 []
 | set2:o.1=2→r.1.getD o.2.1.toNat 0≠0→r.1.getD o.2.1.toNat 0≠o.2.2.1→0≤keyF o.2.2.1 r.1 0→Out r o 2 []
 | set0:o.1=2→r.1.getD o.2.1.toNat 0≠0→r.1.getD o.2.1.toNat 0≠o.2.2.1→keyF o.2.2.1 r.1 0<0→Out r o 0 []
 | del3:o.1=3→r.1.getD o.2.1.toNat 0=0→Out r o 3 []
 | del0:o.1=3→r.1.getD o.2.1.toNat 0≠0→Out r o 0 []
 | get3:o.1=4→r.1.getD o.2.1.toNat 0=0→Out r o 3 []
 | get0:o.1=4→r.1.getD o.2.1.toNat 0≠0→Out r o 0 [r.1.getD o.2.1.toNat 0]
 | find3:o.1=5→keyF o.2.2.1 r.1 0<0→Out r o 3 []
 | find0:o.1=5→0≤keyF o.2.2.1 r.1 0→Out r o 0 [keyF o.2.2.1 r.1 0]
 | cnt0:o.1=6→Out r o 0 [many o.2.1 r.1]
 | scan0:o.1=7→Out r o 0 r.1
 | open4:o.1=8→r.2.1≠0→Out r o 4 []
 | open0:o.1=8→r.2.1=0→Out r o 0 []
 | make4:o.1=9→r.2.1=0∨r.2.1=5→Out r o 4 []
 | make0:o.1=9→1≤r.2.1∧r.2.1≤4→Out r o 0 []
 | via4:o.1=10→r.2.1≠5→Out r o 4 []
 | via3:o.1=10→r.2.1=5→keyF o.2.2.1 r.1 0<0→Out r o 3 []
 | via0:o.1=10→r.2.1=5→0≤keyF o.2.2.1 r.1 0→Out r o 0 [keyF o.2.2.1 r.1 0]
theorem qx6 {r:q8} (hr:RightR r) {v:Int} (hv:1≤v∧v≤6):wOf r (qv v)=keyF v r.1 0+1:=by
 have ho:=qgy v
 have hl:=hr.len
 have hk:=qlf v r.1 0
 have e:qv v=3+v:=by omega
 unfold wOf qdl
 rw[e,if_neg (by omega),if_pos (by omega)]
 unfold ownW
 rw[show (((3+v).toNat:Nat):Int) - 3=v by omega]
 by_cases h:0≤keyF v r.1 0∧keyF v r.1 0<4
 ·rw[if_pos h]
 ·rw[if_neg h];omega
theorem qtu (r:q8):wOf r 13=r.2.1:=rfl
theorem qbic {r:q8} {c:Int} (hc:0≤c∧c≤2):wOf r (qbg c)=many c r.1:=by
 have ho:=qf9 c
 have e:qbg c=10+c:=by omega
 unfold wOf qdl
 rw[e,if_neg (by omega),if_neg (by omega),if_pos (by omega),show (((10+c).toNat:Nat):Int) - 10=c by omega]
theorem qblr {r:q8} {v:Int} (hv:1≤v∧v≤6):wOf r (q9 v)=viaW v r.1 4 r.2.1:=by
 have ho:=qfo v
 have e:q9 v=13+v:=by omega
 unfold wOf qdl
 rw[e,if_neg (by omega),if_neg (by omega),if_neg (by omega),if_neg (by omega),show (((13+v).toNat:Nat):Int) - 13=v by omega]
theorem qbmo {l:List Int} (h:l.length=4):l=[l.getD 0 0,l.getD 1 0,l.getD 2 0,l.getD 3 0]:=by
 match l,h with
 | [a,b,c,d],_=>rfl
theorem qbgf {r:q8} (hr:RightR r) {o:Op3} (ho:opOk o=true):Out r o (qic o (q0 r o)).1.2.1.1 (qic o (q0 r o)).1.2.1.2.1:=by
 have hkd:=qm2 ho
 have hrun:=q1n hr ho
 have hkn:=qti r o
 have hcond:opOk o=true∧(run (q0 r o) (prog o)).2<0:=⟨ho,by rw[hrun];show (-1:Int)<0;omega⟩
 have hst:=hr.st
 have hl:=hr.len
 have hrd:∀ p,p∈path (wOf r) (prog o)→(qt (q0 r o) p).1=wOf r p:=fun p hp=>by rw[hkn p,if_pos hp]
 have hrow:=qjz o.2.1
 unfold qic
 rw[if_pos hcond]
 by_cases k1:o.1=1
 ·have hK:qr o.2.1=o.2.1:=by omega
  have hw:=qio hr (k:=o.2.1) (by omega)
  have hp:prog o=qjn o:=by unfold prog;rw[if_pos k1]
  have m1:qr o.2.1∈path (wOf r) (prog o):=by rw[hp];unfold qjn;simp only[path];exact List.mem_cons_self
  have r1:=hrd _ m1
  rw[hK,hw.1] at r1
  unfold qe2
  rw[hK,r1]
  unfold nowP
  by_cases c1:r.1.getD o.2.1.toNat 0≠0
  ·rw[if_pos ⟨k1,c1⟩];exact .put1 k1 c1
  have c1':r.1.getD o.2.1.toNat 0=0:=by omega
  rw[if_neg (fun q=>c1 q.2)]
  have m2:qv o.2.2.1∈path (wOf r) (prog o):=by
   rw[hp];unfold qjn;simp only[path]
   rw[hK,hw.1,c1']
   simp only[bned,decide_true,Bool.not_true,cond_false,path]
   simp
  rw[hrd _ m2,qx6 hr (by omega)]
  by_cases c2:keyF o.2.2.1 r.1 0+1≠0
  ·rw[if_pos ⟨k1,c2⟩];exact .put2 k1 c1' (by have:=qlf o.2.2.1 r.1 0;omega)
  rw[if_neg (fun q=>c2 q.2),if_neg (by omega),if_neg (by omega),if_neg (by omega),if_neg (by omega),if_neg (by omega),if_neg (by omega),if_neg (by omega),if_neg (by omega),if_neg (by omega),if_neg (by omega)]
  dsimp only
  unfold resP
  rw[if_neg (by omega),if_neg (by omega)]
  exact .put0 k1 c1' (by omega)
 by_cases k2:o.1=2
 ·have hK:qr o.2.1=o.2.1:=by omega
  have hw:=qio hr (k:=o.2.1) (by omega)
  have hp:prog o=qhl o:=by unfold prog;rw[if_neg k1,if_pos k2]
  have m1:qr o.2.1∈path (wOf r) (prog o):=by rw[hp];unfold qhl;simp only[path];exact List.mem_cons_self
  have r1:=hrd _ m1
  rw[hK,hw.1] at r1
  unfold qe2
  rw[hK,r1]
  unfold nowP
  rw[if_neg (by omega),if_neg (by omega)]
  by_cases c1:r.1.getD o.2.1.toNat 0=0
  ·rw[if_pos ⟨.inl k2,c1⟩];exact .set3 k2 c1
  rw[if_neg (fun q=>c1 q.2)]
  by_cases c3:r.1.getD o.2.1.toNat 0=o.2.2.1
  ·rw[if_pos ⟨k2,c3⟩];exact .setS k2 c1 c3
  rw[if_neg (fun q=>c3 q.2)]
  have m2:qv o.2.2.1∈path (wOf r) (prog o):=by
   rw[hp];unfold qhl;simp only[path]
   rw[hK,hw.1,decide_eq_false c1,decide_eq_false c3]
   simp only[cond_false,path]
   simp
  rw[hrd _ m2,qx6 hr (by omega)]
  by_cases c2:keyF o.2.2.1 r.1 0+1≠0
  ·rw[if_pos ⟨k2,c2⟩];exact .set2 k2 c1 c3 (by have:=qlf o.2.2.1 r.1 0;omega)
  rw[if_neg (fun q=>c2 q.2),if_neg (by omega),if_neg (by omega),if_neg (by omega),if_neg (by omega),if_neg (by omega),if_neg (by omega),if_neg (by omega)]
  dsimp only
  unfold resP
  rw[if_neg (by omega),if_neg (by omega)]
  exact .set0 k2 c1 c3 (by omega)
 by_cases k34:o.1=3∨o.1=4
 ·have hK:qr o.2.1=o.2.1:=by omega
  have hw:=qio hr (k:=o.2.1) (by omega)
  have m1:qr o.2.1∈path (wOf r) (prog o):=by
   unfold prog
   rw[if_neg k1,if_neg k2]
   rcases k34 with k | k
   ·rw[if_pos k];unfold qmr;simp only[path];exact List.mem_cons_self
   ·rw[if_neg (by omega),if_pos k];simp only[path];exact List.mem_cons_self
  have r1:=hrd _ m1
  rw[hK,hw.1] at r1
  unfold qe2
  rw[hK,r1]
  unfold nowP
  rw[if_neg (by omega),if_neg (by omega)]
  by_cases c1:r.1.getD o.2.1.toNat 0=0
  ·rw[if_pos ⟨.inr k34,c1⟩]
   rcases k34 with k | k
   ·exact .del3 k c1
   ·exact .get3 k c1
  rw[if_neg (fun q=>c1 q.2),if_neg (by omega),if_neg (by omega)]
  rcases k34 with k | k
  ·rw[if_neg (by omega),if_neg (by omega),if_neg (by omega),if_neg (by omega),if_neg (by omega),if_neg (by omega),if_neg (by omega)]
   dsimp only
   unfold resP
   rw[if_neg (by omega),if_neg (by omega)]
   exact .del0 k c1
  ·rw[if_pos k];exact .get0 k c1
 by_cases k5:o.1=5
 ·have m1:qv o.2.2.1∈path (wOf r) (prog o):=by
   unfold prog
   rw[if_neg k1,if_neg k2,if_neg (by omega),if_neg (by omega),if_pos k5];simp only[path];exact List.mem_cons_self
  have hk:=qlf o.2.2.1 r.1 0
  unfold qe2
  rw[hrd _ m1,qx6 hr (by omega)]
  unfold nowP
  rw[if_neg (by omega),if_neg (by omega),if_neg (by omega),if_neg (by omega),if_neg (by omega),if_neg (by omega)]
  by_cases c:keyF o.2.2.1 r.1 0+1=0
  ·rw[if_pos ⟨k5,c⟩];exact .find3 k5 (by omega)
  ·rw[if_neg (fun q=>c q.2),if_pos k5]
   dsimp only
   rw[show keyF o.2.2.1 r.1 0+1 - 1=keyF o.2.2.1 r.1 0 by omega,qbl (by omega) (by omega)]
   exact .find0 k5 (by omega)
 by_cases k6:o.1=6
 ·have m1:qbg o.2.1∈path (wOf r) (prog o):=by
   unfold prog
   rw[if_neg k1,if_neg k2,if_neg (by omega),if_neg (by omega),if_neg k5,if_pos k6];simp only[path];exact List.mem_cons_self
  unfold qe2
  rw[hrd _ m1,qbic (by omega)]
  unfold nowP
  rw[if_neg (by omega),if_neg (by omega),if_neg (by omega),if_neg (by omega),if_neg (by omega),if_neg (by omega),if_neg (by omega),if_neg k5,if_pos k6]
  exact .cnt0 k6
 by_cases k7:o.1=7
 ·have hp:prog o=qn1:=by
   unfold prog
   rw[if_neg k1,if_neg k2,if_neg (by omega),if_neg (by omega),if_neg k5,if_neg k6,if_pos k7]
  unfold qe2 nowP
  rw[if_neg (by omega),if_neg (by omega),if_neg (by omega),if_neg (by omega),if_neg (by omega),if_neg (by omega),if_neg (by omega),if_neg k5,if_neg k6,if_neg (by omega),if_neg (by omega),if_neg (by omega)]
  dsimp only
  unfold resP
  rw[if_pos k7]
  have hv:∀ p:Int,0≤p∧p≤3→val (q0 r o) p=r.1.getD p.toNat 0:=fun p hp2=>by
   unfold val
   rw[hrd p (by rw[hp];unfold qn1;simp only[path,List.mem_cons,List.not_mem_nil,or_false];omega)]
   exact (qio hr hp2).1
  dsimp only
  rw[hv 0 (by omega),hv 1 (by omega),hv 2 (by omega),hv 3 (by omega)]
  have:=qbmo hl
  have e:[r.1.getD (0:Int).toNat 0,r.1.getD (1:Int).toNat 0,r.1.getD (2:Int).toNat 0,r.1.getD (3:Int).toNat 0]=r.1:=this.symm
  rw[e]
  exact .scan0 k7
 have m13:(13:Int)∈path (wOf r) (prog o):=by
  unfold prog
  rw[if_neg k1,if_neg k2,if_neg (by omega),if_neg (by omega),if_neg k5,if_neg k6,if_neg k7]
  by_cases k8:o.1=8
  ·rw[if_pos k8];simp only[path];exact List.mem_cons_self
  by_cases k9:o.1=9
  ·rw[if_neg k8,if_pos k9];unfold qnl;simp only[path];exact List.mem_cons_self
  ·rw[if_neg k8,if_neg k9,if_pos (by omega)];unfold qn6;simp only[path];exact List.mem_cons_self
 unfold qe2
 rw[hrd _ m13,qtu]
 unfold nowP
 rw[if_neg (by omega),if_neg (by omega),if_neg (by omega),if_neg (by omega),if_neg (by omega),if_neg (by omega),if_neg (by omega),if_neg k5,if_neg k6]
 by_cases k8:o.1=8
 ·by_cases c:r.2.1≠0
  ·rw[if_pos ⟨k8,c⟩];exact .open4 k8 c
  ·rw[if_neg (fun q=>c q.2),if_neg (by omega),if_neg (by omega)]
   dsimp only
   unfold resP
   rw[if_neg (by omega),if_neg (by omega)]
   exact .open0 k8 (by omega)
 rw[if_neg (by omega)]
 by_cases k9:o.1=9
 ·by_cases c:r.2.1<1∨r.2.1>4
  ·rw[if_pos ⟨k9,c⟩];exact .make4 k9 (by omega)
  ·rw[if_neg (fun q=>c q.2),if_neg (by omega)]
   dsimp only
   unfold resP
   rw[if_neg (by omega),if_neg (by omega)]
   exact .make0 k9 (by omega)
 rw[if_neg (by omega)]
 have k10:o.1=10:=by omega
 by_cases c:r.2.1≠5
 ·rw[if_pos ⟨k10,c⟩];exact .via4 k10 c
 rw[if_neg (fun q=>c q.2)]
 have c5:r.2.1=5:=by omega
 have mv:q9 o.2.2.1∈path (wOf r) (prog o):=by
  unfold prog
  rw[if_neg k1,if_neg k2,if_neg (by omega),if_neg (by omega),if_neg k5,if_neg k6,if_neg k7,if_neg k8,if_neg k9,if_pos k10]
  unfold qn6
  simp only[path]
  rw[qtu,c5]
  simp only[show ((5:Int) != 5)=false by decide,cond_false,path]
  simp
 have hk:=qlf o.2.2.1 r.1 0
 have hvv:val (q0 r o) (q9 o.2.2.1)=keyF o.2.2.1 r.1 0+1:=by
  unfold val
  rw[hrd _ mv,qblr (by omega)]
  unfold viaW
  by_cases q:0≤keyF o.2.2.1 r.1 0∧keyF o.2.2.1 r.1 0<4∧keyF o.2.2.1 r.1 0<r.2.1 - 1
  ·rw[if_pos q]
  ·rw[if_neg q];omega
 dsimp only
 unfold resP
 rw[if_neg k7,if_pos k10,hvv]
 by_cases q:keyF o.2.2.1 r.1 0+1=0
 ·rw[if_pos q];exact .via3 k10 c5 (by omega)
 ·rw[if_neg q]
  dsimp only
  rw[show keyF o.2.2.1 r.1 0+1 - 1=keyF o.2.2.1 r.1 0 by omega,qbl (by omega) (by omega)]
  exact .via0 k10 c5 (by omega)
end Go.G


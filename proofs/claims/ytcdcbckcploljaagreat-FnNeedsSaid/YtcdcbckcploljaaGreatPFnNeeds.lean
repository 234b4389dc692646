/- The row FnNeeds holds: for all bytes the law returns true and the argument reads as before. No condition. -/
import Derived.Test.YtcdcbckcploljaaGreatAPFnNeeds1
set_option linter.unusedVariables false
set_option linter.unusedSimpArgs false
set_option linter.unusedSectionVars false
namespace Go.G
open Go Go.V
theorem br_t {R:Type} {a b:Option R}:br true a b=a:=rfl
theorem br_f {R:Type} {a b:Option R}:br false a b=b:=rfl
theorem ql {R:Type} {a b:Option R} {p:Prop} [Decidable p] (h:p):br (decide p) a b=a:=by simp[br,h]
theorem qh {R:Type} {a b:Option R} {p:Prop} [Decidable p] (h:¬ p):br (decide p) a b=b:=by simp[br,h]
theorem qc {α R:Type} {a:α} {f:α→Option R}:qd (some a) f=f a:=rfl
theorem qbc2 (x:Int):IntKind.wrap IntKind.i64 x=if x % 18446744073709551616≥9223372036854775808 then x % 18446744073709551616 - 18446744073709551616 else x % 18446744073709551616:=by
 by_cases h:x % 18446744073709551616≥9223372036854775808<;>simp[IntKind.wrap,IntKind.signed,IntKind.bits,h]
theorem qct {x:Int} (h1 : -9223372036854775808≤x) (h2:x≤9223372036854775807):IntKind.wrap IntKind.i64 x=x:=by
 rw[qbc2]
 split<;>omega
def W:Nat:=9223372036854775808
theorem qcp:W=9223372036854775808:=rfl
theorem qgl:qec=274877906944:=rfl
theorem ix {α:Type} {l:List α} {i:Nat} (h:i<l.length):(decide (0≤(i:Int))&&decide ((i:Int)<(l.length:Int)))=true:=by
 simp only[Bool.and_eq_true,decide_eq_true_eq];omega
theorem ixn {α:Type} {l:List α} {i:Int} (h0:0≤i) (h:i<l.length):(decide (0≤i)&&decide (i<(l.length:Int)))=true:=by
 simp only[Bool.and_eq_true,decide_eq_true_eq];omega
theorem qbw {i:Nat} (h:i<9223372036854775807):IntKind.wrap IntKind.i64 ((i:Int)+1)=((i+1:Nat):Int):=by
 rw[qct]<;>omega
theorem qko {α:Type} {l:List α} {i:Nat} {d:α} (h:i<l.length):l.getD i d=l[i]:=by
 simp[List.getD,h]
theorem qrc {α:Type} {l:List α} {i:Nat} (h:i<l.length):l.drop i=l[i]::l.drop (i+1):=List.drop_eq_getElem_cons h
theorem qs5 {α:Type} {l:List α} {i:Nat} (h:¬ i<l.length):l.drop i=[]:=List.drop_eq_nil_of_le (by omega)
def tot:(t:Ty)→t.den→Nat
 | .unit,_=>0
 | .int _,_=>0
 | .bool,_=>0
 | .str,s=>s.size
 | .sl t,xs=>xs.length+(xs.map (tot t)).sum
 | .pair a b,x=>tot a x.1+tot b x.2
def left (t:Ty) (a:t.den) (k:Int):Int:=if (tot t a:Int)≤k then k - tot t a else -1
end Go.G

namespace Go.G
open Go Go.V
end Go.G

namespace Go.G
set_option maxRecDepth 100000
open Go Go.V Go.Proofs
abbrev Pair:=Int×Int×Unit
abbrev Got:=List Pair
abbrev Op3:=Int×Int×Int×Unit
abbrev qca:=Got×List Int×Int×Bool×Unit
abbrev Work:=Got×Int×Bool×Unit
def inR (x a b:Int):Bool:=bif decide (x≥a) then decide (x≤b) else false
theorem qcm {x a b:Int}:inR x a b=true↔a≤x∧x≤b:=by
 unfold inR
 by_cases h:x≥a
 ·rw[decide_eq_true h];simp only[cond_true,decide_eq_true_eq];omega
 ·rw[decide_eq_false h];simp only[cond_false];constructor
  ·intro k;cases k
  ·intro k;omega
theorem qlv {x a b:Int} (h:¬ (a≤x∧x≤b)):inR x a b=false:=by
 cases k:inR x a b
 ·rfl
 ·exact absurd (qcm.1 k) h
def qba (k:Int):Int:=bif inR k 0 3 then k else -1
def qbm (v:Int):Int:=bif inR v 1 6 then IntKind.wrap IntKind.i64 (3+v) else -1
def qbt (c:Int):Int:=bif inR c 0 2 then IntKind.wrap IntKind.i64 (10+c) else -1
def qbg (v:Int):Int:=bif inR v 1 6 then IntKind.wrap IntKind.i64 (13+v) else -1
def qt (v:Int):Int:=bif inR v 1 6 then Int.tmod v 3 else -1
section
variable {X:Ext} (hX:XOk X) {n:Nat}
include hX
theorem q75 (hn:1≤n) (x a b:Int):qms (DD X n) x a b=some ((inR x a b,()),()):=by
 obtain ⟨n,rfl⟩:∃ k,n=k+1:=⟨n - 1,by omega⟩
 rw[qbar hX];rfl
theorem qq7 (hn:1≤n) (x a b:Int):qek (DD X n) x a b=some ((inR x a b,()),()):=by
 obtain ⟨n,rfl⟩:∃ k,n=k+1:=⟨n - 1,by omega⟩
 rw[qbae hX];rfl
theorem qwi (hn:1≤n) (b:Bool) (x:Int):qhz (DD X n) b x=some ((bif b then x else -1,()),()):=by
 obtain ⟨n,rfl⟩:∃ k,n=k+1:=⟨n - 1,by omega⟩
 rw[q6d hX]
 cases b<;>rfl
theorem q5p (hn:2≤n) (x:Int):qfo (DD X n) x=some ((inR x 0 3,()),()):=by
 obtain ⟨n,rfl⟩:∃ k,n=k+1:=⟨n - 1,by omega⟩
 rw[q8m hX]
 simp only[qss,qxv]
 rw[q75 hX (by omega),qc]
theorem qnm (hn:2≤n) (x:Int):qby (DD X n) x=some ((inR x 1 6,()),()):=by
 obtain ⟨n,rfl⟩:∃ k,n=k+1:=⟨n - 1,by omega⟩
 rw[q7g hX]
 simp only[qsu,qyo]
 rw[q75 hX (by omega),qc]
theorem q77 (hn:2≤n) (x:Int):qdn (DD X n) x=some ((inR x 0 2,()),()):=by
 obtain ⟨n,rfl⟩:∃ k,n=k+1:=⟨n - 1,by omega⟩
 rw[q3n hX]
 simp only[qpy,qvh]
 rw[q75 hX (by omega),qc]
theorem q5l (hn:2≤n) (x:Int):qnz (DD X n) x=some ((inR x 0 3,()),()):=by
 obtain ⟨n,rfl⟩:∃ k,n=k+1:=⟨n - 1,by omega⟩
 rw[q7z hX]
 simp only[qt5,qyq]
 rw[qq7 hX (by omega),qc]
theorem qno (hn:2≤n) (x:Int):qef (DD X n) x=some ((inR x 1 6,()),()):=by
 obtain ⟨n,rfl⟩:∃ k,n=k+1:=⟨n - 1,by omega⟩
 rw[q7c hX]
 simp only[qs8,qxz]
 rw[qq7 hX (by omega),qc]
theorem qba0 (hn:2≤n) (x:Int):qoz (DD X n) x=some ((inR x 1 4,()),()):=by
 obtain ⟨n,rfl⟩:∃ k,n=k+1:=⟨n - 1,by omega⟩
 rw[q74 hX]
 simp only[qsx,qxw]
 rw[qq7 hX (by omega),qc]
theorem qjj (hn:1≤n) (x:Int):qe2 (DD X n) x=some ((bif bif bif decide (x=1) then true else decide (x=2) then true else decide (x=5) then true else decide (x=10),()),()):=by
 obtain ⟨n,rfl⟩:∃ k,n=k+1:=⟨n - 1,by omega⟩
 rw[q9r hX];rfl
theorem qdt (hn:1≤n):qbl (DD X n)=some ((13,()),()):=by
 obtain ⟨n,rfl⟩:∃ k,n=k+1:=⟨n - 1,by omega⟩
 rw[q44 hX];rfl
theorem qe0 (hn:1≤n):qb2 (DD X n)=some ((13,()),()):=by
 obtain ⟨n,rfl⟩:∃ k,n=k+1:=⟨n - 1,by omega⟩
 rw[q34 hX];rfl
theorem qdw (hn:3≤n) (x:Int):qcs (DD X n) x=some ((qba x,()),()):=by
 obtain ⟨n,rfl⟩:∃ k,n=k+1:=⟨n - 1,by omega⟩
 rw[q70 hX]
 simp only[qs4,qyk]
 rw[q5p hX (by omega),qc,qwi hX (by omega),qc]
 rfl
theorem qe6 (hn:3≤n) (x:Int):qc8 (DD X n) x=some ((qbm x,()),()):=by
 obtain ⟨n,rfl⟩:∃ k,n=k+1:=⟨n - 1,by omega⟩
 rw[q40 hX]
 simp only[qpc,qvl]
 rw[qnm hX (by omega),qc,qwi hX (by omega),qc]
 rfl
theorem qe3 (hn:3≤n) (x:Int):qc6 (DD X n) x=some ((qbt x,()),()):=by
 obtain ⟨n,rfl⟩:∃ k,n=k+1:=⟨n - 1,by omega⟩
 rw[q4r hX]
 simp only[qqe,qu8]
 rw[q77 hX (by omega),qc,qwi hX (by omega),qc]
 rfl
theorem qgi (hn:3≤n) (x:Int):qcq (DD X n) x=some ((qbg x,()),()):=by
 obtain ⟨n,rfl⟩:∃ k,n=k+1:=⟨n - 1,by omega⟩
 rw[q8f hX]
 simp only[qtv,qx3]
 rw[qnm hX (by omega),qc,qdt hX (by omega),qc,qwi hX (by omega),qc]
 rfl
theorem qg9 (hn:3≤n) (x:Int):qc7 (DD X n) x=some ((qt x,()),()):=by
 obtain ⟨n,rfl⟩:∃ k,n=k+1:=⟨n - 1,by omega⟩
 rw[q4u hX]
 simp only[qpj,qwb]
 rw[qnm hX (by omega),qc]
 unfold qt
 cases inR x 1 6<;>rfl
theorem qee (hn:3≤n) (x:Int):qb7 (DD X n) x=some ((qba x,()),()):=by
 obtain ⟨n,rfl⟩:∃ k,n=k+1:=⟨n - 1,by omega⟩
 rw[q8e hX]
 simp only[qtl,qxx]
 rw[q5l hX (by omega),qc]
 unfold qba
 cases inR x 0 3<;>rfl
theorem qha (hn:3≤n) (x:Int):qb9 (DD X n) x=some ((qbm x,()),()):=by
 obtain ⟨n,rfl⟩:∃ k,n=k+1:=⟨n - 1,by omega⟩
 rw[q42 hX]
 simp only[qqf,qvi]
 rw[qno hX (by omega),qc]
 unfold qbm
 cases inR x 1 6<;>rfl
theorem qiq (hn:3≤n) (x:Int):qd4 (DD X n) x=some ((qbt x,()),()):=by
 obtain ⟨n,rfl⟩:∃ k,n=k+1:=⟨n - 1,by omega⟩
 rw[q4c hX]
 simp only[qp1,qva]
 rw[qq7 hX (by omega),qc]
 unfold qbt
 cases inR x 0 2<;>rfl
theorem qjs (hn:3≤n) (x:Int):qcz (DD X n) x=some ((qbg x,()),()):=by
 obtain ⟨n,rfl⟩:∃ k,n=k+1:=⟨n - 1,by omega⟩
 rw[q7q hX]
 simp only[qto,qyt]
 rw[qno hX (by omega),qc,qe0 hX (by omega),qc]
 unfold qbg
 cases inR x 1 6<;>rfl
theorem qir (hn:3≤n) (x:Int):qb3 (DD X n) x=some ((qt x,()),()):=by
 obtain ⟨n,rfl⟩:∃ k,n=k+1:=⟨n - 1,by omega⟩
 rw[q3v hX]
 simp only[qpw,qvg]
 rw[qno hX (by omega),qc]
 unfold qt
 cases inR x 1 6<;>rfl
end
def rd (at':Int):Got→Int→Bool→Int×Bool
 | [],n,ok=>(n,ok)
 | p::l,n,ok=>if p.1=at' then rd at' l p.2.1 true else rd at' l n ok
theorem qy9 (at':Int) (p:Pair):∀ (l:Got) (n:Int) (ok:Bool),rd at' (l++[p]) n ok=if p.1=at' then (p.2.1,true) else rd at' l n ok
 | [],n,ok=>by simp only[List.nil_append,rd]
 | q::l,n,ok=>by
  simp only[List.cons_append,rd]
  by_cases h:q.1=at'
  ·rw[if_pos h,if_pos h];exact qy9 at' p l _ _
  ·rw[if_neg h,if_neg h];exact qy9 at' p l _ _
def qw (got:Got) (at':Int):Int×Bool:=rd at' got 0 false
theorem qwj (D:Den ctx) (n:Nat) (K:Int→Bool→Option ((Int×Bool×Unit)×Unit)) (got:Got) (hg:got.length≤1048576) (at':Int):∀ (m i:Nat) (v:Int) (ok:Bool),i≤got.length→got.length - i<m→
  qjn D n K m got at' v ok (i:Int)=K (rd at' (got.drop i) v ok).1 (rd at' (got.drop i) v ok).2
 | 0,_,_,_,_,h=>by omega
 | m+1,i,v,ok,hi,hf=>by
  simp only[qjn,qtr]
  by_cases h:i<got.length
  ·rw[ql (by exact_mod_cast h),ix h,br_t,br_t,Int.toNat_natCast,qbw (by omega),qko h,qrc h]
   simp only[rd]
   by_cases e:got[i].1=at'
   ·rw[ql e,if_pos e];exact qwj D n K got hg at' m (i+1) _ _ (by omega) (by omega)
   ·rw[qh e,if_neg e];exact qwj D n K got hg at' m (i+1) _ _ (by omega) (by omega)
  ·rw[qh (by exact_mod_cast h),qs5 h];rfl
theorem q22 (D:Den ctx) (n:Nat) (K0:Int→Bool→Option ((Int×Bool×Unit)×Unit)) (K1:Option ((Int×Bool×Unit)×Unit)) (hK:K0 0 false=K1) (got:Got) (hg:got.length≤1048576) (at':Int):∀ (m k:Nat),k≤got.length→k<m→
  qjp D n K0 K1 m got at' ((k:Int) - 1)=K0 (qw (got.take k) at').1 (qw (got.take k) at').2
 | 0,_,_,h=>by omega
 | m+1,k,hk,hf=>by
  simp only[qjp,qt4]
  cases k with
  | zero=>
   rw[qh (by omega),List.take_zero]
   exact hK.symm
  | succ j=>
   have hj:j<got.length:=by omega
   have e1:(((j+1:Nat):Int) - 1)=(j:Int):=by omega
   have e2:IntKind.wrap IntKind.i64 ((j:Int) - 1)=(j:Int) - 1:=qct (by omega) (by omega)
   rw[e1,ql (by omega),ix hj,br_t,br_t,Int.toNat_natCast,e2,qko hj,List.take_succ_eq_append_getElem hj]
   unfold qw
   rw[qy9]
   by_cases e:got[j].1=at'
   ·rw[ql e,if_pos e]
   ·rw[qh e,if_neg e]
    exact q22 D n K0 K1 hK got hg at' m j (by omega) (by omega)
theorem qdj {X:Ext} (hX:XOk X) {n:Nat} (hn:W+1≤n) (got:Got) (hg:got.length≤1048576) (at':Int):qc2 (DD X n) got at'=some (((qw got at').1,(qw got at').2,()),()):=by
 obtain ⟨n,rfl⟩:∃ k,n=k+1:=⟨n - 1,by omega⟩
 have hW:=qcp
 rw[q92 hX]
 simp only[quw,qux,qrx]
 have e:=qwj (DD X n) n (fun v0_0 v0_1=>qpo (DD X n) n v0_0 v0_1) got hg at' n 0 0 false (Nat.zero_le _) (by omega)
 rw[show ((0:Nat):Int)=0 from rfl] at e
 rw[e];rfl
theorem qdy {X:Ext} (hX:XOk X) {n:Nat} (hn:W+1≤n) (got:Got) (hg:got.length≤1048576) (at':Int):qdc (DD X n) got at'=some (((qw got at').1,(qw got at').2,()),()):=by
 obtain ⟨n,rfl⟩:∃ k,n=k+1:=⟨n - 1,by omega⟩
 have hW:=qcp
 rw[q95 hX]
 simp only[qu4,qu0,qr9]
 rw[qct (by omega) (by omega),q22 (DD X n) n (fun v0_0 v0_1=>qpq (DD X n) n v0_0 v0_1) (qqj (DD X n) n) rfl got hg at' n got.length (Nat.le_refl _) (by omega),List.take_length]
 rfl
end Go.G

namespace Go.G
set_option maxRecDepth 100000
open Go Go.V Go.Proofs
structure Both (got:Got) (a:qca) (w:Work) (k:Nat):Prop where
 g1:a.1=got
 g2:w.1=got
 miss:a.2.2.1=w.2.1
 over:a.2.2.2.1=w.2.2.1
 pl:a.2.1.length≤k
section
variable {X:Ext} (hX:XOk X) {n:Nat} (hn:W+6≤n) {got:Got} (hg:got.length≤1048576)
include hX hn hg
theorem qck {a:qca} {w:Work} {k:Nat} (h:Both got a w k) (hk:k≤1000) (p:Int):∃ (v:Int) (a':qca) (w':Work),qj (DD X n) a p=some ((v,()),(a',()))∧qx (DD X n) w p=some ((v,()),(w',()))∧Both got a' w' (k+1):=by
 obtain ⟨n,rfl⟩:∃ k,n=k+1:=⟨n - 1,by omega⟩
 have hb:=qgl
 obtain ⟨a1,a2,a3,a4,⟨⟩⟩:=a
 obtain ⟨w1,w2,w3,⟨⟩⟩:=w
 obtain ⟨g1,g2,hm,ho,hp⟩:=h
 dsimp only at g1 g2 hm ho hp
 subst g1;subst g2;subst hm;subst ho
 rw[qhn hX,qh7 hX]
 simp only[qfa,qf7,qid,qkm]
 cases a4
 ·rw[br_f,br_f,qdy hX (by omega) w1 hg,qc,qdj hX (by omega) w1 hg,qc]
  dsimp only
  by_cases h0:p<0
  ·rw[decide_eq_true h0]
   cases (qw w1 p).2
   ·exact ⟨_,_,_,rfl,rfl,rfl,rfl,rfl,rfl,by show a2.length≤k+1;omega⟩
   ·exact ⟨_,_,_,rfl,rfl,rfl,rfl,rfl,rfl,by show a2.length≤k+1;omega⟩
  ·rw[decide_eq_false h0]
   cases (qw w1 p).2
   ·exact ⟨_,_,_,rfl,rfl,rfl,rfl,rfl,rfl,by show a2.length≤k+1;omega⟩
   ·refine ⟨_,(w1,a2++[p],a3,false,()),(w1,a3,false,()),?_,rfl,rfl,rfl,rfl,rfl,by simp;exact hp⟩
    rw[Bool.not_true,cond_false,br_f,ql (by omega)]
 ·exact ⟨_,_,_,rfl,rfl,rfl,rfl,rfl,rfl,by show a2.length≤k+1;omega⟩
theorem qjr {a:qca} {w:Work} {k:Nat} (h:Both got a w k) (b:Bool):∃ (a':qca) (w':Work),qv (DD X n) a b=some ((),(a',()))∧qfk (DD X n) w b=some ((),(w',()))∧Both got a' w' k:=by
 obtain ⟨n,rfl⟩:∃ k,n=k+1:=⟨n - 1,by omega⟩
 obtain ⟨a1,a2,a3,a4,⟨⟩⟩:=a
 obtain ⟨w1,w2,w3,⟨⟩⟩:=w
 obtain ⟨g1,g2,hm,ho,hp⟩:=h
 dsimp only at g1 g2 hm ho hp
 subst g1;subst g2;subst hm;subst ho
 rw[qg5 hX,q0e hX]
 exact ⟨_,_,rfl,rfl,rfl,rfl,rfl,rfl,hp⟩
end
theorem qw3 {X:Ext} (hX:XOk X) {n:Nat} (hn:1≤n) {a:qca} (h:a.2.2.2.1=true) (p:Int):qj (DD X n) a p=some ((0,()),(a,())):=by
 obtain ⟨n,rfl⟩:∃ k,n=k+1:=⟨n - 1,by omega⟩
 rw[qhn hX]
 simp only[qfa,qf7]
 rw[h,br_t]
theorem qp2 {X:Ext} (hX:XOk X) (N n:Nat) (hN:3≤N) (K:qca→Option (Unit×qca×Unit)) (l:List Int) (hl:l.length≤2) {a:qca} (h:a.2.2.2.1=true):∀ (m i:Nat),l.length - i<m→
  qc3 (DD X N) n K m l (l.length:Int) (i:Int) a=K a
 | 0,_,h=>by omega
 | m+1,i,hf=>by
  simp only[qc3,qg4]
  by_cases hi:i<l.length
  ·rw[ql (by exact_mod_cast hi),ix hi,br_t,Int.toNat_natCast,qgi hX (by omega),qc]
   dsimp only
   rw[qw3 hX (by omega) h,qc,qbw (by omega)]
   exact qp2 hX N n hN K l hl h m (i+1) (by omega)
  ·rw[qh (by exact_mod_cast hi)]
theorem q7e {X:Ext} (hX:XOk X) (N n:Nat) (hN:W+6≤N) {got:Got} (hg:got.length≤1048576) (KA:qca→Option (Unit×qca×Unit)) (KW:Work→Option (Unit×Work×Unit)) (c v:Int) (l:List Int) (hl:l.length≤2) (hv:v>IntKind.wrap IntKind.i64 (c+1)) :
  ∀ (m i k:Nat) (a:qca) (w:Work),l.length - i<m→i≤l.length→k+(l.length - i)≤100→Both got a w k→∃ (a':qca) (w':Work),qc3 (DD X N) n KA m l (l.length:Int) (i:Int) a=KA a'∧qg0 (DD X N) n KW m c l v (i:Int) w=KW w'∧Both got a' w' 1000
 | 0,_,_,_,_,h,_,_,_=>by omega
 | m+1,i,k,a,w,hf,hil,hk,h=>by
  simp only[qc3,qg4,qg0,qm2]
  by_cases hi:i<l.length
  ·obtain ⟨x,a1,w1,e1,e2,h1⟩:=qck hX (n:=N) hN hg h (by omega) (qbg (l.getD i 0))
   rw[ql (by exact_mod_cast hi),ix hi,br_t,ql (by exact_mod_cast hi),ql hv,br_t,Int.toNat_natCast,qgi hX (by omega),qc,qjs hX (by omega),qc]
   dsimp only
   rw[e1,qc,e2,qc,qbw (by omega)]
   exact q7e hX N n hN hg KA KW c v l hl hv m (i+1) (k+1) a1 w1 (by omega) (by omega) (by omega) h1
  ·rw[qh (by exact_mod_cast hi),qh (by exact_mod_cast hi)]
   exact ⟨a,w,rfl,rfl,h.g1,h.g2,h.miss,h.over,by have:=h.pl;omega⟩
theorem q64 {X:Ext} (hX:XOk X) {n:Nat} (hn:W+8≤n) {got:Got} (hg:got.length≤1048576) {a:qca} {w:Work} {k:Nat} (h:Both got a w k) (hk:k≤50) (c:Int) (l:List Int) (hl:l.length≤2) :
  ∃ (a':qca) (w':Work),qei (DD X n) a c l=some ((),(a',()))∧qje (DD X n) w c l=some ((),(w',()))∧a'.2.2.1=w'.2.1:=by
 obtain ⟨n,rfl⟩:∃ k,n=k+1:=⟨n - 1,by omega⟩
 have hW:=qcp
 rw[qnh hX,q7s hX]
 simp only[qhr,qhs,qgm,qst,qsw,qo6]
 obtain ⟨v,a1,w1,e1,e2,h1⟩:=qck hX (n:=n) (by omega) hg h (by omega) 13
 obtain ⟨a2,w2,e3,_,h2⟩:=qjr hX (n:=n) (by omega) hg h1 (decide (v≤IntKind.wrap IntKind.i64 (c+1)))
 rw[qdt hX (by omega),qc,qe0 hX (by omega),qc]
 dsimp only
 rw[e1,qc,e2,qc]
 dsimp only
 rw[e3,qc]
 dsimp only
 by_cases hv:v>IntKind.wrap IntKind.i64 (c+1)
 ·have h2':Both got a2 w1 (k+1):=by
   obtain ⟨m,rfl⟩:∃ k,n=k+1:=⟨n - 1,by omega⟩
   rw[qg5 hX,decide_eq_false (show ¬ v≤_ by omega)] at e3
   simp only[qi5,qmh,Option.some.injEq,Prod.mk.injEq,true_and,and_true] at e3
   obtain ⟨q1,q2,q3,q4,q5⟩:=h1
   subst e3
   refine ⟨q1,q2,q3,?_,q5⟩
   show (bif a1.2.2.2.1 then true else false)=_
   rw[←q4];cases a1.2.2.2.1<;>rfl
  obtain ⟨a3,w3,r1,r2,r3⟩:=q7e hX n n (by omega) hg (fun v0_0=>qdf (DD X n) n v0_0) (fun v0_0=>qnv (DD X n) n v0_0) c v l hl hv n 0 (k+1) a2 w1 (by omega) (Nat.zero_le _) (by omega) h2'
  rw[show ((0:Nat):Int)=0 from rfl] at r1 r2
  exact ⟨a3,w3,r1,r2,r3.miss⟩
 ·have ho:a2.2.2.2.1=true∧a2.2.2.1=a1.2.2.1:=by
   obtain ⟨m,rfl⟩:∃ k,n=k+1:=⟨n - 1,by omega⟩
   rw[qg5 hX,decide_eq_true (show v≤_ by omega)] at e3
   simp only[qi5,qmh,Option.some.injEq,Prod.mk.injEq,true_and,and_true] at e3
   subst e3
   refine ⟨?_,rfl⟩
   show (bif a1.2.2.2.1 then true else true)=true
   cases a1.2.2.2.1<;>rfl
  have r1:=qp2 hX n n (by omega) (fun v0_0=>qdf (DD X n) n v0_0) l hl ho.1 n 0 (by omega)
  rw[show ((0:Nat):Int)=0 from rfl] at r1
  refine ⟨a2,w1,r1,?_,ho.2.trans h1.miss⟩
  obtain ⟨m,rfl⟩:∃ k,n=k+1:=⟨n - 1,by omega⟩
  simp only[qg0,qm2]
  by_cases h0:(0:Int)<(l.length:Int)
  ·rw[ql h0,qh hv];rfl
  ·rw[qh h0];rfl
end Go.G

namespace Go.G
set_option maxRecDepth 100000
open Go Go.V Go.Proofs
section
variable {X:Ext} (hX:XOk X) {n:Nat} {got:Got} (hg:got.length≤1048576)
include hX hg
theorem qbhc (hn:W+10≤n) {a:qca} {w:Work} {k:Nat} (h:Both got a w k) (hk:k≤10) (o:Op3) (h1:o.1=1) :
  ∃ (a':qca) (w':Work),qcj (DD X n) a o=some ((),(a',()))∧qtb (DD X n) w o=some ((),(w',()))∧a'.2.2.1=w'.2.1:=by
 obtain ⟨n,rfl⟩:∃ k,n=k+1:=⟨n - 1,by omega⟩
 obtain ⟨v1,a1,w1,e1,f1,b1⟩:=qck hX (n:=n) (by omega) hg h (by omega) (qba o.2.1)
 obtain ⟨a2,w2,e2,f2,b2⟩:=qjr hX (n:=n) (by omega) hg b1 (v1 != 0)
 obtain ⟨v3,a3,w3,e3,f3,b3⟩:=qck hX (n:=n) (by omega) hg b2 (by omega) (qbm o.2.2.1)
 obtain ⟨a4,w4,e4,f4,b4⟩:=qjr hX (n:=n) (by omega) hg b3 (v3 != 0)
 obtain ⟨v5,a5,w5,e5,f5,b5⟩:=qck hX (n:=n) (by omega) hg b4 (by omega) (qbt (qt o.2.2.1))
 obtain ⟨a6,w6,e6,f6,b6⟩:=q64 hX (n:=n) (by omega) hg b5 (by omega) o.2.1 [o.2.2.1] (by simp)
 rw[qez hX,q8r hX]
 simp only[qdg,qd5,qtc,qyl]
 simp only[qdw hX (n:=n) (by omega),qee hX (n:=n) (by omega),qe6 hX (n:=n) (by omega),qha hX (n:=n) (by omega),qg9 hX (n:=n) (by omega),qir hX (n:=n) (by omega),qe3 hX (n:=n) (by omega),qiq hX (n:=n) (by omega),qc,e1,f1,e2,f2,e3,f3,e4,f4,e5,f5,e6,f6,ql h1]
 exact ⟨a6,w6,rfl,rfl,b6⟩
theorem qbhi (hn:W+10≤n) {a:qca} {w:Work} {k:Nat} (h:Both got a w k) (hk:k≤10) (o:Op3) (h1:¬ o.1=1) (h2:o.1=2) :
  ∃ (a':qca) (w':Work),qcj (DD X n) a o=some ((),(a',()))∧qt0 (DD X n) w o=some ((),(w',()))∧a'.2.2.1=w'.2.1:=by
 obtain ⟨n,rfl⟩:∃ k,n=k+1:=⟨n - 1,by omega⟩
 obtain ⟨v1,a1,w1,e1,f1,b1⟩:=qck hX (n:=n) (by omega) hg h (by omega) (qba o.2.1)
 obtain ⟨a2,w2,e2,f2,b2⟩:=qjr hX (n:=n) (by omega) hg b1 (bif decide (v1=0) then true else decide (v1=o.2.2.1))
 obtain ⟨v3,a3,w3,e3,f3,b3⟩:=qck hX (n:=n) (by omega) hg b2 (by omega) (qbm o.2.2.1)
 obtain ⟨a4,w4,e4,f4,b4⟩:=qjr hX (n:=n) (by omega) hg b3 (v3 != 0)
 obtain ⟨v5,a5,w5,e5,f5,b5⟩:=qck hX (n:=n) (by omega) hg b4 (by omega) (qbm v1)
 obtain ⟨v6,a6,w6,e6,f6,b6⟩:=qck hX (n:=n) (by omega) hg b5 (by omega) (qbt (qt v1))
 obtain ⟨v7,a7,w7,e7,f7,b7⟩:=qck hX (n:=n) (by omega) hg b6 (by omega) (qbt (qt o.2.2.1))
 obtain ⟨a8,w8,e8,f8,b8⟩:=q64 hX (n:=n) (by omega) hg b7 (by omega) o.2.1 [v1,o.2.2.1] (by simp)
 obtain ⟨a9,w9,e9,f9,b9⟩:=q64 hX (n:=n) (by omega) hg b5 (by omega) o.2.1 [v1,o.2.2.1] (by simp)
 rw[qez hX,q7k hX]
 simp only[qdg,qd5,qs7,qym]
 simp only[qdw hX (n:=n) (by omega),qee hX (n:=n) (by omega),qe6 hX (n:=n) (by omega),qha hX (n:=n) (by omega),qg9 hX (n:=n) (by omega),qir hX (n:=n) (by omega),qe3 hX (n:=n) (by omega),qiq hX (n:=n) (by omega),qc,e1,f1,e2,f2,e3,f3,e4,f4,e5,f5,qh h1,ql h2]
 cases hc:(qt v1 != qt o.2.2.1)
 ·simp only[br_f,e9,f9,qc]
  exact ⟨a9,w9,rfl,rfl,b9⟩
 ·simp only[br_t,e6,f6,e7,f7,e8,f8,qc]
  exact ⟨a8,w8,rfl,rfl,b8⟩
theorem qbhe (hn:W+10≤n) {a:qca} {w:Work} {k:Nat} (h:Both got a w k) (hk:k≤10) (o:Op3) (h1:¬ o.1=1) (h2:¬ o.1=2) :
  ∃ (a':qca) (w':Work),qcj (DD X n) a o=some ((),(a',()))∧qs9 (DD X n) w o=some ((),(w',()))∧a'.2.2.1=w'.2.1:=by
 obtain ⟨n,rfl⟩:∃ k,n=k+1:=⟨n - 1,by omega⟩
 obtain ⟨v1,a1,w1,e1,f1,b1⟩:=qck hX (n:=n) (by omega) hg h (by omega) (qba o.2.1)
 obtain ⟨a2,w2,e2,f2,b2⟩:=qjr hX (n:=n) (by omega) hg b1 (decide (v1=0))
 obtain ⟨v3,a3,w3,e3,f3,b3⟩:=qck hX (n:=n) (by omega) hg b2 (by omega) (qbm v1)
 obtain ⟨v5,a5,w5,e5,f5,b5⟩:=qck hX (n:=n) (by omega) hg b3 (by omega) (qbt (qt v1))
 obtain ⟨a6,w6,e6,f6,b6⟩:=q64 hX (n:=n) (by omega) hg b5 (by omega) o.2.1 [v1] (by simp)
 rw[qez hX,q7t hX]
 simp only[qdg,qd5,qsy,qyv]
 simp only[qdw hX (n:=n) (by omega),qee hX (n:=n) (by omega),qe6 hX (n:=n) (by omega),qha hX (n:=n) (by omega),qg9 hX (n:=n) (by omega),qir hX (n:=n) (by omega),qe3 hX (n:=n) (by omega),qiq hX (n:=n) (by omega),qc,e1,f1,e2,f2,e3,f3,e5,f5,e6,f6,qh h1,qh h2]
 exact ⟨a6,w6,rfl,rfl,b6⟩
theorem q5y (N n:Nat) (hN:W+6≤N) (KA:qca→Option ((qca×Unit)×Unit)) (KW:Work→Option ((Work×Unit)×Unit)):∀ (m i k:Nat) (a:qca) (w:Work),4 - i<m→i≤4→k≤i→Both got a w k→∃ (a':qca) (w':Work),
  qd3 (DD X N) n KA m (i:Int) a=KA a'∧qh6 (DD X N) n KW m (i:Int) w=KW w'∧a'.2.2.1=w'.2.1
 | 0,_,_,_,_,h,_,_,_=>by omega
 | m+1,i,k,a,w,hf,hi,hk,h=>by
  simp only[qd3,qh8,qh6,qr4]
  by_cases h4:(i:Int)<4
  ·obtain ⟨v,a1,w1,e1,f1,b1⟩:=qck hX (n:=N) hN hg h (by omega) (qba (i:Int))
   rw[ql h4,ql h4,qdw hX (by omega),qc,qee hX (by omega),qc]
   dsimp only
   rw[e1,qc,f1,qc,qbw (by omega)]
   exact q5y N n hN KA KW m (i+1) (k+1) a1 w1 (by omega) (by omega) (by omega) b1
  ·rw[qh h4,qh h4]
   exact ⟨a,w,rfl,rfl,h.miss⟩
end
theorem q5i {X:Ext} (hX:XOk X) {n:Nat} (hn:1≤n) (a:qca) (b:Bool):∃ a',qv (DD X n) a b=some ((),(a',()))∧a'.2.2.1=a.2.2.1∧(b=true→a'.2.2.2.1=true)∧(b=false→a'=a):=by
 obtain ⟨n,rfl⟩:∃ k,n=k+1:=⟨n - 1,by omega⟩
 obtain ⟨a1,a2,a3,a4,⟨⟩⟩:=a
 rw[qg5 hX]
 refine ⟨_,rfl,rfl,fun h=>?_,fun h=>?_⟩
 ·subst h;cases a4<;>rfl
 ·subst h;cases a4<;>rfl
theorem q5u {X:Ext} (hX:XOk X) {n:Nat} (hn:W+6≤n) {a a':qca} (hg:a.1.length≤1048576) {p v:Int} (h:qj (DD X n) a p=some ((v,()),(a',()))) :
  (a'.2.2.2.1=true→v=0)∧(a'.2.2.2.1=false→a'.2.2.1=a.2.2.1∧a.2.2.2.1=false):=by
 obtain ⟨n,rfl⟩:∃ k,n=k+1:=⟨n - 1,by omega⟩
 obtain ⟨a1,a2,a3,a4,⟨⟩⟩:=a
 dsimp only at hg
 rw[qhn hX] at h
 simp only[qfa,qf7] at h
 cases a4
 ·rw[br_f,qdy hX (by omega) a1 hg,qc] at h
  dsimp only at h
  cases hc:(bif decide (p<0) then true else !(qw a1 p).2)
  ·rw[hc,br_f] at h
   by_cases hb:a2.length+1≤qec
   ·rw[ql hb] at h
    simp only[Option.some.injEq,Prod.mk.injEq,and_true] at h
    obtain ⟨_,h⟩:=h
    subst h
    exact ⟨(fun k=>nomatch k),fun _=>⟨rfl,rfl⟩⟩
   ·rw[qh hb] at h;cases h
  ·rw[hc,br_t] at h
   simp only[Option.some.injEq,Prod.mk.injEq,and_true] at h
   obtain ⟨h1,h⟩:=h
   subst h
   exact ⟨fun _=>h1.symm,fun k=>nomatch k⟩
 ·rw[br_t] at h
  simp only[Option.some.injEq,Prod.mk.injEq,and_true] at h
  obtain ⟨h1,h⟩:=h
  subst h
  exact ⟨fun _=>h1.symm,fun k=>nomatch k⟩
section
variable {X:Ext} (hX:XOk X) {n:Nat} {got:Got} (hg:got.length≤1048576)
include hX hg
theorem qber (hn:W+8≤n) {a:qca} {w:Work} {k:Nat} (h:Both got a w k) (hk:k≤20) (v:Int) (hz:a.2.2.2.1=true→v=0) (hmi:a.2.2.2.1=false→a.2.2.1 = -1) :
  ∃ (a1 a2:qca) (x:Int) (w':Work),qv (DD X n) a (!inR v 1 6)=some ((),(a1,()))∧qj (DD X n) a1 (qbg v)=some ((x,()),(a2,()))∧
   (if v=0 then w'=w else ∃ y:Int,qx (DD X n) w (qbg v)=some ((y,()),(w',())))∧a2.2.2.1=w'.2.1:=by
 obtain ⟨a1,e1,m1,o1,s1⟩:=q5i hX (n:=n) (by omega) a (!inR v 1 6)
 cases hv:inR v 1 6
 ·rw[hv] at e1 o1 s1
  have ho:=o1 rfl
  refine ⟨a1,a1,0,?_⟩
  by_cases h0:v=0
  ·exact ⟨w,e1,qw3 hX (by omega) ho _,by rw[if_pos h0],m1.trans h.miss⟩
  ·have hov:a.2.2.2.1=false:=by
    cases q:a.2.2.2.1
    ·rfl
    ·exact absurd (hz q) h0
   have hvia:qbg v = -1:=by unfold qbg;rw[hv];rfl
   obtain ⟨n,rfl⟩:∃ k,n=k+1:=⟨n - 1,by omega⟩
   obtain ⟨w1,w2,w3,⟨⟩⟩:=w
   obtain ⟨g1,g2,hm,hoo,hp⟩:=h
   dsimp only at g2 hm hoo
   rw[hov] at hoo
   subst hoo
   refine ⟨(w1,-1,true,()),e1,qw3 hX (by omega) ho _,?_,m1.trans (hmi hov)⟩
   rw[if_neg h0,hvia,qh7 hX]
   simp only[qid,qkm]
   rw[br_f,qdj hX (by omega) w1 (by rw[g2];exact hg),qc]
   refine ⟨0,?_⟩
   dsimp only
   rw[decide_eq_true (show (-1:Int)<0 by decide)]
   cases (qw w1 (-1)).2<;>rfl
 ·rw[hv] at e1 o1 s1
  obtain rfl:=s1 rfl
  obtain ⟨x,a2,w2,e2,f2,b2⟩:=qck hX (n:=n) (by omega) hg h (by omega) (qbg v)
  have h0:¬ v=0:=by
   have:=qcm.1 hv
   omega
  exact ⟨a1,a2,x,w2,e1,e2,by rw[if_neg h0];exact ⟨x,f2⟩,b2.miss⟩
end
end Go.G

namespace Go.G
set_option maxRecDepth 100000
open Go Go.V Go.Proofs
theorem qbch (v:Int):(bif decide (v<1) then true else decide (v>4))=!inR v 1 4:=by
 by_cases h:v<1
 ·rw[decide_eq_true h,qlv (by omega)];rfl
 ·by_cases h4:v>4
  ·rw[decide_eq_false h,decide_eq_true h4,qlv (by omega)];rfl
  ·rw[decide_eq_false h,decide_eq_false h4,qcm.2 (by omega)];rfl
theorem qbfk {X:Ext} (hX:XOk X) {n:Nat} (hn:W+12≤n) (got:Got) (hg:got.length≤1048576) (o:Op3) :
  ∃ (a':qca) (w':Work),qlk (DD X n) o got=some ((a',()),())∧qtk (DD X n) o got=some ((w',()),())∧a'.2.2.1=w'.2.1:=by
 obtain ⟨n,rfl⟩:∃ k,n=k+1:=⟨n - 1,by omega⟩
 have hW:=qcp
 have h0:Both got (got,[],-1,false,()) (got,-1,false,()) 0:=⟨rfl,rfl,rfl,rfl,Nat.le_refl _⟩
 rw[qxr hX,q8q hX]
 simp only[qol,qny,qmb,qt3,qtn,qqi]
 by_cases h1:o.1=1
 ·obtain ⟨a,w,e,f,b⟩:=qbhc hX hg (n:=n) (by omega) h0 (by omega) o h1
  simp only[ql h1,e,f,qc]
  exact ⟨a,w,rfl,rfl,b⟩
 by_cases h2:o.1=2
 ·obtain ⟨a,w,e,f,b⟩:=qbhi hX hg (n:=n) (by omega) h0 (by omega) o h1 h2
  simp only[qh h1,ql h2,e,f,qc]
  exact ⟨a,w,rfl,rfl,b⟩
 by_cases h3:o.1=3
 ·obtain ⟨a,w,e,f,b⟩:=qbhe hX hg (n:=n) (by omega) h0 (by omega) o h1 h2
  simp only[qh h1,qh h2,ql h3,e,f,qc]
  exact ⟨a,w,rfl,rfl,b⟩
 by_cases h4:o.1=4
 ·obtain ⟨v,a,w,e,f,b⟩:=qck hX (n:=n) (by omega) hg h0 (by omega) (qba o.2.1)
  simp only[qh h1,qh h2,qh h3,ql h4,qdw hX (n:=n) (by omega),qee hX (n:=n) (by omega),e,f,qc]
  exact ⟨a,w,rfl,rfl,b.miss⟩
 by_cases h5:o.1=5
 ·obtain ⟨v,a,w,e,f,b⟩:=qck hX (n:=n) (by omega) hg h0 (by omega) (qbm o.2.2.1)
  simp only[qh h1,qh h2,qh h3,qh h4,ql h5,qe6 hX (n:=n) (by omega),qha hX (n:=n) (by omega),e,f,qc]
  exact ⟨a,w,rfl,rfl,b.miss⟩
 by_cases h6:o.1=6
 ·obtain ⟨v,a,w,e,f,b⟩:=qck hX (n:=n) (by omega) hg h0 (by omega) (qbt o.2.1)
  simp only[qh h1,qh h2,qh h3,qh h4,qh h5,ql h6,qe3 hX (n:=n) (by omega),qiq hX (n:=n) (by omega),e,f,qc]
  exact ⟨a,w,rfl,rfl,b.miss⟩
 by_cases h7:o.1=7
 ·obtain ⟨a,w,e,f,b⟩:=q5y hX hg n n (by omega) (fun v0_0=>qkx (DD X n) n v0_0) (fun v0_0=>qob (DD X n) n v0_0) n 0 0 _ _ (by omega) (by omega) (Nat.le_refl _) h0
  rw[show ((0:Nat):Int)=0 from rfl] at e f
  simp only[qh h1,qh h2,qh h3,qh h4,qh h5,qh h6,ql h7,e,f]
  exact ⟨a,w,rfl,rfl,b⟩
 by_cases h8:o.1=8
 ·obtain ⟨v,a,w,e,f,b⟩:=qck hX (n:=n) (by omega) hg h0 (by omega) 13
  simp only[qh h1,qh h2,qh h3,qh h4,qh h5,qh h6,qh h7,ql h8,qdt hX (n:=n) (by omega),qe0 hX (n:=n) (by omega),e,f,qc]
  exact ⟨a,w,rfl,rfl,b.miss⟩
 by_cases h9:o.1=9
 ·obtain ⟨v1,a1,w1,e1,f1,b1⟩:=qck hX (n:=n) (by omega) hg h0 (by omega) 13
  obtain ⟨v1',a1',w1',e1',f1',b1'⟩:=qck hX (n:=n - 1) (by omega) hg h0 (by omega) 13
  obtain ⟨m,rfl⟩:∃ k,n=k+1:=⟨n - 1,by omega⟩
  have mk:∃ (a':qca) (w':Work),(qd (qbl (DD X (m+1))) fun b=>qd (qj (DD X (m+1)) (got,[],-1,false,()) b.1.1) fun b=>qd (qv (DD X (m+1)) b.2.1 (bif decide (b.1.1<1) then true else decide (b.1.1>4))) fun b_1=>qd (qcs (DD X (m+1)) (IntKind.wrap IntKind.i64 (b.1.1 - 1))) fun b=>qd (qj (DD X (m+1)) b_1.2.1 b.1.1) fun b=>qd (qby (DD X (m+1)) b.1.1) fun b_2=>qd (qv (DD X (m+1)) b.2.1 (!b_2.1.1)) fun b_3=>qd (qcq (DD X (m+1)) b.1.1) fun b=>qd (qj (DD X (m+1)) b_3.2.1 b.1.1) fun b=>some ((b.2.1,()),()))=some ((a',()),())∧
    qr3 (DD X (m+1)) (got,-1,false,())=some ((),(w',()))∧a'.2.2.1=w'.2.1:=by
   rw[q6s hX]
   simp only[qr2,qxi]
   rw[qdt hX (by omega),qc,qe0 hX (by omega),qc]
   dsimp only
   have hstep:∀ {a:qca} {w:Work} {k:Nat},Both got a w k→k≤100→∀ p:Int,∃ (v:Int) (a':qca) (w':Work),qj (DD X (m+1)) a p=some ((v,()),(a',()))∧qx (DD X m) w p=some ((v,()),(w',()))∧Both got a' w' (k+1):=by
    intro a w k h hk p
    obtain ⟨v,a',w',e,f,b⟩:=qck hX (n:=m+1) (by omega) hg h (by omega) p
    obtain ⟨v2,a2,w2,e2,f2,b2⟩:=qck hX (n:=m) (by omega) hg h (by omega) p
    have q:qx (DD X (m+1)) w p=qx (DD X m) w p:=by
     obtain ⟨m,rfl⟩:∃ k,m=k+1:=⟨m - 1,by omega⟩
     rw[qh7 hX,qh7 hX]
     simp only[qid,qkm]
     rw[qdj hX (by omega) w.1 (by rw[h.g2];exact hg),qdj hX (by omega) w.1 (by rw[h.g2];exact hg)]
    exact ⟨v,a',w',e,by rw[←q];exact f,b⟩
   obtain ⟨v1,a1,w1,e1,f1,b1⟩:=hstep h0 (by omega) 13
   have k1:=q5u hX (n:=m+1) (by omega) (a:=(got,[],-1,false,())) hg e1
   rw[e1,qc,f1,qc]
   dsimp only
   rw[qbch,qq7 hX (by omega),qc]
   dsimp only
   obtain ⟨a2,w2,e2,f2,b2⟩:=qjr hX (n:=m+1) (by omega) hg b1 (!inR v1 1 4)
   obtain ⟨a2',s1,s2,s3,s4⟩:=q5i hX (n:=m+1) (by omega) a1 (!inR v1 1 4)
   rw[e2] at s1
   simp only[Option.some.injEq,Prod.mk.injEq,true_and,and_true] at s1
   subst s1
   have q2:qfk (DD X m) w1 (!inR v1 1 4)=some ((),(w2,())):=by
    obtain ⟨m,rfl⟩:∃ k,m=k+1:=⟨m - 1,by omega⟩
    rw[q0e hX] at f2 ⊢
    exact f2
   rw[e2,qc,q2,qc]
   dsimp only
   rw[qdw hX (by omega),qc,qee hX (by omega),qc]
   dsimp only
   obtain ⟨v3,a3,w3,e3,f3,b3⟩:=hstep b2 (by omega) (qba (IntKind.wrap IntKind.i64 (v1 - 1)))
   have k3:=q5u hX (n:=m+1) (by omega) (a:=a2) (by rw[b2.g1];exact hg) e3
   have hmi:a3.2.2.2.1=false→a3.2.2.1 = -1:=fun h=>by
    obtain ⟨r1,r2⟩:=k3.2 h
    have hb:(!inR v1 1 4)=false:=by
     cases q:(!inR v1 1 4)
     ·rfl
     ·have:=s3 q;rw[r2] at this;cases this
    have ea:=s4 hb
    subst ea
    exact r1.trans (k1.2 r2).1
   rw[e3,qc,f3,qc]
   dsimp only
   obtain ⟨a4,a5,x,w5,e4,e5,f5,hm⟩:=qber hX hg (n:=m+1) (by omega) b3 (by omega) v3 k3.1 hmi
   rw[qnm hX (by omega),qc]
   dsimp only
   rw[e4,qc]
   dsimp only
   rw[qgi hX (by omega),qc]
   dsimp only
   rw[e5,qc]
   by_cases hv:v3=0
   ·rw[if_pos hv] at f5
    subst f5
    subst hv
    exact ⟨a5,_,rfl,rfl,hm⟩
   ·rw[if_neg hv] at f5
    obtain ⟨y,f5⟩:=f5
    have q:qx (DD X (m+1)) w3 (qbg v3)=qx (DD X m) w3 (qbg v3):=by
     obtain ⟨m,rfl⟩:∃ k,m=k+1:=⟨m - 1,by omega⟩
     rw[qh7 hX,qh7 hX]
     simp only[qid,qkm]
     rw[qdj hX (by omega) w3.1 (by rw[b3.g2];exact hg),qdj hX (by omega) w3.1 (by rw[b3.g2];exact hg)]
    rw[q] at f5
    refine ⟨a5,w5,rfl,?_,hm⟩
    rw[bne_iff_ne.2 hv,br_t,qjs hX (by omega),qc]
    dsimp only
    rw[f5,qc]
  obtain ⟨a,w,e,f,b⟩:=mk
  simp only[qh h1,qh h2,qh h3,qh h4,qh h5,qh h6,qh h7,qh h8,ql h9]
  refine ⟨a,w,e,?_,b⟩
  rw[f,qc]
 by_cases h10:o.1=10
 ·obtain ⟨v1,a1,w1,e1,f1,b1⟩:=qck hX (n:=n) (by omega) hg h0 (by omega) 13
  obtain ⟨a2,w2,e2,f2,b2⟩:=qjr hX (n:=n) (by omega) hg b1 (v1 != 5)
  obtain ⟨v3,a3,w3,e3,f3,b3⟩:=qck hX (n:=n) (by omega) hg b2 (by omega) (qbg o.2.2.1)
  simp only[qh h1,qh h2,qh h3,qh h4,qh h5,qh h6,qh h7,qh h8,qh h9,ql h10,qdt hX (n:=n) (by omega),qe0 hX (n:=n) (by omega),qgi hX (n:=n) (by omega),qjs hX (n:=n) (by omega),e1,f1,e2,f2,e3,f3,qc]
  exact ⟨a3,w3,rfl,rfl,b3.miss⟩
 ·simp only[qh h1,qh h2,qh h3,qh h4,qh h5,qh h6,qh h7,qh h8,qh h9,qh h10]
  exact ⟨_,_,rfl,rfl,rfl⟩
end Go.G

namespace Go.G
set_option maxRecDepth 100000
open Go Go.V Go.Proofs
def hit (got:Got) (p:Int):Bool:=decide (0≤p)&&(qw got p).2
inductive PR where
 | done
 | ask (p:Int) (k:Int→PR)
def run (got:Got):PR→List Int×Int
 | .done=>([],-1)
 | .ask p k=>bif hit got p then (p::(run got (k (qw got p).1)).1,(run got (k (qw got p).1)).2) else ([],p)
theorem qc0 {got:Got} {p:Int} {k:Int→PR} (h:hit got p=false):run got (.ask p k)=([],p):=by
 simp only[run];rw[h];rfl
theorem qdl {got:Got} {p:Int} {k:Int→PR} (h:hit got p=true):run got (.ask p k)=(p::(run got (k (qw got p).1)).1,(run got (k (qw got p).1)).2):=by
 simp only[run];rw[h];rfl
def qwk:List Int→PR
 | []=>.done
 | v::l=>.ask (qbg v) fun _=>qwk l
def qnp (k:Int) (l:List Int):PR:=.ask 13 fun st=>bif decide (st≤IntKind.wrap IntKind.i64 (k+1)) then .done else qwk l
def qy4 (o:Op3):PR:=.ask (qba o.2.1) fun r=>bif r != 0 then .done else .ask (qbm o.2.2.1) fun w=>bif w != 0 then .done else .ask (qbt (qt o.2.2.1)) fun _=>qnp o.2.1 [o.2.2.1]
def qzh (o:Op3):PR:=.ask (qba o.2.1) fun r=>bif (bif decide (r=0) then true else decide (r=o.2.2.1)) then .done else .ask (qbm o.2.2.1) fun w=>bif w != 0 then .done else .ask (qbm r) fun _=>
 bif qt r != qt o.2.2.1 then .ask (qbt (qt r)) fun _=>.ask (qbt (qt o.2.2.1)) fun _=>qnp o.2.1 [r,o.2.2.1] else qnp o.2.1 [r,o.2.2.1]
def qyy (o:Op3):PR:=.ask (qba o.2.1) fun r=>bif decide (r=0) then .done else .ask (qbm r) fun _=>.ask (qbt (qt r)) fun _=>qnp o.2.1 [r]
def qp5:PR:=.ask 13 fun st=>bif (bif decide (st<1) then true else decide (st>4)) then .done else .ask (qba (IntKind.wrap IntKind.i64 (st - 1))) fun r=>bif !inR r 1 6 then .done else .ask (qbg r) fun _=>.done
def qsl (o:Op3):PR:=.ask 13 fun st=>bif st != 5 then .done else .ask (qbg o.2.2.1) fun _=>.done
def q06:PR:=.ask 0 fun _=>.ask 1 fun _=>.ask 2 fun _=>.ask 3 fun _=>.done
def prog (o:Op3):PR:=
 if o.1=1 then qy4 o else if o.1=2 then qzh o else if o.1=3 then qyy o else
 if o.1=4 then .ask (qba o.2.1) fun _=>.done else if o.1=5 then .ask (qbm o.2.2.1) fun _=>.done else if o.1=6 then .ask (qbt o.2.1) fun _=>.done else
 if o.1=7 then q06 else if o.1=8 then .ask 13 fun _=>.done else if o.1=9 then qp5 else if o.1=10 then qsl o else .done
section
variable {X:Ext} (hX:XOk X) {n:Nat} {got:Got}
include hX
theorem qqk (hn:1≤n) (pl:List Int) (m p:Int):qj (DD X n) (got,pl,m,true,()) p=some ((0,()),((got,pl,m,true,()),())):=qw3 hX hn rfl p
theorem qrd (hn:1≤n) (pl:List Int) (m:Int) (o b:Bool):qv (DD X n) (got,pl,m,o,()) b=some ((),((got,pl,m,bif o then true else b,()),())):=by
 obtain ⟨n,rfl⟩:∃ k,n=k+1:=⟨n - 1,by omega⟩
 rw[qg5 hX];rfl
theorem qeb (hn:W+2≤n) (hg:got.length≤1048576) {pl:List Int} (hl:pl.length≤1000) (m:Int) {p:Int} (h:hit got p=true) :
  qj (DD X n) (got,pl,m,false,()) p=some (((qw got p).1,()),((got,pl++[p],m,false,()),())):=by
 obtain ⟨n,rfl⟩:∃ k,n=k+1:=⟨n - 1,by omega⟩
 have hb:=qgl
 unfold hit at h
 simp only[Bool.and_eq_true,decide_eq_true_eq] at h
 rw[qhn hX]
 simp only[qfa,qf7]
 rw[br_f,qdy hX (by omega) got hg,qc]
 dsimp only
 rw[decide_eq_false (by omega:¬ p<0),h.2,Bool.not_true,cond_false,br_f,ql (by omega)]
theorem qdp (hn:W+2≤n) (hg:got.length≤1048576) (pl:List Int) (m:Int) {p:Int} (h:hit got p=false) :
  qj (DD X n) (got,pl,m,false,()) p=some ((0,()),((got,pl,p,true,()),())):=by
 obtain ⟨n,rfl⟩:∃ k,n=k+1:=⟨n - 1,by omega⟩
 unfold hit at h
 rw[qhn hX]
 simp only[qfa,qf7]
 rw[br_f,qdy hX (by omega) got hg,qc]
 dsimp only
 have:(bif decide (p<0) then true else !(qw got p).2)=true:=by
  by_cases h0:p<0
  ·rw[decide_eq_true h0];rfl
  ·rw[decide_eq_false h0]
   rw[decide_eq_true (by omega:0≤p),Bool.true_and] at h
   rw[h];rfl
 rw[this,br_t]
theorem qbfg (N m0:Nat) (hN:W+4≤N) (hg:got.length≤1048576) (K:qca→Option (Unit×qca×Unit)) (l:List Int) (hl:l.length≤2):∀ (m i:Nat) (pl:List Int),l.length - i<m→i≤l.length→pl.length≤20+i→
  ∃ b,qc3 (DD X N) n K m l (l.length:Int) (i:Int) (got,pl,-1,false,())=K (got,pl++(run got (qwk (l.drop i))).1,(run got (qwk (l.drop i))).2,b,())
 | 0,_,_,h,_,_=>by omega
 | m+1,i,pl,hf,hi,hp=>by
  simp only[qc3,qg4]
  by_cases h:i<l.length
  ·rw[ql (by exact_mod_cast h),ix h,br_t,Int.toNat_natCast,qgi hX (by omega),qc,qko h]
   dsimp only
   rw[qrc h]
   simp only[qwk]
   rw[qbw (by omega)]
   cases hh:hit got (qbg l[i])
   ·rw[qdp hX (by omega) hg _ _ hh,qc,qc0 hh]
    dsimp only
    rw[qp2 hX N n (by omega) K l hl (by rfl) m (i+1) (by omega)]
    exact ⟨true,by rw[List.append_nil]⟩
   ·rw[qeb hX (by omega) hg (by omega) _ hh,qc,qdl hh]
    dsimp only
    obtain ⟨b,e⟩:=qbfg N m0 hN hg K l hl m (i+1) (pl++[qbg l[i]]) (by omega) (by omega) (by rw[List.length_append];simp only[List.length_cons,List.length_nil];omega)
    rw[e]
    exact ⟨b,by rw[List.append_assoc];rfl⟩
  ·rw[qh (by exact_mod_cast h),qs5 h]
   exact ⟨false,by simp only[qwk,run];rw[List.append_nil]⟩
theorem q1x (hn:W+6≤n) (hg:got.length≤1048576) {pl:List Int} (hp:pl.length≤10) (c:Int) (l:List Int) (hl:l.length≤2) :
  ∃ b,qei (DD X n) (got,pl,-1,false,()) c l=some ((),((got,pl++(run got (qnp c l)).1,(run got (qnp c l)).2,b,()),())):=by
 obtain ⟨n,rfl⟩:∃ k,n=k+1:=⟨n - 1,by omega⟩
 have hW:=qcp
 rw[qnh hX]
 simp only[qhr,qhs,qgm]
 rw[qdt hX (by omega),qc]
 dsimp only
 unfold qnp
 cases h:hit got 13
 ·rw[qdp hX (by omega) hg _ _ h,qc,qc0 h]
  dsimp only
  rw[qrd hX (by omega),qc]
  dsimp only
  rw[cond_true]
  have e:=qp2 hX n n (by omega) (fun v0_0=>qdf (DD X n) n v0_0) l hl (a:=(got,pl,13,true,())) rfl n 0 (by omega)
  rw[show ((0:Nat):Int)=0 from rfl] at e
  rw[e]
  exact ⟨true,by rw[List.append_nil];rfl⟩
 ·rw[qeb hX (by omega) hg (by omega) _ h,qc,qdl h]
  dsimp only
  rw[qrd hX (by omega),qc]
  dsimp only
  rw[cond_false]
  cases hs:decide ((qw got 13).1≤IntKind.wrap IntKind.i64 (c+1))
  ·rw[cond_false]
   obtain ⟨b,e⟩:=qbfg hX n 0 (by omega) hg (fun v0_0=>qdf (DD X n) n v0_0) l hl n 0 (pl++[13]) (by omega) (by omega) (by rw[List.length_append];simp only[List.length_cons,List.length_nil];omega)
   rw[show ((0:Nat):Int)=0 from rfl,List.drop_zero] at e
   rw[e]
   exact ⟨b,by rw[List.append_assoc];rfl⟩
  ·rw[cond_true]
   have e:=qp2 hX n n (by omega) (fun v0_0=>qdf (DD X n) n v0_0) l hl (a:=(got,pl++[13],-1,true,())) rfl n 0 (by omega)
   rw[show ((0:Nat):Int)=0 from rfl] at e
   rw[e]
   exact ⟨true,rfl⟩
theorem q1d (hn:5≤n) (pl:List Int) (m c:Int) (l:List Int) (hl:l.length≤2) (hW2:W+6≤n):qei (DD X n) (got,pl,m,true,()) c l=some ((),((got,pl,m,true,()),())):=by
 obtain ⟨n,rfl⟩:∃ k,n=k+1:=⟨n - 1,by omega⟩
 have hW:=qcp
 rw[qnh hX]
 simp only[qhr,qhs,qgm]
 rw[qdt hX (by omega),qc]
 dsimp only
 rw[qqk hX (by omega),qc]
 dsimp only
 rw[qrd hX (by omega),qc]
 dsimp only
 rw[cond_true]
 have e:=qp2 hX n n (by omega) (fun v0_0=>qdf (DD X n) n v0_0) l hl (a:=(got,pl,m,true,())) rfl n 0 (by omega)
 rw[show ((0:Nat):Int)=0 from rfl] at e
 rw[e]
 rfl
end
end Go.G

namespace Go.G
set_option maxRecDepth 100000
open Go Go.V Go.Proofs
section
variable {X:Ext} (hX:XOk X) {n:Nat} {got:Got}
include hX
theorem qbeq (hn:W+8≤n) (hg:got.length≤1048576) (K V:Int) :
  ∃ b,qcj (DD X n) (got,[],-1,false,()) (1,K,V,())=some ((),((got,(run got (qy4 (1,K,V,()))).1,(run got (qy4 (1,K,V,()))).2,b,()),())):=by
 obtain ⟨n,rfl⟩:∃ k,n=k+1:=⟨n - 1,by omega⟩
 have hW:=qcp
 have he:=fun pl m p=>qqk hX (n:=n) (got:=got) (by omega) pl m p
 have hs:=fun pl m o b=>qrd hX (n:=n) (got:=got) (by omega) pl m o b
 have hr:=fun x=>qdw hX (n:=n) (by omega) x
 have ho:=fun x=>qe6 hX (n:=n) (by omega) x
 have hc:=fun x=>qe3 hX (n:=n) (by omega) x
 have hk:=fun x=>qg9 hX (n:=n) (by omega) x
 have hwe:=fun pl m c l hl=>q1d hX (n:=n) (got:=got) (by omega) pl m c l hl (by omega)
 rw[qez hX]
 simp only[qdg,qd5]
 rw[hr,qc]
 dsimp only
 unfold qy4
 dsimp only
 cases h1:hit got (qba K)
 ·rw[qdp hX (by omega) hg _ _ h1,qc,qc0 h1]
  dsimp only
  rw[ql trivial]
  simp only[he,hs,ho,hc,hk,qc,cond_true,hwe _ _ _ [V] (by simp)]
  exact ⟨true,rfl⟩
 ·rw[qeb hX (by omega) hg (by simp) _ h1,qc,qdl h1]
  dsimp only
  rw[ql trivial,hs,qc]
  dsimp only
  rw[cond_false]
  cases h2:((qw got (qba K)).1 != 0)
  ·rw[cond_false,ho,qc]
   dsimp only
   cases h3:hit got (qbm V)
   ·rw[qdp hX (by omega) hg _ _ h3,qc,qc0 h3]
    simp only[he,hs,ho,hc,hk,qc,cond_true,hwe _ _ _ [V] (by simp)]
    exact ⟨true,rfl⟩
   ·rw[qeb hX (by omega) hg (by simp) _ h3,qc,qdl h3]
    dsimp only
    rw[hs,qc]
    dsimp only
    rw[cond_false]
    cases h4:((qw got (qbm V)).1 != 0)
    ·rw[cond_false,hk,qc]
     dsimp only
     rw[hc,qc]
     dsimp only
     cases h5:hit got (qbt (qt V))
     ·rw[qdp hX (by omega) hg _ _ h5,qc,qc0 h5]
      simp only[qc,hwe _ _ _ [V] (by simp)]
      exact ⟨true,rfl⟩
     ·rw[qeb hX (by omega) hg (by simp) _ h5,qc,qdl h5]
      dsimp only
      obtain ⟨b,e⟩:=q1x hX (n:=n) (by omega) hg (pl:=[]++[qba K]++[qbm V]++[qbt (qt V)]) (by simp) K [V] (by simp)
      rw[e,qc]
      exact ⟨b,rfl⟩
    ·simp only[he,hs,ho,hc,hk,qc,cond_true,hwe _ _ _ [V] (by simp),run]
     exact ⟨true,rfl⟩
  ·simp only[he,hs,ho,hc,hk,qc,cond_true,hwe _ _ _ [V] (by simp),run]
   exact ⟨true,rfl⟩
theorem qbek (hn:W+8≤n) (hg:got.length≤1048576) (K V:Int) :
  ∃ b,qcj (DD X n) (got,[],-1,false,()) (2,K,V,())=some ((),((got,(run got (qzh (2,K,V,()))).1,(run got (qzh (2,K,V,()))).2,b,()),())):=by
 obtain ⟨n,rfl⟩:∃ k,n=k+1:=⟨n - 1,by omega⟩
 have hW:=qcp
 have he:=fun pl m p=>qqk hX (n:=n) (got:=got) (by omega) pl m p
 have hs:=fun pl m o b=>qrd hX (n:=n) (got:=got) (by omega) pl m o b
 have hr:=fun x=>qdw hX (n:=n) (by omega) x
 have ho:=fun x=>qe6 hX (n:=n) (by omega) x
 have hc:=fun x=>qe3 hX (n:=n) (by omega) x
 have hk:=fun x=>qg9 hX (n:=n) (by omega) x
 have hwe:=fun pl m c a b=>q1d hX (n:=n) (got:=got) (by omega) pl m c [a,b] (by simp) (by omega)
 have hsame:∀ (c:Bool) (x:Option (Unit×qca×Unit)),br c x x=x:=by intro c x;cases c<;>rfl
 rw[qez hX]
 simp only[qdg,qd5]
 rw[hr,qc]
 dsimp only
 unfold qzh
 dsimp only
 cases h1:hit got (qba K)
 ·rw[qdp hX (by omega) hg _ _ h1,qc,qc0 h1]
  dsimp only
  rw[qh (by decide),ql trivial]
  simp only[he,hs,ho,hc,hk,qc,cond_true,hwe,hsame]
  exact ⟨true,rfl⟩
 ·rw[qeb hX (by omega) hg (by simp) _ h1,qc,qdl h1]
  dsimp only
  generalize hv:(qw got (qba K)).1=v
  rw[qh (by decide),ql trivial,hs,qc]
  dsimp only
  rw[cond_false]
  cases h2:(bif decide (v=0) then true else decide (v=V))
  ·rw[cond_false,ho,qc]
   dsimp only
   cases h3:hit got (qbm V)
   ·rw[qdp hX (by omega) hg _ _ h3,qc,qc0 h3]
    simp only[he,hs,ho,hc,hk,qc,cond_true,hwe,hsame]
    exact ⟨true,rfl⟩
   ·rw[qeb hX (by omega) hg (by simp) _ h3,qc,qdl h3]
    dsimp only
    rw[hs,qc]
    dsimp only
    rw[cond_false]
    cases h4:((qw got (qbm V)).1 != 0)
    ·rw[cond_false,ho,qc]
     dsimp only
     cases h5:hit got (qbm v)
     ·rw[qdp hX (by omega) hg _ _ h5,qc,qc0 h5]
      simp only[he,hs,ho,hc,hk,qc,cond_true,hwe,hsame]
      exact ⟨true,rfl⟩
     ·rw[qeb hX (by omega) hg (by simp) _ h5,qc,qdl h5,hk,qc,hk,qc]
      dsimp only
      cases h6:(qt v != qt V)
      ·rw[br_f,cond_false]
       obtain ⟨b,e⟩:=q1x hX (n:=n) (by omega) hg (pl:=[]++[qba K]++[qbm V]++[qbm v]) (by simp) K [v,V] (by simp)
       rw[e,qc]
       exact ⟨b,rfl⟩
      ·rw[br_t,cond_true]
       simp only[qc]
       rw[hc,qc]
       dsimp only
       cases h7:hit got (qbt (qt v))
       ·rw[qdp hX (by omega) hg _ _ h7,qc,qc0 h7]
        simp only[he,hs,ho,hc,hk,qc,cond_true,hwe,hsame]
        exact ⟨true,rfl⟩
       ·rw[qeb hX (by omega) hg (by simp) _ h7,qc,qdl h7]
        simp only[qc]
        rw[hc,qc]
        dsimp only
        cases h8:hit got (qbt (qt V))
        ·rw[qdp hX (by omega) hg _ _ h8,qc,qc0 h8]
         simp only[he,hs,ho,hc,hk,qc,cond_true,hwe,hsame]
         exact ⟨true,rfl⟩
        ·rw[qeb hX (by omega) hg (by simp) _ h8,qc,qdl h8]
         dsimp only
         obtain ⟨b,e⟩:=q1x hX (n:=n) (by omega) hg (pl:=[]++[qba K]++[qbm V]++[qbm v]++[qbt (qt v)]++[qbt (qt V)]) (by simp) K [v,V] (by simp)
         rw[e,qc]
         exact ⟨b,rfl⟩
    ·simp only[he,hs,ho,hc,hk,qc,cond_true,hwe,run,hsame]
     exact ⟨true,rfl⟩
  ·simp only[he,hs,ho,hc,hk,qc,cond_true,hwe,run,hsame]
   exact ⟨true,rfl⟩
theorem qbds (hn:W+8≤n) (hg:got.length≤1048576) (K V:Int) :
  ∃ b,qcj (DD X n) (got,[],-1,false,()) (3,K,V,())=some ((),((got,(run got (qyy (3,K,V,()))).1,(run got (qyy (3,K,V,()))).2,b,()),())):=by
 obtain ⟨n,rfl⟩:∃ k,n=k+1:=⟨n - 1,by omega⟩
 have hW:=qcp
 have he:=fun pl m p=>qqk hX (n:=n) (got:=got) (by omega) pl m p
 have hs:=fun pl m o b=>qrd hX (n:=n) (got:=got) (by omega) pl m o b
 have hr:=fun x=>qdw hX (n:=n) (by omega) x
 have ho:=fun x=>qe6 hX (n:=n) (by omega) x
 have hc:=fun x=>qe3 hX (n:=n) (by omega) x
 have hk:=fun x=>qg9 hX (n:=n) (by omega) x
 have hwe:=fun pl m c a=>q1d hX (n:=n) (got:=got) (by omega) pl m c [a] (by simp) (by omega)
 rw[qez hX]
 simp only[qdg,qd5]
 rw[hr,qc]
 dsimp only
 unfold qyy
 dsimp only
 cases h1:hit got (qba K)
 ·rw[qdp hX (by omega) hg _ _ h1,qc,qc0 h1]
  dsimp only
  rw[qh (by decide),qh (by decide)]
  simp only[he,hs,ho,hc,hk,qc,cond_true,hwe]
  exact ⟨true,rfl⟩
 ·rw[qeb hX (by omega) hg (by simp) _ h1,qc,qdl h1]
  dsimp only
  generalize hv:(qw got (qba K)).1=v
  rw[qh (by decide),qh (by decide),hs,qc]
  dsimp only
  rw[cond_false]
  cases h2:decide (v=0)
  ·rw[cond_false,ho,qc]
   dsimp only
   cases h3:hit got (qbm v)
   ·rw[qdp hX (by omega) hg _ _ h3,qc,qc0 h3]
    simp only[he,hs,ho,hc,hk,qc,cond_true,hwe]
    exact ⟨true,rfl⟩
   ·rw[qeb hX (by omega) hg (by simp) _ h3,qc,qdl h3,hk,qc]
    dsimp only
    rw[hc,qc]
    dsimp only
    cases h5:hit got (qbt (qt v))
    ·rw[qdp hX (by omega) hg _ _ h5,qc,qc0 h5]
     simp only[he,hs,ho,hc,hk,qc,cond_true,hwe]
     exact ⟨true,rfl⟩
    ·rw[qeb hX (by omega) hg (by simp) _ h5,qc,qdl h5]
     dsimp only
     obtain ⟨b,e⟩:=q1x hX (n:=n) (by omega) hg (pl:=[]++[qba K]++[qbm v]++[qbt (qt v)]) (by simp) K [v] (by simp)
     rw[e,qc]
     exact ⟨b,rfl⟩
  ·simp only[he,hs,ho,hc,hk,qc,cond_true,hwe,run]
   exact ⟨true,rfl⟩
end
end Go.G

namespace Go.G
set_option maxRecDepth 100000
open Go Go.V Go.Proofs
section
variable {X:Ext} (hX:XOk X) {n:Nat} {got:Got}
include hX
theorem qy1 (hn:W+2≤n) (hg:got.length≤1048576) (p:Int):∃ b,qd (qj (DD X n) (got,[],-1,false,()) p) (fun b=>some ((b.2.1,()),())) =
  (some (((got,(run got (.ask p fun _=>.done)).1,(run got (.ask p fun _=>.done)).2,b,()),()),()):Option ((qca×Unit)×Unit)):=by
 cases h:hit got p
 ·rw[qdp hX hn hg _ _ h,qc,qc0 h];exact ⟨true,rfl⟩
 ·rw[qeb hX hn hg (by simp) _ h,qc,qdl h];exact ⟨false,rfl⟩
theorem qbc4 (hn:W+2≤n) (hn3:3≤n) (hg:got.length≤1048576):∃ b,
  qd (qbl (DD X n)) (fun b↦
          qd (qj (DD X n) (got,[],-1,false,()) (Prod.fst (Prod.fst b))) fun b↦
           qd
            (qv (DD X n) (Prod.fst (Prod.snd b))
             (bif decide (Prod.fst (Prod.fst b)<1) then true else decide (Prod.fst (Prod.fst b)>4)))
            fun b_1↦
            qd (qcs (DD X n) (IntKind.wrap IntKind.i64 (Prod.fst (Prod.fst b) - 1))) fun b↦
             qd (qj (DD X n) (Prod.fst (Prod.snd b_1)) (Prod.fst (Prod.fst b))) fun b↦
              qd (qby (DD X n) (Prod.fst (Prod.fst b))) fun b_2↦
               qd (qv (DD X n) (Prod.fst (Prod.snd b)) !Prod.fst (Prod.fst b_2)) fun b_3↦
                qd (qcq (DD X n) (Prod.fst (Prod.fst b))) fun b↦
                 qd (qj (DD X n) (Prod.fst (Prod.snd b_3)) (Prod.fst (Prod.fst b))) fun b↦
                  some ((Prod.fst (Prod.snd b),()),()))=(some (((got,(run got qp5).1,(run got qp5).2,b,()),()),()):Option ((qca×Unit)×Unit)):=by
 have he:=fun pl m p=>qqk hX (n:=n) (got:=got) (by omega) pl m p
 have hs:=fun pl m o b=>qrd hX (n:=n) (got:=got) (by omega) pl m o b
 have hr:=fun x=>qdw hX (n:=n) (by omega) x
 have hv:=fun x=>qnm hX (n:=n) (by omega) x
 have hi:=fun x=>qgi hX (n:=n) (by omega) x
 rw[qdt hX (by omega),qc]
 dsimp only
 unfold qp5
 cases h:hit got 13
 ·rw[qdp hX hn hg _ _ h,qc,qc0 h]
  simp only[he,hs,hr,hv,hi,qc,cond_true]
  exact ⟨true,rfl⟩
 ·rw[qeb hX hn hg (by simp) _ h,qc,qdl h]
  dsimp only
  generalize (qw got 13).1=st
  rw[hs,qc]
  dsimp only
  rw[cond_false]
  cases h2:(bif decide (st<1) then true else decide (st>4))
  ·rw[cond_false,hr,qc]
   dsimp only
   cases h3:hit got (qba (IntKind.wrap IntKind.i64 (st - 1)))
   ·rw[qdp hX hn hg _ _ h3,qc,qc0 h3]
    simp only[he,hs,hr,hv,hi,qc,cond_true]
    exact ⟨true,rfl⟩
   ·rw[qeb hX hn hg (by simp) _ h3,qc,qdl h3]
    dsimp only
    generalize (qw got (qba (IntKind.wrap IntKind.i64 (st - 1)))).1=r
    rw[hv,qc]
    dsimp only
    rw[hs,qc]
    dsimp only
    rw[cond_false]
    cases h4:inR r 1 6
    ·simp only[he,hs,hr,hv,hi,qc,Bool.not_false,cond_true,run]
     exact ⟨true,rfl⟩
    ·rw[Bool.not_true,cond_false,hi,qc]
     dsimp only
     cases h5:hit got (qbg r)
     ·rw[qdp hX hn hg _ _ h5,qc,qc0 h5];exact ⟨true,rfl⟩
     ·rw[qeb hX hn hg (by simp) _ h5,qc,qdl h5];exact ⟨false,rfl⟩
  ·simp only[he,hs,hr,hv,hi,qc,cond_true,run]
   exact ⟨true,rfl⟩
theorem qbev (hn:W+2≤n) (hn3:3≤n) (hg:got.length≤1048576) (o:Op3):∃ b,
  qd (qbl (DD X n)) (fun b↦
           qd (qj (DD X n) (got,[],-1,false,()) (Prod.fst (Prod.fst b))) fun b↦
            qd (qv (DD X n) (Prod.fst (Prod.snd b)) (Prod.fst (Prod.fst b) != 5)) fun b↦
             qd (qcq (DD X n) o.2.2.1) fun b_1↦
              qd (qj (DD X n) (Prod.fst (Prod.snd b)) (Prod.fst (Prod.fst b_1))) fun b↦some ((Prod.fst (Prod.snd b),()),())) =
  (some (((got,(run got (qsl o)).1,(run got (qsl o)).2,b,()),()),()):Option ((qca×Unit)×Unit)):=by
 have he:=fun pl m p=>qqk hX (n:=n) (got:=got) (by omega) pl m p
 have hs:=fun pl m o b=>qrd hX (n:=n) (got:=got) (by omega) pl m o b
 have hi:=fun x=>qgi hX (n:=n) (by omega) x
 rw[qdt hX (by omega),qc]
 dsimp only
 unfold qsl
 cases h:hit got 13
 ·rw[qdp hX hn hg _ _ h,qc,qc0 h]
  simp only[he,hs,hi,qc,cond_true]
  exact ⟨true,rfl⟩
 ·rw[qeb hX hn hg (by simp) _ h,qc,qdl h]
  dsimp only
  generalize (qw got 13).1=st
  rw[hs,qc]
  dsimp only
  rw[cond_false]
  cases h2:(st != 5)
  ·rw[cond_false,hi,qc]
   dsimp only
   cases h5:hit got (qbg o.2.2.1)
   ·rw[qdp hX hn hg _ _ h5,qc,qc0 h5];exact ⟨true,rfl⟩
   ·rw[qeb hX hn hg (by simp) _ h5,qc,qdl h5];exact ⟨false,rfl⟩
  ·simp only[he,hs,hi,qc,cond_true,run]
   exact ⟨true,rfl⟩
def qtq:Nat→Nat→PR
 | _,0=>.done
 | i,d+1=>.ask (i:Int) fun _=>qtq (i+1) d
theorem q72 (N n:Nat) (hN:3≤N) (K:qca→Option ((qca×Unit)×Unit)) (pl:List Int) (m0:Int):∀ (m i:Nat),i≤4→4 - i<m→qd3 (DD X N) n K m (i:Int) (got,pl,m0,true,())=K (got,pl,m0,true,())
 | 0,_,_,h=>by omega
 | m+1,i,hi,hf=>by
  simp only[qd3,qh8]
  by_cases h:(i:Int)<4
  ·rw[ql h,qdw hX (by omega),qc]
   dsimp only
   rw[qqk hX (by omega),qc,qbw (by omega)]
   exact q72 N n hN K pl m0 m (i+1) (by omega) (by omega)
  ·rw[qh h]
theorem qbcu (N n:Nat) (hN:W+6≤N) (hN3:3≤N) (hg:got.length≤1048576) (K:qca→Option ((qca×Unit)×Unit)):∀ (m d i:Nat) (pl:List Int),i+d=4→d<m→pl.length≤i→
  ∃ b,qd3 (DD X N) n K m (i:Int) (got,pl,-1,false,())=K (got,pl++(run got (qtq i d)).1,(run got (qtq i d)).2,b,())
 | 0,_,_,_,_,h,_=>by omega
 | m+1,0,i,pl,hi,hf,hp=>by
  simp only[qd3,qh8]
  rw[qh (by omega)]
  exact ⟨false,by simp only[qtq,run];rw[List.append_nil]⟩
 | m+1,d+1,i,pl,hi,hf,hp=>by
  simp only[qd3,qh8]
  have hr:qba (i:Int)=i:=by unfold qba;rw[qcm.2 (by omega)];rfl
  rw[ql (by omega),qdw hX (by omega),qc,hr]
  dsimp only
  simp only[qtq]
  rw[qbw (by omega)]
  cases h:hit got (i:Int)
  ·rw[qdp hX (by omega) hg _ _ h,qc,qc0 h]
   dsimp only
   rw[q72 hX N n hN3 K pl (i:Int) m (i+1) (by omega) (by omega)]
   exact ⟨true,by rw[List.append_nil]⟩
  ·rw[qeb hX (by omega) hg (by omega) _ h,qc,qdl h]
   dsimp only
   obtain ⟨b,e⟩:=qbcu N n hN hN3 hg K m d (i+1) (pl++[(i:Int)]) (by omega) (by omega) (by rw[List.length_append];simp only[List.length_cons,List.length_nil];omega)
   rw[e]
   exact ⟨b,by rw[List.append_assoc];rfl⟩
theorem q0r (hn:W+10≤n) (hg:got.length≤1048576) (o:Op3) :
  ∃ b,qlk (DD X n) o got=some (((got,(run got (prog o)).1,(run got (prog o)).2,b,()),()),()):=by
 obtain ⟨n,rfl⟩:∃ k,n=k+1:=⟨n - 1,by omega⟩
 have hW:=qcp
 obtain ⟨k,K,V,⟨⟩⟩:=o
 rw[qxr hX]
 simp only[qol,qny]
 unfold prog
 dsimp only
 by_cases k1:k=1
 ·subst k1
  obtain ⟨b,e⟩:=qbeq hX (n:=n) (by omega) hg K V
  rw[ql rfl,ql rfl,e,qc,if_pos rfl]
  exact ⟨b,rfl⟩
 rw[qh k1,if_neg k1]
 by_cases k2:k=2
 ·subst k2
  obtain ⟨b,e⟩:=qbek hX (n:=n) (by omega) hg K V
  rw[ql rfl,ql rfl,e,qc,if_pos rfl]
  exact ⟨b,rfl⟩
 rw[qh k2,if_neg k2]
 by_cases k3:k=3
 ·subst k3
  obtain ⟨b,e⟩:=qbds hX (n:=n) (by omega) hg K V
  rw[ql rfl,e,qc,if_pos rfl]
  exact ⟨b,rfl⟩
 rw[qh k3,if_neg k3]
 by_cases k4:k=4
 ·rw[ql k4,if_pos k4,qdw hX (by omega),qc]
  exact qy1 hX (by omega) hg _
 rw[qh k4,if_neg k4]
 by_cases k5:k=5
 ·rw[ql k5,if_pos k5,qe6 hX (by omega),qc]
  exact qy1 hX (by omega) hg _
 rw[qh k5,if_neg k5]
 by_cases k6:k=6
 ·rw[ql k6,if_pos k6,qe3 hX (by omega),qc]
  exact qy1 hX (by omega) hg _
 rw[qh k6,if_neg k6]
 by_cases k7:k=7
 ·rw[ql k7,if_pos k7]
  simp only[qmb]
  obtain ⟨b,e⟩:=qbcu hX n n (by omega) (by omega) hg (fun v0_0=>qkx (DD X n) n v0_0) n 4 0 [] rfl (by omega) (by simp)
  rw[show ((0:Nat):Int)=0 from rfl] at e
  rw[e]
  exact ⟨b,rfl⟩
 rw[qh k7,if_neg k7]
 by_cases k8:k=8
 ·rw[ql k8,if_pos k8,qdt hX (by omega),qc]
  exact qy1 hX (by omega) hg _
 rw[qh k8,if_neg k8]
 by_cases k9:k=9
 ·rw[ql k9,if_pos k9]
  exact qbc4 hX (by omega) (by omega) hg
 rw[qh k9,if_neg k9]
 by_cases k10:k=10
 ·rw[ql k10,if_pos k10]
  exact qbev hX (by omega) (by omega) hg (k,K,V,())
 rw[qh k10,if_neg k10]
 exact ⟨false,rfl⟩
end
end Go.G

namespace Go.G
set_option maxRecDepth 100000
open Go Go.V Go.Proofs
abbrev qbq:=Int×Int×Int×Unit
def bubR {α:Type} (key:α→Int):List α→α→List α
 | [],x=>[x]
 | y::rs,x=>if key x<key y then y::bubR key rs x else x::y::rs
def bub {α:Type} (key:α→Int) (s:List α) (x:α):List α:=(bubR key s.reverse x).reverse
theorem q88 {α:Type} (key:α→Int):∀ (rs:List α) (x:α),(bubR key rs x).length=rs.length+1
 | [],x=>rfl
 | y::rs,x=>by
  simp only[bubR]
  split
  ·simp only[List.length_cons,q88 key rs x]
  ·simp only[List.length_cons]
theorem qy5 {α:Type} (key:α→Int) (s:List α) (x:α):(bub key s x).length=s.length+1:=by
 unfold bub;rw[List.length_reverse,q88,List.length_reverse]
theorem q90 {α:Type} (key:α→Int):∀ (rs:List α) (x z:α),z∈bubR key rs x↔z=x∨z∈rs
 | [],x,z=>by simp[bubR]
 | y::rs,x,z=>by
  simp only[bubR]
  split
  ·simp only[List.mem_cons,q90 key rs x z]
   constructor
   ·rintro (h | h | h)
    ·exact .inr (.inl h)
    ·exact .inl h
    ·exact .inr (.inr h)
   ·rintro (h | h | h)
    ·exact .inr (.inl h)
    ·exact .inl h
    ·exact .inr (.inr h)
  ·simp only[List.mem_cons]
theorem q4w {α:Type} (key:α→Int) (s:List α) (x z:α):z∈bub key s x↔z=x∨z∈s:=by
 unfold bub;rw[List.mem_reverse,q90,List.mem_reverse]
theorem qbcr {α:Type} (key:α→Int) (e:α) (l1:List α) (h1:∀ y∈l1,key y≤key e):∀ (l2:List α),(∀ y∈l2,key e<key y)→bub key (l1++l2.reverse) e=l1++e::l2.reverse
 | [],_=>by
  unfold bub
  rw[List.reverse_nil,List.append_nil]
  cases h:l1.reverse with
  | nil=>
   have:l1=[]:=List.reverse_eq_nil_iff.1 h
   subst this;rfl
  | cons y rs=>
   have hy:y∈l1:=by rw[←List.mem_reverse,h];exact List.mem_cons_self
   simp only[bubR]
   rw[if_neg (by have:=h1 y hy;omega)]
   have:l1=rs.reverse++[y]:=by rw[←List.reverse_reverse l1,h,List.reverse_cons]
   rw[this]
   simp
 | y::l2,h2=>by
  have ih:=qbcr key e l1 h1 l2 (fun z hz=>h2 z (List.mem_cons_of_mem _ hz))
  unfold bub at ih ⊢
  rw[List.reverse_cons,←List.append_assoc,List.reverse_append]
  show (bubR key (y::(l1++l2.reverse).reverse) e).reverse=_
  simp only[bubR]
  rw[if_pos (h2 y List.mem_cons_self),List.reverse_cons,ih]
  simp
theorem qvz {α:Type} (l:List α) (x:α) (t:List α) (d:α):(l++x::t).getD l.length d=x:=by simp[List.getD]
theorem qzd {α:Type} (l:List α) (x y:α) (t:List α):(l++x::t).set l.length y=l++y::t:=by simp
abbrev EntT:Ty:=Ty.pair (Ty.int IntKind.i64) (Ty.pair (Ty.int IntKind.i64) (Ty.pair (Ty.int IntKind.i64) Ty.unit))
def qie (k:Int):Prop:=-1000≤k∧k≤1000
def ekey (e:qbq):Int:=e.1
section
variable {X:Ext} (hX:XOk X) {n:Nat}
include hX
theorem qbgs (hn:1≤n) (a b:qbq) (ha:qie a.1) (hb:qie b.1):qeq ctx (DD X n) (Clo.mk 80 []) [CapV.val EntT a,CapV.val EntT b] (Ty.int IntKind.i64)=some (a.1 - b.1):=by
 obtain ⟨n,rfl⟩:∃ k,n=k+1:=⟨n - 1,by omega⟩
 have h:∀ D:Den ctx,qeq ctx D (Clo.mk 80 []) [CapV.val EntT a,CapV.val EntT b] (Ty.int IntKind.i64)=(qtw D a b).bind fun r=>some r.1.1:=fun D=>by kernel_rfl
 unfold qie at ha hb
 rw[h,q0x hX]
 simp only[qm8,qtg,Option.bind_some]
 rw[qct (by omega) (by omega)]
theorem qbey (hn:1≤n) {a b x y:qbq} (ha:a=x) (hb:b=y) (hx:qie x.1) (hy:qie y.1):qeq ctx (DD X n) (Clo.mk 80 []) [CapV.val EntT a,CapV.val EntT b] (Ty.int IntKind.i64)=some (x.1 - y.1):=by
 subst ha;subst hb;exact qbgs hX hn a b hx hy
theorem q8i (N n:Nat) (hN:1≤N) (K0:Int→Int→Int→List qbq→Option (Unit×List qbq×Unit)) (b i:Int) (x:qbq) (hx:qie x.1):∀ (m:Nat) (rs t:List qbq),rs.length<m→rs.length+t.length≤1000→(∀ e∈rs,qie e.1)→
  qbf (DD X N) n (Clo.mk 80 []) K0 m 0 b i (rs.length:Int) (rs.reverse++x::t)=K0 0 b i ((bubR ekey rs x).reverse++t)
 | 0,_,_,h,_,_=>by omega
 | m+1,[],t,_,_,_=>by
  simp only[qbf,qco]
  rw[qh (by simp)]
  simp[bubR]
 | m+1,y::rs,t,hf,hl,hs=>by
  have hy:=hs y List.mem_cons_self
  have hlen:((y::rs).reverse++x::t).length=rs.length+t.length+2:=by simp;omega
  simp only[List.length_cons] at hf hl
  have e1:((y::rs).length:Int)=((rs.length+1:Nat):Int):=by simp
  have e2:IntKind.wrap IntKind.i64 (((rs.length+1:Nat):Int) - 1)=((rs.length:Nat):Int):=by rw[qct (by omega) (by omega)];omega
  have g1:((y::rs).reverse++x::t).getD (rs.length+1) (0,0,0,())=x:=by
   have:=qvz (y::rs).reverse x t (0,0,0,());rw[List.length_reverse,List.length_cons] at this;exact this
  have g2:((y::rs).reverse++x::t).getD rs.length (0,0,0,())=y:=by
   have:=qvz rs.reverse y (x::t) (0,0,0,());rw[List.length_reverse] at this
   rw[List.reverse_cons,List.append_assoc];exact this
  have s1:((y::rs).reverse++x::t).set (rs.length+1) y=rs.reverse++y::(y::t):=by
   have:=qzd (y::rs).reverse x y t;rw[List.length_reverse,List.length_cons] at this
   rw[this,List.reverse_cons,List.append_assoc];rfl
  have s2:(rs.reverse++y::(y::t)).set rs.length x=rs.reverse++x::(y::t):=by
   have:=qzd rs.reverse y x (y::t);rw[List.length_reverse] at this;exact this
  simp only[qbf,qco]
  rw[e1,e2,ql (by omega),ixn (by omega) (by rw[hlen];omega),br_t,ixn (by omega) (by rw[hlen];omega),br_t]
  simp only[Int.toNat_natCast,List.length_set]
  rw[qbey hX hN g1 g2 hx hy,qc,g1,g2,br_t,br_t,br_t,s1,s2]
  have hl2:(rs.reverse++y::(y::t)).length=rs.length+t.length+2:=by simp;omega
  simp only[bubR]
  by_cases hlt:x.1<y.1
  ·rw[ql (show x.1 - y.1<0 by omega),ixn (by omega) (by rw[hlen];omega),br_t,if_pos (show ekey x<ekey y from hlt)]
   rw[q8i N n hN K0 b i x hx m rs (y::t) (by omega) (by simp only[List.length_cons];omega) (fun e he=>hs e (List.mem_cons_of_mem _ he))]
   rw[List.reverse_cons,List.append_assoc];rfl
  ·rw[qh (show ¬ x.1 - y.1<0 by omega),if_neg (show ¬ ekey x<ekey y from hlt)]
   simp
theorem q5w (N:Nat) (hN:1≤N) (hW:2000≤N) (K0:List qbq→Option (Unit×List qbq×Unit)):∀ (rest s:List qbq) (m:Nat),rest.length<m→s.length+rest.length≤1000→(∀ e∈s,qie e.1)→(∀ e∈rest,qie e.1)→
  qu (DD X N) N (Clo.mk 80 []) K0 m 0 ((s.length+rest.length:Nat):Int) (s.length:Int) (s++rest)=K0 (rest.foldl (bub ekey) s)
 | [],s,0,h,_,_,_=>by omega
 | _::_,s,0,h,_,_,_=>by omega
 | [],s,m+1,_,_,_,_=>by
  simp only[qu,qb0]
  rw[qh (by simp),List.append_nil]
  rfl
 | x::rest,s,m+1,hf,hl,hs,hr=>by
  simp only[List.length_cons] at hf hl
  simp only[qu,qb0,qdo]
  rw[ql (by simp only[List.length_cons];omega)]
  have e:=q8i hX N N hN (fun v0_0 v0_1 v0_2 v0_3=>qce (DD X N) N (Clo.mk 80 []) (qu (DD X N) N (Clo.mk 80 []) K0 m) K0 v0_0 v0_1 v0_2 v0_3)
   ((s.length+(x::rest).length:Nat):Int) (s.length:Int) x (hr x List.mem_cons_self) N s.reverse rest (by rw[List.length_reverse];omega) (by rw[List.length_reverse];omega) (fun e he=>hs e (List.mem_reverse.1 he))
  rw[List.length_reverse,List.reverse_reverse] at e
  rw[e]
  simp only[qce]
  rw[qbw (by omega)]
  have e2:=q5w N hN hW K0 rest (bub ekey s x) m (by omega) (by rw[qy5];omega) (fun z hz=>by
   rcases (q4w ekey s x z).1 hz with h | h
   ·subst h;exact hr _ List.mem_cons_self
   ·exact hs z h) (fun z hz=>hr z (List.mem_cons_of_mem _ hz))
  rw[qy5] at e2
  rw[show s.length+(x::rest).length=s.length+1+rest.length by simp only[List.length_cons];omega]
  exact e2
end
end Go.G

namespace Go.G
set_option maxRecDepth 100000
open Go Go.V Go.Proofs
def ikey (e:Int):Int:=e
theorem qbfn (D:Den ctx) (n:Nat):qbo D n 0=some ((0,()),()):=by kernel_rfl
theorem qbfp (D:Den ctx) (n:Nat):qbo D n 1=some ((1,()),()):=by kernel_rfl
theorem qbgo (D:Den ctx) (n:Nat):qbo D n 2=some ((2,()),()):=by kernel_rfl
theorem qbgp (D:Den ctx) (n:Nat):qbo D n 3=some ((2,()),()):=by kernel_rfl
theorem qbft (D:Den ctx) (n:Nat):qbo D n 4=some ((3,()),()):=by kernel_rfl
theorem qbgg (D:Den ctx) (n:Nat):qbo D n 5=some ((3,()),()):=by kernel_rfl
theorem qbf2 (D:Den ctx) (n:Nat):qbo D n 6=some ((3,()),()):=by kernel_rfl
theorem qbfh (D:Den ctx) (n:Nat):qbo D n 7=some ((3,()),()):=by kernel_rfl
theorem qbfy (D:Den ctx) (n:Nat):qbo D n 8=some ((4,()),()):=by kernel_rfl
theorem qbf8 (D:Den ctx) (n:Nat):qbo D n 9=some ((4,()),()):=by kernel_rfl
theorem qben (D:Den ctx) (n:Nat):qbo D n 10=some ((4,()),()):=by kernel_rfl
theorem qbei (D:Den ctx) (n:Nat):qbo D n 11=some ((4,()),()):=by kernel_rfl
theorem qbe0 (D:Den ctx) (n:Nat):qbo D n 12=some ((4,()),()):=by kernel_rfl
section
variable {X:Ext} (hX:XOk X) {n:Nat}
include hX
theorem qbg9 (hn:2≤n) (a b:Int):qdr (DD X n) a b=some ((decide (a<b),()),()):=by
 obtain ⟨n,rfl⟩:∃ k,n=k+2:=⟨n - 2,by omega⟩
 rw[q4q hX]
 simp only[qqq,qv2]
 rw[q1p hX]
 simp only[qoh,qul,qc]
 rw[show (a != a)=false by simp,br_f]
 rfl
theorem q9m (N n:Nat) (hN:2≤N) (K0:Int→Int→Int→List Int→Option (Unit×List Int×Unit)) (b i:Int) (x:Int) (hx:qie x):∀ (m:Nat) (rs t:List Int),rs.length<m→rs.length+t.length≤1000→(∀ e∈rs,qie e)→
  qbu (DD X N) n K0 m 0 b i (rs.length:Int) (rs.reverse++x::t)=K0 0 b i ((bubR ikey rs x).reverse++t)
 | 0,_,_,h,_,_=>by omega
 | m+1,[],t,_,_,_=>by
  simp only[qbu,qdi]
  rw[qh (by simp)]
  simp[bubR]
 | m+1,y::rs,t,hf,hl,hs=>by
  have hy:=hs y List.mem_cons_self
  have hlen:((y::rs).reverse++x::t).length=rs.length+t.length+2:=by simp;omega
  simp only[List.length_cons] at hf hl
  have e1:((y::rs).length:Int)=((rs.length+1:Nat):Int):=by simp
  have e2:IntKind.wrap IntKind.i64 (((rs.length+1:Nat):Int) - 1)=((rs.length:Nat):Int):=by rw[qct (by omega) (by omega)];omega
  have g1:((y::rs).reverse++x::t).getD (rs.length+1) 0=x:=by
   have:=qvz (y::rs).reverse x t 0;rw[List.length_reverse,List.length_cons] at this;exact this
  have g2:((y::rs).reverse++x::t).getD rs.length 0=y:=by
   have:=qvz rs.reverse y (x::t) 0;rw[List.length_reverse] at this
   rw[List.reverse_cons,List.append_assoc];exact this
  have s1:((y::rs).reverse++x::t).set (rs.length+1) y=rs.reverse++y::(y::t):=by
   have:=qzd (y::rs).reverse x y t;rw[List.length_reverse,List.length_cons] at this
   rw[this,List.reverse_cons,List.append_assoc];rfl
  have s2:(rs.reverse++y::(y::t)).set rs.length x=rs.reverse++x::(y::t):=by
   have:=qzd rs.reverse y x (y::t);rw[List.length_reverse] at this;exact this
  simp only[qbu,qdi]
  rw[e1,e2,ql (by omega),ixn (by omega) (by rw[hlen];omega),br_t,ixn (by omega) (by rw[hlen];omega),br_t]
  simp only[Int.toNat_natCast,List.length_set]
  rw[g1,g2,qbg9 hX hN,qc]
  dsimp only
  rw[br_t,br_t,br_t,s1,s2]
  have hl2:(rs.reverse++y::(y::t)).length=rs.length+t.length+2:=by simp;omega
  simp only[bubR]
  by_cases hlt:x<y
  ·rw[ql (show x<y from hlt),ixn (by omega) (by rw[hlen];omega),br_t,if_pos (show ikey x<ikey y from hlt)]
   rw[q9m N n hN K0 b i x hx m rs (y::t) (by omega) (by simp only[List.length_cons];omega) (fun e he=>hs e (List.mem_cons_of_mem _ he))]
   rw[List.reverse_cons,List.append_assoc];rfl
  ·rw[qh (show ¬ x<y from hlt),if_neg (show ¬ ikey x<ikey y from hlt)]
   simp
theorem q5f (N:Nat) (hN:2≤N) (hW:2000≤N) (K0:List Int→Option (Unit×List Int×Unit)):∀ (rest s:List Int) (m:Nat),rest.length<m→s.length+rest.length≤1000→(∀ e∈s,qie e)→(∀ e∈rest,qie e)→
  q7 (DD X N) N K0 m 0 ((s.length+rest.length:Nat):Int) (s.length:Int) (s++rest)=K0 (rest.foldl (bub ikey) s)
 | [],s,0,h,_,_,_=>by omega
 | _::_,s,0,h,_,_,_=>by omega
 | [],s,m+1,_,_,_,_=>by
  simp only[q7,qcr]
  rw[qh (by simp),List.append_nil]
  rfl
 | x::rest,s,m+1,hf,hl,hs,hr=>by
  simp only[List.length_cons] at hf hl
  simp only[q7,qcr,qeo]
  rw[ql (by simp only[List.length_cons];omega)]
  have e:=q9m hX N N hN (fun v0_0 v0_1 v0_2 v0_3=>qdb (DD X N) N (q7 (DD X N) N K0 m) K0 v0_0 v0_1 v0_2 v0_3)
   ((s.length+(x::rest).length:Nat):Int) (s.length:Int) x (hr x List.mem_cons_self) N s.reverse rest (by rw[List.length_reverse];omega) (by rw[List.length_reverse];omega) (fun e he=>hs e (List.mem_reverse.1 he))
  rw[List.length_reverse,List.reverse_reverse] at e
  rw[e]
  simp only[qdb]
  rw[qbw (by omega)]
  have e2:=q5f N hN hW K0 rest (bub ikey s x) m (by omega) (by rw[qy5];omega) (fun z hz=>by
   rcases (q4w ikey s x z).1 hz with h | h
   ·subst h;exact hr _ List.mem_cons_self
   ·exact hs z h) (fun z hz=>hr z (List.mem_cons_of_mem _ hz))
  rw[qy5] at e2
  rw[show s.length+(x::rest).length=s.length+1+rest.length by simp only[List.length_cons];omega]
  exact e2
theorem qbff (hn:2≤n) (k:Nat) (hk:k≤12):∃ v,qk5 (DD X n) (IntKind.wrap IntKind.u64 (k:Int))=some ((v,()),()):=by
 obtain ⟨n,rfl⟩:∃ k,n=k+2:=⟨n - 2,by omega⟩
 have hw:IntKind.wrap IntKind.u64 (k:Int)=(k:Int):=by
  have:∀ j:Fin 13,IntKind.wrap IntKind.u64 ((j:Nat):Int)=((j:Nat):Int):=by decide +kernel
  exact this ⟨k,by omega⟩
 rw[hw,q2k hX]
 simp only[qn6,que]
 rw[qzl hX]
 have key:∃ v,qbo (DD X n) n (k:Int)=some ((v,()),()):=by
  match k,hk with
  | 0,_=>exact ⟨_,qbfn _ _⟩
  | 1,_=>exact ⟨_,qbfp _ _⟩
  | 2,_=>exact ⟨_,qbgo _ _⟩
  | 3,_=>exact ⟨_,qbgp _ _⟩
  | 4,_=>exact ⟨_,qbft _ _⟩
  | 5,_=>exact ⟨_,qbgg _ _⟩
  | 6,_=>exact ⟨_,qbf2 _ _⟩
  | 7,_=>exact ⟨_,qbfh _ _⟩
  | 8,_=>exact ⟨_,qbfy _ _⟩
  | 9,_=>exact ⟨_,qbf8 _ _⟩
  | 10,_=>exact ⟨_,qben _ _⟩
  | 11,_=>exact ⟨_,qbei _ _⟩
  | 12,_=>exact ⟨_,qbe0 _ _⟩
  | k+13,h=>omega
 obtain ⟨v,e⟩:=key
 rw[e,qc]
 exact ⟨v,rfl⟩
theorem qbgi (hn:W+6≤n) (l:List Int) (hl:l.length≤12) (hs:∀ e∈l,qie e):qgq (DD X n) l=some ((),l.foldl (bub ikey) [],()):=by
 obtain ⟨n,rfl⟩:∃ k,n=k+3:=⟨n - 3,by omega⟩
 have hW:=qcp
 rw[qv8 hX]
 simp only[qji,qnl]
 obtain ⟨v,e⟩:=qbff hX (n:=n+2) (by omega) l.length hl
 rw[e,qc]
 dsimp only
 rw[qrf hX]
 simp only[qgk,qgg,qfz]
 rw[show n+1=n+1 from rfl]
 simp only[qds,qf4]
 rw[qct (by omega) (by omega),ql (by omega),qmn hX]
 simp only[qe7,qe1,qen]
 rw[show IntKind.wrap IntKind.i64 (0+1)=((1:Nat):Int) by decide +kernel]
 cases l with
 | nil=>
  obtain ⟨n,rfl⟩:∃ k,n=k+1:=⟨n - 1,by omega⟩
  simp only[q7,qcr]
  rw[qh (by simp)]
  rfl
 | cons x l=>
  have:=q5f hX n (by omega) (by omega) (fun v0_0=>qeh (DD X n) n v0_0) l [x] n (by simp only[List.length_cons] at hl;omega) (by simp only[List.length_cons,List.length_nil] at hl ⊢;omega) (fun e he=>hs e (by simp only[List.mem_singleton] at he;subst he;exact List.mem_cons_self)) (fun e he=>hs e (List.mem_cons_of_mem _ he))
  simp only[List.length_cons,List.length_nil,Nat.zero_add,List.singleton_append] at this ⊢
  rw[show l.length+1=1+l.length by omega,this]
  rfl
theorem qbgq (hn:W+6≤n) (l:List qbq) (hl:l.length≤12) (hs:∀ e∈l,qie e.1):qcy (DD X n) l (Clo.mk 80 [])=some ((),l.foldl (bub ekey) [],()):=by
 obtain ⟨n,rfl⟩:∃ k,n=k+3:=⟨n - 3,by omega⟩
 have hW:=qcp
 rw[qkh hX]
 simp only[qd2,qfw]
 obtain ⟨v,e⟩:=qbff hX (n:=n+2) (by omega) l.length hl
 rw[e,qc]
 dsimp only
 rw[qmi hX]
 simp only[qes,qer,qej]
 simp only[qcg,qem]
 rw[qct (by omega) (by omega),ql (by omega),qkf hX]
 simp only[qd0,qdz,qdq]
 rw[show IntKind.wrap IntKind.i64 (0+1)=((1:Nat):Int) by decide +kernel]
 cases l with
 | nil=>
  obtain ⟨n,rfl⟩:∃ k,n=k+1:=⟨n - 1,by omega⟩
  simp only[qu,qb0]
  rw[qh (by simp)]
  rfl
 | cons x l=>
  have:=q5w hX n (by omega) (by omega) (fun v0_0=>qde (DD X n) n (Clo.mk 80 []) v0_0) l [x] n (by simp only[List.length_cons] at hl;omega) (by simp only[List.length_cons,List.length_nil] at hl ⊢;omega) (fun e he=>hs e (by simp only[List.mem_singleton] at he;subst he;exact List.mem_cons_self)) (fun e he=>hs e (List.mem_cons_of_mem _ he))
  simp only[List.length_cons,List.length_nil,Nat.zero_add,List.singleton_append] at this ⊢
  rw[show l.length+1=1+l.length by omega,this]
  rfl
end
end Go.G

namespace Go.G
set_option maxRecDepth 100000
open Go Go.V Go.Proofs
def ent (got:Got) (p:Int) (f:Int→Int):List qbq:=bif hit got p then [(p,(qw got p).1,f (qw got p).1,())] else []
theorem qft {got:Got} {p:Int} (h:hit got p=true) (f:Int→Int):ent got p f=[(p,(qw got p).1,f (qw got p).1,())]:=by unfold ent;rw[h];rfl
theorem qqb {got:Got} {p:Int} (h:hit got p=false) (f:Int→Int):ent got p f=[]:=by unfold ent;rw[h];rfl
theorem qfe (got:Got) (p:Int) (f:Int→Int):(ent got p f).length≤1:=by unfold ent;cases hit got p<;>simp
def one (v:Int):Int:=IntKind.wrap IntKind.i64 (v+1)
def less (v:Int):Int:=if IntKind.wrap IntKind.i64 (v - 1)>0 then IntKind.wrap IntKind.i64 (v - 1) else 0
def insS (l:List qbq) (e:qbq):List qbq:=l.takeWhile (fun y=>decide (y.1<e.1))++e::l.dropWhile (fun y=>decide (y.1<e.1))
theorem qng (l:List qbq) (e:qbq):(insS l e).length=l.length+1:=by
 unfold insS
 have:=congrArg List.length (List.takeWhile_append_dropWhile (p:=fun y:qbq=>decide (y.1<e.1)) (l:=l))
 rw[List.length_append] at this ⊢
 rw[List.length_cons]
 omega
theorem q45 (got:Got) (p:Int):(bif decide (p<0) then true else !(qw got p).2)=!hit got p:=by
 unfold hit
 by_cases h:p<0
 ·rw[decide_eq_true h,decide_eq_false (by omega:¬ 0≤p)];rfl
 ·rw[decide_eq_false h,decide_eq_true (by omega:0≤p)];rfl
theorem qbdt (got:Got) (p:Int):(bif !(qw got p).2 then true else decide (p<0))=!hit got p:=by
 unfold hit
 by_cases h:p<0
 ·rw[decide_eq_true h,decide_eq_false (by omega:¬ 0≤p)];cases (qw got p).2<;>rfl
 ·rw[decide_eq_false h,decide_eq_true (by omega:0≤p)];cases (qw got p).2<;>rfl
section
variable {X:Ext} (hX:XOk X) {n:Nat} {got:Got}
include hX
theorem qv0 (hn:W+2≤n) (hg:got.length≤1048576) {out:List qbq} (ho:out.length≤100) (p to:Int):qcl (DD X n) p to 0 got out=some ((),(out++ent got p (fun _=>to)),()):=by
 obtain ⟨n,rfl⟩:∃ k,n=k+1:=⟨n - 1,by omega⟩
 have hb:=qgl
 rw[qm4 hX]
 simp only[qhq,qkd]
 rw[qdy hX (by omega) got hg,qc]
 dsimp only
 rw[q45]
 cases h:hit got p
 ·rw[Bool.not_false,br_t,qqb h,List.append_nil]
 ·rw[Bool.not_true,br_f,qh (by decide),qh (by decide),ql (by omega),qft h]
theorem qbgv (hn:W+2≤n) (hg:got.length≤1048576) {out:List qbq} (ho:out.length≤100) (p to:Int):qcl (DD X n) p to 1 got out=some ((),(out++ent got p one),()):=by
 obtain ⟨n,rfl⟩:∃ k,n=k+1:=⟨n - 1,by omega⟩
 have hb:=qgl
 rw[qm4 hX]
 simp only[qhq,qkd]
 rw[qdy hX (by omega) got hg,qc]
 dsimp only
 rw[q45]
 cases h:hit got p
 ·rw[Bool.not_false,br_t,qqb h,List.append_nil]
 ·rw[Bool.not_true,br_f,ql trivial,ql (by omega),qft h];rfl
theorem qbg1 (hn:W+2≤n) (hg:got.length≤1048576) {out:List qbq} (ho:out.length≤100) (p to:Int):qcl (DD X n) p to (-1) got out=some ((),(out++ent got p less),()):=by
 obtain ⟨n,rfl⟩:∃ k,n=k+1:=⟨n - 1,by omega⟩
 have hb:=qgl
 rw[qm4 hX]
 simp only[qhq,qkd]
 rw[qdy hX (by omega) got hg,qc]
 dsimp only
 rw[q45]
 cases h:hit got p
 ·rw[Bool.not_false,br_t,qqb h,List.append_nil]
 ·rw[Bool.not_true,br_f,qh (by decide),ql trivial,ql (by omega),qft h];rfl
theorem qbbh (D:Den ctx) (n:Nat) (K:List qbq→Int→Int→Int→Int→Option ((List qbq×Unit)×Unit)) (l:List qbq) (hl:l.length≤1000) (p a b:Int):∀ (m:Nat) (l1 l2:List qbq),l=l1++l2→l2.length<m→
  qg2 D n K m l p a b (l1.length:Int)=K l p a b ((l1++l2.takeWhile (fun y=>decide (y.1<p))).length:Int)
 | 0,_,_,_,h=>by omega
 | m+1,l1,[],e,hf=>by
  simp only[qg2,qm3]
  subst e
  rw[qh (by simp)]
  simp
 | m+1,l1,y::l2,e,hf=>by
  simp only[qg2,qm3]
  have hlen:l.length=l1.length+(l2.length+1):=by rw[e,List.length_append,List.length_cons]
  rw[ql (by omega),ixn (by omega) (by omega),br_t]
  have g:l.getD (Int.toNat (l1.length:Int)) (0,0,0,())=y:=by rw[Int.toNat_natCast,e];exact qvz _ _ _ _
  rw[g]
  by_cases h:y.1<p
  ·rw[ql h,qbw (by omega)]
   have:=qbbh D n K l hl p a b m (l1++[y]) l2 (by rw[e,List.append_assoc];rfl) (by simp only[List.length_cons] at hf;omega)
   rw[List.length_append,List.length_singleton] at this
   rw[this,List.takeWhile_cons_of_pos (by exact decide_eq_true h),List.append_assoc]
   rfl
  ·rw[qh h,List.takeWhile_cons_of_neg (by simpa using h),List.append_nil]
theorem qkt (hn:W+2≤n) (hg:got.length≤1048576) {l:List qbq} (hl:l.length≤100) (p a:Int):qbs (DD X n) l got p a=some (((ent got p (fun _=>a)).foldl insS l,()),()):=by
 obtain ⟨n,rfl⟩:∃ k,n=k+1:=⟨n - 1,by omega⟩
 have hb:=qgl
 have hW:=qcp
 rw[q80 hX]
 simp only[qte,qs0,qpi]
 rw[qdj hX (by omega) got hg,qc]
 dsimp only
 rw[qbdt]
 cases h:hit got p
 ·rw[Bool.not_false,br_t,qqb h];rfl
 ·rw[Bool.not_true,br_f,qft h]
  have e:=qbbh hX (DD X n) n (fun v0_0 v0_1 v0_2 v0_3 v0_4=>qk2 (DD X n) n v0_0 v0_1 v0_2 v0_3 v0_4) l (by omega) p a (qw got p).1 n [] l rfl (by omega)
  rw[show (([]:List qbq).length:Int)=0 from rfl,List.nil_append] at e
  rw[e]
  simp only[qk2]
  have hsplit:=List.takeWhile_append_dropWhile (p:=fun y:qbq=>decide (y.1<p)) (l:=l)
  generalize hA:l.takeWhile (fun y:qbq=>decide (y.1<p))=A at hsplit
  generalize hB:l.dropWhile (fun y:qbq=>decide (y.1<p))=B at hsplit
  have hlen:A.length+B.length=l.length:=by rw[←hsplit,List.length_append]
  have t1:l.take A.length=A:=by rw[←hsplit];simp
  have t2:l.drop A.length=B:=by rw[←hsplit];simp
  simp only[Int.toNat_natCast,Int.toNat_zero,List.drop_zero,List.nil_append,t1,List.take_length,t2,List.length_append,List.length_singleton]
  rw[show (decide ((0:Nat)≤0)&&decide ((0:Int)≤(A.length:Int))&&decide ((A.length:Int)≤(l.length:Int)))=true by
   rw[decide_eq_true (by omega:(0:Int)≤(A.length:Int)),decide_eq_true (by omega:(A.length:Int)≤(l.length:Int))];rfl]
  rw[br_t,ql (by omega),ql (by omega)]
  rw[show (decide ((0:Int)≤(A.length:Int))&&decide ((A.length:Int)≤(l.length:Int))&&decide ((l.length:Int)≤(l.length:Int)))=true by
   rw[decide_eq_true (by omega:(0:Int)≤(A.length:Int)),decide_eq_true (by omega:(A.length:Int)≤(l.length:Int)),decide_eq_true (by omega:(l.length:Int)≤(l.length:Int))];rfl]
  rw[br_t,ql (by omega)]
  simp only[List.foldl_cons,List.foldl_nil,insS]
  rw[hA,hB,List.append_assoc]
  rfl
theorem qtx (hn:W+4≤n) (hg:got.length≤1048576) {l:List qbq} (hl:l.length≤100) (p:Int):qe9 (DD X n) l got p=some (((ent got p (fun v=>v)).foldl insS l,()),()):=by
 obtain ⟨n,rfl⟩:∃ k,n=k+1:=⟨n - 1,by omega⟩
 rw[q6y hX]
 simp only[qrm,qxc]
 rw[qdj hX (by omega) got hg,qc]
 dsimp only
 rw[qkt hX (by omega) hg hl,qc]
 rfl
theorem qbfx (hn:1≤n) (a b:Int):qs2 (DD X n) a b=some ((max a b,()),()):=by
 obtain ⟨n,rfl⟩:∃ k,n=k+1:=⟨n - 1,by omega⟩
 rw[q8t hX]
 simp only[qtp,qyw]
 by_cases h:a>b
 ·rw[ql h,Int.max_eq_left (by omega)]
 ·rw[qh h,Int.max_eq_right (by omega)]
theorem q9q (hn:W+4≤n) (hg:got.length≤1048576) {l:List qbq} (hl:l.length≤100) (v by_:Int) :
  qfx (DD X n) l got v by_=some (((ent got (qbt (qt v)) (fun x=>max (IntKind.wrap IntKind.i64 (x+by_)) 0)).foldl insS l,()),()):=by
 obtain ⟨n,rfl⟩:∃ k,n=k+1:=⟨n - 1,by omega⟩
 rw[q55 hX]
 simp only[qsb,qw9]
 rw[qir hX (by omega),qc]
 dsimp only
 rw[qiq hX (by omega),qc]
 dsimp only
 rw[qdj hX (by omega) got hg,qc]
 dsimp only
 rw[qbfx hX (by omega),qc]
 dsimp only
 rw[qkt hX (by omega) hg hl,qc]
 rfl
end
end Go.G

namespace Go.G
set_option maxRecDepth 100000
open Go Go.V Go.Proofs
theorem qvd (k:Int):((0≤k∧k≤3)∧qba k=k)∨(¬ (0≤k∧k≤3)∧qba k = -1):=by
 unfold qba
 by_cases h:0≤k∧k≤3
 ·rw[qcm.2 h];exact .inl ⟨h,rfl⟩
 ·rw[qlv h];exact .inr ⟨h,rfl⟩
theorem qps (v:Int):((1≤v∧v≤6)∧qbm v=3+v)∨(¬ (1≤v∧v≤6)∧qbm v = -1):=by
 unfold qbm
 by_cases h:1≤v∧v≤6
 ·rw[qcm.2 h,cond_true,qct (by omega) (by omega)];exact .inl ⟨h,rfl⟩
 ·rw[qlv h];exact .inr ⟨h,rfl⟩
theorem qlp (v:Int):((1≤v∧v≤6)∧qbg v=13+v)∨(¬ (1≤v∧v≤6)∧qbg v = -1):=by
 unfold qbg
 by_cases h:1≤v∧v≤6
 ·rw[qcm.2 h,cond_true,qct (by omega) (by omega)];exact .inl ⟨h,rfl⟩
 ·rw[qlv h];exact .inr ⟨h,rfl⟩
theorem qqm (c:Int):((0≤c∧c≤2)∧qbt c=10+c)∨(¬ (0≤c∧c≤2)∧qbt c = -1):=by
 unfold qbt
 by_cases h:0≤c∧c≤2
 ·rw[qcm.2 h,cond_true,qct (by omega) (by omega)];exact .inl ⟨h,rfl⟩
 ·rw[qlv h];exact .inr ⟨h,rfl⟩
def Asc (l:List qbq):Prop:=l.Pairwise fun a b=>a.1<b.1
theorem q4m (p:Int):∀ (l:List qbq),Asc l→∀ y∈l.dropWhile (fun y=>decide (y.1<p)),p≤y.1
 | [],_,y,h=>by simp at h
 | x::l,hs,y,h=>by
  have hs2:=List.pairwise_cons.1 hs
  by_cases hx:x.1<p
  ·rw[List.dropWhile_cons_of_pos (by exact decide_eq_true hx)] at h
   exact q4m p l hs2.2 y h
  ·rw[List.dropWhile_cons_of_neg (by simpa using hx)] at h
   rcases List.mem_cons.1 h with h | h
   ·subst h;omega
   ·have:=hs2.1 y h;omega
theorem q3i (p:Int):∀ (l:List qbq),∀ y∈l.takeWhile (fun y=>decide (y.1<p)),y.1<p
 | [],y,h=>by simp at h
 | x::l,y,h=>by
  by_cases hx:x.1<p
  ·rw[List.takeWhile_cons_of_pos (by exact decide_eq_true hx)] at h
   rcases List.mem_cons.1 h with h | h
   ·subst h;exact hx
   ·exact q3i p l y h
  ·rw[List.takeWhile_cons_of_neg (by simpa using hx)] at h;simp at h
theorem q7f (l:List qbq) (e z:qbq):z∈insS l e↔z=e∨z∈l:=by
 unfold insS
 have h:z∈l↔z∈l.takeWhile (fun y=>decide (y.1<e.1))∨z∈l.dropWhile (fun y=>decide (y.1<e.1)):=by
  rw[←List.mem_append,List.takeWhile_append_dropWhile]
 rw[List.mem_append,List.mem_cons,h]
 constructor
 ·rintro (h | h | h)
  ·exact .inr (.inl h)
  ·exact .inl h
  ·exact .inr (.inr h)
 ·rintro (h | h | h)
  ·exact .inr (.inl h)
  ·exact .inl h
  ·exact .inr (.inr h)
theorem qbdx {l:List qbq} (hs:Asc l) {e:qbq} (he:∀ y∈l,y.1≠e.1):Asc (insS l e):=by
 unfold insS
 have hd:∀ y∈l.dropWhile (fun y=>decide (y.1<e.1)),e.1<y.1:=fun y hy=>by
  have h1:=q4m e.1 l hs y hy
  have h2:=he y (List.dropWhile_sublist _ |>.mem hy)
  omega
 have ht:=q3i e.1 l
 refine List.pairwise_append.2 ⟨hs.sublist (List.takeWhile_sublist _),List.pairwise_cons.2 ⟨hd,hs.sublist (List.dropWhile_sublist _)⟩,fun a ha b hb=>?_⟩
 have h1:=ht a ha
 rcases List.mem_cons.1 hb with h | h
 ·subst h;exact h1
 ·have:=hd b h;omega
theorem qbgr {l:List qbq} (hs:Asc l) {e:qbq} (he:∀ y∈l,y.1≠e.1):bub ekey l e=insS l e:=by
 have hd:∀ y∈l.dropWhile (fun y=>decide (y.1<e.1)),e.1<y.1:=fun y hy=>by
  have h1:=q4m e.1 l hs y hy
  have h2:=he y (List.dropWhile_sublist _ |>.mem hy)
  omega
 have ht:=q3i e.1 l
 have:=qbcr ekey e (l.takeWhile (fun y=>decide (y.1<e.1))) (fun y hy=>by have:=ht y hy;unfold ekey;omega) (l.dropWhile (fun y=>decide (y.1<e.1))).reverse (fun y hy=>hd y (List.mem_reverse.1 hy))
 rw[List.reverse_reverse,List.takeWhile_append_dropWhile] at this
 rw[this]
 rfl
def qbbs (l:List qbq):Prop:=l.Pairwise fun a b=>a.1≠b.1
theorem q9l:∀ (L acc:List qbq),Asc acc→qbbs L→(∀ a∈acc,∀ e∈L,a.1≠e.1)→L.foldl (bub ekey) acc=L.foldl insS acc∧Asc (L.foldl insS acc)∧(∀ z,z∈L.foldl insS acc↔z∈acc∨z∈L)∧(L.foldl insS acc).length=acc.length+L.length
 | [],acc,h,_,_=>⟨rfl,h,fun z=>by simp,rfl⟩
 | e::L,acc,h,hL,hx=>by
  have hL2:=List.pairwise_cons.1 hL
  have he:∀ y∈acc,y.1≠e.1:=fun y hy=>hx y hy e List.mem_cons_self
  simp only[List.foldl_cons]
  rw[qbgr h he]
  obtain ⟨r1,r2,r3,r4⟩:=q9l L (insS acc e) (qbdx h he) hL2.2 (fun a ha b hb=>by
   rcases (q7f acc e a).1 ha with q | q
   ·subst q;exact hL2.1 b hb
   ·exact hx a q b (List.mem_cons_of_mem _ hb))
  refine ⟨r1,r2,fun z=>?_,by rw[r4,qng,List.length_cons];omega⟩
  rw[r3 z,q7f,List.mem_cons]
  constructor
  ·rintro ((h | h) | h)
   ·exact .inr (.inl h)
   ·exact .inl h
   ·exact .inr (.inr h)
  ·rintro (h | h | h)
   ·exact .inl (.inr h)
   ·exact .inl (.inl h)
   ·exact .inr h
theorem qik:∀ (L acc:List qbq),(L.foldl insS acc).length=acc.length+L.length
 | [],acc=>rfl
 | e::L,acc=>by rw[List.foldl_cons,qik L,qng,List.length_cons];omega
abbrev Want:=Int×(Int→Int)
def ents (got:Got) (L:List Want):List qbq:=L.flatMap fun p=>ent got p.1 p.2
theorem q0s (got:Got):∀ (L:List Want),(ents got L).length≤L.length
 | []=>Nat.le_refl _
 | p::L=>by
  have h1:=qfe got p.1 p.2
  have h2:=q0s got L
  show ((p::L).flatMap _).length≤_
  rw[List.flatMap_cons,List.length_append,List.length_cons]
  have:(L.flatMap fun p=>ent got p.1 p.2).length≤L.length:=h2
  omega
theorem q9v (got:Got) (L:List Want) (e:qbq):e∈ents got L↔∃ p∈L,hit got p.1=true∧e=(p.1,(qw got p.1).1,p.2 (qw got p.1).1,()):=by
 unfold ents
 rw[List.mem_flatMap]
 constructor
 ·rintro ⟨p,hp,he⟩
  refine ⟨p,hp,?_⟩
  unfold ent at he
  cases h:hit got p.1
  ·rw[h] at he;simp at he
  ·rw[h] at he;simp only[cond_true,List.mem_singleton] at he;exact ⟨rfl,he⟩
 ·rintro ⟨p,hp,h,rfl⟩
  exact ⟨p,hp,by rw[qft h];exact List.mem_singleton.2 rfl⟩
theorem qbbc {got:Got} {p:Int} (h:hit got p=true):0≤p:=by
 unfold hit at h
 simp only[Bool.and_eq_true,decide_eq_true_eq] at h
 exact h.1
theorem q23 (got:Got):∀ (L:List Want),(L.Pairwise fun p q=>0≤p.1→p.1≠q.1)→qbbs (ents got L)
 | [],_=>List.Pairwise.nil
 | p::L,h=>by
  have h2:=List.pairwise_cons.1 h
  have ih:=q23 got L h2.2
  show qbbs ((p::L).flatMap _)
  rw[List.flatMap_cons]
  cases hh:hit got p.1
  ·rw[qqb hh];exact ih
  ·rw[qft hh]
   refine List.pairwise_cons.2 ⟨fun e he=>?_,ih⟩
   obtain ⟨q,hq,_,rfl⟩:=(q9v got L e).1 he
   exact h2.1 q hq (qbbc hh)
theorem qbbw (got:Got) (L:List Want) (h:∀ p∈L,p.1≤19):∀ e∈ents got L,qie e.1:=by
 intro e he
 obtain ⟨p,hp,hh,rfl⟩:=(q9v got L e).1 he
 have h1:=qbbc hh
 have h2:=h p hp
 exact ⟨by show -1000≤p.1;omega,by show p.1≤1000;omega⟩
def chgL (K V held st:Int):List Want:=
 [(qba K,fun _=>V),(13,fun _=>st),(qbm held,fun _=>0),(qbg held,fun _=>0),(qbm V,fun _=>IntKind.wrap IntKind.i64 (K+1)),(qbg V,fun _=>IntKind.wrap IntKind.i64 (K+1))]++
  (bif qt held != qt V then [(qbt (qt held),less),(qbt (qt V),one)] else [])
theorem q9s (K V held st:Int):(chgL K V held st).length≤8:=by
 unfold chgL
 cases qt held != qt V<;>simp
theorem qbgk (K V held st:Int):∀ p∈chgL K V held st,p.1≤19:=by
 have h1:=qvd K
 have h2:=qps held
 have h3:=qps V
 have h4:=qlp held
 have h5:=qlp V
 have h6:=qqm (qt held)
 have h7:=qqm (qt V)
 unfold chgL
 cases qt held != qt V
 ·intro p hp
  simp only[cond_false,List.append_nil,List.mem_cons,List.not_mem_nil,or_false] at hp
  rcases hp with rfl | rfl | rfl | rfl | rfl | rfl<;>dsimp only<;>omega
 ·intro p hp
  simp only[cond_true,List.cons_append,List.nil_append,List.mem_cons,List.not_mem_nil,or_false] at hp
  rcases hp with rfl | rfl | rfl | rfl | rfl | rfl | rfl | rfl<;>dsimp only<;>omega
theorem qbbn {K V held st:Int} (hv:1≤held∧held≤6→held≠V):(chgL K V held st).Pairwise fun p q=>0≤p.1→p.1≠q.1:=by
 have h1:=qvd K
 have h2:=qps held
 have h3:=qps V
 have h4:=qlp held
 have h5:=qlp V
 have h6:=qqm (qt held)
 have h7:=qqm (qt V)
 unfold chgL
 cases hc:qt held != qt V
 ·simp only[cond_false,List.append_nil,List.pairwise_cons,List.mem_cons,List.not_mem_nil,or_false,forall_eq_or_imp,forall_eq,List.Pairwise.nil,and_true,false_implies,implies_true,forall_const]
  refine ⟨⟨?_,?_,?_,?_,?_⟩,⟨?_,?_,?_,?_⟩,⟨?_,?_,?_⟩,⟨?_,?_⟩,?_⟩<;>omega
 ·have hne:qt held≠qt V:=by simpa using hc
  simp only[cond_true,List.cons_append,List.nil_append,List.pairwise_cons,List.mem_cons,List.not_mem_nil,or_false,forall_eq_or_imp,forall_eq,List.Pairwise.nil,and_true,false_implies,implies_true,forall_const]
  refine ⟨⟨?_,?_,?_,?_,?_,?_,?_⟩,⟨?_,?_,?_,?_,?_,?_⟩,⟨?_,?_,?_,?_,?_⟩,⟨?_,?_,?_,?_⟩,⟨?_,?_,?_⟩,⟨?_,?_⟩,?_⟩<;>omega
end Go.G

namespace Go.G
set_option maxRecDepth 100000
open Go Go.V Go.Proofs
def qo1 (got:Got):Prop:=∀ x∈got,-1≤x.2.1∧x.2.1≤1000000
theorem q83 {got:Got}:∀ (l:Got),(∀ x∈l,x∈got)→qo1 got→∀ (p v:Int) (ok:Bool),-1≤v∧v≤1000000→-1≤(rd p l v ok).1∧(rd p l v ok).1≤1000000
 | [],_,_,p,v,ok,h=>h
 | x::l,hl,hg,p,v,ok,h=>by
  simp only[rd]
  split
  ·exact q83 l (fun y hy=>hl y (List.mem_cons_of_mem _ hy)) hg p _ _ (hg x (hl x List.mem_cons_self))
  ·exact q83 l (fun y hy=>hl y (List.mem_cons_of_mem _ hy)) hg p _ _ h
theorem qbem {got:Got} (hg:qo1 got) (p:Int) : -1≤(qw got p).1∧(qw got p).1≤1000000:=q83 got (fun _ h=>h) hg p 0 false (by omega)
theorem qys {got:Got} {p:Int} {f g:Int→Int} (h:f (qw got p).1=g (qw got p).1):ent got p f=ent got p g:=by unfold ent;rw[h]
theorem qbf3 (x:Int):less x=max (IntKind.wrap IntKind.i64 (x + -1)) 0:=by
 unfold less
 rw[show x - 1=x + -1 by omega]
 split
 ·rw[Int.max_eq_left (by omega)]
 ·rw[Int.max_eq_right (by omega)]
theorem qbgy {x:Int} (h : -1≤x∧x≤1000000):one x=max (IntKind.wrap IntKind.i64 (x+1)) 0:=by
 unfold one
 rw[qct (by omega) (by omega),Int.max_eq_left (by omega)]
section
variable {X:Ext} (hX:XOk X) {n:Nat} {got:Got}
include hX
theorem qbdd (hn:W+9≤n) (hg:got.length≤1048576) (k K V held st:Int) :
  ql7 (DD X n) (k,K,V,()) got held st=some (((ents got (chgL K V held st)).foldl (bub ekey) [],()),()):=by
 obtain ⟨n,rfl⟩:∃ k,n=k+1:=⟨n - 1,by omega⟩
 have hW:=qcp
 obtain ⟨E1,h1⟩:∃ E,E=ent got (qba K) (fun _=>V):=⟨_,rfl⟩
 obtain ⟨E2,h2⟩:∃ E,E=ent got 13 (fun _=>st):=⟨_,rfl⟩
 obtain ⟨E3,h3⟩:∃ E,E=ent got (qbm held) (fun _=>0):=⟨_,rfl⟩
 obtain ⟨E4,h4⟩:∃ E,E=ent got (qbg held) (fun _=>0):=⟨_,rfl⟩
 obtain ⟨E5,h5⟩:∃ E,E=ent got (qbm V) (fun _=>IntKind.wrap IntKind.i64 (K+1)):=⟨_,rfl⟩
 obtain ⟨E6,h6⟩:∃ E,E=ent got (qbg V) (fun _=>IntKind.wrap IntKind.i64 (K+1)):=⟨_,rfl⟩
 obtain ⟨E7,h7⟩:∃ E,E=ent got (qbt (qt held)) less:=⟨_,rfl⟩
 obtain ⟨E8,h8⟩:∃ E,E=ent got (qbt (qt V)) one:=⟨_,rfl⟩
 have l1:E1.length≤1:=by rw[h1];exact qfe ..
 have l2:E2.length≤1:=by rw[h2];exact qfe ..
 have l3:E3.length≤1:=by rw[h3];exact qfe ..
 have l4:E4.length≤1:=by rw[h4];exact qfe ..
 have l5:E5.length≤1:=by rw[h5];exact qfe ..
 have l6:E6.length≤1:=by rw[h6];exact qfe ..
 have l7:E7.length≤1:=by rw[h7];exact qfe ..
 have l8:E8.length≤1:=by rw[h8];exact qfe ..
 have hs:=fun l hl hk=>qbgq hX (n:=n) (by omega) l hl hk
 have hlen:=Nat.le_trans (q0s got (chgL K V held st)) (q9s K V held st)
 have hsm:=qbbw got (chgL K V held st) (qbgk K V held st)
 have heq:ents got (chgL K V held st)=bif qt held != qt V then []++E1++E2++E3++E4++E5++E6++E7++E8 else []++E1++E2++E3++E4++E5++E6:=by
  unfold ents chgL
  cases qt held != qt V
  ·simp only[cond_false,List.append_nil,List.flatMap_cons,List.flatMap_nil,List.nil_append,List.append_assoc,←h1,←h2,←h3,←h4,←h5,←h6]
  ·simp only[cond_true,List.cons_append,List.nil_append,List.append_nil,List.flatMap_cons,List.flatMap_nil,List.append_assoc,←h1,←h2,←h3,←h4,←h5,←h6,←h7,←h8]
 rw[q4h hX]
 simp only[qp6,qvu]
 rw[qdw hX (by omega),qc]
 dsimp only
 rw[qv0 hX (by omega) hg (by simp),←h1,qc]
 dsimp only
 rw[qdt hX (by omega),qc]
 dsimp only
 rw[qv0 hX (by omega) hg (by simp only[List.length_append,List.length_nil];omega),←h2,qc]
 dsimp only
 rw[qe6 hX (by omega),qc]
 dsimp only
 rw[qv0 hX (by omega) hg (by simp only[List.length_append,List.length_nil];omega),←h3,qc]
 dsimp only
 rw[qgi hX (by omega),qc]
 dsimp only
 rw[qv0 hX (by omega) hg (by simp only[List.length_append,List.length_nil];omega),←h4,qc]
 dsimp only
 rw[qe6 hX (by omega),qc]
 dsimp only
 rw[qv0 hX (by omega) hg (by simp only[List.length_append,List.length_nil];omega),←h5,qc]
 dsimp only
 rw[qgi hX (by omega),qc]
 dsimp only
 rw[qv0 hX (by omega) hg (by simp only[List.length_append,List.length_nil];omega),←h6,qc]
 dsimp only
 rw[qg9 hX (by omega),qc,qg9 hX (by omega),qc]
 dsimp only
 cases hc:qt held != qt V
 ·rw[hc,cond_false] at heq
  rw[br_f,←heq,hs _ (by omega) hsm,qc]
 ·rw[hc,cond_true] at heq
  rw[br_t]
  simp only[qc]
  rw[qe3 hX (by omega),qc]
  dsimp only
  rw[qbg1 hX (by omega) hg (by simp only[List.length_append,List.length_nil];omega),←h7,qc]
  dsimp only
  rw[qe3 hX (by omega),qc]
  dsimp only
  rw[qbgv hX (by omega) hg (by simp only[List.length_append,List.length_nil];omega),←h8,qc]
  dsimp only
  rw[←heq,hs _ (by omega) hsm,qc]
theorem qbbx (hn:W+7≤n) (hg:got.length≤1048576) (hv:qo1 got) (k K V:Int) (hk:k=3→V=0) :
  qn8 (DD X n) (k,K,V,()) got=some (((ents got (chgL K V (qw got (qba K)).1 (qw got 13).1)).foldl insS [],()),()):=by
 obtain ⟨n,rfl⟩:∃ k,n=k+1:=⟨n - 1,by omega⟩
 have hW:=qcp
 generalize hheld:(qw got (qba K)).1=held
 generalize hst:(qw got 13).1=st
 obtain ⟨E1,h1⟩:∃ E,E=ent got (qba K) (fun _=>V):=⟨_,rfl⟩
 obtain ⟨E2,h2⟩:∃ E,E=ent got 13 (fun _=>st):=⟨_,rfl⟩
 obtain ⟨E3,h3⟩:∃ E,E=ent got (qbm held) (fun _=>0):=⟨_,rfl⟩
 obtain ⟨E4,h4⟩:∃ E,E=ent got (qbg held) (fun _=>0):=⟨_,rfl⟩
 obtain ⟨E5,h5⟩:∃ E,E=ent got (qbm V) (fun _=>IntKind.wrap IntKind.i64 (K+1)):=⟨_,rfl⟩
 obtain ⟨E6,h6⟩:∃ E,E=ent got (qbg V) (fun _=>IntKind.wrap IntKind.i64 (K+1)):=⟨_,rfl⟩
 obtain ⟨E7,h7⟩:∃ E,E=ent got (qbt (qt held)) less:=⟨_,rfl⟩
 obtain ⟨E8,h8⟩:∃ E,E=ent got (qbt (qt V)) one:=⟨_,rfl⟩
 have l1:E1.length≤1:=by rw[h1];exact qfe ..
 have l2:E2.length≤1:=by rw[h2];exact qfe ..
 have l3:E3.length≤1:=by rw[h3];exact qfe ..
 have l4:E4.length≤1:=by rw[h4];exact qfe ..
 have l5:E5.length≤1:=by rw[h5];exact qfe ..
 have l6:E6.length≤1:=by rw[h6];exact qfe ..
 have l7:E7.length≤1:=by rw[h7];exact qfe ..
 have l8:E8.length≤1:=by rw[h8];exact qfe ..
 have e2:ent got 13 (fun v=>v)=E2:=by rw[h2];exact qys hst
 have e7:ent got (qbt (qt held)) (fun x=>max (IntKind.wrap IntKind.i64 (x + -1)) 0)=E7:=by rw[h7];exact qys (qbf3 _).symm
 have e8:ent got (qbt (qt V)) (fun x=>max (IntKind.wrap IntKind.i64 (x+1)) 0)=E8:=by rw[h8];exact qys (qbgy (qbem hv _)).symm
 have heq:(ents got (chgL K V held st)).foldl insS []=bif qt held != qt V then E8.foldl insS (E7.foldl insS (E6.foldl insS (E5.foldl insS (E4.foldl insS (E3.foldl insS (E2.foldl insS (E1.foldl insS [])))))))
   else E6.foldl insS (E5.foldl insS (E4.foldl insS (E3.foldl insS (E2.foldl insS (E1.foldl insS []))))):=by
  unfold ents chgL
  cases qt held != qt V
  ·simp only[cond_false,List.append_nil,List.flatMap_cons,List.flatMap_nil,List.foldl_append,List.foldl_nil,←h1,←h2,←h3,←h4,←h5,←h6]
  ·simp only[cond_true,List.cons_append,List.nil_append,List.flatMap_cons,List.flatMap_nil,List.foldl_append,List.foldl_nil,←h1,←h2,←h3,←h4,←h5,←h6,←h7,←h8]
 have key:∀ L:Option ((List qbq×Unit)×Unit),L=(qd (qb7 (DD X n) K) fun b_1↦
     qd (qbs (DD X n) [] got (Prod.fst (Prod.fst b_1)) V) fun b_2↦
      qd (qb2 (DD X n)) fun b_3↦
       qd (qe9 (DD X n) (Prod.fst (Prod.fst b_2)) got (Prod.fst (Prod.fst b_3))) fun b_4↦
        qd (qb9 (DD X n) held) fun b_5↦
         qd (qbs (DD X n) (Prod.fst (Prod.fst b_4)) got (Prod.fst (Prod.fst b_5)) 0) fun b_6↦
          qd (qcz (DD X n) held) fun b_7↦
           qd (qbs (DD X n) (Prod.fst (Prod.fst b_6)) got (Prod.fst (Prod.fst b_7)) 0) fun b_8↦
            qd (qb9 (DD X n) V) fun b_9↦
             qd
              (qbs (DD X n) (Prod.fst (Prod.fst b_8)) got (Prod.fst (Prod.fst b_9))
               (IntKind.wrap IntKind.i64 (K+1)))
              fun b_10↦
              qd (qcz (DD X n) V) fun b_11↦
               qd
                (qbs (DD X n) (Prod.fst (Prod.fst b_10)) got (Prod.fst (Prod.fst b_11))
                 (IntKind.wrap IntKind.i64 (K+1)))
                fun b_12↦
                qd (qb3 (DD X n) held) fun b_13↦
                 qd (qb3 (DD X n) V) fun b_14↦
                  br (Prod.fst (Prod.fst b_13) != Prod.fst (Prod.fst b_14))
                   (qd (qfx (DD X n) (Prod.fst (Prod.fst b_12)) got held (-1)) fun b↦
                    qd (qfx (DD X n) (Prod.fst (Prod.fst b)) got V 1) fun b↦some ((Prod.fst (Prod.fst b),()),()))
                   (some ((Prod.fst (Prod.fst b_12),()),())))→L=some (((ents got (chgL K V held st)).foldl insS [],()),()):=by
  intro L hL
  rw[hL,heq,qee hX (by omega),qc]
  dsimp only
  rw[qkt hX (by omega) hg (by simp),←h1,qc]
  dsimp only
  rw[qe0 hX (by omega),qc]
  dsimp only
  rw[qtx hX (by omega) hg (by simp only[qik,List.length_nil];omega),e2,qc]
  dsimp only
  rw[qha hX (by omega),qc]
  dsimp only
  rw[qkt hX (by omega) hg (by simp only[qik,List.length_nil];omega),←h3,qc]
  dsimp only
  rw[qjs hX (by omega),qc]
  dsimp only
  rw[qkt hX (by omega) hg (by simp only[qik,List.length_nil];omega),←h4,qc]
  dsimp only
  rw[qha hX (by omega),qc]
  dsimp only
  rw[qkt hX (by omega) hg (by simp only[qik,List.length_nil];omega),←h5,qc]
  dsimp only
  rw[qjs hX (by omega),qc]
  dsimp only
  rw[qkt hX (by omega) hg (by simp only[qik,List.length_nil];omega),←h6,qc]
  dsimp only
  rw[qir hX (by omega),qc,qir hX (by omega),qc]
  dsimp only
  cases hc:qt held != qt V
  ·rw[br_f,cond_false]
  ·rw[br_t,cond_true,q9q hX (by omega) hg (by simp only[qik,List.length_nil];omega),e7,qc]
   dsimp only
   rw[q9q hX (by omega) hg (by simp only[qik,List.length_nil];omega),e8,qc]
 rw[q1u hX]
 simp only[qnx,quk]
 rw[qee hX (by omega),qc]
 rw[qdj hX (by omega) got hg,qc]
 dsimp only
 rw[hheld]
 by_cases h3k:k=3
 ·have hV:=hk h3k
  subst hV
  rw[show (k != 3)=false by simp[h3k],br_f]
  refine key _ ?_
  rw[qee hX (by omega),qc]
 ·rw[show (k != 3)=true by simp[h3k],br_t]
  refine key _ ?_
  rw[qee hX (by omega),qc]
end
end Go.G

namespace Go.G
set_option maxRecDepth 100000
open Go Go.V Go.Proofs
def opOk (o:Op3):Bool:=
 bif decide (o.1=1)||decide (o.1=2) then inR o.2.1 0 3&&inR o.2.2.1 1 6
 else bif decide (o.1=3)||decide (o.1=4) then inR o.2.1 0 3&&decide (o.2.2.1=0)
 else bif decide (o.1=5)||decide (o.1=10) then decide (o.2.1=0)&&inR o.2.2.1 1 6
 else bif decide (o.1=6) then inR o.2.1 0 2&&decide (o.2.2.1=0)
 else bif decide (o.1=7)||(decide (o.1=8)||decide (o.1=9)) then decide (o.2.1=0)&&decide (o.2.2.1=0) else false
def nowP (k V row owner st cnt:Int):Option (Int×List Int):=
 if k=1∧row≠0 then some (1,[]) else
 if k=1∧owner≠0 then some (2,[]) else
 if (k=2∨k=3∨k=4)∧row=0 then some (3,[]) else
 if k=2∧row=V then some (0,[]) else
 if k=2∧owner≠0 then some (2,[]) else
 if k=4 then some (0,[row]) else
 if k=5∧owner=0 then some (3,[]) else
 if k=5 then some (0,[IntKind.wrap IntKind.i64 (owner - 1)]) else
 if k=6 then some (0,[cnt]) else
 if k=8∧st≠0 then some (4,[]) else
 if k=9∧(st<1∨st>4) then some (4,[]) else
 if k=10∧st≠5 then some (4,[]) else none
def qj1:Option (Int×List Int)→(Int×List Int×Unit)×Bool×Unit
 | some x=>((x.1,x.2,()),true,())
 | none=>((0,[],()),false,())
abbrev Plan:=Bool×(Int×List Int×Unit)×List qbq×Unit
def qhp:Option (Int×List Int)→Plan×Bool×Unit
 | some x=>((true,(x.1,x.2,()),[],()),true,())
 | none=>((true,(-1,[],()),[],()),false,())
def qm0 (o:Op3) (got:Got):Option (Int×List Int):=
 nowP o.1 o.2.2.1 (qw got (qba o.2.1)).1 (qw got (qbm o.2.2.1)).1 (qw got 13).1 (qw got (qbt o.2.1)).1
theorem bned (a b:Int):(a != b)=!decide (a=b):=by by_cases h:a=b<;>simp[h]
section
variable {X:Ext} (hX:XOk X) {n:Nat} {got:Got}
include hX
theorem q1m (hn:4≤n) (k K V:Int):qqs (DD X n) (k,K,V,())=some ((opOk (k,K,V,()),()),()):=by
 obtain ⟨n,rfl⟩:∃ k,n=k+1:=⟨n - 1,by omega⟩
 rw[q98 hX]
 simp only[quv,q0d]
 simp only[q5l hX (n:=n) (by omega),qno hX (n:=n) (by omega),qq7 hX (n:=n) (by omega),qba0 hX (n:=n) (by omega),qjj hX (n:=n) (by omega),qc]
 unfold opOk
 dsimp only
 generalize hA:inR K 0 3=A
 generalize hB:inR V 1 6=B
 generalize hC:inR K 0 2=C
 generalize hD:decide (K=0)=D
 generalize hE:decide (V=0)=E
 by_cases h:1≤k∧k≤10
 ·have:k=1∨k=2∨k=3∨k=4∨k=5∨k=6∨k=7∨k=8∨k=9∨k=10:=by omega
  rcases this with rfl | rfl | rfl | rfl | rfl | rfl | rfl | rfl | rfl | rfl<;>cases A<;>cases B<;>cases C<;>cases D<;>cases E<;>rfl
 ·rw[qlv h,Bool.not_false,br_t]
  simp only[decide_eq_false (by omega:¬ k=1),decide_eq_false (by omega:¬ k=2),decide_eq_false (by omega:¬ k=3),decide_eq_false (by omega:¬ k=4),decide_eq_false (by omega:¬ k=5),decide_eq_false (by omega:¬ k=6),decide_eq_false (by omega:¬ k=7),decide_eq_false (by omega:¬ k=8),decide_eq_false (by omega:¬ k=9),decide_eq_false (by omega:¬ k=10),Bool.or_false,cond_false]
theorem q17 (hn:5≤n) (k K V:Int):qqu (DD X n) (k,K,V,())=some ((opOk (k,K,V,()),()),()):=by
 obtain ⟨n,rfl⟩:∃ k,n=k+1:=⟨n - 1,by omega⟩
 rw[q99 hX]
 simp only[quz,q0g]
 simp only[q5p hX (n:=n) (by omega),qnm hX (n:=n) (by omega),q77 hX (n:=n) (by omega),qc]
 unfold opOk
 dsimp only
 generalize hA:inR K 0 3=A
 generalize hB:inR V 1 6=B
 generalize hC:inR K 0 2=C
 generalize hD:decide (K=0)=D
 generalize hE:decide (V=0)=E
 by_cases h:1≤k∧k≤10
 ·have:k=1∨k=2∨k=3∨k=4∨k=5∨k=6∨k=7∨k=8∨k=9∨k=10:=by omega
  rcases this with rfl | rfl | rfl | rfl | rfl | rfl | rfl | rfl | rfl | rfl<;>cases A<;>cases B<;>cases C<;>cases D<;>cases E<;>rfl
 ·simp only[decide_eq_false (by omega:¬ k=1),decide_eq_false (by omega:¬ k=2),decide_eq_false (by omega:¬ k=3),decide_eq_false (by omega:¬ k=4),decide_eq_false (by omega:¬ k=5),decide_eq_false (by omega:¬ k=6),decide_eq_false (by omega:¬ k=7),decide_eq_false (by omega:¬ k=8),decide_eq_false (by omega:¬ k=9),decide_eq_false (by omega:¬ k=10),Bool.or_false,cond_false,br_f]
theorem qbd7 (hn:W+5≤n) (hg:got.length≤1048576) (o:Op3):qr0 (DD X n) o got=some (qj1 (qm0 o got),()):=by
 obtain ⟨n,rfl⟩:∃ k,n=k+1:=⟨n - 1,by omega⟩
 have hW:=qcp
 obtain ⟨k,K,V,⟨⟩⟩:=o
 rw[q6l hX]
 simp only[qrt,qxa]
 simp only[qdw hX (n:=n) (by omega),qe6 hX (n:=n) (by omega),qe3 hX (n:=n) (by omega),qdt hX (n:=n) (by omega),qdy hX (n:=n) (by omega) got hg,qc]
 unfold qm0
 dsimp only
 generalize (qw got (qba K)).1=row
 generalize (qw got (qbm V)).1=owner
 generalize (qw got 13).1=st
 generalize (qw got (qbt K)).1=cnt
 unfold nowP
 by_cases h:1≤k∧k≤10
 ·have:k=1∨k=2∨k=3∨k=4∨k=5∨k=6∨k=7∨k=8∨k=9∨k=10:=by omega
  rcases this with rfl | rfl | rfl | rfl | rfl | rfl | rfl | rfl | rfl | rfl
  ·by_cases r0:row=0<;>by_cases w0:owner=0<;>simp[r0,w0,br,qj1,bned]
  ·by_cases rV:row=V
   ·subst rV;by_cases r0:row=0<;>simp[r0,br,qj1,bned]
   ·by_cases r0:row=0<;>by_cases w0:owner=0<;>simp[r0,rV,w0,br,qj1,bned]
  ·by_cases r0:row=0<;>simp[r0,br,qj1,bned]
  ·by_cases r0:row=0<;>simp[r0,br,qj1,bned]
  ·by_cases w0:owner=0<;>simp[w0,br,qj1,bned]
  ·simp[br,qj1,bned]
  ·simp[br,qj1,bned]
  ·by_cases s0:st=0<;>simp[s0,br,qj1,bned]
  ·by_cases s1:st<1<;>by_cases s4:4<st<;>simp[s1,s4,br,qj1,bned]
  ·by_cases s5:st=5<;>simp[s5,br,qj1,bned]
 ·simp only[decide_eq_false (by omega:¬ k=1),decide_eq_false (by omega:¬ k=2),decide_eq_false (by omega:¬ k=3),decide_eq_false (by omega:¬ k=4),decide_eq_false (by omega:¬ k=5),decide_eq_false (by omega:¬ k=6),decide_eq_false (by omega:¬ k=7),decide_eq_false (by omega:¬ k=8),decide_eq_false (by omega:¬ k=9),decide_eq_false (by omega:¬ k=10),cond_false,br_f]
  have k1:¬ k=1:=by omega
  have k2:¬ k=2:=by omega
  have k3:¬ k=3:=by omega
  have k4:¬ k=4:=by omega
  have k5:¬ k=5:=by omega
  have k6:¬ k=6:=by omega
  have k8:¬ k=8:=by omega
  have k9:¬ k=9:=by omega
  have k10:¬ k=10:=by omega
  simp[k1,k2,k3,k4,k5,k6,k8,k9,k10,qj1]
theorem qbf7 (hn:W+5≤n) (hg:got.length≤1048576) (o:Op3):qsz (DD X n) o got=some (qhp (qm0 o got),()):=by
 obtain ⟨n,rfl⟩:∃ k,n=k+1:=⟨n - 1,by omega⟩
 have hW:=qcp
 obtain ⟨k,K,V,⟨⟩⟩:=o
 rw[q7m hX]
 simp only[qt1,qx4]
 simp only[qee hX (n:=n) (by omega),qha hX (n:=n) (by omega),qiq hX (n:=n) (by omega),qe0 hX (n:=n) (by omega),qdj hX (n:=n) (by omega) got hg,qq7 hX (n:=n) (by omega),qc]
 simp only[←qbch]
 unfold qm0
 dsimp only
 generalize (qw got (qba K)).1=row
 generalize (qw got (qbm V)).1=owner
 generalize (qw got 13).1=st
 generalize (qw got (qbt K)).1=cnt
 unfold nowP
 by_cases h:1≤k∧k≤10
 ·have:k=1∨k=2∨k=3∨k=4∨k=5∨k=6∨k=7∨k=8∨k=9∨k=10:=by omega
  rcases this with rfl | rfl | rfl | rfl | rfl | rfl | rfl | rfl | rfl | rfl
  ·by_cases r0:row=0<;>by_cases w0:owner=0<;>simp[r0,w0,br,qhp,bned]
  ·by_cases rV:row=V
   ·subst rV;by_cases r0:row=0<;>simp[r0,br,qhp,bned]
   ·by_cases r0:row=0<;>by_cases w0:owner=0<;>simp[r0,rV,w0,br,qhp,bned]
  ·by_cases r0:row=0<;>simp[r0,br,qhp,bned]
  ·by_cases r0:row=0<;>simp[r0,br,qhp,bned]
  ·by_cases w0:owner=0<;>simp[w0,br,qhp,bned]
  ·simp[br,qhp,bned]
  ·simp[br,qhp,bned]
  ·by_cases s0:st=0<;>simp[s0,br,qhp,bned]
  ·by_cases s1:st<1<;>by_cases s4:4<st<;>simp[s1,s4,br,qhp,bned]
  ·by_cases s5:st=5<;>simp[s5,br,qhp,bned]
 ·simp only[decide_eq_false (by omega:¬ k=1),decide_eq_false (by omega:¬ k=2),decide_eq_false (by omega:¬ k=3),decide_eq_false (by omega:¬ k=4),decide_eq_false (by omega:¬ k=5),decide_eq_false (by omega:¬ k=6),decide_eq_false (by omega:¬ k=7),decide_eq_false (by omega:¬ k=8),decide_eq_false (by omega:¬ k=9),decide_eq_false (by omega:¬ k=10),cond_false,br_f]
  have k1:¬ k=1:=by omega
  have k2:¬ k=2:=by omega
  have k3:¬ k=3:=by omega
  have k4:¬ k=4:=by omega
  have k5:¬ k=5:=by omega
  have k6:¬ k=6:=by omega
  have k8:¬ k=8:=by omega
  have k9:¬ k=9:=by omega
  have k10:¬ k=10:=by omega
  simp[k1,k2,k3,k4,k5,k6,k8,k9,k10,qhp]
end
end Go.G

namespace Go.G
set_option maxRecDepth 100000
open Go Go.V Go.Proofs
def val (got:Got) (p:Int):Int:=(qw got p).1
def becP (k row st p old:Int):Int:=if k=8 then IntKind.wrap IntKind.i64 (old+1) else if k=9 then (if p=13 then IntKind.wrap IntKind.i64 (old+1) else if p=qbg row then st else old) else old
def same (got:Got) (p:Int):qbq:=(p,val got p,val got p,())
def entP (o:Op3) (got:Got):List qbq:=
 if o.1=1∨o.1=2∨o.1=3 then (ents got (chgL o.2.1 o.2.2.1 (val got (qba o.2.1)) (val got 13))).foldl insS [] else
 if o.1=7 then [same got 0,same got 1,same got 2,same got 3] else
 if o.1=8 then [(13,val got 13,1,())] else
 if o.1=9 then same got (qba (IntKind.wrap IntKind.i64 (val got 13 - 1)))::(13,val got 13,IntKind.wrap IntKind.i64 (val got 13+1),())::
  (bif inR (val got (qba (IntKind.wrap IntKind.i64 (val got 13 - 1)))) 1 6 then [(qbg (val got (qba (IntKind.wrap IntKind.i64 (val got 13 - 1)))),val got (qbg (val got (qba (IntKind.wrap IntKind.i64 (val got 13 - 1))))),val got 13,())] else []) else
 if o.1=10 then [same got 13,same got (qbg o.2.2.1)] else []
def resP (o:Op3) (got:Got):Int×List Int×Unit:=
 if o.1=7 then (0,[val got 0,val got 1,val got 2,val got 3],()) else
 if o.1=10 then (if val got (qbg o.2.2.1)=0 then (3,[],()) else (0,[IntKind.wrap IntKind.i64 (val got (qbg o.2.2.1) - 1)],())) else (0,[],())
def qbgz:Plan:=(false,(0,[],()),[],())
def qt7 (o:Op3) (got:Got):Plan×Bool×Unit:=
 if opOk o=true∧(run got (prog o)).2<0 then
  match qm0 o got with
  | some x=>((true,(x.1,x.2,()),[],()),true,())
  | none=>((false,resP o got,entP o got,()),true,())
 else (qbgz,false,())
theorem qkq {got:Got} {p:Int} {k:Int→PR} (hp:0≤p) (h:(run got (.ask p k)).2<0):hit got p=true∧(run got (k (val got p))).2<0∧(run got (.ask p k)).1=p::(run got (k (val got p))).1:=by
 cases hh:hit got p
 ·rw[qc0 hh] at h;dsimp only at h;omega
 ·rw[qdl hh] at h ⊢;exact ⟨rfl,h,rfl⟩
theorem q63 {o:Op3} (h:opOk o=true):((o.1=1∨o.1=2)∧(0≤o.2.1∧o.2.1≤3)∧(1≤o.2.2.1∧o.2.2.1≤6))∨((o.1=3∨o.1=4)∧(0≤o.2.1∧o.2.1≤3)∧o.2.2.1=0)∨
  ((o.1=5∨o.1=10)∧o.2.1=0∧(1≤o.2.2.1∧o.2.2.1≤6))∨(o.1=6∧(0≤o.2.1∧o.2.1≤2)∧o.2.2.1=0)∨((o.1=7∨o.1=8∨o.1=9)∧o.2.1=0∧o.2.2.1=0):=by
 unfold opOk at h
 by_cases k12:o.1=1∨o.1=2
 ·rw[show (decide (o.1=1)||decide (o.1=2))=true by simpa using k12,cond_true,Bool.and_eq_true] at h
  exact .inl ⟨k12,qcm.1 h.1,qcm.1 h.2⟩
 rw[show (decide (o.1=1)||decide (o.1=2))=false by simpa using k12,cond_false] at h
 by_cases k34:o.1=3∨o.1=4
 ·rw[show (decide (o.1=3)||decide (o.1=4))=true by simpa using k34,cond_true,Bool.and_eq_true,decide_eq_true_eq] at h
  exact .inr (.inl ⟨k34,qcm.1 h.1,h.2⟩)
 rw[show (decide (o.1=3)||decide (o.1=4))=false by simpa using k34,cond_false] at h
 by_cases k5:o.1=5∨o.1=10
 ·rw[show (decide (o.1=5)||decide (o.1=10))=true by simpa using k5,cond_true,Bool.and_eq_true,decide_eq_true_eq] at h
  exact .inr (.inr (.inl ⟨k5,h.1,qcm.1 h.2⟩))
 rw[show (decide (o.1=5)||decide (o.1=10))=false by simpa using k5,cond_false] at h
 by_cases k6:o.1=6
 ·rw[decide_eq_true k6,cond_true,Bool.and_eq_true,decide_eq_true_eq] at h
  exact .inr (.inr (.inr (.inl ⟨k6,qcm.1 h.1,h.2⟩)))
 rw[decide_eq_false k6,cond_false] at h
 by_cases k7:o.1=7∨o.1=8∨o.1=9
 ·rw[show (decide (o.1=7)||(decide (o.1=8)||decide (o.1=9)))=true by simpa using k7,cond_true,Bool.and_eq_true,decide_eq_true_eq,decide_eq_true_eq] at h
  exact .inr (.inr (.inr (.inr ⟨k7,h.1,h.2⟩)))
 ·rw[show (decide (o.1=7)||(decide (o.1=8)||decide (o.1=9)))=false by simpa using k7,cond_false] at h
  exact absurd h (by simp)
theorem qbe3 {got:Got} {K V held st:Int} (hv:1≤held∧held≤6→held≠V):(ents got (chgL K V held st)).foldl (bub ekey) []=(ents got (chgL K V held st)).foldl insS []∧Asc ((ents got (chgL K V held st)).foldl insS [])∧
  (∀ z,z∈(ents got (chgL K V held st)).foldl insS []↔z∈ents got (chgL K V held st))∧((ents got (chgL K V held st)).foldl insS []).length=(ents got (chgL K V held st)).length:=by
 obtain ⟨r1,r2,r3,r4⟩:=q9l (ents got (chgL K V held st)) [] List.Pairwise.nil (q23 got _ (qbbn hv)) (fun a ha=>by simp at ha)
 exact ⟨r1,r2,fun z=>by rw[r3];simp,by rw[r4];simp⟩
theorem qbf1 {o:Op3} {got:Got} (ho:opOk o=true) (hn:qm0 o got=none) (hk:o.1=1∨o.1=2∨o.1=3):1≤val got (qba o.2.1)∧val got (qba o.2.1)≤6→val got (qba o.2.1)≠o.2.2.1:=by
 intro h
 have:=q63 ho
 unfold qm0 nowP at hn
 rcases hk with k | k | k
 ·rw[k] at hn
  by_cases h0:(qw got (qba o.2.1)).1=0
  ·unfold val at h;omega
  ·rw[if_pos ⟨rfl,h0⟩] at hn;cases hn
 ·rw[k] at hn
  rw[if_neg (by omega),if_neg (by omega)] at hn
  by_cases h0:(qw got (qba o.2.1)).1=0
  ·unfold val at h;omega
  ·rw[if_neg (by omega)] at hn
   by_cases h1:(qw got (qba o.2.1)).1=o.2.2.1
   ·rw[if_pos ⟨rfl,h1⟩] at hn;cases hn
   ·exact h1
 ·omega
section
variable {X:Ext} (hX:XOk X) {n:Nat} {got:Got}
include hX
theorem qbd4 (hn:4≤n) (o:Op3) (p old row st:Int):qr8 (DD X n) o p old row st=some ((becP o.1 row st p old,()),()):=by
 obtain ⟨n,rfl⟩:∃ k,n=k+1:=⟨n - 1,by omega⟩
 rw[q53 hX]
 simp only[qrl,qxg]
 rw[qdt hX (by omega),qc,qgi hX (by omega),qc]
 unfold becP
 by_cases h8:o.1=8
 ·rw[ql h8,if_pos h8]
 rw[qh h8,if_neg h8]
 by_cases h9:o.1=9
 ·rw[ql h9,if_pos h9]
  by_cases h1:p=13
  ·rw[ql h1,if_pos h1]
  rw[qh h1,if_neg h1]
  by_cases h2:p=qbg row
  ·rw[ql h2,if_pos h2]
  ·rw[qh h2,if_neg h2]
 ·rw[qh h9,if_neg h9]
theorem q8l (N n:Nat) (hN:W+2≤N) (hg:got.length≤1048576) (K:Got→Op3→Plan→Plan→Option ((Plan×Bool×Unit)×Unit)) (st row:Int) (o:Op3) (x6:Plan) (g:Got) (P:List Int) (mo:Int×Bool×Unit) (hP:P.length≤20) :
  ∀ (m i:Nat) (rl:List Int) (el:List qbq),i≤P.length→P.length - i<m→rl.length≤i→el.length≤i→
  qf3 (DD X N) n K m got st row (P.length:Int) (i:Int) o x6 (false,(0,rl,()),el,()) (g,P,mo) =
   K got o x6 (false,(0,rl++(if o.1=7 then (P.drop i).map (val got) else []),()),el++(P.drop i).map (fun p=>(p,val got p,becP o.1 row st p (val got p),())),())
 | 0,_,_,_,_,h,_,_=>by omega
 | m+1,i,rl,el,hi,hf,h1,h2=>by
  have hb:=qgl
  have hW:=qcp
  simp only[qf3,qqn]
  by_cases h:i<P.length
  ·rw[ql (by omega),ix h,br_t,qdy hX (by omega) got hg,qc,Int.toNat_natCast,qko h]
   dsimp only
   rw[qbd4 hX (by omega),qc]
   dsimp only
   rw[ql (by omega),qrc h]
   simp only[List.map_cons]
   by_cases h7:o.1=7
   ·rw[ql h7,ql (by omega),qbw (by omega)]
    rw[q8l N n hN hg K st row o x6 g P mo hP m (i+1) _ _ (by omega) (by omega) (by rw[List.length_append,List.length_singleton];omega) (by rw[List.length_append,List.length_singleton];omega)]
    rw[if_pos h7,if_pos h7,List.append_assoc,List.append_assoc]
    rfl
   ·rw[qh h7,qbw (by omega)]
    rw[q8l N n hN hg K st row o x6 g P mo hP m (i+1) _ _ (by omega) (by omega) (by omega) (by rw[List.length_append,List.length_singleton];omega)]
    rw[if_neg h7,if_neg h7,List.append_assoc]
    rfl
  ·rw[qh (by omega),qs5 h]
   simp
end
end Go.G

namespace Go.G
set_option maxRecDepth 100000
open Go Go.V Go.Proofs
theorem q5v {o:Op3} {got:Got} (ho:opOk o=true) (hn:qm0 o got=none) (hr:(run got (prog o)).2<0) (hk:¬ (o.1=1∨o.1=2∨o.1=3)) :
    ((run got (prog o)).1.length≤12∧∀ e∈(run got (prog o)).1,qie e)∧
    ((o.1=7∧(run got (prog o)).1.foldl (bub ikey) []=[0,1,2,3])∨
     (o.1=8∧val got 13=0∧(run got (prog o)).1.foldl (bub ikey) []=[13])∨
     (o.1=9∧(1≤val got 13∧val got 13≤4)∧(run got (prog o)).1.foldl (bub ikey) []=qba (IntKind.wrap IntKind.i64 (val got 13 - 1))::13::(bif inR (val got (qba (IntKind.wrap IntKind.i64 (val got 13 - 1)))) 1 6 then [qbg (val got (qba (IntKind.wrap IntKind.i64 (val got 13 - 1))))] else []))∨
     (o.1=10∧(run got (prog o)).1.foldl (bub ikey) []=[13,qbg o.2.2.1])):=by
  have hkd:=q63 ho
  unfold qm0 nowP at hn
  rw[if_neg (by omega),if_neg (by omega)] at hn
  by_cases k4:o.1=4
  · exfalso
    by_cases h0:(qw got (qba o.2.1)).1=0
    · rw[if_pos ⟨.inr (.inr k4),h0⟩] at hn;cases hn
    · rw[if_neg (by omega),if_neg (by omega),if_neg (by omega),if_pos k4] at hn;cases hn
  rw[if_neg (by omega),if_neg (by omega),if_neg (by omega),if_neg k4] at hn
  by_cases k5:o.1=5
  · exfalso
    by_cases h0:(qw got (qbm o.2.2.1)).1=0
    · rw[if_pos ⟨k5,h0⟩] at hn;cases hn
    · rw[if_neg (by omega),if_pos k5] at hn;cases hn
  rw[if_neg (by omega),if_neg k5] at hn
  by_cases k6:o.1=6
  · exfalso;rw[if_pos k6] at hn;cases hn
  rw[if_neg k6] at hn
  have kk:o.1=7∨o.1=8∨o.1=9∨o.1=10:=by omega
  have hprog:prog o=if o.1=7 then q06 else if o.1=8 then .ask 13 (fun _=>.done) else if o.1=9 then qp5 else if o.1=10 then qsl o else .done:=by
    unfold prog
    rw[if_neg (by omega),if_neg (by omega),if_neg (by omega),if_neg k4,if_neg k5,if_neg k6]
  rw[hprog] at hr ⊢
  rcases kk with k | k | k | k
  · rw[if_pos k] at hr ⊢
    unfold q06 at hr ⊢
    obtain ⟨_,r1,e1⟩:=qkq (by omega) hr
    obtain ⟨_,r2,e2⟩:=qkq (by omega) r1
    obtain ⟨_,r3,e3⟩:=qkq (by omega) r2
    obtain ⟨_,_,e4⟩:=qkq (by omega) r3
    rw[e1,e2,e3,e4]
    refine ⟨⟨by simp[run],fun e he=>?_⟩,.inl ⟨k,rfl⟩⟩
    simp only[run,List.mem_cons,List.not_mem_nil,or_false] at he
    rcases he with rfl | rfl | rfl | rfl<;>exact ⟨by omega,by omega⟩
  · rw[if_neg (by omega),if_pos k] at hr ⊢
    obtain ⟨_,_,e1⟩:=qkq (by omega) hr
    rw[e1]
    refine ⟨⟨by simp[run],fun e he=>?_⟩,.inr (.inl ⟨k,?_,rfl⟩)⟩
    · simp only[run,List.mem_cons,List.not_mem_nil,or_false] at he
      subst he;exact ⟨by omega,by omega⟩
    · by_cases s0:(qw got 13).1=0
      · exact s0
      · rw[if_pos ⟨k,s0⟩] at hn;cases hn
  · rw[if_neg (by omega),if_neg (by omega),if_pos k] at hr ⊢
    rw[if_neg (by omega)] at hn
    have hst:1≤val got 13∧val got 13≤4:=by
      by_cases s0:(qw got 13).1<1∨(qw got 13).1>4
      · rw[if_pos ⟨k,s0⟩] at hn;cases hn
      · unfold val;omega
    unfold qp5 at hr ⊢
    obtain ⟨_,r1,e1⟩:=qkq (by omega) hr
    rw[e1]
    have hb:(bif decide (val got 13<1) then true else decide (val got 13>4))=false:=by
      rw[decide_eq_false (by omega),decide_eq_false (by omega)];rfl
    rw[hb,cond_false] at r1 ⊢
    have hw:IntKind.wrap IntKind.i64 (val got 13 - 1)=val got 13 - 1:=qct (by omega) (by omega)
    have hrow:=qvd (IntKind.wrap IntKind.i64 (val got 13 - 1))
    rw[hw] at hrow
    rw[hw] at r1 ⊢
    obtain ⟨_,r2,e2⟩:=qkq (by omega) r1
    rw[e2]
    generalize hrr:qba (val got 13 - 1)=p at *
    have hp:0≤p∧p≤3:=by omega
    cases hv:inR (val got p) 1 6
    · rw[Bool.not_false,cond_true,cond_false]
      have es:[(13:Int),p].foldl (bub ikey) []=[p,13]:=by
        simp only[List.foldl_cons,List.foldl_nil,bub,List.reverse_nil,bubR,List.reverse_singleton]
        rw[if_pos (show ikey p<ikey 13 by unfold ikey;omega)];rfl
      refine ⟨⟨by simp[run],fun e he=>?_⟩,.inr (.inr (.inl ⟨k,hst,es⟩))⟩
      simp only[run,List.mem_cons,List.not_mem_nil,or_false] at he
      rcases he with rfl | rfl<;>exact ⟨by omega,by omega⟩
    · rw[hv,Bool.not_true,cond_false] at r2
      rw[Bool.not_true,cond_false,cond_true]
      have hvia:=qlp (val got p)
      have hvr:=qcm.1 hv
      obtain ⟨_,_,e3⟩:=qkq (by omega) r2
      rw[e3]
      have es:[(13:Int),p,qbg (val got p)].foldl (bub ikey) []=[p,13,qbg (val got p)]:=by
        simp only[List.foldl_cons,List.foldl_nil,bub,List.reverse_nil,bubR,List.reverse_singleton]
        rw[if_pos (show ikey p<ikey 13 by unfold ikey;omega)]
        simp only[List.reverse_cons,List.reverse_nil,List.nil_append,List.cons_append,bubR]
        rw[if_neg (show ¬ ikey (qbg (val got p))<ikey 13 by unfold ikey;omega)]
        rfl
      refine ⟨⟨by simp[run],fun e he=>?_⟩,.inr (.inr (.inl ⟨k,hst,es⟩))⟩
      simp only[run,List.mem_cons,List.not_mem_nil,or_false] at he
      rcases he with rfl | rfl | rfl<;>exact ⟨by omega,by omega⟩
  · rw[if_neg (by omega),if_neg (by omega),if_neg (by omega),if_pos k] at hr ⊢
    rw[if_neg (by omega),if_neg (by omega)] at hn
    have hst:val got 13=5:=by
      by_cases s0:(qw got 13).1=5
      · exact s0
      · rw[if_pos ⟨k,s0⟩] at hn;cases hn
    unfold qsl at hr ⊢
    obtain ⟨_,r1,e1⟩:=qkq (by omega) hr
    rw[e1]
    rw[hst] at r1 ⊢
    rw[show ((5:Int) != 5)=false by decide,cond_false] at r1 ⊢
    have hvia:=qlp o.2.2.1
    obtain ⟨_,_,e3⟩:=qkq (by omega) r1
    rw[e3]
    have es:[(13:Int),qbg o.2.2.1].foldl (bub ikey) []=[13,qbg o.2.2.1]:=by
      simp only[List.foldl_cons,List.foldl_nil,bub,List.reverse_nil,bubR,List.reverse_singleton]
      rw[if_neg (show ¬ ikey (qbg o.2.2.1)<ikey 13 by unfold ikey;omega)]
      rfl
    refine ⟨⟨by simp[run],fun e he=>?_⟩,.inr (.inr (.inr ⟨k,es⟩))⟩
    simp only[run,List.mem_cons,List.not_mem_nil,or_false] at he
    rcases he with rfl | rfl<;>exact ⟨by omega,by omega⟩
end Go.G

namespace Go.G
set_option maxRecDepth 100000
open Go Go.V Go.Proofs
section
variable {X:Ext} (hX:XOk X) {n:Nat} {got:Got}
include hX
theorem qbcf (hn:W+3≤n) (hg:got.length≤1048576) (o:Op3) (x6:Plan) (rl:List Int) (el:List qbq):qf8 (DD X n) n got o x6 (false,(0,rl,()),el,()) =
  some (((false,(if o.1=10 then (if val got (qbg o.2.2.1)=0 then (3,rl,()) else (0,[IntKind.wrap IntKind.i64 (val got (qbg o.2.2.1) - 1)],())) else (0,rl,())),el,()),true,()),()):=by
 have hW:=qcp
 simp only[qf8]
 by_cases k:o.1=10
 ·rw[ql k,if_pos k,qgi hX (by omega),qc]
  dsimp only
  rw[qdy hX (by omega) got hg,qc]
  dsimp only
  unfold val
  by_cases h:(qw got (qbg o.2.2.1)).1=0
  ·rw[bned,decide_eq_true h,Bool.not_true,br_f,if_pos h]
  ·rw[bned,decide_eq_false h,Bool.not_false,br_t,if_neg h]
 ·rw[qh k,if_neg k]
theorem q8y (hn:W+14≤n) (hg:got.length≤1048576) (o:Op3):qrh (DD X n) o got=some (qt7 o got,()):=by
 obtain ⟨n,rfl⟩:∃ k,n=k+1:=⟨n - 1,by omega⟩
 have hW:=qcp
 obtain ⟨k,K,V,⟨⟩⟩:=o
 rw[q6a hX]
 simp only[qrv,qr6,qoq]
 rw[q17 hX (by omega),qc]
 dsimp only
 unfold qt7
 cases ho:opOk (k,K,V,())
 ·rw[Bool.not_false,br_t,if_neg (by simp)];rfl
 obtain ⟨b,e⟩:=q0r hX (n:=n) (by omega) hg (k,K,V,())
 rw[Bool.not_true,br_f,e,qc]
 dsimp only
 by_cases hr:(run got (prog (k,K,V,()))).2<0
 ·rw[qh (by omega),if_pos ⟨rfl,hr⟩,qbd7 hX (by omega) hg,qc]
  cases hnow:qm0 (k,K,V,()) got with
  | some x=>
   simp only[qj1]
   rw[br_t]
  | none=>
   simp only[qj1]
   rw[br_f,qdt hX (by omega),qc]
   dsimp only
   rw[qdy hX (by omega) got hg,qc]
   dsimp only
   rw[qdw hX (by omega),qc]
   dsimp only
   rw[qdy hX (by omega) got hg,qc]
   dsimp only
   by_cases hk:k=1∨k=2∨k=3
   ·have hne:=qbf1 ho hnow hk
    obtain ⟨c1,_,_,_⟩:=qbe3 (got:=got) (K:=K) (V:=V) (held:=val got (qba K)) (st:=val got 13) hne
    have h123:(bif bif decide (k=1) then true else decide (k=2) then true else decide (k=3))=true:=by
     rcases hk with h | h | h<;>subst h<;>rfl
    rw[qh (by omega),h123,br_t,qbdd hX (by omega) hg,qc]
    dsimp only
    unfold resP entP
    rw[if_pos hk,if_neg (show ¬ k=7 by omega),if_neg (show ¬ k=10 by omega)]
    have c1':=c1
    unfold val at c1' ⊢
    rw[c1']
   ·obtain ⟨⟨p1,p2⟩,pl⟩:=q5v ho hnow hr hk
    have h123:(bif bif decide (k=1) then true else decide (k=2) then true else decide (k=3))=false:=by
     rw[decide_eq_false (show ¬ k=1 by omega),decide_eq_false (show ¬ k=2 by omega),decide_eq_false (show ¬ k=3 by omega)];rfl
    rw[h123]
    simp only[br_f]
    have hsort:=qbgi hX (n:=n) (by omega) _ p1 p2
    have hloop:∀ (row:Int) (P:List Int) (x6:Plan),P.length≤20→qf3 (DD X n) n (fun v0_0 v0_1 v0_2 v0_3=>qf8 (DD X n) n v0_0 v0_1 v0_2 v0_3) n got (qw got 13).1 row (P.length:Int) 0 (k,K,V,()) x6 (false,(0,[],()),[],()) (got,P,(run got (prog (k,K,V,()))).2,b,()) =
      some (((false,(if k=10 then (if val got (qbg V)=0 then (3,(if k=7 then P.map (val got) else []),()) else (0,[IntKind.wrap IntKind.i64 (val got (qbg V) - 1)],())) else (0,(if k=7 then P.map (val got) else []),())),P.map (fun p=>(p,val got p,becP k row (qw got 13).1 p (val got p),())),()),true,()),()):=by
     intro row P x6 hP
     have:=q8l hX n n (by omega) hg (fun v0_0 v0_1 v0_2 v0_3=>qf8 (DD X n) n v0_0 v0_1 v0_2 v0_3) (qw got 13).1 row (k,K,V,()) x6 got P ((run got (prog (k,K,V,()))).2,b,()) hP n 0 [] [] (by omega) (by omega) (by simp) (by simp)
     rw[show ((0:Nat):Int)=0 from rfl,List.drop_zero] at this
     rw[this]
     rw[qbcf hX (by omega) hg]
     simp only[List.nil_append]
    unfold resP entP
    dsimp only
    rw[if_neg hk]
    rcases pl with ⟨h7,hp⟩ | ⟨h8,hz,hp⟩ | ⟨h9,hz,hp⟩ | ⟨h10,hp⟩
    ·dsimp only at h7;subst h7
     rw[qh (by decide),hsort,qc,hp]
     dsimp only
     rw[hloop _ [0,1,2,3] _ (by simp)]
     rfl
    ·dsimp only at h8;subst h8
     rw[qh (by decide),hsort,qc,hp]
     dsimp only
     rw[hloop _ [13] _ (by simp),if_neg (by decide),if_neg (by decide),if_neg (by decide),if_neg (by decide),if_pos rfl,if_neg (by decide)]
     simp only[List.map_cons,List.map_nil,becP,if_true]
     rw[hz]
     rfl
    ·dsimp only at h9;subst h9
     rw[ql rfl,qdw hX (by omega),qc]
     dsimp only
     rw[qdy hX (by omega) got hg,qc]
     dsimp only
     rw[hsort,qc,hp]
     dsimp only
     rw[hloop _ _ _ (by cases inR (val got (qba (IntKind.wrap IntKind.i64 (val got 13 - 1)))) 1 6<;>simp)]
     have hw:IntKind.wrap IntKind.i64 (val got 13 - 1)=val got 13 - 1:=qct (by omega) (by omega)
     have hrow:=qvd (IntKind.wrap IntKind.i64 (val got 13 - 1))
     rw[hw] at hrow
     rw[if_neg (by decide),if_neg (by decide),if_neg (by decide),if_neg (by decide),if_pos rfl,if_neg (by decide),if_neg (by decide)]
     have hvv:(qw got 13).1=val got 13:=rfl
     rw[hvv,hw]
     have hv2:(qw got (qba (val got 13 - 1))).1=val got (qba (val got 13 - 1)):=rfl
     rw[hv2]
     generalize qba (val got 13 - 1)=p at *
     have hpr:0≤p∧p≤3:=by omega
     have hvia:=qlp (val got p)
     have b1:∀ x,becP 9 (val got p) (val got 13) p x=x:=fun x=>by
      unfold becP;rw[if_neg (by decide),if_pos rfl,if_neg (by omega),if_neg (by omega)]
     have b2:∀ x,becP 9 (val got p) (val got 13) 13 x=IntKind.wrap IntKind.i64 (x+1):=fun x=>by
      unfold becP;rw[if_neg (by decide),if_pos rfl,if_pos rfl]
     cases hin:inR (val got p) 1 6
     ·simp only[cond_false,List.map_cons,List.map_nil,b1,b2]
      rfl
     ·have hvr:=qcm.1 hin
      have b3:∀ x,becP 9 (val got p) (val got 13) (qbg (val got p)) x=val got 13:=fun x=>by
       unfold becP;rw[if_neg (by decide),if_pos rfl,if_neg (by omega),if_pos rfl]
      simp only[cond_true,List.map_cons,List.map_nil,b1,b2,b3]
      rfl
    ·dsimp only at h10;subst h10
     rw[qh (by decide),hsort,qc,hp]
     dsimp only
     rw[hloop _ [13,qbg V] _ (by simp)]
     simp[becP,same]
 ·rw[ql (by omega),if_neg (fun h=>hr h.2)];rfl
end
end Go.G

namespace Go.G
set_option maxRecDepth 100000
open Go Go.V Go.Proofs
def Bnd:PR→Prop
 | .done=>True
 | .ask p k=>(-1≤p∧p<20)∧∀ v,Bnd (k v)
theorem q3e (got:Got):∀ (P:PR),Bnd P→-1≤(run got P).2∧(run got P).2<20
 | .done,_=>⟨by simp[run],by simp[run]⟩
 | .ask p k,h=>by
  cases hh:hit got p
  ·rw[qc0 hh];exact h.1
  ·rw[qdl hh];exact q3e got (k (qw got p).1) (h.2 _)
theorem qkn {b:Bool} {P Q:PR} (h1:Bnd P) (h2:Bnd Q):Bnd (bif b then P else Q):=by cases b<;>assumption
theorem qv6 (k:Int) : -1≤qba k∧qba k<20:=by have:=qvd k;omega
theorem qrb (k:Int) : -1≤qbm k∧qbm k<20:=by have:=qps k;omega
theorem q30 (k:Int) : -1≤qbg k∧qbg k<20:=by have:=qlp k;omega
theorem qq6 (k:Int) : -1≤qbt k∧qbt k<20:=by have:=qqm k;omega
theorem q5q:∀ l,Bnd (qwk l)
 | []=>trivial
 | v::l=>⟨q30 v,fun _=>q5q l⟩
theorem qza (k:Int) (l:List Int):Bnd (qnp k l):=⟨by omega,fun _=>qkn trivial (q5q l)⟩
theorem q89 (o:Op3):Bnd (prog o):=by
 unfold prog
 repeat' split
 ·exact ⟨qv6 _,fun _=>qkn trivial ⟨qrb _,fun _=>qkn trivial ⟨qq6 _,fun _=>qza _ _⟩⟩⟩
 ·exact ⟨qv6 _,fun _=>qkn trivial ⟨qrb _,fun _=>qkn trivial ⟨qrb _,fun _=>qkn ⟨qq6 _,fun _=>⟨qq6 _,fun _=>qza _ _⟩⟩ (qza _ _)⟩⟩⟩
 ·exact ⟨qv6 _,fun _=>qkn trivial ⟨qrb _,fun _=>⟨qq6 _,fun _=>qza _ _⟩⟩⟩
 ·exact ⟨qv6 _,fun _=>trivial⟩
 ·exact ⟨qrb _,fun _=>trivial⟩
 ·exact ⟨qq6 _,fun _=>trivial⟩
 ·exact ⟨by omega,fun _=>⟨by omega,fun _=>⟨by omega,fun _=>⟨by omega,fun _=>trivial⟩⟩⟩⟩
 ·exact ⟨by omega,fun _=>trivial⟩
 ·exact ⟨by omega,fun _=>qkn trivial ⟨qv6 _,fun _=>qkn trivial ⟨q30 _,fun _=>trivial⟩⟩⟩
 ·exact ⟨by omega,fun _=>qkn trivial ⟨q30 _,fun _=>trivial⟩⟩
 ·trivial
theorem q9c (got:Got):∀ (P:PR),∀ p∈(run got P).1,hit got p=true
 | .done,p,h=>by simp[run] at h
 | .ask q k,p,h=>by
  cases hh:hit got q
  ·rw[qc0 hh] at h;simp at h
  ·rw[qdl hh] at h
   rcases List.mem_cons.1 h with h | h
   ·subst h;exact hh
   ·exact q9c got _ p h
theorem q51 {α:Type} (key:α→Int):∀ (L acc:List α) (z:α),z∈L.foldl (bub key) acc↔z∈acc∨z∈L
 | [],acc,z=>by simp
 | e::L,acc,z=>by
  rw[List.foldl_cons,q51 key L,q4w,List.mem_cons]
  constructor
  ·rintro ((h | h) | h)
   ·exact .inr (.inl h)
   ·exact .inl h
   ·exact .inr (.inr h)
  ·rintro (h | h | h)
   ·exact .inl (.inr h)
   ·exact .inl (.inl h)
   ·exact .inr h
theorem qmo {o:Op3} {got:Got} {L:List Int} (h:(run got (prog o)).1.foldl (bub ikey) []=L) {p:Int} (hp:p∈L):hit got p=true:=by
 rw[←h,q51] at hp
 rcases hp with hp | hp
 ·simp at hp
 ·exact q9c got _ p hp
def qoe (o:Op3) (got:Got):Int:=if opOk o=true then (run got (prog o)).2 else -1
section
variable {X:Ext} (hX:XOk X) {n:Nat} {got:Got}
include hX
theorem qbam (hn:W+13≤n) (hg:got.length≤1048576) (o:Op3):qqy (DD X n) o got=some ((qoe o got,()),()):=by
 obtain ⟨n,rfl⟩:∃ k,n=k+1:=⟨n - 1,by omega⟩
 have hW:=qcp
 rw[q97 hX]
 simp only[qu3,qz1]
 obtain ⟨b,e⟩:=q0r hX (n:=n) (by omega) hg o
 obtain ⟨k,K,V,⟨⟩⟩:=o
 rw[q17 hX (by omega),qc]
 dsimp only
 unfold qoe
 cases ho:opOk (k,K,V,())
 ·rw[Bool.not_false,br_t];rfl
 ·rw[Bool.not_true,br_f,e,qc,if_pos rfl]
theorem quy (hn:W+13≤n) (hg:got.length≤1048576) (o:Op3):qmm (DD X n) o got=some ((qoe o got,()),()):=by
 obtain ⟨n,rfl⟩:∃ k,n=k+1:=⟨n - 1,by omega⟩
 have hW:=qcp
 rw[q96 hX]
 simp only[qu5,q0h]
 obtain ⟨b,e⟩:=q0r hX (n:=n) (by omega) hg o
 obtain ⟨a,w,e3,e4,h⟩:=qbfk hX (n:=n) (by omega) got hg o
 rw[e] at e3
 simp only[Option.some.injEq,Prod.mk.injEq,and_true] at e3
 obtain ⟨k,K,V,⟨⟩⟩:=o
 rw[q1m hX (by omega),qc]
 dsimp only
 unfold qoe
 cases ho:opOk (k,K,V,())
 ·rw[Bool.not_false,br_t];rfl
 ·rw[Bool.not_true,br_f,e4,qc,if_pos rfl]
  dsimp only
  rw[←h,←e3]
theorem qub (N n:Nat) (hN:W+6≤N) (hg:got.length≤1048576) (K:Plan→Plan→Option ((Plan×Bool×Unit)×Unit)) (m:Nat) (i:Nat) (hi:i<4) (x2:Plan) (rl:List Int) (el:List qbq) (h1:rl.length≤50) (h2:el.length≤50) :
  qcx (DD X N) n K (m+1) got (i:Int) x2 (false,(0,rl,()),el,()) =
   qcx (DD X N) n K m got ((i+1:Nat):Int) x2 (false,(0,rl++[val got (i:Int)],()),(ent got (i:Int) (fun v=>v)).foldl insS el,()):=by
 have hb:=qgl
 have hW:=qcp
 have hr:qba (i:Int)=i:=by unfold qba;rw[qcm.2 (by omega)];rfl
 rw[show qcx (DD X N) n K (m+1)=fun x0 x1 x2 x3=>qjk (DD X N) n (qcx (DD X N) n K m) K x0 x1 x2 x3 from rfl]
 simp only[qjk]
 rw[ql (by omega),qee hX (by omega),qc,hr]
 dsimp only
 rw[qtx hX (by omega) hg (by omega),qc]
 simp only[qc]
 rw[qdj hX (by omega) got hg,qc]
 dsimp only
 rw[ql (by omega),qbw (by omega)]
 rfl
theorem qbej (N n:Nat) (K:Plan→Plan→Option ((Plan×Bool×Unit)×Unit)) (m:Nat) (x2 x3:Plan):qcx (DD X N) n K (m+1) got 4 x2 x3=K x2 x3:=by
 simp only[qcx,qjk]
 rw[qh (by decide)]
theorem q8p (hn:W+15≤n) (hg:got.length≤1048576) (hv:qo1 got) (o:Op3):qr7 (DD X n) o got=some (qt7 o got,()):=by
 obtain ⟨n,rfl⟩:∃ k,n=k+1:=⟨n - 1,by omega⟩
 have hW:=qcp
 have hnx:=quy hX (n:=n) (by omega) hg o
 have hnow5:=qbf7 hX (n:=n) (by omega) hg o
 obtain ⟨k,K,V,⟨⟩⟩:=o
 have hbd:=q3e got (prog (k,K,V,())) (q89 _)
 rw[q6h hX]
 simp only[qr5,qsc,qos]
 rw[q1m hX (by omega),qc]
 dsimp only
 unfold qt7
 unfold qoe at hnx
 cases ho:opOk (k,K,V,())
 ·rw[Bool.not_false,br_t,if_neg (by simp)];rfl
 rw[ho,if_pos rfl] at hnx
 rw[Bool.not_true,br_f,hnx,qc]
 dsimp only
 by_cases hr:(run got (prog (k,K,V,()))).2<0
 ·rw[show ((run got (prog (k,K,V,()))).2 != -1)=false by rw[bned,decide_eq_true (by omega)];rfl,br_f,if_pos ⟨rfl,hr⟩,hnow5,qc]
  cases hnow:qm0 (k,K,V,()) got with
  | some x=>
   simp only[qhp]
   rw[br_t]
  | none=>
   simp only[qhp]
   rw[br_f,qe0 hX (by omega),qc]
   dsimp only
   rw[qdj hX (by omega) got hg,qc]
   dsimp only
   by_cases hk:k=1∨k=2∨k=3
   ·have hkd:=q63 ho
    dsimp only at hkd
    rw[qh (show ¬ k=7 by omega),qh (show ¬ k=8 by omega),qh (show ¬ k=9 by omega),qh (show ¬ k=10 by omega),qbbx hX (by omega) hg hv k K V (by omega),qc]
    dsimp only
    unfold resP entP
    rw[if_pos hk,if_neg (show ¬ k=7 by omega),if_neg (show ¬ k=10 by omega)]
    rfl
   ·obtain ⟨⟨p1,p2⟩,pl⟩:=q5v ho hnow hr hk
    unfold resP entP
    dsimp only
    rw[if_neg hk]
    rcases pl with ⟨h7,hp⟩ | ⟨h8,hz,hp⟩ | ⟨h9,hz,hp⟩ | ⟨h10,hp⟩
    ·dsimp only at h7;subst h7
     have t0:hit got ((0:Nat):Int)=true:=qmo hp (by simp)
     have t1:hit got ((1:Nat):Int)=true:=qmo hp (by simp)
     have t2:hit got ((2:Nat):Int)=true:=qmo hp (by simp)
     have t3:hit got ((3:Nat):Int)=true:=qmo hp (by simp)
     obtain ⟨n2,hn2⟩:∃ k,n=k+5:=⟨n - 5,by omega⟩
     rw[ql rfl]
     generalize hKK:(fun v0_0 v0_1=>qm6 (DD X n) n v0_0 v0_1)=KK
     have hrun:qcx (DD X n) n KK n got ((0:Nat):Int) (false,(0,[],()),[],()) (false,(0,[],()),[],())=KK (false,(0,[],()),[],()) (false,(0,[val got 0,val got 1,val got 2,val got 3],()),[same got 0,same got 1,same got 2,same got 3],()):=by
      have hfuel:∀ m,n=m→qcx (DD X n) n KK n got ((0:Nat):Int) (false,(0,[],()),[],()) (false,(0,[],()),[],())=qcx (DD X n) n KK m got ((0:Nat):Int) (false,(0,[],()),[],()) (false,(0,[],()),[],()):=fun m hm=>by rw[←hm]
      rw[hfuel (n2+5) hn2]
      rw[qub hX n n (by omega) hg KK (n2+4) 0 (by omega) _ [] [] (by simp) (by simp),qft t0]
      rw[qub hX n n (by omega) hg KK (n2+3) 1 (by omega) _ _ _ (by simp) (by simp[qng]),qft t1]
      rw[qub hX n n (by omega) hg KK (n2+2) 2 (by omega) _ _ _ (by simp) (by simp[qng]),qft t2]
      rw[qub hX n n (by omega) hg KK (n2+1) 3 (by omega) _ _ _ (by simp) (by simp[qng]),qft t3]
      rw[show ((3+1:Nat):Int)=4 from rfl,qbej hX n n KK n2]
      rfl
     rw[show ((0:Nat):Int)=0 from rfl] at hrun
     rw[hrun,←hKK]
     rfl
    ·dsimp only at h8;subst h8
     have t:=qmo hp (p:=13) (by simp)
     rw[qh (by decide),ql rfl]
     simp only[qc,qe0 hX (n:=n) (by omega)]
     rw[qkt hX (by omega) hg (by simp),qc,qft t]
     rfl
    ·dsimp only at h9;subst h9
     have t:=qmo hp (p:=13) (by simp)
     have hw:IntKind.wrap IntKind.i64 (val got 13 - 1)=val got 13 - 1:=qct (by omega) (by omega)
     have hrow:=qvd (IntKind.wrap IntKind.i64 (val got 13 - 1))
     rw[hw] at hrow hp
     have tp:=qmo hp (p:=qba (val got 13 - 1)) (by simp)
     rw[qh (by decide),qh (by decide),ql rfl,qee hX (by omega),qc]
     have hvv:(qw got 13).1=val got 13:=rfl
     rw[hvv,hw]
     dsimp only
     rw[qdj hX (by omega) got hg,qc]
     simp only[qc]
     rw[qkt hX (by omega) hg (by simp),qc,qft t]
     have hv2:(qw got (qba (val got 13 - 1))).1=val got (qba (val got 13 - 1)):=rfl
     rw[hv2]
     simp only[qc,qee hX (n:=n) (by omega)]
     generalize qba (val got 13 - 1)=p at *
     have hpr:0≤p∧p≤3:=by omega
     rw[qtx hX (by omega) hg (by simp[qng]),qc,qft tp]
     dsimp only
     rw[qjs hX (by omega),qc]
     dsimp only
     have e2:[(p,(qw got p).1,(qw got p).1,())].foldl insS ([((13:Int),(qw got 13).1,IntKind.wrap IntKind.i64 (val got 13+1),())].foldl insS [])=[same got p,((13:Int),val got 13,IntKind.wrap IntKind.i64 (val got 13+1),())]:=by
      simp only[List.foldl_cons,List.foldl_nil,insS,List.takeWhile_nil,List.dropWhile_nil,List.nil_append]
      rw[List.takeWhile_cons_of_neg (by simp;omega),List.dropWhile_cons_of_neg (by simp;omega)]
      rfl
     rw[e2,qkt hX (by omega) hg (by simp),qc]
     have hvia:=qlp (val got p)
     cases hin:inR (val got p) 1 6
     ·have hm:hit got (qbg (val got p))=false:=by
       have:¬ (1≤val got p∧val got p≤6):=fun h=>by rw[qcm.2 h] at hin;cases hin
       unfold hit
       rw[decide_eq_false (by omega)];rfl
      rw[qqb hm]
      rfl
     ·have hvr:=qcm.1 hin
      rw[hin,cond_true] at hp
      have tv:=qmo hp (p:=qbg (val got p)) (by simp)
      rw[qft tv]
      simp only[List.foldl_cons,List.foldl_nil,insS,cond_true]
      have q1:decide ((same got p).1<qbg (val got p))=true:=decide_eq_true (show p<qbg (val got p) by omega)
      have q2:decide ((13:Int)<qbg (val got p))=true:=decide_eq_true (by omega)
      simp only[List.takeWhile_cons,List.dropWhile_cons,q1,q2,if_true,List.takeWhile_nil,List.dropWhile_nil]
      rfl
    ·dsimp only at h10;subst h10
     have t:=qmo hp (p:=13) (by simp)
     have tv:=qmo hp (p:=qbg V) (by simp)
     have hkd:=q63 ho
     dsimp only at hkd
     have hvia:=qlp V
     rw[qh (by decide),qh (by decide),qh (by decide),ql rfl]
     simp only[qc,qe0 hX (n:=n) (by omega)]
     rw[qtx hX (by omega) hg (by simp),qc,qft t]
     dsimp only
     rw[qjs hX (by omega),qc]
     dsimp only
     rw[qtx hX (by omega) hg (by simp[qng]),qc,qft tv]
     simp only[qc]
     rw[qdj hX (by omega) got hg,qc]
     have e2:[(qbg V,(qw got (qbg V)).1,(qw got (qbg V)).1,())].foldl insS ([((13:Int),(qw got 13).1,(qw got 13).1,())].foldl insS [])=[same got 13,same got (qbg V)]:=by
      simp only[List.foldl_cons,List.foldl_nil,insS,List.takeWhile_nil,List.dropWhile_nil,List.nil_append]
      rw[List.takeWhile_cons_of_pos (by simp;omega),List.dropWhile_cons_of_pos (by simp;omega)]
      rfl
     rw[e2]
     dsimp only
     by_cases h0:(qw got (qbg V)).1=0
     ·rw[ql h0]
      simp[val,h0]
     ·rw[qh h0]
      simp[val,h0]
 ·rw[show ((run got (prog (k,K,V,()))).2 != -1)=true by rw[bned,decide_eq_false (by omega)];rfl,br_t,if_neg (fun h=>hr h.2)];rfl
end
end Go.G

namespace Go.G
open Go Go.V
abbrev Cur:=List Int×Int×Int×Unit
def qf0 (c:Cur):Prop:=c.1.length≤1048576∧0≤c.2.1∧c.2.1≤c.1.length
theorem qzg (x:BitVec (IntKind.bits IntKind.i64)):0≤IntKind.wrap IntKind.i64 ((BitVec.toNat (BitVec.and x (BitVec.ofInt (IntKind.bits IntKind.i64) 255)):Nat):Int)∧IntKind.wrap IntKind.i64 ((BitVec.toNat (BitVec.and x (BitVec.ofInt (IntKind.bits IntKind.i64) 255)):Nat):Int)≤255:=by
 have h:BitVec.toNat (BitVec.and x (BitVec.ofInt (IntKind.bits IntKind.i64) 255))≤255:=by
  show BitVec.toNat (x &&&BitVec.ofInt (IntKind.bits IntKind.i64) 255)≤255
  rw[BitVec.toNat_and]
  exact Nat.le_trans Nat.and_le_right (by decide)
 rw[qct (by omega) (by omega)]
 omega
theorem qtd {X:Ext} (hX:XOk X) {n:Nat} (hn:1≤n) {c:Cur} (hc:qf0 c):∃ (x:Int) (c':Cur),0≤x∧x≤255∧qf0 c'∧qg3 (DD X n) c=some ((x,()),(c',())):=by
 obtain ⟨n,rfl⟩:∃ k,n=k+1:=⟨n - 1,by omega⟩
 obtain ⟨h1,h2,h3⟩:=hc
 rw[q58 hX]
 simp only[qrj,qxl]
 by_cases h:c.2.1<(c.1.length:Int)
 ·rw[ql h,ixn h2 h,br_t,qct (x:=c.2.1+1) (by omega) (by omega)]
  refine ⟨_,(c.1,c.2.1+1,_,()),(qzg _).1,(qzg _).2,⟨h1,?_,?_⟩,rfl⟩
  ·show 0≤c.2.1+1;omega
  ·show c.2.1+1≤(c.1.length:Int);omega
 ·rw[qh h]
  have k:∀ h u,qf0 (c.1,c.2.1,h,u):=fun _ _=>⟨h1,h2,h3⟩
  exact ⟨_,_,(qzg _).1,(qzg _).2,k _ _,rfl⟩
theorem qdh {X:Ext} (hX:XOk X) {n:Nat} (hn:2≤n) {c:Cur} (hc:qf0 c) (k:Int):∃ (x:Int) (c':Cur),(0<k→0≤x∧x<k)∧(k≤0→x=0)∧qf0 c'∧qbc (DD X n) c k=some ((x,()),(c',())):=by
 obtain ⟨n,rfl⟩:∃ k,n=k+1:=⟨n - 1,by omega⟩
 rw[q4l hX]
 simp only[qpe,qwe]
 by_cases h:k≤0
 ·rw[ql h]
  exact ⟨0,c,fun h2=>by omega,fun _=>rfl,hc,rfl⟩
 ·rw[qh h]
  by_cases h2:k≤256
  ·obtain ⟨x,c',x0,x1,hc',e⟩:=qtd hX (n:=n) (by omega) hc
   rw[ql h2,e,qc]
   dsimp only
   rw[qh (by omega)]
   refine ⟨_,_,fun _=>?_,fun h3=>by omega,hc',rfl⟩
   rw[Int.tmod_eq_emod_of_nonneg x0]
   exact ⟨Int.emod_nonneg _ (by omega),Int.emod_lt_of_pos _ (by omega)⟩
  ·obtain ⟨x,c1,x0,x1,hc1,e1⟩:=qtd hX (n:=n) (by omega) hc
   obtain ⟨y,c2,y0,y1,hc2,e2⟩:=qtd hX (n:=n) (by omega) hc1
   obtain ⟨z,c3,z0,z1,hc3,e3⟩:=qtd hX (n:=n) (by omega) hc2
   obtain ⟨w,c4,w0,w1,hc4,e4⟩:=qtd hX (n:=n) (by omega) hc3
   rw[qh h2,e1,qc]
   dsimp only
   rw[e2,qc]
   dsimp only
   rw[e3,qc]
   dsimp only
   rw[e4,qc]
   dsimp only
   rw[qh (by omega),qct (x:=x * 16777216) (by omega) (by omega),qct (x:=y * 65536) (by omega) (by omega),qct (x:=x * 16777216+y * 65536) (by omega) (by omega),
    qct (x:=z * 256) (by omega) (by omega),qct (x:=x * 16777216+y * 65536+z * 256) (by omega) (by omega),qct (x:=x * 16777216+y * 65536+z * 256+w) (by omega) (by omega)]
   refine ⟨_,_,fun _=>?_,fun h3=>by omega,hc4,rfl⟩
   rw[Int.tmod_eq_emod_of_nonneg (by omega)]
   exact ⟨Int.emod_nonneg _ (by omega),Int.emod_lt_of_pos _ (by omega)⟩
theorem qbe1 {X:Ext} (hX:XOk X) {n:Nat} (hn:3≤n) {c:Cur} (hc:qf0 c) (k:Int):∃ (b:Bool) (c':Cur),qf0 c'∧qrz (DD X n) c k=some ((b,()),(c',())):=by
 obtain ⟨n,rfl⟩:∃ k,n=k+1:=⟨n - 1,by omega⟩
 rw[q6f hX]
 simp only[qri,qxh]
 obtain ⟨x,c',_,_,hc',e⟩:=qdh hX (n:=n) (by omega) hc k
 rw[e,qc]
 exact ⟨_,_,hc',rfl⟩
theorem qz6 {X:Ext} (hX:XOk X) {n:Nat} (hn:3≤n) {c:Cur} (hc:qf0 c) (l:List Int) (hl:0<l.length):∃ (x:Int) (c':Cur),x∈l∧qf0 c'∧qj0 (DD X n) c l=some ((x,()),(c',())):=by
 obtain ⟨n,rfl⟩:∃ k,n=k+1:=⟨n - 1,by omega⟩
 rw[q1g hX]
 simp only[qna,qt2]
 obtain ⟨x,c',h1,_,hc',e⟩:=qdh hX (n:=n) (by omega) hc (l.length:Int)
 obtain ⟨x0,x1⟩:=h1 (by omega)
 rw[e,qc]
 dsimp only
 rw[ixn x0 x1,br_t,qko (by omega)]
 exact ⟨_,_,List.getElem_mem _,hc',rfl⟩
theorem qba5 (D:Den ctx) (n:Nat) {K0:List Int→Int→Option ((Cur×Unit)×Unit)} (a:List Int) (ha:a.length≤1048576):∀ (m i:Nat) (h:Int),i≤a.length→a.length - i<m→∃ h':Int,qh1 D n K0 m a h i=K0 a h'
 | 0,_,_,_,h=>by omega
 | m+1,i,h,hi,hf=>by
  simp only[qh1,qrp]
  by_cases h1:i<a.length
  ·by_cases h2:(i:Int)<4000
   ·rw[decide_eq_true (by omega:(i:Int)<(a.length:Int)),cond_true,ql h2,decide_eq_true (by omega:(0:Int)≤(i:Int)),Bool.and_self,br_t,qbw (by omega)]
    exact qba5 D n a ha m (i+1) _ (by omega) (by omega)
   ·rw[decide_eq_true (by omega:(i:Int)<(a.length:Int)),cond_true,qh h2]
    exact ⟨h,rfl⟩
  ·rw[decide_eq_false (by omega:¬ (i:Int)<(a.length:Int)),cond_false,br_f]
   exact ⟨h,rfl⟩
theorem q31 {X:Ext} (hX:XOk X) {n:Nat} (hn:W+1≤n) (a:List Int) (ha:a.length≤1048576):∃ c:Cur,qf0 c∧qll (DD X n) a=some ((c,()),()):=by
 obtain ⟨n,rfl⟩:∃ k,n=k+1:=⟨n - 1,by omega⟩
 have hW:=qcp
 rw[q9j hX]
 simp only[qtz,qs6,qpf]
 obtain ⟨h',e⟩:=qba5 (DD X n) n (K0:=fun v w=>qou (DD X n) n v w) a ha n 0 (IntKind.wrap IntKind.i64 (27323+(a.length:Int))) (by omega) (by omega)
 rw[show ((0:Nat):Int)=0 from rfl] at e
 exact ⟨(a,0,h',()),⟨ha,by show (0:Int)≤0;omega,by show (0:Int)≤(a.length:Int);omega⟩,e⟩
theorem qbhg {X:Ext} (hX:XOk X) {n:Nat} (hn:1≤n) (a:List Int):qwr (DD X n) a=some ((decide ((a.length:Int)>1048576),()),()):=by
 obtain ⟨n,rfl⟩:∃ k,n=k+1:=⟨n - 1,by omega⟩
 rw[qbce hX];rfl
end Go.G

namespace Go.G
set_option maxRecDepth 100000
open Go Go.V Go.Proofs
abbrev qfi:=List Int×Int×Unit
def keyF (v:Int):List Int→Nat→Int
 | [],_=>-1
 | x::l,i=>if x=v then (i:Int) else keyF v l (i+1)
theorem q8d (v:Int):∀ (l:List Int) (i:Nat),keyF v l i<0→v∉l
 | [],i,_=>by simp
 | x::l,i,h=>by
  simp only[keyF] at h
  by_cases e:x=v
  ·rw[if_pos e] at h;omega
  ·rw[if_neg e] at h
   have:=q8d v l (i+1) h
   intro hm
   rcases List.mem_cons.1 hm with k | k
   ·exact e k.symm
   ·exact this k
theorem qbbd (v:Int):∀ (l:List Int) (i k:Nat),l[k]? = some v→(∀ j<k,l[j]?≠some v)→keyF v l i=((i+k:Nat):Int)
 | [],i,k,h,_=>by simp at h
 | x::l,i,0,h,_=>by
  simp only[List.getElem?_cons_zero,Option.some.injEq] at h
  simp only[keyF];rw[if_pos h];rfl
 | x::l,i,k+1,h,hj=>by
  simp only[List.getElem?_cons_succ] at h
  simp only[keyF]
  rw[if_neg (by have:=hj 0 (by omega);simp only[List.getElem?_cons_zero,ne_eq,Option.some.injEq] at this;exact this),qbbd v l (i+1) k h (fun j h2=>by have:=hj (j+1) (by omega);simpa using this)]
  congr 1;omega
structure RightR (r:qfi):Prop where
 len:r.1.length=4
 rng:∀ x∈r.1,0≤x∧x≤6
 once:∀ i j:Nat,i<j→∀ v,r.1[i]? = some v→r.1[j]? = some v→v=0
 st:0≤r.2.1∧r.2.1≤5
section
variable {X:Ext} (hX:XOk X) {n:Nat}
include hX
theorem qbbg (D:Den ctx) (n:Nat) (K0:Int→Option ((Int×Unit)×Unit)) (K1:Option ((Int×Unit)×Unit)) (hK:K0 (-1)=K1) (r:qfi) (hr:r.1.length≤1000) (v:Int):∀ (m i:Nat),i≤r.1.length→r.1.length - i<m→
  qhy D n K0 K1 m v (i:Int) r=K0 (keyF v (r.1.drop i) i)
 | 0,_,_,h=>by omega
 | m+1,i,hi,hf=>by
  simp only[qhy,qrs]
  by_cases h:i<r.1.length
  ·rw[ql (by omega),ix h,br_t,Int.toNat_natCast,qko h,qrc h]
   simp only[keyF]
   by_cases e:r.1[i]=v
   ·rw[ql e,if_pos e]
   ·rw[qh e,if_neg e,qbw (by omega)]
    exact qbbg D n K0 K1 hK r hr v m (i+1) (by omega) (by omega)
  ·rw[qh (by omega),qs5 h]
   exact hK.symm
theorem q0f (hn:W+1≤n) (r:qfi) (hr:r.1.length≤1000) (v:Int):qor (DD X n) r v=some ((keyF v r.1 0,()),()):=by
 obtain ⟨n,rfl⟩:∃ k,n=k+1:=⟨n - 1,by omega⟩
 have hW:=qcp
 rw[q86 hX]
 simp only[qtj,qtu,qp9]
 have e:=qbbg hX (DD X n) n (fun v0_0=>qok (DD X n) n v0_0) (qo0 (DD X n) n) rfl r hr v n 0 (by omega) (by omega)
 rw[show ((0:Nat):Int)=0 from rfl] at e
 rw[e];rfl
theorem q0q (N n:Nat) (hN:W+2≤N) (K0:Bool→qfi→Option ((Bool×Unit)×Unit)) (K1:qfi→Option ((Bool×Unit)×Unit)) {r:qfi} (hr:RightR r):∀ (m i:Nat),i≤r.1.length→r.1.length - i<m→
  qhe (DD X N) n K0 K1 m (i:Int) r=K1 r
 | 0,_,_,h=>by omega
 | m+1,i,hi,hf=>by
  have hl:=hr.len
  have hW:=qcp
  simp only[qhe,qqp]
  by_cases h:i<r.1.length
  ·rw[ql (by omega),ix h,br_t,Int.toNat_natCast,qko h]
   by_cases e:r.1[i]=0
   ·rw[bned,decide_eq_true e,Bool.not_true,br_f,qbw (by omega)]
    exact q0q N n hN K0 K1 hr m (i+1) (by omega) (by omega)
   ·have hv:=hr.rng r.1[i] (List.getElem_mem h)
    rw[bned,decide_eq_false e,Bool.not_false,br_t,br_t,qno hX (by omega),qc]
    dsimp only
    rw[qcm.2 (by omega),Bool.not_true,br_f,br_t,q0f hX (by omega) r (by omega),qc]
    dsimp only
    have hk:keyF r.1[i] r.1 0=(i:Int):=by
     rw[qbbd r.1[i] r.1 0 i (List.getElem?_eq_getElem h) (fun j hj hc=>e (hr.once j i hj _ hc (List.getElem?_eq_getElem h)))]
     congr 1;omega
    rw[hk,bned,decide_eq_true rfl,Bool.not_true,br_f,qbw (by omega)]
    exact q0q N n hN K0 K1 hr m (i+1) (by omega) (by omega)
  ·rw[qh (by omega)]
theorem q9a (hn:W+3≤n) {r:qfi} (hr:RightR r):qrk (DD X n) r=some ((true,()),()):=by
 obtain ⟨n,rfl⟩:∃ k,n=k+1:=⟨n - 1,by omega⟩
 have hW:=qcp
 have hl:=hr.len
 rw[q6g hX]
 simp only[qry,qr1,qn2]
 have e:=q0q hX n n (by omega) (fun v0_0 v0_1=>qni (DD X n) n v0_0 v0_1) (fun v1_0=>qjx (DD X n) n v1_0) hr n 0 (by omega) (by omega)
 rw[show ((0:Nat):Int)=0 from rfl] at e
 rw[e]
 simp only[qjx]
 rw[ql (by omega),qq7 hX (by omega),qc,qcm.2 hr.st]
theorem qxt (N n:Nat) (hN:W+2≤N) (K0:Cur→qfi→qfi→Option ((qfi×Unit)×(Cur×Unit))) (z:qfi):∀ (m i:Nat) (c:Cur) (r:qfi),qf0 c→RightR r→i≤4→4 - i<m→
  ∃ (c':Cur) (r':qfi),qf0 c'∧RightR r'∧qet (DD X N) n K0 m (i:Int) c z r=K0 c' z r'
 | 0,_,_,_,_,_,_,h=>by omega
 | m+1,i,c,r,hc,hr,hi,hf=>by
  have hl:=hr.len
  have hW:=qcp
  simp only[qet,qkv]
  by_cases h:i<4
  ·obtain ⟨x,c1,h1,_,hc1,e1⟩:=qdh hX (n:=N) (by omega) hc 7
   obtain ⟨x0,x1⟩:=h1 (by omega)
   rw[ql (by omega),e1,qc]
   dsimp only
   rw[show (r.1,r.2)=r from rfl,q0f hX (by omega) r (by omega),qc]
   dsimp only
   by_cases hk:keyF x r.1 0<0
   ·have hnot:=q8d x r.1 0 hk
    rw[ql hk,ixn (by omega) (by omega),br_t,qbw (by omega),Int.toNat_natCast]
    have hr2:RightR (r.1.set i x,r.2):=by
     refine ⟨by show (r.1.set i x).length=4;rw[List.length_set];exact hl,fun y hy=>?_,fun a b hab v ha hb=>?_,hr.st⟩
     ·rcases List.mem_or_eq_of_mem_set hy with hy | rfl
      ·exact hr.rng y hy
      ·omega
     ·simp only[List.getElem?_set] at ha hb
      by_cases ea:i=a
      ·rw[if_pos ea] at ha
       rw[if_neg (by omega)] at hb
       split at ha
       ·simp only[Option.some.injEq] at ha
        subst ha
        exact absurd (List.mem_iff_getElem?.2 ⟨b,hb⟩) hnot
       ·simp at ha
      ·rw[if_neg ea] at ha
       by_cases eb:i=b
       ·rw[if_pos eb] at hb
        split at hb
        ·simp only[Option.some.injEq] at hb
         subst hb
         exact absurd (List.mem_iff_getElem?.2 ⟨a,ha⟩) hnot
        ·simp at hb
       ·rw[if_neg eb] at hb
        exact hr.once a b hab v ha hb
    exact qxt N n hN K0 z m (i+1) c1 (r.1.set i x,r.2) hc1 hr2 (by omega) (by omega)
   ·rw[qh hk,qbw (by omega)]
    exact qxt N n hN K0 z m (i+1) c1 r hc1 hr (by omega) (by omega)
  ·rw[qh (by omega)]
   exact ⟨c,r,hc,hr,rfl⟩
theorem qxb (hn:W+3≤n) {c:Cur} (hc:qf0 c):∃ (r:qfi) (c':Cur),RightR r∧(r.2.1=0∨r.2.1=1∨r.2.1=3∨r.2.1=5)∧qf0 c'∧qil (DD X n) c=some ((r,()),(c',())):=by
 obtain ⟨n,rfl⟩:∃ k,n=k+1:=⟨n - 1,by omega⟩
 have hW:=qcp
 have hnew:qpt (DD X n)=some ((((List.replicate (Int.toNat 4) 0,0,()):qfi),()),()):=by
  obtain ⟨n,rfl⟩:∃ k,n=k+1:=⟨n - 1,by omega⟩
  rw[q4e hX];rfl
 rw[qxu hX]
 simp only[qly,qlb,qj8]
 rw[hnew,qc]
 dsimp only
 have h0:RightR ((List.replicate (Int.toNat 4) 0,0,()):qfi):=by
  refine ⟨rfl,fun x hx=>?_,fun i j hij v hi hj=>?_,by show (0:Int)≤0∧(0:Int)≤5;omega⟩
  ·have:=(List.mem_replicate.1 hx).2;omega
  ·simp only[List.getElem?_replicate] at hi
   split at hi
   ·simp only[Option.some.injEq] at hi;exact hi.symm
   ·simp at hi
 obtain ⟨c',r',h1,h2,e⟩:=qxt hX n n (by omega) (fun v0_0 v0_1 v0_2=>qgx (DD X n) n v0_0 v0_1 v0_2) ([],0,()) n 0 c _ hc h0 (by omega) (by omega)
 rw[show ((0:Nat):Int)=0 from rfl] at e
 rw[e]
 simp only[qgx]
 obtain ⟨s,c2,hs,hc2,e2⟩:=qz6 hX (n:=n) (by omega) h1 [0,0,1,3,5] (by simp)
 rw[e2,qc]
 have hs2:s=0∨s=1∨s=3∨s=5:=by
  simp only[List.mem_cons,List.not_mem_nil,or_false] at hs
  omega
 exact ⟨(r'.1,s,()),c2,⟨h2.len,h2.rng,h2.once,by show 0≤s∧s≤5;omega⟩,hs2,hc2,rfl⟩
end
end Go.G

namespace Go.G
set_option maxRecDepth 100000
open Go Go.V Go.Proofs
def qkp (ws:List Int):Prop:=ws.length=20∧∀ x∈ws,0≤x∧x≤1000
theorem qkp.set {ws:List Int} (h:qkp ws) (i:Nat) {x:Int} (hx:0≤x∧x≤1000):qkp (ws.set i x):=
 ⟨by rw[List.length_set];exact h.1,fun y hy=>by
  rcases List.mem_or_eq_of_mem_set hy with q | rfl
  ·exact h.2 y q
  ·exact hx⟩
def many (c:Int):List Int→Int
 | []=>0
 | x::l=>(bif inR x 1 6&&decide (qt x=c) then 1 else 0)+many c l
theorem q7d (c:Int):∀ l,0≤many c l∧many c l≤(l.length:Int)
 | []=>⟨by simp[many],by simp[many]⟩
 | x::l=>by
  have:=q7d c l
  simp only[many,List.length_cons]
  cases inR x 1 6&&decide (qt x=c)<;>simp only[cond_true,cond_false]<;>omega
section
variable {X:Ext} (hX:XOk X) {n:Nat}
include hX
theorem qba2 (hn:1≤n) (b:Bool):qn3 (DD X n) b=some ((bif b then 1 else 0,()),()):=by
 obtain ⟨n,rfl⟩:∃ k,n=k+1:=⟨n - 1,by omega⟩
 rw[q76 hX]
 cases b<;>rfl
theorem q7u (N n:Nat) (hN:4≤N) (K:Int→Option ((Int×Unit)×Unit)) (r:qfi) (hr:r.1.length≤1000) (c:Int):∀ (m i:Nat) (a:Int),i≤r.1.length→r.1.length - i<m→0≤a∧a≤i→
  qgp (DD X N) n K m c a (i:Int) r=K (a+many c (r.1.drop i))
 | 0,_,_,_,h,_=>by omega
 | m+1,i,a,hi,hf,ha=>by
  simp only[qgp,qog]
  by_cases h:i<r.1.length
  ·rw[ql (by omega),ix h,br_t,Int.toNat_natCast,qko h,qno hX (by omega),qc,qrc h]
   simp only[many]
   cases hv:inR r.1[i] 1 6
   ·rw[br_f,qba2 hX (by omega),qc]
    dsimp only
    rw[cond_false,qct (by omega) (by omega),qbw (by omega),q7u N n hN K r hr c m (i+1) _ (by omega) (by omega) (by omega)]
    congr 1
    simp only[Bool.false_and,cond_false]
    omega
   ·rw[br_t,br_t,qir hX (by omega),qc]
    dsimp only
    rw[qba2 hX (by omega),qc]
    dsimp only
    have hb:0≤(bif decide (qt r.1[i]=c) then (1:Int) else 0)∧(bif decide (qt r.1[i]=c) then (1:Int) else 0)≤1:=by
     cases decide (qt r.1[i]=c)<;>simp
    rw[qct (by omega) (by omega),qbw (by omega),q7u N n hN K r hr c m (i+1) _ (by omega) (by omega) (by omega)]
    congr 1
    simp only[Bool.true_and]
    omega
  ·rw[qh (by omega),qs5 h]
   congr 1;simp[many]
theorem q6x (hn:W+1≤n) (r:qfi) (hr:r.1.length≤1000) (c:Int):qo8 (DD X n) r c=some ((many c r.1,()),()):=by
 obtain ⟨n,rfl⟩:∃ k,n=k+1:=⟨n - 1,by omega⟩
 have hW:=qcp
 rw[q4b hX]
 simp only[qp7,qpd,qnd]
 have e:=q7u hX n n (by omega) (fun v0_0=>qme (DD X n) n v0_0) r hr c n 0 0 (by omega) (by omega) (by omega)
 rw[show ((0:Nat):Int)=0 from rfl,List.drop_zero,Int.zero_add] at e
 rw[e];rfl
theorem qw6 (N n:Nat) (hN:4≤N) (K:qfi→List Int→Option ((List Int×Unit)×Unit)) {r:qfi} (hr:RightR r):∀ (m i:Nat) (ws:List Int),i≤4→4 - i<m→qkp ws→
  ∃ ws',qkp ws'∧qgu (DD X N) n K m (i:Int) r ws=K r ws'
 | 0,_,_,_,h,_=>by omega
 | m+1,i,ws,hi,hf,hw=>by
  have hl:=hr.len
  have hst:=hr.st
  simp only[qgu,qow]
  by_cases h:i<4
  ·have hi2:i<r.1.length:=by omega
   have hv:=hr.rng r.1[i] (List.getElem_mem hi2)
   have hrow:qba (i:Int)=i:=by unfold qba;rw[qcm.2 (by omega)];rfl
   have hw1:=hw.set i (x:=r.1[i]) (by omega)
   rw[ql (by omega),ix hi2,br_t,Int.toNat_natCast,qko hi2,qee hX (by omega),qc,hrow]
   dsimp only
   rw[ixn (by omega) (by rw[hw.1];omega),br_t,Int.toNat_natCast]
   by_cases h0:r.1[i]=0
   ·rw[ql h0,qbw (by omega)]
    exact qw6 N n hN K hr m (i+1) _ (by omega) (by omega) hw1
   ·rw[qh h0,qha hX (by omega),qc]
    dsimp only
    have ho:=qps r.1[i]
    have hvi:=qlp r.1[i]
    have hw2:=hw1.set (Int.toNat (qbm r.1[i])) (x:=((i+1:Nat):Int)) (by omega)
    rw[ixn (by omega) (by rw[hw1.1];omega),br_t,qbw (by omega)]
    by_cases hs:(i:Int)<IntKind.wrap IntKind.i64 (r.2.1 - 1)
    ·rw[ql hs,qjs hX (by omega),qc]
     dsimp only
     rw[ixn (by omega) (by rw[hw2.1];omega),br_t]
     exact qw6 N n hN K hr m (i+1) _ (by omega) (by omega) (hw2.set _ (by omega))
    ·rw[qh hs]
     exact qw6 N n hN K hr m (i+1) _ (by omega) (by omega) hw2
  ·rw[qh (by omega)]
   exact ⟨ws,hw,rfl⟩
theorem q9u (N n:Nat) (hN:W+4≤N) (K:qfi→List Int→Option ((List Int×Unit)×Unit)) {r:qfi} (hr:RightR r):∀ (m i:Nat) (ws:List Int),i≤3→3 - i<m→qkp ws→
  ∃ ws',qkp ws'∧qgv (DD X N) n K m (i:Int) r ws=K r ws'
 | 0,_,_,_,h,_=>by omega
 | m+1,i,ws,hi,hf,hw=>by
  have hl:=hr.len
  have hW:=qcp
  simp only[qgv,qoj]
  by_cases h:i<3
  ·have hc:=qqm (i:Int)
   have hm:=q7d (i:Int) r.1
   rw[ql (by omega),qiq hX (by omega),qc]
   dsimp only
   rw[q6x hX (by omega) r (by omega),qc]
   dsimp only
   rw[ixn (by omega) (by rw[hw.1];omega),br_t,qbw (by omega)]
   exact q9u N n hN K hr m (i+1) _ (by omega) (by omega) (hw.set _ (by omega))
  ·rw[qh (by omega)]
   exact ⟨ws,hw,rfl⟩
theorem qbaj (hn:W+6≤n) {r:qfi} (hr:RightR r):∃ ws,qkp ws∧qo7 (DD X n) r=some ((ws,()),()):=by
 obtain ⟨n,rfl⟩:∃ k,n=k+1:=⟨n - 1,by omega⟩
 have hW:=qcp
 have hst:=hr.st
 rw[q3f hX]
 simp only[qpk,qpv]
 rw[q9a hX (by omega) hr,qc]
 dsimp only
 rw[Bool.not_true,br_f]
 simp only[qnf]
 have h0:qkp (List.replicate (Int.toNat 20) 0):=⟨rfl,fun x hx=>by have:=(List.mem_replicate.1 hx).2;omega⟩
 obtain ⟨w1,h1,e1⟩:=qw6 hX n n (by omega) (fun v0_0 v0_1=>qi1 (DD X n) n (qka (DD X n) n) v0_0 v0_1) hr n 0 _ (by omega) (by omega) h0
 rw[show ((0:Nat):Int)=0 from rfl] at e1
 obtain ⟨w2,h2,e2⟩:=q9u hX n n (by omega) (fun v0_0 v0_1=>qi0 (DD X n) n v0_0 v0_1) hr n 0 w1 (by omega) (by omega) h1
 rw[show ((0:Nat):Int)=0 from rfl] at e2
 refine ⟨w2.set 13 r.2.1,h2.set 13 (by omega),e1.trans ?_⟩
 simp only[qi1,qka]
 rw[e2]
 simp only[qi0]
 rw[qe0 hX (by omega),qc]
 dsimp only
 rw[ixn (by omega) (by rw[h2.1];omega),br_t]
 rfl
end
end Go.G

namespace Go.G
set_option maxRecDepth 100000
open Go Go.V Go.Proofs
section
variable {X:Ext} (hX:XOk X) {n:Nat}
include hX
theorem q60 (hn:6≤n) {c:Cur} (hc:qf0 c):∃ (o:Op3) (c':Cur),qf0 c'∧opOk o=true∧qls (DD X n) c=some ((o,()),(c',())):=by
 obtain ⟨n,rfl⟩:∃ k,n=k+1:=⟨n - 1,by omega⟩
 rw[qyb hX]
 simp only[qlw,qq4]
 obtain ⟨k,c1,hk,hc1,e1⟩:=qz6 hX (n:=n) (by omega) hc [1,1,1,2,2,3,4,5,6,7,8,9,9,10] (by simp)
 have hk2:k=1∨k=2∨k=3∨k=4∨k=5∨k=6∨k=7∨k=8∨k=9∨k=10:=by
  simp only[List.mem_cons,List.not_mem_nil,or_false] at hk
  omega
 obtain ⟨x,c2,h2,_,hc2,e2⟩:=qdh hX (n:=n) (by omega) hc1 4
 obtain ⟨y,c3,h3,_,hc3,e3⟩:=qdh hX (n:=n) (by omega) hc2 4
 obtain ⟨z,c4,h4,_,hc4,e4⟩:=qdh hX (n:=n) (by omega) hc1 3
 obtain ⟨x0,x1⟩:=h2 (by omega)
 obtain ⟨y0,y1⟩:=h3 (by omega)
 obtain ⟨z0,z1⟩:=h4 (by omega)
 have ix4:inR x 0 3=true:=qcm.2 (by omega)
 have iz:inR z 0 2=true:=qcm.2 (by omega)
 have wy:IntKind.wrap IntKind.i64 (1+y)=1+y:=qct (by omega) (by omega)
 have wx:IntKind.wrap IntKind.i64 (1+x)=1+x:=qct (by omega) (by omega)
 have iy:inR (1+y) 1 6=true:=qcm.2 (by omega)
 have ix6:inR (1+x) 1 6=true:=qcm.2 (by omega)
 simp only[show (List.set (List.set (List.set (List.set (List.set (List.set (List.set (List.set (List.set (List.set (List.set (List.set (List.set (List.set (List.replicate 14 (0:Int)) 0 1) 1 1) 2 1) 3 2) 4 2) 5 3) 6 4) 7 5) 8 6) 9 7) 10 8) 11 9) 12 9) 13 10)=[1,1,1,2,2,3,4,5,6,7,8,9,9,10] from rfl]
 rw[e1,qc]
 dsimp only
 rw[qba0 hX (by omega),qc]
 dsimp only
 rcases hk2 with rfl | rfl | rfl | rfl | rfl | rfl | rfl | rfl | rfl | rfl
 ·rw[show inR 1 1 4=true from rfl,br_t,e2,qc]
  dsimp only
  rw[qh (by decide),qjj hX (by omega),qc]
  dsimp only
  rw[show (bif bif bif decide ((1:Int)=1) then true else decide ((1:Int)=2) then true else decide ((1:Int)=5) then true else decide ((1:Int)=10))=true from rfl,br_t,e3,qc,wy]
  exact ⟨_,_,hc3,by show (inR x 0 3&&inR (1+y) 1 6)=true;rw[ix4,iy];rfl,rfl⟩
 ·rw[show inR 2 1 4=true from rfl,br_t,e2,qc]
  dsimp only
  rw[qh (by decide),qjj hX (by omega),qc]
  dsimp only
  rw[show (bif bif bif decide ((2:Int)=1) then true else decide ((2:Int)=2) then true else decide ((2:Int)=5) then true else decide ((2:Int)=10))=true from rfl,br_t,e3,qc,wy]
  exact ⟨_,_,hc3,by show (inR x 0 3&&inR (1+y) 1 6)=true;rw[ix4,iy];rfl,rfl⟩
 ·rw[show inR 3 1 4=true from rfl,br_t,e2,qc]
  dsimp only
  rw[qh (by decide),qjj hX (by omega),qc]
  dsimp only
  rw[show (bif bif bif decide ((3:Int)=1) then true else decide ((3:Int)=2) then true else decide ((3:Int)=5) then true else decide ((3:Int)=10))=false from rfl,br_f]
  exact ⟨_,_,hc2,by show (inR x 0 3&&true)=true;rw[ix4];rfl,rfl⟩
 ·rw[show inR 4 1 4=true from rfl,br_t,e2,qc]
  dsimp only
  rw[qh (by decide),qjj hX (by omega),qc]
  dsimp only
  rw[show (bif bif bif decide ((4:Int)=1) then true else decide ((4:Int)=2) then true else decide ((4:Int)=5) then true else decide ((4:Int)=10))=false from rfl,br_f]
  exact ⟨_,_,hc2,by show (inR x 0 3&&true)=true;rw[ix4];rfl,rfl⟩
 ·rw[show inR 5 1 4=false from rfl,br_f,qh (by decide),qjj hX (by omega),qc]
  dsimp only
  rw[show (bif bif bif decide ((5:Int)=1) then true else decide ((5:Int)=2) then true else decide ((5:Int)=5) then true else decide ((5:Int)=10))=true from rfl,br_t,e2,qc,wx]
  exact ⟨_,_,hc2,by show (true&&inR (1+x) 1 6)=true;rw[ix6];rfl,rfl⟩
 ·rw[show inR 6 1 4=false from rfl,br_f,ql rfl,e4,qc]
  dsimp only
  rw[qjj hX (by omega),qc]
  dsimp only
  rw[show (bif bif bif decide ((6:Int)=1) then true else decide ((6:Int)=2) then true else decide ((6:Int)=5) then true else decide ((6:Int)=10))=false from rfl,br_f]
  exact ⟨_,_,hc4,by show (inR z 0 2&&true)=true;rw[iz];rfl,rfl⟩
 ·rw[show inR 7 1 4=false from rfl,br_f,qh (by decide),qjj hX (by omega),qc]
  exact ⟨_,_,hc1,rfl,rfl⟩
 ·rw[show inR 8 1 4=false from rfl,br_f,qh (by decide),qjj hX (by omega),qc]
  exact ⟨_,_,hc1,rfl,rfl⟩
 ·rw[show inR 9 1 4=false from rfl,br_f,qh (by decide),qjj hX (by omega),qc]
  exact ⟨_,_,hc1,rfl,rfl⟩
 ·rw[show inR 10 1 4=false from rfl,br_f,qh (by decide),qjj hX (by omega),qc]
  dsimp only
  rw[show (bif bif bif decide ((10:Int)=1) then true else decide ((10:Int)=2) then true else decide ((10:Int)=5) then true else decide ((10:Int)=10))=true from rfl,br_t,e2,qc,wx]
  exact ⟨_,_,hc2,by show (true&&inR (1+x) 1 6)=true;rw[ix6];rfl,rfl⟩
theorem q8w (hn:7≤n) {c:Cur} (hc:qf0 c):∃ (o:Op3) (c':Cur),qf0 c'∧qm1 (DD X n) c=some ((o,()),(c',())):=by
 obtain ⟨n,rfl⟩:∃ k,n=k+1:=⟨n - 1,by omega⟩
 rw[q6q hX]
 simp only[qro,qxe]
 obtain ⟨o,c1,hc1,_,e1⟩:=q60 hX (n:=n) (by omega) hc
 obtain ⟨x,c2,_,_,hc2,e2⟩:=qdh hX (n:=n) (by omega) hc1 10
 rw[e1,qc]
 dsimp only
 rw[e2,qc]
 dsimp only
 by_cases h0:x=0
 ·obtain ⟨y,c3,_,_,hc3,e3⟩:=qdh hX (n:=n) (by omega) hc2 13
  rw[ql h0,e3,qc]
  exact ⟨_,_,hc3,rfl⟩
 rw[qh h0]
 by_cases h1:x=1
 ·obtain ⟨y,c3,_,_,hc3,e3⟩:=qdh hX (n:=n) (by omega) hc2 7
  rw[ql h1,e3,qc]
  exact ⟨_,_,hc3,rfl⟩
 rw[qh h1]
 by_cases h2:x=2
 ·obtain ⟨y,c3,_,_,hc3,e3⟩:=qdh hX (n:=n) (by omega) hc2 9
  rw[ql h2,e3,qc]
  exact ⟨_,_,hc3,rfl⟩
 rw[qh h2]
 exact ⟨_,_,hc2,rfl⟩
theorem qbe7 (N n:Nat) (hN:W+13≤N) (K:Cur→Got→Option ((Got×Unit)×(Cur×Unit))) (most:Int) (c:Cur) (o:Op3) {ws:List Int} (hw:qkp ws):∀ (m i:Nat) (got:Got),i≤12→12 - i<m→got.length≤i→qo1 got→
  ∃ got',got'.length≤12∧qo1 got'∧qfs (DD X N) n K m most (i:Int) c o ws got=K c got'
 | 0,_,_,_,h,_,_=>by omega
 | m+1,i,got,hi,hf,hl,hv=>by
  have hb:=qgl
  simp only[qfs,qmj]
  cases hc:(bif decide ((i:Int)<most) then decide ((i:Int)<12) else false)
  ·rw[br_f];exact ⟨got,by omega,hv,rfl⟩
  ·have hi2:(i:Int)<12:=by
    by_cases h1:(i:Int)<most
    ·rw[decide_eq_true h1,cond_true,decide_eq_true_eq] at hc;exact hc
    ·rw[decide_eq_false h1,cond_false] at hc;cases hc
   rw[br_t,quy hX (by omega) (by omega),qc]
   dsimp only
   generalize qoe o got=p
   by_cases hp:p<0∨p≥(ws.length:Int)
   ·rw[show (bif decide (p<0) then true else decide (p≥(ws.length:Int)))=true by
     rcases hp with h | h
     ·rw[decide_eq_true h];rfl
     ·rw[decide_eq_true h];cases decide (p<0)<;>rfl,br_t]
    exact ⟨got,by omega,hv,rfl⟩
   ·rw[show (bif decide (p<0) then true else decide (p≥(ws.length:Int)))=false by
     rw[decide_eq_false (by omega),decide_eq_false (by omega)];rfl,br_f,ixn (by omega) (by omega),br_t,ql (by omega),qbw (by omega)]
    refine qbe7 N n hN K most c o hw m (i+1) _ (by omega) (by omega) (by rw[List.length_append,List.length_singleton];omega) (fun x hx=>?_)
    rcases List.mem_append.1 hx with h | h
    ·exact hv x h
    ·simp only[List.mem_singleton] at h
     subst h
     have:ws.getD p.toNat 0∈ws:=by rw[qko (by omega)];exact List.getElem_mem _
     have:=hw.2 _ this
     exact ⟨by show -1≤ws.getD p.toNat 0;omega,by show ws.getD p.toNat 0≤1000000;omega⟩
theorem qz7 (hn:W+14≤n) {c:Cur} (hc:qf0 c) {r:qfi} (hr:RightR r) (o:Op3) (most:Int):∃ (got:Got) (c':Cur),got.length≤12∧qo1 got∧qf0 c'∧qjt (DD X n) c r o most=some ((got,()),(c',())):=by
 obtain ⟨n,rfl⟩:∃ k,n=k+1:=⟨n - 1,by omega⟩
 have hW:=qcp
 rw[q08 hX]
 simp only[qnb,qnc,qlt]
 obtain ⟨ws,hw,e1⟩:=qbaj hX (n:=n) (by omega) hr
 rw[e1,qc]
 dsimp only
 obtain ⟨got,hl,hv,e2⟩:=qbe7 hX n n (by omega) (fun v0_0 v0_1=>qhv (DD X n) n v0_0 v0_1) most c o hw n 0 [] (by omega) (by omega) (by simp) (fun x hx=>by simp at hx)
 rw[show ((0:Nat):Int)=0 from rfl] at e2
 rw[e2]
 simp only[qhv]
 by_cases h0:(got.length:Int)>0
 ·obtain ⟨b,c1,hc1,e3⟩:=qbe1 hX (n:=n) (by omega) hc 8
  rw[ql h0,e3,qc]
  dsimp only
  cases b with
  | false=>rw[br_f];exact ⟨_,_,hl,hv,hc1,rfl⟩
  | true=>
   obtain ⟨x,c2,h2,_,hc2,e4⟩:=qdh hX (n:=n) (by omega) hc1 (got.length:Int)
   obtain ⟨x0,x1⟩:=h2 (by omega)
   obtain ⟨y,c3,h3,_,hc3,e5⟩:=qdh hX (n:=n) (by omega) hc2 9
   obtain ⟨y0,y1⟩:=h3 (by omega)
   rw[br_t,e4,qc]
   dsimp only
   rw[e5,qc]
   dsimp only
   rw[ixn (by omega) (by omega),br_t,qct (by omega) (by omega)]
   refine ⟨_,_,by rw[List.length_set];exact hl,fun z hz=>?_,hc3,rfl⟩
   rcases List.mem_or_eq_of_mem_set hz with h | rfl
   ·exact hv z h
   ·exact ⟨by show -1≤y - 1;omega,by show y - 1≤1000000;omega⟩
 ·rw[qh h0]
  exact ⟨_,_,hl,hv,hc,rfl⟩
theorem qbbr (hn:W+16≤n) (a:List Int) (ha:a.length≤1048576):∃ (o:Op3) (got:Got),got.length≤12∧qo1 got∧qn1 (DD X n) a=some ((o,got,()),()):=by
 obtain ⟨n,rfl⟩:∃ k,n=k+1:=⟨n - 1,by omega⟩
 have hW:=qcp
 rw[q2p hX]
 simp only[qov,qui]
 obtain ⟨c,hc,e1⟩:=q31 hX (n:=n) (by omega) a ha
 obtain ⟨o,c1,hc1,e2⟩:=q8w hX (n:=n) (by omega) hc
 obtain ⟨r,c2,hr,_,hc2,e3⟩:=qxb hX (n:=n) (by omega) hc1
 obtain ⟨x,c3,_,_,hc3,e4⟩:=qdh hX (n:=n) (by omega) hc2 12
 obtain ⟨got,c4,hl,hv,hc4,e5⟩:=qz7 hX (n:=n) (by omega) hc3 hr o x
 rw[e1,qc]
 dsimp only
 rw[e2,qc]
 dsimp only
 rw[e3,qc]
 dsimp only
 rw[e4,qc]
 dsimp only
 rw[show (r.1,r.2)=r from rfl,e5,qc]
 exact ⟨o,got,hl,hv,rfl⟩
theorem q8n (hn:W+16≤n) (a:List Int) (ha:a.length≤1048576):∃ (o:Op3) (got:Got),got.length≤12∧qo1 got∧qmf (DD X n) a=some ((o,got,()),()):=by
 obtain ⟨n,rfl⟩:∃ k,n=k+1:=⟨n - 1,by omega⟩
 have hW:=qcp
 rw[qzm hX]
 simp only[qmk,qse]
 obtain ⟨c,hc,e1⟩:=q31 hX (n:=n) (by omega) a ha
 obtain ⟨o,c1,hc1,e2⟩:=q8w hX (n:=n) (by omega) hc
 obtain ⟨r,c2,hr,_,hc2,e3⟩:=qxb hX (n:=n) (by omega) hc1
 obtain ⟨x,c3,_,_,hc3,e4⟩:=qdh hX (n:=n) (by omega) hc2 8
 obtain ⟨got,c4,hl,hv,hc4,e5⟩:=qz7 hX (n:=n) (by omega) hc3 hr o (IntKind.wrap IntKind.i64 (12 - IntKind.wrap IntKind.i64 (IntKind.wrap IntKind.i64 (Int.tdiv x 7) * 10)))
 rw[e1,qc]
 dsimp only
 rw[e2,qc]
 dsimp only
 rw[e3,qc]
 dsimp only
 rw[e4,qc]
 dsimp only
 rw[show (r.1,r.2)=r from rfl,e5,qc]
 exact ⟨o,got,hl,hv,rfl⟩
end
end Go.G

namespace Go.G
set_option maxRecDepth 100000
open Go Go.V Go.Proofs
theorem qbd6 {k V row owner st cnt:Int} {x:Int×List Int} (h:nowP k V row owner st cnt=some x):x.2.length≤1:=by
 unfold nowP at h
 by_cases c0:k=1∧row≠0
 ·rw[if_pos c0] at h;cases h;simp
 rw[if_neg c0] at h
 by_cases c1:k=1∧owner≠0
 ·rw[if_pos c1] at h;cases h;simp
 rw[if_neg c1] at h
 by_cases c2:(k=2∨k=3∨k=4)∧row=0
 ·rw[if_pos c2] at h;cases h;simp
 rw[if_neg c2] at h
 by_cases c3:k=2∧row=V
 ·rw[if_pos c3] at h;cases h;simp
 rw[if_neg c3] at h
 by_cases c4:k=2∧owner≠0
 ·rw[if_pos c4] at h;cases h;simp
 rw[if_neg c4] at h
 by_cases c5:k=4
 ·rw[if_pos c5] at h;cases h;simp
 rw[if_neg c5] at h
 by_cases c6:k=5∧owner=0
 ·rw[if_pos c6] at h;cases h;simp
 rw[if_neg c6] at h
 by_cases c7:k=5
 ·rw[if_pos c7] at h;cases h;simp
 rw[if_neg c7] at h
 by_cases c8:k=6
 ·rw[if_pos c8] at h;cases h;simp
 rw[if_neg c8] at h
 by_cases c9:k=8∧st≠0
 ·rw[if_pos c9] at h;cases h;simp
 rw[if_neg c9] at h
 by_cases c10:k=9∧(st<1∨st>4)
 ·rw[if_pos c10] at h;cases h;simp
 rw[if_neg c10] at h
 by_cases c11:k=10∧st≠5
 ·rw[if_pos c11] at h;cases h;simp
 rw[if_neg c11] at h
 cases h
theorem qbdc (o:Op3) (got:Got):(qt7 o got).1.2.1.2.1.length≤20∧(qt7 o got).1.2.2.1.length≤20:=by
 unfold qt7
 split
 ·cases hn:qm0 o got with
  | some x=>
   have:=qbd6 hn
   exact ⟨by show x.2.length≤20;omega,by show (0:Nat)≤20;omega⟩
  | none=>
   refine ⟨?_,?_⟩
   ·show (resP o got).2.1.length≤20
    unfold resP
    repeat' split
    all_goals simp
   ·show (entP o got).length≤20
    unfold entP
    split
    ·rw[qik]
     have:=Nat.le_trans (q0s got (chgL o.2.1 o.2.2.1 (val got (qba o.2.1)) (val got 13))) (q9s _ _ _ _)
     simp only[List.length_nil];omega
    ·repeat' split
     ·simp
     ·simp
     ·cases inR (val got (qba (IntKind.wrap IntKind.i64 (val got 13 - 1)))) 1 6<;>simp
     ·simp
     ·simp
 ·exact ⟨by show (0:Nat)≤20;omega,by show (0:Nat)≤20;omega⟩
section
variable {X:Ext} (hX:XOk X) {n:Nat}
include hX
theorem qbda (D:Den ctx) (n:Nat) (K0:List Int→List Int→Bool→Option ((Bool×Unit)×Unit)) (K1:List Int→List Int→Option ((Bool×Unit)×Unit)) (l:List Int) (hl:l.length≤1000):∀ (m i:Nat),i≤l.length→l.length - i<m→
  qhh D n K0 K1 m l l (i:Int)=K1 l l
 | 0,_,_,h=>by omega
 | m+1,i,hi,hf=>by
  simp only[qhh,qqr]
  by_cases h:i<l.length
  ·rw[decide_eq_true (by omega:(i:Int)<(l.length:Int)),cond_true,br_t,decide_eq_true (by omega:(0:Int)≤(i:Int)),Bool.and_self,br_t,br_t,bned,decide_eq_true rfl,Bool.not_true,br_f,qbw (by omega)]
   exact qbda D n K0 K1 l hl m (i+1) (by omega) (by omega)
  ·rw[decide_eq_false (by omega:¬ (i:Int)<(l.length:Int)),cond_false,br_f]
theorem qbd0 (hn:W+1≤n) (l:List Int) (hl:l.length≤1000):qrq (DD X n) l l=some ((true,()),()):=by
 obtain ⟨n,rfl⟩:∃ k,n=k+1:=⟨n - 1,by omega⟩
 have hW:=qcp
 rw[q6o hX]
 simp only[qrw,qrr,qo2]
 have e:=qbda hX (DD X n) n (fun v0_0 v0_1 v0_2=>qm9 (DD X n) n v0_0 v0_1 v0_2) (fun v1_0 v1_1=>qjz (DD X n) n v1_0 v1_1) l hl n 0 (by omega) (by omega)
 rw[show ((0:Nat):Int)=0 from rfl] at e
 rw[e]
 simp[qjz]
theorem eqE (x:qbq):qmz (Ty.pair (Ty.int IntKind.i64) (Ty.pair (Ty.int IntKind.i64) (Ty.pair (Ty.int IntKind.i64) Ty.unit))) x x=true:=by
 simp only[qmz,beq_self_eq_true,Bool.and_self]
theorem q48 (D:Den ctx) (n:Nat) (K0:Bool→Option ((Bool×Unit)×Unit)) (K1:Option ((Bool×Unit)×Unit)) (l:List qbq) (hl:l.length≤1000):∀ (m i:Nat),i≤l.length→l.length - i<m→
  qex D n K0 K1 m l l (i:Int)=K1
 | 0,_,_,h=>by omega
 | m+1,i,hi,hf=>by
  simp only[qex,qkw]
  by_cases h:i<l.length
  ·rw[ql (by omega),ix h,br_t,br_t,eqE hX,Bool.not_true,br_f,qbw (by omega)]
   exact q48 D n K0 K1 l hl m (i+1) (by omega) (by omega)
  ·rw[qh (by omega)]
theorem q6p (hn:W+1≤n) (l:List qbq) (hl:l.length≤1000):qlr (DD X n) l l=some ((true,()),()):=by
 obtain ⟨n,rfl⟩:∃ k,n=k+1:=⟨n - 1,by omega⟩
 have hW:=qcp
 rw[qyf hX]
 simp only[qld,qlo,qkc]
 have e:=q48 hX (DD X n) n (fun v0_0=>qjf (DD X n) n v0_0) (qi7 (DD X n) n) l hl n 0 (by omega) (by omega)
 rw[show ((0:Nat):Int)=0 from rfl] at e
 rw[show ((l.length:Int) != (l.length:Int))=false by simp,br_f,e]
 rfl
theorem qbb2 (hn:W+4≤n) (p:Plan) (h1:p.2.1.2.1.length≤1000) (h2:p.2.2.1.length≤1000):qnu (DD X n) p p=some ((true,()),()):=by
 obtain ⟨n,rfl⟩:∃ k,n=k+2:=⟨n - 2,by omega⟩
 rw[q24 hX]
 simp only[qoo,qud]
 rw[ql trivial,q3k hX]
 simp only[qqh,qvb]
 rw[ql trivial,qbd0 hX (by omega) _ h1,qc,qc]
 dsimp only
 rw[br_t,q6p hX (by omega) _ h2,qc]
theorem qbdh (N n:Nat) (hN:5≤N) (K:Got→Cur→Option ((Got×Int×Unit)×Unit)):∀ (m i:Nat) (got:Got) (c:Cur),i≤6→6 - i<m→got.length≤i→qf0 c→
  ∃ (got':Got) (c':Cur),got'.length≤6∧qf0 c'∧qf5 (DD X N) n K m (i:Int) got c=K got' c'
 | 0,_,_,_,_,h,_,_=>by omega
 | m+1,i,got,c,hi,hf,hl,hc=>by
  have hb:=qgl
  simp only[qf5,qne]
  obtain ⟨x,c1,h1,_,hc1,e1⟩:=qdh hX (n:=N) (by omega) hc 6
  obtain ⟨x0,x1⟩:=h1 (by omega)
  rw[e1,qc]
  dsimp only
  by_cases h:(i:Int)<x
  ·obtain ⟨y,c2,_,_,hc2,e2⟩:=qdh hX (n:=N) (by omega) hc1 5
   obtain ⟨z,c3,_,_,hc3,e3⟩:=qdh hX (n:=N) (by omega) hc2 9
   rw[ql h,e2,qc]
   dsimp only
   rw[e3,qc]
   dsimp only
   rw[ql (by omega),qbw (by omega)]
   exact qbdh N n hN K m (i+1) _ c3 (by omega) (by omega) (by rw[List.length_append,List.length_singleton];omega) hc3
  ·rw[qh h]
   exact ⟨got,c1,by omega,hc1,rfl⟩
theorem qbb9 (hn:W+3≤n) (a:List Int) (ha:a.length≤1048576):∃ (got:Got) (p:Int),got.length≤6∧qot (DD X n) a=some ((got,p,()),()):=by
 obtain ⟨n,rfl⟩:∃ k,n=k+1:=⟨n - 1,by omega⟩
 have hW:=qcp
 rw[q2e hX]
 simp only[qnr,qns,qmg]
 obtain ⟨c,hc,e1⟩:=q31 hX (n:=n) (by omega) a ha
 rw[e1,qc]
 dsimp only
 obtain ⟨got,c1,hl,hc1,e2⟩:=qbdh hX n n (by omega) (fun v0_0 v0_1=>qif (DD X n) n v0_0 v0_1) n 0 [] c (by omega) (by omega) (by simp) hc
 rw[show ((0:Nat):Int)=0 from rfl] at e2
 rw[e2]
 simp only[qif]
 obtain ⟨x,c2,_,_,_,e3⟩:=qdh hX (n:=n) (by omega) hc1 6
 rw[e3,qc]
 exact ⟨got,_,hl,rfl⟩
end
end Go.G

/- The row FnNeeds holds: for all bytes the law returns true and the argument reads as before. No condition. -/
namespace Go.G
set_option linter.unusedVariables false
set_option linter.unusedSimpArgs false
set_option maxRecDepth 100000
open Go Go.V Go.Proofs

theorem qbau (a:List Int):qu6 (DD q67 (W+20)) a=some ((true,()),()):=by
 have hX:XOk q67:=qbe2
 have hW:=qcp
 have hb:=qgl
 rw[q3a hX]
 simp only[qql,qvs]
 rw[qbhg hX (by omega),qc]
 dsimp only
 by_cases hbig:(a.length:Int)>1048576
 ·rw[ql hbig]
 rw[qh hbig]
 obtain ⟨o,got,hl,hv,e1⟩:=qbbr hX (n:=W+19) (by omega) a (by omega)
 obtain ⟨x,words,hlw,hvw,e2⟩:=q8n hX (n:=W+19) (by omega) a (by omega)
 obtain ⟨list,p,hll,e3⟩:=qbb9 hX (n:=W+19) (by omega) a (by omega)
 have hpl:=qbdc x words
 have hbd:=q3e got (prog o) (q89 o)
 rw[e1,qc]
 dsimp only
 rw[e2,qc]
 dsimp only
 rw[q8y hX (by omega) (by omega),qc,q8p hX (by omega) (by omega) hvw,qc]
 dsimp only
 rw[e3,qc]
 dsimp only
 rw[qdy hX (by omega) list (by omega),qc,qdj hX (by omega) list (by omega),qc]
 dsimp only
 rw[qbam hX (by omega) (by omega),qc,quy hX (by omega) (by omega),qc]
 dsimp only
 rw[bned,decide_eq_true rfl,Bool.not_true,cond_false,decide_eq_true rfl,Bool.not_true,br_f]
 rw[qbb2 hX (by omega) (qt7 x words).1 (by omega) (by omega),qc]
 dsimp only
 rw[Bool.not_true,cond_false,bned,decide_eq_true rfl,Bool.not_true,cond_false,decide_eq_true rfl,Bool.not_true,br_f]
 simp only[qc]
 have hnx : -1≤qoe o got∧qoe o got<20:=by
  unfold qoe
  split
  ·exact hbd
  ·omega
 rw[show (bif decide (qoe o got≥20) then true else decide (qoe o got < -1))=false by
  rw[decide_eq_false (by omega),decide_eq_false (by omega)];rfl,br_f,ql (by omega),ql (by rw[List.nil_append];omega)]
 rw[List.nil_append,qdy hX (by omega) (list++[(p,77,())]) (by rw[List.length_append,List.length_singleton];omega),qc]
 have hrd:qw (list++[(p,77,())]) p=(77,true):=by
  unfold qw
  rw[qy9,if_pos rfl]
 rw[hrd]
 rfl
end Go.G
namespace Go.Proofs.YtcdcbckcploljaaGreat
open Go.ChangeShapes Go.WideShapes Go.ChangeAt Go.RowKit Go.V Go.G
set_option maxRecDepth 100000
theorem fnNeeds_lifted (os:Os) (started:os.Started) (H:Type) (enc:TypeId×Value→H) :
  ReturnsInHanded {} Tryz.checked os 4 .any (Rows.fnNeedsSpec.pre6 enc Tryz.prog Tryz.f4 Rows.fnNeedsRow.domain false) (Rows.fnNeedsSpec.post enc Tryz.prog Tryz.f4 false true false false):=
 qbco (X:=q67) (tb:=4) started Tryz.func4 (by kernel_rfl)
  (ChangeSpec.witness6 (enc:=enc) (C:=Tryz.checked) false ⟨#[],Tryz.f4.params.map fun t=>((Tryz.prog.info? t).bind (·.zero)).getD .nilIface,[]⟩ 8 (by kernel_rfl) (by kernel_rfl) (by kernel_rfl) (by kernel_rfl))
  ⟨rfl,rfl,trivial⟩ (by kernel_rfl) (by kernel_rfl) (by kernel_rfl) rfl
  (fun ds h=>by
   match ds,h with
   | [d0],_=>exact ⟨rfl,rfl,rfl⟩)
  (fun a wa=>⟨W+20,((true,()),()),qbau a.1,fun h Pr Gs us k=>by
   obtain ⟨v,vs,rfl,⟨c,r,rfl⟩,e⟩:=k
   obtain rfl:vs=[]:=e
   simp only[Rep] at r
   subst r
   rfl⟩)
theorem fnNeeds_holds:Rows.FnNeedsSaid:=
 OpenClaim.holds_of_wide 4 Tryz.f4 rfl rfl rfl rfl rfl rfl rfl ⟨rfl,rfl,rfl,rfl,rfl⟩ rfl rfl rfl rfl rfl (by kernel_rfl) Tryz.func4 (by kernel_rfl)
  (of_decide_eq_true (by kernel_rfl)) (by unfold Func.isWrapper;first | (rw[if_pos (by decide +kernel)];kernel_rfl) | (rw[if_neg (by decide +kernel)];exact ⟨rfl,rfl⟩))
  (fun os started H enc _=>fnNeeds_lifted os started H enc)
#print axioms fnNeeds_holds
end Go.Proofs.YtcdcbckcploljaaGreat


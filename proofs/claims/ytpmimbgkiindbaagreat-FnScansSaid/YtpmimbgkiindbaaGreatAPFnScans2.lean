import Derived.Test.YtpmimbgkiindbaaGreatAPFnScans1
set_option linter.unusedVariables false
set_option linter.unusedSimpArgs false
set_option linter.unusedSectionVars false
open Go.IntKind (wrap)
namespace Go.G
open Go Go.V
theorem br_t {R:Type} {a b:Option R}:br true a b=a:=rfl
theorem br_f {R:Type} {a b:Option R}:br false a b=b:=rfl
theorem qg {R:Type} {a b:Option R} {p:Prop} [Decidable p] (h:p):br (decide p) a b=a:=by simp[br,h]
theorem qh {R:Type} {a b:Option R} {p:Prop} [Decidable p] (h:¬ p):br (decide p) a b=b:=by simp[br,h]
theorem qc {α R:Type} {a:α} {f:α→Option R}:qd (some a) f=f a:=rfl
theorem qb3q {R:Type} {c:Bool} {a:Option R}:br c a a=a:=by cases c<;>rfl
theorem q9u {R:Type} {c:Bool} {a b:Option R}:br c a b=if c=true then a else b:=by cases c<;>rfl
theorem qbzu (x:Int):wrap .i64 x=if x % 18446744073709551616≥9223372036854775808 then x % 18446744073709551616 - 18446744073709551616 else x % 18446744073709551616:=by
 by_cases h:x % 18446744073709551616≥9223372036854775808<;>simp[IntKind.wrap,IntKind.signed,IntKind.bits,h]
theorem qo {x:Int} (h1 : -9223372036854775808≤x) (h2:x≤9223372036854775807):wrap .i64 x=x:=by
 rw[qbzu]
 split<;>omega
def W:Nat:=9223372036854775808
theorem qbf:W=9223372036854775808:=rfl
theorem qbi:qb7=274877906944:=rfl
theorem ix {α:Type} {l:List α} {i:Nat} (h:i<l.length):(decide (0≤(i:Int))&&decide ((i:Int)<(l.length:Int)))=true:=by
 simp only[z9,z45];omega
theorem ixn {α:Type} {l:List α} {i:Int} (h0:0≤i) (h:i<l.length):(decide (0≤i)&&decide (i<(l.length:Int)))=true:=by
 simp only[z9,z45];omega
theorem qs {i:Nat} (h:i<9223372036854775807):wrap .i64 ((i:Int)+1)=((i+1:Nat):Int):=by
 rw[qo]<;>omega
theorem qv {α:Type} {l:List α} {i:Nat} {d:α} (h:i<l.length):l.getD i d=l[i]:=by
 simp[List.getD,h]
theorem qgz {α:Type} {l:List α} {i:Nat} (h:i<l.length):l.drop i=l[i]::l.drop (i+1):=List.drop_eq_getElem_cons h
theorem qii {α:Type} {l:List α} {i:Nat} (h:¬ i<l.length):l.drop i=[]:=List.drop_eq_nil_of_le (by omega)
def tot:(t:Ty)→t.den→Nat
 | .unit,_=>0
 | .int _,_=>0
 | .bool,_=>0
 | .str,s=>s.size
 | .sl t,xs=>xs.length+(xs.map (tot t)).sum
 | .pair a b,x=>tot a x.1+tot b x.2
def left (t:Ty) (a:t.den) (k:Int):Int:=if (tot t a:Int)≤k then k - tot t a else -1
end Go.G

namespace Go.G
open Go Go.V
end Go.G

namespace Go.G
set_option maxRecDepth 100000
open Go Go.V Go.Proofs
abbrev Pair:=Int×Int×Unit
abbrev Got:=List Pair
abbrev Op3:=Int×Int×Int×Unit
abbrev qnm:=Got×List Int×Int×Bool×Unit
abbrev Work:=Got×Int×Bool×Unit
def inR (x a b:Int):Bool:=bif decide (x≥a) then decide (x≤b) else false
theorem qcb {x a b:Int}:inR x a b=true↔a≤x∧x≤b:=by
 unfold inR
 by_cases h:x≥a
 ·rw[z11 h];simp only[z21,z45];omega
 ·rw[z10 h];simp only[z20];constructor
  ·intro k;cases k
  ·intro k;omega
theorem qro {x a b:Int} (h:¬ (a≤x∧x≤b)):inR x a b=false:=by
 cases k:inR x a b
 ·rfl
 ·exact absurd (qcb.1 k) h
def qr (k:Int):Int:=bif inR k 0 3 then k else -1
def qy (v:Int):Int:=bif inR v 1 6 then wrap .i64 (3+v) else -1
def qbw (c:Int):Int:=bif inR c 0 2 then wrap .i64 (10+c) else -1
def qbt (v:Int):Int:=bif inR v 1 6 then wrap .i64 (13+v) else -1
def qi (v:Int):Int:=bif inR v 1 6 then Int.tmod v 3 else -1
section
variable {X:Ext} (hX:XOk X) {n:Nat}
include hX
theorem qd9 (hn:1≤n) (x a b:Int):qbp (DD X n) x a b=some ((inR x a b,()),()):=by
 obtain ⟨n,rfl⟩:∃ k,n=k+1:=⟨n - 1,by omega⟩
 rw[qbv4 hX];rfl
theorem qqd (hn:1≤n) (x a b:Int):qbo (DD X n) x a b=some ((inR x a b,()),()):=by
 obtain ⟨n,rfl⟩:∃ k,n=k+1:=⟨n - 1,by omega⟩
 rw[qbv9 hX];rfl
theorem qbcc (hn:1≤n) (b:Bool) (x:Int):qlb (DD X n) b x=some ((bif b then x else -1,()),()):=by
 obtain ⟨n,rfl⟩:∃ k,n=k+1:=⟨n - 1,by omega⟩
 rw[qbqk hX]
 cases b<;>rfl
theorem qbp4 (hn:2≤n) (x:Int):qqr (DD X n) x=some ((inR x 0 3,()),()):=by
 obtain ⟨n,rfl⟩:∃ k,n=k+1:=⟨n - 1,by omega⟩
 rw[qbug hX]
 simp only[q5t,qbez]
 rw[qd9 hX (by omega),qc]
theorem qqz (hn:2≤n) (x:Int):qgj (DD X n) x=some ((inR x 1 6,()),()):=by
 obtain ⟨n,rfl⟩:∃ k,n=k+1:=⟨n - 1,by omega⟩
 rw[qbt9 hX]
 simp only[q55,qbe6]
 rw[qd9 hX (by omega),qc]
theorem qbs8 (hn:2≤n) (x:Int):qrs (DD X n) x=some ((inR x 0 2,()),()):=by
 obtain ⟨n,rfl⟩:∃ k,n=k+1:=⟨n - 1,by omega⟩
 rw[qbn4 hX]
 simp only[qze,qbaw]
 rw[qd9 hX (by omega),qc]
theorem qbp9 (hn:2≤n) (x:Int):qv2 (DD X n) x=some ((inR x 0 3,()),()):=by
 obtain ⟨n,rfl⟩:∃ k,n=k+1:=⟨n - 1,by omega⟩
 rw[qbs4 hX]
 simp only[q6i,qbdq]
 rw[qqd hX (by omega),qc]
theorem qvi (hn:2≤n) (x:Int):qjf (DD X n) x=some ((inR x 1 6,()),()):=by
 obtain ⟨n,rfl⟩:∃ k,n=k+1:=⟨n - 1,by omega⟩
 rw[qbsr hX]
 simp only[q7r,qbdt]
 rw[qqd hX (by omega),qc]
theorem qbwr (hn:2≤n) (x:Int):qx0 (DD X n) x=some ((inR x 1 4,()),()):=by
 obtain ⟨n,rfl⟩:∃ k,n=k+1:=⟨n - 1,by omega⟩
 rw[qbva hX]
 simp only[q5y,qbep]
 rw[qqd hX (by omega),qc]
theorem qmp (hn:1≤n) (x:Int):qhm (DD X n) x=some ((bif bif bif decide (x=1) then true else decide (x=2) then true else decide (x=5) then true else decide (x=10),()),()):=by
 obtain ⟨n,rfl⟩:∃ k,n=k+1:=⟨n - 1,by omega⟩
 rw[qbt7 hX];rfl
theorem qgl (hn:1≤n):qcp (DD X n)=some ((13,()),()):=by
 obtain ⟨n,rfl⟩:∃ k,n=k+1:=⟨n - 1,by omega⟩
 rw[qbmx hX];rfl
theorem qbhx (hn:1≤n):qr4 (DD X n)=some ((13,()),()):=by
 obtain ⟨n,rfl⟩:∃ k,n=k+1:=⟨n - 1,by omega⟩
 rw[qbnp hX];rfl
theorem qi4 (hn:3≤n) (x:Int):qfi (DD X n) x=some ((qr x,()),()):=by
 obtain ⟨n,rfl⟩:∃ k,n=k+1:=⟨n - 1,by omega⟩
 rw[qbs7 hX]
 simp only[q61,qbey]
 rw[qbp4 hX (by omega),qc,qbcc hX (by omega),qc]
 rfl
theorem qj5 (hn:3≤n) (x:Int):qdo (DD X n) x=some ((qy x,()),()):=by
 obtain ⟨n,rfl⟩:∃ k,n=k+1:=⟨n - 1,by omega⟩
 rw[qbmv hX]
 simp only[qzs,qbap]
 rw[qqz hX (by omega),qc,qbcc hX (by omega),qc]
 rfl
theorem qj7 (hn:3≤n) (x:Int):qdn (DD X n) x=some ((qbw x,()),()):=by
 obtain ⟨n,rfl⟩:∃ k,n=k+1:=⟨n - 1,by omega⟩
 rw[qbom hX]
 simp only[qz8,q9s]
 rw[qbs8 hX (by omega),qc,qbcc hX (by omega),qc]
 rfl
theorem qln (hn:3≤n) (x:Int):qeo (DD X n) x=some ((qbt x,()),()):=by
 obtain ⟨n,rfl⟩:∃ k,n=k+1:=⟨n - 1,by omega⟩
 rw[qbun hX]
 simp only[q6y,qbe4]
 rw[qqz hX (by omega),qc,qgl hX (by omega),qc,qbcc hX (by omega),qc]
 rfl
theorem ql4 (hn:3≤n) (x:Int):qcq (DD X n) x=some ((qi x,()),()):=by
 obtain ⟨n,rfl⟩:∃ k,n=k+1:=⟨n - 1,by omega⟩
 rw[qbmw hX]
 simp only[q0g,qbaj]
 rw[qqz hX (by omega),qc]
 unfold qi
 cases inR x 1 6<;>rfl
theorem qb0k (hn:3≤n) (x:Int):q5q (DD X n) x=some ((qr x,()),()):=by
 obtain ⟨n,rfl⟩:∃ k,n=k+1:=⟨n - 1,by omega⟩
 rw[qbu0 hX]
 simp only[q66,qbd4]
 rw[qbp9 hX (by omega),qc]
 unfold qr
 cases inR x 0 3<;>rfl
theorem qbv6 (hn:3≤n) (x:Int):q0s (DD X n) x=some ((qy x,()),()):=by
 obtain ⟨n,rfl⟩:∃ k,n=k+1:=⟨n - 1,by omega⟩
 rw[qbm0 hX]
 simp only[q0y,qbba]
 rw[qvi hX (by omega),qc]
 unfold qy
 cases inR x 1 6<;>rfl
theorem qbvl (hn:3≤n) (x:Int):q0b (DD X n) x=some ((qbw x,()),()):=by
 obtain ⟨n,rfl⟩:∃ k,n=k+1:=⟨n - 1,by omega⟩
 rw[qboz hX]
 simp only[qzc,qbau]
 rw[qqd hX (by omega),qc]
 unfold qbw
 cases inR x 0 2<;>rfl
theorem qbz8 (hn:3≤n) (x:Int):q7s (DD X n) x=some ((qbt x,()),()):=by
 obtain ⟨n,rfl⟩:∃ k,n=k+1:=⟨n - 1,by omega⟩
 rw[qbt8 hX]
 simp only[q6p,qbek]
 rw[qvi hX (by omega),qc,qbhx hX (by omega),qc]
 unfold qbt
 cases inR x 1 6<;>rfl
theorem qbvr (hn:3≤n) (x:Int):q0e (DD X n) x=some ((qi x,()),()):=by
 obtain ⟨n,rfl⟩:∃ k,n=k+1:=⟨n - 1,by omega⟩
 rw[qbo2 hX]
 simp only[qz2,q9m]
 rw[qvi hX (by omega),qc]
 unfold qi
 cases inR x 1 6<;>rfl
end
def rd (at':Int):Got→Int→Bool→Int×Bool
 | [],n,ok=>(n,ok)
 | p::l,n,ok=>if p.1=at' then rd at' l p.2.1 true else rd at' l n ok
theorem qbmi (at':Int) (p:Pair):∀ (l:Got) (n:Int) (ok:Bool),rd at' (l++[p]) n ok=if p.1=at' then (p.2.1,true) else rd at' l n ok
 | [],n,ok=>by simp only[z46,rd]
 | q::l,n,ok=>by
  simp only[z40,rd]
  by_cases h:q.1=at'
  ·rw[z6 h,z6 h];exact qbmi at' p l _ _
  ·rw[z5 h,z5 h];exact qbmi at' p l _ _
def qbg (got:Got) (at':Int):Int×Bool:=rd at' got 0 false
theorem qbkp (D:Den ctx) (n:Nat) (K0:Int→Bool→Option ((Int×Bool×Unit)×Unit)) (K1:Option ((Int×Bool×Unit)×Unit)) (hK:K0 0 false=K1) (got:Got) (hg:got.length≤1048576) (at':Int):∀ (m k:Nat),k≤got.length→k<m→
  qrg D n K0 K1 m got at' ((k:Int) - 1)=K0 (qbg (got.take k) at').1 (qbg (got.take k) at').2
 | 0,_,_,h=>by omega
 | m+1,k,hk,hf=>by
  simp only[qrg,q5h]
  cases k with
  | zero=>
   rw[qh (by omega),List.take_zero]
   exact hK.symm
  | succ j=>
   have hj:j<got.length:=by omega
   have e1:(((j+1:Nat):Int) - 1)=(j:Int):=by omega
   have e2:wrap .i64 ((j:Int) - 1)=(j:Int) - 1:=qo (by omega) (by omega)
   rw[e1,qg (by omega),ix hj,br_t,br_t,z12,e2,qv hj,z32 hj]
   unfold qbg
   rw[qbmi]
   by_cases e:got[j].1=at'
   ·rw[qg e,z6 e]
   ·rw[qh e,z5 e]
    exact qbkp D n K0 K1 hK got hg at' m j (by omega) (by omega)
theorem qhj {X:Ext} (hX:XOk X) {n:Nat} (hn:W+1≤n) (got:Got) (hg:got.length≤1048576) (at':Int):qev (DD X n) got at'=some (((qbg got at').1,(qbg got at').2,()),()):=by
 obtain ⟨n,rfl⟩:∃ k,n=k+1:=⟨n - 1,by omega⟩
 have hW:=qbf
 rw[qbv5 hX]
 simp only[q87,q9a,q3i]
 rw[qo (by omega) (by omega),qbkp (DD X n) n (fun v0_0 v0_1=>qba7 (DD X n) n v0_0 v0_1) (qbat (DD X n) n) rfl got hg at' n got.length (Nat.le_refl _) (by omega),List.take_length]
 rfl
end Go.G

namespace Go.G
set_option maxRecDepth 100000
open Go Go.V Go.Proofs
structure Both (got:Got) (a:qnm) (w:Work) (k:Nat):Prop where
 g1:a.1=got
 g2:w.1=got
 miss:a.2.2.1=w.2.1
 over:a.2.2.2.1=w.2.2.1
 pl:a.2.1.length≤k
section
variable {X:Ext} (hX:XOk X) {n:Nat} (hn:W+6≤n) {got:Got} (hg:got.length≤1048576)
include hX hn hg
end
theorem qbr7 {X:Ext} (hX:XOk X) {n:Nat} (hn:1≤n) {a:qnm} (h:a.2.2.2.1=true) (p:Int):qu (DD X n) a p=some ((0,()),(a,())):=by
 obtain ⟨n,rfl⟩:∃ k,n=k+1:=⟨n - 1,by omega⟩
 rw[quz hX]
 simp only[qku,qny]
 rw[h,br_t]
theorem q5o {X:Ext} (hX:XOk X) (N n:Nat) (hN:3≤N) (K:qnm→Option (Unit×qnm×Unit)) (l:List Int) (hl:l.length≤2) {a:qnm} (h:a.2.2.2.1=true):∀ (m i:Nat),l.length - i<m→
  qf7 (DD X N) n K m l (l.length:Int) (i:Int) a=K a
 | 0,_,h=>by omega
 | m+1,i,hf=>by
  simp only[qf7,qmg]
  by_cases hi:i<l.length
  ·rw[qg (by exact_mod_cast hi),ix hi,br_t,z12,qln hX (by omega),qc]
   dsimp only
   rw[qbr7 hX (by omega) h,qc,qs (by omega)]
   exact q5o hX N n hN K l hl h m (i+1) (by omega)
  ·rw[qh (by exact_mod_cast hi)]
end Go.G

namespace Go.G
set_option maxRecDepth 100000
open Go Go.V Go.Proofs
section
variable {X:Ext} (hX:XOk X) {n:Nat} {got:Got} (hg:got.length≤1048576)
include hX hg
end
section
variable {X:Ext} (hX:XOk X) {n:Nat} {got:Got} (hg:got.length≤1048576)
include hX hg
end
end Go.G

namespace Go.G
set_option maxRecDepth 100000
open Go Go.V Go.Proofs
end Go.G

namespace Go.G
set_option maxRecDepth 100000
open Go Go.V Go.Proofs
def hit (got:Got) (p:Int):Bool:=decide (0≤p)&&(qbg got p).2
inductive PR where
 | done
 | ask (p:Int) (k:Int→PR)
def run (got:Got):PR→List Int×Int
 | .done=>([],-1)
 | .ask p k=>bif hit got p then (p::(run got (k (qbg got p).1)).1,(run got (k (qbg got p).1)).2) else ([],p)
theorem qc7 {got:Got} {p:Int} {k:Int→PR} (h:hit got p=false):run got (.ask p k)=([],p):=by
 simp only[run];rw[h];rfl
theorem qeb {got:Got} {p:Int} {k:Int→PR} (h:hit got p=true):run got (.ask p k)=(p::(run got (k (qbg got p).1)).1,(run got (k (qbg got p).1)).2):=by
 simp only[run];rw[h];rfl
def qbcd:List Int→PR
 | []=>.done
 | v::l=>.ask (qbt v) fun _=>qbcd l
def qjl (k:Int) (l:List Int):PR:=.ask 13 fun st=>bif decide (st≤wrap .i64 (k+1)) then .done else qbcd l
def qif (o:Op3):PR:=.ask (qr o.2.1) fun r=>bif r != 0 then .done else .ask (qy o.2.2.1) fun w=>bif w != 0 then .done else .ask (qbw (qi o.2.2.1)) fun _=>qjl o.2.1 [o.2.2.1]
def qil (o:Op3):PR:=.ask (qr o.2.1) fun r=>bif (bif decide (r=0) then true else decide (r=o.2.2.1)) then .done else .ask (qy o.2.2.1) fun w=>bif w != 0 then .done else .ask (qy r) fun _=>
 bif qi r != qi o.2.2.1 then .ask (qbw (qi r)) fun _=>.ask (qbw (qi o.2.2.1)) fun _=>qjl o.2.1 [r,o.2.2.1] else qjl o.2.1 [r,o.2.2.1]
def qkh (o:Op3):PR:=.ask (qr o.2.1) fun r=>bif decide (r=0) then .done else .ask (qy r) fun _=>.ask (qbw (qi r)) fun _=>qjl o.2.1 [r]
def qkl:PR:=.ask 13 fun st=>bif (bif decide (st<1) then true else decide (st>4)) then .done else .ask (qr (wrap .i64 (st - 1))) fun r=>bif !inR r 1 6 then .done else .ask (qbt r) fun _=>.done
def qk9 (o:Op3):PR:=.ask 13 fun st=>bif st != 5 then .done else .ask (qbt o.2.2.1) fun _=>.done
def qn3:PR:=.ask 0 fun _=>.ask 1 fun _=>.ask 2 fun _=>.ask 3 fun _=>.done
def prog (o:Op3):PR:=
 if o.1=1 then qif o else if o.1=2 then qil o else if o.1=3 then qkh o else
 if o.1=4 then .ask (qr o.2.1) fun _=>.done else if o.1=5 then .ask (qy o.2.2.1) fun _=>.done else if o.1=6 then .ask (qbw o.2.1) fun _=>.done else
 if o.1=7 then qn3 else if o.1=8 then .ask 13 fun _=>.done else if o.1=9 then qkl else if o.1=10 then qk9 o else .done
section
variable {X:Ext} (hX:XOk X) {n:Nat} {got:Got}
include hX
theorem qy9 (hn:1≤n) (pl:List Int) (m p:Int):qu (DD X n) (got,pl,m,true,()) p=some ((0,()),((got,pl,m,true,()),())):=qbr7 hX hn rfl p
theorem q1j (hn:1≤n) (pl:List Int) (m:Int) (o b:Bool):qb8 (DD X n) (got,pl,m,o,()) b=some ((),((got,pl,m,bif o then true else b,()),())):=by
 obtain ⟨n,rfl⟩:∃ k,n=k+1:=⟨n - 1,by omega⟩
 rw[qbga hX];rfl
theorem qff (hn:W+2≤n) (hg:got.length≤1048576) {pl:List Int} (hl:pl.length≤1000) (m:Int) {p:Int} (h:hit got p=true) :
  qu (DD X n) (got,pl,m,false,()) p=some (((qbg got p).1,()),((got,pl++[p],m,false,()),())):=by
 obtain ⟨n,rfl⟩:∃ k,n=k+1:=⟨n - 1,by omega⟩
 have hb:=qbi
 unfold hit at h
 simp only[z9,z45] at h
 rw[quz hX]
 simp only[qku,qny]
 rw[br_f,qhj hX (by omega) got hg,qc]
 dsimp only
 rw[z10 (by omega:¬ p<0),h.2,z13,z20,br_f,qg (by omega)]
theorem qdj (hn:W+2≤n) (hg:got.length≤1048576) (pl:List Int) (m:Int) {p:Int} (h:hit got p=false) :
  qu (DD X n) (got,pl,m,false,()) p=some ((0,()),((got,pl,p,true,()),())):=by
 obtain ⟨n,rfl⟩:∃ k,n=k+1:=⟨n - 1,by omega⟩
 unfold hit at h
 rw[quz hX]
 simp only[qku,qny]
 rw[br_f,qhj hX (by omega) got hg,qc]
 dsimp only
 have:(bif decide (p<0) then true else !(qbg got p).2)=true:=by
  by_cases h0:p<0
  ·rw[z11 h0];rfl
  ·rw[z10 h0]
   rw[z11 (by omega:0≤p),Bool.true_and] at h
   rw[h];rfl
 rw[this,br_t]
theorem qb24 (N m0:Nat) (hN:W+4≤N) (hg:got.length≤1048576) (K:qnm→Option (Unit×qnm×Unit)) (l:List Int) (hl:l.length≤2):∀ (m i:Nat) (pl:List Int),l.length - i<m→i≤l.length→pl.length≤20+i→
  ∃ b,qf7 (DD X N) n K m l (l.length:Int) (i:Int) (got,pl,-1,false,())=K (got,pl++(run got (qbcd (l.drop i))).1,(run got (qbcd (l.drop i))).2,b,())
 | 0,_,_,h,_,_=>by omega
 | m+1,i,pl,hf,hi,hp=>by
  simp only[qf7,qmg]
  by_cases h:i<l.length
  ·rw[qg (by exact_mod_cast h),ix h,br_t,z12,qln hX (by omega),qc,qv h]
   dsimp only
   rw[qgz h]
   simp only[qbcd]
   rw[qs (by omega)]
   cases hh:hit got (qbt l[i])
   ·rw[qdj hX (by omega) hg _ _ hh,qc,qc7 hh]
    dsimp only
    rw[q5o hX N n (by omega) K l hl (by rfl) m (i+1) (by omega)]
    exact ⟨true,by rw[z48]⟩
   ·rw[qff hX (by omega) hg (by omega) _ hh,qc,qeb hh]
    dsimp only
    obtain ⟨b,e⟩:=qb24 N m0 hN hg K l hl m (i+1) (pl++[qbt l[i]]) (by omega) (by omega) (by rw[z19];simp only[z22,List.length_nil];omega)
    rw[e]
    exact ⟨b,by rw[z33];rfl⟩
  ·rw[qh (by exact_mod_cast h),qii h]
   exact ⟨false,by simp only[qbcd,run];rw[z48]⟩
theorem qbkf (hn:W+6≤n) (hg:got.length≤1048576) {pl:List Int} (hp:pl.length≤10) (c:Int) (l:List Int) (hl:l.length≤2) :
  ∃ b,qgs (DD X n) (got,pl,-1,false,()) c l=some ((),((got,pl++(run got (qjl c l)).1,(run got (qjl c l)).2,b,()),())):=by
 obtain ⟨n,rfl⟩:∃ k,n=k+1:=⟨n - 1,by omega⟩
 have hW:=qbf
 rw[q7e hX]
 simp only[qn5,qoe,qlj]
 rw[qgl hX (by omega),qc]
 dsimp only
 unfold qjl
 cases h:hit got 13
 ·rw[qdj hX (by omega) hg _ _ h,qc,qc7 h]
  dsimp only
  rw[q1j hX (by omega),qc]
  dsimp only
  rw[z21]
  have e:=q5o hX n n (by omega) (fun v0_0=>qh7 (DD X n) n v0_0) l hl (a:=(got,pl,13,true,())) rfl n 0 (by omega)
  rw[show ((0:Nat):Int)=0 from rfl] at e
  rw[e]
  exact ⟨true,by rw[z48];rfl⟩
 ·rw[qff hX (by omega) hg (by omega) _ h,qc,qeb h]
  dsimp only
  rw[q1j hX (by omega),qc]
  dsimp only
  rw[z20]
  cases hs:decide ((qbg got 13).1≤wrap .i64 (c+1))
  ·rw[z20]
   obtain ⟨b,e⟩:=qb24 hX n 0 (by omega) hg (fun v0_0=>qh7 (DD X n) n v0_0) l hl n 0 (pl++[13]) (by omega) (by omega) (by rw[z19];simp only[z22,List.length_nil];omega)
   rw[show ((0:Nat):Int)=0 from rfl,List.drop_zero] at e
   rw[e]
   exact ⟨b,by rw[z33];rfl⟩
  ·rw[z21]
   have e:=q5o hX n n (by omega) (fun v0_0=>qh7 (DD X n) n v0_0) l hl (a:=(got,pl++[13],-1,true,())) rfl n 0 (by omega)
   rw[show ((0:Nat):Int)=0 from rfl] at e
   rw[e]
   exact ⟨true,rfl⟩
theorem qbjb (hn:5≤n) (pl:List Int) (m c:Int) (l:List Int) (hl:l.length≤2) (hW2:W+6≤n):qgs (DD X n) (got,pl,m,true,()) c l=some ((),((got,pl,m,true,()),())):=by
 obtain ⟨n,rfl⟩:∃ k,n=k+1:=⟨n - 1,by omega⟩
 have hW:=qbf
 rw[q7e hX]
 simp only[qn5,qoe,qlj]
 rw[qgl hX (by omega),qc]
 dsimp only
 rw[qy9 hX (by omega),qc]
 dsimp only
 rw[q1j hX (by omega),qc]
 dsimp only
 rw[z21]
 have e:=q5o hX n n (by omega) (fun v0_0=>qh7 (DD X n) n v0_0) l hl (a:=(got,pl,m,true,())) rfl n 0 (by omega)
 rw[show ((0:Nat):Int)=0 from rfl] at e
 rw[e]
 rfl
end
end Go.G

namespace Go.G
set_option maxRecDepth 100000
open Go Go.V Go.Proofs
section
variable {X:Ext} (hX:XOk X) {n:Nat} {got:Got}
include hX
theorem qb1n (hn:W+8≤n) (hg:got.length≤1048576) (K V:Int) :
  ∃ b,qh1 (DD X n) (got,[],-1,false,()) (1,K,V,())=some ((),((got,(run got (qif (1,K,V,()))).1,(run got (qif (1,K,V,()))).2,b,()),())):=by
 obtain ⟨n,rfl⟩:∃ k,n=k+1:=⟨n - 1,by omega⟩
 have hW:=qbf
 have he:=fun pl m p=>qy9 hX (n:=n) (got:=got) (by omega) pl m p
 have hs:=fun pl m o b=>q1j hX (n:=n) (got:=got) (by omega) pl m o b
 have hr:=fun x=>qi4 hX (n:=n) (by omega) x
 have ho:=fun x=>qj5 hX (n:=n) (by omega) x
 have hc:=fun x=>qj7 hX (n:=n) (by omega) x
 have hk:=fun x=>ql4 hX (n:=n) (by omega) x
 have hwe:=fun pl m c l hl=>qbjb hX (n:=n) (got:=got) (by omega) pl m c l hl (by omega)
 rw[qpp hX]
 simp only[qh3,qkw]
 rw[hr,qc]
 dsimp only
 unfold qif
 dsimp only
 cases h1:hit got (qr K)
 ·rw[qdj hX (by omega) hg _ _ h1,qc,qc7 h1]
  dsimp only
  rw[qg trivial]
  simp only[he,hs,ho,hc,hk,qc,z21,hwe _ _ _ [V] (by simp)]
  exact ⟨true,rfl⟩
 ·rw[qff hX (by omega) hg (by simp) _ h1,qc,qeb h1]
  dsimp only
  rw[qg trivial,hs,qc]
  dsimp only
  rw[z20]
  cases h2:((qbg got (qr K)).1 != 0)
  ·rw[z20,ho,qc]
   dsimp only
   cases h3:hit got (qy V)
   ·rw[qdj hX (by omega) hg _ _ h3,qc,qc7 h3]
    simp only[he,hs,ho,hc,hk,qc,z21,hwe _ _ _ [V] (by simp)]
    exact ⟨true,rfl⟩
   ·rw[qff hX (by omega) hg (by simp) _ h3,qc,qeb h3]
    dsimp only
    rw[hs,qc]
    dsimp only
    rw[z20]
    cases h4:((qbg got (qy V)).1 != 0)
    ·rw[z20,hk,qc]
     dsimp only
     rw[hc,qc]
     dsimp only
     cases h5:hit got (qbw (qi V))
     ·rw[qdj hX (by omega) hg _ _ h5,qc,qc7 h5]
      simp only[qc,hwe _ _ _ [V] (by simp)]
      exact ⟨true,rfl⟩
     ·rw[qff hX (by omega) hg (by simp) _ h5,qc,qeb h5]
      dsimp only
      obtain ⟨b,e⟩:=qbkf hX (n:=n) (by omega) hg (pl:=[]++[qr K]++[qy V]++[qbw (qi V)]) (by simp) K [V] (by simp)
      rw[e,qc]
      exact ⟨b,rfl⟩
    ·simp only[he,hs,ho,hc,hk,qc,z21,hwe _ _ _ [V] (by simp),run]
     exact ⟨true,rfl⟩
  ·simp only[he,hs,ho,hc,hk,qc,z21,hwe _ _ _ [V] (by simp),run]
   exact ⟨true,rfl⟩
theorem qb1s (hn:W+8≤n) (hg:got.length≤1048576) (K V:Int) :
  ∃ b,qh1 (DD X n) (got,[],-1,false,()) (2,K,V,())=some ((),((got,(run got (qil (2,K,V,()))).1,(run got (qil (2,K,V,()))).2,b,()),())):=by
 obtain ⟨n,rfl⟩:∃ k,n=k+1:=⟨n - 1,by omega⟩
 have hW:=qbf
 have he:=fun pl m p=>qy9 hX (n:=n) (got:=got) (by omega) pl m p
 have hs:=fun pl m o b=>q1j hX (n:=n) (got:=got) (by omega) pl m o b
 have hr:=fun x=>qi4 hX (n:=n) (by omega) x
 have ho:=fun x=>qj5 hX (n:=n) (by omega) x
 have hc:=fun x=>qj7 hX (n:=n) (by omega) x
 have hk:=fun x=>ql4 hX (n:=n) (by omega) x
 have hwe:=fun pl m c a b=>qbjb hX (n:=n) (got:=got) (by omega) pl m c [a,b] (by simp) (by omega)
 have hsame:∀ (c:Bool) (x:Option (Unit×qnm×Unit)),br c x x=x:=by intro c x;cases c<;>rfl
 rw[qpp hX]
 simp only[qh3,qkw]
 rw[hr,qc]
 dsimp only
 unfold qil
 dsimp only
 cases h1:hit got (qr K)
 ·rw[qdj hX (by omega) hg _ _ h1,qc,qc7 h1]
  dsimp only
  rw[qh (by decide),qg trivial]
  simp only[he,hs,ho,hc,hk,qc,z21,hwe,hsame]
  exact ⟨true,rfl⟩
 ·rw[qff hX (by omega) hg (by simp) _ h1,qc,qeb h1]
  dsimp only
  generalize hv:(qbg got (qr K)).1=v
  rw[qh (by decide),qg trivial,hs,qc]
  dsimp only
  rw[z20]
  cases h2:(bif decide (v=0) then true else decide (v=V))
  ·rw[z20,ho,qc]
   dsimp only
   cases h3:hit got (qy V)
   ·rw[qdj hX (by omega) hg _ _ h3,qc,qc7 h3]
    simp only[he,hs,ho,hc,hk,qc,z21,hwe,hsame]
    exact ⟨true,rfl⟩
   ·rw[qff hX (by omega) hg (by simp) _ h3,qc,qeb h3]
    dsimp only
    rw[hs,qc]
    dsimp only
    rw[z20]
    cases h4:((qbg got (qy V)).1 != 0)
    ·rw[z20,ho,qc]
     dsimp only
     cases h5:hit got (qy v)
     ·rw[qdj hX (by omega) hg _ _ h5,qc,qc7 h5]
      simp only[he,hs,ho,hc,hk,qc,z21,hwe,hsame]
      exact ⟨true,rfl⟩
     ·rw[qff hX (by omega) hg (by simp) _ h5,qc,qeb h5,hk,qc,hk,qc]
      dsimp only
      cases h6:(qi v != qi V)
      ·rw[br_f,z20]
       obtain ⟨b,e⟩:=qbkf hX (n:=n) (by omega) hg (pl:=[]++[qr K]++[qy V]++[qy v]) (by simp) K [v,V] (by simp)
       rw[e,qc]
       exact ⟨b,rfl⟩
      ·rw[br_t,z21]
       simp only[qc]
       rw[hc,qc]
       dsimp only
       cases h7:hit got (qbw (qi v))
       ·rw[qdj hX (by omega) hg _ _ h7,qc,qc7 h7]
        simp only[he,hs,ho,hc,hk,qc,z21,hwe,hsame]
        exact ⟨true,rfl⟩
       ·rw[qff hX (by omega) hg (by simp) _ h7,qc,qeb h7]
        simp only[qc]
        rw[hc,qc]
        dsimp only
        cases h8:hit got (qbw (qi V))
        ·rw[qdj hX (by omega) hg _ _ h8,qc,qc7 h8]
         simp only[he,hs,ho,hc,hk,qc,z21,hwe,hsame]
         exact ⟨true,rfl⟩
        ·rw[qff hX (by omega) hg (by simp) _ h8,qc,qeb h8]
         dsimp only
         obtain ⟨b,e⟩:=qbkf hX (n:=n) (by omega) hg (pl:=[]++[qr K]++[qy V]++[qy v]++[qbw (qi v)]++[qbw (qi V)]) (by simp) K [v,V] (by simp)
         rw[e,qc]
         exact ⟨b,rfl⟩
    ·simp only[he,hs,ho,hc,hk,qc,z21,hwe,run,hsame]
     exact ⟨true,rfl⟩
  ·simp only[he,hs,ho,hc,hk,qc,z21,hwe,run,hsame]
   exact ⟨true,rfl⟩
theorem qb16 (hn:W+8≤n) (hg:got.length≤1048576) (K V:Int) :
  ∃ b,qh1 (DD X n) (got,[],-1,false,()) (3,K,V,())=some ((),((got,(run got (qkh (3,K,V,()))).1,(run got (qkh (3,K,V,()))).2,b,()),())):=by
 obtain ⟨n,rfl⟩:∃ k,n=k+1:=⟨n - 1,by omega⟩
 have hW:=qbf
 have he:=fun pl m p=>qy9 hX (n:=n) (got:=got) (by omega) pl m p
 have hs:=fun pl m o b=>q1j hX (n:=n) (got:=got) (by omega) pl m o b
 have hr:=fun x=>qi4 hX (n:=n) (by omega) x
 have ho:=fun x=>qj5 hX (n:=n) (by omega) x
 have hc:=fun x=>qj7 hX (n:=n) (by omega) x
 have hk:=fun x=>ql4 hX (n:=n) (by omega) x
 have hwe:=fun pl m c a=>qbjb hX (n:=n) (got:=got) (by omega) pl m c [a] (by simp) (by omega)
 rw[qpp hX]
 simp only[qh3,qkw]
 rw[hr,qc]
 dsimp only
 unfold qkh
 dsimp only
 cases h1:hit got (qr K)
 ·rw[qdj hX (by omega) hg _ _ h1,qc,qc7 h1]
  dsimp only
  rw[qh (by decide),qh (by decide)]
  simp only[he,hs,ho,hc,hk,qc,z21,hwe]
  exact ⟨true,rfl⟩
 ·rw[qff hX (by omega) hg (by simp) _ h1,qc,qeb h1]
  dsimp only
  generalize hv:(qbg got (qr K)).1=v
  rw[qh (by decide),qh (by decide),hs,qc]
  dsimp only
  rw[z20]
  cases h2:decide (v=0)
  ·rw[z20,ho,qc]
   dsimp only
   cases h3:hit got (qy v)
   ·rw[qdj hX (by omega) hg _ _ h3,qc,qc7 h3]
    simp only[he,hs,ho,hc,hk,qc,z21,hwe]
    exact ⟨true,rfl⟩
   ·rw[qff hX (by omega) hg (by simp) _ h3,qc,qeb h3,hk,qc]
    dsimp only
    rw[hc,qc]
    dsimp only
    cases h5:hit got (qbw (qi v))
    ·rw[qdj hX (by omega) hg _ _ h5,qc,qc7 h5]
     simp only[he,hs,ho,hc,hk,qc,z21,hwe]
     exact ⟨true,rfl⟩
    ·rw[qff hX (by omega) hg (by simp) _ h5,qc,qeb h5]
     dsimp only
     obtain ⟨b,e⟩:=qbkf hX (n:=n) (by omega) hg (pl:=[]++[qr K]++[qy v]++[qbw (qi v)]) (by simp) K [v] (by simp)
     rw[e,qc]
     exact ⟨b,rfl⟩
  ·simp only[he,hs,ho,hc,hk,qc,z21,hwe,run]
   exact ⟨true,rfl⟩
end
end Go.G

namespace Go.G
set_option maxRecDepth 100000
open Go Go.V Go.Proofs
section
variable {X:Ext} (hX:XOk X) {n:Nat} {got:Got}
include hX
theorem qbff (hn:W+2≤n) (hg:got.length≤1048576) (p:Int):∃ b,qd (qu (DD X n) (got,[],-1,false,()) p) (fun b=>some ((b.2.1,()),())) =
  (some (((got,(run got (.ask p fun _=>.done)).1,(run got (.ask p fun _=>.done)).2,b,()),()),()):Option ((qnm×Unit)×Unit)):=by
 cases h:hit got p
 ·rw[qdj hX hn hg _ _ h,qc,qc7 h];exact ⟨true,rfl⟩
 ·rw[qff hX hn hg (by simp) _ h,qc,qeb h];exact ⟨false,rfl⟩
theorem qbzv (hn:W+2≤n) (hn3:3≤n) (hg:got.length≤1048576):∃ b,
  qd (qcp (DD X n)) (fun b↦
          qd (qu (DD X n) (got,[],-1,false,()) (Prod.fst (Prod.fst b))) fun b↦
           qd
            (qb8 (DD X n) (Prod.fst (Prod.snd b))
             (bif decide (Prod.fst (Prod.fst b)<1) then true else decide (Prod.fst (Prod.fst b)>4)))
            fun b_1↦
            qd (qfi (DD X n) (wrap .i64 (Prod.fst (Prod.fst b) - 1))) fun b↦
             qd (qu (DD X n) (Prod.fst (Prod.snd b_1)) (Prod.fst (Prod.fst b))) fun b↦
              qd (qgj (DD X n) (Prod.fst (Prod.fst b))) fun b_2↦
               qd (qb8 (DD X n) (Prod.fst (Prod.snd b)) !Prod.fst (Prod.fst b_2)) fun b_3↦
                qd (qeo (DD X n) (Prod.fst (Prod.fst b))) fun b↦
                 qd (qu (DD X n) (Prod.fst (Prod.snd b_3)) (Prod.fst (Prod.fst b))) fun b↦
                  some ((Prod.fst (Prod.snd b),()),()))=(some (((got,(run got qkl).1,(run got qkl).2,b,()),()),()):Option ((qnm×Unit)×Unit)):=by
 have he:=fun pl m p=>qy9 hX (n:=n) (got:=got) (by omega) pl m p
 have hs:=fun pl m o b=>q1j hX (n:=n) (got:=got) (by omega) pl m o b
 have hr:=fun x=>qi4 hX (n:=n) (by omega) x
 have hv:=fun x=>qqz hX (n:=n) (by omega) x
 have hi:=fun x=>qln hX (n:=n) (by omega) x
 rw[qgl hX (by omega),qc]
 dsimp only
 unfold qkl
 cases h:hit got 13
 ·rw[qdj hX hn hg _ _ h,qc,qc7 h]
  simp only[he,hs,hr,hv,hi,qc,z21]
  exact ⟨true,rfl⟩
 ·rw[qff hX hn hg (by simp) _ h,qc,qeb h]
  dsimp only
  generalize (qbg got 13).1=st
  rw[hs,qc]
  dsimp only
  rw[z20]
  cases h2:(bif decide (st<1) then true else decide (st>4))
  ·rw[z20,hr,qc]
   dsimp only
   cases h3:hit got (qr (wrap .i64 (st - 1)))
   ·rw[qdj hX hn hg _ _ h3,qc,qc7 h3]
    simp only[he,hs,hr,hv,hi,qc,z21]
    exact ⟨true,rfl⟩
   ·rw[qff hX hn hg (by simp) _ h3,qc,qeb h3]
    dsimp only
    generalize (qbg got (qr (wrap .i64 (st - 1)))).1=r
    rw[hv,qc]
    dsimp only
    rw[hs,qc]
    dsimp only
    rw[z20]
    cases h4:inR r 1 6
    ·simp only[he,hs,hr,hv,hi,qc,Bool.not_false,z21,run]
     exact ⟨true,rfl⟩
    ·rw[z13,z20,hi,qc]
     dsimp only
     cases h5:hit got (qbt r)
     ·rw[qdj hX hn hg _ _ h5,qc,qc7 h5];exact ⟨true,rfl⟩
     ·rw[qff hX hn hg (by simp) _ h5,qc,qeb h5];exact ⟨false,rfl⟩
  ·simp only[he,hs,hr,hv,hi,qc,z21,run]
   exact ⟨true,rfl⟩
theorem qb17 (hn:W+2≤n) (hn3:3≤n) (hg:got.length≤1048576) (o:Op3):∃ b,
  qd (qcp (DD X n)) (fun b↦
           qd (qu (DD X n) (got,[],-1,false,()) (Prod.fst (Prod.fst b))) fun b↦
            qd (qb8 (DD X n) (Prod.fst (Prod.snd b)) (Prod.fst (Prod.fst b) != 5)) fun b↦
             qd (qeo (DD X n) o.2.2.1) fun b_1↦
              qd (qu (DD X n) (Prod.fst (Prod.snd b)) (Prod.fst (Prod.fst b_1))) fun b↦some ((Prod.fst (Prod.snd b),()),())) =
  (some (((got,(run got (qk9 o)).1,(run got (qk9 o)).2,b,()),()),()):Option ((qnm×Unit)×Unit)):=by
 have he:=fun pl m p=>qy9 hX (n:=n) (got:=got) (by omega) pl m p
 have hs:=fun pl m o b=>q1j hX (n:=n) (got:=got) (by omega) pl m o b
 have hi:=fun x=>qln hX (n:=n) (by omega) x
 rw[qgl hX (by omega),qc]
 dsimp only
 unfold qk9
 cases h:hit got 13
 ·rw[qdj hX hn hg _ _ h,qc,qc7 h]
  simp only[he,hs,hi,qc,z21]
  exact ⟨true,rfl⟩
 ·rw[qff hX hn hg (by simp) _ h,qc,qeb h]
  dsimp only
  generalize (qbg got 13).1=st
  rw[hs,qc]
  dsimp only
  rw[z20]
  cases h2:(st != 5)
  ·rw[z20,hi,qc]
   dsimp only
   cases h5:hit got (qbt o.2.2.1)
   ·rw[qdj hX hn hg _ _ h5,qc,qc7 h5];exact ⟨true,rfl⟩
   ·rw[qff hX hn hg (by simp) _ h5,qc,qeb h5];exact ⟨false,rfl⟩
  ·simp only[he,hs,hi,qc,z21,run]
   exact ⟨true,rfl⟩
def q7b:Nat→Nat→PR
 | _,0=>.done
 | i,d+1=>.ask (i:Int) fun _=>q7b (i+1) d
theorem qbs6 (N n:Nat) (hN:3≤N) (K:qnm→Option ((qnm×Unit)×Unit)) (pl:List Int) (m0:Int):∀ (m i:Nat),i≤4→4 - i<m→qhw (DD X N) n K m (i:Int) (got,pl,m0,true,())=K (got,pl,m0,true,())
 | 0,_,_,h=>by omega
 | m+1,i,hi,hf=>by
  simp only[qhw,qoh]
  by_cases h:(i:Int)<4
  ·rw[qg h,qi4 hX (by omega),qc]
   dsimp only
   rw[qy9 hX (by omega),qc,qs (by omega)]
   exact qbs6 N n hN K pl m0 m (i+1) (by omega) (by omega)
  ·rw[qh h]
theorem qb00 (N n:Nat) (hN:W+6≤N) (hN3:3≤N) (hg:got.length≤1048576) (K:qnm→Option ((qnm×Unit)×Unit)):∀ (m d i:Nat) (pl:List Int),i+d=4→d<m→pl.length≤i→
  ∃ b,qhw (DD X N) n K m (i:Int) (got,pl,-1,false,())=K (got,pl++(run got (q7b i d)).1,(run got (q7b i d)).2,b,())
 | 0,_,_,_,_,h,_=>by omega
 | m+1,0,i,pl,hi,hf,hp=>by
  simp only[qhw,qoh]
  rw[qh (by omega)]
  exact ⟨false,by simp only[q7b,run];rw[z48]⟩
 | m+1,d+1,i,pl,hi,hf,hp=>by
  simp only[qhw,qoh]
  have hr:qr (i:Int)=i:=by unfold qr;rw[qcb.2 (by omega)];rfl
  rw[qg (by omega),qi4 hX (by omega),qc,hr]
  dsimp only
  simp only[q7b]
  rw[qs (by omega)]
  cases h:hit got (i:Int)
  ·rw[qdj hX (by omega) hg _ _ h,qc,qc7 h]
   dsimp only
   rw[qbs6 hX N n hN3 K pl (i:Int) m (i+1) (by omega) (by omega)]
   exact ⟨true,by rw[z48]⟩
  ·rw[qff hX (by omega) hg (by omega) _ h,qc,qeb h]
   dsimp only
   obtain ⟨b,e⟩:=qb00 N n hN hN3 hg K m d (i+1) (pl++[(i:Int)]) (by omega) (by omega) (by rw[z19];simp only[z22,List.length_nil];omega)
   rw[e]
   exact ⟨b,by rw[z33];rfl⟩
theorem qbu2 (hn:W+10≤n) (hg:got.length≤1048576) (o:Op3) :
  ∃ b,qw5 (DD X n) o got=some (((got,(run got (prog o)).1,(run got (prog o)).2,b,()),()),()):=by
 obtain ⟨n,rfl⟩:∃ k,n=k+1:=⟨n - 1,by omega⟩
 have hW:=qbf
 obtain ⟨k,K,V,⟨⟩⟩:=o
 rw[qbub hX]
 simp only[q57,q5n]
 unfold prog
 dsimp only
 by_cases k1:k=1
 ·subst k1
  obtain ⟨b,e⟩:=qb1n hX (n:=n) (by omega) hg K V
  rw[qg rfl,qg rfl,e,qc,z6 rfl]
  exact ⟨b,rfl⟩
 rw[qh k1,z5 k1]
 by_cases k2:k=2
 ·subst k2
  obtain ⟨b,e⟩:=qb1s hX (n:=n) (by omega) hg K V
  rw[qg rfl,qg rfl,e,qc,z6 rfl]
  exact ⟨b,rfl⟩
 rw[qh k2,z5 k2]
 by_cases k3:k=3
 ·subst k3
  obtain ⟨b,e⟩:=qb16 hX (n:=n) (by omega) hg K V
  rw[qg rfl,e,qc,z6 rfl]
  exact ⟨b,rfl⟩
 rw[qh k3,z5 k3]
 by_cases k4:k=4
 ·rw[qg k4,z6 k4,qi4 hX (by omega),qc]
  exact qbff hX (by omega) hg _
 rw[qh k4,z5 k4]
 by_cases k5:k=5
 ·rw[qg k5,z6 k5,qj5 hX (by omega),qc]
  exact qbff hX (by omega) hg _
 rw[qh k5,z5 k5]
 by_cases k6:k=6
 ·rw[qg k6,z6 k6,qj7 hX (by omega),qc]
  exact qbff hX (by omega) hg _
 rw[qh k6,z5 k6]
 by_cases k7:k=7
 ·rw[qg k7,z6 k7]
  simp only[qyv]
  obtain ⟨b,e⟩:=qb00 hX n n (by omega) (by omega) hg (fun v0_0=>q8b (DD X n) n v0_0) n 4 0 [] rfl (by omega) (by simp)
  rw[show ((0:Nat):Int)=0 from rfl] at e
  rw[e]
  exact ⟨b,rfl⟩
 rw[qh k7,z5 k7]
 by_cases k8:k=8
 ·rw[qg k8,z6 k8,qgl hX (by omega),qc]
  exact qbff hX (by omega) hg _
 rw[qh k8,z5 k8]
 by_cases k9:k=9
 ·rw[qg k9,z6 k9]
  exact qbzv hX (by omega) (by omega) hg
 rw[qh k9,z5 k9]
 by_cases k10:k=10
 ·rw[qg k10,z6 k10]
  exact qb17 hX (by omega) (by omega) hg (k,K,V,())
 rw[qh k10,z5 k10]
 exact ⟨false,rfl⟩
end
end Go.G

namespace Go.G
set_option maxRecDepth 100000
open Go Go.V Go.Proofs
abbrev qbe:=Int×Int×Int×Unit
def bubR {α:Type} (key:α→Int):List α→α→List α
 | [],x=>[x]
 | y::rs,x=>if key x<key y then y::bubR key rs x else x::y::rs
def bub {α:Type} (key:α→Int) (s:List α) (x:α):List α:=(bubR key s.reverse x).reverse
theorem qbu9 {α:Type} (key:α→Int):∀ (rs:List α) (x:α),(bubR key rs x).length=rs.length+1
 | [],x=>rfl
 | y::rs,x=>by
  simp only[bubR]
  split
  ·simp only[z22,qbu9 key rs x]
  ·simp only[z22]
theorem qbaf {α:Type} (key:α→Int) (s:List α) (x:α):(bub key s x).length=s.length+1:=by
 unfold bub;rw[z51,qbu9,z51]
theorem qbsz {α:Type} (key:α→Int):∀ (rs:List α) (x z:α),z∈bubR key rs x↔z=x∨z∈rs
 | [],x,z=>by simp[bubR]
 | y::rs,x,z=>by
  simp only[bubR]
  split
  ·simp only[z15,qbsz key rs x z]
   constructor
   ·rintro (h | h | h)
    ·exact .inr (.inl h)
    ·exact .inl h
    ·exact .inr (.inr h)
   ·rintro (h | h | h)
    ·exact .inr (.inl h)
    ·exact .inl h
    ·exact .inr (.inr h)
  ·simp only[z15]
theorem qbm4 {α:Type} (key:α→Int) (s:List α) (x z:α):z∈bub key s x↔z=x∨z∈s:=by
 unfold bub;rw[List.mem_reverse,qbsz,List.mem_reverse]
theorem qbyz {α:Type} (key:α→Int) (e:α) (l1:List α) (h1:∀ y∈l1,key y≤key e):∀ (l2:List α),(∀ y∈l2,key e<key y)→bub key (l1++l2.reverse) e=l1++e::l2.reverse
 | [],_=>by
  unfold bub
  rw[List.reverse_nil,z48]
  cases h:l1.reverse with
  | nil=>
   have:l1=[]:=List.reverse_eq_nil_iff.1 h
   subst this;rfl
  | cons y rs=>
   have hy:y∈l1:=by rw[←List.mem_reverse,h];exact z14
   simp only[bubR]
   rw[z5 (by have:=h1 y hy;omega)]
   have:l1=rs.reverse++[y]:=by rw[←List.reverse_reverse l1,h,List.reverse_cons]
   rw[this]
   simp
 | y::l2,h2=>by
  have ih:=qbyz key e l1 h1 l2 (fun z hz=>h2 z (z16 _ hz))
  unfold bub at ih ⊢
  rw[List.reverse_cons,←z33,List.reverse_append]
  show (bubR key (y::(l1++l2.reverse).reverse) e).reverse=_
  simp only[bubR]
  rw[z6 (h2 y z14),List.reverse_cons,ih]
  simp
theorem qbfx {α:Type} (l:List α) (x:α) (t:List α) (d:α):(l++x::t).getD l.length d=x:=by simp[List.getD]
theorem qbfe {α:Type} (l:List α) (x y:α) (t:List α):(l++x::t).set l.length y=l++y::t:=by simp
abbrev EntT:Ty:=Ty.pair (Ty.int IntKind.i64) (Ty.pair (Ty.int IntKind.i64) (Ty.pair (Ty.int IntKind.i64) Ty.unit))
def qll (k:Int):Prop:=-1000≤k∧k≤1000
def ekey (e:qbe):Int:=e.1
section
variable {X:Ext} (hX:XOk X) {n:Nat}
include hX
theorem qb4r (hn:1≤n) (a b:qbe) (ha:qll a.1) (hb:qll b.1):qbk ctx (DD X n) (Clo.mk 183 []) [CapV.val EntT a,CapV.val EntT b] (Ty.int IntKind.i64)=some (a.1 - b.1):=by
 obtain ⟨n,rfl⟩:∃ k,n=k+1:=⟨n - 1,by omega⟩
 have h:∀ D:Den ctx,qbk ctx D (Clo.mk 183 []) [CapV.val EntT a,CapV.val EntT b] (Ty.int IntKind.i64)=(q6x D a b).bind fun r=>some r.1.1:=fun D=>by kernel_rfl
 unfold qll at ha hb
 rw[h,qbh7 hX]
 simp only[qux,q6s,z30]
 rw[qo (by omega) (by omega)]
theorem qb1p (hn:1≤n) {a b x y:qbe} (ha:a=x) (hb:b=y) (hx:qll x.1) (hy:qll y.1):qbk ctx (DD X n) (Clo.mk 183 []) [CapV.val EntT a,CapV.val EntT b] (Ty.int IntKind.i64)=some (x.1 - y.1):=by
 subst ha;subst hb;exact qb4r hX hn a b hx hy
theorem qbss (N n:Nat) (hN:1≤N) (K0:Int→Int→Int→List qbe→Option (Unit×List qbe×Unit)) (b i:Int) (x:qbe) (hx:qll x.1):∀ (m:Nat) (rs t:List qbe),rs.length<m→rs.length+t.length≤1000→(∀ e∈rs,qll e.1)→
  qbv (DD X N) n (Clo.mk 183 []) K0 m 0 b i (rs.length:Int) (rs.reverse++x::t)=K0 0 b i ((bubR ekey rs x).reverse++t)
 | 0,_,_,h,_,_=>by omega
 | m+1,[],t,_,_,_=>by
  simp only[qbv,qcx]
  rw[qh (by simp)]
  simp[bubR]
 | m+1,y::rs,t,hf,hl,hs=>by
  have hy:=hs y z14
  have hlen:((y::rs).reverse++x::t).length=rs.length+t.length+2:=by simp;omega
  simp only[z22] at hf hl
  have e1:((y::rs).length:Int)=((rs.length+1:Nat):Int):=by simp
  have e2:wrap .i64 (((rs.length+1:Nat):Int) - 1)=((rs.length:Nat):Int):=by rw[qo (by omega) (by omega)];omega
  have g1:((y::rs).reverse++x::t).getD (rs.length+1) (0,0,0,())=x:=by
   have:=qbfx (y::rs).reverse x t (0,0,0,());rw[z51,z22] at this;exact this
  have g2:((y::rs).reverse++x::t).getD rs.length (0,0,0,())=y:=by
   have:=qbfx rs.reverse y (x::t) (0,0,0,());rw[z51] at this
   rw[List.reverse_cons,z33];exact this
  have s1:((y::rs).reverse++x::t).set (rs.length+1) y=rs.reverse++y::(y::t):=by
   have:=qbfe (y::rs).reverse x y t;rw[z51,z22] at this
   rw[this,List.reverse_cons,z33];rfl
  have s2:(rs.reverse++y::(y::t)).set rs.length x=rs.reverse++x::(y::t):=by
   have:=qbfe rs.reverse y x (y::t);rw[z51] at this;exact this
  simp only[qbv,qcx]
  rw[e1,e2,qg (by omega),ixn (by omega) (by rw[hlen];omega),br_t,ixn (by omega) (by rw[hlen];omega),br_t]
  simp only[z12,z17]
  rw[qb1p hX hN g1 g2 hx hy,qc,g1,g2,br_t,br_t,br_t,s1,s2]
  have hl2:(rs.reverse++y::(y::t)).length=rs.length+t.length+2:=by simp;omega
  simp only[bubR]
  by_cases hlt:x.1<y.1
  ·rw[qg (show x.1 - y.1<0 by omega),ixn (by omega) (by rw[hlen];omega),br_t,z6 (show ekey x<ekey y from hlt)]
   rw[qbss N n hN K0 b i x hx m rs (y::t) (by omega) (by simp only[z22];omega) (fun e he=>hs e (z16 _ he))]
   rw[List.reverse_cons,z33];rfl
  ·rw[qh (show ¬ x.1 - y.1<0 by omega),z5 (show ¬ ekey x<ekey y from hlt)]
   simp
theorem qbpj (N:Nat) (hN:1≤N) (hW:2000≤N) (K0:List qbe→Option (Unit×List qbe×Unit)):∀ (rest s:List qbe) (m:Nat),rest.length<m→s.length+rest.length≤1000→(∀ e∈s,qll e.1)→(∀ e∈rest,qll e.1)→
  qz (DD X N) N (Clo.mk 183 []) K0 m 0 ((s.length+rest.length:Nat):Int) (s.length:Int) (s++rest)=K0 (rest.foldl (bub ekey) s)
 | [],s,0,h,_,_,_=>by omega
 | _::_,s,0,h,_,_,_=>by omega
 | [],s,m+1,_,_,_,_=>by
  simp only[qz,qb9]
  rw[qh (by simp),z48]
  rfl
 | x::rest,s,m+1,hf,hl,hs,hr=>by
  simp only[z22] at hf hl
  simp only[qz,qb9,qdm]
  rw[qg (by simp only[z22];omega)]
  have e:=qbss hX N N hN (fun v0_0 v0_1 v0_2 v0_3=>qdg (DD X N) N (Clo.mk 183 []) (qz (DD X N) N (Clo.mk 183 []) K0 m) K0 v0_0 v0_1 v0_2 v0_3)
   ((s.length+(x::rest).length:Nat):Int) (s.length:Int) x (hr x z14) N s.reverse rest (by rw[z51];omega) (by rw[z51];omega) (fun e he=>hs e (List.mem_reverse.1 he))
  rw[z51,List.reverse_reverse] at e
  rw[e]
  simp only[qdg]
  rw[qs (by omega)]
  have e2:=qbpj N hN hW K0 rest (bub ekey s x) m (by omega) (by rw[qbaf];omega) (fun z hz=>by
   rcases (qbm4 ekey s x z).1 hz with h | h
   ·subst h;exact hr _ z14
   ·exact hs z h) (fun z hz=>hr z (z16 _ hz))
  rw[qbaf] at e2
  rw[show s.length+(x::rest).length=s.length+1+rest.length by simp only[z22];omega]
  exact e2
end
end Go.G

namespace Go.G
set_option maxRecDepth 100000
open Go Go.V Go.Proofs
def ikey (e:Int):Int:=e
theorem qb3r (D:Den ctx) (n:Nat):qbu D n 0=some ((0,()),()):=by kernel_rfl
theorem qb31 (D:Den ctx) (n:Nat):qbu D n 1=some ((1,()),()):=by kernel_rfl
theorem qb3t (D:Den ctx) (n:Nat):qbu D n 2=some ((2,()),()):=by kernel_rfl
theorem qb3y (D:Den ctx) (n:Nat):qbu D n 3=some ((2,()),()):=by kernel_rfl
theorem qb3d (D:Den ctx) (n:Nat):qbu D n 4=some ((3,()),()):=by kernel_rfl
theorem qb28 (D:Den ctx) (n:Nat):qbu D n 5=some ((3,()),()):=by kernel_rfl
theorem qb4p (D:Den ctx) (n:Nat):qbu D n 6=some ((3,()),()):=by kernel_rfl
theorem qb3m (D:Den ctx) (n:Nat):qbu D n 7=some ((3,()),()):=by kernel_rfl
theorem qb3j (D:Den ctx) (n:Nat):qbu D n 8=some ((4,()),()):=by kernel_rfl
theorem qb3l (D:Den ctx) (n:Nat):qbu D n 9=some ((4,()),()):=by kernel_rfl
theorem qb1m (D:Den ctx) (n:Nat):qbu D n 10=some ((4,()),()):=by kernel_rfl
theorem qb1z (D:Den ctx) (n:Nat):qbu D n 11=some ((4,()),()):=by kernel_rfl
theorem qb1o (D:Den ctx) (n:Nat):qbu D n 12=some ((4,()),()):=by kernel_rfl
section
variable {X:Ext} (hX:XOk X) {n:Nat}
include hX
theorem qb48 (hn:2≤n) (a b:Int):qdr (DD X n) a b=some ((decide (a<b),()),()):=by
 obtain ⟨n,rfl⟩:∃ k,n=k+2:=⟨n - 2,by omega⟩
 rw[qboj hX]
 simp only[q0k,q9z]
 rw[qbk3 hX]
 simp only[qxw,q70,qc]
 rw[show (a != a)=false by simp,br_f]
 rfl
theorem qbu5 (N n:Nat) (hN:2≤N) (K0:Int→Int→Int→List Int→Option (Unit×List Int×Unit)) (b i:Int) (x:Int) (hx:qll x):∀ (m:Nat) (rs t:List Int),rs.length<m→rs.length+t.length≤1000→(∀ e∈rs,qll e)→
  qcc (DD X N) n K0 m 0 b i (rs.length:Int) (rs.reverse++x::t)=K0 0 b i ((bubR ikey rs x).reverse++t)
 | 0,_,_,h,_,_=>by omega
 | m+1,[],t,_,_,_=>by
  simp only[qcc,qdh]
  rw[qh (by simp)]
  simp[bubR]
 | m+1,y::rs,t,hf,hl,hs=>by
  have hy:=hs y z14
  have hlen:((y::rs).reverse++x::t).length=rs.length+t.length+2:=by simp;omega
  simp only[z22] at hf hl
  have e1:((y::rs).length:Int)=((rs.length+1:Nat):Int):=by simp
  have e2:wrap .i64 (((rs.length+1:Nat):Int) - 1)=((rs.length:Nat):Int):=by rw[qo (by omega) (by omega)];omega
  have g1:((y::rs).reverse++x::t).getD (rs.length+1) 0=x:=by
   have:=qbfx (y::rs).reverse x t 0;rw[z51,z22] at this;exact this
  have g2:((y::rs).reverse++x::t).getD rs.length 0=y:=by
   have:=qbfx rs.reverse y (x::t) 0;rw[z51] at this
   rw[List.reverse_cons,z33];exact this
  have s1:((y::rs).reverse++x::t).set (rs.length+1) y=rs.reverse++y::(y::t):=by
   have:=qbfe (y::rs).reverse x y t;rw[z51,z22] at this
   rw[this,List.reverse_cons,z33];rfl
  have s2:(rs.reverse++y::(y::t)).set rs.length x=rs.reverse++x::(y::t):=by
   have:=qbfe rs.reverse y x (y::t);rw[z51] at this;exact this
  simp only[qcc,qdh]
  rw[e1,e2,qg (by omega),ixn (by omega) (by rw[hlen];omega),br_t,ixn (by omega) (by rw[hlen];omega),br_t]
  simp only[z12,z17]
  rw[g1,g2,qb48 hX hN,qc]
  dsimp only
  rw[br_t,br_t,br_t,s1,s2]
  have hl2:(rs.reverse++y::(y::t)).length=rs.length+t.length+2:=by simp;omega
  simp only[bubR]
  by_cases hlt:x<y
  ·rw[qg (show x<y from hlt),ixn (by omega) (by rw[hlen];omega),br_t,z6 (show ikey x<ikey y from hlt)]
   rw[qbu5 N n hN K0 b i x hx m rs (y::t) (by omega) (by simp only[z22];omega) (fun e he=>hs e (z16 _ he))]
   rw[List.reverse_cons,z33];rfl
  ·rw[qh (show ¬ x<y from hlt),z5 (show ¬ ikey x<ikey y from hlt)]
   simp
theorem qbqb (N:Nat) (hN:2≤N) (hW:2000≤N) (K0:List Int→Option (Unit×List Int×Unit)):∀ (rest s:List Int) (m:Nat),rest.length<m→s.length+rest.length≤1000→(∀ e∈s,qll e)→(∀ e∈rest,qll e)→
  qba (DD X N) N K0 m 0 ((s.length+rest.length:Nat):Int) (s.length:Int) (s++rest)=K0 (rest.foldl (bub ikey) s)
 | [],s,0,h,_,_,_=>by omega
 | _::_,s,0,h,_,_,_=>by omega
 | [],s,m+1,_,_,_,_=>by
  simp only[qba,qc0]
  rw[qh (by simp),z48]
  rfl
 | x::rest,s,m+1,hf,hl,hs,hr=>by
  simp only[z22] at hf hl
  simp only[qba,qc0,qfu]
  rw[qg (by simp only[z22];omega)]
  have e:=qbu5 hX N N hN (fun v0_0 v0_1 v0_2 v0_3=>qfl (DD X N) N (qba (DD X N) N K0 m) K0 v0_0 v0_1 v0_2 v0_3)
   ((s.length+(x::rest).length:Nat):Int) (s.length:Int) x (hr x z14) N s.reverse rest (by rw[z51];omega) (by rw[z51];omega) (fun e he=>hs e (List.mem_reverse.1 he))
  rw[z51,List.reverse_reverse] at e
  rw[e]
  simp only[qfl]
  rw[qs (by omega)]
  have e2:=qbqb N hN hW K0 rest (bub ikey s x) m (by omega) (by rw[qbaf];omega) (fun z hz=>by
   rcases (qbm4 ikey s x z).1 hz with h | h
   ·subst h;exact hr _ z14
   ·exact hs z h) (fun z hz=>hr z (z16 _ hz))
  rw[qbaf] at e2
  rw[show s.length+(x::rest).length=s.length+1+rest.length by simp only[z22];omega]
  exact e2
theorem qb2v (hn:2≤n) (k:Nat) (hk:k≤12):∃ v,qp6 (DD X n) (IntKind.wrap IntKind.u64 (k:Int))=some ((v,()),()):=by
 obtain ⟨n,rfl⟩:∃ k,n=k+2:=⟨n - 2,by omega⟩
 have hw:IntKind.wrap IntKind.u64 (k:Int)=(k:Int):=by
  have:∀ j:Fin 13,IntKind.wrap IntKind.u64 ((j:Nat):Int)=((j:Nat):Int):=by decide +kernel
  exact this ⟨k,by omega⟩
 rw[hw,qblf hX]
 simp only[qv7,q7y]
 rw[qbgm hX]
 have key:∃ v,qbu (DD X n) n (k:Int)=some ((v,()),()):=by
  match k,hk with
  | 0,_=>exact ⟨_,qb3r _ _⟩
  | 1,_=>exact ⟨_,qb31 _ _⟩
  | 2,_=>exact ⟨_,qb3t _ _⟩
  | 3,_=>exact ⟨_,qb3y _ _⟩
  | 4,_=>exact ⟨_,qb3d _ _⟩
  | 5,_=>exact ⟨_,qb28 _ _⟩
  | 6,_=>exact ⟨_,qb4p _ _⟩
  | 7,_=>exact ⟨_,qb3m _ _⟩
  | 8,_=>exact ⟨_,qb3j _ _⟩
  | 9,_=>exact ⟨_,qb3l _ _⟩
  | 10,_=>exact ⟨_,qb1m _ _⟩
  | 11,_=>exact ⟨_,qb1z _ _⟩
  | 12,_=>exact ⟨_,qb1o _ _⟩
  | k+13,h=>omega
 obtain ⟨v,e⟩:=key
 rw[e,qc]
 exact ⟨v,rfl⟩
theorem qb39 (hn:W+6≤n) (l:List Int) (hl:l.length≤12) (hs:∀ e∈l,qll e):qjg (DD X n) l=some ((),l.foldl (bub ikey) [],()):=by
 obtain ⟨n,rfl⟩:∃ k,n=k+3:=⟨n - 3,by omega⟩
 have hW:=qbf
 rw[qbam hX]
 simp only[qmn,qvl]
 obtain ⟨v,e⟩:=qb2v hX (n:=n+2) (by omega) l.length hl
 rw[e,qc]
 dsimp only
 rw[q1u hX]
 simp only[qi9,qi5,qhz]
 rw[show n+1=n+1 from rfl]
 simp only[qfp,qid]
 rw[qo (by omega) (by omega),qg (by omega),qtn hX]
 simp only[qgn,qgm,qfv]
 rw[show wrap .i64 (0+1)=((1:Nat):Int) by decide +kernel]
 cases l with
 | nil=>
  obtain ⟨n,rfl⟩:∃ k,n=k+1:=⟨n - 1,by omega⟩
  simp only[qba,qc0]
  rw[qh (by simp)]
  rfl
 | cons x l=>
  have:=qbqb hX n (by omega) (by omega) (fun v0_0=>qjc (DD X n) n v0_0) l [x] n (by simp only[z22] at hl;omega) (by simp only[z22,List.length_nil] at hl ⊢;omega) (fun e he=>hs e (by simp only[z23] at he;subst he;exact z14)) (fun e he=>hs e (z16 _ he))
  simp only[z22,List.length_nil,Nat.zero_add,List.singleton_append] at this ⊢
  rw[show l.length+1=1+l.length by omega,this]
  rfl
theorem qb4e (hn:W+6≤n) (l:List qbe) (hl:l.length≤12) (hs:∀ e∈l,qll e.1):qc5 (DD X n) l (Clo.mk 183 [])=some ((),l.foldl (bub ekey) [],()):=by
 obtain ⟨n,rfl⟩:∃ k,n=k+3:=⟨n - 3,by omega⟩
 have hW:=qbf
 rw[qoi hX]
 simp only[qes,qhy]
 obtain ⟨v,e⟩:=qb2v hX (n:=n+2) (by omega) l.length hl
 rw[e,qc]
 dsimp only
 rw[qsw hX]
 simp only[qf5,qf9,qfm]
 simp only[qdd,qfq]
 rw[qo (by omega) (by omega),qg (by omega),qn4 hX]
 simp only[qeh,qeg,qdp]
 rw[show wrap .i64 (0+1)=((1:Nat):Int) by decide +kernel]
 cases l with
 | nil=>
  obtain ⟨n,rfl⟩:∃ k,n=k+1:=⟨n - 1,by omega⟩
  simp only[qz,qb9]
  rw[qh (by simp)]
  rfl
 | cons x l=>
  have:=qbpj hX n (by omega) (by omega) (fun v0_0=>qgq (DD X n) n (Clo.mk 183 []) v0_0) l [x] n (by simp only[z22] at hl;omega) (by simp only[z22,List.length_nil] at hl ⊢;omega) (fun e he=>hs e (by simp only[z23] at he;subst he;exact z14)) (fun e he=>hs e (z16 _ he))
  simp only[z22,List.length_nil,Nat.zero_add,List.singleton_append] at this ⊢
  rw[show l.length+1=1+l.length by omega,this]
  rfl
end
end Go.G

namespace Go.G
set_option maxRecDepth 100000
open Go Go.V Go.Proofs
def ent (got:Got) (p:Int) (f:Int→Int):List qbe:=bif hit got p then [(p,(qbg got p).1,f (qbg got p).1,())] else []
theorem qbah {got:Got} {p:Int} (h:hit got p=true) (f:Int→Int):ent got p f=[(p,(qbg got p).1,f (qbg got p).1,())]:=by unfold ent;rw[h];rfl
theorem qbbx {got:Got} {p:Int} (h:hit got p=false) (f:Int→Int):ent got p f=[]:=by unfold ent;rw[h];rfl
theorem qry (got:Got) (p:Int) (f:Int→Int):(ent got p f).length≤1:=by unfold ent;cases hit got p<;>simp
def one (v:Int):Int:=wrap .i64 (v+1)
def less (v:Int):Int:=if wrap .i64 (v - 1)>0 then wrap .i64 (v - 1) else 0
def insS (l:List qbe) (e:qbe):List qbe:=l.takeWhile (fun y=>decide (y.1<e.1))++e::l.dropWhile (fun y=>decide (y.1<e.1))
theorem qbtn (l:List qbe) (e:qbe):(insS l e).length=l.length+1:=by
 unfold insS
 have:=congrArg List.length (List.takeWhile_append_dropWhile (p:=fun y:qbe=>decide (y.1<e.1)) (l:=l))
 rw[z19] at this ⊢
 rw[z22]
 omega
theorem qboy (got:Got) (p:Int):(bif decide (p<0) then true else !(qbg got p).2)=!hit got p:=by
 unfold hit
 by_cases h:p<0
 ·rw[z11 h,z10 (by omega:¬ 0≤p)];rfl
 ·rw[z10 h,z11 (by omega:0≤p)];rfl
section
variable {X:Ext} (hX:XOk X) {n:Nat} {got:Got}
include hX
theorem qba2 (hn:W+2≤n) (hg:got.length≤1048576) {out:List qbe} (ho:out.length≤100) (p to:Int):qcv (DD X n) p to 0 got out=some ((),(out++ent got p (fun _=>to)),()):=by
 obtain ⟨n,rfl⟩:∃ k,n=k+1:=⟨n - 1,by omega⟩
 have hb:=qbi
 rw[qvf hX]
 simp only[qkk,qnq]
 rw[qhj hX (by omega) got hg,qc]
 dsimp only
 rw[qboy]
 cases h:hit got p
 ·rw[Bool.not_false,br_t,qbbx h,z48]
 ·rw[z13,br_f,qh (by decide),qh (by decide),qg (by omega),qbah h]
theorem qb4v (hn:W+2≤n) (hg:got.length≤1048576) {out:List qbe} (ho:out.length≤100) (p to:Int):qcv (DD X n) p to 1 got out=some ((),(out++ent got p one),()):=by
 obtain ⟨n,rfl⟩:∃ k,n=k+1:=⟨n - 1,by omega⟩
 have hb:=qbi
 rw[qvf hX]
 simp only[qkk,qnq]
 rw[qhj hX (by omega) got hg,qc]
 dsimp only
 rw[qboy]
 cases h:hit got p
 ·rw[Bool.not_false,br_t,qbbx h,z48]
 ·rw[z13,br_f,qg trivial,qg (by omega),qbah h];rfl
theorem qb49 (hn:W+2≤n) (hg:got.length≤1048576) {out:List qbe} (ho:out.length≤100) (p to:Int):qcv (DD X n) p to (-1) got out=some ((),(out++ent got p less),()):=by
 obtain ⟨n,rfl⟩:∃ k,n=k+1:=⟨n - 1,by omega⟩
 have hb:=qbi
 rw[qvf hX]
 simp only[qkk,qnq]
 rw[qhj hX (by omega) got hg,qc]
 dsimp only
 rw[qboy]
 cases h:hit got p
 ·rw[Bool.not_false,br_t,qbbx h,z48]
 ·rw[z13,br_f,qh (by decide),qg trivial,qg (by omega),qbah h];rfl
end
end Go.G

namespace Go.G
set_option maxRecDepth 100000
open Go Go.V Go.Proofs
theorem qmz (k:Int):((0≤k∧k≤3)∧qr k=k)∨(¬ (0≤k∧k≤3)∧qr k = -1):=by
 unfold qr
 by_cases h:0≤k∧k≤3
 ·rw[qcb.2 h];exact .inl ⟨h,rfl⟩
 ·rw[qro h];exact .inr ⟨h,rfl⟩
theorem qih (v:Int):((1≤v∧v≤6)∧qy v=3+v)∨(¬ (1≤v∧v≤6)∧qy v = -1):=by
 unfold qy
 by_cases h:1≤v∧v≤6
 ·rw[qcb.2 h,z21,qo (by omega) (by omega)];exact .inl ⟨h,rfl⟩
 ·rw[qro h];exact .inr ⟨h,rfl⟩
theorem qgy (v:Int):((1≤v∧v≤6)∧qbt v=13+v)∨(¬ (1≤v∧v≤6)∧qbt v = -1):=by
 unfold qbt
 by_cases h:1≤v∧v≤6
 ·rw[qcb.2 h,z21,qo (by omega) (by omega)];exact .inl ⟨h,rfl⟩
 ·rw[qro h];exact .inr ⟨h,rfl⟩
theorem qie (c:Int):((0≤c∧c≤2)∧qbw c=10+c)∨(¬ (0≤c∧c≤2)∧qbw c = -1):=by
 unfold qbw
 by_cases h:0≤c∧c≤2
 ·rw[qcb.2 h,z21,qo (by omega) (by omega)];exact .inl ⟨h,rfl⟩
 ·rw[qro h];exact .inr ⟨h,rfl⟩
theorem qkm (v:Int):((1≤v∧v≤6)∧0≤qi v∧qi v≤2)∨(¬ (1≤v∧v≤6)∧qi v = -1):=by
 unfold qi
 by_cases h:1≤v∧v≤6
 ·rw[qcb.2 h,z21,Int.tmod_eq_emod_of_nonneg (by omega)]
  exact .inl ⟨h,Int.emod_nonneg _ (by omega),by have:=Int.emod_lt_of_pos v (show (0:Int)<3 by omega);omega⟩
 ·rw[qro h];exact .inr ⟨h,rfl⟩
def Asc (l:List qbe):Prop:=l.Pairwise fun a b=>a.1<b.1
theorem qbod (p:Int):∀ (l:List qbe),Asc l→∀ y∈l.dropWhile (fun y=>decide (y.1<p)),p≤y.1
 | [],_,y,h=>by simp at h
 | x::l,hs,y,h=>by
  have hs2:=List.pairwise_cons.1 hs
  by_cases hx:x.1<p
  ·rw[List.dropWhile_cons_of_pos (by exact z11 hx)] at h
   exact qbod p l hs2.2 y h
  ·rw[List.dropWhile_cons_of_neg (by simpa using hx)] at h
   rcases z15.1 h with h | h
   ·subst h;omega
   ·have:=hs2.1 y h;omega
theorem qbns (p:Int):∀ (l:List qbe),∀ y∈l.takeWhile (fun y=>decide (y.1<p)),y.1<p
 | [],y,h=>by simp at h
 | x::l,y,h=>by
  by_cases hx:x.1<p
  ·rw[List.takeWhile_cons_of_pos (by exact z11 hx)] at h
   rcases z15.1 h with h | h
   ·subst h;exact hx
   ·exact qbns p l y h
  ·rw[List.takeWhile_cons_of_neg (by simpa using hx)] at h;simp at h
theorem qbsl (l:List qbe) (e z:qbe):z∈insS l e↔z=e∨z∈l:=by
 unfold insS
 have h:z∈l↔z∈l.takeWhile (fun y=>decide (y.1<e.1))∨z∈l.dropWhile (fun y=>decide (y.1<e.1)):=by
  rw[←z18,List.takeWhile_append_dropWhile]
 rw[z18,z15,h]
 constructor
 ·rintro (h | h | h)
  ·exact .inr (.inl h)
  ·exact .inl h
  ·exact .inr (.inr h)
 ·rintro (h | h | h)
  ·exact .inr (.inl h)
  ·exact .inl h
  ·exact .inr (.inr h)
theorem qb1y {l:List qbe} (hs:Asc l) {e:qbe} (he:∀ y∈l,y.1≠e.1):Asc (insS l e):=by
 unfold insS
 have hd:∀ y∈l.dropWhile (fun y=>decide (y.1<e.1)),e.1<y.1:=fun y hy=>by
  have h1:=qbod e.1 l hs y hy
  have h2:=he y (List.dropWhile_sublist _ |>.mem hy)
  omega
 have ht:=qbns e.1 l
 refine List.pairwise_append.2 ⟨hs.sublist (List.takeWhile_sublist _),List.pairwise_cons.2 ⟨hd,hs.sublist (List.dropWhile_sublist _)⟩,fun a ha b hb=>?_⟩
 have h1:=ht a ha
 rcases z15.1 hb with h | h
 ·subst h;exact h1
 ·have:=hd b h;omega
theorem qb4o {l:List qbe} (hs:Asc l) {e:qbe} (he:∀ y∈l,y.1≠e.1):bub ekey l e=insS l e:=by
 have hd:∀ y∈l.dropWhile (fun y=>decide (y.1<e.1)),e.1<y.1:=fun y hy=>by
  have h1:=qbod e.1 l hs y hy
  have h2:=he y (List.dropWhile_sublist _ |>.mem hy)
  omega
 have ht:=qbns e.1 l
 have:=qbyz ekey e (l.takeWhile (fun y=>decide (y.1<e.1))) (fun y hy=>by have:=ht y hy;unfold ekey;omega) (l.dropWhile (fun y=>decide (y.1<e.1))).reverse (fun y hy=>hd y (List.mem_reverse.1 hy))
 rw[List.reverse_reverse,List.takeWhile_append_dropWhile] at this
 rw[this]
 rfl
def qbyl (l:List qbe):Prop:=l.Pairwise fun a b=>a.1≠b.1
theorem qbtl:∀ (L acc:List qbe),Asc acc→qbyl L→(∀ a∈acc,∀ e∈L,a.1≠e.1)→L.foldl (bub ekey) acc=L.foldl insS acc∧Asc (L.foldl insS acc)∧(∀ z,z∈L.foldl insS acc↔z∈acc∨z∈L)∧(L.foldl insS acc).length=acc.length+L.length
 | [],acc,h,_,_=>⟨rfl,h,fun z=>by simp,rfl⟩
 | e::L,acc,h,hL,hx=>by
  have hL2:=List.pairwise_cons.1 hL
  have he:∀ y∈acc,y.1≠e.1:=fun y hy=>hx y hy e z14
  simp only[List.foldl_cons]
  rw[qb4o h he]
  obtain ⟨r1,r2,r3,r4⟩:=qbtl L (insS acc e) (qb1y h he) hL2.2 (fun a ha b hb=>by
   rcases (qbsl acc e a).1 ha with q | q
   ·subst q;exact hL2.1 b hb
   ·exact hx a q b (z16 _ hb))
  refine ⟨r1,r2,fun z=>?_,by rw[r4,qbtn,z22];omega⟩
  rw[r3 z,qbsl,z15]
  constructor
  ·rintro ((h | h) | h)
   ·exact .inr (.inl h)
   ·exact .inl h
   ·exact .inr (.inr h)
  ·rintro (h | h | h)
   ·exact .inl (.inr h)
   ·exact .inl (.inl h)
   ·exact .inr h
theorem qbpk:∀ (L acc:List qbe),(L.foldl insS acc).length=acc.length+L.length
 | [],acc=>rfl
 | e::L,acc=>by rw[List.foldl_cons,qbpk L,qbtn,z22];omega
abbrev Want:=Int×(Int→Int)
def ents (got:Got) (L:List Want):List qbe:=L.flatMap fun p=>ent got p.1 p.2
theorem qbjr (got:Got):∀ (L:List Want),(ents got L).length≤L.length
 | []=>Nat.le_refl _
 | p::L=>by
  have h1:=qry got p.1 p.2
  have h2:=qbjr got L
  show ((p::L).flatMap _).length≤_
  rw[List.flatMap_cons,z19,z22]
  have:(L.flatMap fun p=>ent got p.1 p.2).length≤L.length:=h2
  omega
theorem qyo (got:Got) (L:List Want) (e:qbe):e∈ents got L↔∃ p∈L,hit got p.1=true∧e=(p.1,(qbg got p.1).1,p.2 (qbg got p.1).1,()):=by
 unfold ents
 rw[List.mem_flatMap]
 constructor
 ·rintro ⟨p,hp,he⟩
  refine ⟨p,hp,?_⟩
  unfold ent at he
  cases h:hit got p.1
  ·rw[h] at he;simp at he
  ·rw[h] at he;simp only[z21,z23] at he;exact ⟨rfl,he⟩
 ·rintro ⟨p,hp,h,rfl⟩
  exact ⟨p,hp,by rw[qbah h];exact z23.2 rfl⟩
theorem qbfj {got:Got} {p:Int} (h:hit got p=true):0≤p:=by
 unfold hit at h
 simp only[z9,z45] at h
 exact h.1
theorem qbla (got:Got):∀ (L:List Want),(L.Pairwise fun p q=>0≤p.1→p.1≠q.1)→qbyl (ents got L)
 | [],_=>List.Pairwise.nil
 | p::L,h=>by
  have h2:=List.pairwise_cons.1 h
  have ih:=qbla got L h2.2
  show qbyl ((p::L).flatMap _)
  rw[List.flatMap_cons]
  cases hh:hit got p.1
  ·rw[qbbx hh];exact ih
  ·rw[qbah hh]
   refine List.pairwise_cons.2 ⟨fun e he=>?_,ih⟩
   obtain ⟨q,hq,_,rfl⟩:=(qyo got L e).1 he
   exact h2.1 q hq (qbfj hh)
theorem qbye (got:Got) (L:List Want) (h:∀ p∈L,p.1≤19):∀ e∈ents got L,qll e.1:=by
 intro e he
 obtain ⟨p,hp,hh,rfl⟩:=(qyo got L e).1 he
 have h1:=qbfj hh
 have h2:=h p hp
 exact ⟨by show -1000≤p.1;omega,by show p.1≤1000;omega⟩
def chgL (K V held st:Int):List Want:=
 [(qr K,fun _=>V),(13,fun _=>st),(qy held,fun _=>0),(qbt held,fun _=>0),(qy V,fun _=>wrap .i64 (K+1)),(qbt V,fun _=>wrap .i64 (K+1))]++
  (bif qi held != qi V then [(qbw (qi held),less),(qbw (qi V),one)] else [])
theorem qbsb (K V held st:Int):(chgL K V held st).length≤8:=by
 unfold chgL
 cases qi held != qi V<;>simp
theorem qbwy (K V held st:Int):∀ p∈chgL K V held st,p.1≤19:=by
 have h1:=qmz K
 have h2:=qih held
 have h3:=qih V
 have h4:=qgy held
 have h5:=qgy V
 have h6:=qie (qi held)
 have h7:=qie (qi V)
 unfold chgL
 cases qi held != qi V
 ·intro p hp
  simp only[z20,z48,z15,z25,or_false] at hp
  rcases hp with rfl | rfl | rfl | rfl | rfl | rfl<;>dsimp only<;>omega
 ·intro p hp
  simp only[z21,z40,z46,z15,z25,or_false] at hp
  rcases hp with rfl | rfl | rfl | rfl | rfl | rfl | rfl | rfl<;>dsimp only<;>omega
theorem qbx2 {K V held st:Int} (hv:1≤held∧held≤6→held≠V):(chgL K V held st).Pairwise fun p q=>0≤p.1→p.1≠q.1:=by
 have h1:=qmz K
 have h2:=qih held
 have h3:=qih V
 have h4:=qgy held
 have h5:=qgy V
 have h6:=qie (qi held)
 have h7:=qie (qi V)
 unfold chgL
 cases hc:qi held != qi V
 ·simp only[z20,z48,List.pairwise_cons,z15,z25,or_false,forall_eq_or_imp,forall_eq,List.Pairwise.nil,and_true,false_implies,implies_true,forall_const]
  refine ⟨⟨?_,?_,?_,?_,?_⟩,⟨?_,?_,?_,?_⟩,⟨?_,?_,?_⟩,⟨?_,?_⟩,?_⟩<;>omega
 ·have hne:qi held≠qi V:=by simpa using hc
  simp only[z21,z40,z46,List.pairwise_cons,z15,z25,or_false,forall_eq_or_imp,forall_eq,List.Pairwise.nil,and_true,false_implies,implies_true,forall_const]
  refine ⟨⟨?_,?_,?_,?_,?_,?_,?_⟩,⟨?_,?_,?_,?_,?_,?_⟩,⟨?_,?_,?_,?_,?_⟩,⟨?_,?_,?_,?_⟩,⟨?_,?_,?_⟩,⟨?_,?_⟩,?_⟩<;>omega
end Go.G

namespace Go.G
set_option maxRecDepth 100000
open Go Go.V Go.Proofs
section
variable {X:Ext} (hX:XOk X) {n:Nat} {got:Got}
include hX
theorem qbz2 (hn:W+9≤n) (hg:got.length≤1048576) (k K V held st:Int) :
  qrx (DD X n) (k,K,V,()) got held st=some (((ents got (chgL K V held st)).foldl (bub ekey) [],()),()):=by
 obtain ⟨n,rfl⟩:∃ k,n=k+1:=⟨n - 1,by omega⟩
 have hW:=qbf
 obtain ⟨E1,h1⟩:∃ E,E=ent got (qr K) (fun _=>V):=⟨_,rfl⟩
 obtain ⟨E2,h2⟩:∃ E,E=ent got 13 (fun _=>st):=⟨_,rfl⟩
 obtain ⟨E3,h3⟩:∃ E,E=ent got (qy held) (fun _=>0):=⟨_,rfl⟩
 obtain ⟨E4,h4⟩:∃ E,E=ent got (qbt held) (fun _=>0):=⟨_,rfl⟩
 obtain ⟨E5,h5⟩:∃ E,E=ent got (qy V) (fun _=>wrap .i64 (K+1)):=⟨_,rfl⟩
 obtain ⟨E6,h6⟩:∃ E,E=ent got (qbt V) (fun _=>wrap .i64 (K+1)):=⟨_,rfl⟩
 obtain ⟨E7,h7⟩:∃ E,E=ent got (qbw (qi held)) less:=⟨_,rfl⟩
 obtain ⟨E8,h8⟩:∃ E,E=ent got (qbw (qi V)) one:=⟨_,rfl⟩
 have l1:E1.length≤1:=by rw[h1];exact qry ..
 have l2:E2.length≤1:=by rw[h2];exact qry ..
 have l3:E3.length≤1:=by rw[h3];exact qry ..
 have l4:E4.length≤1:=by rw[h4];exact qry ..
 have l5:E5.length≤1:=by rw[h5];exact qry ..
 have l6:E6.length≤1:=by rw[h6];exact qry ..
 have l7:E7.length≤1:=by rw[h7];exact qry ..
 have l8:E8.length≤1:=by rw[h8];exact qry ..
 have hs:=fun l hl hk=>qb4e hX (n:=n) (by omega) l hl hk
 have hlen:=Nat.le_trans (qbjr got (chgL K V held st)) (qbsb K V held st)
 have hsm:=qbye got (chgL K V held st) (qbwy K V held st)
 have heq:ents got (chgL K V held st)=bif qi held != qi V then []++E1++E2++E3++E4++E5++E6++E7++E8 else []++E1++E2++E3++E4++E5++E6:=by
  unfold ents chgL
  cases qi held != qi V
  ·simp only[z20,z48,List.flatMap_cons,List.flatMap_nil,z46,z33,←h1,←h2,←h3,←h4,←h5,←h6]
  ·simp only[z21,z40,z46,z48,List.flatMap_cons,List.flatMap_nil,z33,←h1,←h2,←h3,←h4,←h5,←h6,←h7,←h8]
 rw[qbou hX]
 simp only[qzi,qbax]
 rw[qi4 hX (by omega),qc]
 dsimp only
 rw[qba2 hX (by omega) hg (by simp),←h1,qc]
 dsimp only
 rw[qgl hX (by omega),qc]
 dsimp only
 rw[qba2 hX (by omega) hg (by simp only[z19,List.length_nil];omega),←h2,qc]
 dsimp only
 rw[qj5 hX (by omega),qc]
 dsimp only
 rw[qba2 hX (by omega) hg (by simp only[z19,List.length_nil];omega),←h3,qc]
 dsimp only
 rw[qln hX (by omega),qc]
 dsimp only
 rw[qba2 hX (by omega) hg (by simp only[z19,List.length_nil];omega),←h4,qc]
 dsimp only
 rw[qj5 hX (by omega),qc]
 dsimp only
 rw[qba2 hX (by omega) hg (by simp only[z19,List.length_nil];omega),←h5,qc]
 dsimp only
 rw[qln hX (by omega),qc]
 dsimp only
 rw[qba2 hX (by omega) hg (by simp only[z19,List.length_nil];omega),←h6,qc]
 dsimp only
 rw[ql4 hX (by omega),qc,ql4 hX (by omega),qc]
 dsimp only
 cases hc:qi held != qi V
 ·rw[hc,z20] at heq
  rw[br_f,←heq,hs _ (by omega) hsm,qc]
 ·rw[hc,z21] at heq
  rw[br_t]
  simp only[qc]
  rw[qj7 hX (by omega),qc]
  dsimp only
  rw[qb49 hX (by omega) hg (by simp only[z19,List.length_nil];omega),←h7,qc]
  dsimp only
  rw[qj7 hX (by omega),qc]
  dsimp only
  rw[qb4v hX (by omega) hg (by simp only[z19,List.length_nil];omega),←h8,qc]
  dsimp only
  rw[←heq,hs _ (by omega) hsm,qc]
end
end Go.G

namespace Go.G
set_option maxRecDepth 100000
open Go Go.V Go.Proofs
def opOk (o:Op3):Bool:=
 bif decide (o.1=1)||decide (o.1=2) then inR o.2.1 0 3&&inR o.2.2.1 1 6
 else bif decide (o.1=3)||decide (o.1=4) then inR o.2.1 0 3&&decide (o.2.2.1=0)
 else bif decide (o.1=5)||decide (o.1=10) then decide (o.2.1=0)&&inR o.2.2.1 1 6
 else bif decide (o.1=6) then inR o.2.1 0 2&&decide (o.2.2.1=0)
 else bif decide (o.1=7)||(decide (o.1=8)||decide (o.1=9)) then decide (o.2.1=0)&&decide (o.2.2.1=0) else false
def nowP (k V row owner st cnt:Int):Option (Int×List Int):=
 if k=1∧row≠0 then some (1,[]) else
 if k=1∧owner≠0 then some (2,[]) else
 if (k=2∨k=3∨k=4)∧row=0 then some (3,[]) else
 if k=2∧row=V then some (0,[]) else
 if k=2∧owner≠0 then some (2,[]) else
 if k=4 then some (0,[row]) else
 if k=5∧owner=0 then some (3,[]) else
 if k=5 then some (0,[wrap .i64 (owner - 1)]) else
 if k=6 then some (0,[cnt]) else
 if k=8∧st≠0 then some (4,[]) else
 if k=9∧(st<1∨st>4) then some (4,[]) else
 if k=10∧st≠5 then some (4,[]) else none
def qog:Option (Int×List Int)→(Int×List Int×Unit)×Bool×Unit
 | some x=>((x.1,x.2,()),true,())
 | none=>((0,[],()),false,())
abbrev Plan:=Bool×(Int×List Int×Unit)×List qbe×Unit
def qgp (o:Op3) (got:Got):Option (Int×List Int):=
 nowP o.1 o.2.2.1 (qbg got (qr o.2.1)).1 (qbg got (qy o.2.2.1)).1 (qbg got 13).1 (qbg got (qbw o.2.1)).1
theorem bned (a b:Int):(a != b)=!decide (a=b):=by by_cases h:a=b<;>simp[h]
section
variable {X:Ext} (hX:XOk X) {n:Nat} {got:Got}
include hX
theorem qbyj (hn:4≤n) (k K V:Int):q06 (DD X n) (k,K,V,())=some ((opOk (k,K,V,()),()),()):=by
 obtain ⟨n,rfl⟩:∃ k,n=k+1:=⟨n - 1,by omega⟩
 rw[qbvd hX]
 simp only[q84,qbhp]
 simp only[qbp9 hX (n:=n) (by omega),qvi hX (n:=n) (by omega),qqd hX (n:=n) (by omega),qbwr hX (n:=n) (by omega),qmp hX (n:=n) (by omega),qc]
 unfold opOk
 dsimp only
 generalize hA:inR K 0 3=A
 generalize hB:inR V 1 6=B
 generalize hC:inR K 0 2=C
 generalize hD:decide (K=0)=D
 generalize hE:decide (V=0)=E
 by_cases h:1≤k∧k≤10
 ·have:k=1∨k=2∨k=3∨k=4∨k=5∨k=6∨k=7∨k=8∨k=9∨k=10:=by omega
  rcases this with rfl | rfl | rfl | rfl | rfl | rfl | rfl | rfl | rfl | rfl<;>cases A<;>cases B<;>cases C<;>cases D<;>cases E<;>rfl
 ·rw[qro h,Bool.not_false,br_t]
  simp only[z10 (by omega:¬ k=1),z10 (by omega:¬ k=2),z10 (by omega:¬ k=3),z10 (by omega:¬ k=4),z10 (by omega:¬ k=5),z10 (by omega:¬ k=6),z10 (by omega:¬ k=7),z10 (by omega:¬ k=8),z10 (by omega:¬ k=9),z10 (by omega:¬ k=10),Bool.or_false,z20]
theorem qxi (hn:5≤n) (k K V:Int):qj3 (DD X n) (k,K,V,())=some ((opOk (k,K,V,()),()),()):=by
 obtain ⟨n,rfl⟩:∃ k,n=k+1:=⟨n - 1,by omega⟩
 rw[qbwb hX]
 simp only[q9d,qbh2]
 simp only[qbp4 hX (n:=n) (by omega),qqz hX (n:=n) (by omega),qbs8 hX (n:=n) (by omega),qc]
 unfold opOk
 dsimp only
 generalize hA:inR K 0 3=A
 generalize hB:inR V 1 6=B
 generalize hC:inR K 0 2=C
 generalize hD:decide (K=0)=D
 generalize hE:decide (V=0)=E
 by_cases h:1≤k∧k≤10
 ·have:k=1∨k=2∨k=3∨k=4∨k=5∨k=6∨k=7∨k=8∨k=9∨k=10:=by omega
  rcases this with rfl | rfl | rfl | rfl | rfl | rfl | rfl | rfl | rfl | rfl<;>cases A<;>cases B<;>cases C<;>cases D<;>cases E<;>rfl
 ·simp only[z10 (by omega:¬ k=1),z10 (by omega:¬ k=2),z10 (by omega:¬ k=3),z10 (by omega:¬ k=4),z10 (by omega:¬ k=5),z10 (by omega:¬ k=6),z10 (by omega:¬ k=7),z10 (by omega:¬ k=8),z10 (by omega:¬ k=9),z10 (by omega:¬ k=10),Bool.or_false,z20,br_f]
theorem qb04 (hn:W+5≤n) (hg:got.length≤1048576) (o:Op3):q3m (DD X n) o got=some (qog (qgp o got),()):=by
 obtain ⟨n,rfl⟩:∃ k,n=k+1:=⟨n - 1,by omega⟩
 have hW:=qbf
 obtain ⟨k,K,V,⟨⟩⟩:=o
 rw[qbqo hX]
 simp only[q25,qbcl]
 simp only[qi4 hX (n:=n) (by omega),qj5 hX (n:=n) (by omega),qj7 hX (n:=n) (by omega),qgl hX (n:=n) (by omega),qhj hX (n:=n) (by omega) got hg,qc]
 unfold qgp
 dsimp only
 generalize (qbg got (qr K)).1=row
 generalize (qbg got (qy V)).1=owner
 generalize (qbg got 13).1=st
 generalize (qbg got (qbw K)).1=cnt
 unfold nowP
 by_cases h:1≤k∧k≤10
 ·have:k=1∨k=2∨k=3∨k=4∨k=5∨k=6∨k=7∨k=8∨k=9∨k=10:=by omega
  rcases this with rfl | rfl | rfl | rfl | rfl | rfl | rfl | rfl | rfl | rfl
  ·by_cases r0:row=0<;>by_cases w0:owner=0<;>simp[r0,w0,br,qog,bned]
  ·by_cases rV:row=V
   ·subst rV;by_cases r0:row=0<;>simp[r0,br,qog,bned]
   ·by_cases r0:row=0<;>by_cases w0:owner=0<;>simp[r0,rV,w0,br,qog,bned]
  ·by_cases r0:row=0<;>simp[r0,br,qog,bned]
  ·by_cases r0:row=0<;>simp[r0,br,qog,bned]
  ·by_cases w0:owner=0<;>simp[w0,br,qog,bned]
  ·simp[br,qog,bned]
  ·simp[br,qog,bned]
  ·by_cases s0:st=0<;>simp[s0,br,qog,bned]
  ·by_cases s1:st<1<;>by_cases s4:4<st<;>simp[s1,s4,br,qog,bned]
  ·by_cases s5:st=5<;>simp[s5,br,qog,bned]
 ·simp only[z10 (by omega:¬ k=1),z10 (by omega:¬ k=2),z10 (by omega:¬ k=3),z10 (by omega:¬ k=4),z10 (by omega:¬ k=5),z10 (by omega:¬ k=6),z10 (by omega:¬ k=7),z10 (by omega:¬ k=8),z10 (by omega:¬ k=9),z10 (by omega:¬ k=10),z20,br_f]
  have k1:¬ k=1:=by omega
  have k2:¬ k=2:=by omega
  have k3:¬ k=3:=by omega
  have k4:¬ k=4:=by omega
  have k5:¬ k=5:=by omega
  have k6:¬ k=6:=by omega
  have k8:¬ k=8:=by omega
  have k9:¬ k=9:=by omega
  have k10:¬ k=10:=by omega
  simp[k1,k2,k3,k4,k5,k6,k8,k9,k10,qog]
end
end Go.G

namespace Go.G
set_option maxRecDepth 100000
open Go Go.V Go.Proofs
def val (got:Got) (p:Int):Int:=(qbg got p).1
def becP (k row st p old:Int):Int:=if k=8 then wrap .i64 (old+1) else if k=9 then (if p=13 then wrap .i64 (old+1) else if p=qbt row then st else old) else old
def same (got:Got) (p:Int):qbe:=(p,val got p,val got p,())
def entP (o:Op3) (got:Got):List qbe:=
 if o.1=1∨o.1=2∨o.1=3 then (ents got (chgL o.2.1 o.2.2.1 (val got (qr o.2.1)) (val got 13))).foldl insS [] else
 if o.1=7 then [same got 0,same got 1,same got 2,same got 3] else
 if o.1=8 then [(13,val got 13,1,())] else
 if o.1=9 then same got (qr (wrap .i64 (val got 13 - 1)))::(13,val got 13,wrap .i64 (val got 13+1),())::
  (bif inR (val got (qr (wrap .i64 (val got 13 - 1)))) 1 6 then [(qbt (val got (qr (wrap .i64 (val got 13 - 1)))),val got (qbt (val got (qr (wrap .i64 (val got 13 - 1))))),val got 13,())] else []) else
 if o.1=10 then [same got 13,same got (qbt o.2.2.1)] else []
def resP (o:Op3) (got:Got):Int×List Int×Unit:=
 if o.1=7 then (0,[val got 0,val got 1,val got 2,val got 3],()) else
 if o.1=10 then (if val got (qbt o.2.2.1)=0 then (3,[],()) else (0,[wrap .i64 (val got (qbt o.2.2.1) - 1)],())) else (0,[],())
def qb0g:Plan:=(false,(0,[],()),[],())
def qcj (o:Op3) (got:Got):Plan×Bool×Unit:=
 if opOk o=true∧(run got (prog o)).2<0 then
  match qgp o got with
  | some x=>((true,(x.1,x.2,()),[],()),true,())
  | none=>((false,resP o got,entP o got,()),true,())
 else (qb0g,false,())
theorem qox {got:Got} {p:Int} {k:Int→PR} (hp:0≤p) (h:(run got (.ask p k)).2<0):hit got p=true∧(run got (k (val got p))).2<0∧(run got (.ask p k)).1=p::(run got (k (val got p))).1:=by
 cases hh:hit got p
 ·rw[qc7 hh] at h;dsimp only at h;omega
 ·rw[qeb hh] at h ⊢;exact ⟨rfl,h,rfl⟩
theorem qp2 {o:Op3} (h:opOk o=true):((o.1=1∨o.1=2)∧(0≤o.2.1∧o.2.1≤3)∧(1≤o.2.2.1∧o.2.2.1≤6))∨((o.1=3∨o.1=4)∧(0≤o.2.1∧o.2.1≤3)∧o.2.2.1=0)∨
  ((o.1=5∨o.1=10)∧o.2.1=0∧(1≤o.2.2.1∧o.2.2.1≤6))∨(o.1=6∧(0≤o.2.1∧o.2.1≤2)∧o.2.2.1=0)∨((o.1=7∨o.1=8∨o.1=9)∧o.2.1=0∧o.2.2.1=0):=by
 unfold opOk at h
 by_cases k12:o.1=1∨o.1=2
 ·rw[show (decide (o.1=1)||decide (o.1=2))=true by simpa using k12,z21,z9] at h
  exact .inl ⟨k12,qcb.1 h.1,qcb.1 h.2⟩
 rw[show (decide (o.1=1)||decide (o.1=2))=false by simpa using k12,z20] at h
 by_cases k34:o.1=3∨o.1=4
 ·rw[show (decide (o.1=3)||decide (o.1=4))=true by simpa using k34,z21,z9,z45] at h
  exact .inr (.inl ⟨k34,qcb.1 h.1,h.2⟩)
 rw[show (decide (o.1=3)||decide (o.1=4))=false by simpa using k34,z20] at h
 by_cases k5:o.1=5∨o.1=10
 ·rw[show (decide (o.1=5)||decide (o.1=10))=true by simpa using k5,z21,z9,z45] at h
  exact .inr (.inr (.inl ⟨k5,h.1,qcb.1 h.2⟩))
 rw[show (decide (o.1=5)||decide (o.1=10))=false by simpa using k5,z20] at h
 by_cases k6:o.1=6
 ·rw[z11 k6,z21,z9,z45] at h
  exact .inr (.inr (.inr (.inl ⟨k6,qcb.1 h.1,h.2⟩)))
 rw[z10 k6,z20] at h
 by_cases k7:o.1=7∨o.1=8∨o.1=9
 ·rw[show (decide (o.1=7)||(decide (o.1=8)||decide (o.1=9)))=true by simpa using k7,z21,z9,z45,z45] at h
  exact .inr (.inr (.inr (.inr ⟨k7,h.1,h.2⟩)))
 ·rw[show (decide (o.1=7)||(decide (o.1=8)||decide (o.1=9)))=false by simpa using k7,z20] at h
  exact absurd h (by simp)
theorem q6t {got:Got} {K V held st:Int} (hv:1≤held∧held≤6→held≠V):(ents got (chgL K V held st)).foldl (bub ekey) []=(ents got (chgL K V held st)).foldl insS []∧Asc ((ents got (chgL K V held st)).foldl insS [])∧
  (∀ z,z∈(ents got (chgL K V held st)).foldl insS []↔z∈ents got (chgL K V held st))∧((ents got (chgL K V held st)).foldl insS []).length=(ents got (chgL K V held st)).length:=by
 obtain ⟨r1,r2,r3,r4⟩:=qbtl (ents got (chgL K V held st)) [] List.Pairwise.nil (qbla got _ (qbx2 hv)) (fun a ha=>by simp at ha)
 exact ⟨r1,r2,fun z=>by rw[r3];simp,by rw[r4];simp⟩
theorem qba4 {o:Op3} {got:Got} (ho:opOk o=true) (hn:qgp o got=none) (hk:o.1=1∨o.1=2∨o.1=3):1≤val got (qr o.2.1)∧val got (qr o.2.1)≤6→val got (qr o.2.1)≠o.2.2.1:=by
 intro h
 have:=qp2 ho
 unfold qgp nowP at hn
 rcases hk with k | k | k
 ·rw[k] at hn
  by_cases h0:(qbg got (qr o.2.1)).1=0
  ·unfold val at h;omega
  ·rw[z6 ⟨rfl,h0⟩] at hn;cases hn
 ·rw[k] at hn
  rw[z5 (by omega),z5 (by omega)] at hn
  by_cases h0:(qbg got (qr o.2.1)).1=0
  ·unfold val at h;omega
  ·rw[z5 (by omega)] at hn
   by_cases h1:(qbg got (qr o.2.1)).1=o.2.2.1
   ·rw[z6 ⟨rfl,h1⟩] at hn;cases hn
   ·exact h1
 ·omega
section
variable {X:Ext} (hX:XOk X) {n:Nat} {got:Got}
include hX
theorem qb1u (hn:4≤n) (o:Op3) (p old row st:Int):q3t (DD X n) o p old row st=some ((becP o.1 row st p old,()),()):=by
 obtain ⟨n,rfl⟩:∃ k,n=k+1:=⟨n - 1,by omega⟩
 rw[qbrf hX]
 simp only[q3e,qbcp]
 rw[qgl hX (by omega),qc,qln hX (by omega),qc]
 unfold becP
 by_cases h8:o.1=8
 ·rw[qg h8,z6 h8]
 rw[qh h8,z5 h8]
 by_cases h9:o.1=9
 ·rw[qg h9,z6 h9]
  by_cases h1:p=13
  ·rw[qg h1,z6 h1]
  rw[qh h1,z5 h1]
  by_cases h2:p=qbt row
  ·rw[qg h2,z6 h2]
  ·rw[qh h2,z5 h2]
 ·rw[qh h9,z5 h9]
theorem qbst (N n:Nat) (hN:W+2≤N) (hg:got.length≤1048576) (K:Got→Op3→Plan→Plan→Option ((Plan×Bool×Unit)×Unit)) (st row:Int) (o:Op3) (x6:Plan) (g:Got) (P:List Int) (mo:Int×Bool×Unit) (hP:P.length≤20) :
  ∀ (m i:Nat) (rl:List Int) (el:List qbe),i≤P.length→P.length - i<m→rl.length≤i→el.length≤i→
  qkf (DD X N) n K m got st row (P.length:Int) (i:Int) o x6 (false,(0,rl,()),el,()) (g,P,mo) =
   K got o x6 (false,(0,rl++(if o.1=7 then (P.drop i).map (val got) else []),()),el++(P.drop i).map (fun p=>(p,val got p,becP o.1 row st p (val got p),())),())
 | 0,_,_,_,_,h,_,_=>by omega
 | m+1,i,rl,el,hi,hf,h1,h2=>by
  have hb:=qbi
  have hW:=qbf
  simp only[qkf,qys]
  by_cases h:i<P.length
  ·rw[qg (by omega),ix h,br_t,qhj hX (by omega) got hg,qc,z12,qv h]
   dsimp only
   rw[qb1u hX (by omega),qc]
   dsimp only
   rw[qg (by omega),qgz h]
   simp only[z28]
   by_cases h7:o.1=7
   ·rw[qg h7,qg (by omega),qs (by omega)]
    rw[qbst N n hN hg K st row o x6 g P mo hP m (i+1) _ _ (by omega) (by omega) (by rw[z19,List.length_singleton];omega) (by rw[z19,List.length_singleton];omega)]
    rw[z6 h7,z6 h7,z33,z33]
    rfl
   ·rw[qh h7,qs (by omega)]
    rw[qbst N n hN hg K st row o x6 g P mo hP m (i+1) _ _ (by omega) (by omega) (by omega) (by rw[z19,List.length_singleton];omega)]
    rw[z5 h7,z5 h7,z33]
    rfl
  ·rw[qh (by omega),qii h]
   simp
end
end Go.G

namespace Go.G
set_option maxRecDepth 100000
open Go Go.V Go.Proofs
theorem qbe1 {o:Op3} {got:Got} (ho:opOk o=true) (hn:qgp o got=none) (hr:(run got (prog o)).2<0) (hk:¬ (o.1=1∨o.1=2∨o.1=3)) :
    ((run got (prog o)).1.length≤12∧∀ e∈(run got (prog o)).1,qll e)∧
    ((o.1=7∧(run got (prog o)).1.foldl (bub ikey) []=[0,1,2,3])∨
     (o.1=8∧val got 13=0∧(run got (prog o)).1.foldl (bub ikey) []=[13])∨
     (o.1=9∧(1≤val got 13∧val got 13≤4)∧(run got (prog o)).1.foldl (bub ikey) []=qr (wrap .i64 (val got 13 - 1))::13::(bif inR (val got (qr (wrap .i64 (val got 13 - 1)))) 1 6 then [qbt (val got (qr (wrap .i64 (val got 13 - 1))))] else []))∨
     (o.1=10∧(run got (prog o)).1.foldl (bub ikey) []=[13,qbt o.2.2.1])):=by
  have hkd:=qp2 ho
  unfold qgp nowP at hn
  rw[z5 (by omega),z5 (by omega)] at hn
  by_cases k4:o.1=4
  · exfalso
    by_cases h0:(qbg got (qr o.2.1)).1=0
    · rw[z6 ⟨.inr (.inr k4),h0⟩] at hn;cases hn
    · rw[z5 (by omega),z5 (by omega),z5 (by omega),z6 k4] at hn;cases hn
  rw[z5 (by omega),z5 (by omega),z5 (by omega),z5 k4] at hn
  by_cases k5:o.1=5
  · exfalso
    by_cases h0:(qbg got (qy o.2.2.1)).1=0
    · rw[z6 ⟨k5,h0⟩] at hn;cases hn
    · rw[z5 (by omega),z6 k5] at hn;cases hn
  rw[z5 (by omega),z5 k5] at hn
  by_cases k6:o.1=6
  · exfalso;rw[z6 k6] at hn;cases hn
  rw[z5 k6] at hn
  have kk:o.1=7∨o.1=8∨o.1=9∨o.1=10:=by omega
  have hprog:prog o=if o.1=7 then qn3 else if o.1=8 then .ask 13 (fun _=>.done) else if o.1=9 then qkl else if o.1=10 then qk9 o else .done:=by
    unfold prog
    rw[z5 (by omega),z5 (by omega),z5 (by omega),z5 k4,z5 k5,z5 k6]
  rw[hprog] at hr ⊢
  rcases kk with k | k | k | k
  · rw[z6 k] at hr ⊢
    unfold qn3 at hr ⊢
    obtain ⟨_,r1,e1⟩:=qox (by omega) hr
    obtain ⟨_,r2,e2⟩:=qox (by omega) r1
    obtain ⟨_,r3,e3⟩:=qox (by omega) r2
    obtain ⟨_,_,e4⟩:=qox (by omega) r3
    rw[e1,e2,e3,e4]
    refine ⟨⟨by simp[run],fun e he=>?_⟩,.inl ⟨k,rfl⟩⟩
    simp only[run,z15,z25,or_false] at he
    rcases he with rfl | rfl | rfl | rfl<;>exact ⟨by omega,by omega⟩
  · rw[z5 (by omega),z6 k] at hr ⊢
    obtain ⟨_,_,e1⟩:=qox (by omega) hr
    rw[e1]
    refine ⟨⟨by simp[run],fun e he=>?_⟩,.inr (.inl ⟨k,?_,rfl⟩)⟩
    · simp only[run,z15,z25,or_false] at he
      subst he;exact ⟨by omega,by omega⟩
    · by_cases s0:(qbg got 13).1=0
      · exact s0
      · rw[z6 ⟨k,s0⟩] at hn;cases hn
  · rw[z5 (by omega),z5 (by omega),z6 k] at hr ⊢
    rw[z5 (by omega)] at hn
    have hst:1≤val got 13∧val got 13≤4:=by
      by_cases s0:(qbg got 13).1<1∨(qbg got 13).1>4
      · rw[z6 ⟨k,s0⟩] at hn;cases hn
      · unfold val;omega
    unfold qkl at hr ⊢
    obtain ⟨_,r1,e1⟩:=qox (by omega) hr
    rw[e1]
    have hb:(bif decide (val got 13<1) then true else decide (val got 13>4))=false:=by
      rw[z10 (by omega),z10 (by omega)];rfl
    rw[hb,z20] at r1 ⊢
    have hw:wrap .i64 (val got 13 - 1)=val got 13 - 1:=qo (by omega) (by omega)
    have hrow:=qmz (wrap .i64 (val got 13 - 1))
    rw[hw] at hrow
    rw[hw] at r1 ⊢
    obtain ⟨_,r2,e2⟩:=qox (by omega) r1
    rw[e2]
    generalize hrr:qr (val got 13 - 1)=p at *
    have hp:0≤p∧p≤3:=by omega
    cases hv:inR (val got p) 1 6
    · rw[Bool.not_false,z21,z20]
      have es:[(13:Int),p].foldl (bub ikey) []=[p,13]:=by
        simp only[List.foldl_cons,List.foldl_nil,bub,List.reverse_nil,bubR,List.reverse_singleton]
        rw[z6 (show ikey p<ikey 13 by unfold ikey;omega)];rfl
      refine ⟨⟨by simp[run],fun e he=>?_⟩,.inr (.inr (.inl ⟨k,hst,es⟩))⟩
      simp only[run,z15,z25,or_false] at he
      rcases he with rfl | rfl<;>exact ⟨by omega,by omega⟩
    · rw[hv,z13,z20] at r2
      rw[z13,z20,z21]
      have hvia:=qgy (val got p)
      have hvr:=qcb.1 hv
      obtain ⟨_,_,e3⟩:=qox (by omega) r2
      rw[e3]
      have es:[(13:Int),p,qbt (val got p)].foldl (bub ikey) []=[p,13,qbt (val got p)]:=by
        simp only[List.foldl_cons,List.foldl_nil,bub,List.reverse_nil,bubR,List.reverse_singleton]
        rw[z6 (show ikey p<ikey 13 by unfold ikey;omega)]
        simp only[List.reverse_cons,List.reverse_nil,z46,z40,bubR]
        rw[z5 (show ¬ ikey (qbt (val got p))<ikey 13 by unfold ikey;omega)]
        rfl
      refine ⟨⟨by simp[run],fun e he=>?_⟩,.inr (.inr (.inl ⟨k,hst,es⟩))⟩
      simp only[run,z15,z25,or_false] at he
      rcases he with rfl | rfl | rfl<;>exact ⟨by omega,by omega⟩
  · rw[z5 (by omega),z5 (by omega),z5 (by omega),z6 k] at hr ⊢
    rw[z5 (by omega),z5 (by omega)] at hn
    have hst:val got 13=5:=by
      by_cases s0:(qbg got 13).1=5
      · exact s0
      · rw[z6 ⟨k,s0⟩] at hn;cases hn
    unfold qk9 at hr ⊢
    obtain ⟨_,r1,e1⟩:=qox (by omega) hr
    rw[e1]
    rw[hst] at r1 ⊢
    rw[show ((5:Int) != 5)=false by decide,z20] at r1 ⊢
    have hvia:=qgy o.2.2.1
    obtain ⟨_,_,e3⟩:=qox (by omega) r1
    rw[e3]
    have es:[(13:Int),qbt o.2.2.1].foldl (bub ikey) []=[13,qbt o.2.2.1]:=by
      simp only[List.foldl_cons,List.foldl_nil,bub,List.reverse_nil,bubR,List.reverse_singleton]
      rw[z5 (show ¬ ikey (qbt o.2.2.1)<ikey 13 by unfold ikey;omega)]
      rfl
    refine ⟨⟨by simp[run],fun e he=>?_⟩,.inr (.inr (.inr ⟨k,es⟩))⟩
    simp only[run,z15,z25,or_false] at he
    rcases he with rfl | rfl<;>exact ⟨by omega,by omega⟩
end Go.G

namespace Go.G
set_option maxRecDepth 100000
open Go Go.V Go.Proofs
section
variable {X:Ext} (hX:XOk X) {n:Nat} {got:Got}
include hX
theorem qby3 (hn:W+3≤n) (hg:got.length≤1048576) (o:Op3) (x6:Plan) (rl:List Int) (el:List qbe):qks (DD X n) n got o x6 (false,(0,rl,()),el,()) =
  some (((false,(if o.1=10 then (if val got (qbt o.2.2.1)=0 then (3,rl,()) else (0,[wrap .i64 (val got (qbt o.2.2.1) - 1)],())) else (0,rl,())),el,()),true,()),()):=by
 have hW:=qbf
 simp only[qks]
 by_cases k:o.1=10
 ·rw[qg k,z6 k,qln hX (by omega),qc]
  dsimp only
  rw[qhj hX (by omega) got hg,qc]
  dsimp only
  unfold val
  by_cases h:(qbg got (qbt o.2.2.1)).1=0
  ·rw[bned,z11 h,z13,br_f,z6 h]
  ·rw[bned,z10 h,Bool.not_false,br_t,z5 h]
 ·rw[qh k,z5 k]
theorem qbtx (hn:W+14≤n) (hg:got.length≤1048576) (o:Op3):qt5 (DD X n) o got=some (qcj o got,()):=by
 obtain ⟨n,rfl⟩:∃ k,n=k+1:=⟨n - 1,by omega⟩
 have hW:=qbf
 obtain ⟨k,K,V,⟨⟩⟩:=o
 rw[qbqq hX]
 simp only[q3s,q24,qv1]
 rw[qxi hX (by omega),qc]
 dsimp only
 unfold qcj
 cases ho:opOk (k,K,V,())
 ·rw[Bool.not_false,br_t,z5 (by simp)];rfl
 obtain ⟨b,e⟩:=qbu2 hX (n:=n) (by omega) hg (k,K,V,())
 rw[z13,br_f,e,qc]
 dsimp only
 by_cases hr:(run got (prog (k,K,V,()))).2<0
 ·rw[qh (by omega),z6 ⟨rfl,hr⟩,qb04 hX (by omega) hg,qc]
  cases hnow:qgp (k,K,V,()) got with
  | some x=>
   simp only[qog]
   rw[br_t]
  | none=>
   simp only[qog]
   rw[br_f,qgl hX (by omega),qc]
   dsimp only
   rw[qhj hX (by omega) got hg,qc]
   dsimp only
   rw[qi4 hX (by omega),qc]
   dsimp only
   rw[qhj hX (by omega) got hg,qc]
   dsimp only
   by_cases hk:k=1∨k=2∨k=3
   ·have hne:=qba4 ho hnow hk
    obtain ⟨c1,_,_,_⟩:=q6t (got:=got) (K:=K) (V:=V) (held:=val got (qr K)) (st:=val got 13) hne
    have h123:(bif bif decide (k=1) then true else decide (k=2) then true else decide (k=3))=true:=by
     rcases hk with h | h | h<;>subst h<;>rfl
    rw[qh (by omega),h123,br_t,qbz2 hX (by omega) hg,qc]
    dsimp only
    unfold resP entP
    rw[z6 hk,z5 (show ¬ k=7 by omega),z5 (show ¬ k=10 by omega)]
    have c1':=c1
    unfold val at c1' ⊢
    rw[c1']
   ·obtain ⟨⟨p1,p2⟩,pl⟩:=qbe1 ho hnow hr hk
    have h123:(bif bif decide (k=1) then true else decide (k=2) then true else decide (k=3))=false:=by
     rw[z10 (show ¬ k=1 by omega),z10 (show ¬ k=2 by omega),z10 (show ¬ k=3 by omega)];rfl
    rw[h123]
    simp only[br_f]
    have hsort:=qb39 hX (n:=n) (by omega) _ p1 p2
    have hloop:∀ (row:Int) (P:List Int) (x6:Plan),P.length≤20→qkf (DD X n) n (fun v0_0 v0_1 v0_2 v0_3=>qks (DD X n) n v0_0 v0_1 v0_2 v0_3) n got (qbg got 13).1 row (P.length:Int) 0 (k,K,V,()) x6 (false,(0,[],()),[],()) (got,P,(run got (prog (k,K,V,()))).2,b,()) =
      some (((false,(if k=10 then (if val got (qbt V)=0 then (3,(if k=7 then P.map (val got) else []),()) else (0,[wrap .i64 (val got (qbt V) - 1)],())) else (0,(if k=7 then P.map (val got) else []),())),P.map (fun p=>(p,val got p,becP k row (qbg got 13).1 p (val got p),())),()),true,()),()):=by
     intro row P x6 hP
     have:=qbst hX n n (by omega) hg (fun v0_0 v0_1 v0_2 v0_3=>qks (DD X n) n v0_0 v0_1 v0_2 v0_3) (qbg got 13).1 row (k,K,V,()) x6 got P ((run got (prog (k,K,V,()))).2,b,()) hP n 0 [] [] (by omega) (by omega) (by simp) (by simp)
     rw[show ((0:Nat):Int)=0 from rfl,List.drop_zero] at this
     rw[this]
     rw[qby3 hX (by omega) hg]
     simp only[z46]
    unfold resP entP
    dsimp only
    rw[z5 hk]
    rcases pl with ⟨h7,hp⟩ | ⟨h8,hz,hp⟩ | ⟨h9,hz,hp⟩ | ⟨h10,hp⟩
    ·dsimp only at h7;subst h7
     rw[qh (by decide),hsort,qc,hp]
     dsimp only
     rw[hloop _ [0,1,2,3] _ (by simp)]
     rfl
    ·dsimp only at h8;subst h8
     rw[qh (by decide),hsort,qc,hp]
     dsimp only
     rw[hloop _ [13] _ (by simp),z5 (by decide),z5 (by decide),z5 (by decide),z5 (by decide),z6 rfl,z5 (by decide)]
     simp only[z28,List.map_nil,becP,if_true]
     rw[hz]
     rfl
    ·dsimp only at h9;subst h9
     rw[qg rfl,qi4 hX (by omega),qc]
     dsimp only
     rw[qhj hX (by omega) got hg,qc]
     dsimp only
     rw[hsort,qc,hp]
     dsimp only
     rw[hloop _ _ _ (by cases inR (val got (qr (wrap .i64 (val got 13 - 1)))) 1 6<;>simp)]
     have hw:wrap .i64 (val got 13 - 1)=val got 13 - 1:=qo (by omega) (by omega)
     have hrow:=qmz (wrap .i64 (val got 13 - 1))
     rw[hw] at hrow
     rw[z5 (by decide),z5 (by decide),z5 (by decide),z5 (by decide),z6 rfl,z5 (by decide),z5 (by decide)]
     have hvv:(qbg got 13).1=val got 13:=rfl
     rw[hvv,hw]
     have hv2:(qbg got (qr (val got 13 - 1))).1=val got (qr (val got 13 - 1)):=rfl
     rw[hv2]
     generalize qr (val got 13 - 1)=p at *
     have hpr:0≤p∧p≤3:=by omega
     have hvia:=qgy (val got p)
     have b1:∀ x,becP 9 (val got p) (val got 13) p x=x:=fun x=>by
      unfold becP;rw[z5 (by decide),z6 rfl,z5 (by omega),z5 (by omega)]
     have b2:∀ x,becP 9 (val got p) (val got 13) 13 x=wrap .i64 (x+1):=fun x=>by
      unfold becP;rw[z5 (by decide),z6 rfl,z6 rfl]
     cases hin:inR (val got p) 1 6
     ·simp only[z20,z28,List.map_nil,b1,b2]
      rfl
     ·have hvr:=qcb.1 hin
      have b3:∀ x,becP 9 (val got p) (val got 13) (qbt (val got p)) x=val got 13:=fun x=>by
       unfold becP;rw[z5 (by decide),z6 rfl,z5 (by omega),z6 rfl]
      simp only[z21,z28,List.map_nil,b1,b2,b3]
      rfl
    ·dsimp only at h10;subst h10
     rw[qh (by decide),hsort,qc,hp]
     dsimp only
     rw[hloop _ [13,qbt V] _ (by simp)]
     simp[becP,same]
 ·rw[qg (by omega),z5 (fun h=>hr h.2)];rfl
end
end Go.G

namespace Go.G
set_option maxRecDepth 100000
open Go Go.V Go.Proofs
theorem qbdk {α:Type} (key:α→Int):∀ (L acc:List α) (z:α),z∈L.foldl (bub key) acc↔z∈acc∨z∈L
 | [],acc,z=>by simp
 | e::L,acc,z=>by
  rw[List.foldl_cons,qbdk key L,qbm4,z15]
  constructor
  ·rintro ((h | h) | h)
   ·exact .inr (.inl h)
   ·exact .inl h
   ·exact .inr (.inr h)
  ·rintro (h | h | h)
   ·exact .inl (.inr h)
   ·exact .inl (.inl h)
   ·exact .inr h
def qbru (o:Op3) (got:Got):Int:=if opOk o=true then (run got (prog o)).2 else -1
section
variable {X:Ext} (hX:XOk X) {n:Nat} {got:Got}
include hX
theorem qbvc (hn:W+13≤n) (hg:got.length≤1048576) (o:Op3):q81 (DD X n) o got=some ((qbru o got,()),()):=by
 obtain ⟨n,rfl⟩:∃ k,n=k+1:=⟨n - 1,by omega⟩
 have hW:=qbf
 rw[qbv3 hX]
 simp only[q82,qbhl]
 obtain ⟨b,e⟩:=qbu2 hX (n:=n) (by omega) hg o
 obtain ⟨k,K,V,⟨⟩⟩:=o
 rw[qxi hX (by omega),qc]
 dsimp only
 unfold qbru
 cases ho:opOk (k,K,V,())
 ·rw[Bool.not_false,br_t];rfl
 ·rw[z13,br_f,e,qc,z6 rfl]
end
end Go.G

namespace Go.G
open Go Go.V
abbrev Cur:=List Int×Int×Int×Unit
def qhi (c:Cur):Prop:=c.1.length≤1048576∧0≤c.2.1∧c.2.1≤c.1.length
theorem qbfy (x:BitVec (IntKind.bits IntKind.i64)):0≤wrap .i64 ((BitVec.toNat (BitVec.and x (BitVec.ofInt (IntKind.bits IntKind.i64) 255)):Nat):Int)∧wrap .i64 ((BitVec.toNat (BitVec.and x (BitVec.ofInt (IntKind.bits IntKind.i64) 255)):Nat):Int)≤255:=by
 have h:BitVec.toNat (BitVec.and x (BitVec.ofInt (IntKind.bits IntKind.i64) 255))≤255:=by
  show BitVec.toNat (x &&&BitVec.ofInt (IntKind.bits IntKind.i64) 255)≤255
  rw[BitVec.toNat_and]
  exact Nat.le_trans Nat.and_le_right (by decide)
 rw[qo (by omega) (by omega)]
 omega
theorem q52 {X:Ext} (hX:XOk X) {n:Nat} (hn:1≤n) {c:Cur} (hc:qhi c):∃ (x:Int) (c':Cur),0≤x∧x≤255∧qhi c'∧qjm (DD X n) c=some ((x,()),(c',())):=by
 obtain ⟨n,rfl⟩:∃ k,n=k+1:=⟨n - 1,by omega⟩
 obtain ⟨h1,h2,h3⟩:=hc
 rw[qbrd hX]
 simp only[q2t,qbci]
 by_cases h:c.2.1<(c.1.length:Int)
 ·rw[qg h,ixn h2 h,br_t,qo (x:=c.2.1+1) (by omega) (by omega)]
  refine ⟨_,(c.1,c.2.1+1,_,()),(qbfy _).1,(qbfy _).2,⟨h1,?_,?_⟩,rfl⟩
  ·show 0≤c.2.1+1;omega
  ·show c.2.1+1≤(c.1.length:Int);omega
 ·rw[qh h]
  have k:∀ h u,qhi (c.1,c.2.1,h,u):=fun _ _=>⟨h1,h2,h3⟩
  exact ⟨_,_,(qbfy _).1,(qbfy _).2,k _ _,rfl⟩
theorem qj8 {X:Ext} (hX:XOk X) {n:Nat} (hn:2≤n) {c:Cur} (hc:qhi c) (k:Int):∃ (x:Int) (c':Cur),(0<k→0≤x∧x<k)∧(k≤0→x=0)∧qhi c'∧qcd (DD X n) c k=some ((x,()),(c',())):=by
 obtain ⟨n,rfl⟩:∃ k,n=k+1:=⟨n - 1,by omega⟩
 rw[qbo4 hX]
 simp only[qzw,qbaz]
 by_cases h:k≤0
 ·rw[qg h]
  exact ⟨0,c,fun h2=>by omega,fun _=>rfl,hc,rfl⟩
 ·rw[qh h]
  by_cases h2:k≤256
  ·obtain ⟨x,c',x0,x1,hc',e⟩:=q52 hX (n:=n) (by omega) hc
   rw[qg h2,e,qc]
   dsimp only
   rw[qh (by omega)]
   refine ⟨_,_,fun _=>?_,fun h3=>by omega,hc',rfl⟩
   rw[Int.tmod_eq_emod_of_nonneg x0]
   exact ⟨Int.emod_nonneg _ (by omega),Int.emod_lt_of_pos _ (by omega)⟩
  ·obtain ⟨x,c1,x0,x1,hc1,e1⟩:=q52 hX (n:=n) (by omega) hc
   obtain ⟨y,c2,y0,y1,hc2,e2⟩:=q52 hX (n:=n) (by omega) hc1
   obtain ⟨z,c3,z0,z1,hc3,e3⟩:=q52 hX (n:=n) (by omega) hc2
   obtain ⟨w,c4,w0,w1,hc4,e4⟩:=q52 hX (n:=n) (by omega) hc3
   rw[qh h2,e1,qc]
   dsimp only
   rw[e2,qc]
   dsimp only
   rw[e3,qc]
   dsimp only
   rw[e4,qc]
   dsimp only
   rw[qh (by omega),qo (x:=x * 16777216) (by omega) (by omega),qo (x:=y * 65536) (by omega) (by omega),qo (x:=x * 16777216+y * 65536) (by omega) (by omega),
    qo (x:=z * 256) (by omega) (by omega),qo (x:=x * 16777216+y * 65536+z * 256) (by omega) (by omega),qo (x:=x * 16777216+y * 65536+z * 256+w) (by omega) (by omega)]
   refine ⟨_,_,fun _=>?_,fun h3=>by omega,hc4,rfl⟩
   rw[Int.tmod_eq_emod_of_nonneg (by omega)]
   exact ⟨Int.emod_nonneg _ (by omega),Int.emod_lt_of_pos _ (by omega)⟩
theorem qbhn {X:Ext} (hX:XOk X) {n:Nat} (hn:3≤n) {c:Cur} (hc:qhi c) (l:List Int) (hl:0<l.length):∃ (x:Int) (c':Cur),x∈l∧qhi c'∧qn1 (DD X n) c l=some ((x,()),(c',())):=by
 obtain ⟨n,rfl⟩:∃ k,n=k+1:=⟨n - 1,by omega⟩
 rw[qbit hX]
 simp only[qvd,q54]
 obtain ⟨x,c',h1,_,hc',e⟩:=qj8 hX (n:=n) (by omega) hc (l.length:Int)
 obtain ⟨x0,x1⟩:=h1 (by omega)
 rw[e,qc]
 dsimp only
 rw[ixn x0 x1,br_t,qv (by omega)]
 exact ⟨_,_,z24 _,hc',rfl⟩
theorem qbxp (D:Den ctx) (n:Nat) {K0:List Int→Int→Option ((Cur×Unit)×Unit)} (a:List Int) (ha:a.length≤1048576):∀ (m i:Nat) (h:Int),i≤a.length→a.length - i<m→∃ h':Int,qok D n K0 m a h i=K0 a h'
 | 0,_,_,_,h=>by omega
 | m+1,i,h,hi,hf=>by
  simp only[qok,q2a]
  by_cases h1:i<a.length
  ·by_cases h2:(i:Int)<4000
   ·rw[z11 (by omega:(i:Int)<(a.length:Int)),z21,qg h2,z11 (by omega:(0:Int)≤(i:Int)),Bool.and_self,br_t,qs (by omega)]
    exact qbxp D n a ha m (i+1) _ (by omega) (by omega)
   ·rw[z11 (by omega:(i:Int)<(a.length:Int)),z21,qh h2]
    exact ⟨h,rfl⟩
  ·rw[z10 (by omega:¬ (i:Int)<(a.length:Int)),z20,br_f]
   exact ⟨h,rfl⟩
theorem qb3f {X:Ext} (hX:XOk X) {n:Nat} (hn:W+1≤n) (a:List Int) (ha:a.length≤1048576):∃ c:Cur,qhi c∧q68 (DD X n) a=some ((c,()),()):=by
 obtain ⟨n,rfl⟩:∃ k,n=k+1:=⟨n - 1,by omega⟩
 have hW:=qbf
 rw[qbu6 hX]
 simp only[q6l,q5k,qzy]
 obtain ⟨h',e⟩:=qbxp (DD X n) n (K0:=fun v w=>q75 (DD X n) n v w) a ha n 0 (wrap .i64 (27323+(a.length:Int))) (by omega) (by omega)
 rw[show ((0:Nat):Int)=0 from rfl] at e
 exact ⟨(a,0,h',()),⟨ha,by show (0:Int)≤0;omega,by show (0:Int)≤(a.length:Int);omega⟩,e⟩
theorem qb5p {X:Ext} (hX:XOk X) {n:Nat} (hn:1≤n) (a:List Int):qbb2 (DD X n) a=some ((decide ((a.length:Int)>1048576),()),()):=by
 obtain ⟨n,rfl⟩:∃ k,n=k+1:=⟨n - 1,by omega⟩
 rw[qbyv hX];rfl
end Go.G

namespace Go.G
set_option maxRecDepth 100000
open Go Go.V Go.Proofs
abbrev qm:=List Int×Int×Unit
def keyF (v:Int):List Int→Nat→Int
 | [],_=>-1
 | x::l,i=>if x=v then (i:Int) else keyF v l (i+1)
theorem q7n (v:Int):∀ (l:List Int) (i:Nat),keyF v l i<0→v∉l
 | [],i,_=>by simp
 | x::l,i,h=>by
  simp only[keyF] at h
  by_cases e:x=v
  ·rw[z6 e] at h;omega
  ·rw[z5 e] at h
   have:=q7n v l (i+1) h
   intro hm
   rcases z15.1 hm with k | k
   ·exact e k.symm
   ·exact this k
theorem q03 (v:Int):∀ (l:List Int) (i k:Nat),l[k]? = some v→(∀ j<k,l[j]?≠some v)→keyF v l i=((i+k:Nat):Int)
 | [],i,k,h,_=>by simp at h
 | x::l,i,0,h,_=>by
  simp only[List.getElem?_cons_zero,z4] at h
  simp only[keyF];rw[z6 h];rfl
 | x::l,i,k+1,h,hj=>by
  simp only[List.getElem?_cons_succ] at h
  simp only[keyF]
  rw[z5 (by have:=hj 0 (by omega);simp only[List.getElem?_cons_zero,ne_eq,z4] at this;exact this),q03 v l (i+1) k h (fun j h2=>by have:=hj (j+1) (by omega);simpa using this)]
  congr 1;omega
structure RightR (r:qm):Prop where
 len:r.1.length=4
 rng:∀ x∈r.1,0≤x∧x≤6
 once:∀ i j:Nat,i<j→∀ v,r.1[i]? = some v→r.1[j]? = some v→v=0
 st:0≤r.2.1∧r.2.1≤5
section
variable {X:Ext} (hX:XOk X) {n:Nat}
include hX
theorem qbw9 (D:Den ctx) (n:Nat) (K0:Int→Option ((Int×Unit)×Unit)) (K1:Option ((Int×Unit)×Unit)) (hK:K0 (-1)=K1) (r:qm) (hr:r.1.length≤1000) (v:Int):∀ (m i:Nat),i≤r.1.length→r.1.length - i<m→
  qoo D n K0 K1 m v (i:Int) r=K0 (keyF v (r.1.drop i) i)
 | 0,_,_,h=>by omega
 | m+1,i,hi,hf=>by
  simp only[qoo,q17]
  by_cases h:i<r.1.length
  ·rw[qg (by omega),ix h,br_t,z12,qv h,qgz h]
   simp only[keyF]
   by_cases e:r.1[i]=v
   ·rw[qg e,z6 e]
   ·rw[qh e,z5 e,qs (by omega)]
    exact qbw9 D n K0 K1 hK r hr v m (i+1) (by omega) (by omega)
  ·rw[qh (by omega),qii h]
   exact hK.symm
theorem qbh1 (hn:W+1≤n) (r:qm) (hr:r.1.length≤1000) (v:Int):qw3 (DD X n) r v=some ((keyF v r.1 0,()),()):=by
 obtain ⟨n,rfl⟩:∃ k,n=k+1:=⟨n - 1,by omega⟩
 have hW:=qbf
 rw[qbt3 hX]
 simp only[q5r,q59,qyy]
 have e:=qbw9 hX (DD X n) n (fun v0_0=>q8h (DD X n) n v0_0) (q8o (DD X n) n) rfl r hr v n 0 (by omega) (by omega)
 rw[show ((0:Nat):Int)=0 from rfl] at e
 rw[e];rfl
theorem qbju (N n:Nat) (hN:W+2≤N) (K0:Bool→qm→Option ((Bool×Unit)×Unit)) (K1:qm→Option ((Bool×Unit)×Unit)) {r:qm} (hr:RightR r):∀ (m i:Nat),i≤r.1.length→r.1.length - i<m→
  qmq (DD X N) n K0 K1 m (i:Int) r=K1 r
 | 0,_,_,h=>by omega
 | m+1,i,hi,hf=>by
  have hl:=hr.len
  have hW:=qbf
  simp only[qmq,q0m]
  by_cases h:i<r.1.length
  ·rw[qg (by omega),ix h,br_t,z12,qv h]
   by_cases e:r.1[i]=0
   ·rw[bned,z11 e,z13,br_f,qs (by omega)]
    exact qbju N n hN K0 K1 hr m (i+1) (by omega) (by omega)
   ·have hv:=hr.rng r.1[i] (z24 h)
    rw[bned,z10 e,Bool.not_false,br_t,br_t,qvi hX (by omega),qc]
    dsimp only
    rw[qcb.2 (by omega),z13,br_f,br_t,qbh1 hX (by omega) r (by omega),qc]
    dsimp only
    have hk:keyF r.1[i] r.1 0=(i:Int):=by
     rw[q03 r.1[i] r.1 0 i (z31 h) (fun j hj hc=>e (hr.once j i hj _ hc (z31 h)))]
     congr 1;omega
    rw[hk,bned,z11 rfl,z13,br_f,qs (by omega)]
    exact qbju N n hN K0 K1 hr m (i+1) (by omega) (by omega)
  ·rw[qh (by omega)]
theorem qbfa (hn:W+3≤n) {r:qm} (hr:RightR r):qt4 (DD X n) r=some ((true,()),()):=by
 obtain ⟨n,rfl⟩:∃ k,n=k+1:=⟨n - 1,by omega⟩
 have hW:=qbf
 have hl:=hr.len
 rw[qbrg hX]
 simp only[q2o,q27,qwl]
 have e:=qbju hX n n (by omega) (fun v0_0 v0_1=>q58 (DD X n) n v0_0 v0_1) (fun v1_0=>qu3 (DD X n) n v1_0) hr n 0 (by omega) (by omega)
 rw[show ((0:Nat):Int)=0 from rfl] at e
 rw[e]
 simp only[qu3]
 rw[qg (by omega),qqd hX (by omega),qc,qcb.2 hr.st]
theorem qbet (N n:Nat) (hN:W+2≤N) (K0:Cur→qm→qm→Option ((qm×Unit)×(Cur×Unit))) (z:qm):∀ (m i:Nat) (c:Cur) (r:qm),qhi c→RightR r→i≤4→4 - i<m→
  ∃ (c':Cur) (r':qm),qhi c'∧RightR r'∧qib (DD X N) n K0 m (i:Int) c z r=K0 c' z r'
 | 0,_,_,_,_,_,_,h=>by omega
 | m+1,i,c,r,hc,hr,hi,hf=>by
  have hl:=hr.len
  have hW:=qbf
  simp only[qib,qph]
  by_cases h:i<4
  ·obtain ⟨x,c1,h1,_,hc1,e1⟩:=qj8 hX (n:=N) (by omega) hc 7
   obtain ⟨x0,x1⟩:=h1 (by omega)
   rw[qg (by omega),e1,qc]
   dsimp only
   rw[show (r.1,r.2)=r from rfl,qbh1 hX (by omega) r (by omega),qc]
   dsimp only
   by_cases hk:keyF x r.1 0<0
   ·have hnot:=q7n x r.1 0 hk
    rw[qg hk,ixn (by omega) (by omega),br_t,qs (by omega),z12]
    have hr2:RightR (r.1.set i x,r.2):=by
     refine ⟨by show (r.1.set i x).length=4;rw[z17];exact hl,fun y hy=>?_,fun a b hab v ha hb=>?_,hr.st⟩
     ·rcases List.mem_or_eq_of_mem_set hy with hy | rfl
      ·exact hr.rng y hy
      ·omega
     ·simp only[List.getElem?_set] at ha hb
      by_cases ea:i=a
      ·rw[z6 ea] at ha
       rw[z5 (by omega)] at hb
       split at ha
       ·simp only[z4] at ha
        subst ha
        exact absurd (List.mem_iff_getElem?.2 ⟨b,hb⟩) hnot
       ·simp at ha
      ·rw[z5 ea] at ha
       by_cases eb:i=b
       ·rw[z6 eb] at hb
        split at hb
        ·simp only[z4] at hb
         subst hb
         exact absurd (List.mem_iff_getElem?.2 ⟨a,ha⟩) hnot
        ·simp at hb
       ·rw[z5 eb] at hb
        exact hr.once a b hab v ha hb
    exact qbet N n hN K0 z m (i+1) c1 (r.1.set i x,r.2) hc1 hr2 (by omega) (by omega)
   ·rw[qh hk,qs (by omega)]
    exact qbet N n hN K0 z m (i+1) c1 r hc1 hr (by omega) (by omega)
  ·rw[qh (by omega)]
   exact ⟨c,r,hc,hr,rfl⟩
theorem qbqm (hn:W+3≤n) {c:Cur} (hc:qhi c):∃ (r:qm) (c':Cur),RightR r∧(r.2.1=0∨r.2.1=1∨r.2.1=3∨r.2.1=5)∧qhi c'∧qqh (DD X n) c=some ((r,()),(c',())):=by
 obtain ⟨n,rfl⟩:∃ k,n=k+1:=⟨n - 1,by omega⟩
 have hW:=qbf
 have hnew:qy6 (DD X n)=some ((((List.replicate (Int.toNat 4) 0,0,()):qm),()),()):=by
  obtain ⟨n,rfl⟩:∃ k,n=k+1:=⟨n - 1,by omega⟩
  rw[qbn9 hX];rfl
 rw[qbfc hX]
 simp only[qrb,qqx,qob]
 rw[hnew,qc]
 dsimp only
 have h0:RightR ((List.replicate (Int.toNat 4) 0,0,()):qm):=by
  refine ⟨rfl,fun x hx=>?_,fun i j hij v hi hj=>?_,by show (0:Int)≤0∧(0:Int)≤5;omega⟩
  ·have:=(List.mem_replicate.1 hx).2;omega
  ·simp only[List.getElem?_replicate] at hi
   split at hi
   ·simp only[z4] at hi;exact hi.symm
   ·simp at hi
 obtain ⟨c',r',h1,h2,e⟩:=qbet hX n n (by omega) (fun v0_0 v0_1 v0_2=>qmx (DD X n) n v0_0 v0_1 v0_2) ([],0,()) n 0 c _ hc h0 (by omega) (by omega)
 rw[show ((0:Nat):Int)=0 from rfl] at e
 rw[e]
 simp only[qmx]
 obtain ⟨s,c2,hs,hc2,e2⟩:=qbhn hX (n:=n) (by omega) h1 [0,0,1,3,5] (by simp)
 rw[e2,qc]
 have hs2:s=0∨s=1∨s=3∨s=5:=by
  simp only[z15,z25,or_false] at hs
  omega
 exact ⟨(r'.1,s,()),c2,⟨h2.len,h2.rng,h2.once,by show 0≤s∧s≤5;omega⟩,hs2,hc2,rfl⟩
end
end Go.G

namespace Go.G
set_option maxRecDepth 100000
open Go Go.V Go.Proofs
def qbny (ws:List Int):Prop:=ws.length=20∧∀ x∈ws,0≤x∧x≤1000
theorem qbny.set {ws:List Int} (h:qbny ws) (i:Nat) {x:Int} (hx:0≤x∧x≤1000):qbny (ws.set i x):=
 ⟨by rw[z17];exact h.1,fun y hy=>by
  rcases List.mem_or_eq_of_mem_set hy with q | rfl
  ·exact h.2 y q
  ·exact hx⟩
def many (c:Int):List Int→Int
 | []=>0
 | x::l=>(bif inR x 1 6&&decide (qi x=c) then 1 else 0)+many c l
theorem q63 (c:Int):∀ l,0≤many c l∧many c l≤(l.length:Int)
 | []=>⟨by simp[many],by simp[many]⟩
 | x::l=>by
  have:=q63 c l
  simp only[many,z22]
  cases inR x 1 6&&decide (qi x=c)<;>simp only[z21,z20]<;>omega
section
variable {X:Ext} (hX:XOk X) {n:Nat}
include hX
theorem qbw0 (hn:1≤n) (b:Bool):qqu (DD X n) b=some ((bif b then 1 else 0,()),()):=by
 obtain ⟨n,rfl⟩:∃ k,n=k+1:=⟨n - 1,by omega⟩
 rw[qbr9 hX]
 cases b<;>rfl
theorem qbsh (N n:Nat) (hN:4≤N) (K:Int→Option ((Int×Unit)×Unit)) (r:qm) (hr:r.1.length≤1000) (c:Int):∀ (m i:Nat) (a:Int),i≤r.1.length→r.1.length - i<m→0≤a∧a≤i→
  qlg (DD X N) n K m c a (i:Int) r=K (a+many c (r.1.drop i))
 | 0,_,_,_,h,_=>by omega
 | m+1,i,a,hi,hf,ha=>by
  simp only[qlg,qwt]
  by_cases h:i<r.1.length
  ·rw[qg (by omega),ix h,br_t,z12,qv h,qvi hX (by omega),qc,qgz h]
   simp only[many]
   cases hv:inR r.1[i] 1 6
   ·rw[br_f,qbw0 hX (by omega),qc]
    dsimp only
    rw[z20,qo (by omega) (by omega),qs (by omega),qbsh N n hN K r hr c m (i+1) _ (by omega) (by omega) (by omega)]
    congr 1
    simp only[Bool.false_and,z20]
    omega
   ·rw[br_t,br_t,qbvr hX (by omega),qc]
    dsimp only
    rw[qbw0 hX (by omega),qc]
    dsimp only
    have hb:0≤(bif decide (qi r.1[i]=c) then (1:Int) else 0)∧(bif decide (qi r.1[i]=c) then (1:Int) else 0)≤1:=by
     cases decide (qi r.1[i]=c)<;>simp
    rw[qo (by omega) (by omega),qs (by omega),qbsh N n hN K r hr c m (i+1) _ (by omega) (by omega) (by omega)]
    congr 1
    simp only[Bool.true_and]
    omega
  ·rw[qh (by omega),qii h]
   congr 1;simp[many]
theorem qbq2 (hn:W+1≤n) (r:qm) (hr:r.1.length≤1000) (c:Int):qz5 (DD X n) r c=some ((many c r.1,()),()):=by
 obtain ⟨n,rfl⟩:∃ k,n=k+1:=⟨n - 1,by omega⟩
 have hW:=qbf
 rw[qboa hX]
 simp only[qzg,q0a,qup]
 have e:=qbsh hX n n (by omega) (fun v0_0=>q4b (DD X n) n v0_0) r hr c n 0 0 (by omega) (by omega) (by omega)
 rw[show ((0:Nat):Int)=0 from rfl,List.drop_zero,Int.zero_add] at e
 rw[e];rfl
end
end Go.G

namespace Go.G
set_option maxRecDepth 100000
open Go Go.V Go.Proofs
section
variable {X:Ext} (hX:XOk X) {n:Nat}
include hX
theorem qbrl (hn:6≤n) {c:Cur} (hc:qhi c):∃ (o:Op3) (c':Cur),qhi c'∧opOk o=true∧qql (DD X n) c=some ((o,()),(c',())):=by
 obtain ⟨n,rfl⟩:∃ k,n=k+1:=⟨n - 1,by omega⟩
 rw[qbev hX]
 simp only[qrc,q1y]
 obtain ⟨k,c1,hk,hc1,e1⟩:=qbhn hX (n:=n) (by omega) hc [1,1,1,2,2,3,4,5,6,7,8,9,9,10] (by simp)
 have hk2:k=1∨k=2∨k=3∨k=4∨k=5∨k=6∨k=7∨k=8∨k=9∨k=10:=by
  simp only[z15,z25,or_false] at hk
  omega
 obtain ⟨x,c2,h2,_,hc2,e2⟩:=qj8 hX (n:=n) (by omega) hc1 4
 obtain ⟨y,c3,h3,_,hc3,e3⟩:=qj8 hX (n:=n) (by omega) hc2 4
 obtain ⟨z,c4,h4,_,hc4,e4⟩:=qj8 hX (n:=n) (by omega) hc1 3
 obtain ⟨x0,x1⟩:=h2 (by omega)
 obtain ⟨y0,y1⟩:=h3 (by omega)
 obtain ⟨z0,z1⟩:=h4 (by omega)
 have ix4:inR x 0 3=true:=qcb.2 (by omega)
 have iz:inR z 0 2=true:=qcb.2 (by omega)
 have wy:wrap .i64 (1+y)=1+y:=qo (by omega) (by omega)
 have wx:wrap .i64 (1+x)=1+x:=qo (by omega) (by omega)
 have iy:inR (1+y) 1 6=true:=qcb.2 (by omega)
 have ix6:inR (1+x) 1 6=true:=qcb.2 (by omega)
 simp only[show (List.set (List.set (List.set (List.set (List.set (List.set (List.set (List.set (List.set (List.set (List.set (List.set (List.set (List.set (List.replicate 14 (0:Int)) 0 1) 1 1) 2 1) 3 2) 4 2) 5 3) 6 4) 7 5) 8 6) 9 7) 10 8) 11 9) 12 9) 13 10)=[1,1,1,2,2,3,4,5,6,7,8,9,9,10] from rfl]
 rw[e1,qc]
 dsimp only
 rw[qbwr hX (by omega),qc]
 dsimp only
 rcases hk2 with rfl | rfl | rfl | rfl | rfl | rfl | rfl | rfl | rfl | rfl
 ·rw[show inR 1 1 4=true from rfl,br_t,e2,qc]
  dsimp only
  rw[qh (by decide),qmp hX (by omega),qc]
  dsimp only
  rw[show (bif bif bif decide ((1:Int)=1) then true else decide ((1:Int)=2) then true else decide ((1:Int)=5) then true else decide ((1:Int)=10))=true from rfl,br_t,e3,qc,wy]
  exact ⟨_,_,hc3,by show (inR x 0 3&&inR (1+y) 1 6)=true;rw[ix4,iy];rfl,rfl⟩
 ·rw[show inR 2 1 4=true from rfl,br_t,e2,qc]
  dsimp only
  rw[qh (by decide),qmp hX (by omega),qc]
  dsimp only
  rw[show (bif bif bif decide ((2:Int)=1) then true else decide ((2:Int)=2) then true else decide ((2:Int)=5) then true else decide ((2:Int)=10))=true from rfl,br_t,e3,qc,wy]
  exact ⟨_,_,hc3,by show (inR x 0 3&&inR (1+y) 1 6)=true;rw[ix4,iy];rfl,rfl⟩
 ·rw[show inR 3 1 4=true from rfl,br_t,e2,qc]
  dsimp only
  rw[qh (by decide),qmp hX (by omega),qc]
  dsimp only
  rw[show (bif bif bif decide ((3:Int)=1) then true else decide ((3:Int)=2) then true else decide ((3:Int)=5) then true else decide ((3:Int)=10))=false from rfl,br_f]
  exact ⟨_,_,hc2,by show (inR x 0 3&&true)=true;rw[ix4];rfl,rfl⟩
 ·rw[show inR 4 1 4=true from rfl,br_t,e2,qc]
  dsimp only
  rw[qh (by decide),qmp hX (by omega),qc]
  dsimp only
  rw[show (bif bif bif decide ((4:Int)=1) then true else decide ((4:Int)=2) then true else decide ((4:Int)=5) then true else decide ((4:Int)=10))=false from rfl,br_f]
  exact ⟨_,_,hc2,by show (inR x 0 3&&true)=true;rw[ix4];rfl,rfl⟩
 ·rw[show inR 5 1 4=false from rfl,br_f,qh (by decide),qmp hX (by omega),qc]
  dsimp only
  rw[show (bif bif bif decide ((5:Int)=1) then true else decide ((5:Int)=2) then true else decide ((5:Int)=5) then true else decide ((5:Int)=10))=true from rfl,br_t,e2,qc,wx]
  exact ⟨_,_,hc2,by show (true&&inR (1+x) 1 6)=true;rw[ix6];rfl,rfl⟩
 ·rw[show inR 6 1 4=false from rfl,br_f,qg rfl,e4,qc]
  dsimp only
  rw[qmp hX (by omega),qc]
  dsimp only
  rw[show (bif bif bif decide ((6:Int)=1) then true else decide ((6:Int)=2) then true else decide ((6:Int)=5) then true else decide ((6:Int)=10))=false from rfl,br_f]
  exact ⟨_,_,hc4,by show (inR z 0 2&&true)=true;rw[iz];rfl,rfl⟩
 ·rw[show inR 7 1 4=false from rfl,br_f,qh (by decide),qmp hX (by omega),qc]
  exact ⟨_,_,hc1,rfl,rfl⟩
 ·rw[show inR 8 1 4=false from rfl,br_f,qh (by decide),qmp hX (by omega),qc]
  exact ⟨_,_,hc1,rfl,rfl⟩
 ·rw[show inR 9 1 4=false from rfl,br_f,qh (by decide),qmp hX (by omega),qc]
  exact ⟨_,_,hc1,rfl,rfl⟩
 ·rw[show inR 10 1 4=false from rfl,br_f,qh (by decide),qmp hX (by omega),qc]
  dsimp only
  rw[show (bif bif bif decide ((10:Int)=1) then true else decide ((10:Int)=2) then true else decide ((10:Int)=5) then true else decide ((10:Int)=10))=true from rfl,br_t,e2,qc,wx]
  exact ⟨_,_,hc2,by show (true&&inR (1+x) 1 6)=true;rw[ix6];rfl,rfl⟩
end
end Go.G

namespace Go.G
set_option maxRecDepth 100000
open Go Go.V Go.Proofs
theorem qb13 {k V row owner st cnt:Int} {x:Int×List Int} (h:nowP k V row owner st cnt=some x):x.2.length≤1:=by
 unfold nowP at h
 by_cases c0:k=1∧row≠0
 ·rw[z6 c0] at h;cases h;simp
 rw[z5 c0] at h
 by_cases c1:k=1∧owner≠0
 ·rw[z6 c1] at h;cases h;simp
 rw[z5 c1] at h
 by_cases c2:(k=2∨k=3∨k=4)∧row=0
 ·rw[z6 c2] at h;cases h;simp
 rw[z5 c2] at h
 by_cases c3:k=2∧row=V
 ·rw[z6 c3] at h;cases h;simp
 rw[z5 c3] at h
 by_cases c4:k=2∧owner≠0
 ·rw[z6 c4] at h;cases h;simp
 rw[z5 c4] at h
 by_cases c5:k=4
 ·rw[z6 c5] at h;cases h;simp
 rw[z5 c5] at h
 by_cases c6:k=5∧owner=0
 ·rw[z6 c6] at h;cases h;simp
 rw[z5 c6] at h
 by_cases c7:k=5
 ·rw[z6 c7] at h;cases h;simp
 rw[z5 c7] at h
 by_cases c8:k=6
 ·rw[z6 c8] at h;cases h;simp
 rw[z5 c8] at h
 by_cases c9:k=8∧st≠0
 ·rw[z6 c9] at h;cases h;simp
 rw[z5 c9] at h
 by_cases c10:k=9∧(st<1∨st>4)
 ·rw[z6 c10] at h;cases h;simp
 rw[z5 c10] at h
 by_cases c11:k=10∧st≠5
 ·rw[z6 c11] at h;cases h;simp
 rw[z5 c11] at h
 cases h
theorem qby9 (o:Op3) (got:Got):(qcj o got).1.2.1.2.1.length≤20∧(qcj o got).1.2.2.1.length≤20:=by
 unfold qcj
 split
 ·cases hn:qgp o got with
  | some x=>
   have:=qb13 hn
   exact ⟨by show x.2.length≤20;omega,by show (0:Nat)≤20;omega⟩
  | none=>
   refine ⟨?_,?_⟩
   ·show (resP o got).2.1.length≤20
    unfold resP
    repeat' split
    all_goals simp
   ·show (entP o got).length≤20
    unfold entP
    split
    ·rw[qbpk]
     have:=Nat.le_trans (qbjr got (chgL o.2.1 o.2.2.1 (val got (qr o.2.1)) (val got 13))) (qbsb _ _ _ _)
     simp only[List.length_nil];omega
    ·repeat' split
     ·simp
     ·simp
     ·cases inR (val got (qr (wrap .i64 (val got 13 - 1)))) 1 6<;>simp
     ·simp
     ·simp
 ·exact ⟨by show (0:Nat)≤20;omega,by show (0:Nat)≤20;omega⟩
section
variable {X:Ext} (hX:XOk X) {n:Nat}
include hX
end
end Go.G

namespace Go.G
set_option maxRecDepth 100000
open Go Go.V Go.Proofs
theorem qey (l:List Int) (i j:Nat) (x:Int) (h:i<l.length):(l.set i x).getD j 0=if j=i then x else l.getD j 0:=by
 simp only[List.getD,List.getElem?_set]
 by_cases e:i=j
 ·subst e;rw[z6 rfl,z6 h,z6 rfl];rfl
 ·rw[z5 e,z5 (fun k=>e k.symm)]
theorem q7j (v:Int):∀ (l:List Int) (i k:Nat),keyF v l i=(k:Int)→i≤k∧l[k - i]? = some v
 | [],i,k,h=>by simp only[keyF] at h;omega
 | x::l,i,k,h=>by
  simp only[keyF] at h
  by_cases e:x=v
  ·rw[z6 e] at h
   have:i=k:=by omega
   subst this
   refine ⟨Nat.le_refl _,?_⟩
   rw[Nat.sub_self,e];rfl
  ·rw[z5 e] at h
   obtain ⟨h1,h2⟩:=q7j v l (i+1) k h
   refine ⟨by omega,?_⟩
   rw[show k - i=(k - (i+1))+1 by omega];exact h2
theorem qm7 (v:Int):∀ (l:List Int) (i:Nat),-1≤keyF v l i∧keyF v l i<(i+l.length:Nat)
 | [],i=>by simp only[keyF,List.length_nil];omega
 | x::l,i=>by
  have:=qm7 v l (i+1)
  simp only[keyF,z22]
  split<;>omega
def viaW (v:Int) (h:List Int) (i:Int) (st:Int):Int:=if 0≤keyF v h 0∧keyF v h 0<i∧keyF v h 0<st - 1 then keyF v h 0+1 else 0
def ownW (v:Int) (h:List Int) (i:Int):Int:=if 0≤keyF v h 0∧keyF v h 0<i then keyF v h 0+1 else 0
def qt1 (r:qm) (i p:Nat):Int:=
 if p<4 then (if p<i then r.1.getD p 0 else 0) else if p<10 then ownW ((p:Int) - 3) r.1 i else if p<14 then 0 else viaW ((p:Int) - 13) r.1 i r.2.1
def qds (r:qm) (p:Nat):Int:=
 if p<4 then r.1.getD p 0 else if p<10 then ownW ((p:Int) - 3) r.1 4 else if p<13 then many ((p:Int) - 10) r.1 else if p=13 then r.2.1 else viaW ((p:Int) - 13) r.1 4 r.2.1
section
variable {X:Ext} (hX:XOk X) {n:Nat}
include hX
theorem qbpl {r:qm} (hr:RightR r) {i:Nat} (hi:i<4) (hi2:i<r.1.length) (p:Nat) (hp:p<20) :
  qt1 r (i+1) p=if p<4 then (if p=i then r.1[i] else qt1 r i p) else if r.1[i]≠0∧(p:Int)=3+r.1[i] then (i:Int)+1 else
   if r.1[i]≠0∧(p:Int)=13+r.1[i]∧(i:Int)<r.2.1 - 1 then (i:Int)+1 else qt1 r i p:=by
 have hx:=hr.rng r.1[i] (z24 hi2)
 have hkey:r.1[i]≠0→keyF r.1[i] r.1 0=(i:Int):=fun e=>by
  rw[q03 r.1[i] r.1 0 i (z31 hi2) (fun j hj hc=>e (hr.once j i hj _ hc (z31 hi2)))]
  congr 1;omega
 have hother:∀ v:Int,v≠r.1[i]→keyF v r.1 0≠(i:Int):=fun v hv hc=>by
  obtain ⟨_,h2⟩:=q7j v r.1 0 i hc
  rw[Nat.sub_zero,z31 hi2] at h2
  exact hv (Option.some.inj h2).symm
 unfold qt1
 by_cases h4:p<4
 ·simp only[z6 h4]
  by_cases e:p=i
  ·subst e;simp only[z6 (show p<p+1 by omega),if_true,qv hi2]
  ·simp only[z5 e]
   by_cases e2:p<i
   ·simp only[z6 e2,z6 (show p<i+1 by omega)]
   ·simp only[z5 e2,z5 (show ¬ p<i+1 by omega)]
 simp only[z5 h4]
 by_cases h10:p<10
 ·have n13:¬ (r.1[i]≠0∧(p:Int)=13+r.1[i]∧(i:Int)<r.2.1 - 1):=by omega
  simp only[z6 h10,z5 n13]
  unfold ownW
  by_cases e:r.1[i]≠0∧(p:Int)=3+r.1[i]
  ·simp only[z6 e]
   rw[show (p:Int) - 3=r.1[i] by omega,hkey e.1,z6 (by omega)]
  ·simp only[z5 e]
   have hk:keyF ((p:Int) - 3) r.1 0≠(i:Int):=by
    by_cases q:(p:Int) - 3=r.1[i]
    ·exact absurd ⟨by omega,by omega⟩ e
    ·exact hother _ q
   by_cases c:0≤keyF ((p:Int) - 3) r.1 0∧keyF ((p:Int) - 3) r.1 0<(i:Int)
   ·simp only[z6 c,z6 (show 0≤keyF ((p:Int) - 3) r.1 0∧keyF ((p:Int) - 3) r.1 0<((i+1:Nat):Int) by omega)]
   ·simp only[z5 c,z5 (show ¬ (0≤keyF ((p:Int) - 3) r.1 0∧keyF ((p:Int) - 3) r.1 0<((i+1:Nat):Int)) by omega)]
 have n3:¬ (r.1[i]≠0∧(p:Int)=3+r.1[i]):=by omega
 simp only[z5 h10,z5 n3]
 by_cases h14:p<14
 ·have n13:¬ (r.1[i]≠0∧(p:Int)=13+r.1[i]∧(i:Int)<r.2.1 - 1):=by omega
  simp only[z6 h14,z5 n13]
 simp only[z5 h14]
 unfold viaW
 by_cases e:r.1[i]≠0∧(p:Int)=13+r.1[i]
 ·rw[show (p:Int) - 13=r.1[i] by omega,hkey e.1]
  by_cases c:(i:Int)<r.2.1 - 1
  ·simp only[z6 (show 0≤(i:Int)∧(i:Int)<((i+1:Nat):Int)∧(i:Int)<r.2.1 - 1 by omega),z6 (show r.1[i]≠0∧(p:Int)=13+r.1[i]∧(i:Int)<r.2.1 - 1 from ⟨e.1,e.2,c⟩)]
  ·simp only[z5 (show ¬ (0≤(i:Int)∧(i:Int)<((i+1:Nat):Int)∧(i:Int)<r.2.1 - 1) by omega),z5 (show ¬ (r.1[i]≠0∧(p:Int)=13+r.1[i]∧(i:Int)<r.2.1 - 1) from fun k=>c k.2.2),z5 (show ¬ (0≤(i:Int)∧(i:Int)<(i:Int)∧(i:Int)<r.2.1 - 1) by omega)]
 ·simp only[z5 (show ¬ (r.1[i]≠0∧(p:Int)=13+r.1[i]∧(i:Int)<r.2.1 - 1) from fun k=>e ⟨k.1,k.2.1⟩)]
  have hk:keyF ((p:Int) - 13) r.1 0≠(i:Int)∨(p:Int) - 13=0:=by
   by_cases q:(p:Int) - 13=r.1[i]
   ·by_cases z:r.1[i]=0
    ·exact .inr (by omega)
    ·exact absurd ⟨z,by omega⟩ e
   ·exact .inl (hother _ q)
  by_cases c:0≤keyF ((p:Int) - 13) r.1 0∧keyF ((p:Int) - 13) r.1 0<(i:Int)∧keyF ((p:Int) - 13) r.1 0<r.2.1 - 1
  ·simp only[z6 c,z6 (show 0≤keyF ((p:Int) - 13) r.1 0∧keyF ((p:Int) - 13) r.1 0<((i+1:Nat):Int)∧keyF ((p:Int) - 13) r.1 0<r.2.1 - 1 by omega)]
  ·simp only[z5 c,z5 (show ¬ (0≤keyF ((p:Int) - 13) r.1 0∧keyF ((p:Int) - 13) r.1 0<((i+1:Nat):Int)∧keyF ((p:Int) - 13) r.1 0<r.2.1 - 1) by omega)]
theorem q77 (N n:Nat) (hN:4≤N) (K:qm→List Int→Option ((List Int×Unit)×Unit)) {r:qm} (hr:RightR r):∀ (m i:Nat) (ws:List Int),i≤4→4 - i<m→ws.length=20→(∀ p<20,ws.getD p 0=qt1 r i p)→
  ∃ ws',ws'.length=20∧(∀ p<20,ws'.getD p 0=qt1 r 4 p)∧qli (DD X N) n K m (i:Int) r ws=K r ws'
 | 0,_,_,_,h,_,_=>by omega
 | m+1,i,ws,hi,hf,hlw,hw=>by
  have hl:=hr.len
  have hst:=hr.st
  simp only[qli,qwi]
  by_cases h:i<4
  ·have hi2:i<r.1.length:=by omega
   have hv:=hr.rng r.1[i] (z24 hi2)
   have hrow:qr (i:Int)=i:=by unfold qr;rw[qcb.2 (by omega)];rfl
   have hps:=qbpl hX hr h hi2
   rw[qg (by omega),ix hi2,br_t,z12,qv hi2,qb0k hX (by omega),qc,hrow]
   dsimp only
   rw[ixn (by omega) (by rw[hlw];omega),br_t,z12]
   by_cases h0:r.1[i]=0
   ·rw[qg h0,qs (by omega)]
    refine q77 N n hN K hr m (i+1) _ (by omega) (by omega) (by rw[z17];exact hlw) (fun p hp=>?_)
    rw[hps p hp,qey _ _ _ _ (by omega)]
    by_cases e:p=i
    ·rw[z6 e,z6 (by omega),z6 e]
    ·rw[z5 e,hw p hp,z5 e]
     rw[z5 (show ¬ (r.1[i]≠0∧(p:Int)=3+r.1[i]) from fun k=>k.1 h0),z5 (show ¬ (r.1[i]≠0∧(p:Int)=13+r.1[i]∧(i:Int)<r.2.1 - 1) from fun k=>k.1 h0)]
     split<;>rfl
   ·rw[qh h0,qbv6 hX (by omega),qc]
    dsimp only
    have ho:=qih r.1[i]
    have hvi:=qgy r.1[i]
    have ho2:qy r.1[i]=3+r.1[i]:=by omega
    have hvi2:qbt r.1[i]=13+r.1[i]:=by omega
    have hws:wrap .i64 (r.2.1 - 1)=r.2.1 - 1:=qo (by omega) (by omega)
    rw[ixn (by omega) (by rw[z17,hlw];omega),br_t,qs (by omega),hws,ho2]
    by_cases hs:(i:Int)<r.2.1 - 1
    ·rw[qg hs,qbz8 hX (by omega),qc]
     dsimp only
     rw[ixn (by omega) (by rw[z17,z17,hlw];omega),br_t,hvi2]
     refine q77 N n hN K hr m (i+1) _ (by omega) (by omega) (by rw[z17,z17,z17];exact hlw) (fun p hp=>?_)
     rw[hps p hp,qey _ _ _ _ (by rw[z17,z17,hlw];omega),qey _ _ _ _ (by rw[z17,hlw];omega),qey _ _ _ _ (by omega),hw p hp]
     by_cases e3:p=(13+r.1[i]).toNat
     ·rw[z6 e3,z5 (by omega),z5 (by omega),z6 ⟨h0,by omega,hs⟩];omega
     rw[z5 e3]
     by_cases e2:p=(3+r.1[i]).toNat
     ·rw[z6 e2,z5 (by omega),z6 ⟨h0,by omega⟩];omega
     rw[z5 e2]
     by_cases e:p=i
     ·simp only[z6 e,z6 (show p<4 by omega)]
     ·simp only[z5 e]
      rw[z5 (show ¬ (r.1[i]≠0∧(p:Int)=3+r.1[i]) by omega),z5 (show ¬ (r.1[i]≠0∧(p:Int)=13+r.1[i]∧(i:Int)<r.2.1 - 1) by omega)]
      split<;>rfl
    ·rw[qh hs]
     refine q77 N n hN K hr m (i+1) _ (by omega) (by omega) (by rw[z17,z17];exact hlw) (fun p hp=>?_)
     rw[hps p hp,qey _ _ _ _ (by rw[z17,hlw];omega),qey _ _ _ _ (by omega),hw p hp]
     rw[z5 (show ¬ (r.1[i]≠0∧(p:Int)=13+r.1[i]∧(i:Int)<r.2.1 - 1) by omega)]
     by_cases e2:p=(3+r.1[i]).toNat
     ·rw[z6 e2,z5 (by omega),z6 ⟨h0,by omega⟩];omega
     rw[z5 e2]
     by_cases e:p=i
     ·simp only[z6 e,z6 (show p<4 by omega)]
     ·simp only[z5 e]
      rw[z5 (show ¬ (r.1[i]≠0∧(p:Int)=3+r.1[i]) by omega)]
      split<;>rfl
  ·rw[qh (by omega)]
   have:i=4:=by omega
   subst this
   exact ⟨ws,hlw,hw,rfl⟩
def cntW (r:qm) (i p:Nat):Int:=if 10≤p∧p<10+i then many ((p:Int) - 10) r.1 else qt1 r 4 p
theorem qbpy (N n:Nat) (hN:W+4≤N) (K:qm→List Int→Option ((List Int×Unit)×Unit)) {r:qm} (hr:RightR r):∀ (m i:Nat) (ws:List Int),i≤3→3 - i<m→ws.length=20→(∀ p<20,ws.getD p 0=cntW r i p)→
  ∃ ws',ws'.length=20∧(∀ p<20,ws'.getD p 0=cntW r 3 p)∧qld (DD X N) n K m (i:Int) r ws=K r ws'
 | 0,_,_,_,h,_,_=>by omega
 | m+1,i,ws,hi,hf,hlw,hw=>by
  have hl:=hr.len
  have hW:=qbf
  simp only[qld,qwp]
  by_cases h:i<3
  ·have hc:=qie (i:Int)
   have hc2:qbw (i:Int)=10+i:=by omega
   rw[qg (by omega),qbvl hX (by omega),qc]
   dsimp only
   rw[qbq2 hX (by omega) r (by omega),qc]
   dsimp only
   rw[ixn (by omega) (by rw[hlw];omega),br_t,qs (by omega),hc2]
   refine qbpy N n hN K hr m (i+1) _ (by omega) (by omega) (by rw[z17];exact hlw) (fun p hp=>?_)
   rw[qey _ _ _ _ (by omega),hw p hp]
   unfold cntW
   by_cases e:p=(10+(i:Int)).toNat
   ·rw[z6 e,z6 (by omega),show (p:Int) - 10=i by omega]
   ·rw[z5 e]
    by_cases c:10≤p∧p<10+i
    ·rw[z6 c,z6 (by omega)]
    ·rw[z5 c,z5 (by omega)]
  ·rw[qh (by omega)]
   have:i=3:=by omega
   subst this
   exact ⟨ws,hlw,hw,rfl⟩
theorem qb2e (hn:W+6≤n) {r:qm} (hr:RightR r):∃ ws:List Int,ws.length=20∧(∀ p<20,ws.getD p 0=qds r p)∧qyx (DD X n) r=some ((ws,()),()):=by
 obtain ⟨n,rfl⟩:∃ k,n=k+1:=⟨n - 1,by omega⟩
 have hW:=qbf
 have hst:=hr.st
 rw[qbnj hX]
 simp only[qyn,qyz]
 rw[qbfa hX (by omega) hr,qc]
 dsimp only
 rw[z13,br_f]
 simp only[qus]
 obtain ⟨w1,l1,h1,e1⟩:=q77 hX n n (by omega) (fun v0_0 v0_1=>qmc (DD X n) n (qnt (DD X n) n) v0_0 v0_1) hr n 0 (List.replicate (Int.toNat 20) 0) (by omega) (by omega) rfl (fun p hp=>by
  have e0:(List.replicate (Int.toNat 20) (0:Int)).getD p 0=0:=by
   simp only[List.getD,List.getElem?_replicate];split<;>rfl
  rw[e0]
  unfold qt1 ownW viaW
  split
  ·rfl
  ·split
   ·rw[z5 (by omega)]
   ·split
    ·rfl
    ·rw[z5 (by omega)])
 rw[show ((0:Nat):Int)=0 from rfl] at e1
 obtain ⟨w2,l2,h2,e2⟩:=qbpy hX n n (by omega) (fun v0_0 v0_1=>qs3 (DD X n) n v0_0 v0_1) hr n 0 w1 (by omega) (by omega) l1 (fun p hp=>by
  rw[h1 p hp];unfold cntW;rw[z5 (by omega)])
 rw[show ((0:Nat):Int)=0 from rfl] at e2
 refine ⟨w2.set 13 r.2.1,by rw[z17];exact l2,fun p hp=>?_,e1.trans ?_⟩
 ·rw[qey _ _ _ _ (by omega),h2 p hp]
  unfold qds cntW qt1
  have hlen:=hr.len
  by_cases e:p=13
  ·rw[z6 e,z5 (by omega),z5 (by omega),z5 (by omega),z6 e]
  rw[z5 e]
  by_cases a1:p<4
  ·rw[z5 (by omega),z6 a1,z6 a1,z6 a1]
  by_cases a2:p<10
  ·rw[z5 (by omega),z5 a1,z6 a2,z5 a1,z6 a2];rfl
  by_cases a3:p<13
  ·rw[z6 (by omega),z5 a1,z5 a2,z6 a3]
  ·rw[z5 (by omega),z5 a1,z5 a2,z5 (by omega),z5 a1,z5 a2,z5 a3,z5 e];rfl
 simp only[qmc,qnt]
 rw[e2]
 simp only[qs3]
 rw[qbhx hX (by omega),qc]
 dsimp only
 rw[ixn (by omega) (by rw[l2];omega),br_t]
 rfl
end
end Go.G

namespace Go.G
set_option maxRecDepth 100000
open Go Go.V Go.Proofs
def path (w:Int→Int):PR→List Int
 | .done=>[]
 | .ask p k=>p::path w (k (w p))
def q43 (got:Got) (w:Int→Int) (L:List Int):Prop:=∀ q,qbg got q=if q∈L then (w q,true) else (0,false)
theorem qb0a (w:Int→Int):∀ (L:List Int),q43 (L.map fun p=>(p,w p,())) w L:=by
 intro L q
 unfold qbg
 have key:∀ (L:List Int) (v:Int) (ok:Bool),rd q (L.map fun p=>(p,w p,())) v ok=if q∈L then (w q,true) else (v,ok):=by
  intro L
  induction L with
  | nil=>intro v ok;simp[rd]
  | cons a L ih=>
   intro v ok
   simp only[z28,rd]
   by_cases e:a=q
   ·rw[z6 e,ih]
    by_cases m:q∈L
    ·rw[z6 m,z6 (z16 _ m)]
    ·rw[z5 m,z6 (by rw[e];exact z14),e]
   ·rw[z5 e,ih]
    by_cases m:q∈L
    ·rw[z6 m,z6 (z16 _ m)]
    ·rw[z5 m,z5 (by
      intro k
      rcases z15.1 k with k | k
      ·exact e k.symm
      ·exact m k)]
 exact key L 0 false
theorem q8e {got:Got} {w:Int→Int} {L:List Int} (h:q43 got w L) {p:Int} (hp:0≤p):hit got p=decide (p∈L):=by
 unfold hit
 rw[z11 hp,Bool.true_and,h p]
 by_cases m:p∈L
 ·rw[z6 m,z11 m]
 ·rw[z5 m,z10 m]
theorem qbii {got:Got} {w:Int→Int} {L:List Int} (h:q43 got w L):∀ (A B:List Int) (P:PR),path w P=A++B→(∀ a∈A,a∈L)→(∀ a∈A++B,0≤a)→(∀ b B',B=b::B'→b∉L)→run got P=(A,B.headD (-1))
 | [],B,P,hp,_,hz,hB=>by
  cases P with
  | done=>simp only[path,z46] at hp;subst hp;rfl
  | ask p k=>
   simp only[path,z46] at hp
   subst hp
   have hm:hit got p=false:=by
    rw[q8e h (hz p (by simp)),z10 (hB p _ rfl)]
   rw[qc7 hm];rfl
 | a::A,B,P,hp,hA,hz,hB=>by
  cases P with
  | done=>simp[path] at hp
  | ask p k=>
   simp only[path,z40,z36] at hp
   obtain ⟨rfl,hp⟩:=hp
   have hm:hit got p=true:=by
    rw[q8e h (hz p (by simp)),z11 (hA p z14)]
   have hv:(qbg got p).1=w p:=by rw[h p,z6 (hA p z14)]
   rw[qeb hm,hv,qbii h A B (k (w p)) hp (fun a ha=>hA a (z16 _ ha)) (fun a ha=>hz a (z16 _ ha)) hB]
structure PathOk (w:Int→Int) (l:List Int):Prop where
 once:l.Nodup
 rng:∀ p∈l,0≤p∧p<20
 len:l.length≤8
theorem qoa (w:Int→Int) (K:Int) (l:List Int):path w (qjl K l)=13::(if w 13≤wrap .i64 (K+1) then [] else l.map qbt):=by
 unfold qjl
 simp only[path]
 by_cases h:w 13≤wrap .i64 (K+1)
 ·rw[z11 h,z6 h];rfl
 ·rw[z10 h,z5 h,z20]
  congr 1
  induction l with
  | nil=>rfl
  | cons a l ih=>simp only[qbcd,path,z28,ih]
theorem q5e {o:Op3} (ho:opOk o=true) (w:Int→Int) (hw:∀ k,0≤k∧k≤3→0≤w k∧w k≤6):PathOk w (path w (prog o)):=by
 have hk:=qp2 ho
 have hr:=qmz o.2.1
 have hoV:=qih o.2.2.1
 have hvV:=qgy o.2.2.1
 have hcl:=qkm o.2.2.1
 have hcV:=qie (qi o.2.2.1)
 unfold prog
 by_cases k1:o.1=1
 ·rw[z6 k1]
  unfold qif
  simp only[path]
  cases w (qr o.2.1) != 0
  ·simp only[z20,path]
   cases w (qy o.2.2.1) != 0
   ·simp only[z20,path,qoa,z28,List.map_nil]
    split
    ·exact ⟨by simp;omega,by simp;omega,by simp⟩
    ·exact ⟨by simp;omega,by simp;omega,by simp⟩
   ·exact ⟨by simp[path];omega,by simp[path];omega,by simp[path]⟩
  ·exact ⟨by simp[path],by simp[path];omega,by simp[path]⟩
 rw[z5 k1]
 by_cases k2:o.1=2
 ·rw[z6 k2]
  have hK:0≤o.2.1∧o.2.1≤3:=by omega
  have hrow:qr o.2.1=o.2.1:=by omega
  have hwv:=hw o.2.1 hK
  unfold qil
  simp only[path]
  rw[hrow]
  generalize w o.2.1=v at *
  have hov:=qih v
  have hvv:=qgy v
  have hcv:=qkm v
  have hccv:=qie (qi v)
  by_cases hb:v=0∨v=o.2.2.1
  ·rw[show (bif decide (v=0) then true else decide (v=o.2.2.1))=true by
    rcases hb with h | h
    ·rw[z11 h];rfl
    ·rw[z11 h];cases decide (v=0)<;>rfl]
   exact ⟨by simp[path],by simp[path];omega,by simp[path]⟩
  ·rw[show (bif decide (v=0) then true else decide (v=o.2.2.1))=false by
    rw[z10 (by omega),z10 (by omega)];rfl]
   simp only[z20,path]
   cases w (qy o.2.2.1) != 0
   ·simp only[z20,path]
    cases hc:qi v != qi o.2.2.1
    ·simp only[z20,path,qoa,z28,List.map_nil]
     split
     ·exact ⟨by simp;omega,by simp;omega,by simp⟩
     ·exact ⟨by simp;omega,by simp;omega,by simp⟩
    ·have hne:qi v≠qi o.2.2.1:=by simpa using hc
     simp only[z21,path,qoa,z28,List.map_nil]
     split
     ·exact ⟨by simp;omega,by simp;omega,by simp⟩
     ·exact ⟨by simp;omega,by simp;omega,by simp⟩
   ·exact ⟨by simp[path];omega,by simp[path];omega,by simp[path]⟩
 rw[z5 k2]
 by_cases k3:o.1=3
 ·rw[z6 k3]
  have hK:0≤o.2.1∧o.2.1≤3:=by omega
  have hrow:qr o.2.1=o.2.1:=by omega
  have hwv:=hw o.2.1 hK
  unfold qkh
  simp only[path]
  rw[hrow]
  generalize w o.2.1=v at *
  have hov:=qih v
  have hvv:=qgy v
  have hcv:=qkm v
  have hccv:=qie (qi v)
  by_cases hb:v=0
  ·rw[z11 hb]
   exact ⟨by simp[path],by simp[path];omega,by simp[path]⟩
  ·rw[z10 hb]
   simp only[z20,path,qoa,z28,List.map_nil]
   split
   ·exact ⟨by simp;omega,by simp;omega,by simp⟩
   ·exact ⟨by simp;omega,by simp;omega,by simp⟩
 rw[z5 k3]
 by_cases k4:o.1=4
 ·rw[z6 k4];exact ⟨by simp[path],by simp[path];omega,by simp[path]⟩
 rw[z5 k4]
 by_cases k5:o.1=5
 ·rw[z6 k5];exact ⟨by simp[path],by simp[path];omega,by simp[path]⟩
 rw[z5 k5]
 by_cases k6:o.1=6
 ·rw[z6 k6]
  have:=qie o.2.1
  exact ⟨by simp[path],by simp[path];omega,by simp[path]⟩
 rw[z5 k6]
 by_cases k7:o.1=7
 ·rw[z6 k7];exact ⟨by simp[path,qn3],by simp[path,qn3],by simp[path,qn3]⟩
 rw[z5 k7]
 by_cases k8:o.1=8
 ·rw[z6 k8];exact ⟨by simp[path],by simp[path],by simp[path]⟩
 rw[z5 k8]
 by_cases k9:o.1=9
 ·rw[z6 k9]
  unfold qkl
  simp only[path]
  generalize w 13=st
  by_cases hs:st<1∨st>4
  ·rw[show (bif decide (st<1) then true else decide (st>4))=true by
    rcases hs with h | h
    ·rw[z11 h];rfl
    ·rw[z11 h];cases decide (st<1)<;>rfl]
   exact ⟨by simp[path],by simp[path],by simp[path]⟩
  ·rw[show (bif decide (st<1) then true else decide (st>4))=false by
    rw[z10 (by omega),z10 (by omega)];rfl]
   have hws:wrap .i64 (st - 1)=st - 1:=qo (by omega) (by omega)
   have hrr:=qmz (st - 1)
   simp only[z20,path]
   rw[hws]
   have hp:qr (st - 1)=st - 1:=by omega
   rw[hp]
   cases hin:inR (w (st - 1)) 1 6
   ·exact ⟨by simp[path];omega,by simp[path];omega,by simp[path]⟩
   ·have hi:=qcb.1 hin
    have hvv:=qgy (w (st - 1))
    simp only[z13,z20,path]
    exact ⟨by simp;omega,by simp;omega,by simp⟩
 rw[z5 k9]
 have k10:o.1=10:=by omega
 rw[z6 k10]
 unfold qk9
 simp only[path]
 cases w 13 != 5
 ·simp only[z20,path]
  exact ⟨by simp;omega,by simp;omega,by simp⟩
 ·exact ⟨by simp[path],by simp[path],by simp[path]⟩
end Go.G

namespace Go.G
set_option maxRecDepth 100000
open Go Go.V Go.Proofs
theorem qbpt {α:Type} (key:α→Int):∀ (L acc:List α),(L.foldl (bub key) acc).length=acc.length+L.length
 | [],acc=>rfl
 | e::L,acc=>by rw[List.foldl_cons,qbpt key L,qbaf,z22];omega
theorem qbfr (w:Int→Int) (K:Int) (l:List Int):∀ p∈path w (qjl K l),p=13∨p∈l.map qbt:=by
 intro p hp
 rw[qoa] at hp
 rcases z15.1 hp with h | h
 ·exact .inl h
 ·split at h
  ·simp at h
  ·exact .inr h
theorem qbt2 {o:Op3} (ho:opOk o=true) {got:Got} {w:Int→Int} (hw:∀ k,0≤k∧k≤3→0≤w k∧w k≤6) (hk:q43 got w (path w (prog o))) (hn:qgp o got=none) (h123:o.1=1∨o.1=2∨o.1=3) :
  val got (qr o.2.1)=w o.2.1∧∀ p∈path w (prog o),p∈(chgL o.2.1 o.2.2.1 (w o.2.1) (val got 13)).map (·.1):=by
 have hkd:=qp2 ho
 have hr:=qmz o.2.1
 have hrow:qr o.2.1=o.2.1:=by omega
 have hcl:=qkm o.2.2.1
 have hwK:=hw o.2.1 (by omega)
 have hfst:∃ P,path w (prog o)=qr o.2.1::P:=by
  unfold prog
  rcases h123 with k | k | k
  ·rw[z6 k];exact ⟨_,rfl⟩
  ·rw[z5 (by omega),z6 k];exact ⟨_,rfl⟩
  ·rw[z5 (by omega),z5 (by omega),z6 k];exact ⟨_,rfl⟩
 obtain ⟨P,hP⟩:=hfst
 have hval:val got (qr o.2.1)=w o.2.1:=by
  unfold val
  rw[hk (qr o.2.1),z6 (by rw[hP];exact z14),hrow]
 refine ⟨hval,?_⟩
 have hrd:(qbg got (qr o.2.1)).1=w o.2.1:=hval
 unfold qgp at hn
 rw[hrd] at hn
 unfold nowP at hn
 unfold prog at hk ⊢
 rcases h123 with k | k | k
 ·rw[z6 k] at hk ⊢
  by_cases c1:w o.2.1≠0
  ·rw[z6 ⟨k,c1⟩] at hn;cases hn
  have c1':w o.2.1=0:=by omega
  rw[z5 (fun q=>c1 q.2)] at hn
  have hpath:path w (qif o)=qr o.2.1::qy o.2.2.1::(bif w (qy o.2.2.1) != 0 then [] else qbw (qi o.2.2.1)::path w (qjl o.2.1 [o.2.2.1])):=by
   unfold qif
   simp only[path]
   rw[hrow,c1']
   simp only[bned,decide_true,z13,z20,path]
   cases decide (w (qy o.2.2.1)=0)<;>rfl
  rw[hpath] at hk ⊢
  have hown:(qbg got (qy o.2.2.1)).1=w (qy o.2.2.1):=by rw[hk,z6 (by simp)]
  rw[hown] at hn
  by_cases c2:w (qy o.2.2.1)≠0
  ·rw[z6 ⟨k,c2⟩] at hn;cases hn
  have c2':w (qy o.2.2.1)=0:=by omega
  rw[c2',show ((0:Int) != 0)=false by decide,z20]
  have hz:qi 0 = -1:=by decide
  have hcc:(qi (w o.2.1) != qi o.2.2.1)=true:=by rw[c1',hz,bned,z10 (by omega)];rfl
  intro p hp
  unfold chgL
  rw[hcc,z21]
  simp only[z40,z46,z28,List.map_nil,z15,z25,or_false]
  simp only[z15] at hp
  rcases hp with h | h | h | h
  ·exact .inl h
  ·exact .inr (.inr (.inr (.inr (.inl h))))
  ·exact .inr (.inr (.inr (.inr (.inr (.inr (.inr h))))))
  ·rcases qbfr w _ _ p h with h | h
   ·exact .inr (.inl h)
   ·simp only[z28,List.map_nil,z15,z25,or_false] at h
    exact .inr (.inr (.inr (.inr (.inr (.inl h)))))
 ·rw[z5 (by omega),z6 k] at hk ⊢
  rw[z5 (by omega),z5 (by omega)] at hn
  by_cases c1:w o.2.1=0
  ·rw[z6 ⟨.inl k,c1⟩] at hn;cases hn
  rw[z5 (fun q=>c1 q.2)] at hn
  by_cases c3:w o.2.1=o.2.2.1
  ·rw[z6 ⟨k,c3⟩] at hn;cases hn
  rw[z5 (fun q=>c3 q.2)] at hn
  have hpath:path w (qil o)=qr o.2.1::qy o.2.2.1::(bif w (qy o.2.2.1) != 0 then [] else qy (w o.2.1)::(bif qi (w o.2.1) != qi o.2.2.1 then qbw (qi (w o.2.1))::qbw (qi o.2.2.1)::path w (qjl o.2.1 [w o.2.1,o.2.2.1]) else path w (qjl o.2.1 [w o.2.1,o.2.2.1]))):=by
   unfold qil
   simp only[path]
   rw[hrow,z10 c1,z10 c3]
   simp only[z20,path]
   cases w (qy o.2.2.1) != 0
   ·simp only[z20,path]
    cases qi (w o.2.1) != qi o.2.2.1<;>rfl
   ·rfl
  rw[hpath] at hk ⊢
  have hown:(qbg got (qy o.2.2.1)).1=w (qy o.2.2.1):=by rw[hk,z6 (by simp)]
  rw[hown] at hn
  by_cases c2:w (qy o.2.2.1)≠0
  ·rw[z6 ⟨k,c2⟩] at hn;cases hn
  have c2':w (qy o.2.2.1)=0:=by omega
  rw[c2',show ((0:Int) != 0)=false by decide,z20]
  intro p hp
  unfold chgL
  cases hcc:qi (w o.2.1) != qi o.2.2.1
  ·rw[hcc,z20] at hp
   rw[z20]
   simp only[z48,z28,List.map_nil,z15,z25,or_false]
   simp only[z15] at hp
   rcases hp with h | h | h | h
   ·exact .inl h
   ·exact .inr (.inr (.inr (.inr (.inl h))))
   ·exact .inr (.inr (.inl h))
   ·rcases qbfr w _ _ p h with h | h
    ·exact .inr (.inl h)
    ·simp only[z28,List.map_nil,z15,z25,or_false] at h
     rcases h with h | h
     ·exact .inr (.inr (.inr (.inl h)))
     ·exact .inr (.inr (.inr (.inr (.inr h))))
  ·rw[hcc,z21] at hp
   rw[z21]
   simp only[z40,z46,z28,List.map_nil,z15,z25,or_false]
   simp only[z15] at hp
   rcases hp with h | h | h | h | h | h
   ·exact .inl h
   ·exact .inr (.inr (.inr (.inr (.inl h))))
   ·exact .inr (.inr (.inl h))
   ·exact .inr (.inr (.inr (.inr (.inr (.inr (.inl h))))))
   ·exact .inr (.inr (.inr (.inr (.inr (.inr (.inr h))))))
   ·rcases qbfr w _ _ p h with h | h
    ·exact .inr (.inl h)
    ·simp only[z28,List.map_nil,z15,z25,or_false] at h
     rcases h with h | h
     ·exact .inr (.inr (.inr (.inl h)))
     ·exact .inr (.inr (.inr (.inr (.inr (.inl h)))))
 ·rw[z5 (by omega),z5 (by omega),z6 k] at hk ⊢
  rw[z5 (by omega),z5 (by omega)] at hn
  by_cases c1:w o.2.1=0
  ·rw[z6 ⟨.inr (.inl k),c1⟩] at hn;cases hn
  have hpath:path w (qkh o)=qr o.2.1::qy (w o.2.1)::qbw (qi (w o.2.1))::path w (qjl o.2.1 [w o.2.1]):=by
   unfold qkh
   simp only[path]
   rw[hrow,z10 c1]
   simp only[z20,path]
  rw[hpath]
  have hV:o.2.2.1=0:=by omega
  have hz:qi 0 = -1:=by decide
  have hck:=qkm (w o.2.1)
  have hcc:(qi (w o.2.1) != qi o.2.2.1)=true:=by rw[hV,hz,bned,z10 (by omega)];rfl
  intro p hp
  unfold chgL
  rw[hcc,z21]
  simp only[z40,z46,z28,List.map_nil,z15,z25,or_false]
  simp only[z15] at hp
  rcases hp with h | h | h | h
  ·exact .inl h
  ·exact .inr (.inr (.inl h))
  ·exact .inr (.inr (.inr (.inr (.inr (.inr (.inl h))))))
  ·rcases qbfr w _ _ p h with h | h
   ·exact .inr (.inl h)
   ·simp only[z28,List.map_nil,z15,z25,or_false] at h
    exact .inr (.inr (.inr (.inl h)))
theorem qbpe {l:List qbe} (h:Asc l):(l.map (·.1)).Nodup:=by
 rw[List.Nodup,List.pairwise_map]
 exact h.imp fun {a b} hab=>by omega
theorem qbw3 {o:Op3} (ho:opOk o=true) {got:Got} {w:Int→Int} (hw:∀ k,0≤k∧k≤3→0≤w k∧w k≤6) (hk:q43 got w (path w (prog o))) (hrun:run got (prog o)=(path w (prog o),-1)) (hn:qgp o got=none) :
  (∀ p∈path w (prog o),∃ e∈entP o got,e.1=p∧e.2.1=w p)∧(entP o got).length=(path w (prog o)).length:=by
 have hpk:=q5e ho w hw
 have hvp:∀ p∈path w (prog o),val got p=w p:=fun p hp=>by unfold val;rw[hk p,z6 hp]
 have hhit:∀ p,0≤p→(hit got p=true↔p∈path w (prog o)):=fun p hp=>by rw[q8e hk hp,z45]
 by_cases h123:o.1=1∨o.1=2∨o.1=3
 ·obtain ⟨hv,hsub⟩:=qbt2 ho hw hk hn h123
  have hne:=qba4 ho hn h123
  have hE:entP o got=(ents got (chgL o.2.1 o.2.2.1 (w o.2.1) (val got 13))).foldl insS []:=by
   unfold entP;rw[z6 h123,hv]
  rw[hv] at hne
  obtain ⟨_,r2,r3,r4⟩:=q6t (got:=got) (K:=o.2.1) (V:=o.2.2.1) (held:=w o.2.1) (st:=val got 13) hne
  rw[hE]
  have hA:∀ p∈path w (prog o),∃ e∈(ents got (chgL o.2.1 o.2.2.1 (w o.2.1) (val got 13))).foldl insS [],e.1=p∧e.2.1=w p:=by
   intro p hp
   obtain ⟨q,hq,rfl⟩:=z37.1 (hsub p hp)
   have hh:=(hhit q.1 (hpk.rng q.1 hp).1).2 hp
   exact ⟨_,(r3 _).2 ((qyo got _ _).2 ⟨q,hq,hh,rfl⟩),rfl,hvp q.1 hp⟩
  refine ⟨hA,?_⟩
  have hperm:(((ents got (chgL o.2.1 o.2.2.1 (w o.2.1) (val got 13))).foldl insS []).map (·.1)).Perm (path w (prog o)):=by
   rw[List.perm_ext_iff_of_nodup (qbpe r2) hpk.once]
   intro p
   constructor
   ·intro hp
    obtain ⟨e,he,rfl⟩:=z37.1 hp
    obtain ⟨q,_,hh,rfl⟩:=(qyo got _ _).1 ((r3 _).1 he)
    exact (hhit q.1 (qbfj hh)).1 hh
   ·intro hp
    obtain ⟨e,he,h1,_⟩:=hA p hp
    exact z37.2 ⟨e,he,h1⟩
  have:=hperm.length_eq
  rw[z49] at this
  exact this
 ·have hneg:(run got (prog o)).2<0:=by rw[hrun];show (-1:Int)<0;omega
  obtain ⟨_,pl⟩:=qbe1 ho hn hneg h123
  have hr1:(run got (prog o)).1=path w (prog o):=by rw[hrun]
  rw[hr1] at pl
  have hmem:∀ L:List Int,(path w (prog o)).foldl (bub ikey) []=L→(∀ p∈path w (prog o),p∈L)∧L.length=(path w (prog o)).length:=by
   intro L hL
   refine ⟨fun p hp=>?_,?_⟩
   ·rw[←hL,qbdk];exact .inr hp
   ·rw[←hL,qbpt];simp
  unfold entP
  rw[z5 h123]
  rcases pl with ⟨k,hp⟩ | ⟨k,hz,hp⟩ | ⟨k,hz,hp⟩ | ⟨k,hp⟩
  ·obtain ⟨m1,m2⟩:=hmem _ hp
   rw[z6 k]
   refine ⟨fun p hpp=>?_,by rw[←m2];rfl⟩
   have h2:=m1 p hpp
   have hv:=hvp p hpp
   simp only[z15,z25,or_false] at h2
   rcases h2 with rfl | rfl | rfl | rfl
   ·exact ⟨same got 0,by simp,rfl,hv⟩
   ·exact ⟨same got 1,by simp,rfl,hv⟩
   ·exact ⟨same got 2,by simp,rfl,hv⟩
   ·exact ⟨same got 3,by simp,rfl,hv⟩
  ·obtain ⟨m1,m2⟩:=hmem _ hp
   rw[z5 (by omega),z6 k]
   refine ⟨fun p hpp=>?_,by rw[←m2];rfl⟩
   have h2:=m1 p hpp
   have hv:=hvp p hpp
   simp only[z15,z25,or_false] at h2
   subst h2
   exact ⟨_,z23.2 rfl,rfl,hv⟩
  ·obtain ⟨m1,m2⟩:=hmem _ hp
   rw[z5 (by omega),z5 (by omega),z6 k]
   generalize qr (wrap .i64 (val got 13 - 1))=q at *
   refine ⟨fun p hpp=>?_,by rw[←m2];cases inR (val got q) 1 6<;>rfl⟩
   have h2:=m1 p hpp
   have hv:=hvp p hpp
   simp only[z15] at h2
   rcases h2 with rfl | rfl | h2
   ·exact ⟨same got p,z14,rfl,hv⟩
   ·exact ⟨_,z16 _ z14,rfl,hv⟩
   ·cases hin:inR (val got q) 1 6
    ·rw[hin] at h2;simp at h2
    ·rw[hin,z21,z23] at h2
     subst h2
     exact ⟨_,z16 _ (z16 _ (by rw[z21];exact z23.2 rfl)),rfl,hv⟩
  ·obtain ⟨m1,m2⟩:=hmem _ hp
   rw[z5 (by omega),z5 (by omega),z5 (by omega),z6 k]
   refine ⟨fun p hpp=>?_,by rw[←m2];rfl⟩
   have h2:=m1 p hpp
   have hv:=hvp p hpp
   simp only[z15,z25,or_false] at h2
   rcases h2 with rfl | rfl
   ·exact ⟨same got 13,by simp,rfl,hv⟩
   ·exact ⟨same got (qbt o.2.2.1),by simp,rfl,hv⟩
end Go.G

namespace Go.G
set_option maxRecDepth 100000
open Go Go.V Go.Proofs
def wOf (r:qm) (p:Int):Int:=qds r p.toNat
theorem qkd {r:qm} (hr:RightR r) {k:Int} (hk:0≤k∧k≤3):wOf r k=r.1.getD k.toNat 0∧0≤wOf r k∧wOf r k≤6:=by
 have hl:=hr.len
 have e:wOf r k=r.1.getD k.toNat 0:=by unfold wOf qds;rw[z6 (by omega)]
 refine ⟨e,?_⟩
 rw[e,qv (by omega)]
 exact hr.rng _ (z24 _)
def qbn (r:qm) (o:Op3):Got:=(path (wOf r) (prog o)).map fun p=>(p,wOf r p,())
theorem q8y (r:qm) (o:Op3):q43 (qbn r o) (wOf r) (path (wOf r) (prog o)):=qb0a _ _
theorem qbd7 {r:qm} (hr:RightR r) {o:Op3} (ho:opOk o=true):run (qbn r o) (prog o)=(path (wOf r) (prog o),-1):=by
 have hpk:=q5e ho (wOf r) (fun k hk=>(qkd hr hk).2)
 exact qbii (q8y r o) (path (wOf r) (prog o)) [] (prog o) (by rw[z48]) (fun a ha=>ha) (fun a ha=>(hpk.rng a (by simpa using ha)).1) (fun b B' h=>by cases h)
section
variable {X:Ext} (hX:XOk X) {n:Nat}
include hX
end
end Go.G

namespace Go.G
set_option maxRecDepth 100000
open Go Go.V Go.Proofs
inductive Out (r:qm) (o:Op3):Int→List Int→Prop
 | put1:o.1=1→r.1.getD o.2.1.toNat 0≠0→Out r o 1 []
 | put2:o.1=1→0≤keyF o.2.2.1 r.1 0→Out r o 2 []
 | put0:o.1=1→r.1.getD o.2.1.toNat 0=0→keyF o.2.2.1 r.1 0<0→Out r o 0 []
 | set3:o.1=2→r.1.getD o.2.1.toNat 0=0→Out r o 3 []
 | setS:o.1=2→r.1.getD o.2.1.toNat 0≠0→r.1.getD o.2.1.toNat 0=o.2.2.1→Out r o 0 []
 | set2:o.1=2→0≤keyF o.2.2.1 r.1 0→Out r o 2 []
 | set0:o.1=2→r.1.getD o.2.1.toNat 0≠0→r.1.getD o.2.1.toNat 0≠o.2.2.1→keyF o.2.2.1 r.1 0<0→Out r o 0 []
 | del3:o.1=3→r.1.getD o.2.1.toNat 0=0→Out r o 3 []
 | del0:o.1=3→r.1.getD o.2.1.toNat 0≠0→Out r o 0 []
 | get3:o.1=4→r.1.getD o.2.1.toNat 0=0→Out r o 3 []
 | get0:o.1=4→r.1.getD o.2.1.toNat 0≠0→Out r o 0 [r.1.getD o.2.1.toNat 0]
 | find3:o.1=5→keyF o.2.2.1 r.1 0<0→Out r o 3 []
 | find0:o.1=5→0≤keyF o.2.2.1 r.1 0→Out r o 0 [keyF o.2.2.1 r.1 0]
 | cnt0:o.1=6→Out r o 0 [many o.2.1 r.1]
 | scan0:o.1=7→Out r o 0 r.1
 | open4:o.1=8→r.2.1≠0→Out r o 4 []
 | open0:o.1=8→r.2.1=0→Out r o 0 []
 | make4:o.1=9→r.2.1=0∨r.2.1=5→Out r o 4 []
 | make0:o.1=9→1≤r.2.1∧r.2.1≤4→Out r o 0 []
 | via4:o.1=10→r.2.1≠5→Out r o 4 []
 | via3:o.1=10→r.2.1=5→keyF o.2.2.1 r.1 0<0→Out r o 3 []
 | via0:o.1=10→r.2.1=5→0≤keyF o.2.2.1 r.1 0→Out r o 0 [keyF o.2.2.1 r.1 0]
theorem qq3 {r:qm} (hr:RightR r) {v:Int} (hv:1≤v∧v≤6):wOf r (qy v)=keyF v r.1 0+1:=by
 have ho:=qih v
 have hl:=hr.len
 have hk:=qm7 v r.1 0
 have e:qy v=3+v:=by omega
 unfold wOf qds
 rw[e,z5 (by omega),z6 (by omega)]
 unfold ownW
 rw[show (((3+v).toNat:Nat):Int) - 3=v by omega]
 by_cases h:0≤keyF v r.1 0∧keyF v r.1 0<4
 ·rw[z6 h]
 ·rw[z5 h];omega
theorem qnk (r:qm):wOf r 13=r.2.1:=rfl
theorem qbpi {r:qm} {c:Int} (hc:0≤c∧c≤2):wOf r (qbw c)=many c r.1:=by
 have ho:=qie c
 have e:qbw c=10+c:=by omega
 unfold wOf qds
 rw[e,z5 (by omega),z5 (by omega),z6 (by omega),show (((10+c).toNat:Nat):Int) - 10=c by omega]
theorem qb3b {r:qm} {v:Int} (hv:1≤v∧v≤6):wOf r (qbt v)=viaW v r.1 4 r.2.1:=by
 have ho:=qgy v
 have e:qbt v=13+v:=by omega
 unfold wOf qds
 rw[e,z5 (by omega),z5 (by omega),z5 (by omega),z5 (by omega),show (((13+v).toNat:Nat):Int) - 13=v by omega]
theorem qb5g {l:List Int} (h:l.length=4):l=[l.getD 0 0,l.getD 1 0,l.getD 2 0,l.getD 3 0]:=by
 match l,h with
 | [a,b,c,d],_=>rfl
theorem qbxh {r:qm} (hr:RightR r) {o:Op3} (ho:opOk o=true):Out r o (qcj o (qbn r o)).1.2.1.1 (qcj o (qbn r o)).1.2.1.2.1:=by
 have hkd:=qp2 ho
 have hrun:=qbd7 hr ho
 have hkn:=q8y r o
 have hcond:opOk o=true∧(run (qbn r o) (prog o)).2<0:=⟨ho,by rw[hrun];show (-1:Int)<0;omega⟩
 have hst:=hr.st
 have hl:=hr.len
 have hrd:∀ p,p∈path (wOf r) (prog o)→(qbg (qbn r o) p).1=wOf r p:=fun p hp=>by rw[hkn p,z6 hp]
 have hrow:=qmz o.2.1
 unfold qcj
 rw[z6 hcond]
 by_cases k1:o.1=1
 ·have hK:qr o.2.1=o.2.1:=by omega
  have hw:=qkd hr (k:=o.2.1) (by omega)
  have hp:prog o=qif o:=by unfold prog;rw[z6 k1]
  have m1:qr o.2.1∈path (wOf r) (prog o):=by rw[hp];unfold qif;simp only[path];exact z14
  have r1:=hrd _ m1
  rw[hK,hw.1] at r1
  unfold qgp
  rw[hK,r1]
  unfold nowP
  by_cases c1:r.1.getD o.2.1.toNat 0≠0
  ·rw[z6 ⟨k1,c1⟩];exact .put1 k1 c1
  have c1':r.1.getD o.2.1.toNat 0=0:=by omega
  rw[z5 (fun q=>c1 q.2)]
  have m2:qy o.2.2.1∈path (wOf r) (prog o):=by
   rw[hp];unfold qif;simp only[path]
   rw[hK,hw.1,c1']
   simp only[bned,decide_true,z13,z20,path]
   simp
  rw[hrd _ m2,qq3 hr (by omega)]
  by_cases c2:keyF o.2.2.1 r.1 0+1≠0
  ·rw[z6 ⟨k1,c2⟩];exact .put2 k1 (by have:=qm7 o.2.2.1 r.1 0;omega)
  rw[z5 (fun q=>c2 q.2),z5 (by omega),z5 (by omega),z5 (by omega),z5 (by omega),z5 (by omega),z5 (by omega),z5 (by omega),z5 (by omega),z5 (by omega),z5 (by omega)]
  dsimp only
  unfold resP
  rw[z5 (by omega),z5 (by omega)]
  exact .put0 k1 c1' (by omega)
 by_cases k2:o.1=2
 ·have hK:qr o.2.1=o.2.1:=by omega
  have hw:=qkd hr (k:=o.2.1) (by omega)
  have hp:prog o=qil o:=by unfold prog;rw[z5 k1,z6 k2]
  have m1:qr o.2.1∈path (wOf r) (prog o):=by rw[hp];unfold qil;simp only[path];exact z14
  have r1:=hrd _ m1
  rw[hK,hw.1] at r1
  unfold qgp
  rw[hK,r1]
  unfold nowP
  rw[z5 (by omega),z5 (by omega)]
  by_cases c1:r.1.getD o.2.1.toNat 0=0
  ·rw[z6 ⟨.inl k2,c1⟩];exact .set3 k2 c1
  rw[z5 (fun q=>c1 q.2)]
  by_cases c3:r.1.getD o.2.1.toNat 0=o.2.2.1
  ·rw[z6 ⟨k2,c3⟩];exact .setS k2 c1 c3
  rw[z5 (fun q=>c3 q.2)]
  have m2:qy o.2.2.1∈path (wOf r) (prog o):=by
   rw[hp];unfold qil;simp only[path]
   rw[hK,hw.1,z10 c1,z10 c3]
   simp only[z20,path]
   simp
  rw[hrd _ m2,qq3 hr (by omega)]
  by_cases c2:keyF o.2.2.1 r.1 0+1≠0
  ·rw[z6 ⟨k2,c2⟩];exact .set2 k2 (by have:=qm7 o.2.2.1 r.1 0;omega)
  rw[z5 (fun q=>c2 q.2),z5 (by omega),z5 (by omega),z5 (by omega),z5 (by omega),z5 (by omega),z5 (by omega),z5 (by omega)]
  dsimp only
  unfold resP
  rw[z5 (by omega),z5 (by omega)]
  exact .set0 k2 c1 c3 (by omega)
 by_cases k34:o.1=3∨o.1=4
 ·have hK:qr o.2.1=o.2.1:=by omega
  have hw:=qkd hr (k:=o.2.1) (by omega)
  have m1:qr o.2.1∈path (wOf r) (prog o):=by
   unfold prog
   rw[z5 k1,z5 k2]
   rcases k34 with k | k
   ·rw[z6 k];unfold qkh;simp only[path];exact z14
   ·rw[z5 (by omega),z6 k];simp only[path];exact z14
  have r1:=hrd _ m1
  rw[hK,hw.1] at r1
  unfold qgp
  rw[hK,r1]
  unfold nowP
  rw[z5 (by omega),z5 (by omega)]
  by_cases c1:r.1.getD o.2.1.toNat 0=0
  ·rw[z6 ⟨.inr k34,c1⟩]
   rcases k34 with k | k
   ·exact .del3 k c1
   ·exact .get3 k c1
  rw[z5 (fun q=>c1 q.2),z5 (by omega),z5 (by omega)]
  rcases k34 with k | k
  ·rw[z5 (by omega),z5 (by omega),z5 (by omega),z5 (by omega),z5 (by omega),z5 (by omega),z5 (by omega)]
   dsimp only
   unfold resP
   rw[z5 (by omega),z5 (by omega)]
   exact .del0 k c1
  ·rw[z6 k];exact .get0 k c1
 by_cases k5:o.1=5
 ·have m1:qy o.2.2.1∈path (wOf r) (prog o):=by
   unfold prog
   rw[z5 k1,z5 k2,z5 (by omega),z5 (by omega),z6 k5];simp only[path];exact z14
  have hk:=qm7 o.2.2.1 r.1 0
  unfold qgp
  rw[hrd _ m1,qq3 hr (by omega)]
  unfold nowP
  rw[z5 (by omega),z5 (by omega),z5 (by omega),z5 (by omega),z5 (by omega),z5 (by omega)]
  by_cases c:keyF o.2.2.1 r.1 0+1=0
  ·rw[z6 ⟨k5,c⟩];exact .find3 k5 (by omega)
  ·rw[z5 (fun q=>c q.2),z6 k5]
   dsimp only
   rw[show keyF o.2.2.1 r.1 0+1 - 1=keyF o.2.2.1 r.1 0 by omega,qo (by omega) (by omega)]
   exact .find0 k5 (by omega)
 by_cases k6:o.1=6
 ·have m1:qbw o.2.1∈path (wOf r) (prog o):=by
   unfold prog
   rw[z5 k1,z5 k2,z5 (by omega),z5 (by omega),z5 k5,z6 k6];simp only[path];exact z14
  unfold qgp
  rw[hrd _ m1,qbpi (by omega)]
  unfold nowP
  rw[z5 (by omega),z5 (by omega),z5 (by omega),z5 (by omega),z5 (by omega),z5 (by omega),z5 (by omega),z5 k5,z6 k6]
  exact .cnt0 k6
 by_cases k7:o.1=7
 ·have hp:prog o=qn3:=by
   unfold prog
   rw[z5 k1,z5 k2,z5 (by omega),z5 (by omega),z5 k5,z5 k6,z6 k7]
  unfold qgp nowP
  rw[z5 (by omega),z5 (by omega),z5 (by omega),z5 (by omega),z5 (by omega),z5 (by omega),z5 (by omega),z5 k5,z5 k6,z5 (by omega),z5 (by omega),z5 (by omega)]
  dsimp only
  unfold resP
  rw[z6 k7]
  have hv:∀ p:Int,0≤p∧p≤3→val (qbn r o) p=r.1.getD p.toNat 0:=fun p hp2=>by
   unfold val
   rw[hrd p (by rw[hp];unfold qn3;simp only[path,z15,z25,or_false];omega)]
   exact (qkd hr hp2).1
  dsimp only
  rw[hv 0 (by omega),hv 1 (by omega),hv 2 (by omega),hv 3 (by omega)]
  have:=qb5g hl
  have e:[r.1.getD (0:Int).toNat 0,r.1.getD (1:Int).toNat 0,r.1.getD (2:Int).toNat 0,r.1.getD (3:Int).toNat 0]=r.1:=this.symm
  rw[e]
  exact .scan0 k7
 have m13:(13:Int)∈path (wOf r) (prog o):=by
  unfold prog
  rw[z5 k1,z5 k2,z5 (by omega),z5 (by omega),z5 k5,z5 k6,z5 k7]
  by_cases k8:o.1=8
  ·rw[z6 k8];simp only[path];exact z14
  by_cases k9:o.1=9
  ·rw[z5 k8,z6 k9];unfold qkl;simp only[path];exact z14
  ·rw[z5 k8,z5 k9,z6 (by omega)];unfold qk9;simp only[path];exact z14
 unfold qgp
 rw[hrd _ m13,qnk]
 unfold nowP
 rw[z5 (by omega),z5 (by omega),z5 (by omega),z5 (by omega),z5 (by omega),z5 (by omega),z5 (by omega),z5 k5,z5 k6]
 by_cases k8:o.1=8
 ·by_cases c:r.2.1≠0
  ·rw[z6 ⟨k8,c⟩];exact .open4 k8 c
  ·rw[z5 (fun q=>c q.2),z5 (by omega),z5 (by omega)]
   dsimp only
   unfold resP
   rw[z5 (by omega),z5 (by omega)]
   exact .open0 k8 (by omega)
 rw[z5 (by omega)]
 by_cases k9:o.1=9
 ·by_cases c:r.2.1<1∨r.2.1>4
  ·rw[z6 ⟨k9,c⟩];exact .make4 k9 (by omega)
  ·rw[z5 (fun q=>c q.2),z5 (by omega)]
   dsimp only
   unfold resP
   rw[z5 (by omega),z5 (by omega)]
   exact .make0 k9 (by omega)
 rw[z5 (by omega)]
 have k10:o.1=10:=by omega
 by_cases c:r.2.1≠5
 ·rw[z6 ⟨k10,c⟩];exact .via4 k10 c
 rw[z5 (fun q=>c q.2)]
 have c5:r.2.1=5:=by omega
 have mv:qbt o.2.2.1∈path (wOf r) (prog o):=by
  unfold prog
  rw[z5 k1,z5 k2,z5 (by omega),z5 (by omega),z5 k5,z5 k6,z5 k7,z5 k8,z5 k9,z6 k10]
  unfold qk9
  simp only[path]
  rw[qnk,c5]
  simp only[show ((5:Int) != 5)=false by decide,z20,path]
  simp
 have hk:=qm7 o.2.2.1 r.1 0
 have hvv:val (qbn r o) (qbt o.2.2.1)=keyF o.2.2.1 r.1 0+1:=by
  unfold val
  rw[hrd _ mv,qb3b (by omega)]
  unfold viaW
  by_cases q:0≤keyF o.2.2.1 r.1 0∧keyF o.2.2.1 r.1 0<4∧keyF o.2.2.1 r.1 0<r.2.1 - 1
  ·rw[z6 q]
  ·rw[z5 q];omega
 dsimp only
 unfold resP
 rw[z5 k7,z6 k10,hvv]
 by_cases q:keyF o.2.2.1 r.1 0+1=0
 ·rw[z6 q];exact .via3 k10 c5 (by omega)
 ·rw[z5 q]
  dsimp only
  rw[show keyF o.2.2.1 r.1 0+1 - 1=keyF o.2.2.1 r.1 0 by omega,qo (by omega) (by omega)]
  exact .via0 k10 c5 (by omega)
end Go.G

namespace Go.G
set_option maxRecDepth 100000
open Go Go.V Go.Proofs
theorem q8p (v:Int):∀ (l:List Int) (i:Nat),v∉l→keyF v l i = -1
 | [],i,_=>rfl
 | x::l,i,h=>by
  simp only[keyF]
  rw[z5 (fun e=>h (by rw[e];exact z14)),q8p v l (i+1) (fun m=>h (z16 _ m))]
section
variable {X:Ext} (hX:XOk X) {n:Nat}
include hX
theorem qbxi (D:Den ctx) (n:Nat) (K0:Int→Option ((Int×Unit)×Unit)) (K1:Option ((Int×Unit)×Unit)) (hK:K0 (-1)=K1) (l:List Int) (hl:l.length≤1000) (v:Int):∀ (m i:Nat),i≤l.length→l.length - i<m→
  qfx D n K0 K1 m l v (l.length:Int) (i:Int)=K0 (keyF v (l.drop i) i)
 | 0,_,_,h=>by omega
 | m+1,i,hi,hf=>by
  simp only[qfx,qk2]
  by_cases h:i<l.length
  ·rw[qg (by omega),ix h,br_t,z12,qv h,qgz h]
   simp only[keyF]
   by_cases e:l[i]=v
   ·rw[qg e.symm,z6 e]
   ·rw[qh (fun k=>e k.symm),z5 e,qs (by omega)]
    exact qbxi D n K0 K1 hK l hl v m (i+1) (by omega) (by omega)
  ·rw[qh (by omega),qii h]
   exact hK.symm
theorem qbwv (hn:W+1≤n) (l:List Int) (hl:l.length≤1000) (v:Int):qiv (DD X n) l v=some ((keyF v l 0,()),()):=by
 obtain ⟨n,rfl⟩:∃ k,n=k+1:=⟨n - 1,by omega⟩
 have hW:=qbf
 rw[q9c hX]
 simp only[ql0,ql3,qkq]
 have e:=qbxi hX (DD X n) n (fun v0_0=>qp1 (DD X n) n v0_0) (qp5 (DD X n) n) rfl l hl v n 0 (by omega) (by omega)
 rw[show ((0:Nat):Int)=0 from rfl] at e
 rw[e];rfl
theorem qbvk (hn:W+2≤n) (r:qm) (hr:r.1.length≤1000) (v:Int):qwg (DD X n) r v=some ((keyF v r.1 0,()),()):=by
 obtain ⟨n,rfl⟩:∃ k,n=k+1:=⟨n - 1,by omega⟩
 rw[qbtv hX]
 simp only[q6z,qbex]
 rw[qbwv hX (by omega) r.1 hr,qc]
theorem qbkk (hn:W+2≤n) (l:List Int) (hl:l.length≤1000) (v:Int) (h:v∉l):qg4 (DD X n) l v=some ((false,()),()):=by
 obtain ⟨n,rfl⟩:∃ k,n=k+1:=⟨n - 1,by omega⟩
 rw[q46 hX]
 simp only[qjz,qp4]
 rw[qbwv hX (by omega) l hl,qc,q8p v l 0 h]
 rfl
theorem qbb0 (N n:Nat) (hN:W+3≤N) (K0:Bool→qm→Option ((Bool×Unit)×Unit)) (K1:qm→Option ((Bool×Unit)×Unit)) {r:qm} (hr:RightR r):∀ (m i:Nat),i≤r.1.length→r.1.length - i<m→
  qm3 (DD X N) n K0 K1 m r.1 (r.1.length:Int) (i:Int) r=K1 r
 | 0,_,_,h=>by omega
 | m+1,i,hi,hf=>by
  have hl:=hr.len
  have hW:=qbf
  simp only[qm3,q0i]
  by_cases h:i<r.1.length
  ·rw[qg (by omega),ix h,br_t,z12,qv h]
   by_cases e:r.1[i]=0
   ·rw[bned,z11 e,z13,br_f,qs (by omega)]
    exact qbb0 N n hN K0 K1 hr m (i+1) (by omega) (by omega)
   ·have hv:=hr.rng r.1[i] (z24 h)
    rw[bned,z10 e,Bool.not_false,br_t,qqz hX (by omega),qc]
    dsimp only
    rw[qcb.2 (by omega),z13,br_f]
    rw[show (decide ((0:Nat)≤0)&&decide ((0:Int)≤(i:Int))&&decide ((i:Int)≤(r.1.length:Int)))=true by
     rw[z11 (by omega:(0:Int)≤(i:Int)),z11 (by omega:(i:Int)≤(r.1.length:Int))];rfl]
    rw[br_t,Int.toNat_zero,List.drop_zero]
    have hnot:r.1[i]∉r.1.take i:=fun hm=>by
     obtain ⟨j,hj⟩:=List.mem_iff_getElem?.1 hm
     rw[z39] at hj
     split at hj
     ·exact e (hr.once j i (by assumption) _ hj (z31 h))
     ·simp at hj
    rw[qbkk hX (by omega) _ (by rw[z27];omega) _ hnot,qc]
    dsimp only
    rw[br_f,qs (by omega)]
    exact qbb0 N n hN K0 K1 hr m (i+1) (by omega) (by omega)
  ·rw[qh (by omega)]
theorem q5z (hn:W+4≤n) {r:qm} (hr:RightR r):qor (DD X n) r=some ((true,()),()):=by
 obtain ⟨n,rfl⟩:∃ k,n=k+1:=⟨n - 1,by omega⟩
 have hW:=qbf
 have hl:=hr.len
 rw[qbq9 hX]
 simp only[q2f,q3f,qv8]
 have e:=qbb0 hX n n (by omega) (fun v0_0 v0_1=>q5l (DD X n) n v0_0 v0_1) (fun v1_0=>que (DD X n) n v1_0) hr n 0 (by omega) (by omega)
 rw[show ((0:Nat):Int)=0 from rfl] at e
 rw[e]
 simp only[que]
 rw[qg (by omega),qd9 hX (by omega),qc,qcb.2 hr.st]
theorem q4x (N n:Nat) (hN:4≤N) (K:Int→Option ((Int×Unit)×Unit)) (l:List Int) (hr:l.length≤1000) (c:Int):∀ (m i:Nat) (a:Int),i≤l.length→l.length - i<m→0≤a∧a≤i→
  qlz (DD X N) n K m c a l (l.length:Int) (i:Int)=K (a+many c (l.drop i))
 | 0,_,_,_,h,_=>by omega
 | m+1,i,a,hi,hf,ha=>by
  simp only[qlz,qvw]
  by_cases h:i<l.length
  ·rw[qg (by omega),ix h,br_t,z12,qv h,qqz hX (by omega),qc,qgz h]
   simp only[many]
   cases hv:inR l[i] 1 6
   ·rw[br_f,qs (by omega),q4x N n hN K l hr c m (i+1) _ (by omega) (by omega) (by omega)]
    congr 1
    simp only[Bool.false_and,z20]
    omega
   ·rw[br_t,ql4 hX (by omega),qc]
    dsimp only
    by_cases e:qi l[i]=c
    ·rw[qg e,qo (by omega) (by omega),qs (by omega),q4x N n hN K l hr c m (i+1) _ (by omega) (by omega) (by omega)]
     congr 1
     simp only[e,Bool.true_and,decide_true,z21]
     omega
    ·rw[qh e,qs (by omega),q4x N n hN K l hr c m (i+1) _ (by omega) (by omega) (by omega)]
     congr 1
     simp only[z10 e,Bool.true_and,z20]
     omega
  ·rw[qh (by omega),qii h]
   congr 1;simp[many]
theorem qbcs (hn:W+1≤n) (r:qm) (hr:r.1.length≤1000) (c:Int):qr0 (DD X n) r c=some ((many c r.1,()),()):=by
 obtain ⟨n,rfl⟩:∃ k,n=k+1:=⟨n - 1,by omega⟩
 have hW:=qbf
 rw[qbop hX]
 simp only[q00,qy8,qut]
 have e:=q4x hX n n (by omega) (fun v0_0=>q30 (DD X n) n v0_0) r.1 hr c n 0 0 (by omega) (by omega) (by omega)
 rw[show ((0:Nat):Int)=0 from rfl,List.drop_zero,Int.zero_add] at e
 rw[e];rfl
theorem qb5a (hn:1≤n) (r:qm):qo1 (DD X n) r=some ((decide (r.2.1=5),()),()):=by
 obtain ⟨n,rfl⟩:∃ k,n=k+1:=⟨n - 1,by omega⟩
 rw[qbwa hX];rfl
theorem qbwl (D:Den ctx) (n:Nat) (K0:Bool→Option ((Bool×Unit)×Unit)) (K1:Option ((Bool×Unit)×Unit)) (l:List Int) (hl:l.length≤1000):∀ (m i:Nat),i≤l.length→l.length - i<m→
  qfy D n K0 K1 m l l (l.length:Int) (i:Int)=K1
 | 0,_,_,h=>by omega
 | m+1,i,hi,hf=>by
  simp only[qfy,qk5]
  by_cases h:i<l.length
  ·rw[qg (by omega),ix h,br_t,br_t,bned,z11 rfl,z13,br_f,qs (by omega)]
   exact qbwl D n K0 K1 l hl m (i+1) (by omega) (by omega)
  ·rw[qh (by omega)]
theorem qb3a (hn:W+1≤n) (l:List Int) (hl:l.length≤1000):ql2 (DD X n) l l=some ((true,()),()):=by
 obtain ⟨n,rfl⟩:∃ k,n=k+1:=⟨n - 1,by omega⟩
 have hW:=qbf
 rw[q9l hX]
 simp only[ql5,ql8,qko]
 have e:=qbwl hX (DD X n) n (fun v0_0=>qpu (DD X n) n v0_0) (qpx (DD X n) n) l hl n 0 (by omega) (by omega)
 rw[show ((0:Nat):Int)=0 from rfl] at e
 rw[show ((l.length:Int) != (l.length:Int))=false by simp,br_f,e]
 rfl
theorem qbze (D:Den ctx) (n:Nat) (K0:Bool→Option ((Bool×Unit)×Unit)) (K1:Option ((Bool×Unit)×Unit)) (l:List Int) (hl:l.length≤1000):∀ (m i:Nat),i≤l.length→l.length - i<m→
  qkr D n K0 K1 m l l (i:Int)=K1
 | 0,_,_,h=>by omega
 | m+1,i,hi,hf=>by
  simp only[qkr,qu2]
  by_cases h:i<l.length
  ·rw[qg (by omega),ix h,br_t,br_t,bned,z11 rfl,z13,br_f,qs (by omega)]
   exact qbze D n K0 K1 l hl m (i+1) (by omega) (by omega)
  ·rw[qh (by omega)]
theorem qbj9 (hn:W+1≤n) (l:List Int) (hl:l.length≤1000):qpw (DD X n) l l=some ((true,()),()):=by
 obtain ⟨n,rfl⟩:∃ k,n=k+1:=⟨n - 1,by omega⟩
 have hW:=qbf
 rw[qbk7 hX]
 simp only[qv0,qxk,qs0]
 have e:=qbze hX (DD X n) n (fun v0_0=>q1q (DD X n) n v0_0) (q13 (DD X n) n) l hl n 0 (by omega) (by omega)
 rw[show ((0:Nat):Int)=0 from rfl] at e
 rw[show ((l.length:Int) != (l.length:Int))=false by simp,br_f,e]
 rfl
theorem q4y (hn:2≤n) {r:qm} (hr:RightR r):qji (DD X n) r=some ((r,()),()):=by
 obtain ⟨n,rfl⟩:∃ k,n=k+2:=⟨n - 2,by omega⟩
 have hl:=hr.len
 have hb:=qbi
 rw[qbkd hX]
 simp only[qxl,q8d]
 rw[qty hX]
 simp only[qiq,ql1]
 rw[qh (by rw[z12];omega),qg (by omega),qc]
 rfl
end
end Go.G

namespace Go.G
set_option maxRecDepth 100000
open Go Go.V Go.Proofs
def qch (r:qm) (o:Op3) (code:Int):qm:=
 if code≠0 then r else if o.1=1∨o.1=2 then (r.1.set o.2.1.toNat o.2.2.1,r.2) else if o.1=3 then (r.1.set o.2.1.toNat 0,r.2) else
 if o.1=8∨o.1=9 then (r.1,wrap .i64 (r.2.1+1),()) else r
section
variable {X:Ext} (hX:XOk X) {n:Nat}
include hX
theorem qbpd (hn:W+6≤n) {r:qm} (hr:RightR r) {o:Op3} (ho:opOk o=true) {code:Int} {list:List Int} (h:Out r o code list):qru (DD X n) r o (code,list,())=some ((true,()),()):=by
 obtain ⟨n,rfl⟩:∃ k,n=k+2:=⟨n - 2,by omega⟩
 have hW:=qbf
 have hl:=hr.len
 have hkd:=qp2 ho
 have hkey:=fun v=>qbvk hX (n:=n) (by omega) r (by omega) v
 have hmade:=qb5a hX (n:=n) (by omega) r
 have hmany:=fun c=>qbcs hX (n:=n) (by omega) r (by omega) c
 have heq:=fun l hl=>qb3a hX (n:=n+1) (by omega) l hl
 obtain ⟨k,K,V,⟨⟩⟩:=o
 dsimp only at hkd
 rw[qboe hX]
 simp only[q0p,q9r]
 rw[q5z hX (by omega) hr,qc]
 dsimp only
 rw[z13,br_f,qxi hX (by omega),ho,qc]
 dsimp only
 rw[z13,br_f]
 have hix:k=1∨k=2∨k=3∨k=4→(decide (0≤K)&&decide (K<(r.1.length:Int)))=true:=fun q=>ixn (by omega) (by omega)
 have hkk:=qm7 V r.1 0
 have hkV:r.1.getD K.toNat 0=V→(0≤K∧K≤3)→V≠0→keyF V r.1 0=K:=fun e hK hV=>by
  have hget:r.1[K.toNat]? = some V:=by rw[←e,z31 (by omega),qv (by omega)]
  rw[q03 V r.1 0 K.toNat hget (fun j hj hc=>hV (hr.once j K.toNat hj V hc hget))]
  omega
 cases h with
 | put1 hk h1=>
  dsimp only at hk h1
  subst hk
  have hI:=hix (by omega)
  rw[show ((1:Int) != 0)=true by decide,br_t,qg (by simp),qdk hX]
  simp only[qc3,qc8]
  rw[hkey V,qc]
  generalize r.1.getD K.toNat 0=x at *
  simp only[hmade]
  simp[br,bned,qd,hI,h1]
 | put2 hk h2=>
  dsimp only at hk h2
  subst hk
  have hI:=hix (by omega)
  rw[show ((2:Int) != 0)=true by decide,br_t,qg (by simp),qdk hX]
  simp only[qc3,qc8]
  rw[hkey V,qc]
  generalize r.1.getD K.toNat 0=x at *
  simp only[hmade]
  simp[br,bned,qd,hI,h2]
 | put0 hk h1 h2=>
  dsimp only at hk h1 h2
  subst hk
  have hI:=hix (by omega)
  rw[show ((0:Int) != 0)=false by decide,br_f,qdl hX]
  simp only[qc4,qc9]
  rw[hkey V,qc]
  generalize r.1.getD K.toNat 0=x at *
  simp only[hmade,hmany]
  have hq:=heq ([]:List Int) (by simp)
  simp[br,bned,qd,hq,hI,h1,h2]
 | set3 hk h1=>
  dsimp only at hk h1
  subst hk
  have hI:=hix (by omega)
  rw[show ((3:Int) != 0)=true by decide,br_t,qg (by simp),qdk hX]
  simp only[qc3,qc8]
  rw[hkey V,qc]
  generalize r.1.getD K.toNat 0=x at *
  simp only[hmade]
  simp[br,bned,qd,hI,h1]
 | setS hk h1 h2=>
  dsimp only at hk h1 h2
  subst hk
  have hI:=hix (by omega)
  have hkv:=hkV h2 (by omega) (by omega)
  rw[show ((0:Int) != 0)=false by decide,br_f,qdl hX]
  simp only[qc4,qc9]
  rw[hkey V,qc]
  generalize r.1.getD K.toNat 0=x at *
  simp only[hmade,hmany]
  have hq:=heq ([]:List Int) (by simp)
  simp[br,bned,qd,hq,hI,h1,h2,hkv,(show ¬ V=0 from fun e=>h1 (h2.trans e))]
 | set2 hk h3=>
  dsimp only at hk h3
  subst hk
  have hI:=hix (by omega)
  rw[show ((2:Int) != 0)=true by decide,br_t,qg (by simp),qdk hX]
  simp only[qc3,qc8]
  rw[hkey V,qc]
  generalize r.1.getD K.toNat 0=x at *
  simp only[hmade]
  simp[br,bned,qd,hI,h3]
 | set0 hk h1 h2 h3=>
  dsimp only at hk h1 h2 h3
  subst hk
  have hI:=hix (by omega)
  rw[show ((0:Int) != 0)=false by decide,br_f,qdl hX]
  simp only[qc4,qc9]
  rw[hkey V,qc]
  generalize r.1.getD K.toNat 0=x at *
  simp only[hmade,hmany]
  have hq:=heq ([]:List Int) (by simp)
  simp[br,bned,qd,hq,hI,h1,h2,h3]
 | del3 hk h1=>
  dsimp only at hk h1
  subst hk
  have hI:=hix (by omega)
  rw[show ((3:Int) != 0)=true by decide,br_t,qg (by simp),qdk hX]
  simp only[qc3,qc8]
  rw[hkey V,qc]
  generalize r.1.getD K.toNat 0=x at *
  simp only[hmade]
  simp[br,bned,qd,hI,h1]
 | del0 hk h1=>
  dsimp only at hk h1
  subst hk
  have hI:=hix (by omega)
  rw[show ((0:Int) != 0)=false by decide,br_f,qdl hX]
  simp only[qc4,qc9]
  rw[hkey V,qc]
  generalize r.1.getD K.toNat 0=x at *
  simp only[hmade,hmany]
  have hq:=heq ([]:List Int) (by simp)
  simp[br,bned,qd,hq,hI,h1]
 | get3 hk h1=>
  dsimp only at hk h1
  subst hk
  have hI:=hix (by omega)
  rw[show ((3:Int) != 0)=true by decide,br_t,qg (by simp),qdk hX]
  simp only[qc3,qc8]
  rw[hkey V,qc]
  generalize r.1.getD K.toNat 0=x at *
  simp only[hmade]
  simp[br,bned,qd,hI,h1]
 | get0 hk h1=>
  dsimp only at hk h1
  subst hk
  have hI:=hix (by omega)
  rw[show ((0:Int) != 0)=false by decide,br_f,qdl hX]
  simp only[qc4,qc9]
  rw[hkey V,qc]
  generalize r.1.getD K.toNat 0=x at *
  simp only[hmade,hmany]
  have hq:=heq [x] (by simp)
  simp[br,bned,qd,hq,hI,h1]
 | find3 hk h1=>
  dsimp only at hk h1
  subst hk
  rw[show ((3:Int) != 0)=true by decide,br_t,qg (by simp),qdk hX]
  simp only[qc3,qc8]
  rw[hkey V,qc]
  simp only[hmade]
  simp[br,bned,qd,h1]
 | find0 hk h1=>
  dsimp only at hk h1
  subst hk
  rw[show ((0:Int) != 0)=false by decide,br_f,qdl hX]
  simp only[qc4,qc9]
  rw[hkey V,qc]
  simp only[hmade,hmany]
  have hq:=heq [keyF V r.1 0] (by simp)
  simp[br,bned,qd,hq,h1]
 | cnt0 hk=>
  dsimp only at hk
  subst hk
  rw[show ((0:Int) != 0)=false by decide,br_f,qdl hX]
  simp only[qc4,qc9]
  rw[hkey V,qc]
  simp only[hmade,hmany]
  have hq:=heq [many K r.1] (by simp)
  simp[br,bned,qd,hq]
 | scan0 hk=>
  dsimp only at hk
  subst hk
  rw[show ((0:Int) != 0)=false by decide,br_f,qdl hX]
  simp only[qc4,qc9]
  rw[hkey V,qc]
  simp only[hmade,hmany]
  have hq:=heq r.1 (by omega)
  simp[br,bned,qd,hq]
 | open4 hk h1=>
  dsimp only at hk h1
  subst hk
  rw[show ((4:Int) != 0)=true by decide,br_t,qg (by simp),qdk hX]
  simp only[qc3,qc8]
  rw[hkey V,qc]
  simp only[hmade]
  simp[br,bned,qd,h1]
 | open0 hk h1=>
  dsimp only at hk h1
  subst hk
  rw[show ((0:Int) != 0)=false by decide,br_f,qdl hX]
  simp only[qc4,qc9]
  rw[hkey V,qc]
  simp only[hmade,hmany]
  have hq:=heq ([]:List Int) (by simp)
  simp[br,bned,qd,hq,h1]
 | make4 hk h1=>
  dsimp only at hk h1
  subst hk
  rw[show ((4:Int) != 0)=true by decide,br_t,qg (by simp),qdk hX]
  simp only[qc3,qc8]
  rw[hkey V,qc]
  simp only[hmade]
  rcases h1 with h1 | h1<;>simp[br,bned,qd,h1]
 | make0 hk h1=>
  dsimp only at hk h1
  subst hk
  rw[show ((0:Int) != 0)=false by decide,br_f,qdl hX]
  simp only[qc4,qc9]
  rw[hkey V,qc]
  simp only[hmade,hmany]
  have hq:=heq ([]:List Int) (by simp)
  simp[br,bned,qd,hq,show ¬ r.2.1=0 by omega,show ¬ r.2.1=5 by omega]
 | via4 hk h1=>
  dsimp only at hk h1
  subst hk
  rw[show ((4:Int) != 0)=true by decide,br_t,qg (by simp),qdk hX]
  simp only[qc3,qc8]
  rw[hkey V,qc]
  simp only[hmade]
  simp[br,bned,qd,h1]
 | via3 hk h1 h2=>
  dsimp only at hk h1 h2
  subst hk
  rw[show ((3:Int) != 0)=true by decide,br_t,qg (by simp),qdk hX]
  simp only[qc3,qc8]
  rw[hkey V,qc]
  simp only[hmade]
  simp[br,bned,qd,h1,h2]
 | via0 hk h1 h2=>
  dsimp only at hk h1 h2
  subst hk
  rw[show ((0:Int) != 0)=false by decide,br_f,qdl hX]
  simp only[qc4,qc9]
  rw[hkey V,qc]
  simp only[hmade,hmany]
  have hq:=heq [keyF V r.1 0] (by simp)
  simp[br,bned,qd,hq,h1,h2]
theorem qbw4 (hn:W+7≤n) {r:qm} (hr:RightR r) {o:Op3} (ho:opOk o=true) {code:Int} {list:List Int} (h:Out r o code list):qkn (DD X n) r o (code,list,())=some ((qch r o code,()),()):=by
 obtain ⟨n,rfl⟩:∃ k,n=k+1:=⟨n - 1,by omega⟩
 have hW:=qbf
 have hl:=hr.len
 have hkd:=qp2 ho
 have hal:=qbpd hX (n:=n) (by omega) hr ho h
 have hcp:=q4y hX (n:=n) (by omega) hr
 obtain ⟨k,K,V,⟨⟩⟩:=o
 dsimp only at hkd
 rw[qbr2 hX]
 simp only[q6e,qbef]
 rw[hcp,qc,hal,qc]
 dsimp only
 rw[z13,z20]
 unfold qch
 by_cases hc:code=0
 ·subst hc
  rw[show ((0:Int) != 0)=false by decide,br_f,z5 (by omega)]
  dsimp only
  by_cases k1:k=1
  ·rw[qg k1,qg k1,ixn (by omega) (by omega),br_t,z6 (.inl k1)]
  rw[qh k1]
  by_cases k2:k=2
  ·rw[qg k2,ixn (by omega) (by omega),br_t,z6 (.inr k2)]
  rw[qh k2,z5 (by omega)]
  by_cases k3:k=3
  ·rw[qg k3,ixn (by omega) (by omega),br_t,z6 k3]
  rw[qh k3,z5 k3]
  by_cases k8:k=8
  ·rw[qg k8,qg k8,z6 (.inl k8)]
  rw[qh k8]
  by_cases k9:k=9
  ·rw[qg k9,z6 (.inr k9)]
  rw[qh k9,z5 (by omega)]
 ·rw[show (code != 0)=true by rw[bned,z10 hc];rfl,br_t,z6 hc]
end
end Go.G

namespace Go.G
set_option maxRecDepth 100000
open Go Go.V Go.Proofs
def cls (c v:Int):Int:=bif inR v 1 6&&decide (qi v=c) then 1 else 0
theorem qbuw (c:Int):∀ (l k:List Int),many c (l++k)=many c l+many c k
 | [],k=>by simp[many]
 | x::l,k=>by
  rw[z40]
  simp only[many]
  rw[qbuw c l k];omega
theorem qbzc (c:Int) (l:List Int) {i:Nat} (h:i<l.length):many c (l.take (i+1))=many c (l.take i)+cls c l[i]:=by
 rw[z32 h,qbuw]
 simp only[many,cls];omega
def q8q (r:qm) (i p:Nat):Int:=if p<4 then r.1.getD p 0 else if 10≤p∧p<13 then many ((p:Int) - 10) (r.1.take i) else qt1 r i p
section
variable {X:Ext} (hX:XOk X) {n:Nat}
include hX
theorem qbb9 (N n:Nat) (hN:W+4≤N) (K:qm→List Int→Option ((List Int×Unit)×Unit)) {r:qm} (hr:RightR r):∀ (m i:Nat) (ws:List Int),i≤4→4 - i<m→ws.length=20→(∀ p<20,ws.getD p 0=q8q r i p)→
  ∃ ws',ws'.length=20∧(∀ p<20,ws'.getD p 0=q8q r 4 p)∧qlm (DD X N) n K m r.1 (r.1.length:Int) (i:Int) r ws=K r ws'
 | 0,_,_,_,h,_,_=>by omega
 | m+1,i,ws,hi,hf,hlw,hw=>by
  have hl:=hr.len
  have hst:=hr.st
  have hW:=qbf
  simp only[qlm,qxe]
  by_cases h:i<4
  ·have hi2:i<r.1.length:=by omega
   have hv:=hr.rng r.1[i] (z24 hi2)
   have hps:=qbpl hX hr h hi2
   have hmt:=fun c=>qbzc c r.1 hi2
   rw[qg (by omega),ix hi2,br_t,z12,qv hi2]
   by_cases h0:r.1[i]=0
   ·rw[qg h0,qs (by omega)]
    refine qbb9 N n hN K hr m (i+1) ws (by omega) (by omega) hlw (fun p hp=>?_)
    rw[hw p hp]
    unfold q8q
    by_cases a1:p<4
    ·rw[z6 a1,z6 a1]
    rw[z5 a1,z5 a1]
    by_cases a2:10≤p∧p<13
    ·rw[z6 a2,z6 a2,hmt,h0]
     have:cls ((p:Int) - 10) 0=0:=rfl
     rw[this];omega
    rw[z5 a2,z5 a2,hps p hp,z5 a1]
    rw[z5 (show ¬ (r.1[i]≠0∧(p:Int)=3+r.1[i]) from fun k=>k.1 h0),z5 (show ¬ (r.1[i]≠0∧(p:Int)=13+r.1[i]∧(i:Int)<r.2.1 - 1) from fun k=>k.1 h0)]
   ·have ho:=qih r.1[i]
    have hvi:=qgy r.1[i]
    have hcl:=qkm r.1[i]
    have hc:=qie (qi r.1[i])
    have ho2:qy r.1[i]=3+r.1[i]:=by omega
    have hvi2:qbt r.1[i]=13+r.1[i]:=by omega
    have hc2:qbw (qi r.1[i])=10+qi r.1[i]:=by omega
    have hws:wrap .i64 (r.2.1 - 1)=r.2.1 - 1:=qo (by omega) (by omega)
    have hmr:=q63 (qi r.1[i]) (r.1.take i)
    rw[z27] at hmr
    have hcnt:(ws.set (3+r.1[i]).toNat ((i:Int)+1)).getD (10+qi r.1[i]).toNat 0=many (qi r.1[i]) (r.1.take i):=by
     rw[qey _ _ _ _ (by omega),z5 (by omega),hw _ (by omega)]
     unfold q8q
     rw[z5 (by omega),z6 (by omega),show (((10+qi r.1[i]).toNat:Nat):Int) - 10=qi r.1[i] by omega]
    have hcls:∀ c,cls c r.1[i]=if qi r.1[i]=c then 1 else 0:=fun c=>by
     unfold cls
     rw[qcb.2 (by omega),Bool.true_and]
     by_cases e:qi r.1[i]=c
     ·rw[z11 e,z6 e];rfl
     ·rw[z10 e,z5 e];rfl
    rw[qh h0,qj5 hX (by omega),qc]
    dsimp only
    rw[ho2,ixn (by omega) (by omega),br_t,ql4 hX (by omega),qc]
    dsimp only
    rw[qj7 hX (by omega),qc]
    dsimp only
    have hw1:wrap .i64 ((i:Int)+1)=(i:Int)+1:=qo (by omega) (by omega)
    rw[hc2,hw1,ixn (by omega) (by rw[z17,hlw];omega),br_t,br_t,hcnt,qo (x:=many (qi r.1[i]) (r.1.take i)+1) (by omega) (by omega),hws]
    have hfin:∀ p<20,p<4∨¬ (p<4):=fun p _=>by omega
    by_cases hs:(i:Int)<r.2.1 - 1
    ·rw[qg hs,qln hX (by omega),qc]
     dsimp only
     rw[hvi2,ixn (by omega) (by rw[z17,z17,hlw];omega),br_t]
     refine qbb9 N n hN K hr m (i+1) _ (by omega) (by omega) (by rw[z17,z17,z17];exact hlw) (fun p hp=>?_)
     rw[qey _ _ _ _ (by rw[z17,z17,hlw];omega),qey _ _ _ _ (by rw[z17,hlw];omega),qey _ _ _ _ (by omega),hw p hp]
     unfold q8q
     by_cases a1:p<4
     ·rw[z5 (by omega),z5 (by omega),z5 (by omega),z6 a1,z6 a1]
     rw[z5 a1,z5 a1]
     by_cases a2:10≤p∧p<13
     ·rw[z5 (show ¬ p=(13+r.1[i]).toNat by omega),z5 (show ¬ p=(3+r.1[i]).toNat by omega),z6 a2,z6 a2,hmt,hcls]
      by_cases e:p=(10+qi r.1[i]).toNat
      ·rw[z6 e,z6 (by omega),show (p:Int) - 10=qi r.1[i] by omega]
      ·rw[z5 e,z5 (by omega)];omega
     rw[z5 a2,z5 a2,hps p hp,z5 a1]
     by_cases e3:p=(13+r.1[i]).toNat
     ·rw[z6 e3,z5 (by omega),z6 ⟨h0,by omega,hs⟩]
     rw[z5 e3,z5 (show ¬ p=(10+qi r.1[i]).toNat by omega)]
     by_cases e2:p=(3+r.1[i]).toNat
     ·rw[z6 e2,z6 ⟨h0,by omega⟩]
     rw[z5 e2,z5 (show ¬ (r.1[i]≠0∧(p:Int)=3+r.1[i]) by omega),z5 (show ¬ (r.1[i]≠0∧(p:Int)=13+r.1[i]∧(i:Int)<r.2.1 - 1) by omega)]
    ·rw[qh hs]
     refine qbb9 N n hN K hr m (i+1) _ (by omega) (by omega) (by rw[z17,z17];exact hlw) (fun p hp=>?_)
     rw[qey _ _ _ _ (by rw[z17,hlw];omega),qey _ _ _ _ (by omega),hw p hp]
     unfold q8q
     by_cases a1:p<4
     ·rw[z5 (by omega),z5 (by omega),z6 a1,z6 a1]
     rw[z5 a1,z5 a1]
     by_cases a2:10≤p∧p<13
     ·rw[z5 (show ¬ p=(3+r.1[i]).toNat by omega),z6 a2,z6 a2,hmt,hcls]
      by_cases e:p=(10+qi r.1[i]).toNat
      ·rw[z6 e,z6 (by omega),show (p:Int) - 10=qi r.1[i] by omega]
      ·rw[z5 e,z5 (by omega)];omega
     rw[z5 a2,z5 a2,hps p hp,z5 a1]
     rw[z5 (show ¬ p=(10+qi r.1[i]).toNat by omega),z5 (show ¬ (r.1[i]≠0∧(p:Int)=13+r.1[i]∧(i:Int)<r.2.1 - 1) from fun k=>hs k.2.2)]
     by_cases e2:p=(3+r.1[i]).toNat
     ·rw[z6 e2,z6 ⟨h0,by omega⟩]
     rw[z5 e2,z5 (show ¬ (r.1[i]≠0∧(p:Int)=3+r.1[i]) by omega)]
  ·rw[qh (by omega)]
   have:i=4:=by omega
   subst this
   exact ⟨ws,hlw,hw,rfl⟩
theorem qb1a (hn:W+6≤n) {r:qm} (hr:RightR r):∃ ws:List Int,ws.length=20∧(∀ p<20,ws.getD p 0=qds r p)∧qr1 (DD X n) r=some ((ws,()),()):=by
 obtain ⟨n,rfl⟩:∃ k,n=k+1:=⟨n - 1,by omega⟩
 have hW:=qbf
 have hst:=hr.st
 have hl:=hr.len
 rw[qbmm hX]
 simp only[qyj,qy4]
 rw[q5z hX (by omega) hr,qc]
 dsimp only
 rw[z13,br_f]
 simp only[qva]
 have hcp:(decide (0<r.1.length)&&decide (0<(List.replicate (Int.toNat 20) (0:Int)).length))=true:=by
  rw[z11 (by omega),List.length_replicate];rfl
 obtain ⟨w1,l1,h1,e1⟩:=qbb9 hX n n (by omega) (fun v0_0 v0_1=>qsf (DD X n) n v0_0 v0_1) hr n 0 (qoq (Ty.int IntKind.i64) (List.replicate (Int.toNat 20) 0) r.1) (by omega) (by omega)
  (by rw[qbk5];rfl) (fun p hp=>by
  have e0:(List.replicate (Int.toNat 20) (0:Int)).getD p 0=0:=by
   simp only[List.getD,List.getElem?_replicate];split<;>rfl
  have e1:=qbll (t:=Ty.int IntKind.i64) (xs:=List.replicate (Int.toNat 20) 0) (ys:=r.1) p (by rw[List.length_replicate];exact hp)
  rw[List.length_replicate,hl] at e1
  refine Eq.trans e1 ?_
  unfold q8q
  by_cases a1:p<4
  ·rw[z6 (by omega),z6 a1];rfl
  ·rw[z5 (by omega),z5 a1]
   refine Eq.trans e0 ?_
   by_cases a2:10≤p∧p<13
   ·rw[z6 a2,List.take_zero];rfl
   rw[z5 a2]
   unfold qt1 ownW viaW
   rw[z5 a1]
   split
   ·rw[z5 (by omega)]
   ·split
    ·rfl
    ·rw[z5 (by omega)])
 rw[show ((0:Nat):Int)=0 from rfl] at e1
 refine ⟨w1.set 13 r.2.1,by rw[z17];exact l1,fun p hp=>?_,(congrArg (fun c=>br c _ _) hcp).trans (e1.trans ?_)⟩
 ·rw[qey _ _ _ _ (by omega),h1 p hp]
  unfold qds q8q qt1
  by_cases e:p=13
  ·rw[z6 e,z5 (by omega),z5 (by omega),z5 (by omega),z6 e]
  rw[z5 e]
  by_cases a1:p<4
  ·rw[z6 a1,z6 a1]
  by_cases a2:p<10
  ·rw[z5 a1,z5 (by omega),z5 a1,z6 a2,z5 a1,z6 a2];rfl
  by_cases a3:p<13
  ·rw[z5 a1,z6 (by omega),z5 a1,z5 a2,z6 a3,z42 (by omega)]
  ·rw[z5 a1,z5 (by omega),z5 a1,z5 a2,z5 (by omega),z5 a1,z5 a2,z5 a3,z5 e];rfl
 simp only[qsf]
 rw[qgl hX (by omega),qc]
 dsimp only
 rw[ixn (by omega) (by rw[l1];omega),br_t]
 rfl
end
end Go.G

namespace Go.G
set_option maxRecDepth 100000
open Go Go.V Go.Proofs
theorem qbid (c:Int):∀ (l:List Int) (k:Nat) (V:Int),k<l.length→many c (l.set k V)=many c l+cls c V - cls c (l.getD k 0)
 | [],k,V,h=>by simp at h
 | x::l,0,V,_=>by
  simp only[List.set_cons_zero,many,List.getD_cons_zero,cls];omega
 | x::l,k+1,V,h=>by
  simp only[List.set_cons_succ,many,List.getD_cons_succ]
  rw[qbid c l k V (by simpa using h)];omega
theorem qbj2 {r:qm} (hr:RightR r) {v:Int} (hv:v≠0) {k:Nat} (h:r.1[k]? = some v):keyF v r.1 0=k:=by
 rw[q03 v r.1 0 k h (fun j hj hc=>hv (hr.once j k hj v hc h))]
 congr 1;omega
theorem qbsd {r:qm} (hr:RightR r) {K:Nat} (hK:K<4) {V:Int} (hV:V=0∨keyF V r.1 0<0) {v:Int} (hv:1≤v) :
  keyF v (r.1.set K V) 0=if v=V then (K:Int) else if v=r.1.getD K 0 then -1 else keyF v r.1 0:=by
 have hl:=hr.len
 have hget:∀ j,j≠K→(r.1.set K V)[j]? = r.1[j]?:=fun j hj=>by rw[List.getElem?_set,z5 (fun e=>hj e.symm)]
 have hgK:(r.1.set K V)[K]? = some V:=by rw[List.getElem?_set,z6 rfl,z6 (by omega)]
 have hrK:r.1[K]? = some (r.1.getD K 0):=by rw[z31 (by omega),qv (by omega)]
 by_cases e:v=V
 ·rw[z6 e]
  subst e
  have hno:v∉r.1:=q7n v r.1 0 (by omega)
  rw[q03 v _ 0 K hgK (fun j hj hc=>by
   rw[hget j (by omega)] at hc
   exact hno (List.mem_iff_getElem?.2 ⟨j,hc⟩))]
  congr 1;omega
 rw[z5 e]
 by_cases e2:v=r.1.getD K 0
 ·rw[z6 e2]
  refine q8p v _ 0 (fun hm=>?_)
  obtain ⟨j,hj⟩:=List.mem_iff_getElem?.1 hm
  by_cases q:j=K
  ·subst q;rw[hgK] at hj;exact e (Option.some.inj hj).symm
  ·rw[hget j q] at hj
   rw[←e2] at hrK
   by_cases lt:j<K
   ·have:=hr.once j K lt v hj hrK;omega
   ·have:=hr.once K j (by omega) v hrK hj;omega
 rw[z5 e2]
 by_cases h0:keyF v r.1 0<0
 ·have hno:v∉r.1:=q7n _ _ _ h0
  have:=qm7 v r.1 0
  rw[q8p v _ 0 (fun hm=>by
   obtain ⟨j,hj⟩:=List.mem_iff_getElem?.1 hm
   by_cases q:j=K
   ·subst q;rw[hgK] at hj;exact e (Option.some.inj hj).symm
   ·rw[hget j q] at hj;exact hno (List.mem_iff_getElem?.2 ⟨j,hj⟩))]
  omega
 ·obtain ⟨k,hk⟩:∃ k:Nat,keyF v r.1 0=k:=⟨(keyF v r.1 0).toNat,by omega⟩
  obtain ⟨_,h2⟩:=q7j v r.1 0 k hk
  rw[Nat.sub_zero] at h2
  have hkK:k≠K:=fun q=>by subst q;rw[hrK] at h2;exact e2 (Option.some.inj h2).symm
  rw[hk,q03 v _ 0 k (by rw[hget k hkK];exact h2) (fun j hj hc=>by
   by_cases q:j=K
   ·subst q;rw[hgK] at hc;exact e (Option.some.inj hc).symm
   ·rw[hget j q] at hc
    have:=hr.once j k hj v hc h2;omega)]
  congr 1;omega
theorem qb0u {r:qm} (hr:RightR r) {K:Nat} (hK:K<4) {V:Int} (hV:V=0∨keyF V r.1 0<0) (hV6:0≤V∧V≤6):RightR (r.1.set K V,r.2):=by
 have hl:=hr.len
 have hget:∀ j,j≠K→(r.1.set K V)[j]? = r.1[j]?:=fun j hj=>by rw[List.getElem?_set,z5 (fun e=>hj e.symm)]
 have hgK:(r.1.set K V)[K]? = some V:=by rw[List.getElem?_set,z6 rfl,z6 (by omega)]
 have hno:V≠0→V∉r.1:=fun h=>q7n V r.1 0 (by omega)
 refine ⟨by show (r.1.set K V).length=4;rw[z17];exact hl,fun x hx=>?_,fun i j hij v g1 g2=>?_,hr.st⟩
 ·rcases List.mem_or_eq_of_mem_set hx with q | rfl
  ·exact hr.rng x q
  ·exact hV6
 ·show v=0
  have h1:(r.1.set K V)[i]? = some v:=g1
  have h2:(r.1.set K V)[j]? = some v:=g2
  clear g1 g2
  by_cases q:i=K
  ·subst q
   rw[hgK] at h1
   rw[hget j (by omega)] at h2
   have:=Option.some.inj h1
   subst this
   by_cases z:V=0
   ·exact z
   ·exact absurd (List.mem_iff_getElem?.2 ⟨j,h2⟩) (hno z)
  ·rw[hget i q] at h1
   by_cases q2:j=K
   ·subst q2
    rw[hgK] at h2
    have:=Option.some.inj h2
    subst this
    by_cases z:V=0
    ·exact z
    ·exact absurd (show V∈r.1 from List.mem_iff_getElem?.2 ⟨i,h1⟩) (hno z)
   ·rw[hget j q2] at h2
    exact hr.once i j hij v h1 h2
theorem qbrz {r:qm} (hr:RightR r) {K:Nat} (hK:K<4) {V:Int} (hV:V=0∨keyF V r.1 0<0) {p:Nat} (hp:p<20) :
  qds (r.1.set K V,r.2) p=if p<4 then (if p=K then V else qds r p)
   else if p<10 then (if (p:Int) - 3=V then (K:Int)+1 else if (p:Int) - 3=r.1.getD K 0 then 0 else qds r p)
   else if p<13 then qds r p+cls ((p:Int) - 10) V - cls ((p:Int) - 10) (r.1.getD K 0)
   else if p=13 then qds r p
   else (if (p:Int) - 13=V then (if (K:Int)<r.2.1 - 1 then (K:Int)+1 else 0) else if (p:Int) - 13=r.1.getD K 0 then 0 else qds r p):=by
 have hl:=hr.len
 unfold qds
 by_cases a1:p<4
 ·simp only[z6 a1]
  rw[qey _ _ _ _ (by omega)]
 simp only[z5 a1]
 by_cases a2:p<10
 ·simp only[z6 a2]
  unfold ownW
  rw[qbsd hr hK hV (by omega)]
  by_cases e:(p:Int) - 3=V
  ·simp only[z6 e];rw[z6 (by omega)]
  simp only[z5 e]
  by_cases e2:(p:Int) - 3=r.1.getD K 0
  ·simp only[z6 e2];rw[z5 (by omega)]
  simp only[z5 e2]
 simp only[z5 a2]
 by_cases a3:p<13
 ·simp only[z6 a3]
  exact qbid _ _ _ _ (by omega)
 simp only[z5 a3]
 by_cases a4:p=13
 ·simp only[z6 a4]
 simp only[z5 a4]
 unfold viaW
 rw[qbsd hr hK hV (by omega)]
 by_cases e:(p:Int) - 13=V
 ·simp only[z6 e]
  by_cases q:(K:Int)<r.2.1 - 1
  ·rw[z6 ⟨by omega,by omega,q⟩,z6 q]
  ·rw[z5 (fun z=>q z.2.2),z5 q]
 simp only[z5 e]
 by_cases e2:(p:Int) - 13=r.1.getD K 0
 ·simp only[z6 e2];rw[z5 (by omega)]
 simp only[z5 e2]
theorem q7k {v:Int} (hv:1≤v∧v≤6) (c:Int):cls c v=if qi v=c then 1 else 0:=by
 unfold cls
 rw[qcb.2 hv,Bool.true_and]
 by_cases e:qi v=c
 ·rw[z11 e,z6 e];rfl
 ·rw[z10 e,z5 e];rfl
structure Must (r:qm) (K V:Int) (l:List Int):Prop where
 k:K∈l
 s:13∈l
 o:∀ v,v=r.1.getD K.toNat 0∨v=V→1≤v→3+v∈l
 c:qi (r.1.getD K.toNat 0)≠qi V→∀ v,v=r.1.getD K.toNat 0∨v=V→1≤v→10+qi v∈l
 v:K+1<r.2.1→∀ v,v=r.1.getD K.toNat 0∨v=V→1≤v→13+v∈l
 x:∀ p∈l,14≤p→K+1<r.2.1
structure Chg (r:qm) (K V:Int):Prop where
 k:0≤K∧K≤3
 v:0≤V∧V≤6
 h:0≤r.1.getD K.toNat 0∧r.1.getD K.toNat 0≤6
 z:V=0∨keyF V r.1 0<0
 n:r.1.getD K.toNat 0≠V
theorem qb1v {r:qm} (hr:RightR r) {K V:Int} {l:List Int} (hc:Chg r K V) (hm:Must r K V l) {p:Nat} (hp:p<20) (hn:(p:Int)∉l) :
  qds (r.1.set K.toNat V,r.2) p=qds r p:=by
 have hK:=hc.k
 have hV:=hc.v
 have hh:=hc.h
 have hz:=hc.z
 have hne:=hc.n
 have hl:=hr.len
 have hk4:K.toNat<4:=by omega
 have hcV:=qkm V
 have hcH:=qkm (r.1.getD K.toNat 0)
 rw[qbrz hr hk4 hc.z hp]
 have hno:∀ q,q∈l→(p:Int)≠q:=fun q hq e=>hn (e ▸ hq)
 by_cases a1:p<4
 ·rw[z6 a1,z5 (by have:=hno K hm.k;omega)]
 rw[z5 a1]
 by_cases a2:p<10
 ·rw[z6 a2,z5 (fun e=>by have:=hno _ (hm.o V (.inr rfl) (by omega));omega),z5 (fun e=>by have:=hno _ (hm.o _ (.inl rfl) (by omega));omega)]
 rw[z5 a2]
 by_cases a3:p<13
 ·rw[z6 a3]
  by_cases e:qi (r.1.getD K.toNat 0)=qi V
  ·have h1:1≤V:=by omega
   have h2:1≤r.1.getD K.toNat 0:=by omega
   rw[q7k (by omega),q7k (by omega),e];omega
  ·have q:=hm.c e
   have f1:cls ((p:Int) - 10) V=0:=by
    by_cases z:1≤V
    ·rw[q7k (by omega),z5 (fun e=>by have:=hno _ (q V (.inr rfl) z);omega)]
    ·rw[show V=0 by omega];rfl
   have f2:cls ((p:Int) - 10) (r.1.getD K.toNat 0)=0:=by
    by_cases z:1≤r.1.getD K.toNat 0
    ·rw[q7k (by omega),z5 (fun e=>by have:=hno _ (q _ (.inl rfl) z);omega)]
    ·rw[show r.1.getD K.toNat 0=0 by omega];rfl
   rw[f1,f2];omega
 rw[z5 a3]
 by_cases a4:p=13
 ·rw[z6 a4]
 rw[z5 a4]
 have hw:qds r p=viaW ((p:Int) - 13) r.1 4 r.2.1:=by
  unfold qds;rw[z5 a1,z5 a2,z5 a3,z5 a4]
 by_cases e:(p:Int) - 13=V
 ·have hk:¬ K+1<r.2.1:=fun q=>by have:=hno _ (hm.v q V (.inr rfl) (by omega));omega
  rw[z6 e,z5 (by omega),hw,e]
  unfold viaW
  rw[z5 (by omega)]
 rw[z5 e]
 by_cases e2:(p:Int) - 13=r.1.getD K.toNat 0
 ·have hk:¬ K+1<r.2.1:=fun q=>by have:=hno _ (hm.v q _ (.inl rfl) (by omega));omega
  have hkey:keyF (r.1.getD K.toNat 0) r.1 0=K.toNat:=qbj2 hr (by omega) (by rw[z31 (by omega),qv (by omega)])
  rw[z6 e2,hw,e2]
  unfold viaW
  rw[hkey,z5 (by omega)]
 rw[z5 e2]
theorem qb37 {k:Int} (h:0≤qr k):qr k=k:=by have:=qmz k;omega
theorem qbqa {v:Int} (h:0≤qy v):(1≤v∧v≤6)∧qy v=3+v:=by have:=qih v;omega
theorem qbwm {v:Int} (h:0≤qbt v):(1≤v∧v≤6)∧qbt v=13+v:=by have:=qgy v;omega
theorem qbpz {v:Int} (h:0≤qbw (qi v)):(1≤v∧v≤6)∧(0≤qi v∧qi v≤2)∧qbw (qi v)=10+qi v:=by
 have:=qie (qi v)
 have:=qkm v
 omega
theorem qbxd {c V:Int} (hV:0≤V∧V≤6) (h:qi V≠c):cls c V=0:=by
 by_cases z:1≤V
 ·rw[q7k (by omega),z5 h]
 ·rw[show V=0 by omega];rfl
theorem qblk (r:qm) {c:Int} (hc:0≤c∧c≤2):qds r (10+c).toNat=many c r.1:=by
 unfold qds
 rw[z5 (by omega),z5 (by omega),z6 (by omega),show (((10+c).toNat:Nat):Int) - 10=c by omega]
theorem qb4q {r:qm} (hr:RightR r) {K V:Int} {l:List Int} (hc:Chg r K V) (hm:Must r K V l) {q:Want} (hq:q∈chgL K V (r.1.getD K.toNat 0) r.2.1) (hl:q.1∈l) (h0:0≤q.1) :
  q.1<20∧q.2 (wOf r q.1)=wOf (r.1.set K.toNat V,r.2) q.1:=by
 have hb:=qbi
 have hK:=hc.k
 have hV:=hc.v
 have hh:=hc.h
 have hne:=hc.n
 have hlen:=hr.len
 have hst:=hr.st
 have hk4:K.toNat<4:=by omega
 have hlt:=qbwy K V (r.1.getD K.toNat 0) r.2.1 q hq
 have hws:=qbrz hr hk4 hc.z (p:=q.1.toNat) (by omega)
 refine ⟨by omega,?_⟩
 have hx:=fun h=>hm.x _ hl h
 have hlK:K.toNat<r.1.length:=by omega
 have hms:=fun c=>qbid c r.1 K.toNat V hlK
 have hmr2:=fun c=>q63 c (r.1.set K.toNat V)
 unfold wOf
 rw[hws]
 clear hws hlt hl hm
 unfold chgL at hq
 generalize hheld:r.1.getD K.toNat 0=H at *
 rcases z18.1 hq with hq | hq
 ·simp only[z15,z25,or_false] at hq
  rcases hq with rfl | rfl | rfl | rfl | rfl | rfl<;>dsimp only at *
  ·rw[qb37 h0,z6 (by omega),z6 rfl]
  ·rw[z5 (by decide),z5 (by decide),z5 (by decide),z6 (by decide)];rfl
  ·obtain ⟨e1,e⟩:=qbqa h0
   rw[e,z5 (by omega),z6 (by omega),z5 (by omega),z6 (by omega)]
  ·obtain ⟨e1,e⟩:=qbwm h0
   rw[e,z5 (by omega),z5 (by omega),z5 (by omega),z5 (by omega),z5 (by omega),z6 (by omega)]
  ·obtain ⟨e1,e⟩:=qbqa h0
   rw[e,z5 (by omega),z6 (by omega),z6 (by omega),qo (by omega) (by omega)];omega
  ·obtain ⟨e1,e⟩:=qbwm h0
   have hx:=hx (by omega)
   rw[e,z5 (by omega),z5 (by omega),z5 (by omega),z5 (by omega),z6 (by omega),z6 (by omega),qo (by omega) (by omega)];omega
 ·cases hcc:qi H != qi V
  ·rw[hcc] at hq;simp at hq
  rw[hcc,z21] at hq
  have hcne:qi H≠qi V:=by simpa using hcc
  simp only[z15,z25,or_false] at hq
  rcases hq with rfl | rfl<;>dsimp only at *
  ·obtain ⟨hH,ec,e⟩:=qbpz h0
   have a1:=q63 (qi H) r.1
   have a2:=hms (qi H)
   have a3:=hmr2 (qi H)
   have f1:cls (qi H) H=1:=by rw[q7k hH,z6 rfl]
   have f2:cls (qi H) V=0:=qbxd hV (fun q=>hcne q.symm)
   rw[f1,f2] at a2
   rw[e,z5 (by omega),z5 (by omega),z6 (by omega),qblk r ec,show (((10+qi H).toNat:Nat):Int) - 10=qi H by omega,f1,f2]
   unfold less
   rw[qo (by omega) (by omega)]
   split<;>omega
  ·obtain ⟨hH,ec,e⟩:=qbpz h0
   have a1:=q63 (qi V) r.1
   have f1:cls (qi V) V=1:=by rw[q7k hH,z6 rfl]
   have f2:cls (qi V) H=0:=qbxd hh hcne
   rw[e,z5 (by omega),z5 (by omega),z6 (by omega),qblk r ec,show (((10+qi V).toNat:Nat):Int) - 10=qi V by omega,f1,f2]
   unfold one
   rw[qo (by omega) (by omega)];omega
end Go.G

namespace Go.G
set_option maxRecDepth 100000
open Go Go.V Go.Proofs
theorem qb4x {r:qm} (hr:RightR r) {o:Op3} (ho:opOk o=true) (h123:o.1=1∨o.1=2∨o.1=3) (hne:1≤r.1.getD o.2.1.toNat 0∧r.1.getD o.2.1.toNat 0≤6→r.1.getD o.2.1.toNat 0≠o.2.2.1) {c:Int} {L:List Int} (hc:c=0) (h:Out r o c L) :
  Chg r o.2.1 o.2.2.1∧(o.1=1→r.1.getD o.2.1.toNat 0=0)∧(o.1≠1→r.1.getD o.2.1.toNat 0≠0):=by
 have hk:=qp2 ho
 have hl:=hr.len
 have hK:0≤o.2.1∧o.2.1≤3:=by omega
 have hh:0≤r.1.getD o.2.1.toNat 0∧r.1.getD o.2.1.toNat 0≤6:=by
  rw[qv (by omega)];exact hr.rng _ (z24 _)
 have mk:(o.2.2.1=0∨keyF o.2.2.1 r.1 0<0)→r.1.getD o.2.1.toNat 0≠o.2.2.1→Chg r o.2.1 o.2.2.1:=fun a b=>⟨hK,by omega,hh,a,b⟩
 cases h with
 | put0 k h1 h2=>exact ⟨mk (.inr h2) (by omega),fun _=>h1,fun q=>absurd k q⟩
 | set0 k h1 h2 h3=>exact ⟨mk (.inr h3) h2,fun q=>by omega,fun _=>h1⟩
 | del0 k h1=>exact ⟨mk (.inl (by omega)) (by omega),fun q=>by omega,fun _=>h1⟩
 | setS k h1 h2=>exact absurd h2 (hne (by omega))
 | _=>omega
theorem qb4g {r:qm} (hr:RightR r) {o:Op3} (ho:opOk o=true) (h123:o.1=1∨o.1=2∨o.1=3) (hc:Chg r o.2.1 o.2.2.1) (h1:o.1=1→r.1.getD o.2.1.toNat 0=0) (h2:o.1≠1→r.1.getD o.2.1.toNat 0≠0) :
  Must r o.2.1 o.2.2.1 (path (wOf r) (prog o)):=by
 have hk:=qp2 ho
 have hb:=qbi
 have hh:=hc.h
 have hz:=hc.z
 have hne:=hc.n
 have hst:=hr.st
 have hK:0≤o.2.1∧o.2.1≤3:=hc.k
 have hrow:qr o.2.1=o.2.1:=by have:=qmz o.2.1;omega
 have hwK:=(qkd hr hK).1
 have hwo:1≤o.2.2.1→wOf r (qy o.2.2.1)=0:=fun z=>by
  rw[qq3 hr (by have:=hc.v;omega)]
  have:=qm7 o.2.2.1 r.1 0
  omega
 have hws:=qnk r
 have hwr:wrap .i64 (o.2.1+1)=o.2.1+1:=qo (by omega) (by omega)
 have hown:∀ v,1≤v∧v≤6→qy v=3+v:=fun v hv=>by have:=qih v;omega
 have hvia:∀ v,1≤v∧v≤6→qbt v=13+v:=fun v hv=>by have:=qgy v;omega
 have hcnt:∀ v,1≤v∧v≤6→qbw (qi v)=10+qi v:=fun v hv=>by have:=qie (qi v);have:=qkm v;omega
 have hclr:∀ v,1≤v∧v≤6→0≤qi v∧qi v≤2:=fun v hv=>by have:=qkm v;omega
 have hV:=hc.v
 generalize hheld:r.1.getD o.2.1.toNat 0=H at *
 unfold prog
 rcases h123 with k | k | k
 ·rw[z6 k]
  have hH:=h1 k
  have hV1:1≤o.2.2.1∧o.2.2.1≤6:=by omega
  have e:path (wOf r) (qif o)=o.2.1::(3+o.2.2.1)::(10+qi o.2.2.1)::13::(if r.2.1≤o.2.1+1 then [] else [13+o.2.2.1]):=by
   unfold qif
   simp only[path]
   rw[hrow,hwK,hH]
   simp only[bned,decide_true,z13,z20,path]
   rw[hwo hV1.1]
   simp only[decide_true,z13,z20,path,qoa,z28,List.map_nil]
   rw[hws,hwr,hown _ hV1,hvia _ hV1,hcnt _ hV1]
  rw[e]
  have hc2:=hclr _ hV1
  refine ⟨by simp,by simp,fun v hv z=>?_,fun _ v hv z=>?_,fun q v hv z=>?_,fun p hp h14=>?_⟩
  ·have:v=o.2.2.1:=by omega
   subst this;simp
  ·have:v=o.2.2.1:=by omega
   subst this;simp
  ·have:v=o.2.2.1:=by omega
   subst this;rw[z5 (by omega)];simp
  ·by_cases q:r.2.1≤o.2.1+1
   ·rw[z6 q] at hp
    simp only[z15,z25,or_false] at hp
    omega
   ·omega
 ·have hH:=h2 (by omega)
  rw[z5 (by omega),z6 k]
  have hV1:1≤o.2.2.1∧o.2.2.1≤6:=by omega
  have hH1:1≤H∧H≤6:=by omega
  have e:path (wOf r) (qil o)=o.2.1::(3+o.2.2.1)::(3+H)::((bif qi H != qi o.2.2.1 then [10+qi H,10+qi o.2.2.1] else [])++13::(if r.2.1≤o.2.1+1 then [] else [13+H,13+o.2.2.1])):=by
   unfold qil
   simp only[path]
   rw[hrow,hwK,z10 hH,z10 hne]
   simp only[z20,path]
   rw[hwo hV1.1]
   simp only[bned,decide_true,z13,z20,path]
   cases decide (qi H=qi o.2.2.1)
   ·simp only[Bool.not_false,z21,path,qoa,z28,List.map_nil,z40,z46]
    rw[hws,hwr,hown _ hV1,hvia _ hV1,hcnt _ hV1,hown _ hH1,hvia _ hH1,hcnt _ hH1]
   ·simp only[z13,z20,path,qoa,z28,List.map_nil,z40,z46]
    rw[hws,hwr,hown _ hV1,hvia _ hV1,hown _ hH1,hvia _ hH1]
  rw[e]
  have hc2:=hclr _ hV1
  have hc3:=hclr _ hH1
  refine ⟨by simp,by simp,fun v hv z=>?_,fun q v hv z=>?_,fun q v hv z=>?_,fun p hp h14=>?_⟩
  ·rw[hheld] at hv
   rcases hv with rfl | rfl<;>simp
  ·rw[hheld] at hv q
   rw[bned,z10 q]
   rcases hv with rfl | rfl<;>simp
  ·rw[hheld] at hv
   rw[z5 (by omega)]
   rcases hv with rfl | rfl<;>simp
  ·by_cases q:r.2.1≤o.2.1+1
   ·rw[z6 q] at hp
    cases hq:qi H != qi o.2.2.1
    ·rw[hq] at hp
     simp only[z20,z46,z15,z25,or_false] at hp
     omega
    ·rw[hq] at hp
     simp only[z21,z40,z46,z15,z25,or_false] at hp
     omega
   ·omega
 ·have hH:=h2 (by omega)
  rw[z5 (by omega),z5 (by omega),z6 k]
  have hH1:1≤H∧H≤6:=by omega
  have e:path (wOf r) (qkh o)=o.2.1::(3+H)::(10+qi H)::13::(if r.2.1≤o.2.1+1 then [] else [13+H]):=by
   unfold qkh
   simp only[path]
   rw[hrow,hwK,z10 hH]
   simp only[z20,path,qoa,z28,List.map_nil]
   rw[hws,hwr,hown _ hH1,hvia _ hH1,hcnt _ hH1]
  rw[e]
  have hc3:=hclr _ hH1
  refine ⟨by simp,by simp,fun v hv z=>?_,fun q v hv z=>?_,fun q v hv z=>?_,fun p hp h14=>?_⟩
  ·have:v=H:=by omega
   subst this;simp
  ·have:v=H:=by omega
   subst this;simp
  ·have:v=H:=by omega
   subst this;rw[z5 (by omega)];simp
  ·by_cases q:r.2.1≤o.2.1+1
   ·rw[z6 q] at hp
    simp only[z15,z25,or_false] at hp
    omega
   ·omega
theorem qbfo {r:qm} (hr:RightR r) {p:Nat} (hp:p<20) (h13:p≠13) (hk:14≤p→keyF ((p:Int) - 13) r.1 0≠r.2.1 - 1∨r.2.1=0):qds (r.1,r.2.1+1,()) p=qds r p:=by
 have hst:=hr.st
 unfold qds
 by_cases a1:p<4
 ·rw[z6 a1,z6 a1]
 rw[z5 a1,z5 a1]
 by_cases a2:p<10
 ·rw[z6 a2,z6 a2]
 rw[z5 a2,z5 a2]
 by_cases a3:p<13
 ·rw[z6 a3,z6 a3]
 rw[z5 a3,z5 a3,z5 h13,z5 h13]
 have hk:=hk (by omega)
 unfold viaW
 dsimp only
 by_cases e:0≤keyF ((p:Int) - 13) r.1 0∧keyF ((p:Int) - 13) r.1 0<4∧keyF ((p:Int) - 13) r.1 0<r.2.1 - 1
 ·rw[z6 e,z6 (by omega)]
 ·rw[z5 e,z5 (by omega)]
theorem qtz {r:qm} {o:Op3} (c:Int) (h:¬ (o.1=1∨o.1=2)∧¬ o.1=3∧¬ (o.1=8∨o.1=9)):qch r o c=r:=by
 unfold qch
 rw[z5 h.1,z5 h.2.1,z5 h.2.2]
 split<;>rfl
structure Turns (w w':Int→Int) (E:List qbe):Prop where
 asc:Asc E
 old:∀ e∈E,0≤e.1∧e.1<20∧e.2.1=w e.1∧e.2.2.1=w' e.1
 rest:∀ p:Nat,p<20→(∀ e∈E,e.1≠(p:Int))→w p=w' p
theorem qbxt {r:qm} (hr:RightR r) {o:Op3} (ho:opOk o=true) (hnow:qgp o (qbn r o)=none) :
  Turns (wOf r) (wOf (qch r o (resP o (qbn r o)).1)) (entP o (qbn r o))∧RightR (qch r o (resP o (qbn r o)).1):=by
 have hb:=qbi
 have hw:=fun k hk=>(qkd hr (k:=k) hk).2
 have hpk:=q5e ho (wOf r) hw
 have hrun:=qbd7 hr ho
 have hkn:=q8y r o
 have hkd:=qp2 ho
 have hst:=hr.st
 have hl:=hr.len
 have hcond:opOk o=true∧(run (qbn r o) (prog o)).2<0:=⟨ho,by rw[hrun];show (-1:Int)<0;omega⟩
 have hrd:∀ p,p∈path (wOf r) (prog o)→(qbg (qbn r o) p).1=wOf r p:=fun p hp=>by rw[hkn p,z6 hp]
 have hhit:∀ p,0≤p→(hit (qbn r o) p=true↔p∈path (wOf r) (prog o)):=fun p hp=>by rw[q8e hkn hp,z45]
 have hout:=qbxh hr ho
 have hpl:qcj o (qbn r o)=((false,resP o (qbn r o),entP o (qbn r o),()),true,()):=by unfold qcj;rw[z6 hcond,hnow]
 rw[hpl] at hout
 dsimp only at hout
 obtain ⟨hA,hB⟩:=qbw3 ho hw hkn hrun hnow
 by_cases h123:o.1=1∨o.1=2∨o.1=3
 ·obtain ⟨hv,hsub⟩:=qbt2 ho hw hkn hnow h123
  have hne:=qba4 ho hnow h123
  have hwr:=(qkd hr (k:=o.2.1) (by omega)).1
  rw[hv,hwr] at hne
  have hres:resP o (qbn r o)=(0,[],()):=by unfold resP;rw[z5 (by omega),z5 (by omega)]
  rw[hres] at hout ⊢
  obtain ⟨hc,h1,h2⟩:=qb4x hr ho h123 hne rfl hout
  have hm:=qb4g hr ho h123 hc h1 h2
  have haf:qch r o 0=(r.1.set o.2.1.toNat o.2.2.1,r.2):=by
   unfold qch
   rw[z5 (by omega)]
   by_cases k12:o.1=1∨o.1=2
   ·rw[z6 k12]
   ·rw[z5 k12,z6 (by omega),show o.2.2.1=0 by omega]
  show Turns _ (wOf (qch r o 0)) _∧RightR (qch r o 0)
  rw[haf]
  have h13:val (qbn r o) 13=r.2.1:=hrd 13 hm.s
  have hE:entP o (qbn r o)=(ents (qbn r o) (chgL o.2.1 o.2.2.1 (r.1.getD o.2.1.toNat 0) r.2.1)).foldl insS []:=by
   unfold entP;rw[z6 h123,hv,hwr,h13]
  obtain ⟨_,r2,r3,r4⟩:=q6t (got:=qbn r o) (K:=o.2.1) (V:=o.2.2.1) (held:=r.1.getD o.2.1.toNat 0) (st:=r.2.1) hne
  refine ⟨⟨by rw[hE];exact r2,fun e he=>?_,fun p hp hno=>?_⟩,qb0u hr (by have:=hc.k;omega) hc.z hc.v⟩
  ·rw[hE] at he
   obtain ⟨q,hq,hh,rfl⟩:=(qyo _ _ _).1 ((r3 e).1 he)
   have hp0:=qbfj hh
   have hqm:=(hhit q.1 hp0).1 hh
   have hn:=qb4q hr hc hm hq hqm hp0
   have:=hrd q.1 hqm
   refine ⟨hp0,hn.1,this,?_⟩
   show q.2 (qbg (qbn r o) q.1).1=_
   rw[this];exact hn.2
  ·have hnp:(p:Int)∉path (wOf r) (prog o):=fun hm=>by
    obtain ⟨e,he,e1,_⟩:=hA _ hm
    exact hno e he e1
   exact (qb1v hr hc hm hp hnp).symm
 ·obtain ⟨_,pl⟩:=qbe1 ho hnow hcond.2 h123
  have hr1:(run (qbn r o) (prog o)).1=path (wOf r) (prog o):=by rw[hrun]
  rw[hr1] at pl
  have hmem:∀ L:List Int,(path (wOf r) (prog o)).foldl (bub ikey) []=L→∀ p∈L,p∈path (wOf r) (prog o):=by
   intro L hL p hp
   rw[←hL,qbdk] at hp
   rcases hp with h | h
   ·simp at h
   ·exact h
  have hsame:∀ p,p∈path (wOf r) (prog o)→val (qbn r o) p=wOf r p:=hrd
  rcases pl with ⟨k,hp⟩ | ⟨k,hz,hp⟩ | ⟨k,hz,hp⟩ | ⟨k,hp⟩
  ·have m:=hmem _ hp
   have haf:∀ c,qch r o c=r:=fun c=>qtz c (by omega)
   rw[haf]
   refine ⟨?_,hr⟩
   have hE:entP o (qbn r o)=[same (qbn r o) 0,same (qbn r o) 1,same (qbn r o) 2,same (qbn r o) 3]:=by unfold entP;rw[z5 h123,z6 k]
   rw[hE]
   refine ⟨by simp[Asc,same],fun e he=>?_,fun p _ _=>rfl⟩
   simp only[z15,z25,or_false] at he
   rcases he with rfl | rfl | rfl | rfl<;>exact ⟨by simp[same],by simp[same],hsame _ (m _ (by simp)),hsame _ (m _ (by simp))⟩
  ·have m:=hmem _ hp
   have h13:=hsame 13 (m _ (by simp))
   have hws:=qnk r
   have hst0:r.2.1=0:=by omega
   have hres:resP o (qbn r o)=(0,[],()):=by unfold resP;rw[z5 (by omega),z5 (by omega)]
   have haf:qch r o 0=(r.1,r.2.1+1,()):=by
    unfold qch
    rw[z5 (by omega),z5 (by omega),z5 (by omega),z6 (.inl k),qo (by omega) (by omega)]
   rw[hres]
   show Turns _ (wOf (qch r o 0)) _∧RightR (qch r o 0)
   rw[haf]
   refine ⟨?_,⟨hl,hr.rng,hr.once,by show 0≤r.2.1+1∧r.2.1+1≤5;omega⟩⟩
   have hE:entP o (qbn r o)=[(13,val (qbn r o) 13,1,())]:=by unfold entP;rw[z5 h123,z5 (by omega),z6 k]
   rw[hE]
   refine ⟨List.pairwise_singleton _ _,fun e he=>?_,fun p hp hno=>?_⟩
   ·simp only[z15,z25,or_false] at he
    subst he
    refine ⟨by simp[same],by simp[same],h13,?_⟩
    show (1:Int)=r.2.1+1
    omega
   ·have h1:=hno _ (z23.2 rfl)
    dsimp only at h1
    exact (qbfo hr hp (by omega) (fun _=>.inr hst0)).symm
  ·have m:=hmem _ hp
   have h13:=hsame 13 (m _ (by simp))
   have hws:=qnk r
   have hres:resP o (qbn r o)=(0,[],()):=by unfold resP;rw[z5 (by omega),z5 (by omega)]
   have haf:qch r o 0=(r.1,r.2.1+1,()):=by
    unfold qch
    rw[z5 (by omega),z5 (by omega),z5 (by omega),z6 (.inr k),qo (by omega) (by omega)]
   rw[hres]
   show Turns _ (wOf (qch r o 0)) _∧RightR (qch r o 0)
   rw[haf]
   refine ⟨?_,⟨hl,hr.rng,hr.once,by show 0≤r.2.1+1∧r.2.1+1≤5;omega⟩⟩
   have hv13:val (qbn r o) 13=r.2.1:=h13
   have hrow:qr (wrap .i64 (val (qbn r o) 13 - 1))=r.2.1 - 1:=by
    rw[hv13,qo (by omega) (by omega)]
    have:=qmz (r.2.1 - 1);omega
   have hE:entP o (qbn r o)=same (qbn r o) (qr (wrap .i64 (val (qbn r o) 13 - 1)))::(13,val (qbn r o) 13,wrap .i64 (val (qbn r o) 13+1),())::
     (bif inR (val (qbn r o) (qr (wrap .i64 (val (qbn r o) 13 - 1)))) 1 6 then [(qbt (val (qbn r o) (qr (wrap .i64 (val (qbn r o) 13 - 1)))),val (qbn r o) (qbt (val (qbn r o) (qr (wrap .i64 (val (qbn r o) 13 - 1))))),val (qbn r o) 13,())] else []):=by
    unfold entP;rw[z5 h123,z5 (by omega),z5 (by omega),z6 k]
   rw[hE]
   rw[hrow] at m ⊢
   have hvr:=hsame (r.2.1 - 1) (m _ (by simp))
   have hwrow:=qkd hr (k:=r.2.1 - 1) (by omega)
   rw[hvr,hwrow.1] at m ⊢
   rw[hv13,qo (by omega) (by omega)]
   have hget:r.1[(r.2.1 - 1).toNat]? = some (r.1.getD (r.2.1 - 1).toNat 0):=by rw[z31 (by omega),qv (by omega)]
   have hrg:=hwrow.2
   rw[hwrow.1] at hrg
   generalize r.1.getD (r.2.1 - 1).toNat 0=v at *
   have hx:qds (r.1,r.2.1+1,()) (r.2.1 - 1).toNat=qds r (r.2.1 - 1).toNat:=qbfo hr (by omega) (by omega) (fun q=>by omega)
   by_cases hv1:1≤v
   ·have hin:inR v 1 6=true:=qcb.2 (by omega)
    rw[hin,z21] at m ⊢
    have hvia:qbt v=13+v:=by have:=qgy v;omega
    have hkey:keyF v r.1 0=r.2.1 - 1:=by rw[qbj2 hr (by omega) hget];omega
    have hvv:=hsame (qbt v) (m _ (by simp))
    rw[hvia] at hvv ⊢
    have hnew:qds (r.1,r.2.1+1,()) (13+v).toNat=r.2.1:=by
     unfold qds
     rw[z5 (by omega),z5 (by omega),z5 (by omega),z5 (by omega),show (((13+v).toNat:Nat):Int) - 13=v by omega]
     unfold viaW
     dsimp only
     rw[hkey,z6 (by omega)];omega
    refine ⟨?_,fun e he=>?_,fun p hp hno=>?_⟩
    ·simp only[Asc,same,List.pairwise_cons,z15,z25,or_false,forall_eq_or_imp,forall_eq,List.Pairwise.nil,and_true,false_implies,implies_true,forall_const]
     omega
    ·simp only[z15,z25,or_false] at he
     rcases he with rfl | rfl | rfl
     ·refine ⟨by show 0≤r.2.1 - 1;omega,by show r.2.1 - 1<20;omega,hvr,?_⟩
      show val (qbn r o) (r.2.1 - 1)=qds (r.1,r.2.1+1,()) (r.2.1 - 1).toNat
      rw[hx];exact hvr
     ·exact ⟨by simp[same],by simp[same],by show r.2.1=wOf r 13;omega,rfl⟩
     ·exact ⟨by show 0≤13+v;omega,by show 13+v<20;omega,hvv,hnew.symm⟩
    ·have h1:=hno _ (z16 _ z14)
     have h2:=hno _ (z16 _ (z16 _ z14))
     dsimp only at h1 h2
     refine (qbfo hr hp (by omega) (fun _=>.inl (fun q=>?_))).symm
     obtain ⟨_,g⟩:=q7j _ r.1 0 (r.2.1 - 1).toNat (q.trans (by omega))
     rw[Nat.sub_zero,hget] at g
     have:=Option.some.inj g
     omega
   ·have hin:inR v 1 6=false:=qro (by omega)
    rw[hin,z20] at m ⊢
    refine ⟨?_,fun e he=>?_,fun p hp hno=>?_⟩
    ·simp only[Asc,same,List.pairwise_cons,z15,z25,or_false,forall_eq_or_imp,forall_eq,List.Pairwise.nil,and_true,false_implies,implies_true,forall_const]
     omega
    ·simp only[z15,z25,or_false] at he
     rcases he with rfl | rfl
     ·refine ⟨by show 0≤r.2.1 - 1;omega,by show r.2.1 - 1<20;omega,hvr,?_⟩
      show val (qbn r o) (r.2.1 - 1)=qds (r.1,r.2.1+1,()) (r.2.1 - 1).toNat
      rw[hx];exact hvr
     ·exact ⟨by simp[same],by simp[same],by show r.2.1=wOf r 13;omega,rfl⟩
    ·have h1:=hno _ (z16 _ z14)
     dsimp only at h1
     refine (qbfo hr hp (by omega) (fun _=>.inl (fun q=>?_))).symm
     obtain ⟨_,g⟩:=q7j _ r.1 0 (r.2.1 - 1).toNat (q.trans (by omega))
     rw[Nat.sub_zero,hget] at g
     have:=Option.some.inj g
     omega
  ·have m:=hmem _ hp
   have haf:∀ c,qch r o c=r:=fun c=>qtz c (by omega)
   rw[haf]
   refine ⟨?_,hr⟩
   have hE:entP o (qbn r o)=[same (qbn r o) 13,same (qbn r o) (qbt o.2.2.1)]:=by unfold entP;rw[z5 h123,z5 (by omega),z5 (by omega),z5 (by omega),z6 k]
   have hv:qbt o.2.2.1=13+o.2.2.1:=by have:=qgy o.2.2.1;omega
   rw[hE]
   rw[hv] at m ⊢
   refine ⟨by simp[Asc,same];omega,fun e he=>?_,fun p _ _=>rfl⟩
   simp only[z15,z25,or_false] at he
   rcases he with rfl | rfl
   ·exact ⟨by simp[same],by simp[same],hsame _ (m _ (by simp)),hsame _ (m _ (by simp))⟩
   ·exact ⟨by show 0≤13+o.2.2.1;omega,by show 13+o.2.2.1<20;omega,hsame _ (m _ (by simp)),hsame _ (m _ (by simp))⟩
end Go.G


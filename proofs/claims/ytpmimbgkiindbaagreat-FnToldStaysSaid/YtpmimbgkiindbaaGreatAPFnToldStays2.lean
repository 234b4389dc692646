import Derived.Test.YtpmimbgkiindbaaGreatAPFnToldStays1
set_option linter.unusedVariables false
set_option linter.unusedSimpArgs false
set_option linter.unusedSectionVars false
open Go.IntKind (wrap)
namespace Go.G
open Go Go.V
theorem br_t {R:Type} {a b:Option R}:br true a b=a:=rfl
theorem br_f {R:Type} {a b:Option R}:br false a b=b:=rfl
theorem qh {R:Type} {a b:Option R} {p:Prop} [Decidable p] (h:p):br (decide p) a b=a:=by simp[br,h]
theorem qi {R:Type} {a b:Option R} {p:Prop} [Decidable p] (h:¬ p):br (decide p) a b=b:=by simp[br,h]
theorem qc {α R:Type} {a:α} {f:α→Option R}:qd (some a) f=f a:=rfl
theorem qb2m {R:Type} {c:Bool} {a:Option R}:br c a a=a:=by cases c<;>rfl
theorem q86 {R:Type} {c:Bool} {a b:Option R}:br c a b=if c=true then a else b:=by cases c<;>rfl
theorem qbyo (x:Int):wrap .i64 x=if x % 18446744073709551616≥9223372036854775808 then x % 18446744073709551616 - 18446744073709551616 else x % 18446744073709551616:=by
 by_cases h:x % 18446744073709551616≥9223372036854775808<;>simp[IntKind.wrap,IntKind.signed,IntKind.bits,h]
theorem qn {x:Int} (h1 : -9223372036854775808≤x) (h2:x≤9223372036854775807):wrap .i64 x=x:=by
 rw[qbyo]
 split<;>omega
def W:Nat:=9223372036854775808
theorem qbk:W=9223372036854775808:=rfl
theorem qbh:qb8=274877906944:=rfl
theorem ix {α:Type} {l:List α} {i:Nat} (h:i<l.length):(decide (0≤(i:Int))&&decide ((i:Int)<(l.length:Int)))=true:=by
 simp only[z9,z45];omega
theorem ixn {α:Type} {l:List α} {i:Int} (h0:0≤i) (h:i<l.length):(decide (0≤i)&&decide (i<(l.length:Int)))=true:=by
 simp only[z9,z45];omega
theorem qt {i:Nat} (h:i<9223372036854775807):wrap .i64 ((i:Int)+1)=((i+1:Nat):Int):=by
 rw[qn]<;>omega
theorem qx {α:Type} {l:List α} {i:Nat} {d:α} (h:i<l.length):l.getD i d=l[i]:=by
 simp[List.getD,h]
theorem qhr {α:Type} {l:List α} {i:Nat} (h:i<l.length):l.drop i=l[i]::l.drop (i+1):=List.drop_eq_getElem_cons h
theorem qji {α:Type} {l:List α} {i:Nat} (h:¬ i<l.length):l.drop i=[]:=List.drop_eq_nil_of_le (by omega)
def tot:(t:Ty)→t.den→Nat
 | .unit,_=>0
 | .int _,_=>0
 | .bool,_=>0
 | .str,s=>s.size
 | .sl t,xs=>xs.length+(xs.map (tot t)).sum
 | .pair a b,x=>tot a x.1+tot b x.2
def left (t:Ty) (a:t.den) (k:Int):Int:=if (tot t a:Int)≤k then k - tot t a else -1
end Go.G

namespace Go.G
open Go Go.V
end Go.G

namespace Go.G
set_option maxRecDepth 100000
open Go Go.V Go.Proofs
abbrev Pair:=Int×Int×Unit
abbrev Got:=List Pair
abbrev Op3:=Int×Int×Int×Unit
abbrev qnk:=Got×List Int×Int×Bool×Unit
abbrev Work:=Got×Int×Bool×Unit
def inR (x a b:Int):Bool:=bif decide (x≥a) then decide (x≤b) else false
theorem qcc {x a b:Int}:inR x a b=true↔a≤x∧x≤b:=by
 unfold inR
 by_cases h:x≥a
 ·rw[z11 h];simp only[z21,z45];omega
 ·rw[z10 h];simp only[z20];constructor
  ·intro k;cases k
  ·intro k;omega
theorem qrt {x a b:Int} (h:¬ (a≤x∧x≤b)):inR x a b=false:=by
 cases k:inR x a b
 ·rfl
 ·exact absurd (qcc.1 k) h
def qp (k:Int):Int:=bif inR k 0 3 then k else -1
def qy (v:Int):Int:=bif inR v 1 6 then wrap .i64 (3+v) else -1
def qby (c:Int):Int:=bif inR c 0 2 then wrap .i64 (10+c) else -1
def qbv (v:Int):Int:=bif inR v 1 6 then wrap .i64 (13+v) else -1
def qg (v:Int):Int:=bif inR v 1 6 then Int.tmod v 3 else -1
section
variable {X:Ext} (hX:XOk X) {n:Nat}
include hX
theorem qd4 (hn:1≤n) (x a b:Int):qbp (DD X n) x a b=some ((inR x a b,()),()):=by
 obtain ⟨n,rfl⟩:∃ k,n=k+1:=⟨n - 1,by omega⟩
 rw[qbu0 hX];rfl
theorem qqi (hn:1≤n) (x a b:Int):qbo (DD X n) x a b=some ((inR x a b,()),()):=by
 obtain ⟨n,rfl⟩:∃ k,n=k+1:=⟨n - 1,by omega⟩
 rw[qbu5 hX];rfl
theorem qbbx (hn:1≤n) (b:Bool) (x:Int):qk4 (DD X n) b x=some ((bif b then x else -1,()),()):=by
 obtain ⟨n,rfl⟩:∃ k,n=k+1:=⟨n - 1,by omega⟩
 rw[qbpo hX]
 cases b<;>rfl
theorem qbo8 (hn:2≤n) (x:Int):qqx (DD X n) x=some ((inR x 0 3,()),()):=by
 obtain ⟨n,rfl⟩:∃ k,n=k+1:=⟨n - 1,by omega⟩
 rw[qbtj hX]
 simp only[q5b,qbei]
 rw[qd4 hX (by omega),qc]
theorem qvl (hn:2≤n) (x:Int):qhn (DD X n) x=some ((inR x 1 6,()),()):=by
 obtain ⟨n,rfl⟩:∃ k,n=k+1:=⟨n - 1,by omega⟩
 rw[qbtb hX]
 simp only[q5l,qbep]
 rw[qd4 hX (by omega),qc]
theorem qbsa (hn:2≤n) (x:Int):qry (DD X n) x=some ((inR x 0 2,()),()):=by
 obtain ⟨n,rfl⟩:∃ k,n=k+1:=⟨n - 1,by omega⟩
 rw[qbnb hX]
 simp only[qza,qbaf]
 rw[qd4 hX (by omega),qc]
theorem qbpd (hn:2≤n) (x:Int):qv5 (DD X n) x=some ((inR x 0 3,()),()):=by
 obtain ⟨n,rfl⟩:∃ k,n=k+1:=⟨n - 1,by omega⟩
 rw[qbr6 hX]
 simp only[q5x,qbda]
 rw[qqi hX (by omega),qc]
theorem qvj (hn:2≤n) (x:Int):qjb (DD X n) x=some ((inR x 1 6,()),()):=by
 obtain ⟨n,rfl⟩:∃ k,n=k+1:=⟨n - 1,by omega⟩
 rw[qbrt hX]
 simp only[q65,qbde]
 rw[qqi hX (by omega),qc]
theorem qbvk (hn:2≤n) (x:Int):qxx (DD X n) x=some ((inR x 1 4,()),()):=by
 obtain ⟨n,rfl⟩:∃ k,n=k+1:=⟨n - 1,by omega⟩
 rw[qbt9 hX]
 simp only[q5f,qbd9]
 rw[qqi hX (by omega),qc]
theorem qmk (hn:1≤n) (x:Int):qhf (DD X n) x=some ((bif bif bif decide (x=1) then true else decide (x=2) then true else decide (x=5) then true else decide (x=10),()),()):=by
 obtain ⟨n,rfl⟩:∃ k,n=k+1:=⟨n - 1,by omega⟩
 rw[qbs9 hX];rfl
theorem qgf (hn:1≤n):qcp (DD X n)=some ((13,()),()):=by
 obtain ⟨n,rfl⟩:∃ k,n=k+1:=⟨n - 1,by omega⟩
 rw[qbl4 hX];rfl
theorem qbhc (hn:1≤n):qr8 (DD X n)=some ((13,()),()):=by
 obtain ⟨n,rfl⟩:∃ k,n=k+1:=⟨n - 1,by omega⟩
 rw[qbmx hX];rfl
theorem qi1 (hn:3≤n) (x:Int):qfd (DD X n) x=some ((qp x,()),()):=by
 obtain ⟨n,rfl⟩:∃ k,n=k+1:=⟨n - 1,by omega⟩
 rw[qbr9 hX]
 simp only[q6g,qbeh]
 rw[qbo8 hX (by omega),qc,qbbx hX (by omega),qc]
 rfl
theorem qj0 (hn:3≤n) (x:Int):qdj (DD X n) x=some ((qy x,()),()):=by
 obtain ⟨n,rfl⟩:∃ k,n=k+1:=⟨n - 1,by omega⟩
 rw[qbl2 hX]
 simp only[qzo,q96]
 rw[qvl hX (by omega),qc,qbbx hX (by omega),qc]
 rfl
theorem qj2 (hn:3≤n) (x:Int):qdi (DD X n) x=some ((qby x,()),()):=by
 obtain ⟨n,rfl⟩:∃ k,n=k+1:=⟨n - 1,by omega⟩
 rw[qbns hX]
 simp only[qz4,q84]
 rw[qbsa hX (by omega),qc,qbbx hX (by omega),qc]
 rfl
theorem qlg (hn:3≤n) (x:Int):qej (DD X n) x=some ((qbv x,()),()):=by
 obtain ⟨n,rfl⟩:∃ k,n=k+1:=⟨n - 1,by omega⟩
 rw[qbtp hX]
 simp only[q6d,qben]
 rw[qvl hX (by omega),qc,qgf hX (by omega),qc,qbbx hX (by omega),qc]
 rfl
theorem qoy (hn:3≤n) (x:Int):qc3 (DD X n) x=some ((qg x,()),()):=by
 obtain ⟨n,rfl⟩:∃ k,n=k+1:=⟨n - 1,by omega⟩
 rw[qbl3 hX]
 simp only[q0c,q9z]
 rw[qvl hX (by omega),qc]
 unfold qg
 cases inR x 1 6<;>rfl
theorem qbzg (hn:3≤n) (x:Int):q48 (DD X n) x=some ((qp x,()),()):=by
 obtain ⟨n,rfl⟩:∃ k,n=k+1:=⟨n - 1,by omega⟩
 rw[qbtz hX]
 simp only[q6l,qbdp]
 rw[qbpd hX (by omega),qc]
 unfold qp
 cases inR x 0 3<;>rfl
theorem qbu2 (hn:3≤n) (x:Int):q0n (DD X n) x=some ((qy x,()),()):=by
 obtain ⟨n,rfl⟩:∃ k,n=k+1:=⟨n - 1,by omega⟩
 rw[qbl7 hX]
 simp only[q0r,qbat]
 rw[qvj hX (by omega),qc]
 unfold qy
 cases inR x 1 6<;>rfl
theorem qbuj (hn:3≤n) (x:Int):qz7 (DD X n) x=some ((qby x,()),()):=by
 obtain ⟨n,rfl⟩:∃ k,n=k+1:=⟨n - 1,by omega⟩
 rw[qbn3 hX]
 simp only[qy8,qbad]
 rw[qqi hX (by omega),qc]
 unfold qby
 cases inR x 0 2<;>rfl
theorem qby3 (hn:3≤n) (x:Int):q66 (DD X n) x=some ((qbv x,()),()):=by
 obtain ⟨n,rfl⟩:∃ k,n=k+1:=⟨n - 1,by omega⟩
 rw[qbta hX]
 simp only[q54,qbd4]
 rw[qvj hX (by omega),qc,qbhc hX (by omega),qc]
 unfold qbv
 cases inR x 1 6<;>rfl
theorem qbup (hn:3≤n) (x:Int):q0a (DD X n) x=some ((qg x,()),()):=by
 obtain ⟨n,rfl⟩:∃ k,n=k+1:=⟨n - 1,by omega⟩
 rw[qbn6 hX]
 simp only[qzx,q8z]
 rw[qvj hX (by omega),qc]
 unfold qg
 cases inR x 1 6<;>rfl
end
def rd (at':Int):Got→Int→Bool→Int×Bool
 | [],n,ok=>(n,ok)
 | p::l,n,ok=>if p.1=at' then rd at' l p.2.1 true else rd at' l n ok
theorem qblr (at':Int) (p:Pair):∀ (l:Got) (n:Int) (ok:Bool),rd at' (l++[p]) n ok=if p.1=at' then (p.2.1,true) else rd at' l n ok
 | [],n,ok=>by simp only[z46,rd]
 | q::l,n,ok=>by
  simp only[z40,rd]
  by_cases h:q.1=at'
  ·rw[z6 h,z6 h];exact qblr at' p l _ _
  ·rw[z5 h,z5 h];exact qblr at' p l _ _
def qbf (got:Got) (at':Int):Int×Bool:=rd at' got 0 false
theorem qbjy (D:Den ctx) (n:Nat) (K0:Int→Bool→Option ((Int×Bool×Unit)×Unit)) (K1:Option ((Int×Bool×Unit)×Unit)) (hK:K0 0 false=K1) (got:Got) (hg:got.length≤1048576) (at':Int):∀ (m k:Nat),k≤got.length→k<m→
  qrl D n K0 K1 m got at' ((k:Int) - 1)=K0 (qbf (got.take k) at').1 (qbf (got.take k) at').2
 | 0,_,_,h=>by omega
 | m+1,k,hk,hf=>by
  simp only[qrl,q4z]
  cases k with
  | zero=>
   rw[qi (by omega),List.take_zero]
   exact hK.symm
  | succ j=>
   have hj:j<got.length:=by omega
   have e1:(((j+1:Nat):Int) - 1)=(j:Int):=by omega
   have e2:wrap .i64 ((j:Int) - 1)=(j:Int) - 1:=qn (by omega) (by omega)
   rw[e1,qh (by omega),ix hj,br_t,br_t,z12,e2,qx hj,z32 hj]
   unfold qbf
   rw[qblr]
   by_cases e:got[j].1=at'
   ·rw[qh e,z6 e]
   ·rw[qi e,z5 e]
    exact qbjy D n K0 K1 hK got hg at' m j (by omega) (by omega)
theorem qhc {X:Ext} (hX:XOk X) {n:Nat} (hn:W+1≤n) (got:Got) (hg:got.length≤1048576) (at':Int):qer (DD X n) got at'=some (((qbf got at').1,(qbf got at').2,()),()):=by
 obtain ⟨n,rfl⟩:∃ k,n=k+1:=⟨n - 1,by omega⟩
 have hW:=qbk
 rw[qbu1 hX]
 simp only[q8l,q8o,q27]
 rw[qn (by omega) (by omega),qbjy (DD X n) n (fun v0_0 v0_1=>qbao (DD X n) n v0_0 v0_1) (qbac (DD X n) n) rfl got hg at' n got.length (Nat.le_refl _) (by omega),List.take_length]
 rfl
end Go.G

namespace Go.G
set_option maxRecDepth 100000
open Go Go.V Go.Proofs
structure Both (got:Got) (a:qnk) (w:Work) (k:Nat):Prop where
 g1:a.1=got
 g2:w.1=got
 miss:a.2.2.1=w.2.1
 over:a.2.2.2.1=w.2.2.1
 pl:a.2.1.length≤k
section
variable {X:Ext} (hX:XOk X) {n:Nat} (hn:W+6≤n) {got:Got} (hg:got.length≤1048576)
include hX hn hg
end
theorem qbq8 {X:Ext} (hX:XOk X) {n:Nat} (hn:1≤n) {a:qnk} (h:a.2.2.2.1=true) (p:Int):qs (DD X n) a p=some ((0,()),(a,())):=by
 obtain ⟨n,rfl⟩:∃ k,n=k+1:=⟨n - 1,by omega⟩
 rw[qu0 hX]
 simp only[qko,qnw]
 rw[h,br_t]
theorem q46 {X:Ext} (hX:XOk X) (N n:Nat) (hN:3≤N) (K:qnk→Option (Unit×qnk×Unit)) (l:List Int) (hl:l.length≤2) {a:qnk} (h:a.2.2.2.1=true):∀ (m i:Nat),l.length - i<m→
  qf2 (DD X N) n K m l (l.length:Int) (i:Int) a=K a
 | 0,_,h=>by omega
 | m+1,i,hf=>by
  simp only[qf2,qma]
  by_cases hi:i<l.length
  ·rw[qh (by exact_mod_cast hi),ix hi,br_t,z12,qlg hX (by omega),qc]
   dsimp only
   rw[qbq8 hX (by omega) h,qc,qt (by omega)]
   exact q46 hX N n hN K l hl h m (i+1) (by omega)
  ·rw[qi (by exact_mod_cast hi)]
end Go.G

namespace Go.G
set_option maxRecDepth 100000
open Go Go.V Go.Proofs
section
variable {X:Ext} (hX:XOk X) {n:Nat} {got:Got} (hg:got.length≤1048576)
include hX hg
end
section
variable {X:Ext} (hX:XOk X) {n:Nat} {got:Got} (hg:got.length≤1048576)
include hX hg
end
end Go.G

namespace Go.G
set_option maxRecDepth 100000
open Go Go.V Go.Proofs
end Go.G

namespace Go.G
set_option maxRecDepth 100000
open Go Go.V Go.Proofs
def hit (got:Got) (p:Int):Bool:=decide (0≤p)&&(qbf got p).2
inductive PR where
 | done
 | ask (p:Int) (k:Int→PR)
def run (got:Got):PR→List Int×Int
 | .done=>([],-1)
 | .ask p k=>bif hit got p then (p::(run got (k (qbf got p).1)).1,(run got (k (qbf got p).1)).2) else ([],p)
theorem qc6 {got:Got} {p:Int} {k:Int→PR} (h:hit got p=false):run got (.ask p k)=([],p):=by
 simp only[run];rw[h];rfl
theorem qd6 {got:Got} {p:Int} {k:Int→PR} (h:hit got p=true):run got (.ask p k)=(p::(run got (k (qbf got p).1)).1,(run got (k (qbf got p).1)).2):=by
 simp only[run];rw[h];rfl
def qbby:List Int→PR
 | []=>.done
 | v::l=>.ask (qbv v) fun _=>qbby l
def qjg (k:Int) (l:List Int):PR:=.ask 13 fun st=>bif decide (st≤wrap .i64 (k+1)) then .done else qbby l
def qie (o:Op3):PR:=.ask (qp o.2.1) fun r=>bif r != 0 then .done else .ask (qy o.2.2.1) fun w=>bif w != 0 then .done else .ask (qby (qg o.2.2.1)) fun _=>qjg o.2.1 [o.2.2.1]
def qik (o:Op3):PR:=.ask (qp o.2.1) fun r=>bif (bif decide (r=0) then true else decide (r=o.2.2.1)) then .done else .ask (qy o.2.2.1) fun w=>bif w != 0 then .done else .ask (qy r) fun _=>
 bif qg r != qg o.2.2.1 then .ask (qby (qg r)) fun _=>.ask (qby (qg o.2.2.1)) fun _=>qjg o.2.1 [r,o.2.2.1] else qjg o.2.1 [r,o.2.2.1]
def qkc (o:Op3):PR:=.ask (qp o.2.1) fun r=>bif decide (r=0) then .done else .ask (qy r) fun _=>.ask (qby (qg r)) fun _=>qjg o.2.1 [r]
def qkh:PR:=.ask 13 fun st=>bif (bif decide (st<1) then true else decide (st>4)) then .done else .ask (qp (wrap .i64 (st - 1))) fun r=>bif !inR r 1 6 then .done else .ask (qbv r) fun _=>.done
def qk2 (o:Op3):PR:=.ask 13 fun st=>bif st != 5 then .done else .ask (qbv o.2.2.1) fun _=>.done
def qn1:PR:=.ask 0 fun _=>.ask 1 fun _=>.ask 2 fun _=>.ask 3 fun _=>.done
def prog (o:Op3):PR:=
 if o.1=1 then qie o else if o.1=2 then qik o else if o.1=3 then qkc o else
 if o.1=4 then .ask (qp o.2.1) fun _=>.done else if o.1=5 then .ask (qy o.2.2.1) fun _=>.done else if o.1=6 then .ask (qby o.2.1) fun _=>.done else
 if o.1=7 then qn1 else if o.1=8 then .ask 13 fun _=>.done else if o.1=9 then qkh else if o.1=10 then qk2 o else .done
section
variable {X:Ext} (hX:XOk X) {n:Nat} {got:Got}
include hX
theorem qy5 (hn:1≤n) (pl:List Int) (m p:Int):qs (DD X n) (got,pl,m,true,()) p=some ((0,()),((got,pl,m,true,()),())):=qbq8 hX hn rfl p
theorem q1c (hn:1≤n) (pl:List Int) (m:Int) (o b:Bool):qb9 (DD X n) (got,pl,m,o,()) b=some ((),((got,pl,m,bif o then true else b,()),())):=by
 obtain ⟨n,rfl⟩:∃ k,n=k+1:=⟨n - 1,by omega⟩
 rw[qbfs hX];rfl
theorem qfb (hn:W+2≤n) (hg:got.length≤1048576) {pl:List Int} (hl:pl.length≤1000) (m:Int) {p:Int} (h:hit got p=true) :
  qs (DD X n) (got,pl,m,false,()) p=some (((qbf got p).1,()),((got,pl++[p],m,false,()),())):=by
 obtain ⟨n,rfl⟩:∃ k,n=k+1:=⟨n - 1,by omega⟩
 have hb:=qbh
 unfold hit at h
 simp only[z9,z45] at h
 rw[qu0 hX]
 simp only[qko,qnw]
 rw[br_f,qhc hX (by omega) got hg,qc]
 dsimp only
 rw[z10 (by omega:¬ p<0),h.2,z13,z20,br_f,qh (by omega)]
theorem qdg (hn:W+2≤n) (hg:got.length≤1048576) (pl:List Int) (m:Int) {p:Int} (h:hit got p=false) :
  qs (DD X n) (got,pl,m,false,()) p=some ((0,()),((got,pl,p,true,()),())):=by
 obtain ⟨n,rfl⟩:∃ k,n=k+1:=⟨n - 1,by omega⟩
 unfold hit at h
 rw[qu0 hX]
 simp only[qko,qnw]
 rw[br_f,qhc hX (by omega) got hg,qc]
 dsimp only
 have:(bif decide (p<0) then true else !(qbf got p).2)=true:=by
  by_cases h0:p<0
  ·rw[z11 h0];rfl
  ·rw[z10 h0]
   rw[z11 (by omega:0≤p),Bool.true_and] at h
   rw[h];rfl
 rw[this,br_t]
theorem qb1z (N m0:Nat) (hN:W+4≤N) (hg:got.length≤1048576) (K:qnk→Option (Unit×qnk×Unit)) (l:List Int) (hl:l.length≤2):∀ (m i:Nat) (pl:List Int),l.length - i<m→i≤l.length→pl.length≤20+i→
  ∃ b,qf2 (DD X N) n K m l (l.length:Int) (i:Int) (got,pl,-1,false,())=K (got,pl++(run got (qbby (l.drop i))).1,(run got (qbby (l.drop i))).2,b,())
 | 0,_,_,h,_,_=>by omega
 | m+1,i,pl,hf,hi,hp=>by
  simp only[qf2,qma]
  by_cases h:i<l.length
  ·rw[qh (by exact_mod_cast h),ix h,br_t,z12,qlg hX (by omega),qc,qx h]
   dsimp only
   rw[qhr h]
   simp only[qbby]
   rw[qt (by omega)]
   cases hh:hit got (qbv l[i])
   ·rw[qdg hX (by omega) hg _ _ hh,qc,qc6 hh]
    dsimp only
    rw[q46 hX N n (by omega) K l hl (by rfl) m (i+1) (by omega)]
    exact ⟨true,by rw[z48]⟩
   ·rw[qfb hX (by omega) hg (by omega) _ hh,qc,qd6 hh]
    dsimp only
    obtain ⟨b,e⟩:=qb1z N m0 hN hg K l hl m (i+1) (pl++[qbv l[i]]) (by omega) (by omega) (by rw[z19];simp only[z22,List.length_nil];omega)
    rw[e]
    exact ⟨b,by rw[z33];rfl⟩
  ·rw[qi (by exact_mod_cast h),qji h]
   exact ⟨false,by simp only[qbby,run];rw[z48]⟩
theorem qbjo (hn:W+6≤n) (hg:got.length≤1048576) {pl:List Int} (hp:pl.length≤10) (c:Int) (l:List Int) (hl:l.length≤2) :
  ∃ b,qgm (DD X n) (got,pl,-1,false,()) c l=some ((),((got,pl++(run got (qjg c l)).1,(run got (qjg c l)).2,b,()),())):=by
 obtain ⟨n,rfl⟩:∃ k,n=k+1:=⟨n - 1,by omega⟩
 have hW:=qbk
 rw[q6t hX]
 simp only[qn3,qoe,qlc]
 rw[qgf hX (by omega),qc]
 dsimp only
 unfold qjg
 cases h:hit got 13
 ·rw[qdg hX (by omega) hg _ _ h,qc,qc6 h]
  dsimp only
  rw[q1c hX (by omega),qc]
  dsimp only
  rw[z21]
  have e:=q46 hX n n (by omega) (fun v0_0=>qh6 (DD X n) n v0_0) l hl (a:=(got,pl,13,true,())) rfl n 0 (by omega)
  rw[show ((0:Nat):Int)=0 from rfl] at e
  rw[e]
  exact ⟨true,by rw[z48];rfl⟩
 ·rw[qfb hX (by omega) hg (by omega) _ h,qc,qd6 h]
  dsimp only
  rw[q1c hX (by omega),qc]
  dsimp only
  rw[z20]
  cases hs:decide ((qbf got 13).1≤wrap .i64 (c+1))
  ·rw[z20]
   obtain ⟨b,e⟩:=qb1z hX n 0 (by omega) hg (fun v0_0=>qh6 (DD X n) n v0_0) l hl n 0 (pl++[13]) (by omega) (by omega) (by rw[z19];simp only[z22,List.length_nil];omega)
   rw[show ((0:Nat):Int)=0 from rfl,List.drop_zero] at e
   rw[e]
   exact ⟨b,by rw[z33];rfl⟩
  ·rw[z21]
   have e:=q46 hX n n (by omega) (fun v0_0=>qh6 (DD X n) n v0_0) l hl (a:=(got,pl++[13],-1,true,())) rfl n 0 (by omega)
   rw[show ((0:Nat):Int)=0 from rfl] at e
   rw[e]
   exact ⟨true,rfl⟩
theorem qbim (hn:5≤n) (pl:List Int) (m c:Int) (l:List Int) (hl:l.length≤2) (hW2:W+6≤n):qgm (DD X n) (got,pl,m,true,()) c l=some ((),((got,pl,m,true,()),())):=by
 obtain ⟨n,rfl⟩:∃ k,n=k+1:=⟨n - 1,by omega⟩
 have hW:=qbk
 rw[q6t hX]
 simp only[qn3,qoe,qlc]
 rw[qgf hX (by omega),qc]
 dsimp only
 rw[qy5 hX (by omega),qc]
 dsimp only
 rw[q1c hX (by omega),qc]
 dsimp only
 rw[z21]
 have e:=q46 hX n n (by omega) (fun v0_0=>qh6 (DD X n) n v0_0) l hl (a:=(got,pl,m,true,())) rfl n 0 (by omega)
 rw[show ((0:Nat):Int)=0 from rfl] at e
 rw[e]
 rfl
end
end Go.G

namespace Go.G
set_option maxRecDepth 100000
open Go Go.V Go.Proofs
section
variable {X:Ext} (hX:XOk X) {n:Nat} {got:Got}
include hX
theorem qb0j (hn:W+8≤n) (hg:got.length≤1048576) (K V:Int) :
  ∃ b,qhx (DD X n) (got,[],-1,false,()) (1,K,V,())=some ((),((got,(run got (qie (1,K,V,()))).1,(run got (qie (1,K,V,()))).2,b,()),())):=by
 obtain ⟨n,rfl⟩:∃ k,n=k+1:=⟨n - 1,by omega⟩
 have hW:=qbk
 have he:=fun pl m p=>qy5 hX (n:=n) (got:=got) (by omega) pl m p
 have hs:=fun pl m o b=>q1c hX (n:=n) (got:=got) (by omega) pl m o b
 have hr:=fun x=>qi1 hX (n:=n) (by omega) x
 have ho:=fun x=>qj0 hX (n:=n) (by omega) x
 have hc:=fun x=>qj2 hX (n:=n) (by omega) x
 have hk:=fun x=>qoy hX (n:=n) (by omega) x
 have hwe:=fun pl m c l hl=>qbim hX (n:=n) (got:=got) (by omega) pl m c l hl (by omega)
 rw[qps hX]
 simp only[qh0,qkp]
 rw[hr,qc]
 dsimp only
 unfold qie
 dsimp only
 cases h1:hit got (qp K)
 ·rw[qdg hX (by omega) hg _ _ h1,qc,qc6 h1]
  dsimp only
  rw[qh trivial]
  simp only[he,hs,ho,hc,hk,qc,z21,hwe _ _ _ [V] (by simp)]
  exact ⟨true,rfl⟩
 ·rw[qfb hX (by omega) hg (by simp) _ h1,qc,qd6 h1]
  dsimp only
  rw[qh trivial,hs,qc]
  dsimp only
  rw[z20]
  cases h2:((qbf got (qp K)).1 != 0)
  ·rw[z20,ho,qc]
   dsimp only
   cases h3:hit got (qy V)
   ·rw[qdg hX (by omega) hg _ _ h3,qc,qc6 h3]
    simp only[he,hs,ho,hc,hk,qc,z21,hwe _ _ _ [V] (by simp)]
    exact ⟨true,rfl⟩
   ·rw[qfb hX (by omega) hg (by simp) _ h3,qc,qd6 h3]
    dsimp only
    rw[hs,qc]
    dsimp only
    rw[z20]
    cases h4:((qbf got (qy V)).1 != 0)
    ·rw[z20,hk,qc]
     dsimp only
     rw[hc,qc]
     dsimp only
     cases h5:hit got (qby (qg V))
     ·rw[qdg hX (by omega) hg _ _ h5,qc,qc6 h5]
      simp only[qc,hwe _ _ _ [V] (by simp)]
      exact ⟨true,rfl⟩
     ·rw[qfb hX (by omega) hg (by simp) _ h5,qc,qd6 h5]
      dsimp only
      obtain ⟨b,e⟩:=qbjo hX (n:=n) (by omega) hg (pl:=[]++[qp K]++[qy V]++[qby (qg V)]) (by simp) K [V] (by simp)
      rw[e,qc]
      exact ⟨b,rfl⟩
    ·simp only[he,hs,ho,hc,hk,qc,z21,hwe _ _ _ [V] (by simp),run]
     exact ⟨true,rfl⟩
  ·simp only[he,hs,ho,hc,hk,qc,z21,hwe _ _ _ [V] (by simp),run]
   exact ⟨true,rfl⟩
theorem qb0p (hn:W+8≤n) (hg:got.length≤1048576) (K V:Int) :
  ∃ b,qhx (DD X n) (got,[],-1,false,()) (2,K,V,())=some ((),((got,(run got (qik (2,K,V,()))).1,(run got (qik (2,K,V,()))).2,b,()),())):=by
 obtain ⟨n,rfl⟩:∃ k,n=k+1:=⟨n - 1,by omega⟩
 have hW:=qbk
 have he:=fun pl m p=>qy5 hX (n:=n) (got:=got) (by omega) pl m p
 have hs:=fun pl m o b=>q1c hX (n:=n) (got:=got) (by omega) pl m o b
 have hr:=fun x=>qi1 hX (n:=n) (by omega) x
 have ho:=fun x=>qj0 hX (n:=n) (by omega) x
 have hc:=fun x=>qj2 hX (n:=n) (by omega) x
 have hk:=fun x=>qoy hX (n:=n) (by omega) x
 have hwe:=fun pl m c a b=>qbim hX (n:=n) (got:=got) (by omega) pl m c [a,b] (by simp) (by omega)
 have hsame:∀ (c:Bool) (x:Option (Unit×qnk×Unit)),br c x x=x:=by intro c x;cases c<;>rfl
 rw[qps hX]
 simp only[qh0,qkp]
 rw[hr,qc]
 dsimp only
 unfold qik
 dsimp only
 cases h1:hit got (qp K)
 ·rw[qdg hX (by omega) hg _ _ h1,qc,qc6 h1]
  dsimp only
  rw[qi (by decide),qh trivial]
  simp only[he,hs,ho,hc,hk,qc,z21,hwe,hsame]
  exact ⟨true,rfl⟩
 ·rw[qfb hX (by omega) hg (by simp) _ h1,qc,qd6 h1]
  dsimp only
  generalize hv:(qbf got (qp K)).1=v
  rw[qi (by decide),qh trivial,hs,qc]
  dsimp only
  rw[z20]
  cases h2:(bif decide (v=0) then true else decide (v=V))
  ·rw[z20,ho,qc]
   dsimp only
   cases h3:hit got (qy V)
   ·rw[qdg hX (by omega) hg _ _ h3,qc,qc6 h3]
    simp only[he,hs,ho,hc,hk,qc,z21,hwe,hsame]
    exact ⟨true,rfl⟩
   ·rw[qfb hX (by omega) hg (by simp) _ h3,qc,qd6 h3]
    dsimp only
    rw[hs,qc]
    dsimp only
    rw[z20]
    cases h4:((qbf got (qy V)).1 != 0)
    ·rw[z20,ho,qc]
     dsimp only
     cases h5:hit got (qy v)
     ·rw[qdg hX (by omega) hg _ _ h5,qc,qc6 h5]
      simp only[he,hs,ho,hc,hk,qc,z21,hwe,hsame]
      exact ⟨true,rfl⟩
     ·rw[qfb hX (by omega) hg (by simp) _ h5,qc,qd6 h5,hk,qc,hk,qc]
      dsimp only
      cases h6:(qg v != qg V)
      ·rw[br_f,z20]
       obtain ⟨b,e⟩:=qbjo hX (n:=n) (by omega) hg (pl:=[]++[qp K]++[qy V]++[qy v]) (by simp) K [v,V] (by simp)
       rw[e,qc]
       exact ⟨b,rfl⟩
      ·rw[br_t,z21]
       simp only[qc]
       rw[hc,qc]
       dsimp only
       cases h7:hit got (qby (qg v))
       ·rw[qdg hX (by omega) hg _ _ h7,qc,qc6 h7]
        simp only[he,hs,ho,hc,hk,qc,z21,hwe,hsame]
        exact ⟨true,rfl⟩
       ·rw[qfb hX (by omega) hg (by simp) _ h7,qc,qd6 h7]
        simp only[qc]
        rw[hc,qc]
        dsimp only
        cases h8:hit got (qby (qg V))
        ·rw[qdg hX (by omega) hg _ _ h8,qc,qc6 h8]
         simp only[he,hs,ho,hc,hk,qc,z21,hwe,hsame]
         exact ⟨true,rfl⟩
        ·rw[qfb hX (by omega) hg (by simp) _ h8,qc,qd6 h8]
         dsimp only
         obtain ⟨b,e⟩:=qbjo hX (n:=n) (by omega) hg (pl:=[]++[qp K]++[qy V]++[qy v]++[qby (qg v)]++[qby (qg V)]) (by simp) K [v,V] (by simp)
         rw[e,qc]
         exact ⟨b,rfl⟩
    ·simp only[he,hs,ho,hc,hk,qc,z21,hwe,run,hsame]
     exact ⟨true,rfl⟩
  ·simp only[he,hs,ho,hc,hk,qc,z21,hwe,run,hsame]
   exact ⟨true,rfl⟩
theorem qb02 (hn:W+8≤n) (hg:got.length≤1048576) (K V:Int) :
  ∃ b,qhx (DD X n) (got,[],-1,false,()) (3,K,V,())=some ((),((got,(run got (qkc (3,K,V,()))).1,(run got (qkc (3,K,V,()))).2,b,()),())):=by
 obtain ⟨n,rfl⟩:∃ k,n=k+1:=⟨n - 1,by omega⟩
 have hW:=qbk
 have he:=fun pl m p=>qy5 hX (n:=n) (got:=got) (by omega) pl m p
 have hs:=fun pl m o b=>q1c hX (n:=n) (got:=got) (by omega) pl m o b
 have hr:=fun x=>qi1 hX (n:=n) (by omega) x
 have ho:=fun x=>qj0 hX (n:=n) (by omega) x
 have hc:=fun x=>qj2 hX (n:=n) (by omega) x
 have hk:=fun x=>qoy hX (n:=n) (by omega) x
 have hwe:=fun pl m c a=>qbim hX (n:=n) (got:=got) (by omega) pl m c [a] (by simp) (by omega)
 rw[qps hX]
 simp only[qh0,qkp]
 rw[hr,qc]
 dsimp only
 unfold qkc
 dsimp only
 cases h1:hit got (qp K)
 ·rw[qdg hX (by omega) hg _ _ h1,qc,qc6 h1]
  dsimp only
  rw[qi (by decide),qi (by decide)]
  simp only[he,hs,ho,hc,hk,qc,z21,hwe]
  exact ⟨true,rfl⟩
 ·rw[qfb hX (by omega) hg (by simp) _ h1,qc,qd6 h1]
  dsimp only
  generalize hv:(qbf got (qp K)).1=v
  rw[qi (by decide),qi (by decide),hs,qc]
  dsimp only
  rw[z20]
  cases h2:decide (v=0)
  ·rw[z20,ho,qc]
   dsimp only
   cases h3:hit got (qy v)
   ·rw[qdg hX (by omega) hg _ _ h3,qc,qc6 h3]
    simp only[he,hs,ho,hc,hk,qc,z21,hwe]
    exact ⟨true,rfl⟩
   ·rw[qfb hX (by omega) hg (by simp) _ h3,qc,qd6 h3,hk,qc]
    dsimp only
    rw[hc,qc]
    dsimp only
    cases h5:hit got (qby (qg v))
    ·rw[qdg hX (by omega) hg _ _ h5,qc,qc6 h5]
     simp only[he,hs,ho,hc,hk,qc,z21,hwe]
     exact ⟨true,rfl⟩
    ·rw[qfb hX (by omega) hg (by simp) _ h5,qc,qd6 h5]
     dsimp only
     obtain ⟨b,e⟩:=qbjo hX (n:=n) (by omega) hg (pl:=[]++[qp K]++[qy v]++[qby (qg v)]) (by simp) K [v] (by simp)
     rw[e,qc]
     exact ⟨b,rfl⟩
  ·simp only[he,hs,ho,hc,hk,qc,z21,hwe,run]
   exact ⟨true,rfl⟩
end
end Go.G

namespace Go.G
set_option maxRecDepth 100000
open Go Go.V Go.Proofs
section
variable {X:Ext} (hX:XOk X) {n:Nat} {got:Got}
include hX
theorem qbey (hn:W+2≤n) (hg:got.length≤1048576) (p:Int):∃ b,qd (qs (DD X n) (got,[],-1,false,()) p) (fun b=>some ((b.2.1,()),())) =
  (some (((got,(run got (.ask p fun _=>.done)).1,(run got (.ask p fun _=>.done)).2,b,()),()),()):Option ((qnk×Unit)×Unit)):=by
 cases h:hit got p
 ·rw[qdg hX hn hg _ _ h,qc,qc6 h];exact ⟨true,rfl⟩
 ·rw[qfb hX hn hg (by simp) _ h,qc,qd6 h];exact ⟨false,rfl⟩
theorem qbyp (hn:W+2≤n) (hn3:3≤n) (hg:got.length≤1048576):∃ b,
  qd (qcp (DD X n)) (fun b↦
          qd (qs (DD X n) (got,[],-1,false,()) (Prod.fst (Prod.fst b))) fun b↦
           qd
            (qb9 (DD X n) (Prod.fst (Prod.snd b))
             (bif decide (Prod.fst (Prod.fst b)<1) then true else decide (Prod.fst (Prod.fst b)>4)))
            fun b_1↦
            qd (qfd (DD X n) (wrap .i64 (Prod.fst (Prod.fst b) - 1))) fun b↦
             qd (qs (DD X n) (Prod.fst (Prod.snd b_1)) (Prod.fst (Prod.fst b))) fun b↦
              qd (qhn (DD X n) (Prod.fst (Prod.fst b))) fun b_2↦
               qd (qb9 (DD X n) (Prod.fst (Prod.snd b)) !Prod.fst (Prod.fst b_2)) fun b_3↦
                qd (qej (DD X n) (Prod.fst (Prod.fst b))) fun b↦
                 qd (qs (DD X n) (Prod.fst (Prod.snd b_3)) (Prod.fst (Prod.fst b))) fun b↦
                  some ((Prod.fst (Prod.snd b),()),()))=(some (((got,(run got qkh).1,(run got qkh).2,b,()),()),()):Option ((qnk×Unit)×Unit)):=by
 have he:=fun pl m p=>qy5 hX (n:=n) (got:=got) (by omega) pl m p
 have hs:=fun pl m o b=>q1c hX (n:=n) (got:=got) (by omega) pl m o b
 have hr:=fun x=>qi1 hX (n:=n) (by omega) x
 have hv:=fun x=>qvl hX (n:=n) (by omega) x
 have hi:=fun x=>qlg hX (n:=n) (by omega) x
 rw[qgf hX (by omega),qc]
 dsimp only
 unfold qkh
 cases h:hit got 13
 ·rw[qdg hX hn hg _ _ h,qc,qc6 h]
  simp only[he,hs,hr,hv,hi,qc,z21]
  exact ⟨true,rfl⟩
 ·rw[qfb hX hn hg (by simp) _ h,qc,qd6 h]
  dsimp only
  generalize (qbf got 13).1=st
  rw[hs,qc]
  dsimp only
  rw[z20]
  cases h2:(bif decide (st<1) then true else decide (st>4))
  ·rw[z20,hr,qc]
   dsimp only
   cases h3:hit got (qp (wrap .i64 (st - 1)))
   ·rw[qdg hX hn hg _ _ h3,qc,qc6 h3]
    simp only[he,hs,hr,hv,hi,qc,z21]
    exact ⟨true,rfl⟩
   ·rw[qfb hX hn hg (by simp) _ h3,qc,qd6 h3]
    dsimp only
    generalize (qbf got (qp (wrap .i64 (st - 1)))).1=r
    rw[hv,qc]
    dsimp only
    rw[hs,qc]
    dsimp only
    rw[z20]
    cases h4:inR r 1 6
    ·simp only[he,hs,hr,hv,hi,qc,Bool.not_false,z21,run]
     exact ⟨true,rfl⟩
    ·rw[z13,z20,hi,qc]
     dsimp only
     cases h5:hit got (qbv r)
     ·rw[qdg hX hn hg _ _ h5,qc,qc6 h5];exact ⟨true,rfl⟩
     ·rw[qfb hX hn hg (by simp) _ h5,qc,qd6 h5];exact ⟨false,rfl⟩
  ·simp only[he,hs,hr,hv,hi,qc,z21,run]
   exact ⟨true,rfl⟩
theorem qb03 (hn:W+2≤n) (hn3:3≤n) (hg:got.length≤1048576) (o:Op3):∃ b,
  qd (qcp (DD X n)) (fun b↦
           qd (qs (DD X n) (got,[],-1,false,()) (Prod.fst (Prod.fst b))) fun b↦
            qd (qb9 (DD X n) (Prod.fst (Prod.snd b)) (Prod.fst (Prod.fst b) != 5)) fun b↦
             qd (qej (DD X n) o.2.2.1) fun b_1↦
              qd (qs (DD X n) (Prod.fst (Prod.snd b)) (Prod.fst (Prod.fst b_1))) fun b↦some ((Prod.fst (Prod.snd b),()),())) =
  (some (((got,(run got (qk2 o)).1,(run got (qk2 o)).2,b,()),()),()):Option ((qnk×Unit)×Unit)):=by
 have he:=fun pl m p=>qy5 hX (n:=n) (got:=got) (by omega) pl m p
 have hs:=fun pl m o b=>q1c hX (n:=n) (got:=got) (by omega) pl m o b
 have hi:=fun x=>qlg hX (n:=n) (by omega) x
 rw[qgf hX (by omega),qc]
 dsimp only
 unfold qk2
 cases h:hit got 13
 ·rw[qdg hX hn hg _ _ h,qc,qc6 h]
  simp only[he,hs,hi,qc,z21]
  exact ⟨true,rfl⟩
 ·rw[qfb hX hn hg (by simp) _ h,qc,qd6 h]
  dsimp only
  generalize (qbf got 13).1=st
  rw[hs,qc]
  dsimp only
  rw[z20]
  cases h2:(st != 5)
  ·rw[z20,hi,qc]
   dsimp only
   cases h5:hit got (qbv o.2.2.1)
   ·rw[qdg hX hn hg _ _ h5,qc,qc6 h5];exact ⟨true,rfl⟩
   ·rw[qfb hX hn hg (by simp) _ h5,qc,qd6 h5];exact ⟨false,rfl⟩
  ·simp only[he,hs,hi,qc,z21,run]
   exact ⟨true,rfl⟩
def q6q:Nat→Nat→PR
 | _,0=>.done
 | i,d+1=>.ask (i:Int) fun _=>q6q (i+1) d
theorem qbr8 (N n:Nat) (hN:3≤N) (K:qnk→Option ((qnk×Unit)×Unit)) (pl:List Int) (m0:Int):∀ (m i:Nat),i≤4→4 - i<m→qhq (DD X N) n K m (i:Int) (got,pl,m0,true,())=K (got,pl,m0,true,())
 | 0,_,_,h=>by omega
 | m+1,i,hi,hf=>by
  simp only[qhq,qoh]
  by_cases h:(i:Int)<4
  ·rw[qh h,qi1 hX (by omega),qc]
   dsimp only
   rw[qy5 hX (by omega),qc,qt (by omega)]
   exact qbr8 N n hN K pl m0 m (i+1) (by omega) (by omega)
  ·rw[qi h]
theorem qbzw (N n:Nat) (hN:W+6≤N) (hN3:3≤N) (hg:got.length≤1048576) (K:qnk→Option ((qnk×Unit)×Unit)):∀ (m d i:Nat) (pl:List Int),i+d=4→d<m→pl.length≤i→
  ∃ b,qhq (DD X N) n K m (i:Int) (got,pl,-1,false,())=K (got,pl++(run got (q6q i d)).1,(run got (q6q i d)).2,b,())
 | 0,_,_,_,_,h,_=>by omega
 | m+1,0,i,pl,hi,hf,hp=>by
  simp only[qhq,qoh]
  rw[qi (by omega)]
  exact ⟨false,by simp only[q6q,run];rw[z48]⟩
 | m+1,d+1,i,pl,hi,hf,hp=>by
  simp only[qhq,qoh]
  have hr:qp (i:Int)=i:=by unfold qp;rw[qcc.2 (by omega)];rfl
  rw[qh (by omega),qi1 hX (by omega),qc,hr]
  dsimp only
  simp only[q6q]
  rw[qt (by omega)]
  cases h:hit got (i:Int)
  ·rw[qdg hX (by omega) hg _ _ h,qc,qc6 h]
   dsimp only
   rw[qbr8 hX N n hN3 K pl (i:Int) m (i+1) (by omega) (by omega)]
   exact ⟨true,by rw[z48]⟩
  ·rw[qfb hX (by omega) hg (by omega) _ h,qc,qd6 h]
   dsimp only
   obtain ⟨b,e⟩:=qbzw N n hN hN3 hg K m d (i+1) (pl++[(i:Int)]) (by omega) (by omega) (by rw[z19];simp only[z22,List.length_nil];omega)
   rw[e]
   exact ⟨b,by rw[z33];rfl⟩
theorem qbt1 (hn:W+10≤n) (hg:got.length≤1048576) (o:Op3) :
  ∃ b,qw5 (DD X n) o got=some (((got,(run got (prog o)).1,(run got (prog o)).2,b,()),()),()):=by
 obtain ⟨n,rfl⟩:∃ k,n=k+1:=⟨n - 1,by omega⟩
 have hW:=qbk
 obtain ⟨k,K,V,⟨⟩⟩:=o
 rw[qbtd hX]
 simp only[q5n,q45]
 unfold prog
 dsimp only
 by_cases k1:k=1
 ·subst k1
  obtain ⟨b,e⟩:=qb0j hX (n:=n) (by omega) hg K V
  rw[qh rfl,qh rfl,e,qc,z6 rfl]
  exact ⟨b,rfl⟩
 rw[qi k1,z5 k1]
 by_cases k2:k=2
 ·subst k2
  obtain ⟨b,e⟩:=qb0p hX (n:=n) (by omega) hg K V
  rw[qh rfl,qh rfl,e,qc,z6 rfl]
  exact ⟨b,rfl⟩
 rw[qi k2,z5 k2]
 by_cases k3:k=3
 ·subst k3
  obtain ⟨b,e⟩:=qb02 hX (n:=n) (by omega) hg K V
  rw[qh rfl,e,qc,z6 rfl]
  exact ⟨b,rfl⟩
 rw[qi k3,z5 k3]
 by_cases k4:k=4
 ·rw[qh k4,z6 k4,qi1 hX (by omega),qc]
  exact qbey hX (by omega) hg _
 rw[qi k4,z5 k4]
 by_cases k5:k=5
 ·rw[qh k5,z6 k5,qj0 hX (by omega),qc]
  exact qbey hX (by omega) hg _
 rw[qi k5,z5 k5]
 by_cases k6:k=6
 ·rw[qh k6,z6 k6,qj2 hX (by omega),qc]
  exact qbey hX (by omega) hg _
 rw[qi k6,z5 k6]
 by_cases k7:k=7
 ·rw[qh k7,z6 k7]
  simp only[qys]
  obtain ⟨b,e⟩:=qbzw hX n n (by omega) (by omega) hg (fun v0_0=>q7p (DD X n) n v0_0) n 4 0 [] rfl (by omega) (by simp)
  rw[show ((0:Nat):Int)=0 from rfl] at e
  rw[e]
  exact ⟨b,rfl⟩
 rw[qi k7,z5 k7]
 by_cases k8:k=8
 ·rw[qh k8,z6 k8,qgf hX (by omega),qc]
  exact qbey hX (by omega) hg _
 rw[qi k8,z5 k8]
 by_cases k9:k=9
 ·rw[qh k9,z6 k9]
  exact qbyp hX (by omega) (by omega) hg
 rw[qi k9,z5 k9]
 by_cases k10:k=10
 ·rw[qh k10,z6 k10]
  exact qb03 hX (by omega) (by omega) hg (k,K,V,())
 rw[qi k10,z5 k10]
 exact ⟨false,rfl⟩
end
end Go.G

namespace Go.G
set_option maxRecDepth 100000
open Go Go.V Go.Proofs
abbrev qbe:=Int×Int×Int×Unit
def bubR {α:Type} (key:α→Int):List α→α→List α
 | [],x=>[x]
 | y::rs,x=>if key x<key y then y::bubR key rs x else x::y::rs
def bub {α:Type} (key:α→Int) (s:List α) (x:α):List α:=(bubR key s.reverse x).reverse
theorem qbt8 {α:Type} (key:α→Int):∀ (rs:List α) (x:α),(bubR key rs x).length=rs.length+1
 | [],x=>rfl
 | y::rs,x=>by
  simp only[bubR]
  split
  ·simp only[z22,qbt8 key rs x]
  ·simp only[z22]
theorem q9v {α:Type} (key:α→Int) (s:List α) (x:α):(bub key s x).length=s.length+1:=by
 unfold bub;rw[z51,qbt8,z51]
theorem qbr1 {α:Type} (key:α→Int):∀ (rs:List α) (x z:α),z∈bubR key rs x↔z=x∨z∈rs
 | [],x,z=>by simp[bubR]
 | y::rs,x,z=>by
  simp only[bubR]
  split
  ·simp only[z15,qbr1 key rs x z]
   constructor
   ·rintro (h | h | h)
    ·exact .inr (.inl h)
    ·exact .inl h
    ·exact .inr (.inr h)
   ·rintro (h | h | h)
    ·exact .inr (.inl h)
    ·exact .inl h
    ·exact .inr (.inr h)
  ·simp only[z15]
theorem qbmb {α:Type} (key:α→Int) (s:List α) (x z:α):z∈bub key s x↔z=x∨z∈s:=by
 unfold bub;rw[List.mem_reverse,qbr1,List.mem_reverse]
theorem qbxv {α:Type} (key:α→Int) (e:α) (l1:List α) (h1:∀ y∈l1,key y≤key e):∀ (l2:List α),(∀ y∈l2,key e<key y)→bub key (l1++l2.reverse) e=l1++e::l2.reverse
 | [],_=>by
  unfold bub
  rw[List.reverse_nil,z48]
  cases h:l1.reverse with
  | nil=>
   have:l1=[]:=List.reverse_eq_nil_iff.1 h
   subst this;rfl
  | cons y rs=>
   have hy:y∈l1:=by rw[←List.mem_reverse,h];exact z14
   simp only[bubR]
   rw[z5 (by have:=h1 y hy;omega)]
   have:l1=rs.reverse++[y]:=by rw[←List.reverse_reverse l1,h,List.reverse_cons]
   rw[this]
   simp
 | y::l2,h2=>by
  have ih:=qbxv key e l1 h1 l2 (fun z hz=>h2 z (z16 _ hz))
  unfold bub at ih ⊢
  rw[List.reverse_cons,←z33,List.reverse_append]
  show (bubR key (y::(l1++l2.reverse).reverse) e).reverse=_
  simp only[bubR]
  rw[z6 (h2 y z14),List.reverse_cons,ih]
  simp
theorem qbfh {α:Type} (l:List α) (x:α) (t:List α) (d:α):(l++x::t).getD l.length d=x:=by simp[List.getD]
theorem qbex {α:Type} (l:List α) (x y:α) (t:List α):(l++x::t).set l.length y=l++y::t:=by simp
abbrev EntT:Ty:=Ty.pair (Ty.int IntKind.i64) (Ty.pair (Ty.int IntKind.i64) (Ty.pair (Ty.int IntKind.i64) Ty.unit))
def qle (k:Int):Prop:=-1000≤k∧k≤1000
def ekey (e:qbe):Int:=e.1
section
variable {X:Ext} (hX:XOk X) {n:Nat}
include hX
theorem qb3o (hn:1≤n) (a b:qbe) (ha:qle a.1) (hb:qle b.1):qbj ctx (DD X n) (Clo.mk 183 []) [CapV.val EntT a,CapV.val EntT b] (Ty.int IntKind.i64)=some (a.1 - b.1):=by
 obtain ⟨n,rfl⟩:∃ k,n=k+1:=⟨n - 1,by omega⟩
 have h:∀ D:Den ctx,qbj ctx D (Clo.mk 183 []) [CapV.val EntT a,CapV.val EntT b] (Ty.int IntKind.i64)=(q6c D a b).bind fun r=>some r.1.1:=fun D=>by kernel_rfl
 unfold qle at ha hb
 rw[h,qbhm hX]
 simp only[quy,q57,z30]
 rw[qn (by omega) (by omega)]
theorem qb0l (hn:1≤n) {a b x y:qbe} (ha:a=x) (hb:b=y) (hx:qle x.1) (hy:qle y.1):qbj ctx (DD X n) (Clo.mk 183 []) [CapV.val EntT a,CapV.val EntT b] (Ty.int IntKind.i64)=some (x.1 - y.1):=by
 subst ha;subst hb;exact qb3o hX hn a b hx hy
theorem qbru (N n:Nat) (hN:1≤N) (K0:Int→Int→Int→List qbe→Option (Unit×List qbe×Unit)) (b i:Int) (x:qbe) (hx:qle x.1):∀ (m:Nat) (rs t:List qbe),rs.length<m→rs.length+t.length≤1000→(∀ e∈rs,qle e.1)→
  qbx (DD X N) n (Clo.mk 183 []) K0 m 0 b i (rs.length:Int) (rs.reverse++x::t)=K0 0 b i ((bubR ekey rs x).reverse++t)
 | 0,_,_,h,_,_=>by omega
 | m+1,[],t,_,_,_=>by
  simp only[qbx,qcw]
  rw[qi (by simp)]
  simp[bubR]
 | m+1,y::rs,t,hf,hl,hs=>by
  have hy:=hs y z14
  have hlen:((y::rs).reverse++x::t).length=rs.length+t.length+2:=by simp;omega
  simp only[z22] at hf hl
  have e1:((y::rs).length:Int)=((rs.length+1:Nat):Int):=by simp
  have e2:wrap .i64 (((rs.length+1:Nat):Int) - 1)=((rs.length:Nat):Int):=by rw[qn (by omega) (by omega)];omega
  have g1:((y::rs).reverse++x::t).getD (rs.length+1) (0,0,0,())=x:=by
   have:=qbfh (y::rs).reverse x t (0,0,0,());rw[z51,z22] at this;exact this
  have g2:((y::rs).reverse++x::t).getD rs.length (0,0,0,())=y:=by
   have:=qbfh rs.reverse y (x::t) (0,0,0,());rw[z51] at this
   rw[List.reverse_cons,z33];exact this
  have s1:((y::rs).reverse++x::t).set (rs.length+1) y=rs.reverse++y::(y::t):=by
   have:=qbex (y::rs).reverse x y t;rw[z51,z22] at this
   rw[this,List.reverse_cons,z33];rfl
  have s2:(rs.reverse++y::(y::t)).set rs.length x=rs.reverse++x::(y::t):=by
   have:=qbex rs.reverse y x (y::t);rw[z51] at this;exact this
  simp only[qbx,qcw]
  rw[e1,e2,qh (by omega),ixn (by omega) (by rw[hlen];omega),br_t,ixn (by omega) (by rw[hlen];omega),br_t]
  simp only[z12,z17]
  rw[qb0l hX hN g1 g2 hx hy,qc,g1,g2,br_t,br_t,br_t,s1,s2]
  have hl2:(rs.reverse++y::(y::t)).length=rs.length+t.length+2:=by simp;omega
  simp only[bubR]
  by_cases hlt:x.1<y.1
  ·rw[qh (show x.1 - y.1<0 by omega),ixn (by omega) (by rw[hlen];omega),br_t,z6 (show ekey x<ekey y from hlt)]
   rw[qbru N n hN K0 b i x hx m rs (y::t) (by omega) (by simp only[z22];omega) (fun e he=>hs e (z16 _ he))]
   rw[List.reverse_cons,z33];rfl
  ·rw[qi (show ¬ x.1 - y.1<0 by omega),z5 (show ¬ ekey x<ekey y from hlt)]
   simp
theorem qbom (N:Nat) (hN:1≤N) (hW:2000≤N) (K0:List qbe→Option (Unit×List qbe×Unit)):∀ (rest s:List qbe) (m:Nat),rest.length<m→s.length+rest.length≤1000→(∀ e∈s,qle e.1)→(∀ e∈rest,qle e.1)→
  qz (DD X N) N (Clo.mk 183 []) K0 m 0 ((s.length+rest.length:Nat):Int) (s.length:Int) (s++rest)=K0 (rest.foldl (bub ekey) s)
 | [],s,0,h,_,_,_=>by omega
 | _::_,s,0,h,_,_,_=>by omega
 | [],s,m+1,_,_,_,_=>by
  simp only[qz,qca]
  rw[qi (by simp),z48]
  rfl
 | x::rest,s,m+1,hf,hl,hs,hr=>by
  simp only[z22] at hf hl
  simp only[qz,qca,qdh]
  rw[qh (by simp only[z22];omega)]
  have e:=qbru hX N N hN (fun v0_0 v0_1 v0_2 v0_3=>qdd (DD X N) N (Clo.mk 183 []) (qz (DD X N) N (Clo.mk 183 []) K0 m) K0 v0_0 v0_1 v0_2 v0_3)
   ((s.length+(x::rest).length:Nat):Int) (s.length:Int) x (hr x z14) N s.reverse rest (by rw[z51];omega) (by rw[z51];omega) (fun e he=>hs e (List.mem_reverse.1 he))
  rw[z51,List.reverse_reverse] at e
  rw[e]
  simp only[qdd]
  rw[qt (by omega)]
  have e2:=qbom N hN hW K0 rest (bub ekey s x) m (by omega) (by rw[q9v];omega) (fun z hz=>by
   rcases (qbmb ekey s x z).1 hz with h | h
   ·subst h;exact hr _ z14
   ·exact hs z h) (fun z hz=>hr z (z16 _ hz))
  rw[q9v] at e2
  rw[show s.length+(x::rest).length=s.length+1+rest.length by simp only[z22];omega]
  exact e2
end
end Go.G

namespace Go.G
set_option maxRecDepth 100000
open Go Go.V Go.Proofs
def ikey (e:Int):Int:=e
theorem qb2n (D:Den ctx) (n:Nat):qbw D n 0=some ((0,()),()):=by kernel_rfl
theorem qb2y (D:Den ctx) (n:Nat):qbw D n 1=some ((1,()),()):=by kernel_rfl
theorem qb2p (D:Den ctx) (n:Nat):qbw D n 2=some ((2,()),()):=by kernel_rfl
theorem qb2u (D:Den ctx) (n:Nat):qbw D n 3=some ((2,()),()):=by kernel_rfl
theorem qb18 (D:Den ctx) (n:Nat):qbw D n 4=some ((3,()),()):=by kernel_rfl
theorem qb13 (D:Den ctx) (n:Nat):qbw D n 5=some ((3,()),()):=by kernel_rfl
theorem qb3m (D:Den ctx) (n:Nat):qbw D n 6=some ((3,()),()):=by kernel_rfl
theorem qb2i (D:Den ctx) (n:Nat):qbw D n 7=some ((3,()),()):=by kernel_rfl
theorem qb2e (D:Den ctx) (n:Nat):qbw D n 8=some ((4,()),()):=by kernel_rfl
theorem qb2h (D:Den ctx) (n:Nat):qbw D n 9=some ((4,()),()):=by kernel_rfl
theorem qb0i (D:Den ctx) (n:Nat):qbw D n 10=some ((4,()),()):=by kernel_rfl
theorem qb0w (D:Den ctx) (n:Nat):qbw D n 11=some ((4,()),()):=by kernel_rfl
theorem qb0k (D:Den ctx) (n:Nat):qbw D n 12=some ((4,()),()):=by kernel_rfl
section
variable {X:Ext} (hX:XOk X) {n:Nat}
include hX
theorem qb34 (hn:2≤n) (a b:Int):qdm (DD X n) a b=some ((decide (a<b),()),()):=by
 obtain ⟨n,rfl⟩:∃ k,n=k+2:=⟨n - 2,by omega⟩
 rw[qbnp hX]
 simp only[q0g,q9e]
 rw[qbkd hX]
 simp only[qxu,q7e,qc]
 rw[show (a != a)=false by simp,br_f]
 rfl
theorem qbt5 (N n:Nat) (hN:2≤N) (K0:Int→Int→Int→List Int→Option (Unit×List Int×Unit)) (b i:Int) (x:Int) (hx:qle x):∀ (m:Nat) (rs t:List Int),rs.length<m→rs.length+t.length≤1000→(∀ e∈rs,qle e)→
  qcd (DD X N) n K0 m 0 b i (rs.length:Int) (rs.reverse++x::t)=K0 0 b i ((bubR ikey rs x).reverse++t)
 | 0,_,_,h,_,_=>by omega
 | m+1,[],t,_,_,_=>by
  simp only[qcd,qde]
  rw[qi (by simp)]
  simp[bubR]
 | m+1,y::rs,t,hf,hl,hs=>by
  have hy:=hs y z14
  have hlen:((y::rs).reverse++x::t).length=rs.length+t.length+2:=by simp;omega
  simp only[z22] at hf hl
  have e1:((y::rs).length:Int)=((rs.length+1:Nat):Int):=by simp
  have e2:wrap .i64 (((rs.length+1:Nat):Int) - 1)=((rs.length:Nat):Int):=by rw[qn (by omega) (by omega)];omega
  have g1:((y::rs).reverse++x::t).getD (rs.length+1) 0=x:=by
   have:=qbfh (y::rs).reverse x t 0;rw[z51,z22] at this;exact this
  have g2:((y::rs).reverse++x::t).getD rs.length 0=y:=by
   have:=qbfh rs.reverse y (x::t) 0;rw[z51] at this
   rw[List.reverse_cons,z33];exact this
  have s1:((y::rs).reverse++x::t).set (rs.length+1) y=rs.reverse++y::(y::t):=by
   have:=qbex (y::rs).reverse x y t;rw[z51,z22] at this
   rw[this,List.reverse_cons,z33];rfl
  have s2:(rs.reverse++y::(y::t)).set rs.length x=rs.reverse++x::(y::t):=by
   have:=qbex rs.reverse y x (y::t);rw[z51] at this;exact this
  simp only[qcd,qde]
  rw[e1,e2,qh (by omega),ixn (by omega) (by rw[hlen];omega),br_t,ixn (by omega) (by rw[hlen];omega),br_t]
  simp only[z12,z17]
  rw[g1,g2,qb34 hX hN,qc]
  dsimp only
  rw[br_t,br_t,br_t,s1,s2]
  have hl2:(rs.reverse++y::(y::t)).length=rs.length+t.length+2:=by simp;omega
  simp only[bubR]
  by_cases hlt:x<y
  ·rw[qh (show x<y from hlt),ixn (by omega) (by rw[hlen];omega),br_t,z6 (show ikey x<ikey y from hlt)]
   rw[qbt5 N n hN K0 b i x hx m rs (y::t) (by omega) (by simp only[z22];omega) (fun e he=>hs e (z16 _ he))]
   rw[List.reverse_cons,z33];rfl
  ·rw[qi (show ¬ x<y from hlt),z5 (show ¬ ikey x<ikey y from hlt)]
   simp
theorem qbpf (N:Nat) (hN:2≤N) (hW:2000≤N) (K0:List Int→Option (Unit×List Int×Unit)):∀ (rest s:List Int) (m:Nat),rest.length<m→s.length+rest.length≤1000→(∀ e∈s,qle e)→(∀ e∈rest,qle e)→
  qbb (DD X N) N K0 m 0 ((s.length+rest.length:Nat):Int) (s.length:Int) (s++rest)=K0 (rest.foldl (bub ikey) s)
 | [],s,0,h,_,_,_=>by omega
 | _::_,s,0,h,_,_,_=>by omega
 | [],s,m+1,_,_,_,_=>by
  simp only[qbb,qc0]
  rw[qi (by simp),z48]
  rfl
 | x::rest,s,m+1,hf,hl,hs,hr=>by
  simp only[z22] at hf hl
  simp only[qbb,qc0,qfp]
  rw[qh (by simp only[z22];omega)]
  have e:=qbt5 hX N N hN (fun v0_0 v0_1 v0_2 v0_3=>qfg (DD X N) N (qbb (DD X N) N K0 m) K0 v0_0 v0_1 v0_2 v0_3)
   ((s.length+(x::rest).length:Nat):Int) (s.length:Int) x (hr x z14) N s.reverse rest (by rw[z51];omega) (by rw[z51];omega) (fun e he=>hs e (List.mem_reverse.1 he))
  rw[z51,List.reverse_reverse] at e
  rw[e]
  simp only[qfg]
  rw[qt (by omega)]
  have e2:=qbpf N hN hW K0 rest (bub ikey s x) m (by omega) (by rw[q9v];omega) (fun z hz=>by
   rcases (qbmb ikey s x z).1 hz with h | h
   ·subst h;exact hr _ z14
   ·exact hs z h) (fun z hz=>hr z (z16 _ hz))
  rw[q9v] at e2
  rw[show s.length+(x::rest).length=s.length+1+rest.length by simp only[z22];omega]
  exact e2
theorem qb1q (hn:2≤n) (k:Nat) (hk:k≤12):∃ v,qqb (DD X n) (IntKind.wrap IntKind.u64 (k:Int))=some ((v,()),()):=by
 obtain ⟨n,rfl⟩:∃ k,n=k+2:=⟨n - 2,by omega⟩
 have hw:IntKind.wrap IntKind.u64 (k:Int)=(k:Int):=by
  have:∀ j:Fin 13,IntKind.wrap IntKind.u64 ((j:Nat):Int)=((j:Nat):Int):=by decide +kernel
  exact this ⟨k,by omega⟩
 rw[hw,qbko hX]
 simp only[qwa,q7c]
 rw[qbf4 hX]
 have key:∃ v,qbw (DD X n) n (k:Int)=some ((v,()),()):=by
  match k,hk with
  | 0,_=>exact ⟨_,qb2n _ _⟩
  | 1,_=>exact ⟨_,qb2y _ _⟩
  | 2,_=>exact ⟨_,qb2p _ _⟩
  | 3,_=>exact ⟨_,qb2u _ _⟩
  | 4,_=>exact ⟨_,qb18 _ _⟩
  | 5,_=>exact ⟨_,qb13 _ _⟩
  | 6,_=>exact ⟨_,qb3m _ _⟩
  | 7,_=>exact ⟨_,qb2i _ _⟩
  | 8,_=>exact ⟨_,qb2e _ _⟩
  | 9,_=>exact ⟨_,qb2h _ _⟩
  | 10,_=>exact ⟨_,qb0i _ _⟩
  | 11,_=>exact ⟨_,qb0w _ _⟩
  | 12,_=>exact ⟨_,qb0k _ _⟩
  | k+13,h=>omega
 obtain ⟨v,e⟩:=key
 rw[e,qc]
 exact ⟨v,rfl⟩
theorem qb26 (hn:W+6≤n) (l:List Int) (hl:l.length≤12) (hs:∀ e∈l,qle e):qjc (DD X n) l=some ((),l.foldl (bub ikey) [],()):=by
 obtain ⟨n,rfl⟩:∃ k,n=k+3:=⟨n - 3,by omega⟩
 have hW:=qbk
 rw[q93 hX]
 simp only[qmi,qvn]
 obtain ⟨v,e⟩:=qb1q hX (n:=n+2) (by omega) l.length hl
 rw[e,qc]
 dsimp only
 rw[q1l hX]
 simp only[qi5,qi2,qhu]
 rw[show n+1=n+1 from rfl]
 simp only[qfk,qic]
 rw[qn (by omega) (by omega),qh (by omega),qtq hX]
 simp only[qgh,qgg,qfq]
 rw[show wrap .i64 (0+1)=((1:Nat):Int) by decide +kernel]
 cases l with
 | nil=>
  obtain ⟨n,rfl⟩:∃ k,n=k+1:=⟨n - 1,by omega⟩
  simp only[qbb,qc0]
  rw[qi (by simp)]
  rfl
 | cons x l=>
  have:=qbpf hX n (by omega) (by omega) (fun v0_0=>qi8 (DD X n) n v0_0) l [x] n (by simp only[z22] at hl;omega) (by simp only[z22,List.length_nil] at hl ⊢;omega) (fun e he=>hs e (by simp only[z23] at he;subst he;exact z14)) (fun e he=>hs e (z16 _ he))
  simp only[z22,List.length_nil,Nat.zero_add,List.singleton_append] at this ⊢
  rw[show l.length+1=1+l.length by omega,this]
  rfl
theorem qb3b (hn:W+6≤n) (l:List qbe) (hl:l.length≤12) (hs:∀ e∈l,qle e.1):qc4 (DD X n) l (Clo.mk 183 [])=some ((),l.foldl (bub ekey) [],()):=by
 obtain ⟨n,rfl⟩:∃ k,n=k+3:=⟨n - 3,by omega⟩
 have hW:=qbk
 rw[qoi hX]
 simp only[qen,qht]
 obtain ⟨v,e⟩:=qb1q hX (n:=n+2) (by omega) l.length hl
 rw[e,qc]
 dsimp only
 rw[qs0 hX]
 simp only[qf0,qf4,qfh]
 simp only[qda,qfl]
 rw[qn (by omega) (by omega),qh (by omega),qn2 hX]
 simp only[qec,qeb,qdk]
 rw[show wrap .i64 (0+1)=((1:Nat):Int) by decide +kernel]
 cases l with
 | nil=>
  obtain ⟨n,rfl⟩:∃ k,n=k+1:=⟨n - 1,by omega⟩
  simp only[qz,qca]
  rw[qi (by simp)]
  rfl
 | cons x l=>
  have:=qbom hX n (by omega) (by omega) (fun v0_0=>qgk (DD X n) n (Clo.mk 183 []) v0_0) l [x] n (by simp only[z22] at hl;omega) (by simp only[z22,List.length_nil] at hl ⊢;omega) (fun e he=>hs e (by simp only[z23] at he;subst he;exact z14)) (fun e he=>hs e (z16 _ he))
  simp only[z22,List.length_nil,Nat.zero_add,List.singleton_append] at this ⊢
  rw[show l.length+1=1+l.length by omega,this]
  rfl
end
end Go.G

namespace Go.G
set_option maxRecDepth 100000
open Go Go.V Go.Proofs
def ent (got:Got) (p:Int) (f:Int→Int):List qbe:=bif hit got p then [(p,(qbf got p).1,f (qbf got p).1,())] else []
theorem q9x {got:Got} {p:Int} (h:hit got p=true) (f:Int→Int):ent got p f=[(p,(qbf got p).1,f (qbf got p).1,())]:=by unfold ent;rw[h];rfl
theorem qbbj {got:Got} {p:Int} (h:hit got p=false) (f:Int→Int):ent got p f=[]:=by unfold ent;rw[h];rfl
theorem qr3 (got:Got) (p:Int) (f:Int→Int):(ent got p f).length≤1:=by unfold ent;cases hit got p<;>simp
def one (v:Int):Int:=wrap .i64 (v+1)
def less (v:Int):Int:=if wrap .i64 (v - 1)>0 then wrap .i64 (v - 1) else 0
def insS (l:List qbe) (e:qbe):List qbe:=l.takeWhile (fun y=>decide (y.1<e.1))++e::l.dropWhile (fun y=>decide (y.1<e.1))
theorem qbsq (l:List qbe) (e:qbe):(insS l e).length=l.length+1:=by
 unfold insS
 have:=congrArg List.length (List.takeWhile_append_dropWhile (p:=fun y:qbe=>decide (y.1<e.1)) (l:=l))
 rw[z19] at this ⊢
 rw[z22]
 omega
theorem qbn2 (got:Got) (p:Int):(bif decide (p<0) then true else !(qbf got p).2)=!hit got p:=by
 unfold hit
 by_cases h:p<0
 ·rw[z11 h,z10 (by omega:¬ 0≤p)];rfl
 ·rw[z10 h,z11 (by omega:0≤p)];rfl
section
variable {X:Ext} (hX:XOk X) {n:Nat} {got:Got}
include hX
theorem qbal (hn:W+2≤n) (hg:got.length≤1048576) {out:List qbe} (ho:out.length≤100) (p to:Int):qcu (DD X n) p to 0 got out=some ((),(out++ent got p (fun _=>to)),()):=by
 obtain ⟨n,rfl⟩:∃ k,n=k+1:=⟨n - 1,by omega⟩
 have hb:=qbh
 rw[qve hX]
 simp only[qkf,qno]
 rw[qhc hX (by omega) got hg,qc]
 dsimp only
 rw[qbn2]
 cases h:hit got p
 ·rw[Bool.not_false,br_t,qbbj h,z48]
 ·rw[z13,br_f,qi (by decide),qi (by decide),qh (by omega),q9x h]
theorem qb3s (hn:W+2≤n) (hg:got.length≤1048576) {out:List qbe} (ho:out.length≤100) (p to:Int):qcu (DD X n) p to 1 got out=some ((),(out++ent got p one),()):=by
 obtain ⟨n,rfl⟩:∃ k,n=k+1:=⟨n - 1,by omega⟩
 have hb:=qbh
 rw[qve hX]
 simp only[qkf,qno]
 rw[qhc hX (by omega) got hg,qc]
 dsimp only
 rw[qbn2]
 cases h:hit got p
 ·rw[Bool.not_false,br_t,qbbj h,z48]
 ·rw[z13,br_f,qh trivial,qh (by omega),q9x h];rfl
theorem qb35 (hn:W+2≤n) (hg:got.length≤1048576) {out:List qbe} (ho:out.length≤100) (p to:Int):qcu (DD X n) p to (-1) got out=some ((),(out++ent got p less),()):=by
 obtain ⟨n,rfl⟩:∃ k,n=k+1:=⟨n - 1,by omega⟩
 have hb:=qbh
 rw[qve hX]
 simp only[qkf,qno]
 rw[qhc hX (by omega) got hg,qc]
 dsimp only
 rw[qbn2]
 cases h:hit got p
 ·rw[Bool.not_false,br_t,qbbj h,z48]
 ·rw[z13,br_f,qi (by decide),qh trivial,qh (by omega),q9x h];rfl
end
end Go.G

namespace Go.G
set_option maxRecDepth 100000
open Go Go.V Go.Proofs
theorem qmv (k:Int):((0≤k∧k≤3)∧qp k=k)∨(¬ (0≤k∧k≤3)∧qp k = -1):=by
 unfold qp
 by_cases h:0≤k∧k≤3
 ·rw[qcc.2 h];exact .inl ⟨h,rfl⟩
 ·rw[qrt h];exact .inr ⟨h,rfl⟩
theorem qig (v:Int):((1≤v∧v≤6)∧qy v=3+v)∨(¬ (1≤v∧v≤6)∧qy v = -1):=by
 unfold qy
 by_cases h:1≤v∧v≤6
 ·rw[qcc.2 h,z21,qn (by omega) (by omega)];exact .inl ⟨h,rfl⟩
 ·rw[qrt h];exact .inr ⟨h,rfl⟩
theorem qgt (v:Int):((1≤v∧v≤6)∧qbv v=13+v)∨(¬ (1≤v∧v≤6)∧qbv v = -1):=by
 unfold qbv
 by_cases h:1≤v∧v≤6
 ·rw[qcc.2 h,z21,qn (by omega) (by omega)];exact .inl ⟨h,rfl⟩
 ·rw[qrt h];exact .inr ⟨h,rfl⟩
theorem qid (c:Int):((0≤c∧c≤2)∧qby c=10+c)∨(¬ (0≤c∧c≤2)∧qby c = -1):=by
 unfold qby
 by_cases h:0≤c∧c≤2
 ·rw[qcc.2 h,z21,qn (by omega) (by omega)];exact .inl ⟨h,rfl⟩
 ·rw[qrt h];exact .inr ⟨h,rfl⟩
theorem qkg (v:Int):((1≤v∧v≤6)∧0≤qg v∧qg v≤2)∨(¬ (1≤v∧v≤6)∧qg v = -1):=by
 unfold qg
 by_cases h:1≤v∧v≤6
 ·rw[qcc.2 h,z21,Int.tmod_eq_emod_of_nonneg (by omega)]
  exact .inl ⟨h,Int.emod_nonneg _ (by omega),by have:=Int.emod_lt_of_pos v (show (0:Int)<3 by omega);omega⟩
 ·rw[qrt h];exact .inr ⟨h,rfl⟩
def Asc (l:List qbe):Prop:=l.Pairwise fun a b=>a.1<b.1
theorem qbnl (p:Int):∀ (l:List qbe),Asc l→∀ y∈l.dropWhile (fun y=>decide (y.1<p)),p≤y.1
 | [],_,y,h=>by simp at h
 | x::l,hs,y,h=>by
  have hs2:=List.pairwise_cons.1 hs
  by_cases hx:x.1<p
  ·rw[List.dropWhile_cons_of_pos (by exact z11 hx)] at h
   exact qbnl p l hs2.2 y h
  ·rw[List.dropWhile_cons_of_neg (by simpa using hx)] at h
   rcases z15.1 h with h | h
   ·subst h;omega
   ·have:=hs2.1 y h;omega
theorem qbm0 (p:Int):∀ (l:List qbe),∀ y∈l.takeWhile (fun y=>decide (y.1<p)),y.1<p
 | [],y,h=>by simp at h
 | x::l,y,h=>by
  by_cases hx:x.1<p
  ·rw[List.takeWhile_cons_of_pos (by exact z11 hx)] at h
   rcases z15.1 h with h | h
   ·subst h;exact hx
   ·exact qbm0 p l y h
  ·rw[List.takeWhile_cons_of_neg (by simpa using hx)] at h;simp at h
theorem qbrn (l:List qbe) (e z:qbe):z∈insS l e↔z=e∨z∈l:=by
 unfold insS
 have h:z∈l↔z∈l.takeWhile (fun y=>decide (y.1<e.1))∨z∈l.dropWhile (fun y=>decide (y.1<e.1)):=by
  rw[←z18,List.takeWhile_append_dropWhile]
 rw[z18,z15,h]
 constructor
 ·rintro (h | h | h)
  ·exact .inr (.inl h)
  ·exact .inl h
  ·exact .inr (.inr h)
 ·rintro (h | h | h)
  ·exact .inr (.inl h)
  ·exact .inl h
  ·exact .inr (.inr h)
theorem qb0v {l:List qbe} (hs:Asc l) {e:qbe} (he:∀ y∈l,y.1≠e.1):Asc (insS l e):=by
 unfold insS
 have hd:∀ y∈l.dropWhile (fun y=>decide (y.1<e.1)),e.1<y.1:=fun y hy=>by
  have h1:=qbnl e.1 l hs y hy
  have h2:=he y (List.dropWhile_sublist _ |>.mem hy)
  omega
 have ht:=qbm0 e.1 l
 refine List.pairwise_append.2 ⟨hs.sublist (List.takeWhile_sublist _),List.pairwise_cons.2 ⟨hd,hs.sublist (List.dropWhile_sublist _)⟩,fun a ha b hb=>?_⟩
 have h1:=ht a ha
 rcases z15.1 hb with h | h
 ·subst h;exact h1
 ·have:=hd b h;omega
theorem qb3l {l:List qbe} (hs:Asc l) {e:qbe} (he:∀ y∈l,y.1≠e.1):bub ekey l e=insS l e:=by
 have hd:∀ y∈l.dropWhile (fun y=>decide (y.1<e.1)),e.1<y.1:=fun y hy=>by
  have h1:=qbnl e.1 l hs y hy
  have h2:=he y (List.dropWhile_sublist _ |>.mem hy)
  omega
 have ht:=qbm0 e.1 l
 have:=qbxv ekey e (l.takeWhile (fun y=>decide (y.1<e.1))) (fun y hy=>by have:=ht y hy;unfold ekey;omega) (l.dropWhile (fun y=>decide (y.1<e.1))).reverse (fun y hy=>hd y (List.mem_reverse.1 hy))
 rw[List.reverse_reverse,List.takeWhile_append_dropWhile] at this
 rw[this]
 rfl
def qbxg (l:List qbe):Prop:=l.Pairwise fun a b=>a.1≠b.1
theorem qbso:∀ (L acc:List qbe),Asc acc→qbxg L→(∀ a∈acc,∀ e∈L,a.1≠e.1)→L.foldl (bub ekey) acc=L.foldl insS acc∧Asc (L.foldl insS acc)∧(∀ z,z∈L.foldl insS acc↔z∈acc∨z∈L)∧(L.foldl insS acc).length=acc.length+L.length
 | [],acc,h,_,_=>⟨rfl,h,fun z=>by simp,rfl⟩
 | e::L,acc,h,hL,hx=>by
  have hL2:=List.pairwise_cons.1 hL
  have he:∀ y∈acc,y.1≠e.1:=fun y hy=>hx y hy e z14
  simp only[List.foldl_cons]
  rw[qb3l h he]
  obtain ⟨r1,r2,r3,r4⟩:=qbso L (insS acc e) (qb0v h he) hL2.2 (fun a ha b hb=>by
   rcases (qbrn acc e a).1 ha with q | q
   ·subst q;exact hL2.1 b hb
   ·exact hx a q b (z16 _ hb))
  refine ⟨r1,r2,fun z=>?_,by rw[r4,qbsq,z22];omega⟩
  rw[r3 z,qbrn,z15]
  constructor
  ·rintro ((h | h) | h)
   ·exact .inr (.inl h)
   ·exact .inl h
   ·exact .inr (.inr h)
  ·rintro (h | h | h)
   ·exact .inl (.inr h)
   ·exact .inl (.inl h)
   ·exact .inr h
theorem qbon:∀ (L acc:List qbe),(L.foldl insS acc).length=acc.length+L.length
 | [],acc=>rfl
 | e::L,acc=>by rw[List.foldl_cons,qbon L,qbsq,z22];omega
abbrev Want:=Int×(Int→Int)
def ents (got:Got) (L:List Want):List qbe:=L.flatMap fun p=>ent got p.1 p.2
theorem qbi2 (got:Got):∀ (L:List Want),(ents got L).length≤L.length
 | []=>Nat.le_refl _
 | p::L=>by
  have h1:=qr3 got p.1 p.2
  have h2:=qbi2 got L
  show ((p::L).flatMap _).length≤_
  rw[List.flatMap_cons,z19,z22]
  have:(L.flatMap fun p=>ent got p.1 p.2).length≤L.length:=h2
  omega
theorem qyl (got:Got) (L:List Want) (e:qbe):e∈ents got L↔∃ p∈L,hit got p.1=true∧e=(p.1,(qbf got p.1).1,p.2 (qbf got p.1).1,()):=by
 unfold ents
 rw[List.mem_flatMap]
 constructor
 ·rintro ⟨p,hp,he⟩
  refine ⟨p,hp,?_⟩
  unfold ent at he
  cases h:hit got p.1
  ·rw[h] at he;simp at he
  ·rw[h] at he;simp only[z21,z23] at he;exact ⟨rfl,he⟩
 ·rintro ⟨p,hp,h,rfl⟩
  exact ⟨p,hp,by rw[q9x h];exact z23.2 rfl⟩
theorem qbe2 {got:Got} {p:Int} (h:hit got p=true):0≤p:=by
 unfold hit at h
 simp only[z9,z45] at h
 exact h.1
theorem qbkj (got:Got):∀ (L:List Want),(L.Pairwise fun p q=>0≤p.1→p.1≠q.1)→qbxg (ents got L)
 | [],_=>List.Pairwise.nil
 | p::L,h=>by
  have h2:=List.pairwise_cons.1 h
  have ih:=qbkj got L h2.2
  show qbxg ((p::L).flatMap _)
  rw[List.flatMap_cons]
  cases hh:hit got p.1
  ·rw[qbbj hh];exact ih
  ·rw[q9x hh]
   refine List.pairwise_cons.2 ⟨fun e he=>?_,ih⟩
   obtain ⟨q,hq,_,rfl⟩:=(qyl got L e).1 he
   exact h2.1 q hq (qbe2 hh)
theorem qbw9 (got:Got) (L:List Want) (h:∀ p∈L,p.1≤19):∀ e∈ents got L,qle e.1:=by
 intro e he
 obtain ⟨p,hp,hh,rfl⟩:=(qyl got L e).1 he
 have h1:=qbe2 hh
 have h2:=h p hp
 exact ⟨by show -1000≤p.1;omega,by show p.1≤1000;omega⟩
def chgL (K V held st:Int):List Want:=
 [(qp K,fun _=>V),(13,fun _=>st),(qy held,fun _=>0),(qbv held,fun _=>0),(qy V,fun _=>wrap .i64 (K+1)),(qbv V,fun _=>wrap .i64 (K+1))]++
  (bif qg held != qg V then [(qby (qg held),less),(qby (qg V),one)] else [])
theorem qbrc (K V held st:Int):(chgL K V held st).length≤8:=by
 unfold chgL
 cases qg held != qg V<;>simp
theorem qbvq (K V held st:Int):∀ p∈chgL K V held st,p.1≤19:=by
 have h1:=qmv K
 have h2:=qig held
 have h3:=qig V
 have h4:=qgt held
 have h5:=qgt V
 have h6:=qid (qg held)
 have h7:=qid (qg V)
 unfold chgL
 cases qg held != qg V
 ·intro p hp
  simp only[z20,z48,z15,z25,or_false] at hp
  rcases hp with rfl | rfl | rfl | rfl | rfl | rfl<;>dsimp only<;>omega
 ·intro p hp
  simp only[z21,z40,z46,z15,z25,or_false] at hp
  rcases hp with rfl | rfl | rfl | rfl | rfl | rfl | rfl | rfl<;>dsimp only<;>omega
theorem qbww {K V held st:Int} (hv:1≤held∧held≤6→held≠V):(chgL K V held st).Pairwise fun p q=>0≤p.1→p.1≠q.1:=by
 have h1:=qmv K
 have h2:=qig held
 have h3:=qig V
 have h4:=qgt held
 have h5:=qgt V
 have h6:=qid (qg held)
 have h7:=qid (qg V)
 unfold chgL
 cases hc:qg held != qg V
 ·simp only[z20,z48,List.pairwise_cons,z15,z25,or_false,forall_eq_or_imp,forall_eq,List.Pairwise.nil,and_true,false_implies,implies_true,forall_const]
  refine ⟨⟨?_,?_,?_,?_,?_⟩,⟨?_,?_,?_,?_⟩,⟨?_,?_,?_⟩,⟨?_,?_⟩,?_⟩<;>omega
 ·have hne:qg held≠qg V:=by simpa using hc
  simp only[z21,z40,z46,List.pairwise_cons,z15,z25,or_false,forall_eq_or_imp,forall_eq,List.Pairwise.nil,and_true,false_implies,implies_true,forall_const]
  refine ⟨⟨?_,?_,?_,?_,?_,?_,?_⟩,⟨?_,?_,?_,?_,?_,?_⟩,⟨?_,?_,?_,?_,?_⟩,⟨?_,?_,?_,?_⟩,⟨?_,?_,?_⟩,⟨?_,?_⟩,?_⟩<;>omega
end Go.G

namespace Go.G
set_option maxRecDepth 100000
open Go Go.V Go.Proofs
section
variable {X:Ext} (hX:XOk X) {n:Nat} {got:Got}
include hX
theorem qbyw (hn:W+9≤n) (hg:got.length≤1048576) (k K V held st:Int) :
  qr2 (DD X n) (k,K,V,()) got held st=some (((ents got (chgL K V held st)).foldl (bub ekey) [],()),()):=by
 obtain ⟨n,rfl⟩:∃ k,n=k+1:=⟨n - 1,by omega⟩
 have hW:=qbk
 obtain ⟨E1,h1⟩:∃ E,E=ent got (qp K) (fun _=>V):=⟨_,rfl⟩
 obtain ⟨E2,h2⟩:∃ E,E=ent got 13 (fun _=>st):=⟨_,rfl⟩
 obtain ⟨E3,h3⟩:∃ E,E=ent got (qy held) (fun _=>0):=⟨_,rfl⟩
 obtain ⟨E4,h4⟩:∃ E,E=ent got (qbv held) (fun _=>0):=⟨_,rfl⟩
 obtain ⟨E5,h5⟩:∃ E,E=ent got (qy V) (fun _=>wrap .i64 (K+1)):=⟨_,rfl⟩
 obtain ⟨E6,h6⟩:∃ E,E=ent got (qbv V) (fun _=>wrap .i64 (K+1)):=⟨_,rfl⟩
 obtain ⟨E7,h7⟩:∃ E,E=ent got (qby (qg held)) less:=⟨_,rfl⟩
 obtain ⟨E8,h8⟩:∃ E,E=ent got (qby (qg V)) one:=⟨_,rfl⟩
 have l1:E1.length≤1:=by rw[h1];exact qr3 ..
 have l2:E2.length≤1:=by rw[h2];exact qr3 ..
 have l3:E3.length≤1:=by rw[h3];exact qr3 ..
 have l4:E4.length≤1:=by rw[h4];exact qr3 ..
 have l5:E5.length≤1:=by rw[h5];exact qr3 ..
 have l6:E6.length≤1:=by rw[h6];exact qr3 ..
 have l7:E7.length≤1:=by rw[h7];exact qr3 ..
 have l8:E8.length≤1:=by rw[h8];exact qr3 ..
 have hs:=fun l hl hk=>qb3b hX (n:=n) (by omega) l hl hk
 have hlen:=Nat.le_trans (qbi2 got (chgL K V held st)) (qbrc K V held st)
 have hsm:=qbw9 got (chgL K V held st) (qbvq K V held st)
 have heq:ents got (chgL K V held st)=bif qg held != qg V then []++E1++E2++E3++E4++E5++E6++E7++E8 else []++E1++E2++E3++E4++E5++E6:=by
  unfold ents chgL
  cases qg held != qg V
  ·simp only[z20,z48,List.flatMap_cons,List.flatMap_nil,z46,z33,←h1,←h2,←h3,←h4,←h5,←h6]
  ·simp only[z21,z40,z46,z48,List.flatMap_cons,List.flatMap_nil,z33,←h1,←h2,←h3,←h4,←h5,←h6,←h7,←h8]
 rw[qbnz hX]
 simp only[qze,qbag]
 rw[qi1 hX (by omega),qc]
 dsimp only
 rw[qbal hX (by omega) hg (by simp),←h1,qc]
 dsimp only
 rw[qgf hX (by omega),qc]
 dsimp only
 rw[qbal hX (by omega) hg (by simp only[z19,List.length_nil];omega),←h2,qc]
 dsimp only
 rw[qj0 hX (by omega),qc]
 dsimp only
 rw[qbal hX (by omega) hg (by simp only[z19,List.length_nil];omega),←h3,qc]
 dsimp only
 rw[qlg hX (by omega),qc]
 dsimp only
 rw[qbal hX (by omega) hg (by simp only[z19,List.length_nil];omega),←h4,qc]
 dsimp only
 rw[qj0 hX (by omega),qc]
 dsimp only
 rw[qbal hX (by omega) hg (by simp only[z19,List.length_nil];omega),←h5,qc]
 dsimp only
 rw[qlg hX (by omega),qc]
 dsimp only
 rw[qbal hX (by omega) hg (by simp only[z19,List.length_nil];omega),←h6,qc]
 dsimp only
 rw[qoy hX (by omega),qc,qoy hX (by omega),qc]
 dsimp only
 cases hc:qg held != qg V
 ·rw[hc,z20] at heq
  rw[br_f,←heq,hs _ (by omega) hsm,qc]
 ·rw[hc,z21] at heq
  rw[br_t]
  simp only[qc]
  rw[qj2 hX (by omega),qc]
  dsimp only
  rw[qb35 hX (by omega) hg (by simp only[z19,List.length_nil];omega),←h7,qc]
  dsimp only
  rw[qj2 hX (by omega),qc]
  dsimp only
  rw[qb3s hX (by omega) hg (by simp only[z19,List.length_nil];omega),←h8,qc]
  dsimp only
  rw[←heq,hs _ (by omega) hsm,qc]
end
end Go.G

namespace Go.G
set_option maxRecDepth 100000
open Go Go.V Go.Proofs
def opOk (o:Op3):Bool:=
 bif decide (o.1=1)||decide (o.1=2) then inR o.2.1 0 3&&inR o.2.2.1 1 6
 else bif decide (o.1=3)||decide (o.1=4) then inR o.2.1 0 3&&decide (o.2.2.1=0)
 else bif decide (o.1=5)||decide (o.1=10) then decide (o.2.1=0)&&inR o.2.2.1 1 6
 else bif decide (o.1=6) then inR o.2.1 0 2&&decide (o.2.2.1=0)
 else bif decide (o.1=7)||(decide (o.1=8)||decide (o.1=9)) then decide (o.2.1=0)&&decide (o.2.2.1=0) else false
def nowP (k V row owner st cnt:Int):Option (Int×List Int):=
 if k=1∧row≠0 then some (1,[]) else
 if k=1∧owner≠0 then some (2,[]) else
 if (k=2∨k=3∨k=4)∧row=0 then some (3,[]) else
 if k=2∧row=V then some (0,[]) else
 if k=2∧owner≠0 then some (2,[]) else
 if k=4 then some (0,[row]) else
 if k=5∧owner=0 then some (3,[]) else
 if k=5 then some (0,[wrap .i64 (owner - 1)]) else
 if k=6 then some (0,[cnt]) else
 if k=8∧st≠0 then some (4,[]) else
 if k=9∧(st<1∨st>4) then some (4,[]) else
 if k=10∧st≠5 then some (4,[]) else none
def qog:Option (Int×List Int)→(Int×List Int×Unit)×Bool×Unit
 | some x=>((x.1,x.2,()),true,())
 | none=>((0,[],()),false,())
abbrev Plan:=Bool×(Int×List Int×Unit)×List qbe×Unit
def qgj (o:Op3) (got:Got):Option (Int×List Int):=
 nowP o.1 o.2.2.1 (qbf got (qp o.2.1)).1 (qbf got (qy o.2.2.1)).1 (qbf got 13).1 (qbf got (qby o.2.1)).1
theorem bned (a b:Int):(a != b)=!decide (a=b):=by by_cases h:a=b<;>simp[h]
section
variable {X:Ext} (hX:XOk X) {n:Nat} {got:Got}
include hX
theorem qbxe (hn:4≤n) (k K V:Int):q0x (DD X n) (k,K,V,())=some ((opOk (k,K,V,()),()),()):=by
 obtain ⟨n,rfl⟩:∃ k,n=k+1:=⟨n - 1,by omega⟩
 rw[qbuc hX]
 simp only[q8i,qbg5]
 simp only[qbpd hX (n:=n) (by omega),qvj hX (n:=n) (by omega),qqi hX (n:=n) (by omega),qbvk hX (n:=n) (by omega),qmk hX (n:=n) (by omega),qc]
 unfold opOk
 dsimp only
 generalize hA:inR K 0 3=A
 generalize hB:inR V 1 6=B
 generalize hC:inR K 0 2=C
 generalize hD:decide (K=0)=D
 generalize hE:decide (V=0)=E
 by_cases h:1≤k∧k≤10
 ·have:k=1∨k=2∨k=3∨k=4∨k=5∨k=6∨k=7∨k=8∨k=9∨k=10:=by omega
  rcases this with rfl | rfl | rfl | rfl | rfl | rfl | rfl | rfl | rfl | rfl<;>cases A<;>cases B<;>cases C<;>cases D<;>cases E<;>rfl
 ·rw[qrt h,Bool.not_false,br_t]
  simp only[z10 (by omega:¬ k=1),z10 (by omega:¬ k=2),z10 (by omega:¬ k=3),z10 (by omega:¬ k=4),z10 (by omega:¬ k=5),z10 (by omega:¬ k=6),z10 (by omega:¬ k=7),z10 (by omega:¬ k=8),z10 (by omega:¬ k=9),z10 (by omega:¬ k=10),Bool.or_false,z20]
theorem q4n (hn:5≤n) (k K V:Int):qlv (DD X n) (k,K,V,())=some ((opOk (k,K,V,()),()),()):=by
 obtain ⟨n,rfl⟩:∃ k,n=k+1:=⟨n - 1,by omega⟩
 rw[qbu6 hX]
 simp only[q8q,qbhh]
 simp only[qbo8 hX (n:=n) (by omega),qvl hX (n:=n) (by omega),qbsa hX (n:=n) (by omega),qc]
 unfold opOk
 dsimp only
 generalize hA:inR K 0 3=A
 generalize hB:inR V 1 6=B
 generalize hC:inR K 0 2=C
 generalize hD:decide (K=0)=D
 generalize hE:decide (V=0)=E
 by_cases h:1≤k∧k≤10
 ·have:k=1∨k=2∨k=3∨k=4∨k=5∨k=6∨k=7∨k=8∨k=9∨k=10:=by omega
  rcases this with rfl | rfl | rfl | rfl | rfl | rfl | rfl | rfl | rfl | rfl<;>cases A<;>cases B<;>cases C<;>cases D<;>cases E<;>rfl
 ·simp only[z10 (by omega:¬ k=1),z10 (by omega:¬ k=2),z10 (by omega:¬ k=3),z10 (by omega:¬ k=4),z10 (by omega:¬ k=5),z10 (by omega:¬ k=6),z10 (by omega:¬ k=7),z10 (by omega:¬ k=8),z10 (by omega:¬ k=9),z10 (by omega:¬ k=10),Bool.or_false,z20,br_f]
theorem qbz1 (hn:W+5≤n) (hg:got.length≤1048576) (o:Op3):q3b (DD X n) o got=some (qog (qgj o got),()):=by
 obtain ⟨n,rfl⟩:∃ k,n=k+1:=⟨n - 1,by omega⟩
 have hW:=qbk
 obtain ⟨k,K,V,⟨⟩⟩:=o
 rw[qbpr hX]
 simp only[q2u,qbb6]
 simp only[qi1 hX (n:=n) (by omega),qj0 hX (n:=n) (by omega),qj2 hX (n:=n) (by omega),qgf hX (n:=n) (by omega),qhc hX (n:=n) (by omega) got hg,qc]
 unfold qgj
 dsimp only
 generalize (qbf got (qp K)).1=row
 generalize (qbf got (qy V)).1=owner
 generalize (qbf got 13).1=st
 generalize (qbf got (qby K)).1=cnt
 unfold nowP
 by_cases h:1≤k∧k≤10
 ·have:k=1∨k=2∨k=3∨k=4∨k=5∨k=6∨k=7∨k=8∨k=9∨k=10:=by omega
  rcases this with rfl | rfl | rfl | rfl | rfl | rfl | rfl | rfl | rfl | rfl
  ·by_cases r0:row=0<;>by_cases w0:owner=0<;>simp[r0,w0,br,qog,bned]
  ·by_cases rV:row=V
   ·subst rV;by_cases r0:row=0<;>simp[r0,br,qog,bned]
   ·by_cases r0:row=0<;>by_cases w0:owner=0<;>simp[r0,rV,w0,br,qog,bned]
  ·by_cases r0:row=0<;>simp[r0,br,qog,bned]
  ·by_cases r0:row=0<;>simp[r0,br,qog,bned]
  ·by_cases w0:owner=0<;>simp[w0,br,qog,bned]
  ·simp[br,qog,bned]
  ·simp[br,qog,bned]
  ·by_cases s0:st=0<;>simp[s0,br,qog,bned]
  ·by_cases s1:st<1<;>by_cases s4:4<st<;>simp[s1,s4,br,qog,bned]
  ·by_cases s5:st=5<;>simp[s5,br,qog,bned]
 ·simp only[z10 (by omega:¬ k=1),z10 (by omega:¬ k=2),z10 (by omega:¬ k=3),z10 (by omega:¬ k=4),z10 (by omega:¬ k=5),z10 (by omega:¬ k=6),z10 (by omega:¬ k=7),z10 (by omega:¬ k=8),z10 (by omega:¬ k=9),z10 (by omega:¬ k=10),z20,br_f]
  have k1:¬ k=1:=by omega
  have k2:¬ k=2:=by omega
  have k3:¬ k=3:=by omega
  have k4:¬ k=4:=by omega
  have k5:¬ k=5:=by omega
  have k6:¬ k=6:=by omega
  have k8:¬ k=8:=by omega
  have k9:¬ k=9:=by omega
  have k10:¬ k=10:=by omega
  simp[k1,k2,k3,k4,k5,k6,k8,k9,k10,qog]
end
end Go.G

namespace Go.G
set_option maxRecDepth 100000
open Go Go.V Go.Proofs
def val (got:Got) (p:Int):Int:=(qbf got p).1
def becP (k row st p old:Int):Int:=if k=8 then wrap .i64 (old+1) else if k=9 then (if p=13 then wrap .i64 (old+1) else if p=qbv row then st else old) else old
def same (got:Got) (p:Int):qbe:=(p,val got p,val got p,())
def entP (o:Op3) (got:Got):List qbe:=
 if o.1=1∨o.1=2∨o.1=3 then (ents got (chgL o.2.1 o.2.2.1 (val got (qp o.2.1)) (val got 13))).foldl insS [] else
 if o.1=7 then [same got 0,same got 1,same got 2,same got 3] else
 if o.1=8 then [(13,val got 13,1,())] else
 if o.1=9 then same got (qp (wrap .i64 (val got 13 - 1)))::(13,val got 13,wrap .i64 (val got 13+1),())::
  (bif inR (val got (qp (wrap .i64 (val got 13 - 1)))) 1 6 then [(qbv (val got (qp (wrap .i64 (val got 13 - 1)))),val got (qbv (val got (qp (wrap .i64 (val got 13 - 1))))),val got 13,())] else []) else
 if o.1=10 then [same got 13,same got (qbv o.2.2.1)] else []
def resP (o:Op3) (got:Got):Int×List Int×Unit:=
 if o.1=7 then (0,[val got 0,val got 1,val got 2,val got 3],()) else
 if o.1=10 then (if val got (qbv o.2.2.1)=0 then (3,[],()) else (0,[wrap .i64 (val got (qbv o.2.2.1) - 1)],())) else (0,[],())
def qbzc:Plan:=(false,(0,[],()),[],())
def qch (o:Op3) (got:Got):Plan×Bool×Unit:=
 if opOk o=true∧(run got (prog o)).2<0 then
  match qgj o got with
  | some x=>((true,(x.1,x.2,()),[],()),true,())
  | none=>((false,resP o got,entP o got,()),true,())
 else (qbzc,false,())
theorem qow {got:Got} {p:Int} {k:Int→PR} (hp:0≤p) (h:(run got (.ask p k)).2<0):hit got p=true∧(run got (k (val got p))).2<0∧(run got (.ask p k)).1=p::(run got (k (val got p))).1:=by
 cases hh:hit got p
 ·rw[qc6 hh] at h;dsimp only at h;omega
 ·rw[qd6 hh] at h ⊢;exact ⟨rfl,h,rfl⟩
theorem qt7 {o:Op3} (h:opOk o=true):((o.1=1∨o.1=2)∧(0≤o.2.1∧o.2.1≤3)∧(1≤o.2.2.1∧o.2.2.1≤6))∨((o.1=3∨o.1=4)∧(0≤o.2.1∧o.2.1≤3)∧o.2.2.1=0)∨
  ((o.1=5∨o.1=10)∧o.2.1=0∧(1≤o.2.2.1∧o.2.2.1≤6))∨(o.1=6∧(0≤o.2.1∧o.2.1≤2)∧o.2.2.1=0)∨((o.1=7∨o.1=8∨o.1=9)∧o.2.1=0∧o.2.2.1=0):=by
 unfold opOk at h
 by_cases k12:o.1=1∨o.1=2
 ·rw[show (decide (o.1=1)||decide (o.1=2))=true by simpa using k12,z21,z9] at h
  exact .inl ⟨k12,qcc.1 h.1,qcc.1 h.2⟩
 rw[show (decide (o.1=1)||decide (o.1=2))=false by simpa using k12,z20] at h
 by_cases k34:o.1=3∨o.1=4
 ·rw[show (decide (o.1=3)||decide (o.1=4))=true by simpa using k34,z21,z9,z45] at h
  exact .inr (.inl ⟨k34,qcc.1 h.1,h.2⟩)
 rw[show (decide (o.1=3)||decide (o.1=4))=false by simpa using k34,z20] at h
 by_cases k5:o.1=5∨o.1=10
 ·rw[show (decide (o.1=5)||decide (o.1=10))=true by simpa using k5,z21,z9,z45] at h
  exact .inr (.inr (.inl ⟨k5,h.1,qcc.1 h.2⟩))
 rw[show (decide (o.1=5)||decide (o.1=10))=false by simpa using k5,z20] at h
 by_cases k6:o.1=6
 ·rw[z11 k6,z21,z9,z45] at h
  exact .inr (.inr (.inr (.inl ⟨k6,qcc.1 h.1,h.2⟩)))
 rw[z10 k6,z20] at h
 by_cases k7:o.1=7∨o.1=8∨o.1=9
 ·rw[show (decide (o.1=7)||(decide (o.1=8)||decide (o.1=9)))=true by simpa using k7,z21,z9,z45,z45] at h
  exact .inr (.inr (.inr (.inr ⟨k7,h.1,h.2⟩)))
 ·rw[show (decide (o.1=7)||(decide (o.1=8)||decide (o.1=9)))=false by simpa using k7,z20] at h
  exact absurd h (by simp)
theorem q58 {got:Got} {K V held st:Int} (hv:1≤held∧held≤6→held≠V):(ents got (chgL K V held st)).foldl (bub ekey) []=(ents got (chgL K V held st)).foldl insS []∧Asc ((ents got (chgL K V held st)).foldl insS [])∧
  (∀ z,z∈(ents got (chgL K V held st)).foldl insS []↔z∈ents got (chgL K V held st))∧((ents got (chgL K V held st)).foldl insS []).length=(ents got (chgL K V held st)).length:=by
 obtain ⟨r1,r2,r3,r4⟩:=qbso (ents got (chgL K V held st)) [] List.Pairwise.nil (qbkj got _ (qbww hv)) (fun a ha=>by simp at ha)
 exact ⟨r1,r2,fun z=>by rw[r3];simp,by rw[r4];simp⟩
theorem qbam {o:Op3} {got:Got} (ho:opOk o=true) (hn:qgj o got=none) (hk:o.1=1∨o.1=2∨o.1=3):1≤val got (qp o.2.1)∧val got (qp o.2.1)≤6→val got (qp o.2.1)≠o.2.2.1:=by
 intro h
 have:=qt7 ho
 unfold qgj nowP at hn
 rcases hk with k | k | k
 ·rw[k] at hn
  by_cases h0:(qbf got (qp o.2.1)).1=0
  ·unfold val at h;omega
  ·rw[z6 ⟨rfl,h0⟩] at hn;cases hn
 ·rw[k] at hn
  rw[z5 (by omega),z5 (by omega)] at hn
  by_cases h0:(qbf got (qp o.2.1)).1=0
  ·unfold val at h;omega
  ·rw[z5 (by omega)] at hn
   by_cases h1:(qbf got (qp o.2.1)).1=o.2.2.1
   ·rw[z6 ⟨rfl,h1⟩] at hn;cases hn
   ·exact h1
 ·omega
section
variable {X:Ext} (hX:XOk X) {n:Nat} {got:Got}
include hX
theorem qb0r (hn:4≤n) (o:Op3) (p old row st:Int):q3g (DD X n) o p old row st=some ((becP o.1 row st p old,()),()):=by
 obtain ⟨n,rfl⟩:∃ k,n=k+1:=⟨n - 1,by omega⟩
 rw[qbqh hX]
 simp only[q23,qbca]
 rw[qgf hX (by omega),qc,qlg hX (by omega),qc]
 unfold becP
 by_cases h8:o.1=8
 ·rw[qh h8,z6 h8]
 rw[qi h8,z5 h8]
 by_cases h9:o.1=9
 ·rw[qh h9,z6 h9]
  by_cases h1:p=13
  ·rw[qh h1,z6 h1]
  rw[qi h1,z5 h1]
  by_cases h2:p=qbv row
  ·rw[qh h2,z6 h2]
  ·rw[qi h2,z5 h2]
 ·rw[qi h9,z5 h9]
theorem qbrv (N n:Nat) (hN:W+2≤N) (hg:got.length≤1048576) (K:Got→Op3→Plan→Plan→Option ((Plan×Bool×Unit)×Unit)) (st row:Int) (o:Op3) (x6:Plan) (g:Got) (P:List Int) (mo:Int×Bool×Unit) (hP:P.length≤20) :
  ∀ (m i:Nat) (rl:List Int) (el:List qbe),i≤P.length→P.length - i<m→rl.length≤i→el.length≤i→
  qka (DD X N) n K m got st row (P.length:Int) (i:Int) o x6 (false,(0,rl,()),el,()) (g,P,mo) =
   K got o x6 (false,(0,rl++(if o.1=7 then (P.drop i).map (val got) else []),()),el++(P.drop i).map (fun p=>(p,val got p,becP o.1 row st p (val got p),())),())
 | 0,_,_,_,_,h,_,_=>by omega
 | m+1,i,rl,el,hi,hf,h1,h2=>by
  have hb:=qbh
  have hW:=qbk
  simp only[qka,qyp]
  by_cases h:i<P.length
  ·rw[qh (by omega),ix h,br_t,qhc hX (by omega) got hg,qc,z12,qx h]
   dsimp only
   rw[qb0r hX (by omega),qc]
   dsimp only
   rw[qh (by omega),qhr h]
   simp only[z28]
   by_cases h7:o.1=7
   ·rw[qh h7,qh (by omega),qt (by omega)]
    rw[qbrv N n hN hg K st row o x6 g P mo hP m (i+1) _ _ (by omega) (by omega) (by rw[z19,List.length_singleton];omega) (by rw[z19,List.length_singleton];omega)]
    rw[z6 h7,z6 h7,z33,z33]
    rfl
   ·rw[qi h7,qt (by omega)]
    rw[qbrv N n hN hg K st row o x6 g P mo hP m (i+1) _ _ (by omega) (by omega) (by omega) (by rw[z19,List.length_singleton];omega)]
    rw[z5 h7,z5 h7,z33]
    rfl
  ·rw[qi (by omega),qji h]
   simp
end
end Go.G

namespace Go.G
set_option maxRecDepth 100000
open Go Go.V Go.Proofs
theorem qbek {o:Op3} {got:Got} (ho:opOk o=true) (hn:qgj o got=none) (hr:(run got (prog o)).2<0) (hk:¬ (o.1=1∨o.1=2∨o.1=3)) :
    ((run got (prog o)).1.length≤12∧∀ e∈(run got (prog o)).1,qle e)∧
    ((o.1=7∧(run got (prog o)).1.foldl (bub ikey) []=[0,1,2,3])∨
     (o.1=8∧val got 13=0∧(run got (prog o)).1.foldl (bub ikey) []=[13])∨
     (o.1=9∧(1≤val got 13∧val got 13≤4)∧(run got (prog o)).1.foldl (bub ikey) []=qp (wrap .i64 (val got 13 - 1))::13::(bif inR (val got (qp (wrap .i64 (val got 13 - 1)))) 1 6 then [qbv (val got (qp (wrap .i64 (val got 13 - 1))))] else []))∨
     (o.1=10∧(run got (prog o)).1.foldl (bub ikey) []=[13,qbv o.2.2.1])):=by
  have hkd:=qt7 ho
  unfold qgj nowP at hn
  rw[z5 (by omega),z5 (by omega)] at hn
  by_cases k4:o.1=4
  · exfalso
    by_cases h0:(qbf got (qp o.2.1)).1=0
    · rw[z6 ⟨.inr (.inr k4),h0⟩] at hn;cases hn
    · rw[z5 (by omega),z5 (by omega),z5 (by omega),z6 k4] at hn;cases hn
  rw[z5 (by omega),z5 (by omega),z5 (by omega),z5 k4] at hn
  by_cases k5:o.1=5
  · exfalso
    by_cases h0:(qbf got (qy o.2.2.1)).1=0
    · rw[z6 ⟨k5,h0⟩] at hn;cases hn
    · rw[z5 (by omega),z6 k5] at hn;cases hn
  rw[z5 (by omega),z5 k5] at hn
  by_cases k6:o.1=6
  · exfalso;rw[z6 k6] at hn;cases hn
  rw[z5 k6] at hn
  have kk:o.1=7∨o.1=8∨o.1=9∨o.1=10:=by omega
  have hprog:prog o=if o.1=7 then qn1 else if o.1=8 then .ask 13 (fun _=>.done) else if o.1=9 then qkh else if o.1=10 then qk2 o else .done:=by
    unfold prog
    rw[z5 (by omega),z5 (by omega),z5 (by omega),z5 k4,z5 k5,z5 k6]
  rw[hprog] at hr ⊢
  rcases kk with k | k | k | k
  · rw[z6 k] at hr ⊢
    unfold qn1 at hr ⊢
    obtain ⟨_,r1,e1⟩:=qow (by omega) hr
    obtain ⟨_,r2,e2⟩:=qow (by omega) r1
    obtain ⟨_,r3,e3⟩:=qow (by omega) r2
    obtain ⟨_,_,e4⟩:=qow (by omega) r3
    rw[e1,e2,e3,e4]
    refine ⟨⟨by simp[run],fun e he=>?_⟩,.inl ⟨k,rfl⟩⟩
    simp only[run,z15,z25,or_false] at he
    rcases he with rfl | rfl | rfl | rfl<;>exact ⟨by omega,by omega⟩
  · rw[z5 (by omega),z6 k] at hr ⊢
    obtain ⟨_,_,e1⟩:=qow (by omega) hr
    rw[e1]
    refine ⟨⟨by simp[run],fun e he=>?_⟩,.inr (.inl ⟨k,?_,rfl⟩)⟩
    · simp only[run,z15,z25,or_false] at he
      subst he;exact ⟨by omega,by omega⟩
    · by_cases s0:(qbf got 13).1=0
      · exact s0
      · rw[z6 ⟨k,s0⟩] at hn;cases hn
  · rw[z5 (by omega),z5 (by omega),z6 k] at hr ⊢
    rw[z5 (by omega)] at hn
    have hst:1≤val got 13∧val got 13≤4:=by
      by_cases s0:(qbf got 13).1<1∨(qbf got 13).1>4
      · rw[z6 ⟨k,s0⟩] at hn;cases hn
      · unfold val;omega
    unfold qkh at hr ⊢
    obtain ⟨_,r1,e1⟩:=qow (by omega) hr
    rw[e1]
    have hb:(bif decide (val got 13<1) then true else decide (val got 13>4))=false:=by
      rw[z10 (by omega),z10 (by omega)];rfl
    rw[hb,z20] at r1 ⊢
    have hw:wrap .i64 (val got 13 - 1)=val got 13 - 1:=qn (by omega) (by omega)
    have hrow:=qmv (wrap .i64 (val got 13 - 1))
    rw[hw] at hrow
    rw[hw] at r1 ⊢
    obtain ⟨_,r2,e2⟩:=qow (by omega) r1
    rw[e2]
    generalize hrr:qp (val got 13 - 1)=p at *
    have hp:0≤p∧p≤3:=by omega
    cases hv:inR (val got p) 1 6
    · rw[Bool.not_false,z21,z20]
      have es:[(13:Int),p].foldl (bub ikey) []=[p,13]:=by
        simp only[List.foldl_cons,List.foldl_nil,bub,List.reverse_nil,bubR,List.reverse_singleton]
        rw[z6 (show ikey p<ikey 13 by unfold ikey;omega)];rfl
      refine ⟨⟨by simp[run],fun e he=>?_⟩,.inr (.inr (.inl ⟨k,hst,es⟩))⟩
      simp only[run,z15,z25,or_false] at he
      rcases he with rfl | rfl<;>exact ⟨by omega,by omega⟩
    · rw[hv,z13,z20] at r2
      rw[z13,z20,z21]
      have hvia:=qgt (val got p)
      have hvr:=qcc.1 hv
      obtain ⟨_,_,e3⟩:=qow (by omega) r2
      rw[e3]
      have es:[(13:Int),p,qbv (val got p)].foldl (bub ikey) []=[p,13,qbv (val got p)]:=by
        simp only[List.foldl_cons,List.foldl_nil,bub,List.reverse_nil,bubR,List.reverse_singleton]
        rw[z6 (show ikey p<ikey 13 by unfold ikey;omega)]
        simp only[List.reverse_cons,List.reverse_nil,z46,z40,bubR]
        rw[z5 (show ¬ ikey (qbv (val got p))<ikey 13 by unfold ikey;omega)]
        rfl
      refine ⟨⟨by simp[run],fun e he=>?_⟩,.inr (.inr (.inl ⟨k,hst,es⟩))⟩
      simp only[run,z15,z25,or_false] at he
      rcases he with rfl | rfl | rfl<;>exact ⟨by omega,by omega⟩
  · rw[z5 (by omega),z5 (by omega),z5 (by omega),z6 k] at hr ⊢
    rw[z5 (by omega),z5 (by omega)] at hn
    have hst:val got 13=5:=by
      by_cases s0:(qbf got 13).1=5
      · exact s0
      · rw[z6 ⟨k,s0⟩] at hn;cases hn
    unfold qk2 at hr ⊢
    obtain ⟨_,r1,e1⟩:=qow (by omega) hr
    rw[e1]
    rw[hst] at r1 ⊢
    rw[show ((5:Int) != 5)=false by decide,z20] at r1 ⊢
    have hvia:=qgt o.2.2.1
    obtain ⟨_,_,e3⟩:=qow (by omega) r1
    rw[e3]
    have es:[(13:Int),qbv o.2.2.1].foldl (bub ikey) []=[13,qbv o.2.2.1]:=by
      simp only[List.foldl_cons,List.foldl_nil,bub,List.reverse_nil,bubR,List.reverse_singleton]
      rw[z5 (show ¬ ikey (qbv o.2.2.1)<ikey 13 by unfold ikey;omega)]
      rfl
    refine ⟨⟨by simp[run],fun e he=>?_⟩,.inr (.inr (.inr ⟨k,es⟩))⟩
    simp only[run,z15,z25,or_false] at he
    rcases he with rfl | rfl<;>exact ⟨by omega,by omega⟩
end Go.G

namespace Go.G
set_option maxRecDepth 100000
open Go Go.V Go.Proofs
section
variable {X:Ext} (hX:XOk X) {n:Nat} {got:Got}
include hX
theorem qbxy (hn:W+3≤n) (hg:got.length≤1048576) (o:Op3) (x6:Plan) (rl:List Int) (el:List qbe):qkm (DD X n) n got o x6 (false,(0,rl,()),el,()) =
  some (((false,(if o.1=10 then (if val got (qbv o.2.2.1)=0 then (3,rl,()) else (0,[wrap .i64 (val got (qbv o.2.2.1) - 1)],())) else (0,rl,())),el,()),true,()),()):=by
 have hW:=qbk
 simp only[qkm]
 by_cases k:o.1=10
 ·rw[qh k,z6 k,qlg hX (by omega),qc]
  dsimp only
  rw[qhc hX (by omega) got hg,qc]
  dsimp only
  unfold val
  by_cases h:(qbf got (qbv o.2.2.1)).1=0
  ·rw[bned,z11 h,z13,br_f,z6 h]
  ·rw[bned,z10 h,Bool.not_false,br_t,z5 h]
 ·rw[qi k,z5 k]
theorem qbsz (hn:W+14≤n) (hg:got.length≤1048576) (o:Op3):qt8 (DD X n) o got=some (qch o got,()):=by
 obtain ⟨n,rfl⟩:∃ k,n=k+1:=⟨n - 1,by omega⟩
 have hW:=qbk
 obtain ⟨k,K,V,⟨⟩⟩:=o
 rw[qbpt hX]
 simp only[q3f,q2t,qv4]
 rw[q4n hX (by omega),qc]
 dsimp only
 unfold qch
 cases ho:opOk (k,K,V,())
 ·rw[Bool.not_false,br_t,z5 (by simp)];rfl
 obtain ⟨b,e⟩:=qbt1 hX (n:=n) (by omega) hg (k,K,V,())
 rw[z13,br_f,e,qc]
 dsimp only
 by_cases hr:(run got (prog (k,K,V,()))).2<0
 ·rw[qi (by omega),z6 ⟨rfl,hr⟩,qbz1 hX (by omega) hg,qc]
  cases hnow:qgj (k,K,V,()) got with
  | some x=>
   simp only[qog]
   rw[br_t]
  | none=>
   simp only[qog]
   rw[br_f,qgf hX (by omega),qc]
   dsimp only
   rw[qhc hX (by omega) got hg,qc]
   dsimp only
   rw[qi1 hX (by omega),qc]
   dsimp only
   rw[qhc hX (by omega) got hg,qc]
   dsimp only
   by_cases hk:k=1∨k=2∨k=3
   ·have hne:=qbam ho hnow hk
    obtain ⟨c1,_,_,_⟩:=q58 (got:=got) (K:=K) (V:=V) (held:=val got (qp K)) (st:=val got 13) hne
    have h123:(bif bif decide (k=1) then true else decide (k=2) then true else decide (k=3))=true:=by
     rcases hk with h | h | h<;>subst h<;>rfl
    rw[qi (by omega),h123,br_t,qbyw hX (by omega) hg,qc]
    dsimp only
    unfold resP entP
    rw[z6 hk,z5 (show ¬ k=7 by omega),z5 (show ¬ k=10 by omega)]
    have c1':=c1
    unfold val at c1' ⊢
    rw[c1']
   ·obtain ⟨⟨p1,p2⟩,pl⟩:=qbek ho hnow hr hk
    have h123:(bif bif decide (k=1) then true else decide (k=2) then true else decide (k=3))=false:=by
     rw[z10 (show ¬ k=1 by omega),z10 (show ¬ k=2 by omega),z10 (show ¬ k=3 by omega)];rfl
    rw[h123]
    simp only[br_f]
    have hsort:=qb26 hX (n:=n) (by omega) _ p1 p2
    have hloop:∀ (row:Int) (P:List Int) (x6:Plan),P.length≤20→qka (DD X n) n (fun v0_0 v0_1 v0_2 v0_3=>qkm (DD X n) n v0_0 v0_1 v0_2 v0_3) n got (qbf got 13).1 row (P.length:Int) 0 (k,K,V,()) x6 (false,(0,[],()),[],()) (got,P,(run got (prog (k,K,V,()))).2,b,()) =
      some (((false,(if k=10 then (if val got (qbv V)=0 then (3,(if k=7 then P.map (val got) else []),()) else (0,[wrap .i64 (val got (qbv V) - 1)],())) else (0,(if k=7 then P.map (val got) else []),())),P.map (fun p=>(p,val got p,becP k row (qbf got 13).1 p (val got p),())),()),true,()),()):=by
     intro row P x6 hP
     have:=qbrv hX n n (by omega) hg (fun v0_0 v0_1 v0_2 v0_3=>qkm (DD X n) n v0_0 v0_1 v0_2 v0_3) (qbf got 13).1 row (k,K,V,()) x6 got P ((run got (prog (k,K,V,()))).2,b,()) hP n 0 [] [] (by omega) (by omega) (by simp) (by simp)
     rw[show ((0:Nat):Int)=0 from rfl,List.drop_zero] at this
     rw[this]
     rw[qbxy hX (by omega) hg]
     simp only[z46]
    unfold resP entP
    dsimp only
    rw[z5 hk]
    rcases pl with ⟨h7,hp⟩ | ⟨h8,hz,hp⟩ | ⟨h9,hz,hp⟩ | ⟨h10,hp⟩
    ·dsimp only at h7;subst h7
     rw[qi (by decide),hsort,qc,hp]
     dsimp only
     rw[hloop _ [0,1,2,3] _ (by simp)]
     rfl
    ·dsimp only at h8;subst h8
     rw[qi (by decide),hsort,qc,hp]
     dsimp only
     rw[hloop _ [13] _ (by simp),z5 (by decide),z5 (by decide),z5 (by decide),z5 (by decide),z6 rfl,z5 (by decide)]
     simp only[z28,List.map_nil,becP,if_true]
     rw[hz]
     rfl
    ·dsimp only at h9;subst h9
     rw[qh rfl,qi1 hX (by omega),qc]
     dsimp only
     rw[qhc hX (by omega) got hg,qc]
     dsimp only
     rw[hsort,qc,hp]
     dsimp only
     rw[hloop _ _ _ (by cases inR (val got (qp (wrap .i64 (val got 13 - 1)))) 1 6<;>simp)]
     have hw:wrap .i64 (val got 13 - 1)=val got 13 - 1:=qn (by omega) (by omega)
     have hrow:=qmv (wrap .i64 (val got 13 - 1))
     rw[hw] at hrow
     rw[z5 (by decide),z5 (by decide),z5 (by decide),z5 (by decide),z6 rfl,z5 (by decide),z5 (by decide)]
     have hvv:(qbf got 13).1=val got 13:=rfl
     rw[hvv,hw]
     have hv2:(qbf got (qp (val got 13 - 1))).1=val got (qp (val got 13 - 1)):=rfl
     rw[hv2]
     generalize qp (val got 13 - 1)=p at *
     have hpr:0≤p∧p≤3:=by omega
     have hvia:=qgt (val got p)
     have b1:∀ x,becP 9 (val got p) (val got 13) p x=x:=fun x=>by
      unfold becP;rw[z5 (by decide),z6 rfl,z5 (by omega),z5 (by omega)]
     have b2:∀ x,becP 9 (val got p) (val got 13) 13 x=wrap .i64 (x+1):=fun x=>by
      unfold becP;rw[z5 (by decide),z6 rfl,z6 rfl]
     cases hin:inR (val got p) 1 6
     ·simp only[z20,z28,List.map_nil,b1,b2]
      rfl
     ·have hvr:=qcc.1 hin
      have b3:∀ x,becP 9 (val got p) (val got 13) (qbv (val got p)) x=val got 13:=fun x=>by
       unfold becP;rw[z5 (by decide),z6 rfl,z5 (by omega),z6 rfl]
      simp only[z21,z28,List.map_nil,b1,b2,b3]
      rfl
    ·dsimp only at h10;subst h10
     rw[qi (by decide),hsort,qc,hp]
     dsimp only
     rw[hloop _ [13,qbv V] _ (by simp)]
     simp[becP,same]
 ·rw[qh (by omega),z5 (fun h=>hr h.2)];rfl
end
end Go.G

namespace Go.G
set_option maxRecDepth 100000
open Go Go.V Go.Proofs
theorem qbc4 {α:Type} (key:α→Int):∀ (L acc:List α) (z:α),z∈L.foldl (bub key) acc↔z∈acc∨z∈L
 | [],acc,z=>by simp
 | e::L,acc,z=>by
  rw[List.foldl_cons,qbc4 key L,qbmb,z15]
  constructor
  ·rintro ((h | h) | h)
   ·exact .inr (.inl h)
   ·exact .inl h
   ·exact .inr (.inr h)
  ·rintro (h | h | h)
   ·exact .inl (.inr h)
   ·exact .inl (.inl h)
   ·exact .inr h
def qbqw (o:Op3) (got:Got):Int:=if opOk o=true then (run got (prog o)).2 else -1
section
variable {X:Ext} (hX:XOk X) {n:Nat} {got:Got}
include hX
theorem qbub (hn:W+13≤n) (hg:got.length≤1048576) (o:Op3):q8f (DD X n) o got=some ((qbqw o got,()),()):=by
 obtain ⟨n,rfl⟩:∃ k,n=k+1:=⟨n - 1,by omega⟩
 have hW:=qbk
 rw[qbuz hX]
 simp only[q8g,qbg1]
 obtain ⟨b,e⟩:=qbt1 hX (n:=n) (by omega) hg o
 obtain ⟨k,K,V,⟨⟩⟩:=o
 rw[q4n hX (by omega),qc]
 dsimp only
 unfold qbqw
 cases ho:opOk (k,K,V,())
 ·rw[Bool.not_false,br_t];rfl
 ·rw[z13,br_f,e,qc,z6 rfl]
end
end Go.G

namespace Go.G
open Go Go.V
abbrev Cur:=List Int×Int×Int×Unit
def qhb (c:Cur):Prop:=c.1.length≤1048576∧0≤c.2.1∧c.2.1≤c.1.length
theorem qbfi (x:BitVec (IntKind.bits IntKind.i64)):0≤wrap .i64 ((BitVec.toNat (BitVec.and x (BitVec.ofInt (IntKind.bits IntKind.i64) 255)):Nat):Int)∧wrap .i64 ((BitVec.toNat (BitVec.and x (BitVec.ofInt (IntKind.bits IntKind.i64) 255)):Nat):Int)≤255:=by
 have h:BitVec.toNat (BitVec.and x (BitVec.ofInt (IntKind.bits IntKind.i64) 255))≤255:=by
  show BitVec.toNat (x &&&BitVec.ofInt (IntKind.bits IntKind.i64) 255)≤255
  rw[BitVec.toNat_and]
  exact Nat.le_trans Nat.and_le_right (by decide)
 rw[qn (by omega) (by omega)]
 omega
theorem q5i {X:Ext} (hX:XOk X) {n:Nat} (hn:1≤n) {c:Cur} (hc:qhb c):∃ (x:Int) (c':Cur),0≤x∧x≤255∧qhb c'∧qjh (DD X n) c=some ((x,()),(c',())):=by
 obtain ⟨n,rfl⟩:∃ k,n=k+1:=⟨n - 1,by omega⟩
 obtain ⟨h1,h2,h3⟩:=hc
 rw[qbqf hX]
 simp only[q2h,qbb3]
 by_cases h:c.2.1<(c.1.length:Int)
 ·rw[qh h,ixn h2 h,br_t,qn (x:=c.2.1+1) (by omega) (by omega)]
  refine ⟨_,(c.1,c.2.1+1,_,()),(qbfi _).1,(qbfi _).2,⟨h1,?_,?_⟩,rfl⟩
  ·show 0≤c.2.1+1;omega
  ·show c.2.1+1≤(c.1.length:Int);omega
 ·rw[qi h]
  have k:∀ h u,qhb (c.1,c.2.1,h,u):=fun _ _=>⟨h1,h2,h3⟩
  exact ⟨_,_,(qbfi _).1,(qbfi _).2,k _ _,rfl⟩
theorem qj3 {X:Ext} (hX:XOk X) {n:Nat} (hn:2≤n) {c:Cur} (hc:qhb c) (k:Int):∃ (x:Int) (c':Cur),(0<k→0≤x∧x<k)∧(k≤0→x=0)∧qhb c'∧qce (DD X n) c k=some ((x,()),(c',())):=by
 obtain ⟨n,rfl⟩:∃ k,n=k+1:=⟨n - 1,by omega⟩
 rw[qbn8 hX]
 simp only[qzr,qbai]
 by_cases h:k≤0
 ·rw[qh h]
  exact ⟨0,c,fun h2=>by omega,fun _=>rfl,hc,rfl⟩
 ·rw[qi h]
  by_cases h2:k≤256
  ·obtain ⟨x,c',x0,x1,hc',e⟩:=q5i hX (n:=n) (by omega) hc
   rw[qh h2,e,qc]
   dsimp only
   rw[qi (by omega)]
   refine ⟨_,_,fun _=>?_,fun h3=>by omega,hc',rfl⟩
   rw[Int.tmod_eq_emod_of_nonneg x0]
   exact ⟨Int.emod_nonneg _ (by omega),Int.emod_lt_of_pos _ (by omega)⟩
  ·obtain ⟨x,c1,x0,x1,hc1,e1⟩:=q5i hX (n:=n) (by omega) hc
   obtain ⟨y,c2,y0,y1,hc2,e2⟩:=q5i hX (n:=n) (by omega) hc1
   obtain ⟨z,c3,z0,z1,hc3,e3⟩:=q5i hX (n:=n) (by omega) hc2
   obtain ⟨w,c4,w0,w1,hc4,e4⟩:=q5i hX (n:=n) (by omega) hc3
   rw[qi h2,e1,qc]
   dsimp only
   rw[e2,qc]
   dsimp only
   rw[e3,qc]
   dsimp only
   rw[e4,qc]
   dsimp only
   rw[qi (by omega),qn (x:=x * 16777216) (by omega) (by omega),qn (x:=y * 65536) (by omega) (by omega),qn (x:=x * 16777216+y * 65536) (by omega) (by omega),
    qn (x:=z * 256) (by omega) (by omega),qn (x:=x * 16777216+y * 65536+z * 256) (by omega) (by omega),qn (x:=x * 16777216+y * 65536+z * 256+w) (by omega) (by omega)]
   refine ⟨_,_,fun _=>?_,fun h3=>by omega,hc4,rfl⟩
   rw[Int.tmod_eq_emod_of_nonneg (by omega)]
   exact ⟨Int.emod_nonneg _ (by omega),Int.emod_lt_of_pos _ (by omega)⟩
theorem qbg3 {X:Ext} (hX:XOk X) {n:Nat} (hn:3≤n) {c:Cur} (hc:qhb c) (l:List Int) (hl:0<l.length):∃ (x:Int) (c':Cur),x∈l∧qhb c'∧qnz (DD X n) c l=some ((x,()),(c',())):=by
 obtain ⟨n,rfl⟩:∃ k,n=k+1:=⟨n - 1,by omega⟩
 rw[qbh6 hX]
 simp only[qvc,q5k]
 obtain ⟨x,c',h1,_,hc',e⟩:=qj3 hX (n:=n) (by omega) hc (l.length:Int)
 obtain ⟨x0,x1⟩:=h1 (by omega)
 rw[e,qc]
 dsimp only
 rw[ixn x0 x1,br_t,qx (by omega)]
 exact ⟨_,_,z24 _,hc',rfl⟩
theorem qbwj (D:Den ctx) (n:Nat) {K0:List Int→Int→Option ((Cur×Unit)×Unit)} (a:List Int) (ha:a.length≤1048576):∀ (m i:Nat) (h:Int),i≤a.length→a.length - i<m→∃ h':Int,qok D n K0 m a h i=K0 a h'
 | 0,_,_,_,h=>by omega
 | m+1,i,h,hi,hf=>by
  simp only[qok,q1z]
  by_cases h1:i<a.length
  ·by_cases h2:(i:Int)<4000
   ·rw[z11 (by omega:(i:Int)<(a.length:Int)),z21,qh h2,z11 (by omega:(0:Int)≤(i:Int)),Bool.and_self,br_t,qt (by omega)]
    exact qbwj D n a ha m (i+1) _ (by omega) (by omega)
   ·rw[z11 (by omega:(i:Int)<(a.length:Int)),z21,qi h2]
    exact ⟨h,rfl⟩
  ·rw[z10 (by omega:¬ (i:Int)<(a.length:Int)),z20,br_f]
   exact ⟨h,rfl⟩
theorem qb2a {X:Ext} (hX:XOk X) {n:Nat} (hn:W+1≤n) (a:List Int) (ha:a.length≤1048576):∃ c:Cur,qhb c∧q6n (DD X n) a=some ((c,()),()):=by
 obtain ⟨n,rfl⟩:∃ k,n=k+1:=⟨n - 1,by omega⟩
 have hW:=qbk
 rw[qbt6 hX]
 simp only[q50,q42,qzt]
 obtain ⟨h',e⟩:=qbwj (DD X n) n (K0:=fun v w=>q7j (DD X n) n v w) a ha n 0 (wrap .i64 (27323+(a.length:Int))) (by omega) (by omega)
 rw[show ((0:Nat):Int)=0 from rfl] at e
 exact ⟨(a,0,h',()),⟨ha,by show (0:Int)≤0;omega,by show (0:Int)≤(a.length:Int);omega⟩,e⟩
theorem qb4k {X:Ext} (hX:XOk X) {n:Nat} (hn:1≤n) (a:List Int):qbbm (DD X n) a=some ((decide ((a.length:Int)>1048576),()),()):=by
 obtain ⟨n,rfl⟩:∃ k,n=k+1:=⟨n - 1,by omega⟩
 rw[qbxq hX];rfl
end Go.G

namespace Go.G
set_option maxRecDepth 100000
open Go Go.V Go.Proofs
abbrev qu:=List Int×Int×Unit
def keyF (v:Int):List Int→Nat→Int
 | [],_=>-1
 | x::l,i=>if x=v then (i:Int) else keyF v l (i+1)
theorem q61 (v:Int):∀ (l:List Int) (i:Nat),keyF v l i<0→v∉l
 | [],i,_=>by simp
 | x::l,i,h=>by
  simp only[keyF] at h
  by_cases e:x=v
  ·rw[z6 e] at h;omega
  ·rw[z5 e] at h
   have:=q61 v l (i+1) h
   intro hm
   rcases z15.1 hm with k | k
   ·exact e k.symm
   ·exact this k
theorem q4x (v:Int):∀ (l:List Int) (i k:Nat),l[k]? = some v→(∀ j<k,l[j]?≠some v)→keyF v l i=((i+k:Nat):Int)
 | [],i,k,h,_=>by simp at h
 | x::l,i,0,h,_=>by
  simp only[List.getElem?_cons_zero,z4] at h
  simp only[keyF];rw[z6 h];rfl
 | x::l,i,k+1,h,hj=>by
  simp only[List.getElem?_cons_succ] at h
  simp only[keyF]
  rw[z5 (by have:=hj 0 (by omega);simp only[List.getElem?_cons_zero,ne_eq,z4] at this;exact this),q4x v l (i+1) k h (fun j h2=>by have:=hj (j+1) (by omega);simpa using this)]
  congr 1;omega
structure RightR (r:qu):Prop where
 len:r.1.length=4
 rng:∀ x∈r.1,0≤x∧x≤6
 once:∀ i j:Nat,i<j→∀ v,r.1[i]? = some v→r.1[j]? = some v→v=0
 st:0≤r.2.1∧r.2.1≤5
section
variable {X:Ext} (hX:XOk X) {n:Nat}
include hX
theorem qbv0 (D:Den ctx) (n:Nat) (K0:Int→Option ((Int×Unit)×Unit)) (K1:Option ((Int×Unit)×Unit)) (hK:K0 (-1)=K1) (r:qu) (hr:r.1.length≤1000) (v:Int):∀ (m i:Nat),i≤r.1.length→r.1.length - i<m→
  qoo D n K0 K1 m v (i:Int) r=K0 (keyF v (r.1.drop i) i)
 | 0,_,_,h=>by omega
 | m+1,i,hi,hf=>by
  simp only[qoo,q1x]
  by_cases h:i<r.1.length
  ·rw[qh (by omega),ix h,br_t,z12,qx h,qhr h]
   simp only[keyF]
   by_cases e:r.1[i]=v
   ·rw[qh e,z6 e]
   ·rw[qi e,z5 e,qt (by omega)]
    exact qbv0 D n K0 K1 hK r hr v m (i+1) (by omega) (by omega)
  ·rw[qi (by omega),qji h]
   exact hK.symm
theorem qbhg (hn:W+1≤n) (r:qu) (hr:r.1.length≤1000) (v:Int):qw3 (DD X n) r v=some ((keyF v r.1 0,()),()):=by
 obtain ⟨n,rfl⟩:∃ k,n=k+1:=⟨n - 1,by omega⟩
 have hW:=qbk
 rw[qbs5 hX]
 simp only[q49,q5p,qyu]
 have e:=qbv0 hX (DD X n) n (fun v0_0=>q7v (DD X n) n v0_0) (q72 (DD X n) n) rfl r hr v n 0 (by omega) (by omega)
 rw[show ((0:Nat):Int)=0 from rfl] at e
 rw[e];rfl
theorem qbi4 (N n:Nat) (hN:W+2≤N) (K0:Bool→qu→Option ((Bool×Unit)×Unit)) (K1:qu→Option ((Bool×Unit)×Unit)) {r:qu} (hr:RightR r):∀ (m i:Nat),i≤r.1.length→r.1.length - i<m→
  qml (DD X N) n K0 K1 m (i:Int) r=K1 r
 | 0,_,_,h=>by omega
 | m+1,i,hi,hf=>by
  have hl:=hr.len
  have hW:=qbk
  simp only[qml,q0i]
  by_cases h:i<r.1.length
  ·rw[qh (by omega),ix h,br_t,z12,qx h]
   by_cases e:r.1[i]=0
   ·rw[bned,z11 e,z13,br_f,qt (by omega)]
    exact qbi4 N n hN K0 K1 hr m (i+1) (by omega) (by omega)
   ·have hv:=hr.rng r.1[i] (z24 h)
    rw[bned,z10 e,Bool.not_false,br_t,br_t,qvj hX (by omega),qc]
    dsimp only
    rw[qcc.2 (by omega),z13,br_f,br_t,qbhg hX (by omega) r (by omega),qc]
    dsimp only
    have hk:keyF r.1[i] r.1 0=(i:Int):=by
     rw[q4x r.1[i] r.1 0 i (z31 h) (fun j hj hc=>e (hr.once j i hj _ hc (z31 h)))]
     congr 1;omega
    rw[hk,bned,z11 rfl,z13,br_f,qt (by omega)]
    exact qbi4 N n hN K0 K1 hr m (i+1) (by omega) (by omega)
  ·rw[qi (by omega)]
theorem qbet (hn:W+3≤n) {r:qu} (hr:RightR r):qt6 (DD X n) r=some ((true,()),()):=by
 obtain ⟨n,rfl⟩:∃ k,n=k+1:=⟨n - 1,by omega⟩
 have hW:=qbk
 have hl:=hr.len
 rw[qbqi hX]
 simp only[q2c,q2w,qwm]
 have e:=qbi4 hX n n (by omega) (fun v0_0 v0_1=>q5o (DD X n) n v0_0 v0_1) (fun v1_0=>qu3 (DD X n) n v1_0) hr n 0 (by omega) (by omega)
 rw[show ((0:Nat):Int)=0 from rfl] at e
 rw[e]
 simp only[qu3]
 rw[qh (by omega),qqi hX (by omega),qc,qcc.2 hr.st]
theorem qbed (N n:Nat) (hN:W+2≤N) (K0:Cur→qu→qu→Option ((qu×Unit)×(Cur×Unit))) (z:qu):∀ (m i:Nat) (c:Cur) (r:qu),qhb c→RightR r→i≤4→4 - i<m→
  ∃ (c':Cur) (r':qu),qhb c'∧RightR r'∧qia (DD X N) n K0 m (i:Int) c z r=K0 c' z r'
 | 0,_,_,_,_,_,_,h=>by omega
 | m+1,i,c,r,hc,hr,hi,hf=>by
  have hl:=hr.len
  have hW:=qbk
  simp only[qia,qpj]
  by_cases h:i<4
  ·obtain ⟨x,c1,h1,_,hc1,e1⟩:=qj3 hX (n:=N) (by omega) hc 7
   obtain ⟨x0,x1⟩:=h1 (by omega)
   rw[qh (by omega),e1,qc]
   dsimp only
   rw[show (r.1,r.2)=r from rfl,qbhg hX (by omega) r (by omega),qc]
   dsimp only
   by_cases hk:keyF x r.1 0<0
   ·have hnot:=q61 x r.1 0 hk
    rw[qh hk,ixn (by omega) (by omega),br_t,qt (by omega),z12]
    have hr2:RightR (r.1.set i x,r.2):=by
     refine ⟨by show (r.1.set i x).length=4;rw[z17];exact hl,fun y hy=>?_,fun a b hab v ha hb=>?_,hr.st⟩
     ·rcases List.mem_or_eq_of_mem_set hy with hy | rfl
      ·exact hr.rng y hy
      ·omega
     ·simp only[List.getElem?_set] at ha hb
      by_cases ea:i=a
      ·rw[z6 ea] at ha
       rw[z5 (by omega)] at hb
       split at ha
       ·simp only[z4] at ha
        subst ha
        exact absurd (List.mem_iff_getElem?.2 ⟨b,hb⟩) hnot
       ·simp at ha
      ·rw[z5 ea] at ha
       by_cases eb:i=b
       ·rw[z6 eb] at hb
        split at hb
        ·simp only[z4] at hb
         subst hb
         exact absurd (List.mem_iff_getElem?.2 ⟨a,ha⟩) hnot
        ·simp at hb
       ·rw[z5 eb] at hb
        exact hr.once a b hab v ha hb
    exact qbed N n hN K0 z m (i+1) c1 (r.1.set i x,r.2) hc1 hr2 (by omega) (by omega)
   ·rw[qi hk,qt (by omega)]
    exact qbed N n hN K0 z m (i+1) c1 r hc1 hr (by omega) (by omega)
  ·rw[qi (by omega)]
   exact ⟨c,r,hc,hr,rfl⟩
theorem qbpp (hn:W+3≤n) {c:Cur} (hc:qhb c):∃ (r:qu) (c':Cur),RightR r∧(r.2.1=0∨r.2.1=1∨r.2.1=3∨r.2.1=5)∧qhb c'∧qqm (DD X n) c=some ((r,()),(c',())):=by
 obtain ⟨n,rfl⟩:∃ k,n=k+1:=⟨n - 1,by omega⟩
 have hW:=qbk
 have hnew:qy3 (DD X n)=some ((((List.replicate (Int.toNat 4) 0,0,()):qu),()),()):=by
  obtain ⟨n,rfl⟩:∃ k,n=k+1:=⟨n - 1,by omega⟩
  rw[qbnh hX];rfl
 rw[qbev hX]
 simp only[qrg,qq3,qob]
 rw[hnew,qc]
 dsimp only
 have h0:RightR ((List.replicate (Int.toNat 4) 0,0,()):qu):=by
  refine ⟨rfl,fun x hx=>?_,fun i j hij v hi hj=>?_,by show (0:Int)≤0∧(0:Int)≤5;omega⟩
  ·have:=(List.mem_replicate.1 hx).2;omega
  ·simp only[List.getElem?_replicate] at hi
   split at hi
   ·simp only[z4] at hi;exact hi.symm
   ·simp at hi
 obtain ⟨c',r',h1,h2,e⟩:=qbed hX n n (by omega) (fun v0_0 v0_1 v0_2=>qms (DD X n) n v0_0 v0_1 v0_2) ([],0,()) n 0 c _ hc h0 (by omega) (by omega)
 rw[show ((0:Nat):Int)=0 from rfl] at e
 rw[e]
 simp only[qms]
 obtain ⟨s,c2,hs,hc2,e2⟩:=qbg3 hX (n:=n) (by omega) h1 [0,0,1,3,5] (by simp)
 rw[e2,qc]
 have hs2:s=0∨s=1∨s=3∨s=5:=by
  simp only[z15,z25,or_false] at hs
  omega
 exact ⟨(r'.1,s,()),c2,⟨h2.len,h2.rng,h2.once,by show 0≤s∧s≤5;omega⟩,hs2,hc2,rfl⟩
end
end Go.G

namespace Go.G
set_option maxRecDepth 100000
open Go Go.V Go.Proofs
def qbm6 (ws:List Int):Prop:=ws.length=20∧∀ x∈ws,0≤x∧x≤1000
theorem qbm6.set {ws:List Int} (h:qbm6 ws) (i:Nat) {x:Int} (hx:0≤x∧x≤1000):qbm6 (ws.set i x):=
 ⟨by rw[z17];exact h.1,fun y hy=>by
  rcases List.mem_or_eq_of_mem_set hy with q | rfl
  ·exact h.2 y q
  ·exact hx⟩
def many (c:Int):List Int→Int
 | []=>0
 | x::l=>(bif inR x 1 6&&decide (qg x=c) then 1 else 0)+many c l
theorem q6i (c:Int):∀ l,0≤many c l∧many c l≤(l.length:Int)
 | []=>⟨by simp[many],by simp[many]⟩
 | x::l=>by
  have:=q6i c l
  simp only[many,z22]
  cases inR x 1 6&&decide (qg x=c)<;>simp only[z21,z20]<;>omega
section
variable {X:Ext} (hX:XOk X) {n:Nat}
include hX
theorem qbvs (hn:1≤n) (b:Bool):qq0 (DD X n) b=some ((bif b then 1 else 0,()),()):=by
 obtain ⟨n,rfl⟩:∃ k,n=k+1:=⟨n - 1,by omega⟩
 rw[qbra hX]
 cases b<;>rfl
theorem qbri (N n:Nat) (hN:4≤N) (K:Int→Option ((Int×Unit)×Unit)) (r:qu) (hr:r.1.length≤1000) (c:Int):∀ (m i:Nat) (a:Int),i≤r.1.length→r.1.length - i<m→0≤a∧a≤i→
  qk9 (DD X N) n K m c a (i:Int) r=K (a+many c (r.1.drop i))
 | 0,_,_,_,h,_=>by omega
 | m+1,i,a,hi,hf,ha=>by
  simp only[qk9,qwt]
  by_cases h:i<r.1.length
  ·rw[qh (by omega),ix h,br_t,z12,qx h,qvj hX (by omega),qc,qhr h]
   simp only[many]
   cases hv:inR r.1[i] 1 6
   ·rw[br_f,qbvs hX (by omega),qc]
    dsimp only
    rw[z20,qn (by omega) (by omega),qt (by omega),qbri N n hN K r hr c m (i+1) _ (by omega) (by omega) (by omega)]
    congr 1
    simp only[Bool.false_and,z20]
    omega
   ·rw[br_t,br_t,qbup hX (by omega),qc]
    dsimp only
    rw[qbvs hX (by omega),qc]
    dsimp only
    have hb:0≤(bif decide (qg r.1[i]=c) then (1:Int) else 0)∧(bif decide (qg r.1[i]=c) then (1:Int) else 0)≤1:=by
     cases decide (qg r.1[i]=c)<;>simp
    rw[qn (by omega) (by omega),qt (by omega),qbri N n hN K r hr c m (i+1) _ (by omega) (by omega) (by omega)]
    congr 1
    simp only[Bool.true_and]
    omega
  ·rw[qi (by omega),qji h]
   congr 1;simp[many]
theorem qbp5 (hn:W+1≤n) (r:qu) (hr:r.1.length≤1000) (c:Int):qz0 (DD X n) r c=some ((many c r.1,()),()):=by
 obtain ⟨n,rfl⟩:∃ k,n=k+1:=⟨n - 1,by omega⟩
 have hW:=qbk
 rw[qbni hX]
 simp only[qzc,qz6,qus]
 have e:=qbri hX n n (by omega) (fun v0_0=>q3u (DD X n) n v0_0) r hr c n 0 0 (by omega) (by omega) (by omega)
 rw[show ((0:Nat):Int)=0 from rfl,List.drop_zero,Int.zero_add] at e
 rw[e];rfl
end
end Go.G

namespace Go.G
set_option maxRecDepth 100000
open Go Go.V Go.Proofs
section
variable {X:Ext} (hX:XOk X) {n:Nat}
include hX
theorem qbqn (hn:6≤n) {c:Cur} (hc:qhb c):∃ (o:Op3) (c':Cur),qhb c'∧opOk o=true∧qqq (DD X n) c=some ((o,()),(c',())):=by
 obtain ⟨n,rfl⟩:∃ k,n=k+1:=⟨n - 1,by omega⟩
 rw[qbef hX]
 simp only[qrh,q1o]
 obtain ⟨k,c1,hk,hc1,e1⟩:=qbg3 hX (n:=n) (by omega) hc [1,1,1,2,2,3,4,5,6,7,8,9,9,10] (by simp)
 have hk2:k=1∨k=2∨k=3∨k=4∨k=5∨k=6∨k=7∨k=8∨k=9∨k=10:=by
  simp only[z15,z25,or_false] at hk
  omega
 obtain ⟨x,c2,h2,_,hc2,e2⟩:=qj3 hX (n:=n) (by omega) hc1 4
 obtain ⟨y,c3,h3,_,hc3,e3⟩:=qj3 hX (n:=n) (by omega) hc2 4
 obtain ⟨z,c4,h4,_,hc4,e4⟩:=qj3 hX (n:=n) (by omega) hc1 3
 obtain ⟨x0,x1⟩:=h2 (by omega)
 obtain ⟨y0,y1⟩:=h3 (by omega)
 obtain ⟨z0,z1⟩:=h4 (by omega)
 have ix4:inR x 0 3=true:=qcc.2 (by omega)
 have iz:inR z 0 2=true:=qcc.2 (by omega)
 have wy:wrap .i64 (1+y)=1+y:=qn (by omega) (by omega)
 have wx:wrap .i64 (1+x)=1+x:=qn (by omega) (by omega)
 have iy:inR (1+y) 1 6=true:=qcc.2 (by omega)
 have ix6:inR (1+x) 1 6=true:=qcc.2 (by omega)
 simp only[show (List.set (List.set (List.set (List.set (List.set (List.set (List.set (List.set (List.set (List.set (List.set (List.set (List.set (List.set (List.replicate 14 (0:Int)) 0 1) 1 1) 2 1) 3 2) 4 2) 5 3) 6 4) 7 5) 8 6) 9 7) 10 8) 11 9) 12 9) 13 10)=[1,1,1,2,2,3,4,5,6,7,8,9,9,10] from rfl]
 rw[e1,qc]
 dsimp only
 rw[qbvk hX (by omega),qc]
 dsimp only
 rcases hk2 with rfl | rfl | rfl | rfl | rfl | rfl | rfl | rfl | rfl | rfl
 ·rw[show inR 1 1 4=true from rfl,br_t,e2,qc]
  dsimp only
  rw[qi (by decide),qmk hX (by omega),qc]
  dsimp only
  rw[show (bif bif bif decide ((1:Int)=1) then true else decide ((1:Int)=2) then true else decide ((1:Int)=5) then true else decide ((1:Int)=10))=true from rfl,br_t,e3,qc,wy]
  exact ⟨_,_,hc3,by show (inR x 0 3&&inR (1+y) 1 6)=true;rw[ix4,iy];rfl,rfl⟩
 ·rw[show inR 2 1 4=true from rfl,br_t,e2,qc]
  dsimp only
  rw[qi (by decide),qmk hX (by omega),qc]
  dsimp only
  rw[show (bif bif bif decide ((2:Int)=1) then true else decide ((2:Int)=2) then true else decide ((2:Int)=5) then true else decide ((2:Int)=10))=true from rfl,br_t,e3,qc,wy]
  exact ⟨_,_,hc3,by show (inR x 0 3&&inR (1+y) 1 6)=true;rw[ix4,iy];rfl,rfl⟩
 ·rw[show inR 3 1 4=true from rfl,br_t,e2,qc]
  dsimp only
  rw[qi (by decide),qmk hX (by omega),qc]
  dsimp only
  rw[show (bif bif bif decide ((3:Int)=1) then true else decide ((3:Int)=2) then true else decide ((3:Int)=5) then true else decide ((3:Int)=10))=false from rfl,br_f]
  exact ⟨_,_,hc2,by show (inR x 0 3&&true)=true;rw[ix4];rfl,rfl⟩
 ·rw[show inR 4 1 4=true from rfl,br_t,e2,qc]
  dsimp only
  rw[qi (by decide),qmk hX (by omega),qc]
  dsimp only
  rw[show (bif bif bif decide ((4:Int)=1) then true else decide ((4:Int)=2) then true else decide ((4:Int)=5) then true else decide ((4:Int)=10))=false from rfl,br_f]
  exact ⟨_,_,hc2,by show (inR x 0 3&&true)=true;rw[ix4];rfl,rfl⟩
 ·rw[show inR 5 1 4=false from rfl,br_f,qi (by decide),qmk hX (by omega),qc]
  dsimp only
  rw[show (bif bif bif decide ((5:Int)=1) then true else decide ((5:Int)=2) then true else decide ((5:Int)=5) then true else decide ((5:Int)=10))=true from rfl,br_t,e2,qc,wx]
  exact ⟨_,_,hc2,by show (true&&inR (1+x) 1 6)=true;rw[ix6];rfl,rfl⟩
 ·rw[show inR 6 1 4=false from rfl,br_f,qh rfl,e4,qc]
  dsimp only
  rw[qmk hX (by omega),qc]
  dsimp only
  rw[show (bif bif bif decide ((6:Int)=1) then true else decide ((6:Int)=2) then true else decide ((6:Int)=5) then true else decide ((6:Int)=10))=false from rfl,br_f]
  exact ⟨_,_,hc4,by show (inR z 0 2&&true)=true;rw[iz];rfl,rfl⟩
 ·rw[show inR 7 1 4=false from rfl,br_f,qi (by decide),qmk hX (by omega),qc]
  exact ⟨_,_,hc1,rfl,rfl⟩
 ·rw[show inR 8 1 4=false from rfl,br_f,qi (by decide),qmk hX (by omega),qc]
  exact ⟨_,_,hc1,rfl,rfl⟩
 ·rw[show inR 9 1 4=false from rfl,br_f,qi (by decide),qmk hX (by omega),qc]
  exact ⟨_,_,hc1,rfl,rfl⟩
 ·rw[show inR 10 1 4=false from rfl,br_f,qi (by decide),qmk hX (by omega),qc]
  dsimp only
  rw[show (bif bif bif decide ((10:Int)=1) then true else decide ((10:Int)=2) then true else decide ((10:Int)=5) then true else decide ((10:Int)=10))=true from rfl,br_t,e2,qc,wx]
  exact ⟨_,_,hc2,by show (true&&inR (1+x) 1 6)=true;rw[ix6];rfl,rfl⟩
end
end Go.G

namespace Go.G
set_option maxRecDepth 100000
open Go Go.V Go.Proofs
theorem qb0z {k V row owner st cnt:Int} {x:Int×List Int} (h:nowP k V row owner st cnt=some x):x.2.length≤1:=by
 unfold nowP at h
 by_cases c0:k=1∧row≠0
 ·rw[z6 c0] at h;cases h;simp
 rw[z5 c0] at h
 by_cases c1:k=1∧owner≠0
 ·rw[z6 c1] at h;cases h;simp
 rw[z5 c1] at h
 by_cases c2:(k=2∨k=3∨k=4)∧row=0
 ·rw[z6 c2] at h;cases h;simp
 rw[z5 c2] at h
 by_cases c3:k=2∧row=V
 ·rw[z6 c3] at h;cases h;simp
 rw[z5 c3] at h
 by_cases c4:k=2∧owner≠0
 ·rw[z6 c4] at h;cases h;simp
 rw[z5 c4] at h
 by_cases c5:k=4
 ·rw[z6 c5] at h;cases h;simp
 rw[z5 c5] at h
 by_cases c6:k=5∧owner=0
 ·rw[z6 c6] at h;cases h;simp
 rw[z5 c6] at h
 by_cases c7:k=5
 ·rw[z6 c7] at h;cases h;simp
 rw[z5 c7] at h
 by_cases c8:k=6
 ·rw[z6 c8] at h;cases h;simp
 rw[z5 c8] at h
 by_cases c9:k=8∧st≠0
 ·rw[z6 c9] at h;cases h;simp
 rw[z5 c9] at h
 by_cases c10:k=9∧(st<1∨st>4)
 ·rw[z6 c10] at h;cases h;simp
 rw[z5 c10] at h
 by_cases c11:k=10∧st≠5
 ·rw[z6 c11] at h;cases h;simp
 rw[z5 c11] at h
 cases h
theorem qbx3 (o:Op3) (got:Got):(qch o got).1.2.1.2.1.length≤20∧(qch o got).1.2.2.1.length≤20:=by
 unfold qch
 split
 ·cases hn:qgj o got with
  | some x=>
   have:=qb0z hn
   exact ⟨by show x.2.length≤20;omega,by show (0:Nat)≤20;omega⟩
  | none=>
   refine ⟨?_,?_⟩
   ·show (resP o got).2.1.length≤20
    unfold resP
    repeat' split
    all_goals simp
   ·show (entP o got).length≤20
    unfold entP
    split
    ·rw[qbon]
     have:=Nat.le_trans (qbi2 got (chgL o.2.1 o.2.2.1 (val got (qp o.2.1)) (val got 13))) (qbrc _ _ _ _)
     simp only[List.length_nil];omega
    ·repeat' split
     ·simp
     ·simp
     ·cases inR (val got (qp (wrap .i64 (val got 13 - 1)))) 1 6<;>simp
     ·simp
     ·simp
 ·exact ⟨by show (0:Nat)≤20;omega,by show (0:Nat)≤20;omega⟩
section
variable {X:Ext} (hX:XOk X) {n:Nat}
include hX
end
end Go.G

namespace Go.G
set_option maxRecDepth 100000
open Go Go.V Go.Proofs
theorem qeu (l:List Int) (i j:Nat) (x:Int) (h:i<l.length):(l.set i x).getD j 0=if j=i then x else l.getD j 0:=by
 simp only[List.getD,List.getElem?_set]
 by_cases e:i=j
 ·subst e;rw[z6 rfl,z6 h,z6 rfl];rfl
 ·rw[z5 e,z5 (fun k=>e k.symm)]
theorem q6x (v:Int):∀ (l:List Int) (i k:Nat),keyF v l i=(k:Int)→i≤k∧l[k - i]? = some v
 | [],i,k,h=>by simp only[keyF] at h;omega
 | x::l,i,k,h=>by
  simp only[keyF] at h
  by_cases e:x=v
  ·rw[z6 e] at h
   have:i=k:=by omega
   subst this
   refine ⟨Nat.le_refl _,?_⟩
   rw[Nat.sub_self,e];rfl
  ·rw[z5 e] at h
   obtain ⟨h1,h2⟩:=q6x v l (i+1) k h
   refine ⟨by omega,?_⟩
   rw[show k - i=(k - (i+1))+1 by omega];exact h2
theorem qo2 (v:Int):∀ (l:List Int) (i:Nat),-1≤keyF v l i∧keyF v l i<(i+l.length:Nat)
 | [],i=>by simp only[keyF,List.length_nil];omega
 | x::l,i=>by
  have:=qo2 v l (i+1)
  simp only[keyF,z22]
  split<;>omega
def viaW (v:Int) (h:List Int) (i:Int) (st:Int):Int:=if 0≤keyF v h 0∧keyF v h 0<i∧keyF v h 0<st - 1 then keyF v h 0+1 else 0
def ownW (v:Int) (h:List Int) (i:Int):Int:=if 0≤keyF v h 0∧keyF v h 0<i then keyF v h 0+1 else 0
def qt3 (r:qu) (i p:Nat):Int:=
 if p<4 then (if p<i then r.1.getD p 0 else 0) else if p<10 then ownW ((p:Int) - 3) r.1 i else if p<14 then 0 else viaW ((p:Int) - 13) r.1 i r.2.1
def qdn (r:qu) (p:Nat):Int:=
 if p<4 then r.1.getD p 0 else if p<10 then ownW ((p:Int) - 3) r.1 4 else if p<13 then many ((p:Int) - 10) r.1 else if p=13 then r.2.1 else viaW ((p:Int) - 13) r.1 4 r.2.1
section
variable {X:Ext} (hX:XOk X) {n:Nat}
include hX
theorem qboo {r:qu} (hr:RightR r) {i:Nat} (hi:i<4) (hi2:i<r.1.length) (p:Nat) (hp:p<20) :
  qt3 r (i+1) p=if p<4 then (if p=i then r.1[i] else qt3 r i p) else if r.1[i]≠0∧(p:Int)=3+r.1[i] then (i:Int)+1 else
   if r.1[i]≠0∧(p:Int)=13+r.1[i]∧(i:Int)<r.2.1 - 1 then (i:Int)+1 else qt3 r i p:=by
 have hx:=hr.rng r.1[i] (z24 hi2)
 have hkey:r.1[i]≠0→keyF r.1[i] r.1 0=(i:Int):=fun e=>by
  rw[q4x r.1[i] r.1 0 i (z31 hi2) (fun j hj hc=>e (hr.once j i hj _ hc (z31 hi2)))]
  congr 1;omega
 have hother:∀ v:Int,v≠r.1[i]→keyF v r.1 0≠(i:Int):=fun v hv hc=>by
  obtain ⟨_,h2⟩:=q6x v r.1 0 i hc
  rw[Nat.sub_zero,z31 hi2] at h2
  exact hv (Option.some.inj h2).symm
 unfold qt3
 by_cases h4:p<4
 ·simp only[z6 h4]
  by_cases e:p=i
  ·subst e;simp only[z6 (show p<p+1 by omega),if_true,qx hi2]
  ·simp only[z5 e]
   by_cases e2:p<i
   ·simp only[z6 e2,z6 (show p<i+1 by omega)]
   ·simp only[z5 e2,z5 (show ¬ p<i+1 by omega)]
 simp only[z5 h4]
 by_cases h10:p<10
 ·have n13:¬ (r.1[i]≠0∧(p:Int)=13+r.1[i]∧(i:Int)<r.2.1 - 1):=by omega
  simp only[z6 h10,z5 n13]
  unfold ownW
  by_cases e:r.1[i]≠0∧(p:Int)=3+r.1[i]
  ·simp only[z6 e]
   rw[show (p:Int) - 3=r.1[i] by omega,hkey e.1,z6 (by omega)]
  ·simp only[z5 e]
   have hk:keyF ((p:Int) - 3) r.1 0≠(i:Int):=by
    by_cases q:(p:Int) - 3=r.1[i]
    ·exact absurd ⟨by omega,by omega⟩ e
    ·exact hother _ q
   by_cases c:0≤keyF ((p:Int) - 3) r.1 0∧keyF ((p:Int) - 3) r.1 0<(i:Int)
   ·simp only[z6 c,z6 (show 0≤keyF ((p:Int) - 3) r.1 0∧keyF ((p:Int) - 3) r.1 0<((i+1:Nat):Int) by omega)]
   ·simp only[z5 c,z5 (show ¬ (0≤keyF ((p:Int) - 3) r.1 0∧keyF ((p:Int) - 3) r.1 0<((i+1:Nat):Int)) by omega)]
 have n3:¬ (r.1[i]≠0∧(p:Int)=3+r.1[i]):=by omega
 simp only[z5 h10,z5 n3]
 by_cases h14:p<14
 ·have n13:¬ (r.1[i]≠0∧(p:Int)=13+r.1[i]∧(i:Int)<r.2.1 - 1):=by omega
  simp only[z6 h14,z5 n13]
 simp only[z5 h14]
 unfold viaW
 by_cases e:r.1[i]≠0∧(p:Int)=13+r.1[i]
 ·rw[show (p:Int) - 13=r.1[i] by omega,hkey e.1]
  by_cases c:(i:Int)<r.2.1 - 1
  ·simp only[z6 (show 0≤(i:Int)∧(i:Int)<((i+1:Nat):Int)∧(i:Int)<r.2.1 - 1 by omega),z6 (show r.1[i]≠0∧(p:Int)=13+r.1[i]∧(i:Int)<r.2.1 - 1 from ⟨e.1,e.2,c⟩)]
  ·simp only[z5 (show ¬ (0≤(i:Int)∧(i:Int)<((i+1:Nat):Int)∧(i:Int)<r.2.1 - 1) by omega),z5 (show ¬ (r.1[i]≠0∧(p:Int)=13+r.1[i]∧(i:Int)<r.2.1 - 1) from fun k=>c k.2.2),z5 (show ¬ (0≤(i:Int)∧(i:Int)<(i:Int)∧(i:Int)<r.2.1 - 1) by omega)]
 ·simp only[z5 (show ¬ (r.1[i]≠0∧(p:Int)=13+r.1[i]∧(i:Int)<r.2.1 - 1) from fun k=>e ⟨k.1,k.2.1⟩)]
  have hk:keyF ((p:Int) - 13) r.1 0≠(i:Int)∨(p:Int) - 13=0:=by
   by_cases q:(p:Int) - 13=r.1[i]
   ·by_cases z:r.1[i]=0
    ·exact .inr (by omega)
    ·exact absurd ⟨z,by omega⟩ e
   ·exact .inl (hother _ q)
  by_cases c:0≤keyF ((p:Int) - 13) r.1 0∧keyF ((p:Int) - 13) r.1 0<(i:Int)∧keyF ((p:Int) - 13) r.1 0<r.2.1 - 1
  ·simp only[z6 c,z6 (show 0≤keyF ((p:Int) - 13) r.1 0∧keyF ((p:Int) - 13) r.1 0<((i+1:Nat):Int)∧keyF ((p:Int) - 13) r.1 0<r.2.1 - 1 by omega)]
  ·simp only[z5 c,z5 (show ¬ (0≤keyF ((p:Int) - 13) r.1 0∧keyF ((p:Int) - 13) r.1 0<((i+1:Nat):Int)∧keyF ((p:Int) - 13) r.1 0<r.2.1 - 1) by omega)]
theorem q7l (N n:Nat) (hN:4≤N) (K:qu→List Int→Option ((List Int×Unit)×Unit)) {r:qu} (hr:RightR r):∀ (m i:Nat) (ws:List Int),i≤4→4 - i<m→ws.length=20→(∀ p<20,ws.getD p 0=qt3 r i p)→
  ∃ ws',ws'.length=20∧(∀ p<20,ws'.getD p 0=qt3 r 4 p)∧qlb (DD X N) n K m (i:Int) r ws=K r ws'
 | 0,_,_,_,h,_,_=>by omega
 | m+1,i,ws,hi,hf,hlw,hw=>by
  have hl:=hr.len
  have hst:=hr.st
  simp only[qlb,qwj]
  by_cases h:i<4
  ·have hi2:i<r.1.length:=by omega
   have hv:=hr.rng r.1[i] (z24 hi2)
   have hrow:qp (i:Int)=i:=by unfold qp;rw[qcc.2 (by omega)];rfl
   have hps:=qboo hX hr h hi2
   rw[qh (by omega),ix hi2,br_t,z12,qx hi2,qbzg hX (by omega),qc,hrow]
   dsimp only
   rw[ixn (by omega) (by rw[hlw];omega),br_t,z12]
   by_cases h0:r.1[i]=0
   ·rw[qh h0,qt (by omega)]
    refine q7l N n hN K hr m (i+1) _ (by omega) (by omega) (by rw[z17];exact hlw) (fun p hp=>?_)
    rw[hps p hp,qeu _ _ _ _ (by omega)]
    by_cases e:p=i
    ·rw[z6 e,z6 (by omega),z6 e]
    ·rw[z5 e,hw p hp,z5 e]
     rw[z5 (show ¬ (r.1[i]≠0∧(p:Int)=3+r.1[i]) from fun k=>k.1 h0),z5 (show ¬ (r.1[i]≠0∧(p:Int)=13+r.1[i]∧(i:Int)<r.2.1 - 1) from fun k=>k.1 h0)]
     split<;>rfl
   ·rw[qi h0,qbu2 hX (by omega),qc]
    dsimp only
    have ho:=qig r.1[i]
    have hvi:=qgt r.1[i]
    have ho2:qy r.1[i]=3+r.1[i]:=by omega
    have hvi2:qbv r.1[i]=13+r.1[i]:=by omega
    have hws:wrap .i64 (r.2.1 - 1)=r.2.1 - 1:=qn (by omega) (by omega)
    rw[ixn (by omega) (by rw[z17,hlw];omega),br_t,qt (by omega),hws,ho2]
    by_cases hs:(i:Int)<r.2.1 - 1
    ·rw[qh hs,qby3 hX (by omega),qc]
     dsimp only
     rw[ixn (by omega) (by rw[z17,z17,hlw];omega),br_t,hvi2]
     refine q7l N n hN K hr m (i+1) _ (by omega) (by omega) (by rw[z17,z17,z17];exact hlw) (fun p hp=>?_)
     rw[hps p hp,qeu _ _ _ _ (by rw[z17,z17,hlw];omega),qeu _ _ _ _ (by rw[z17,hlw];omega),qeu _ _ _ _ (by omega),hw p hp]
     by_cases e3:p=(13+r.1[i]).toNat
     ·rw[z6 e3,z5 (by omega),z5 (by omega),z6 ⟨h0,by omega,hs⟩];omega
     rw[z5 e3]
     by_cases e2:p=(3+r.1[i]).toNat
     ·rw[z6 e2,z5 (by omega),z6 ⟨h0,by omega⟩];omega
     rw[z5 e2]
     by_cases e:p=i
     ·simp only[z6 e,z6 (show p<4 by omega)]
     ·simp only[z5 e]
      rw[z5 (show ¬ (r.1[i]≠0∧(p:Int)=3+r.1[i]) by omega),z5 (show ¬ (r.1[i]≠0∧(p:Int)=13+r.1[i]∧(i:Int)<r.2.1 - 1) by omega)]
      split<;>rfl
    ·rw[qi hs]
     refine q7l N n hN K hr m (i+1) _ (by omega) (by omega) (by rw[z17,z17];exact hlw) (fun p hp=>?_)
     rw[hps p hp,qeu _ _ _ _ (by rw[z17,hlw];omega),qeu _ _ _ _ (by omega),hw p hp]
     rw[z5 (show ¬ (r.1[i]≠0∧(p:Int)=13+r.1[i]∧(i:Int)<r.2.1 - 1) by omega)]
     by_cases e2:p=(3+r.1[i]).toNat
     ·rw[z6 e2,z5 (by omega),z6 ⟨h0,by omega⟩];omega
     rw[z5 e2]
     by_cases e:p=i
     ·simp only[z6 e,z6 (show p<4 by omega)]
     ·simp only[z5 e]
      rw[z5 (show ¬ (r.1[i]≠0∧(p:Int)=3+r.1[i]) by omega)]
      split<;>rfl
  ·rw[qi (by omega)]
   have:i=4:=by omega
   subst this
   exact ⟨ws,hlw,hw,rfl⟩
def cntW (r:qu) (i p:Nat):Int:=if 10≤p∧p<10+i then many ((p:Int) - 10) r.1 else qt3 r 4 p
theorem qbo2 (N n:Nat) (hN:W+4≤N) (K:qu→List Int→Option ((List Int×Unit)×Unit)) {r:qu} (hr:RightR r):∀ (m i:Nat) (ws:List Int),i≤3→3 - i<m→ws.length=20→(∀ p<20,ws.getD p 0=cntW r i p)→
  ∃ ws',ws'.length=20∧(∀ p<20,ws'.getD p 0=cntW r 3 p)∧qk6 (DD X N) n K m (i:Int) r ws=K r ws'
 | 0,_,_,_,h,_,_=>by omega
 | m+1,i,ws,hi,hf,hlw,hw=>by
  have hl:=hr.len
  have hW:=qbk
  simp only[qk6,qwq]
  by_cases h:i<3
  ·have hc:=qid (i:Int)
   have hc2:qby (i:Int)=10+i:=by omega
   rw[qh (by omega),qbuj hX (by omega),qc]
   dsimp only
   rw[qbp5 hX (by omega) r (by omega),qc]
   dsimp only
   rw[ixn (by omega) (by rw[hlw];omega),br_t,qt (by omega),hc2]
   refine qbo2 N n hN K hr m (i+1) _ (by omega) (by omega) (by rw[z17];exact hlw) (fun p hp=>?_)
   rw[qeu _ _ _ _ (by omega),hw p hp]
   unfold cntW
   by_cases e:p=(10+(i:Int)).toNat
   ·rw[z6 e,z6 (by omega),show (p:Int) - 10=i by omega]
   ·rw[z5 e]
    by_cases c:10≤p∧p<10+i
    ·rw[z6 c,z6 (by omega)]
    ·rw[z5 c,z5 (by omega)]
  ·rw[qi (by omega)]
   have:i=3:=by omega
   subst this
   exact ⟨ws,hlw,hw,rfl⟩
theorem qb08 (hn:W+6≤n) {r:qu} (hr:RightR r):∃ ws:List Int,ws.length=20∧(∀ p<20,ws.getD p 0=qdn r p)∧qyt (DD X n) r=some ((ws,()),()):=by
 obtain ⟨n,rfl⟩:∃ k,n=k+1:=⟨n - 1,by omega⟩
 have hW:=qbk
 have hst:=hr.st
 rw[qbms hX]
 simp only[qyk,qyv]
 rw[qbet hX (by omega) hr,qc]
 dsimp only
 rw[z13,br_f]
 simp only[quv]
 obtain ⟨w1,l1,h1,e1⟩:=q7l hX n n (by omega) (fun v0_0 v0_1=>ql6 (DD X n) n (qnr (DD X n) n) v0_0 v0_1) hr n 0 (List.replicate (Int.toNat 20) 0) (by omega) (by omega) rfl (fun p hp=>by
  have e0:(List.replicate (Int.toNat 20) (0:Int)).getD p 0=0:=by
   simp only[List.getD,List.getElem?_replicate];split<;>rfl
  rw[e0]
  unfold qt3 ownW viaW
  split
  ·rfl
  ·split
   ·rw[z5 (by omega)]
   ·split
    ·rfl
    ·rw[z5 (by omega)])
 rw[show ((0:Nat):Int)=0 from rfl] at e1
 obtain ⟨w2,l2,h2,e2⟩:=qbo2 hX n n (by omega) (fun v0_0 v0_1=>qs6 (DD X n) n v0_0 v0_1) hr n 0 w1 (by omega) (by omega) l1 (fun p hp=>by
  rw[h1 p hp];unfold cntW;rw[z5 (by omega)])
 rw[show ((0:Nat):Int)=0 from rfl] at e2
 refine ⟨w2.set 13 r.2.1,by rw[z17];exact l2,fun p hp=>?_,e1.trans ?_⟩
 ·rw[qeu _ _ _ _ (by omega),h2 p hp]
  unfold qdn cntW qt3
  have hlen:=hr.len
  by_cases e:p=13
  ·rw[z6 e,z5 (by omega),z5 (by omega),z5 (by omega),z6 e]
  rw[z5 e]
  by_cases a1:p<4
  ·rw[z5 (by omega),z6 a1,z6 a1,z6 a1]
  by_cases a2:p<10
  ·rw[z5 (by omega),z5 a1,z6 a2,z5 a1,z6 a2];rfl
  by_cases a3:p<13
  ·rw[z6 (by omega),z5 a1,z5 a2,z6 a3]
  ·rw[z5 (by omega),z5 a1,z5 a2,z5 (by omega),z5 a1,z5 a2,z5 a3,z5 e];rfl
 simp only[ql6,qnr]
 rw[e2]
 simp only[qs6]
 rw[qbhc hX (by omega),qc]
 dsimp only
 rw[ixn (by omega) (by rw[l2];omega),br_t]
 rfl
end
end Go.G

namespace Go.G
set_option maxRecDepth 100000
open Go Go.V Go.Proofs
def path (w:Int→Int):PR→List Int
 | .done=>[]
 | .ask p k=>p::path w (k (w p))
def q4i (got:Got) (w:Int→Int) (L:List Int):Prop:=∀ q,qbf got q=if q∈L then (w q,true) else (0,false)
theorem qby5 (w:Int→Int):∀ (L:List Int),q4i (L.map fun p=>(p,w p,())) w L:=by
 intro L q
 unfold qbf
 have key:∀ (L:List Int) (v:Int) (ok:Bool),rd q (L.map fun p=>(p,w p,())) v ok=if q∈L then (w q,true) else (v,ok):=by
  intro L
  induction L with
  | nil=>intro v ok;simp[rd]
  | cons a L ih=>
   intro v ok
   simp only[z28,rd]
   by_cases e:a=q
   ·rw[z6 e,ih]
    by_cases m:q∈L
    ·rw[z6 m,z6 (z16 _ m)]
    ·rw[z5 m,z6 (by rw[e];exact z14),e]
   ·rw[z5 e,ih]
    by_cases m:q∈L
    ·rw[z6 m,z6 (z16 _ m)]
    ·rw[z5 m,z5 (by
      intro k
      rcases z15.1 k with k | k
      ·exact e k.symm
      ·exact m k)]
 exact key L 0 false
theorem q7s {got:Got} {w:Int→Int} {L:List Int} (h:q4i got w L) {p:Int} (hp:0≤p):hit got p=decide (p∈L):=by
 unfold hit
 rw[z11 hp,Bool.true_and,h p]
 by_cases m:p∈L
 ·rw[z6 m,z11 m]
 ·rw[z5 m,z10 m]
theorem qbhw {got:Got} {w:Int→Int} {L:List Int} (h:q4i got w L):∀ (A B:List Int) (P:PR),path w P=A++B→(∀ a∈A,a∈L)→(∀ a∈A++B,0≤a)→(∀ b B',B=b::B'→b∉L)→run got P=(A,B.headD (-1))
 | [],B,P,hp,_,hz,hB=>by
  cases P with
  | done=>simp only[path,z46] at hp;subst hp;rfl
  | ask p k=>
   simp only[path,z46] at hp
   subst hp
   have hm:hit got p=false:=by
    rw[q7s h (hz p (by simp)),z10 (hB p _ rfl)]
   rw[qc6 hm];rfl
 | a::A,B,P,hp,hA,hz,hB=>by
  cases P with
  | done=>simp[path] at hp
  | ask p k=>
   simp only[path,z40,z36] at hp
   obtain ⟨rfl,hp⟩:=hp
   have hm:hit got p=true:=by
    rw[q7s h (hz p (by simp)),z11 (hA p z14)]
   have hv:(qbf got p).1=w p:=by rw[h p,z6 (hA p z14)]
   rw[qd6 hm,hv,qbhw h A B (k (w p)) hp (fun a ha=>hA a (z16 _ ha)) (fun a ha=>hz a (z16 _ ha)) hB]
structure PathOk (w:Int→Int) (l:List Int):Prop where
 once:l.Nodup
 rng:∀ p∈l,0≤p∧p<20
 len:l.length≤8
theorem qoa (w:Int→Int) (K:Int) (l:List Int):path w (qjg K l)=13::(if w 13≤wrap .i64 (K+1) then [] else l.map qbv):=by
 unfold qjg
 simp only[path]
 by_cases h:w 13≤wrap .i64 (K+1)
 ·rw[z11 h,z6 h];rfl
 ·rw[z10 h,z5 h,z20]
  congr 1
  induction l with
  | nil=>rfl
  | cons a l ih=>simp only[qbby,path,z28,ih]
theorem q4v {o:Op3} (ho:opOk o=true) (w:Int→Int) (hw:∀ k,0≤k∧k≤3→0≤w k∧w k≤6):PathOk w (path w (prog o)):=by
 have hk:=qt7 ho
 have hr:=qmv o.2.1
 have hoV:=qig o.2.2.1
 have hvV:=qgt o.2.2.1
 have hcl:=qkg o.2.2.1
 have hcV:=qid (qg o.2.2.1)
 unfold prog
 by_cases k1:o.1=1
 ·rw[z6 k1]
  unfold qie
  simp only[path]
  cases w (qp o.2.1) != 0
  ·simp only[z20,path]
   cases w (qy o.2.2.1) != 0
   ·simp only[z20,path,qoa,z28,List.map_nil]
    split
    ·exact ⟨by simp;omega,by simp;omega,by simp⟩
    ·exact ⟨by simp;omega,by simp;omega,by simp⟩
   ·exact ⟨by simp[path];omega,by simp[path];omega,by simp[path]⟩
  ·exact ⟨by simp[path],by simp[path];omega,by simp[path]⟩
 rw[z5 k1]
 by_cases k2:o.1=2
 ·rw[z6 k2]
  have hK:0≤o.2.1∧o.2.1≤3:=by omega
  have hrow:qp o.2.1=o.2.1:=by omega
  have hwv:=hw o.2.1 hK
  unfold qik
  simp only[path]
  rw[hrow]
  generalize w o.2.1=v at *
  have hov:=qig v
  have hvv:=qgt v
  have hcv:=qkg v
  have hccv:=qid (qg v)
  by_cases hb:v=0∨v=o.2.2.1
  ·rw[show (bif decide (v=0) then true else decide (v=o.2.2.1))=true by
    rcases hb with h | h
    ·rw[z11 h];rfl
    ·rw[z11 h];cases decide (v=0)<;>rfl]
   exact ⟨by simp[path],by simp[path];omega,by simp[path]⟩
  ·rw[show (bif decide (v=0) then true else decide (v=o.2.2.1))=false by
    rw[z10 (by omega),z10 (by omega)];rfl]
   simp only[z20,path]
   cases w (qy o.2.2.1) != 0
   ·simp only[z20,path]
    cases hc:qg v != qg o.2.2.1
    ·simp only[z20,path,qoa,z28,List.map_nil]
     split
     ·exact ⟨by simp;omega,by simp;omega,by simp⟩
     ·exact ⟨by simp;omega,by simp;omega,by simp⟩
    ·have hne:qg v≠qg o.2.2.1:=by simpa using hc
     simp only[z21,path,qoa,z28,List.map_nil]
     split
     ·exact ⟨by simp;omega,by simp;omega,by simp⟩
     ·exact ⟨by simp;omega,by simp;omega,by simp⟩
   ·exact ⟨by simp[path];omega,by simp[path];omega,by simp[path]⟩
 rw[z5 k2]
 by_cases k3:o.1=3
 ·rw[z6 k3]
  have hK:0≤o.2.1∧o.2.1≤3:=by omega
  have hrow:qp o.2.1=o.2.1:=by omega
  have hwv:=hw o.2.1 hK
  unfold qkc
  simp only[path]
  rw[hrow]
  generalize w o.2.1=v at *
  have hov:=qig v
  have hvv:=qgt v
  have hcv:=qkg v
  have hccv:=qid (qg v)
  by_cases hb:v=0
  ·rw[z11 hb]
   exact ⟨by simp[path],by simp[path];omega,by simp[path]⟩
  ·rw[z10 hb]
   simp only[z20,path,qoa,z28,List.map_nil]
   split
   ·exact ⟨by simp;omega,by simp;omega,by simp⟩
   ·exact ⟨by simp;omega,by simp;omega,by simp⟩
 rw[z5 k3]
 by_cases k4:o.1=4
 ·rw[z6 k4];exact ⟨by simp[path],by simp[path];omega,by simp[path]⟩
 rw[z5 k4]
 by_cases k5:o.1=5
 ·rw[z6 k5];exact ⟨by simp[path],by simp[path];omega,by simp[path]⟩
 rw[z5 k5]
 by_cases k6:o.1=6
 ·rw[z6 k6]
  have:=qid o.2.1
  exact ⟨by simp[path],by simp[path];omega,by simp[path]⟩
 rw[z5 k6]
 by_cases k7:o.1=7
 ·rw[z6 k7];exact ⟨by simp[path,qn1],by simp[path,qn1],by simp[path,qn1]⟩
 rw[z5 k7]
 by_cases k8:o.1=8
 ·rw[z6 k8];exact ⟨by simp[path],by simp[path],by simp[path]⟩
 rw[z5 k8]
 by_cases k9:o.1=9
 ·rw[z6 k9]
  unfold qkh
  simp only[path]
  generalize w 13=st
  by_cases hs:st<1∨st>4
  ·rw[show (bif decide (st<1) then true else decide (st>4))=true by
    rcases hs with h | h
    ·rw[z11 h];rfl
    ·rw[z11 h];cases decide (st<1)<;>rfl]
   exact ⟨by simp[path],by simp[path],by simp[path]⟩
  ·rw[show (bif decide (st<1) then true else decide (st>4))=false by
    rw[z10 (by omega),z10 (by omega)];rfl]
   have hws:wrap .i64 (st - 1)=st - 1:=qn (by omega) (by omega)
   have hrr:=qmv (st - 1)
   simp only[z20,path]
   rw[hws]
   have hp:qp (st - 1)=st - 1:=by omega
   rw[hp]
   cases hin:inR (w (st - 1)) 1 6
   ·exact ⟨by simp[path];omega,by simp[path];omega,by simp[path]⟩
   ·have hi:=qcc.1 hin
    have hvv:=qgt (w (st - 1))
    simp only[z13,z20,path]
    exact ⟨by simp;omega,by simp;omega,by simp⟩
 rw[z5 k9]
 have k10:o.1=10:=by omega
 rw[z6 k10]
 unfold qk2
 simp only[path]
 cases w 13 != 5
 ·simp only[z20,path]
  exact ⟨by simp;omega,by simp;omega,by simp⟩
 ·exact ⟨by simp[path],by simp[path],by simp[path]⟩
end Go.G

namespace Go.G
set_option maxRecDepth 100000
open Go Go.V Go.Proofs
theorem qbox {α:Type} (key:α→Int):∀ (L acc:List α),(L.foldl (bub key) acc).length=acc.length+L.length
 | [],acc=>rfl
 | e::L,acc=>by rw[List.foldl_cons,qbox key L,q9v,z22];omega
theorem qbfb (w:Int→Int) (K:Int) (l:List Int):∀ p∈path w (qjg K l),p=13∨p∈l.map qbv:=by
 intro p hp
 rw[qoa] at hp
 rcases z15.1 hp with h | h
 ·exact .inl h
 ·split at h
  ·simp at h
  ·exact .inr h
theorem qbs4 {o:Op3} (ho:opOk o=true) {got:Got} {w:Int→Int} (hw:∀ k,0≤k∧k≤3→0≤w k∧w k≤6) (hk:q4i got w (path w (prog o))) (hn:qgj o got=none) (h123:o.1=1∨o.1=2∨o.1=3) :
  val got (qp o.2.1)=w o.2.1∧∀ p∈path w (prog o),p∈(chgL o.2.1 o.2.2.1 (w o.2.1) (val got 13)).map (·.1):=by
 have hkd:=qt7 ho
 have hr:=qmv o.2.1
 have hrow:qp o.2.1=o.2.1:=by omega
 have hcl:=qkg o.2.2.1
 have hwK:=hw o.2.1 (by omega)
 have hfst:∃ P,path w (prog o)=qp o.2.1::P:=by
  unfold prog
  rcases h123 with k | k | k
  ·rw[z6 k];exact ⟨_,rfl⟩
  ·rw[z5 (by omega),z6 k];exact ⟨_,rfl⟩
  ·rw[z5 (by omega),z5 (by omega),z6 k];exact ⟨_,rfl⟩
 obtain ⟨P,hP⟩:=hfst
 have hval:val got (qp o.2.1)=w o.2.1:=by
  unfold val
  rw[hk (qp o.2.1),z6 (by rw[hP];exact z14),hrow]
 refine ⟨hval,?_⟩
 have hrd:(qbf got (qp o.2.1)).1=w o.2.1:=hval
 unfold qgj at hn
 rw[hrd] at hn
 unfold nowP at hn
 unfold prog at hk ⊢
 rcases h123 with k | k | k
 ·rw[z6 k] at hk ⊢
  by_cases c1:w o.2.1≠0
  ·rw[z6 ⟨k,c1⟩] at hn;cases hn
  have c1':w o.2.1=0:=by omega
  rw[z5 (fun q=>c1 q.2)] at hn
  have hpath:path w (qie o)=qp o.2.1::qy o.2.2.1::(bif w (qy o.2.2.1) != 0 then [] else qby (qg o.2.2.1)::path w (qjg o.2.1 [o.2.2.1])):=by
   unfold qie
   simp only[path]
   rw[hrow,c1']
   simp only[bned,decide_true,z13,z20,path]
   cases decide (w (qy o.2.2.1)=0)<;>rfl
  rw[hpath] at hk ⊢
  have hown:(qbf got (qy o.2.2.1)).1=w (qy o.2.2.1):=by rw[hk,z6 (by simp)]
  rw[hown] at hn
  by_cases c2:w (qy o.2.2.1)≠0
  ·rw[z6 ⟨k,c2⟩] at hn;cases hn
  have c2':w (qy o.2.2.1)=0:=by omega
  rw[c2',show ((0:Int) != 0)=false by decide,z20]
  have hz:qg 0 = -1:=by decide
  have hcc:(qg (w o.2.1) != qg o.2.2.1)=true:=by rw[c1',hz,bned,z10 (by omega)];rfl
  intro p hp
  unfold chgL
  rw[hcc,z21]
  simp only[z40,z46,z28,List.map_nil,z15,z25,or_false]
  simp only[z15] at hp
  rcases hp with h | h | h | h
  ·exact .inl h
  ·exact .inr (.inr (.inr (.inr (.inl h))))
  ·exact .inr (.inr (.inr (.inr (.inr (.inr (.inr h))))))
  ·rcases qbfb w _ _ p h with h | h
   ·exact .inr (.inl h)
   ·simp only[z28,List.map_nil,z15,z25,or_false] at h
    exact .inr (.inr (.inr (.inr (.inr (.inl h)))))
 ·rw[z5 (by omega),z6 k] at hk ⊢
  rw[z5 (by omega),z5 (by omega)] at hn
  by_cases c1:w o.2.1=0
  ·rw[z6 ⟨.inl k,c1⟩] at hn;cases hn
  rw[z5 (fun q=>c1 q.2)] at hn
  by_cases c3:w o.2.1=o.2.2.1
  ·rw[z6 ⟨k,c3⟩] at hn;cases hn
  rw[z5 (fun q=>c3 q.2)] at hn
  have hpath:path w (qik o)=qp o.2.1::qy o.2.2.1::(bif w (qy o.2.2.1) != 0 then [] else qy (w o.2.1)::(bif qg (w o.2.1) != qg o.2.2.1 then qby (qg (w o.2.1))::qby (qg o.2.2.1)::path w (qjg o.2.1 [w o.2.1,o.2.2.1]) else path w (qjg o.2.1 [w o.2.1,o.2.2.1]))):=by
   unfold qik
   simp only[path]
   rw[hrow,z10 c1,z10 c3]
   simp only[z20,path]
   cases w (qy o.2.2.1) != 0
   ·simp only[z20,path]
    cases qg (w o.2.1) != qg o.2.2.1<;>rfl
   ·rfl
  rw[hpath] at hk ⊢
  have hown:(qbf got (qy o.2.2.1)).1=w (qy o.2.2.1):=by rw[hk,z6 (by simp)]
  rw[hown] at hn
  by_cases c2:w (qy o.2.2.1)≠0
  ·rw[z6 ⟨k,c2⟩] at hn;cases hn
  have c2':w (qy o.2.2.1)=0:=by omega
  rw[c2',show ((0:Int) != 0)=false by decide,z20]
  intro p hp
  unfold chgL
  cases hcc:qg (w o.2.1) != qg o.2.2.1
  ·rw[hcc,z20] at hp
   rw[z20]
   simp only[z48,z28,List.map_nil,z15,z25,or_false]
   simp only[z15] at hp
   rcases hp with h | h | h | h
   ·exact .inl h
   ·exact .inr (.inr (.inr (.inr (.inl h))))
   ·exact .inr (.inr (.inl h))
   ·rcases qbfb w _ _ p h with h | h
    ·exact .inr (.inl h)
    ·simp only[z28,List.map_nil,z15,z25,or_false] at h
     rcases h with h | h
     ·exact .inr (.inr (.inr (.inl h)))
     ·exact .inr (.inr (.inr (.inr (.inr h))))
  ·rw[hcc,z21] at hp
   rw[z21]
   simp only[z40,z46,z28,List.map_nil,z15,z25,or_false]
   simp only[z15] at hp
   rcases hp with h | h | h | h | h | h
   ·exact .inl h
   ·exact .inr (.inr (.inr (.inr (.inl h))))
   ·exact .inr (.inr (.inl h))
   ·exact .inr (.inr (.inr (.inr (.inr (.inr (.inl h))))))
   ·exact .inr (.inr (.inr (.inr (.inr (.inr (.inr h))))))
   ·rcases qbfb w _ _ p h with h | h
    ·exact .inr (.inl h)
    ·simp only[z28,List.map_nil,z15,z25,or_false] at h
     rcases h with h | h
     ·exact .inr (.inr (.inr (.inl h)))
     ·exact .inr (.inr (.inr (.inr (.inr (.inl h)))))
 ·rw[z5 (by omega),z5 (by omega),z6 k] at hk ⊢
  rw[z5 (by omega),z5 (by omega)] at hn
  by_cases c1:w o.2.1=0
  ·rw[z6 ⟨.inr (.inl k),c1⟩] at hn;cases hn
  have hpath:path w (qkc o)=qp o.2.1::qy (w o.2.1)::qby (qg (w o.2.1))::path w (qjg o.2.1 [w o.2.1]):=by
   unfold qkc
   simp only[path]
   rw[hrow,z10 c1]
   simp only[z20,path]
  rw[hpath]
  have hV:o.2.2.1=0:=by omega
  have hz:qg 0 = -1:=by decide
  have hck:=qkg (w o.2.1)
  have hcc:(qg (w o.2.1) != qg o.2.2.1)=true:=by rw[hV,hz,bned,z10 (by omega)];rfl
  intro p hp
  unfold chgL
  rw[hcc,z21]
  simp only[z40,z46,z28,List.map_nil,z15,z25,or_false]
  simp only[z15] at hp
  rcases hp with h | h | h | h
  ·exact .inl h
  ·exact .inr (.inr (.inl h))
  ·exact .inr (.inr (.inr (.inr (.inr (.inr (.inl h))))))
  ·rcases qbfb w _ _ p h with h | h
   ·exact .inr (.inl h)
   ·simp only[z28,List.map_nil,z15,z25,or_false] at h
    exact .inr (.inr (.inr (.inl h)))
theorem qboh {l:List qbe} (h:Asc l):(l.map (·.1)).Nodup:=by
 rw[List.Nodup,List.pairwise_map]
 exact h.imp fun {a b} hab=>by omega
theorem qbvv {o:Op3} (ho:opOk o=true) {got:Got} {w:Int→Int} (hw:∀ k,0≤k∧k≤3→0≤w k∧w k≤6) (hk:q4i got w (path w (prog o))) (hrun:run got (prog o)=(path w (prog o),-1)) (hn:qgj o got=none) :
  (∀ p∈path w (prog o),∃ e∈entP o got,e.1=p∧e.2.1=w p)∧(entP o got).length=(path w (prog o)).length:=by
 have hpk:=q4v ho w hw
 have hvp:∀ p∈path w (prog o),val got p=w p:=fun p hp=>by unfold val;rw[hk p,z6 hp]
 have hhit:∀ p,0≤p→(hit got p=true↔p∈path w (prog o)):=fun p hp=>by rw[q7s hk hp,z45]
 by_cases h123:o.1=1∨o.1=2∨o.1=3
 ·obtain ⟨hv,hsub⟩:=qbs4 ho hw hk hn h123
  have hne:=qbam ho hn h123
  have hE:entP o got=(ents got (chgL o.2.1 o.2.2.1 (w o.2.1) (val got 13))).foldl insS []:=by
   unfold entP;rw[z6 h123,hv]
  rw[hv] at hne
  obtain ⟨_,r2,r3,r4⟩:=q58 (got:=got) (K:=o.2.1) (V:=o.2.2.1) (held:=w o.2.1) (st:=val got 13) hne
  rw[hE]
  have hA:∀ p∈path w (prog o),∃ e∈(ents got (chgL o.2.1 o.2.2.1 (w o.2.1) (val got 13))).foldl insS [],e.1=p∧e.2.1=w p:=by
   intro p hp
   obtain ⟨q,hq,rfl⟩:=z37.1 (hsub p hp)
   have hh:=(hhit q.1 (hpk.rng q.1 hp).1).2 hp
   exact ⟨_,(r3 _).2 ((qyl got _ _).2 ⟨q,hq,hh,rfl⟩),rfl,hvp q.1 hp⟩
  refine ⟨hA,?_⟩
  have hperm:(((ents got (chgL o.2.1 o.2.2.1 (w o.2.1) (val got 13))).foldl insS []).map (·.1)).Perm (path w (prog o)):=by
   rw[List.perm_ext_iff_of_nodup (qboh r2) hpk.once]
   intro p
   constructor
   ·intro hp
    obtain ⟨e,he,rfl⟩:=z37.1 hp
    obtain ⟨q,_,hh,rfl⟩:=(qyl got _ _).1 ((r3 _).1 he)
    exact (hhit q.1 (qbe2 hh)).1 hh
   ·intro hp
    obtain ⟨e,he,h1,_⟩:=hA p hp
    exact z37.2 ⟨e,he,h1⟩
  have:=hperm.length_eq
  rw[z49] at this
  exact this
 ·have hneg:(run got (prog o)).2<0:=by rw[hrun];show (-1:Int)<0;omega
  obtain ⟨_,pl⟩:=qbek ho hn hneg h123
  have hr1:(run got (prog o)).1=path w (prog o):=by rw[hrun]
  rw[hr1] at pl
  have hmem:∀ L:List Int,(path w (prog o)).foldl (bub ikey) []=L→(∀ p∈path w (prog o),p∈L)∧L.length=(path w (prog o)).length:=by
   intro L hL
   refine ⟨fun p hp=>?_,?_⟩
   ·rw[←hL,qbc4];exact .inr hp
   ·rw[←hL,qbox];simp
  unfold entP
  rw[z5 h123]
  rcases pl with ⟨k,hp⟩ | ⟨k,hz,hp⟩ | ⟨k,hz,hp⟩ | ⟨k,hp⟩
  ·obtain ⟨m1,m2⟩:=hmem _ hp
   rw[z6 k]
   refine ⟨fun p hpp=>?_,by rw[←m2];rfl⟩
   have h2:=m1 p hpp
   have hv:=hvp p hpp
   simp only[z15,z25,or_false] at h2
   rcases h2 with rfl | rfl | rfl | rfl
   ·exact ⟨same got 0,by simp,rfl,hv⟩
   ·exact ⟨same got 1,by simp,rfl,hv⟩
   ·exact ⟨same got 2,by simp,rfl,hv⟩
   ·exact ⟨same got 3,by simp,rfl,hv⟩
  ·obtain ⟨m1,m2⟩:=hmem _ hp
   rw[z5 (by omega),z6 k]
   refine ⟨fun p hpp=>?_,by rw[←m2];rfl⟩
   have h2:=m1 p hpp
   have hv:=hvp p hpp
   simp only[z15,z25,or_false] at h2
   subst h2
   exact ⟨_,z23.2 rfl,rfl,hv⟩
  ·obtain ⟨m1,m2⟩:=hmem _ hp
   rw[z5 (by omega),z5 (by omega),z6 k]
   generalize qp (wrap .i64 (val got 13 - 1))=q at *
   refine ⟨fun p hpp=>?_,by rw[←m2];cases inR (val got q) 1 6<;>rfl⟩
   have h2:=m1 p hpp
   have hv:=hvp p hpp
   simp only[z15] at h2
   rcases h2 with rfl | rfl | h2
   ·exact ⟨same got p,z14,rfl,hv⟩
   ·exact ⟨_,z16 _ z14,rfl,hv⟩
   ·cases hin:inR (val got q) 1 6
    ·rw[hin] at h2;simp at h2
    ·rw[hin,z21,z23] at h2
     subst h2
     exact ⟨_,z16 _ (z16 _ (by rw[z21];exact z23.2 rfl)),rfl,hv⟩
  ·obtain ⟨m1,m2⟩:=hmem _ hp
   rw[z5 (by omega),z5 (by omega),z5 (by omega),z6 k]
   refine ⟨fun p hpp=>?_,by rw[←m2];rfl⟩
   have h2:=m1 p hpp
   have hv:=hvp p hpp
   simp only[z15,z25,or_false] at h2
   rcases h2 with rfl | rfl
   ·exact ⟨same got 13,by simp,rfl,hv⟩
   ·exact ⟨same got (qbv o.2.2.1),by simp,rfl,hv⟩
end Go.G

namespace Go.G
set_option maxRecDepth 100000
open Go Go.V Go.Proofs
def wOf (r:qu) (p:Int):Int:=qdn r p.toNat
theorem qj8 {r:qu} (hr:RightR r) {k:Int} (hk:0≤k∧k≤3):wOf r k=r.1.getD k.toNat 0∧0≤wOf r k∧wOf r k≤6:=by
 have hl:=hr.len
 have e:wOf r k=r.1.getD k.toNat 0:=by unfold wOf qdn;rw[z6 (by omega)]
 refine ⟨e,?_⟩
 rw[e,qx (by omega)]
 exact hr.rng _ (z24 _)
def qbn (r:qu) (o:Op3):Got:=(path (wOf r) (prog o)).map fun p=>(p,wOf r p,())
theorem q8c (r:qu) (o:Op3):q4i (qbn r o) (wOf r) (path (wOf r) (prog o)):=qby5 _ _
theorem qbds {r:qu} (hr:RightR r) {o:Op3} (ho:opOk o=true):run (qbn r o) (prog o)=(path (wOf r) (prog o),-1):=by
 have hpk:=q4v ho (wOf r) (fun k hk=>(qj8 hr hk).2)
 exact qbhw (q8c r o) (path (wOf r) (prog o)) [] (prog o) (by rw[z48]) (fun a ha=>ha) (fun a ha=>(hpk.rng a (by simpa using ha)).1) (fun b B' h=>by cases h)
section
variable {X:Ext} (hX:XOk X) {n:Nat}
include hX
end
end Go.G

namespace Go.G
set_option maxRecDepth 100000
open Go Go.V Go.Proofs
inductive Out (r:qu) (o:Op3):Int→List Int→Prop
 | put1:o.1=1→r.1.getD o.2.1.toNat 0≠0→Out r o 1 []
 | put2:o.1=1→0≤keyF o.2.2.1 r.1 0→Out r o 2 []
 | put0:o.1=1→r.1.getD o.2.1.toNat 0=0→keyF o.2.2.1 r.1 0<0→Out r o 0 []
 | set3:o.1=2→r.1.getD o.2.1.toNat 0=0→Out r o 3 []
 | setS:o.1=2→r.1.getD o.2.1.toNat 0≠0→r.1.getD o.2.1.toNat 0=o.2.2.1→Out r o 0 []
 | set2:o.1=2→0≤keyF o.2.2.1 r.1 0→Out r o 2 []
 | set0:o.1=2→r.1.getD o.2.1.toNat 0≠0→r.1.getD o.2.1.toNat 0≠o.2.2.1→keyF o.2.2.1 r.1 0<0→Out r o 0 []
 | del3:o.1=3→r.1.getD o.2.1.toNat 0=0→Out r o 3 []
 | del0:o.1=3→r.1.getD o.2.1.toNat 0≠0→Out r o 0 []
 | get3:o.1=4→r.1.getD o.2.1.toNat 0=0→Out r o 3 []
 | get0:o.1=4→r.1.getD o.2.1.toNat 0≠0→Out r o 0 [r.1.getD o.2.1.toNat 0]
 | find3:o.1=5→keyF o.2.2.1 r.1 0<0→Out r o 3 []
 | find0:o.1=5→0≤keyF o.2.2.1 r.1 0→Out r o 0 [keyF o.2.2.1 r.1 0]
 | cnt0:o.1=6→Out r o 0 [many o.2.1 r.1]
 | scan0:o.1=7→Out r o 0 r.1
 | open4:o.1=8→r.2.1≠0→Out r o 4 []
 | open0:o.1=8→r.2.1=0→Out r o 0 []
 | make4:o.1=9→r.2.1=0∨r.2.1=5→Out r o 4 []
 | make0:o.1=9→1≤r.2.1∧r.2.1≤4→Out r o 0 []
 | via4:o.1=10→r.2.1≠5→Out r o 4 []
 | via3:o.1=10→r.2.1=5→keyF o.2.2.1 r.1 0<0→Out r o 3 []
 | via0:o.1=10→r.2.1=5→0≤keyF o.2.2.1 r.1 0→Out r o 0 [keyF o.2.2.1 r.1 0]
theorem qq8 {r:qu} (hr:RightR r) {v:Int} (hv:1≤v∧v≤6):wOf r (qy v)=keyF v r.1 0+1:=by
 have ho:=qig v
 have hl:=hr.len
 have hk:=qo2 v r.1 0
 have e:qy v=3+v:=by omega
 unfold wOf qdn
 rw[e,z5 (by omega),z6 (by omega)]
 unfold ownW
 rw[show (((3+v).toNat:Nat):Int) - 3=v by omega]
 by_cases h:0≤keyF v r.1 0∧keyF v r.1 0<4
 ·rw[z6 h]
 ·rw[z5 h];omega
theorem qni (r:qu):wOf r 13=r.2.1:=rfl
theorem qbol {r:qu} {c:Int} (hc:0≤c∧c≤2):wOf r (qby c)=many c r.1:=by
 have ho:=qid c
 have e:qby c=10+c:=by omega
 unfold wOf qdn
 rw[e,z5 (by omega),z5 (by omega),z6 (by omega),show (((10+c).toNat:Nat):Int) - 10=c by omega]
theorem qb16 {r:qu} {v:Int} (hv:1≤v∧v≤6):wOf r (qbv v)=viaW v r.1 4 r.2.1:=by
 have ho:=qgt v
 have e:qbv v=13+v:=by omega
 unfold wOf qdn
 rw[e,z5 (by omega),z5 (by omega),z5 (by omega),z5 (by omega),show (((13+v).toNat:Nat):Int) - 13=v by omega]
theorem qb4b {l:List Int} (h:l.length=4):l=[l.getD 0 0,l.getD 1 0,l.getD 2 0,l.getD 3 0]:=by
 match l,h with
 | [a,b,c,d],_=>rfl
theorem qbwa {r:qu} (hr:RightR r) {o:Op3} (ho:opOk o=true):Out r o (qch o (qbn r o)).1.2.1.1 (qch o (qbn r o)).1.2.1.2.1:=by
 have hkd:=qt7 ho
 have hrun:=qbds hr ho
 have hkn:=q8c r o
 have hcond:opOk o=true∧(run (qbn r o) (prog o)).2<0:=⟨ho,by rw[hrun];show (-1:Int)<0;omega⟩
 have hst:=hr.st
 have hl:=hr.len
 have hrd:∀ p,p∈path (wOf r) (prog o)→(qbf (qbn r o) p).1=wOf r p:=fun p hp=>by rw[hkn p,z6 hp]
 have hrow:=qmv o.2.1
 unfold qch
 rw[z6 hcond]
 by_cases k1:o.1=1
 ·have hK:qp o.2.1=o.2.1:=by omega
  have hw:=qj8 hr (k:=o.2.1) (by omega)
  have hp:prog o=qie o:=by unfold prog;rw[z6 k1]
  have m1:qp o.2.1∈path (wOf r) (prog o):=by rw[hp];unfold qie;simp only[path];exact z14
  have r1:=hrd _ m1
  rw[hK,hw.1] at r1
  unfold qgj
  rw[hK,r1]
  unfold nowP
  by_cases c1:r.1.getD o.2.1.toNat 0≠0
  ·rw[z6 ⟨k1,c1⟩];exact .put1 k1 c1
  have c1':r.1.getD o.2.1.toNat 0=0:=by omega
  rw[z5 (fun q=>c1 q.2)]
  have m2:qy o.2.2.1∈path (wOf r) (prog o):=by
   rw[hp];unfold qie;simp only[path]
   rw[hK,hw.1,c1']
   simp only[bned,decide_true,z13,z20,path]
   simp
  rw[hrd _ m2,qq8 hr (by omega)]
  by_cases c2:keyF o.2.2.1 r.1 0+1≠0
  ·rw[z6 ⟨k1,c2⟩];exact .put2 k1 (by have:=qo2 o.2.2.1 r.1 0;omega)
  rw[z5 (fun q=>c2 q.2),z5 (by omega),z5 (by omega),z5 (by omega),z5 (by omega),z5 (by omega),z5 (by omega),z5 (by omega),z5 (by omega),z5 (by omega),z5 (by omega)]
  dsimp only
  unfold resP
  rw[z5 (by omega),z5 (by omega)]
  exact .put0 k1 c1' (by omega)
 by_cases k2:o.1=2
 ·have hK:qp o.2.1=o.2.1:=by omega
  have hw:=qj8 hr (k:=o.2.1) (by omega)
  have hp:prog o=qik o:=by unfold prog;rw[z5 k1,z6 k2]
  have m1:qp o.2.1∈path (wOf r) (prog o):=by rw[hp];unfold qik;simp only[path];exact z14
  have r1:=hrd _ m1
  rw[hK,hw.1] at r1
  unfold qgj
  rw[hK,r1]
  unfold nowP
  rw[z5 (by omega),z5 (by omega)]
  by_cases c1:r.1.getD o.2.1.toNat 0=0
  ·rw[z6 ⟨.inl k2,c1⟩];exact .set3 k2 c1
  rw[z5 (fun q=>c1 q.2)]
  by_cases c3:r.1.getD o.2.1.toNat 0=o.2.2.1
  ·rw[z6 ⟨k2,c3⟩];exact .setS k2 c1 c3
  rw[z5 (fun q=>c3 q.2)]
  have m2:qy o.2.2.1∈path (wOf r) (prog o):=by
   rw[hp];unfold qik;simp only[path]
   rw[hK,hw.1,z10 c1,z10 c3]
   simp only[z20,path]
   simp
  rw[hrd _ m2,qq8 hr (by omega)]
  by_cases c2:keyF o.2.2.1 r.1 0+1≠0
  ·rw[z6 ⟨k2,c2⟩];exact .set2 k2 (by have:=qo2 o.2.2.1 r.1 0;omega)
  rw[z5 (fun q=>c2 q.2),z5 (by omega),z5 (by omega),z5 (by omega),z5 (by omega),z5 (by omega),z5 (by omega),z5 (by omega)]
  dsimp only
  unfold resP
  rw[z5 (by omega),z5 (by omega)]
  exact .set0 k2 c1 c3 (by omega)
 by_cases k34:o.1=3∨o.1=4
 ·have hK:qp o.2.1=o.2.1:=by omega
  have hw:=qj8 hr (k:=o.2.1) (by omega)
  have m1:qp o.2.1∈path (wOf r) (prog o):=by
   unfold prog
   rw[z5 k1,z5 k2]
   rcases k34 with k | k
   ·rw[z6 k];unfold qkc;simp only[path];exact z14
   ·rw[z5 (by omega),z6 k];simp only[path];exact z14
  have r1:=hrd _ m1
  rw[hK,hw.1] at r1
  unfold qgj
  rw[hK,r1]
  unfold nowP
  rw[z5 (by omega),z5 (by omega)]
  by_cases c1:r.1.getD o.2.1.toNat 0=0
  ·rw[z6 ⟨.inr k34,c1⟩]
   rcases k34 with k | k
   ·exact .del3 k c1
   ·exact .get3 k c1
  rw[z5 (fun q=>c1 q.2),z5 (by omega),z5 (by omega)]
  rcases k34 with k | k
  ·rw[z5 (by omega),z5 (by omega),z5 (by omega),z5 (by omega),z5 (by omega),z5 (by omega),z5 (by omega)]
   dsimp only
   unfold resP
   rw[z5 (by omega),z5 (by omega)]
   exact .del0 k c1
  ·rw[z6 k];exact .get0 k c1
 by_cases k5:o.1=5
 ·have m1:qy o.2.2.1∈path (wOf r) (prog o):=by
   unfold prog
   rw[z5 k1,z5 k2,z5 (by omega),z5 (by omega),z6 k5];simp only[path];exact z14
  have hk:=qo2 o.2.2.1 r.1 0
  unfold qgj
  rw[hrd _ m1,qq8 hr (by omega)]
  unfold nowP
  rw[z5 (by omega),z5 (by omega),z5 (by omega),z5 (by omega),z5 (by omega),z5 (by omega)]
  by_cases c:keyF o.2.2.1 r.1 0+1=0
  ·rw[z6 ⟨k5,c⟩];exact .find3 k5 (by omega)
  ·rw[z5 (fun q=>c q.2),z6 k5]
   dsimp only
   rw[show keyF o.2.2.1 r.1 0+1 - 1=keyF o.2.2.1 r.1 0 by omega,qn (by omega) (by omega)]
   exact .find0 k5 (by omega)
 by_cases k6:o.1=6
 ·have m1:qby o.2.1∈path (wOf r) (prog o):=by
   unfold prog
   rw[z5 k1,z5 k2,z5 (by omega),z5 (by omega),z5 k5,z6 k6];simp only[path];exact z14
  unfold qgj
  rw[hrd _ m1,qbol (by omega)]
  unfold nowP
  rw[z5 (by omega),z5 (by omega),z5 (by omega),z5 (by omega),z5 (by omega),z5 (by omega),z5 (by omega),z5 k5,z6 k6]
  exact .cnt0 k6
 by_cases k7:o.1=7
 ·have hp:prog o=qn1:=by
   unfold prog
   rw[z5 k1,z5 k2,z5 (by omega),z5 (by omega),z5 k5,z5 k6,z6 k7]
  unfold qgj nowP
  rw[z5 (by omega),z5 (by omega),z5 (by omega),z5 (by omega),z5 (by omega),z5 (by omega),z5 (by omega),z5 k5,z5 k6,z5 (by omega),z5 (by omega),z5 (by omega)]
  dsimp only
  unfold resP
  rw[z6 k7]
  have hv:∀ p:Int,0≤p∧p≤3→val (qbn r o) p=r.1.getD p.toNat 0:=fun p hp2=>by
   unfold val
   rw[hrd p (by rw[hp];unfold qn1;simp only[path,z15,z25,or_false];omega)]
   exact (qj8 hr hp2).1
  dsimp only
  rw[hv 0 (by omega),hv 1 (by omega),hv 2 (by omega),hv 3 (by omega)]
  have:=qb4b hl
  have e:[r.1.getD (0:Int).toNat 0,r.1.getD (1:Int).toNat 0,r.1.getD (2:Int).toNat 0,r.1.getD (3:Int).toNat 0]=r.1:=this.symm
  rw[e]
  exact .scan0 k7
 have m13:(13:Int)∈path (wOf r) (prog o):=by
  unfold prog
  rw[z5 k1,z5 k2,z5 (by omega),z5 (by omega),z5 k5,z5 k6,z5 k7]
  by_cases k8:o.1=8
  ·rw[z6 k8];simp only[path];exact z14
  by_cases k9:o.1=9
  ·rw[z5 k8,z6 k9];unfold qkh;simp only[path];exact z14
  ·rw[z5 k8,z5 k9,z6 (by omega)];unfold qk2;simp only[path];exact z14
 unfold qgj
 rw[hrd _ m13,qni]
 unfold nowP
 rw[z5 (by omega),z5 (by omega),z5 (by omega),z5 (by omega),z5 (by omega),z5 (by omega),z5 (by omega),z5 k5,z5 k6]
 by_cases k8:o.1=8
 ·by_cases c:r.2.1≠0
  ·rw[z6 ⟨k8,c⟩];exact .open4 k8 c
  ·rw[z5 (fun q=>c q.2),z5 (by omega),z5 (by omega)]
   dsimp only
   unfold resP
   rw[z5 (by omega),z5 (by omega)]
   exact .open0 k8 (by omega)
 rw[z5 (by omega)]
 by_cases k9:o.1=9
 ·by_cases c:r.2.1<1∨r.2.1>4
  ·rw[z6 ⟨k9,c⟩];exact .make4 k9 (by omega)
  ·rw[z5 (fun q=>c q.2),z5 (by omega)]
   dsimp only
   unfold resP
   rw[z5 (by omega),z5 (by omega)]
   exact .make0 k9 (by omega)
 rw[z5 (by omega)]
 have k10:o.1=10:=by omega
 by_cases c:r.2.1≠5
 ·rw[z6 ⟨k10,c⟩];exact .via4 k10 c
 rw[z5 (fun q=>c q.2)]
 have c5:r.2.1=5:=by omega
 have mv:qbv o.2.2.1∈path (wOf r) (prog o):=by
  unfold prog
  rw[z5 k1,z5 k2,z5 (by omega),z5 (by omega),z5 k5,z5 k6,z5 k7,z5 k8,z5 k9,z6 k10]
  unfold qk2
  simp only[path]
  rw[qni,c5]
  simp only[show ((5:Int) != 5)=false by decide,z20,path]
  simp
 have hk:=qo2 o.2.2.1 r.1 0
 have hvv:val (qbn r o) (qbv o.2.2.1)=keyF o.2.2.1 r.1 0+1:=by
  unfold val
  rw[hrd _ mv,qb16 (by omega)]
  unfold viaW
  by_cases q:0≤keyF o.2.2.1 r.1 0∧keyF o.2.2.1 r.1 0<4∧keyF o.2.2.1 r.1 0<r.2.1 - 1
  ·rw[z6 q]
  ·rw[z5 q];omega
 dsimp only
 unfold resP
 rw[z5 k7,z6 k10,hvv]
 by_cases q:keyF o.2.2.1 r.1 0+1=0
 ·rw[z6 q];exact .via3 k10 c5 (by omega)
 ·rw[z5 q]
  dsimp only
  rw[show keyF o.2.2.1 r.1 0+1 - 1=keyF o.2.2.1 r.1 0 by omega,qn (by omega) (by omega)]
  exact .via0 k10 c5 (by omega)
end Go.G

namespace Go.G
set_option maxRecDepth 100000
open Go Go.V Go.Proofs
theorem q73 (v:Int):∀ (l:List Int) (i:Nat),v∉l→keyF v l i = -1
 | [],i,_=>rfl
 | x::l,i,h=>by
  simp only[keyF]
  rw[z5 (fun e=>h (by rw[e];exact z14)),q73 v l (i+1) (fun m=>h (z16 _ m))]
section
variable {X:Ext} (hX:XOk X) {n:Nat}
include hX
theorem qbwb (D:Den ctx) (n:Nat) (K0:Int→Option ((Int×Unit)×Unit)) (K1:Option ((Int×Unit)×Unit)) (hK:K0 (-1)=K1) (l:List Int) (hl:l.length≤1000) (v:Int):∀ (m i:Nat),i≤l.length→l.length - i<m→
  qfs D n K0 K1 m l v (l.length:Int) (i:Int)=K0 (keyF v (l.drop i) i)
 | 0,_,_,h=>by omega
 | m+1,i,hi,hf=>by
  simp only[qfs,qkv]
  by_cases h:i<l.length
  ·rw[qh (by omega),ix h,br_t,z12,qx h,qhr h]
   simp only[keyF]
   by_cases e:l[i]=v
   ·rw[qh e.symm,z6 e]
   ·rw[qi (fun k=>e k.symm),z5 e,qt (by omega)]
    exact qbwb D n K0 K1 hK l hl v m (i+1) (by omega) (by omega)
  ·rw[qi (by omega),qji h]
   exact hK.symm
theorem qb2v (hn:W+1≤n) (l:List Int) (hl:l.length≤1000) (v:Int):qlx (DD X n) l v=some ((keyF v l 0,()),()):=by
 obtain ⟨n,rfl⟩:∃ k,n=k+1:=⟨n - 1,by omega⟩
 have hW:=qbk
 rw[q8p hX]
 simp only[qlt,qly,qkk]
 have e:=qbwb hX (DD X n) n (fun v0_0=>qp6 (DD X n) n v0_0) (qqa (DD X n) n) rfl l hl v n 0 (by omega) (by omega)
 rw[show ((0:Nat):Int)=0 from rfl] at e
 rw[e];rfl
theorem qbjt (hn:W+2≤n) (l:List Int) (hl:l.length≤1000) (v:Int) (h:v∉l):qgx (DD X n) l v=some ((false,()),()):=by
 obtain ⟨n,rfl⟩:∃ k,n=k+1:=⟨n - 1,by omega⟩
 rw[q4m hX]
 simp only[qju,qp9]
 rw[qb2v hX (by omega) l hl,qc,q73 v l 0 h]
 rfl
theorem qbbl (N n:Nat) (hN:W+3≤N) (K0:Bool→qu→Option ((Bool×Unit)×Unit)) (K1:qu→Option ((Bool×Unit)×Unit)) {r:qu} (hr:RightR r):∀ (m i:Nat),i≤r.1.length→r.1.length - i<m→
  qmz (DD X N) n K0 K1 m r.1 (r.1.length:Int) (i:Int) r=K1 r
 | 0,_,_,h=>by omega
 | m+1,i,hi,hf=>by
  have hl:=hr.len
  have hW:=qbk
  simp only[qmz,q0e]
  by_cases h:i<r.1.length
  ·rw[qh (by omega),ix h,br_t,z12,qx h]
   by_cases e:r.1[i]=0
   ·rw[bned,z11 e,z13,br_f,qt (by omega)]
    exact qbbl N n hN K0 K1 hr m (i+1) (by omega) (by omega)
   ·have hv:=hr.rng r.1[i] (z24 h)
    rw[bned,z10 e,Bool.not_false,br_t,qvl hX (by omega),qc]
    dsimp only
    rw[qcc.2 (by omega),z13,br_f]
    rw[show (decide ((0:Nat)≤0)&&decide ((0:Int)≤(i:Int))&&decide ((i:Int)≤(r.1.length:Int)))=true by
     rw[z11 (by omega:(0:Int)≤(i:Int)),z11 (by omega:(i:Int)≤(r.1.length:Int))];rfl]
    rw[br_t,Int.toNat_zero,List.drop_zero]
    have hnot:r.1[i]∉r.1.take i:=fun hm=>by
     obtain ⟨j,hj⟩:=List.mem_iff_getElem?.1 hm
     rw[z39] at hj
     split at hj
     ·exact e (hr.once j i (by assumption) _ hj (z31 h))
     ·simp at hj
    rw[qbjt hX (by omega) _ (by rw[z27];omega) _ hnot,qc]
    dsimp only
    rw[br_f,qt (by omega)]
    exact qbbl N n hN K0 K1 hr m (i+1) (by omega) (by omega)
  ·rw[qi (by omega)]
theorem qbdb (hn:W+4≤n) {r:qu} (hr:RightR r):qt9 (DD X n) r=some ((true,()),()):=by
 obtain ⟨n,rfl⟩:∃ k,n=k+1:=⟨n - 1,by omega⟩
 have hW:=qbk
 have hl:=hr.len
 rw[qbqb hX]
 simp only[q14,q24,qwb]
 have e:=qbbl hX n n (by omega) (fun v0_0 v0_1=>q43 (DD X n) n v0_0 v0_1) (fun v1_0=>quh (DD X n) n v1_0) hr n 0 (by omega) (by omega)
 rw[show ((0:Nat):Int)=0 from rfl] at e
 rw[e]
 simp only[quh]
 rw[qh (by omega),qd4 hX (by omega),qc,qcc.2 hr.st]
theorem qbvf (D:Den ctx) (n:Nat) (K0:Bool→Option ((Bool×Unit)×Unit)) (K1:Option ((Bool×Unit)×Unit)) (l:List Int) (hl:l.length≤1000):∀ (m i:Nat),i≤l.length→l.length - i<m→
  qft D n K0 K1 m l l (l.length:Int) (i:Int)=K1
 | 0,_,_,h=>by omega
 | m+1,i,hi,hf=>by
  simp only[qft,qky]
  by_cases h:i<l.length
  ·rw[qh (by omega),ix h,br_t,br_t,bned,z11 rfl,z13,br_f,qt (by omega)]
   exact qbvf D n K0 K1 l hl m (i+1) (by omega) (by omega)
  ·rw[qi (by omega)]
theorem qb15 (hn:W+1≤n) (l:List Int) (hl:l.length≤1000):qlw (DD X n) l l=some ((true,()),()):=by
 obtain ⟨n,rfl⟩:∃ k,n=k+1:=⟨n - 1,by omega⟩
 have hW:=qbk
 rw[q8y hX]
 simp only[qlz,ql2,qki]
 have e:=qbvf hX (DD X n) n (fun v0_0=>qp0 (DD X n) n v0_0) (qp2 (DD X n) n) l hl n 0 (by omega) (by omega)
 rw[show ((0:Nat):Int)=0 from rfl] at e
 rw[show ((l.length:Int) != (l.length:Int))=false by simp,br_f,e]
 rfl
theorem qbjz (hn:2≤n) {r:qu} (hr:RightR r):qp8 (DD X n) r=some ((r,()),()):=by
 obtain ⟨n,rfl⟩:∃ k,n=k+2:=⟨n - 2,by omega⟩
 have hl:=hr.len
 have hb:=qbh
 rw[qbjm hX]
 simp only[qxj,q7r]
 rw[qt0 hX]
 simp only[qip,qlu]
 rw[qi (by rw[z12];omega),qh (by omega),qc]
 rfl
end
end Go.G

namespace Go.G
set_option maxRecDepth 100000
open Go Go.V Go.Proofs
def qcz (r:qu) (o:Op3) (code:Int):qu:=
 if code≠0 then r else if o.1=1∨o.1=2 then (r.1.set o.2.1.toNat o.2.2.1,r.2) else if o.1=3 then (r.1.set o.2.1.toNat 0,r.2) else
 if o.1=8∨o.1=9 then (r.1,wrap .i64 (r.2.1+1),()) else r
section
variable {X:Ext} (hX:XOk X) {n:Nat}
include hX
end
end Go.G

namespace Go.G
set_option maxRecDepth 100000
open Go Go.V Go.Proofs
def cls (c v:Int):Int:=bif inR v 1 6&&decide (qg v=c) then 1 else 0
theorem qbtw (c:Int):∀ (l k:List Int),many c (l++k)=many c l+many c k
 | [],k=>by simp[many]
 | x::l,k=>by
  rw[z40]
  simp only[many]
  rw[qbtw c l k];omega
theorem qbx6 (c:Int) (l:List Int) {i:Nat} (h:i<l.length):many c (l.take (i+1))=many c (l.take i)+cls c l[i]:=by
 rw[z32 h,qbtw]
 simp only[many,cls];omega
def q74 (r:qu) (i p:Nat):Int:=if p<4 then r.1.getD p 0 else if 10≤p∧p<13 then many ((p:Int) - 10) (r.1.take i) else qt3 r i p
section
variable {X:Ext} (hX:XOk X) {n:Nat}
include hX
theorem qbbu (N n:Nat) (hN:W+4≤N) (K:qu→List Int→Option ((List Int×Unit)×Unit)) {r:qu} (hr:RightR r):∀ (m i:Nat) (ws:List Int),i≤4→4 - i<m→ws.length=20→(∀ p<20,ws.getD p 0=q74 r i p)→
  ∃ ws',ws'.length=20∧(∀ p<20,ws'.getD p 0=q74 r 4 p)∧qlf (DD X N) n K m r.1 (r.1.length:Int) (i:Int) r ws=K r ws'
 | 0,_,_,_,h,_,_=>by omega
 | m+1,i,ws,hi,hf,hlw,hw=>by
  have hl:=hr.len
  have hst:=hr.st
  have hW:=qbk
  simp only[qlf,qxe]
  by_cases h:i<4
  ·have hi2:i<r.1.length:=by omega
   have hv:=hr.rng r.1[i] (z24 hi2)
   have hps:=qboo hX hr h hi2
   have hmt:=fun c=>qbx6 c r.1 hi2
   rw[qh (by omega),ix hi2,br_t,z12,qx hi2]
   by_cases h0:r.1[i]=0
   ·rw[qh h0,qt (by omega)]
    refine qbbu N n hN K hr m (i+1) ws (by omega) (by omega) hlw (fun p hp=>?_)
    rw[hw p hp]
    unfold q74
    by_cases a1:p<4
    ·rw[z6 a1,z6 a1]
    rw[z5 a1,z5 a1]
    by_cases a2:10≤p∧p<13
    ·rw[z6 a2,z6 a2,hmt,h0]
     have:cls ((p:Int) - 10) 0=0:=rfl
     rw[this];omega
    rw[z5 a2,z5 a2,hps p hp,z5 a1]
    rw[z5 (show ¬ (r.1[i]≠0∧(p:Int)=3+r.1[i]) from fun k=>k.1 h0),z5 (show ¬ (r.1[i]≠0∧(p:Int)=13+r.1[i]∧(i:Int)<r.2.1 - 1) from fun k=>k.1 h0)]
   ·have ho:=qig r.1[i]
    have hvi:=qgt r.1[i]
    have hcl:=qkg r.1[i]
    have hc:=qid (qg r.1[i])
    have ho2:qy r.1[i]=3+r.1[i]:=by omega
    have hvi2:qbv r.1[i]=13+r.1[i]:=by omega
    have hc2:qby (qg r.1[i])=10+qg r.1[i]:=by omega
    have hws:wrap .i64 (r.2.1 - 1)=r.2.1 - 1:=qn (by omega) (by omega)
    have hmr:=q6i (qg r.1[i]) (r.1.take i)
    rw[z27] at hmr
    have hcnt:(ws.set (3+r.1[i]).toNat ((i:Int)+1)).getD (10+qg r.1[i]).toNat 0=many (qg r.1[i]) (r.1.take i):=by
     rw[qeu _ _ _ _ (by omega),z5 (by omega),hw _ (by omega)]
     unfold q74
     rw[z5 (by omega),z6 (by omega),show (((10+qg r.1[i]).toNat:Nat):Int) - 10=qg r.1[i] by omega]
    have hcls:∀ c,cls c r.1[i]=if qg r.1[i]=c then 1 else 0:=fun c=>by
     unfold cls
     rw[qcc.2 (by omega),Bool.true_and]
     by_cases e:qg r.1[i]=c
     ·rw[z11 e,z6 e];rfl
     ·rw[z10 e,z5 e];rfl
    rw[qi h0,qj0 hX (by omega),qc]
    dsimp only
    rw[ho2,ixn (by omega) (by omega),br_t,qoy hX (by omega),qc]
    dsimp only
    rw[qj2 hX (by omega),qc]
    dsimp only
    have hw1:wrap .i64 ((i:Int)+1)=(i:Int)+1:=qn (by omega) (by omega)
    rw[hc2,hw1,ixn (by omega) (by rw[z17,hlw];omega),br_t,br_t,hcnt,qn (x:=many (qg r.1[i]) (r.1.take i)+1) (by omega) (by omega),hws]
    have hfin:∀ p<20,p<4∨¬ (p<4):=fun p _=>by omega
    by_cases hs:(i:Int)<r.2.1 - 1
    ·rw[qh hs,qlg hX (by omega),qc]
     dsimp only
     rw[hvi2,ixn (by omega) (by rw[z17,z17,hlw];omega),br_t]
     refine qbbu N n hN K hr m (i+1) _ (by omega) (by omega) (by rw[z17,z17,z17];exact hlw) (fun p hp=>?_)
     rw[qeu _ _ _ _ (by rw[z17,z17,hlw];omega),qeu _ _ _ _ (by rw[z17,hlw];omega),qeu _ _ _ _ (by omega),hw p hp]
     unfold q74
     by_cases a1:p<4
     ·rw[z5 (by omega),z5 (by omega),z5 (by omega),z6 a1,z6 a1]
     rw[z5 a1,z5 a1]
     by_cases a2:10≤p∧p<13
     ·rw[z5 (show ¬ p=(13+r.1[i]).toNat by omega),z5 (show ¬ p=(3+r.1[i]).toNat by omega),z6 a2,z6 a2,hmt,hcls]
      by_cases e:p=(10+qg r.1[i]).toNat
      ·rw[z6 e,z6 (by omega),show (p:Int) - 10=qg r.1[i] by omega]
      ·rw[z5 e,z5 (by omega)];omega
     rw[z5 a2,z5 a2,hps p hp,z5 a1]
     by_cases e3:p=(13+r.1[i]).toNat
     ·rw[z6 e3,z5 (by omega),z6 ⟨h0,by omega,hs⟩]
     rw[z5 e3,z5 (show ¬ p=(10+qg r.1[i]).toNat by omega)]
     by_cases e2:p=(3+r.1[i]).toNat
     ·rw[z6 e2,z6 ⟨h0,by omega⟩]
     rw[z5 e2,z5 (show ¬ (r.1[i]≠0∧(p:Int)=3+r.1[i]) by omega),z5 (show ¬ (r.1[i]≠0∧(p:Int)=13+r.1[i]∧(i:Int)<r.2.1 - 1) by omega)]
    ·rw[qi hs]
     refine qbbu N n hN K hr m (i+1) _ (by omega) (by omega) (by rw[z17,z17];exact hlw) (fun p hp=>?_)
     rw[qeu _ _ _ _ (by rw[z17,hlw];omega),qeu _ _ _ _ (by omega),hw p hp]
     unfold q74
     by_cases a1:p<4
     ·rw[z5 (by omega),z5 (by omega),z6 a1,z6 a1]
     rw[z5 a1,z5 a1]
     by_cases a2:10≤p∧p<13
     ·rw[z5 (show ¬ p=(3+r.1[i]).toNat by omega),z6 a2,z6 a2,hmt,hcls]
      by_cases e:p=(10+qg r.1[i]).toNat
      ·rw[z6 e,z6 (by omega),show (p:Int) - 10=qg r.1[i] by omega]
      ·rw[z5 e,z5 (by omega)];omega
     rw[z5 a2,z5 a2,hps p hp,z5 a1]
     rw[z5 (show ¬ p=(10+qg r.1[i]).toNat by omega),z5 (show ¬ (r.1[i]≠0∧(p:Int)=13+r.1[i]∧(i:Int)<r.2.1 - 1) from fun k=>hs k.2.2)]
     by_cases e2:p=(3+r.1[i]).toNat
     ·rw[z6 e2,z6 ⟨h0,by omega⟩]
     rw[z5 e2,z5 (show ¬ (r.1[i]≠0∧(p:Int)=3+r.1[i]) by omega)]
  ·rw[qi (by omega)]
   have:i=4:=by omega
   subst this
   exact ⟨ws,hlw,hw,rfl⟩
theorem qbz6 (hn:W+6≤n) {r:qu} (hr:RightR r):∃ ws:List Int,ws.length=20∧(∀ p<20,ws.getD p 0=qdn r p)∧qr5 (DD X n) r=some ((ws,()),()):=by
 obtain ⟨n,rfl⟩:∃ k,n=k+1:=⟨n - 1,by omega⟩
 have hW:=qbk
 have hst:=hr.st
 have hl:=hr.len
 rw[qblv hX]
 simp only[qyf,qy0]
 rw[qbdb hX (by omega) hr,qc]
 dsimp only
 rw[z13,br_f]
 simp only[qu9]
 have hcp:(decide (0<r.1.length)&&decide (0<(List.replicate (Int.toNat 20) (0:Int)).length))=true:=by
  rw[z11 (by omega),List.length_replicate];rfl
 obtain ⟨w1,l1,h1,e1⟩:=qbbu hX n n (by omega) (fun v0_0 v0_1=>qsj (DD X n) n v0_0 v0_1) hr n 0 (qoq (Ty.int IntKind.i64) (List.replicate (Int.toNat 20) 0) r.1) (by omega) (by omega)
  (by rw[qbkf];rfl) (fun p hp=>by
  have e0:(List.replicate (Int.toNat 20) (0:Int)).getD p 0=0:=by
   simp only[List.getD,List.getElem?_replicate];split<;>rfl
  have e1:=qbku (t:=Ty.int IntKind.i64) (xs:=List.replicate (Int.toNat 20) 0) (ys:=r.1) p (by rw[List.length_replicate];exact hp)
  rw[List.length_replicate,hl] at e1
  refine Eq.trans e1 ?_
  unfold q74
  by_cases a1:p<4
  ·rw[z6 (by omega),z6 a1];rfl
  ·rw[z5 (by omega),z5 a1]
   refine Eq.trans e0 ?_
   by_cases a2:10≤p∧p<13
   ·rw[z6 a2,List.take_zero];rfl
   rw[z5 a2]
   unfold qt3 ownW viaW
   rw[z5 a1]
   split
   ·rw[z5 (by omega)]
   ·split
    ·rfl
    ·rw[z5 (by omega)])
 rw[show ((0:Nat):Int)=0 from rfl] at e1
 refine ⟨w1.set 13 r.2.1,by rw[z17];exact l1,fun p hp=>?_,(congrArg (fun c=>br c _ _) hcp).trans (e1.trans ?_)⟩
 ·rw[qeu _ _ _ _ (by omega),h1 p hp]
  unfold qdn q74 qt3
  by_cases e:p=13
  ·rw[z6 e,z5 (by omega),z5 (by omega),z5 (by omega),z6 e]
  rw[z5 e]
  by_cases a1:p<4
  ·rw[z6 a1,z6 a1]
  by_cases a2:p<10
  ·rw[z5 a1,z5 (by omega),z5 a1,z6 a2,z5 a1,z6 a2];rfl
  by_cases a3:p<13
  ·rw[z5 a1,z6 (by omega),z5 a1,z5 a2,z6 a3,z42 (by omega)]
  ·rw[z5 a1,z5 (by omega),z5 a1,z5 a2,z5 (by omega),z5 a1,z5 a2,z5 a3,z5 e];rfl
 simp only[qsj]
 rw[qgf hX (by omega),qc]
 dsimp only
 rw[ixn (by omega) (by rw[l1];omega),br_t]
 rfl
end
end Go.G

namespace Go.G
set_option maxRecDepth 100000
open Go Go.V Go.Proofs
theorem qbhs (c:Int):∀ (l:List Int) (k:Nat) (V:Int),k<l.length→many c (l.set k V)=many c l+cls c V - cls c (l.getD k 0)
 | [],k,V,h=>by simp at h
 | x::l,0,V,_=>by
  simp only[List.set_cons_zero,many,List.getD_cons_zero,cls];omega
 | x::l,k+1,V,h=>by
  simp only[List.set_cons_succ,many,List.getD_cons_succ]
  rw[qbhs c l k V (by simpa using h)];omega
theorem qbjc {r:qu} (hr:RightR r) {v:Int} (hv:v≠0) {k:Nat} (h:r.1[k]? = some v):keyF v r.1 0=k:=by
 rw[q4x v r.1 0 k h (fun j hj hc=>hv (hr.once j k hj v hc h))]
 congr 1;omega
theorem qbre {r:qu} (hr:RightR r) {K:Nat} (hK:K<4) {V:Int} (hV:V=0∨keyF V r.1 0<0) {v:Int} (hv:1≤v) :
  keyF v (r.1.set K V) 0=if v=V then (K:Int) else if v=r.1.getD K 0 then -1 else keyF v r.1 0:=by
 have hl:=hr.len
 have hget:∀ j,j≠K→(r.1.set K V)[j]? = r.1[j]?:=fun j hj=>by rw[List.getElem?_set,z5 (fun e=>hj e.symm)]
 have hgK:(r.1.set K V)[K]? = some V:=by rw[List.getElem?_set,z6 rfl,z6 (by omega)]
 have hrK:r.1[K]? = some (r.1.getD K 0):=by rw[z31 (by omega),qx (by omega)]
 by_cases e:v=V
 ·rw[z6 e]
  subst e
  have hno:v∉r.1:=q61 v r.1 0 (by omega)
  rw[q4x v _ 0 K hgK (fun j hj hc=>by
   rw[hget j (by omega)] at hc
   exact hno (List.mem_iff_getElem?.2 ⟨j,hc⟩))]
  congr 1;omega
 rw[z5 e]
 by_cases e2:v=r.1.getD K 0
 ·rw[z6 e2]
  refine q73 v _ 0 (fun hm=>?_)
  obtain ⟨j,hj⟩:=List.mem_iff_getElem?.1 hm
  by_cases q:j=K
  ·subst q;rw[hgK] at hj;exact e (Option.some.inj hj).symm
  ·rw[hget j q] at hj
   rw[←e2] at hrK
   by_cases lt:j<K
   ·have:=hr.once j K lt v hj hrK;omega
   ·have:=hr.once K j (by omega) v hrK hj;omega
 rw[z5 e2]
 by_cases h0:keyF v r.1 0<0
 ·have hno:v∉r.1:=q61 _ _ _ h0
  have:=qo2 v r.1 0
  rw[q73 v _ 0 (fun hm=>by
   obtain ⟨j,hj⟩:=List.mem_iff_getElem?.1 hm
   by_cases q:j=K
   ·subst q;rw[hgK] at hj;exact e (Option.some.inj hj).symm
   ·rw[hget j q] at hj;exact hno (List.mem_iff_getElem?.2 ⟨j,hj⟩))]
  omega
 ·obtain ⟨k,hk⟩:∃ k:Nat,keyF v r.1 0=k:=⟨(keyF v r.1 0).toNat,by omega⟩
  obtain ⟨_,h2⟩:=q6x v r.1 0 k hk
  rw[Nat.sub_zero] at h2
  have hkK:k≠K:=fun q=>by subst q;rw[hrK] at h2;exact e2 (Option.some.inj h2).symm
  rw[hk,q4x v _ 0 k (by rw[hget k hkK];exact h2) (fun j hj hc=>by
   by_cases q:j=K
   ·subst q;rw[hgK] at hc;exact e (Option.some.inj hc).symm
   ·rw[hget j q] at hc
    have:=hr.once j k hj v hc h2;omega)]
  congr 1;omega
theorem qbzq {r:qu} (hr:RightR r) {K:Nat} (hK:K<4) {V:Int} (hV:V=0∨keyF V r.1 0<0) (hV6:0≤V∧V≤6):RightR (r.1.set K V,r.2):=by
 have hl:=hr.len
 have hget:∀ j,j≠K→(r.1.set K V)[j]? = r.1[j]?:=fun j hj=>by rw[List.getElem?_set,z5 (fun e=>hj e.symm)]
 have hgK:(r.1.set K V)[K]? = some V:=by rw[List.getElem?_set,z6 rfl,z6 (by omega)]
 have hno:V≠0→V∉r.1:=fun h=>q61 V r.1 0 (by omega)
 refine ⟨by show (r.1.set K V).length=4;rw[z17];exact hl,fun x hx=>?_,fun i j hij v g1 g2=>?_,hr.st⟩
 ·rcases List.mem_or_eq_of_mem_set hx with q | rfl
  ·exact hr.rng x q
  ·exact hV6
 ·show v=0
  have h1:(r.1.set K V)[i]? = some v:=g1
  have h2:(r.1.set K V)[j]? = some v:=g2
  clear g1 g2
  by_cases q:i=K
  ·subst q
   rw[hgK] at h1
   rw[hget j (by omega)] at h2
   have:=Option.some.inj h1
   subst this
   by_cases z:V=0
   ·exact z
   ·exact absurd (List.mem_iff_getElem?.2 ⟨j,h2⟩) (hno z)
  ·rw[hget i q] at h1
   by_cases q2:j=K
   ·subst q2
    rw[hgK] at h2
    have:=Option.some.inj h2
    subst this
    by_cases z:V=0
    ·exact z
    ·exact absurd (show V∈r.1 from List.mem_iff_getElem?.2 ⟨i,h1⟩) (hno z)
   ·rw[hget j q2] at h2
    exact hr.once i j hij v h1 h2
theorem qbq1 {r:qu} (hr:RightR r) {K:Nat} (hK:K<4) {V:Int} (hV:V=0∨keyF V r.1 0<0) {p:Nat} (hp:p<20) :
  qdn (r.1.set K V,r.2) p=if p<4 then (if p=K then V else qdn r p)
   else if p<10 then (if (p:Int) - 3=V then (K:Int)+1 else if (p:Int) - 3=r.1.getD K 0 then 0 else qdn r p)
   else if p<13 then qdn r p+cls ((p:Int) - 10) V - cls ((p:Int) - 10) (r.1.getD K 0)
   else if p=13 then qdn r p
   else (if (p:Int) - 13=V then (if (K:Int)<r.2.1 - 1 then (K:Int)+1 else 0) else if (p:Int) - 13=r.1.getD K 0 then 0 else qdn r p):=by
 have hl:=hr.len
 unfold qdn
 by_cases a1:p<4
 ·simp only[z6 a1]
  rw[qeu _ _ _ _ (by omega)]
 simp only[z5 a1]
 by_cases a2:p<10
 ·simp only[z6 a2]
  unfold ownW
  rw[qbre hr hK hV (by omega)]
  by_cases e:(p:Int) - 3=V
  ·simp only[z6 e];rw[z6 (by omega)]
  simp only[z5 e]
  by_cases e2:(p:Int) - 3=r.1.getD K 0
  ·simp only[z6 e2];rw[z5 (by omega)]
  simp only[z5 e2]
 simp only[z5 a2]
 by_cases a3:p<13
 ·simp only[z6 a3]
  exact qbhs _ _ _ _ (by omega)
 simp only[z5 a3]
 by_cases a4:p=13
 ·simp only[z6 a4]
 simp only[z5 a4]
 unfold viaW
 rw[qbre hr hK hV (by omega)]
 by_cases e:(p:Int) - 13=V
 ·simp only[z6 e]
  by_cases q:(K:Int)<r.2.1 - 1
  ·rw[z6 ⟨by omega,by omega,q⟩,z6 q]
  ·rw[z5 (fun z=>q z.2.2),z5 q]
 simp only[z5 e]
 by_cases e2:(p:Int) - 13=r.1.getD K 0
 ·simp only[z6 e2];rw[z5 (by omega)]
 simp only[z5 e2]
theorem q6y {v:Int} (hv:1≤v∧v≤6) (c:Int):cls c v=if qg v=c then 1 else 0:=by
 unfold cls
 rw[qcc.2 hv,Bool.true_and]
 by_cases e:qg v=c
 ·rw[z11 e,z6 e];rfl
 ·rw[z10 e,z5 e];rfl
structure Must (r:qu) (K V:Int) (l:List Int):Prop where
 k:K∈l
 s:13∈l
 o:∀ v,v=r.1.getD K.toNat 0∨v=V→1≤v→3+v∈l
 c:qg (r.1.getD K.toNat 0)≠qg V→∀ v,v=r.1.getD K.toNat 0∨v=V→1≤v→10+qg v∈l
 v:K+1<r.2.1→∀ v,v=r.1.getD K.toNat 0∨v=V→1≤v→13+v∈l
 x:∀ p∈l,14≤p→K+1<r.2.1
structure Chg (r:qu) (K V:Int):Prop where
 k:0≤K∧K≤3
 v:0≤V∧V≤6
 h:0≤r.1.getD K.toNat 0∧r.1.getD K.toNat 0≤6
 z:V=0∨keyF V r.1 0<0
 n:r.1.getD K.toNat 0≠V
theorem qb0s {r:qu} (hr:RightR r) {K V:Int} {l:List Int} (hc:Chg r K V) (hm:Must r K V l) {p:Nat} (hp:p<20) (hn:(p:Int)∉l) :
  qdn (r.1.set K.toNat V,r.2) p=qdn r p:=by
 have hK:=hc.k
 have hV:=hc.v
 have hh:=hc.h
 have hz:=hc.z
 have hne:=hc.n
 have hl:=hr.len
 have hk4:K.toNat<4:=by omega
 have hcV:=qkg V
 have hcH:=qkg (r.1.getD K.toNat 0)
 rw[qbq1 hr hk4 hc.z hp]
 have hno:∀ q,q∈l→(p:Int)≠q:=fun q hq e=>hn (e ▸ hq)
 by_cases a1:p<4
 ·rw[z6 a1,z5 (by have:=hno K hm.k;omega)]
 rw[z5 a1]
 by_cases a2:p<10
 ·rw[z6 a2,z5 (fun e=>by have:=hno _ (hm.o V (.inr rfl) (by omega));omega),z5 (fun e=>by have:=hno _ (hm.o _ (.inl rfl) (by omega));omega)]
 rw[z5 a2]
 by_cases a3:p<13
 ·rw[z6 a3]
  by_cases e:qg (r.1.getD K.toNat 0)=qg V
  ·have h1:1≤V:=by omega
   have h2:1≤r.1.getD K.toNat 0:=by omega
   rw[q6y (by omega),q6y (by omega),e];omega
  ·have q:=hm.c e
   have f1:cls ((p:Int) - 10) V=0:=by
    by_cases z:1≤V
    ·rw[q6y (by omega),z5 (fun e=>by have:=hno _ (q V (.inr rfl) z);omega)]
    ·rw[show V=0 by omega];rfl
   have f2:cls ((p:Int) - 10) (r.1.getD K.toNat 0)=0:=by
    by_cases z:1≤r.1.getD K.toNat 0
    ·rw[q6y (by omega),z5 (fun e=>by have:=hno _ (q _ (.inl rfl) z);omega)]
    ·rw[show r.1.getD K.toNat 0=0 by omega];rfl
   rw[f1,f2];omega
 rw[z5 a3]
 by_cases a4:p=13
 ·rw[z6 a4]
 rw[z5 a4]
 have hw:qdn r p=viaW ((p:Int) - 13) r.1 4 r.2.1:=by
  unfold qdn;rw[z5 a1,z5 a2,z5 a3,z5 a4]
 by_cases e:(p:Int) - 13=V
 ·have hk:¬ K+1<r.2.1:=fun q=>by have:=hno _ (hm.v q V (.inr rfl) (by omega));omega
  rw[z6 e,z5 (by omega),hw,e]
  unfold viaW
  rw[z5 (by omega)]
 rw[z5 e]
 by_cases e2:(p:Int) - 13=r.1.getD K.toNat 0
 ·have hk:¬ K+1<r.2.1:=fun q=>by have:=hno _ (hm.v q _ (.inl rfl) (by omega));omega
  have hkey:keyF (r.1.getD K.toNat 0) r.1 0=K.toNat:=qbjc hr (by omega) (by rw[z31 (by omega),qx (by omega)])
  rw[z6 e2,hw,e2]
  unfold viaW
  rw[hkey,z5 (by omega)]
 rw[z5 e2]
theorem qb24 {k:Int} (h:0≤qp k):qp k=k:=by have:=qmv k;omega
theorem qbpe {v:Int} (h:0≤qy v):(1≤v∧v≤6)∧qy v=3+v:=by have:=qig v;omega
theorem qbvg {v:Int} (h:0≤qbv v):(1≤v∧v≤6)∧qbv v=13+v:=by have:=qgt v;omega
theorem qbo3 {v:Int} (h:0≤qby (qg v)):(1≤v∧v≤6)∧(0≤qg v∧qg v≤2)∧qby (qg v)=10+qg v:=by
 have:=qid (qg v)
 have:=qkg v
 omega
theorem qbv5 {c V:Int} (hV:0≤V∧V≤6) (h:qg V≠c):cls c V=0:=by
 by_cases z:1≤V
 ·rw[q6y (by omega),z5 h]
 ·rw[show V=0 by omega];rfl
theorem qbkt (r:qu) {c:Int} (hc:0≤c∧c≤2):qdn r (10+c).toNat=many c r.1:=by
 unfold qdn
 rw[z5 (by omega),z5 (by omega),z6 (by omega),show (((10+c).toNat:Nat):Int) - 10=c by omega]
theorem qb3n {r:qu} (hr:RightR r) {K V:Int} {l:List Int} (hc:Chg r K V) (hm:Must r K V l) {q:Want} (hq:q∈chgL K V (r.1.getD K.toNat 0) r.2.1) (hl:q.1∈l) (h0:0≤q.1) :
  q.1<20∧q.2 (wOf r q.1)=wOf (r.1.set K.toNat V,r.2) q.1:=by
 have hb:=qbh
 have hK:=hc.k
 have hV:=hc.v
 have hh:=hc.h
 have hne:=hc.n
 have hlen:=hr.len
 have hst:=hr.st
 have hk4:K.toNat<4:=by omega
 have hlt:=qbvq K V (r.1.getD K.toNat 0) r.2.1 q hq
 have hws:=qbq1 hr hk4 hc.z (p:=q.1.toNat) (by omega)
 refine ⟨by omega,?_⟩
 have hx:=fun h=>hm.x _ hl h
 have hlK:K.toNat<r.1.length:=by omega
 have hms:=fun c=>qbhs c r.1 K.toNat V hlK
 have hmr2:=fun c=>q6i c (r.1.set K.toNat V)
 unfold wOf
 rw[hws]
 clear hws hlt hl hm
 unfold chgL at hq
 generalize hheld:r.1.getD K.toNat 0=H at *
 rcases z18.1 hq with hq | hq
 ·simp only[z15,z25,or_false] at hq
  rcases hq with rfl | rfl | rfl | rfl | rfl | rfl<;>dsimp only at *
  ·rw[qb24 h0,z6 (by omega),z6 rfl]
  ·rw[z5 (by decide),z5 (by decide),z5 (by decide),z6 (by decide)];rfl
  ·obtain ⟨e1,e⟩:=qbpe h0
   rw[e,z5 (by omega),z6 (by omega),z5 (by omega),z6 (by omega)]
  ·obtain ⟨e1,e⟩:=qbvg h0
   rw[e,z5 (by omega),z5 (by omega),z5 (by omega),z5 (by omega),z5 (by omega),z6 (by omega)]
  ·obtain ⟨e1,e⟩:=qbpe h0
   rw[e,z5 (by omega),z6 (by omega),z6 (by omega),qn (by omega) (by omega)];omega
  ·obtain ⟨e1,e⟩:=qbvg h0
   have hx:=hx (by omega)
   rw[e,z5 (by omega),z5 (by omega),z5 (by omega),z5 (by omega),z6 (by omega),z6 (by omega),qn (by omega) (by omega)];omega
 ·cases hcc:qg H != qg V
  ·rw[hcc] at hq;simp at hq
  rw[hcc,z21] at hq
  have hcne:qg H≠qg V:=by simpa using hcc
  simp only[z15,z25,or_false] at hq
  rcases hq with rfl | rfl<;>dsimp only at *
  ·obtain ⟨hH,ec,e⟩:=qbo3 h0
   have a1:=q6i (qg H) r.1
   have a2:=hms (qg H)
   have a3:=hmr2 (qg H)
   have f1:cls (qg H) H=1:=by rw[q6y hH,z6 rfl]
   have f2:cls (qg H) V=0:=qbv5 hV (fun q=>hcne q.symm)
   rw[f1,f2] at a2
   rw[e,z5 (by omega),z5 (by omega),z6 (by omega),qbkt r ec,show (((10+qg H).toNat:Nat):Int) - 10=qg H by omega,f1,f2]
   unfold less
   rw[qn (by omega) (by omega)]
   split<;>omega
  ·obtain ⟨hH,ec,e⟩:=qbo3 h0
   have a1:=q6i (qg V) r.1
   have f1:cls (qg V) V=1:=by rw[q6y hH,z6 rfl]
   have f2:cls (qg V) H=0:=qbv5 hh hcne
   rw[e,z5 (by omega),z5 (by omega),z6 (by omega),qbkt r ec,show (((10+qg V).toNat:Nat):Int) - 10=qg V by omega,f1,f2]
   unfold one
   rw[qn (by omega) (by omega)];omega
end Go.G

namespace Go.G
set_option maxRecDepth 100000
open Go Go.V Go.Proofs
theorem qb3u {r:qu} (hr:RightR r) {o:Op3} (ho:opOk o=true) (h123:o.1=1∨o.1=2∨o.1=3) (hne:1≤r.1.getD o.2.1.toNat 0∧r.1.getD o.2.1.toNat 0≤6→r.1.getD o.2.1.toNat 0≠o.2.2.1) {c:Int} {L:List Int} (hc:c=0) (h:Out r o c L) :
  Chg r o.2.1 o.2.2.1∧(o.1=1→r.1.getD o.2.1.toNat 0=0)∧(o.1≠1→r.1.getD o.2.1.toNat 0≠0):=by
 have hk:=qt7 ho
 have hl:=hr.len
 have hK:0≤o.2.1∧o.2.1≤3:=by omega
 have hh:0≤r.1.getD o.2.1.toNat 0∧r.1.getD o.2.1.toNat 0≤6:=by
  rw[qx (by omega)];exact hr.rng _ (z24 _)
 have mk:(o.2.2.1=0∨keyF o.2.2.1 r.1 0<0)→r.1.getD o.2.1.toNat 0≠o.2.2.1→Chg r o.2.1 o.2.2.1:=fun a b=>⟨hK,by omega,hh,a,b⟩
 cases h with
 | put0 k h1 h2=>exact ⟨mk (.inr h2) (by omega),fun _=>h1,fun q=>absurd k q⟩
 | set0 k h1 h2 h3=>exact ⟨mk (.inr h3) h2,fun q=>by omega,fun _=>h1⟩
 | del0 k h1=>exact ⟨mk (.inl (by omega)) (by omega),fun q=>by omega,fun _=>h1⟩
 | setS k h1 h2=>exact absurd h2 (hne (by omega))
 | _=>omega
theorem qb3d {r:qu} (hr:RightR r) {o:Op3} (ho:opOk o=true) (h123:o.1=1∨o.1=2∨o.1=3) (hc:Chg r o.2.1 o.2.2.1) (h1:o.1=1→r.1.getD o.2.1.toNat 0=0) (h2:o.1≠1→r.1.getD o.2.1.toNat 0≠0) :
  Must r o.2.1 o.2.2.1 (path (wOf r) (prog o)):=by
 have hk:=qt7 ho
 have hb:=qbh
 have hh:=hc.h
 have hz:=hc.z
 have hne:=hc.n
 have hst:=hr.st
 have hK:0≤o.2.1∧o.2.1≤3:=hc.k
 have hrow:qp o.2.1=o.2.1:=by have:=qmv o.2.1;omega
 have hwK:=(qj8 hr hK).1
 have hwo:1≤o.2.2.1→wOf r (qy o.2.2.1)=0:=fun z=>by
  rw[qq8 hr (by have:=hc.v;omega)]
  have:=qo2 o.2.2.1 r.1 0
  omega
 have hws:=qni r
 have hwr:wrap .i64 (o.2.1+1)=o.2.1+1:=qn (by omega) (by omega)
 have hown:∀ v,1≤v∧v≤6→qy v=3+v:=fun v hv=>by have:=qig v;omega
 have hvia:∀ v,1≤v∧v≤6→qbv v=13+v:=fun v hv=>by have:=qgt v;omega
 have hcnt:∀ v,1≤v∧v≤6→qby (qg v)=10+qg v:=fun v hv=>by have:=qid (qg v);have:=qkg v;omega
 have hclr:∀ v,1≤v∧v≤6→0≤qg v∧qg v≤2:=fun v hv=>by have:=qkg v;omega
 have hV:=hc.v
 generalize hheld:r.1.getD o.2.1.toNat 0=H at *
 unfold prog
 rcases h123 with k | k | k
 ·rw[z6 k]
  have hH:=h1 k
  have hV1:1≤o.2.2.1∧o.2.2.1≤6:=by omega
  have e:path (wOf r) (qie o)=o.2.1::(3+o.2.2.1)::(10+qg o.2.2.1)::13::(if r.2.1≤o.2.1+1 then [] else [13+o.2.2.1]):=by
   unfold qie
   simp only[path]
   rw[hrow,hwK,hH]
   simp only[bned,decide_true,z13,z20,path]
   rw[hwo hV1.1]
   simp only[decide_true,z13,z20,path,qoa,z28,List.map_nil]
   rw[hws,hwr,hown _ hV1,hvia _ hV1,hcnt _ hV1]
  rw[e]
  have hc2:=hclr _ hV1
  refine ⟨by simp,by simp,fun v hv z=>?_,fun _ v hv z=>?_,fun q v hv z=>?_,fun p hp h14=>?_⟩
  ·have:v=o.2.2.1:=by omega
   subst this;simp
  ·have:v=o.2.2.1:=by omega
   subst this;simp
  ·have:v=o.2.2.1:=by omega
   subst this;rw[z5 (by omega)];simp
  ·by_cases q:r.2.1≤o.2.1+1
   ·rw[z6 q] at hp
    simp only[z15,z25,or_false] at hp
    omega
   ·omega
 ·have hH:=h2 (by omega)
  rw[z5 (by omega),z6 k]
  have hV1:1≤o.2.2.1∧o.2.2.1≤6:=by omega
  have hH1:1≤H∧H≤6:=by omega
  have e:path (wOf r) (qik o)=o.2.1::(3+o.2.2.1)::(3+H)::((bif qg H != qg o.2.2.1 then [10+qg H,10+qg o.2.2.1] else [])++13::(if r.2.1≤o.2.1+1 then [] else [13+H,13+o.2.2.1])):=by
   unfold qik
   simp only[path]
   rw[hrow,hwK,z10 hH,z10 hne]
   simp only[z20,path]
   rw[hwo hV1.1]
   simp only[bned,decide_true,z13,z20,path]
   cases decide (qg H=qg o.2.2.1)
   ·simp only[Bool.not_false,z21,path,qoa,z28,List.map_nil,z40,z46]
    rw[hws,hwr,hown _ hV1,hvia _ hV1,hcnt _ hV1,hown _ hH1,hvia _ hH1,hcnt _ hH1]
   ·simp only[z13,z20,path,qoa,z28,List.map_nil,z40,z46]
    rw[hws,hwr,hown _ hV1,hvia _ hV1,hown _ hH1,hvia _ hH1]
  rw[e]
  have hc2:=hclr _ hV1
  have hc3:=hclr _ hH1
  refine ⟨by simp,by simp,fun v hv z=>?_,fun q v hv z=>?_,fun q v hv z=>?_,fun p hp h14=>?_⟩
  ·rw[hheld] at hv
   rcases hv with rfl | rfl<;>simp
  ·rw[hheld] at hv q
   rw[bned,z10 q]
   rcases hv with rfl | rfl<;>simp
  ·rw[hheld] at hv
   rw[z5 (by omega)]
   rcases hv with rfl | rfl<;>simp
  ·by_cases q:r.2.1≤o.2.1+1
   ·rw[z6 q] at hp
    cases hq:qg H != qg o.2.2.1
    ·rw[hq] at hp
     simp only[z20,z46,z15,z25,or_false] at hp
     omega
    ·rw[hq] at hp
     simp only[z21,z40,z46,z15,z25,or_false] at hp
     omega
   ·omega
 ·have hH:=h2 (by omega)
  rw[z5 (by omega),z5 (by omega),z6 k]
  have hH1:1≤H∧H≤6:=by omega
  have e:path (wOf r) (qkc o)=o.2.1::(3+H)::(10+qg H)::13::(if r.2.1≤o.2.1+1 then [] else [13+H]):=by
   unfold qkc
   simp only[path]
   rw[hrow,hwK,z10 hH]
   simp only[z20,path,qoa,z28,List.map_nil]
   rw[hws,hwr,hown _ hH1,hvia _ hH1,hcnt _ hH1]
  rw[e]
  have hc3:=hclr _ hH1
  refine ⟨by simp,by simp,fun v hv z=>?_,fun q v hv z=>?_,fun q v hv z=>?_,fun p hp h14=>?_⟩
  ·have:v=H:=by omega
   subst this;simp
  ·have:v=H:=by omega
   subst this;simp
  ·have:v=H:=by omega
   subst this;rw[z5 (by omega)];simp
  ·by_cases q:r.2.1≤o.2.1+1
   ·rw[z6 q] at hp
    simp only[z15,z25,or_false] at hp
    omega
   ·omega
theorem qbe7 {r:qu} (hr:RightR r) {p:Nat} (hp:p<20) (h13:p≠13) (hk:14≤p→keyF ((p:Int) - 13) r.1 0≠r.2.1 - 1∨r.2.1=0):qdn (r.1,r.2.1+1,()) p=qdn r p:=by
 have hst:=hr.st
 unfold qdn
 by_cases a1:p<4
 ·rw[z6 a1,z6 a1]
 rw[z5 a1,z5 a1]
 by_cases a2:p<10
 ·rw[z6 a2,z6 a2]
 rw[z5 a2,z5 a2]
 by_cases a3:p<13
 ·rw[z6 a3,z6 a3]
 rw[z5 a3,z5 a3,z5 h13,z5 h13]
 have hk:=hk (by omega)
 unfold viaW
 dsimp only
 by_cases e:0≤keyF ((p:Int) - 13) r.1 0∧keyF ((p:Int) - 13) r.1 0<4∧keyF ((p:Int) - 13) r.1 0<r.2.1 - 1
 ·rw[z6 e,z6 (by omega)]
 ·rw[z5 e,z5 (by omega)]
theorem qt1 {r:qu} {o:Op3} (c:Int) (h:¬ (o.1=1∨o.1=2)∧¬ o.1=3∧¬ (o.1=8∨o.1=9)):qcz r o c=r:=by
 unfold qcz
 rw[z5 h.1,z5 h.2.1,z5 h.2.2]
 split<;>rfl
structure Turns (w w':Int→Int) (E:List qbe):Prop where
 asc:Asc E
 old:∀ e∈E,0≤e.1∧e.1<20∧e.2.1=w e.1∧e.2.2.1=w' e.1
 rest:∀ p:Nat,p<20→(∀ e∈E,e.1≠(p:Int))→w p=w' p
theorem qbwn {r:qu} (hr:RightR r) {o:Op3} (ho:opOk o=true) (hnow:qgj o (qbn r o)=none) :
  Turns (wOf r) (wOf (qcz r o (resP o (qbn r o)).1)) (entP o (qbn r o))∧RightR (qcz r o (resP o (qbn r o)).1):=by
 have hb:=qbh
 have hw:=fun k hk=>(qj8 hr (k:=k) hk).2
 have hpk:=q4v ho (wOf r) hw
 have hrun:=qbds hr ho
 have hkn:=q8c r o
 have hkd:=qt7 ho
 have hst:=hr.st
 have hl:=hr.len
 have hcond:opOk o=true∧(run (qbn r o) (prog o)).2<0:=⟨ho,by rw[hrun];show (-1:Int)<0;omega⟩
 have hrd:∀ p,p∈path (wOf r) (prog o)→(qbf (qbn r o) p).1=wOf r p:=fun p hp=>by rw[hkn p,z6 hp]
 have hhit:∀ p,0≤p→(hit (qbn r o) p=true↔p∈path (wOf r) (prog o)):=fun p hp=>by rw[q7s hkn hp,z45]
 have hout:=qbwa hr ho
 have hpl:qch o (qbn r o)=((false,resP o (qbn r o),entP o (qbn r o),()),true,()):=by unfold qch;rw[z6 hcond,hnow]
 rw[hpl] at hout
 dsimp only at hout
 obtain ⟨hA,hB⟩:=qbvv ho hw hkn hrun hnow
 by_cases h123:o.1=1∨o.1=2∨o.1=3
 ·obtain ⟨hv,hsub⟩:=qbs4 ho hw hkn hnow h123
  have hne:=qbam ho hnow h123
  have hwr:=(qj8 hr (k:=o.2.1) (by omega)).1
  rw[hv,hwr] at hne
  have hres:resP o (qbn r o)=(0,[],()):=by unfold resP;rw[z5 (by omega),z5 (by omega)]
  rw[hres] at hout ⊢
  obtain ⟨hc,h1,h2⟩:=qb3u hr ho h123 hne rfl hout
  have hm:=qb3d hr ho h123 hc h1 h2
  have haf:qcz r o 0=(r.1.set o.2.1.toNat o.2.2.1,r.2):=by
   unfold qcz
   rw[z5 (by omega)]
   by_cases k12:o.1=1∨o.1=2
   ·rw[z6 k12]
   ·rw[z5 k12,z6 (by omega),show o.2.2.1=0 by omega]
  show Turns _ (wOf (qcz r o 0)) _∧RightR (qcz r o 0)
  rw[haf]
  have h13:val (qbn r o) 13=r.2.1:=hrd 13 hm.s
  have hE:entP o (qbn r o)=(ents (qbn r o) (chgL o.2.1 o.2.2.1 (r.1.getD o.2.1.toNat 0) r.2.1)).foldl insS []:=by
   unfold entP;rw[z6 h123,hv,hwr,h13]
  obtain ⟨_,r2,r3,r4⟩:=q58 (got:=qbn r o) (K:=o.2.1) (V:=o.2.2.1) (held:=r.1.getD o.2.1.toNat 0) (st:=r.2.1) hne
  refine ⟨⟨by rw[hE];exact r2,fun e he=>?_,fun p hp hno=>?_⟩,qbzq hr (by have:=hc.k;omega) hc.z hc.v⟩
  ·rw[hE] at he
   obtain ⟨q,hq,hh,rfl⟩:=(qyl _ _ _).1 ((r3 e).1 he)
   have hp0:=qbe2 hh
   have hqm:=(hhit q.1 hp0).1 hh
   have hn:=qb3n hr hc hm hq hqm hp0
   have:=hrd q.1 hqm
   refine ⟨hp0,hn.1,this,?_⟩
   show q.2 (qbf (qbn r o) q.1).1=_
   rw[this];exact hn.2
  ·have hnp:(p:Int)∉path (wOf r) (prog o):=fun hm=>by
    obtain ⟨e,he,e1,_⟩:=hA _ hm
    exact hno e he e1
   exact (qb0s hr hc hm hp hnp).symm
 ·obtain ⟨_,pl⟩:=qbek ho hnow hcond.2 h123
  have hr1:(run (qbn r o) (prog o)).1=path (wOf r) (prog o):=by rw[hrun]
  rw[hr1] at pl
  have hmem:∀ L:List Int,(path (wOf r) (prog o)).foldl (bub ikey) []=L→∀ p∈L,p∈path (wOf r) (prog o):=by
   intro L hL p hp
   rw[←hL,qbc4] at hp
   rcases hp with h | h
   ·simp at h
   ·exact h
  have hsame:∀ p,p∈path (wOf r) (prog o)→val (qbn r o) p=wOf r p:=hrd
  rcases pl with ⟨k,hp⟩ | ⟨k,hz,hp⟩ | ⟨k,hz,hp⟩ | ⟨k,hp⟩
  ·have m:=hmem _ hp
   have haf:∀ c,qcz r o c=r:=fun c=>qt1 c (by omega)
   rw[haf]
   refine ⟨?_,hr⟩
   have hE:entP o (qbn r o)=[same (qbn r o) 0,same (qbn r o) 1,same (qbn r o) 2,same (qbn r o) 3]:=by unfold entP;rw[z5 h123,z6 k]
   rw[hE]
   refine ⟨by simp[Asc,same],fun e he=>?_,fun p _ _=>rfl⟩
   simp only[z15,z25,or_false] at he
   rcases he with rfl | rfl | rfl | rfl<;>exact ⟨by simp[same],by simp[same],hsame _ (m _ (by simp)),hsame _ (m _ (by simp))⟩
  ·have m:=hmem _ hp
   have h13:=hsame 13 (m _ (by simp))
   have hws:=qni r
   have hst0:r.2.1=0:=by omega
   have hres:resP o (qbn r o)=(0,[],()):=by unfold resP;rw[z5 (by omega),z5 (by omega)]
   have haf:qcz r o 0=(r.1,r.2.1+1,()):=by
    unfold qcz
    rw[z5 (by omega),z5 (by omega),z5 (by omega),z6 (.inl k),qn (by omega) (by omega)]
   rw[hres]
   show Turns _ (wOf (qcz r o 0)) _∧RightR (qcz r o 0)
   rw[haf]
   refine ⟨?_,⟨hl,hr.rng,hr.once,by show 0≤r.2.1+1∧r.2.1+1≤5;omega⟩⟩
   have hE:entP o (qbn r o)=[(13,val (qbn r o) 13,1,())]:=by unfold entP;rw[z5 h123,z5 (by omega),z6 k]
   rw[hE]
   refine ⟨List.pairwise_singleton _ _,fun e he=>?_,fun p hp hno=>?_⟩
   ·simp only[z15,z25,or_false] at he
    subst he
    refine ⟨by simp[same],by simp[same],h13,?_⟩
    show (1:Int)=r.2.1+1
    omega
   ·have h1:=hno _ (z23.2 rfl)
    dsimp only at h1
    exact (qbe7 hr hp (by omega) (fun _=>.inr hst0)).symm
  ·have m:=hmem _ hp
   have h13:=hsame 13 (m _ (by simp))
   have hws:=qni r
   have hres:resP o (qbn r o)=(0,[],()):=by unfold resP;rw[z5 (by omega),z5 (by omega)]
   have haf:qcz r o 0=(r.1,r.2.1+1,()):=by
    unfold qcz
    rw[z5 (by omega),z5 (by omega),z5 (by omega),z6 (.inr k),qn (by omega) (by omega)]
   rw[hres]
   show Turns _ (wOf (qcz r o 0)) _∧RightR (qcz r o 0)
   rw[haf]
   refine ⟨?_,⟨hl,hr.rng,hr.once,by show 0≤r.2.1+1∧r.2.1+1≤5;omega⟩⟩
   have hv13:val (qbn r o) 13=r.2.1:=h13
   have hrow:qp (wrap .i64 (val (qbn r o) 13 - 1))=r.2.1 - 1:=by
    rw[hv13,qn (by omega) (by omega)]
    have:=qmv (r.2.1 - 1);omega
   have hE:entP o (qbn r o)=same (qbn r o) (qp (wrap .i64 (val (qbn r o) 13 - 1)))::(13,val (qbn r o) 13,wrap .i64 (val (qbn r o) 13+1),())::
     (bif inR (val (qbn r o) (qp (wrap .i64 (val (qbn r o) 13 - 1)))) 1 6 then [(qbv (val (qbn r o) (qp (wrap .i64 (val (qbn r o) 13 - 1)))),val (qbn r o) (qbv (val (qbn r o) (qp (wrap .i64 (val (qbn r o) 13 - 1))))),val (qbn r o) 13,())] else []):=by
    unfold entP;rw[z5 h123,z5 (by omega),z5 (by omega),z6 k]
   rw[hE]
   rw[hrow] at m ⊢
   have hvr:=hsame (r.2.1 - 1) (m _ (by simp))
   have hwrow:=qj8 hr (k:=r.2.1 - 1) (by omega)
   rw[hvr,hwrow.1] at m ⊢
   rw[hv13,qn (by omega) (by omega)]
   have hget:r.1[(r.2.1 - 1).toNat]? = some (r.1.getD (r.2.1 - 1).toNat 0):=by rw[z31 (by omega),qx (by omega)]
   have hrg:=hwrow.2
   rw[hwrow.1] at hrg
   generalize r.1.getD (r.2.1 - 1).toNat 0=v at *
   have hx:qdn (r.1,r.2.1+1,()) (r.2.1 - 1).toNat=qdn r (r.2.1 - 1).toNat:=qbe7 hr (by omega) (by omega) (fun q=>by omega)
   by_cases hv1:1≤v
   ·have hin:inR v 1 6=true:=qcc.2 (by omega)
    rw[hin,z21] at m ⊢
    have hvia:qbv v=13+v:=by have:=qgt v;omega
    have hkey:keyF v r.1 0=r.2.1 - 1:=by rw[qbjc hr (by omega) hget];omega
    have hvv:=hsame (qbv v) (m _ (by simp))
    rw[hvia] at hvv ⊢
    have hnew:qdn (r.1,r.2.1+1,()) (13+v).toNat=r.2.1:=by
     unfold qdn
     rw[z5 (by omega),z5 (by omega),z5 (by omega),z5 (by omega),show (((13+v).toNat:Nat):Int) - 13=v by omega]
     unfold viaW
     dsimp only
     rw[hkey,z6 (by omega)];omega
    refine ⟨?_,fun e he=>?_,fun p hp hno=>?_⟩
    ·simp only[Asc,same,List.pairwise_cons,z15,z25,or_false,forall_eq_or_imp,forall_eq,List.Pairwise.nil,and_true,false_implies,implies_true,forall_const]
     omega
    ·simp only[z15,z25,or_false] at he
     rcases he with rfl | rfl | rfl
     ·refine ⟨by show 0≤r.2.1 - 1;omega,by show r.2.1 - 1<20;omega,hvr,?_⟩
      show val (qbn r o) (r.2.1 - 1)=qdn (r.1,r.2.1+1,()) (r.2.1 - 1).toNat
      rw[hx];exact hvr
     ·exact ⟨by simp[same],by simp[same],by show r.2.1=wOf r 13;omega,rfl⟩
     ·exact ⟨by show 0≤13+v;omega,by show 13+v<20;omega,hvv,hnew.symm⟩
    ·have h1:=hno _ (z16 _ z14)
     have h2:=hno _ (z16 _ (z16 _ z14))
     dsimp only at h1 h2
     refine (qbe7 hr hp (by omega) (fun _=>.inl (fun q=>?_))).symm
     obtain ⟨_,g⟩:=q6x _ r.1 0 (r.2.1 - 1).toNat (q.trans (by omega))
     rw[Nat.sub_zero,hget] at g
     have:=Option.some.inj g
     omega
   ·have hin:inR v 1 6=false:=qrt (by omega)
    rw[hin,z20] at m ⊢
    refine ⟨?_,fun e he=>?_,fun p hp hno=>?_⟩
    ·simp only[Asc,same,List.pairwise_cons,z15,z25,or_false,forall_eq_or_imp,forall_eq,List.Pairwise.nil,and_true,false_implies,implies_true,forall_const]
     omega
    ·simp only[z15,z25,or_false] at he
     rcases he with rfl | rfl
     ·refine ⟨by show 0≤r.2.1 - 1;omega,by show r.2.1 - 1<20;omega,hvr,?_⟩
      show val (qbn r o) (r.2.1 - 1)=qdn (r.1,r.2.1+1,()) (r.2.1 - 1).toNat
      rw[hx];exact hvr
     ·exact ⟨by simp[same],by simp[same],by show r.2.1=wOf r 13;omega,rfl⟩
    ·have h1:=hno _ (z16 _ z14)
     dsimp only at h1
     refine (qbe7 hr hp (by omega) (fun _=>.inl (fun q=>?_))).symm
     obtain ⟨_,g⟩:=q6x _ r.1 0 (r.2.1 - 1).toNat (q.trans (by omega))
     rw[Nat.sub_zero,hget] at g
     have:=Option.some.inj g
     omega
  ·have m:=hmem _ hp
   have haf:∀ c,qcz r o c=r:=fun c=>qt1 c (by omega)
   rw[haf]
   refine ⟨?_,hr⟩
   have hE:entP o (qbn r o)=[same (qbn r o) 13,same (qbn r o) (qbv o.2.2.1)]:=by unfold entP;rw[z5 h123,z5 (by omega),z5 (by omega),z5 (by omega),z6 k]
   have hv:qbv o.2.2.1=13+o.2.2.1:=by have:=qgt o.2.2.1;omega
   rw[hE]
   rw[hv] at m ⊢
   refine ⟨by simp[Asc,same];omega,fun e he=>?_,fun p _ _=>rfl⟩
   simp only[z15,z25,or_false] at he
   rcases he with rfl | rfl
   ·exact ⟨by simp[same],by simp[same],hsame _ (m _ (by simp)),hsame _ (m _ (by simp))⟩
   ·exact ⟨by show 0≤13+o.2.2.1;omega,by show 13+o.2.2.1<20;omega,hsame _ (m _ (by simp)),hsame _ (m _ (by simp))⟩
end Go.G

namespace Go.G
set_option maxRecDepth 100000
open Go Go.V Go.Proofs
def valw (got:Got) (p:Int):Int:=(qbf got p).1
def qb0 (got:Got):List Int:=got.map (·.1)
def q79 (got:Got) (o:Op3):Prop:=∃ B,path (valw got) (prog o)=qb0 got++B
def qbaz (got:Got):Prop:=∀ g∈got,0≤g.2.1∧g.2.1≤6
theorem qbxz (q:Int):∀ (a b:Got) (v:Int) (ok:Bool),rd q (a++b) v ok=rd q b (rd q a v ok).1 (rd q a v ok).2
 | [],b,v,ok=>rfl
 | (p,x,_)::a,b,v,ok=>by
  simp only[z40,rd]
  split<;>exact qbxz q a b _ _
theorem qbkk (got:Got) (p v q:Int):qbf (got++[(p,v,())]) q=if p=q then (v,true) else qbf got q:=by
 unfold qbf
 rw[qbxz]
 simp only[rd]
theorem qbla (q:Int):∀ (a:Got) (v:Int) (ok:Bool),q∉qb0 a→rd q a v ok=(v,ok)
 | [],v,ok,_=>rfl
 | (p,x,_)::a,v,ok,h=>by
  simp only[qb0,z28,z15,not_or] at h
  simp only[rd]
  rw[z5 (fun e=>h.1 e.symm)]
  exact qbla q a v ok h.2
theorem q7b (q:Int):∀ (a:Got) (v:Int) (ok:Bool),q∈qb0 a→(rd q a v ok).2=true∧∃ g∈a,g.1=q∧(rd q a v ok).1=g.2.1
 | [],v,ok,h=>by simp[qb0] at h
 | (p,x,u)::a,v,ok,h=>by
  simp only[rd]
  by_cases hq:q∈qb0 a
  ·obtain ⟨h1,g,hg,h2⟩:=q7b q a (if p=q then x else v) (if p=q then true else ok) hq
   have e:(if p=q then rd q a x true else rd q a v ok)=rd q a (if p=q then x else v) (if p=q then true else ok):=by split<;>rfl
   rw[e]
   exact ⟨h1,g,z16 _ hg,h2⟩
  ·have hp:q=p:=by
    simp only[qb0,z28,z15] at h
    exact h.resolve_right hq
   rw[z6 hp.symm,qbla q a x true hq]
   exact ⟨rfl,(p,x,u),z14,hp.symm,rfl⟩
theorem qbem (got:Got):q4i got (valw got) (qb0 got):=by
 intro q
 by_cases h:q∈qb0 got
 ·rw[z6 h]
  exact Prod.ext rfl (q7b q got 0 false h).1
 ·rw[z5 h];exact qbla q got 0 false h
theorem qbvr:∀ {got:Got},(qb0 got).Nodup→∀ {g g':Int×Int×Unit},g∈got→g'∈got→g'.1=g.1→g=g'
 | [],_,g,g',hg,_,_=>by simp at hg
 | a::l,h,g,g',hg,hg',h1=>by
  rw[qb0,z28,List.nodup_cons] at h
  rcases z15.1 hg with rfl | hg2
  ·rcases z15.1 hg' with rfl | hg3
   ·rfl
   ·exact absurd (z37.2 ⟨g',hg3,h1⟩) h.1
  ·rcases z15.1 hg' with rfl | hg3
   ·exact absurd (z37.2 ⟨g,hg2,h1.symm⟩) h.1
   ·exact qbvr h.2 hg2 hg3 h1
theorem qbr7 {got:Got} (h:(qb0 got).Nodup) {g:Int×Int×Unit} (hg:g∈got):valw got g.1=g.2.1:=by
 have hm:g.1∈qb0 got:=z37.2 ⟨g,hg,rfl⟩
 obtain ⟨_,g',hg',h1,h2⟩:=q7b g.1 got 0 false hm
 have e:=qbvr h hg hg' h1
 have e2:valw got g.1=g'.2.1:=h2
 rw[e2,e]
theorem q51 {got:Got} (hg:qbaz got) (p:Int):0≤valw got p∧valw got p≤6:=by
 by_cases h:p∈qb0 got
 ·obtain ⟨_,g,hm,_,e⟩:=q7b p got 0 false h
  have:=hg g hm
  unfold valw qbf
  rw[e];exact this
 ·have:=qbla p got 0 false h
  unfold valw qbf
  rw[this];dsimp only;omega
theorem qba6 {w w':Int→Int}:∀ (A:List Int) (P:PR) (B:List Int),path w P=A++B→(∀ a∈A,w' a=w a)→∃ B',path w' P=A++B'∧B'.head? = B.head?
 | [],.done,B,h,_=>⟨[],rfl,by simp only[path,z46] at h;rw[←h]⟩
 | [],.ask p k,B,h,_=>⟨p::path w' (k (w' p)),rfl,by simp only[path,z46] at h;rw[←h];rfl⟩
 | a::A,.done,B,h,_=>by simp[path] at h
 | a::A,.ask p k,B,h,hw=>by
  simp only[path,z40,z36] at h
  obtain ⟨rfl,h⟩:=h
  obtain ⟨B',h1,h2⟩:=qba6 A (k (w p)) B h fun b hb=>hw b (z16 _ hb)
  exact ⟨B',by simp only[path,z40];rw[hw p z14,h1],h2⟩
section
variable {o:Op3} (ho:opOk o=true) {got:Got} (hg:qbaz got)
include ho hg
theorem qv9 (h:q79 got o):(qb0 got).Nodup∧(∀ p∈qb0 got,0≤p∧p<20)∧got.length≤8:=by
 obtain ⟨B,hB⟩:=h
 have hp:=q4v ho (valw got) (fun k _=>q51 hg k)
 rw[hB] at hp
 refine ⟨(List.nodup_append.1 hp.once).1,fun p h=>hp.rng p (List.mem_append_left _ h),?_⟩
 have:=hp.len
 rw[z19,qb0,z49] at this
 omega
theorem q05 (h:q79 got o):(run got (prog o)).1=qb0 got∧
  ((path (valw got) (prog o)=qb0 got∧(run got (prog o)).2 = -1)∨∃ q B,path (valw got) (prog o)=qb0 got++q::B∧(run got (prog o)).2=q∧(0≤q∧q<20)∧q∉qb0 got∧got.length<8):=by
 obtain ⟨B,hB⟩:=h
 have hp:=q4v ho (valw got) (fun k _=>q51 hg k)
 rw[hB] at hp
 have hn:=List.nodup_append.1 hp.once
 have hr:=qbhw (qbem got) (qb0 got) B (prog o) hB (fun a h=>h) (fun a h=>(hp.rng a h).1) (fun b B' e hb=>hn.2.2 b hb b (by rw[e];exact z14) rfl)
 rw[hr]
 refine ⟨rfl,?_⟩
 cases B with
 | nil=>exact .inl ⟨by rw[hB,z48],rfl⟩
 | cons q B=>
  refine .inr ⟨q,B,hB,rfl,hp.rng q (by simp),fun h=>hn.2.2 q h q z14 rfl,?_⟩
  have:=hp.len
  rw[z19,qb0,z49,z22] at this
  omega
theorem qbws (h:q79 got o) {q:Int} {B:List Int} (hq:path (valw got) (prog o)=qb0 got++q::B) (hn:q∉qb0 got) (v:Int):q79 (got++[(q,v,())]) o:=by
 have hw:∀ a∈qb0 got,valw (got++[(q,v,())]) a=valw got a:=by
  intro a ha
  unfold valw
  rw[qbkk,z5 (fun e:q=a=>hn (by rw[e];exact ha))]
 obtain ⟨B',h1,h2⟩:=qba6 (qb0 got) (prog o) (q::B) hq hw
 cases B' with
 | nil=>simp at h2
 | cons b B'=>
  simp only[List.head?_cons,z4] at h2
  subst h2
  exact ⟨B',by rw[h1];simp[qb0]⟩
end
theorem qbod (o:Op3):q79 [] o:=⟨path (valw []) (prog o),rfl⟩
theorem qbzr {o:Op3} {got:Got} {r:qu} (hn:(qb0 got).Nodup) (hp:path (valw got) (prog o)=qb0 got) (h:∀ g∈got,g.2.1=wOf r g.1):got=qbn r o:=by
 have hw:∀ a∈qb0 got,wOf r a=valw got a:=by
  intro a ha
  obtain ⟨g,hg,rfl⟩:=z37.1 ha
  rw[qbr7 hn hg,h g hg]
 obtain ⟨B',h1,h2⟩:=qba6 (w':=wOf r) (qb0 got) (prog o) [] (by rw[hp,z48]) hw
 have hB:B'=[]:=by cases B' with | nil=>rfl | cons b B'=>simp at h2
 rw[hB,z48] at h1
 unfold qbn
 rw[h1,qb0,List.map_map]
 have:got.map ((fun p=>(p,wOf r p,())) ∘ fun (x:Int×Int×Unit)=>x.1)=got.map id:=by
  apply List.map_congr_left
  intro g hg
  show (g.1,wOf r g.1,())=g
  rw[←h g hg]
 rw[this,List.map_id]
theorem qbsc:∀ (a b:List Int),a.Nodup→(∀ x∈a,x∈b)→b.length≤a.length→∀ x∈b,x∈a
 | [],b,_,_,hl,x,hx=>by
  have:b=[]:=z50.1 (by simpa using hl)
  rw[this] at hx;exact hx
 | a::l,b,hn,hs,hl,x,hx=>by
  rw[List.nodup_cons] at hn
  have hab:=hs a z14
  have hlen:=List.length_erase_of_mem hab
  have hpos:0<b.length:=List.length_pos_of_mem hab
  have:=qbsc l (b.erase a) hn.2 (fun y hy=>(List.mem_erase_of_ne (fun e=>hn.1 (by rw[←e];exact hy))).2 (hs y (z16 _ hy))) (by simp only[z22] at hl;omega)
  by_cases h:x=a
  ·rw[h];exact z14
  ·exact z16 _ (this x ((List.mem_erase_of_ne h).2 hx))
section
variable {o:Op3} (ho:opOk o=true) {got:Got} (hg:qbaz got) (hal:q79 got o) (hp:path (valw got) (prog o)=qb0 got) (hnow:qgj o got=none)
include ho hg hal hp hnow
theorem qbva:Asc (entP o got):=by
 have hpk:=q4v ho (valw got) (fun k _=>q51 hg k)
 have hk:q4i got (valw got) (path (valw got) (prog o)):=by rw[hp];exact qbem got
 have hrun:(run got (prog o)).2 = -1:=by
  rcases (q05 ho hg hal).2 with h | ⟨q,B,h,_⟩
  ·exact h.2
  ·rw[hp] at h;have:=congrArg List.length h;simp at this
 have hvp:∀ p∈path (valw got) (prog o),val got p=valw got p:=fun p hp=>rfl
 unfold entP
 by_cases h123:o.1=1∨o.1=2∨o.1=3
 ·rw[z6 h123]
  obtain ⟨_,r2,_,_⟩:=q58 (got:=got) (K:=o.2.1) (V:=o.2.2.1) (held:=val got (qp o.2.1)) (st:=val got 13) (qbam ho hnow h123)
  exact r2
 rw[z5 h123]
 by_cases k7:o.1=7
 ·rw[z6 k7];simp[Asc,same]
 rw[z5 k7]
 by_cases k8:o.1=8
 ·rw[z6 k8];simp[Asc]
 rw[z5 k8]
 by_cases k9:o.1=9
 ·rw[z6 k9]
  have h1:=qmv (wrap .i64 (val got 13 - 1))
  generalize qp (wrap .i64 (val got 13 - 1))=q at *
  have h2:=qgt (val got q)
  cases hin:inR (val got q) 1 6
  ·simp[Asc,same,cond];omega
  ·have:=qcc.1 hin
   simp only[z21,Asc,same,List.pairwise_cons,z15,z25,or_false,forall_eq_or_imp,forall_eq,List.Pairwise.nil,and_true,false_imp_iff,implies_true]
   omega
 rw[z5 k9]
 by_cases k10:o.1=10
 ·rw[z6 k10]
  have hkd:=qt7 ho
  have h2:=qgt o.2.2.1
  simp only[Asc,same,List.pairwise_cons,z15,z25,or_false,forall_eq_or_imp,forall_eq,List.Pairwise.nil,and_true,false_imp_iff,implies_true]
  omega
 rw[z5 k10]
 exact List.Pairwise.nil
theorem qbm2:(∀ g∈got,∃ e∈entP o got,e.1=g.1∧e.2.1=g.2.1)∧(∀ e∈entP o got,∃ g∈got,g.1=e.1∧g.2.1=e.2.1)∧(entP o got).length=got.length:=by
 have hk:q4i got (valw got) (path (valw got) (prog o)):=by rw[hp];exact qbem got
 have hn:=(qv9 ho hg hal).1
 have hrun:run got (prog o)=(path (valw got) (prog o),-1):=by
  obtain ⟨h1,h2⟩:=q05 ho hg hal
  rcases h2 with h | ⟨q,B,h,_⟩
  ·exact Prod.ext (by rw[h1,hp]) h.2
  ·rw[hp] at h;have:=congrArg List.length h;simp at this
 obtain ⟨hA,hB⟩:=qbvv ho (fun k _=>q51 hg k) hk hrun hnow
 rw[hp] at hA hB
 have hlen:(entP o got).length=got.length:=by rw[hB,qb0,z49]
 have hasc:=qbva ho hg hal hp hnow
 have h1:∀ g∈got,∃ e∈entP o got,e.1=g.1∧e.2.1=g.2.1:=by
  intro g hgm
  obtain ⟨e,he,a,b⟩:=hA g.1 (z37.2 ⟨g,hgm,rfl⟩)
  exact ⟨e,he,a,by rw[b,qbr7 hn hgm]⟩
 refine ⟨h1,?_,hlen⟩
 intro e he
 have hm:e.1∈qb0 got:=by
  refine qbsc (qb0 got) ((entP o got).map (·.1)) hn (fun x hx=>?_) (by rw[z49,hlen,qb0,z49];exact Nat.le_refl _) e.1 (z37.2 ⟨e,he,rfl⟩)
  obtain ⟨g,hgm,rfl⟩:=z37.1 hx
  obtain ⟨e',he',a,_⟩:=h1 g hgm
  exact z37.2 ⟨e',he',a⟩
 obtain ⟨g,hgm,hge⟩:=z37.1 hm
 obtain ⟨e',he',a,b⟩:=h1 g hgm
 have:e'=e:=by
  have hnd:=qboh hasc
  have hinj:∀ (l:List qbe),(l.map (·.1)).Nodup→∀ x∈l,∀ y∈l,x.1=y.1→x=y:=by
   intro l
   induction l with
   | nil=>intro _ x hx;simp at hx
   | cons c l ih=>
    intro hd x hx y hy hxy
    rw[z28,List.nodup_cons] at hd
    rcases z15.1 hx with hx | hx
    ·rcases z15.1 hy with hy | hy
     ·rw[hx,hy]
     ·exact absurd (z37.2 ⟨y,hy,by rw[←hxy,hx]⟩) hd.1
    ·rcases z15.1 hy with hy | hy
     ·exact absurd (z37.2 ⟨x,hx,by rw[hxy,hy]⟩) hd.1
     ·exact ih hd.2 x hx y hy hxy
  exact hinj _ hnd e' he' e he (by rw[a];exact hge)
 rw[this] at b
 exact ⟨g,hgm,hge,b.symm⟩
theorem qbvc:∀ e∈entP o got,(0≤e.1∧e.1<20)∧(0≤e.2.1∧e.2.1≤1000)∧(0≤e.2.2.1∧e.2.2.1≤1000):=by
 intro e he
 obtain ⟨g,hgm,h1,h2⟩:=(qbm2 ho hg hal hp hnow).2.1 e he
 have hr:=(qv9 ho hg hal).2.1 g.1 (z37.2 ⟨g,hgm,rfl⟩)
 have hv:=hg g hgm
 refine ⟨by omega,by omega,?_⟩
 have hval:∀ p,0≤val got p∧val got p≤6:=fun p=>q51 hg p
 have hkd:=qt7 ho
 unfold entP at he
 by_cases h123:o.1=1∨o.1=2∨o.1=3
 ·rw[z6 h123] at he
  obtain ⟨_,_,r3,_⟩:=q58 (got:=got) (K:=o.2.1) (V:=o.2.2.1) (held:=val got (qp o.2.1)) (st:=val got 13) (qbam ho hnow h123)
  rw[r3,qyl] at he
  obtain ⟨q,hq,hh,rfl⟩:=he
  dsimp only
  have hold:=hval q.1
  unfold val at hold
  generalize (qbf got q.1).1=old at *
  have h13:=hval 13
  unfold chgL at hq
  have ho1:0≤one old∧one old≤1000:=by unfold one;rw[qn (by omega) (by omega)];omega
  have ho2:0≤less old∧less old≤1000:=by unfold less;rw[qn (by omega) (by omega)];split<;>omega
  have hk1:wrap .i64 (o.2.1+1)=o.2.1+1:=qn (by omega) (by omega)
  have hkd1:=hkd
  have hc:q=(qp o.2.1,fun _=>o.2.2.1)∨q=(13,fun _=>val got 13)∨q.2=(fun _=>0)∨q.2=(fun _=>wrap .i64 (o.2.1+1))∨q.2=less∨q.2=one:=by
   cases hcc:qg (val got (qp o.2.1)) != qg o.2.2.1
   ·rw[hcc] at hq
    simp only[z20,z48,z15,z25,or_false] at hq
    rcases hq with rfl | rfl | rfl | rfl | rfl | rfl<;>simp
   ·rw[hcc] at hq
    simp only[z21,z40,z46,z15,z25,or_false] at hq
    rcases hq with rfl | rfl | rfl | rfl | rfl | rfl | rfl | rfl<;>simp
  rcases hc with e | e | e | e | e | e
  ·rw[e];show 0≤o.2.2.1∧o.2.2.1≤1000;omega
  ·rw[e];show 0≤val got 13∧val got 13≤1000;omega
  ·rw[e];show (0:Int)≤0∧(0:Int)≤1000;omega
  ·rw[e];show 0≤wrap .i64 (o.2.1+1)∧wrap .i64 (o.2.1+1)≤1000;rw[hk1];omega
  ·rw[e];exact ho2
  ·rw[e];exact ho1
 have hsame:∀ p,0≤(same got p).2.2.1∧(same got p).2.2.1≤1000:=fun p=>by have:=hval p;unfold same;dsimp only;omega
 have h13:=hval 13
 rw[z5 h123] at he
 by_cases k7:o.1=7
 ·rw[z6 k7] at he
  simp only[z15,z25,or_false] at he
  rcases he with rfl | rfl | rfl | rfl<;>exact hsame _
 rw[z5 k7] at he
 by_cases k8:o.1=8
 ·rw[z6 k8] at he
  simp only[z15,z25,or_false] at he
  subst he;dsimp only;omega
 rw[z5 k8] at he
 by_cases k9:o.1=9
 ·rw[z6 k9] at he
  simp only[z15] at he
  rcases he with rfl | rfl | he
  ·exact hsame _
  ·dsimp only;rw[qn (by omega) (by omega)];omega
  ·cases hin:inR (val got (qp (wrap .i64 (val got 13 - 1)))) 1 6
   ·rw[hin] at he;simp at he
   ·rw[hin,z21,z23] at he
    subst he;dsimp only;omega
 rw[z5 k9] at he
 by_cases k10:o.1=10
 ·rw[z6 k10] at he
  simp only[z15,z25,or_false] at he
  rcases he with rfl | rfl<;>exact hsame _
 rw[z5 k10] at he
 simp at he
end
end Go.G


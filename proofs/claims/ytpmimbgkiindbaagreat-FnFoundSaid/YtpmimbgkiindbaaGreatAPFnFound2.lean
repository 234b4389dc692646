import Derived.Test.YtpmimbgkiindbaaGreatAPFnFound1
set_option maxRecDepth 100000
set_option linter.unusedVariables false
set_option linter.unusedSimpArgs false
set_option linter.unusedSectionVars false
open Go.IntKind (wrap)
namespace Go.G
open Go Go.V
theorem aA{R:Type}{a b:Option R}:br true a b=a:=rfl
theorem aJ{R:Type}{a b:Option R}:br false a b=b:=rfl
theorem qf{R:Type}{a b:Option R}{p:Prop}[Decidable p](h:p):br (decide p) a b=a:=by simp[br,h]
theorem qg{R:Type}{a b:Option R}{p:Prop}[Decidable p](h:¬ p):br (decide p) a b=b:=by simp[br,h]
theorem qc{α R:Type}{a:α}{f:α->Option R}:qd (some a) f=f a:=rfl
theorem ai4{R:Type}{c:Bool}{a:Option R}:br c a a=a:=by cases c<;>rfl
theorem rZ{R:Type}{c:Bool}{a b:Option R}:br c a b=if c=true then a else b:=by cases c<;>rfl
theorem aa5(x:Int):wrap .i64 x=if x % 18446744073709551616>=9223372036854775808 then x % 18446744073709551616-18446744073709551616 else x % 18446744073709551616:=by by_cases h:x % 18446744073709551616>=9223372036854775808<;>simp[IntKind.wrap,IntKind.signed,IntKind.bits,h]
theorem qs{x:Int}(h1 : -9223372036854775808<=x)(h2:x<=9223372036854775807):wrap .i64 x=x:=by rw[aa5];split<;>omega
def W:Nat:=9223372036854775808
theorem d7:W=9223372036854775808:=rfl
theorem iG:fY=274877906944:=rfl
theorem ix{α:Type}{l:List α}{i:Nat}(h:i<l.length):(decide (0<=(i:Int))&&decide ((i:Int)<(l.length:Int)))=true:=by simp only[bC,gI];omega
theorem fL{α:Type}{l:List α}{i:Int}(h0:0<=i)(h:i<l.length):(decide (0<=i)&&decide (i<(l.length:Int)))=true:=by simp only[bC,gI];omega
theorem qu{i:Nat}(h:i<9223372036854775807):wrap .i64 ((i:Int)+1)=((i+1:Nat):Int):=by rw[qs]<;>omega
theorem qv{α:Type}{l:List α}{i:Nat}{d:α}(h:i<l.length):l.getD i d=l[i]:=by simp[List.getD,h]
theorem rf{α:Type}{l:List α}{i:Nat}(h:i<l.length):l.drop i=l[i]::l.drop (i+1):=Gm h
theorem rm{α:Type}{l:List α}{i:Nat}(h:¬ i<l.length):l.drop i=[]:=vi (by omega)
def tot:(t:Ty)->t.den->Nat
 | .unit,_=>0
 | .int _,_=>0
 | .bool,_=>0
 | .str,s=>s.size
 | .sl t,xs=>xs.length+(xs.map (tot t)).sum
 | .pair a b,x=>tot a x.1+tot b x.2
def left(t:Ty)(a:t.den)(k:Int):Int:=if (tot t a:Int)<=k then k-tot t a else -1
open Go.Proofs
abbrev Ja:=Int×Int×Unit
abbrev dY:=List Ja
abbrev cL:=Int×Int×Int×Unit
abbrev sw:=dY×List Int×Int×Bool×Unit
abbrev Ux:=dY×Int×Bool×Unit
def bq(x a b:Int):Bool:=bif decide (x>=a) then decide (x<=b) else false
theorem kF{x a b:Int}:bq x a b=true↔a<=x/\x<=b:=by
 unfold bq;by_cases h:x>=a
 .rw[cT h];simp only[bg,gI];omega
 .rw[bJ h];simp only[aW];constructor
  .intro k;cases k
  .intro k;omega
theorem HB{x a b:Int}(h:¬ (a<=x/\x<=b)):bq x a b=false:=by
 cases k:bq x a b
 .rfl
 .exact absurd (kF.1 k) h
def qw(k:Int):Int:=bif bq k 0 3 then k else -1
def q9(v:Int):Int:=bif bq v 1 6 then wrap .i64 (3+v) else -1
def iH(c:Int):Int:=bif bq c 0 2 then wrap .i64 (10+c) else -1
def fM(v:Int):Int:=bif bq v 1 6 then wrap .i64 (13+v) else -1
def qh(v:Int):Int:=bif bq v 1 6 then Int.tmod v 3 else -1
section
variable {X:Ext} (hX:fR X) {n:Nat}
include hX
theorem lN(hn:1<=n)(x a b:Int):lz (DD X n) x a b=some ((bq x a b,()),()):=by
 obtain⟨n,rfl⟩:∃k,n=k+1:=⟨n-1,by omega⟩
 rw[Zs hX];rfl
theorem yw(hn:1<=n)(x a b:Int):lA (DD X n) x a b=some ((bq x a b,()),()):=by
 obtain⟨n,rfl⟩:∃k,n=k+1:=⟨n-1,by omega⟩
 rw[Zv hX];rfl
theorem Ay(hn:1<=n)(b:Bool)(x:Int):IM (DD X n) b x=some ((bif b then x else -1,()),()):=by
 obtain⟨n,rfl⟩:∃k,n=k+1:=⟨n-1,by omega⟩
 rw[ahH hX];cases b<;>rfl
theorem Pk(hn:2<=n)(x:Int):RT (DD X n) x=some ((bq x 0 3,()),()):=by
 obtain⟨n,rfl⟩:∃k,n=k+1:=⟨n-1,by omega⟩
 rw[ait hX];simp only[YD,NC];rw[lN hX (by omega),qc]
theorem Hz(hn:2<=n)(x:Int):zg (DD X n) x=some ((bq x 1 6,()),()):=by
 obtain⟨n,rfl⟩:∃k,n=k+1:=⟨n-1,by omega⟩
 rw[aiw hX];simp only[YG,NF];rw[lN hX (by omega),qc]
theorem Qe(hn:2<=n)(x:Int):T4 (DD X n) x=some ((bq x 0 2,()),()):=by
 obtain⟨n,rfl⟩:∃k,n=k+1:=⟨n-1,by omega⟩
 rw[agB hX];simp only[W6,Nd];rw[lN hX (by omega),qc]
theorem Pm(hn:2<=n)(x:Int):Ul (DD X n) x=some ((bq x 0 3,()),()):=by
 obtain⟨n,rfl⟩:∃k,n=k+1:=⟨n-1,by omega⟩
 rw[ah0 hX];simp only[YR,NR];rw[yw hX (by omega),qc]
theorem I0(hn:2<=n)(x:Int):CH (DD X n) x=some ((bq x 1 6,()),()):=by
 obtain⟨n,rfl⟩:∃k,n=k+1:=⟨n-1,by omega⟩
 rw[ah3 hX];simp only[YU,NK];rw[yw hX (by omega),qc]
theorem K5(hn:2<=n)(x:Int):Um (DD X n) x=some ((bq x 1 4,()),()):=by
 obtain⟨n,rfl⟩:∃k,n=k+1:=⟨n-1,by omega⟩
 rw[aiz hX];simp only[YX,NM];rw[yw hX (by omega),qc]
theorem yp(hn:1<=n)(x:Int):By (DD X n) x=some ((bif bif bif decide (x=1) then true else decide (x=2) then true else decide (x=5) then true else decide (x=10),()),()):=by
 obtain⟨n,rfl⟩:∃k,n=k+1:=⟨n-1,by omega⟩
 rw[aiA hX];rfl
theorem yc(hn:1<=n):tv (DD X n)=some ((13,()),()):=by
 obtain⟨n,rfl⟩:∃k,n=k+1:=⟨n-1,by omega⟩
 rw[agu hX];rfl
theorem N0(hn:1<=n):T7 (DD X n)=some ((13,()),()):=by
 obtain⟨n,rfl⟩:∃k,n=k+1:=⟨n-1,by omega⟩
 rw[agb hX];rfl
theorem yg(hn:3<=n)(x:Int):yb (DD X n) x=some ((qw x,()),()):=by
 obtain⟨n,rfl⟩:∃k,n=k+1:=⟨n-1,by omega⟩
 rw[aiv hX];simp only[YF,ND];rw[Pk hX (by omega),qc,Ay hX (by omega),qc];rfl
theorem CM(hn:3<=n)(x:Int):x_ (DD X n) x=some ((q9 x,()),()):=by
 obtain⟨n,rfl⟩:∃k,n=k+1:=⟨n-1,by omega⟩
 rw[agt hX];simp only[WC,MW];rw[Hz hX (by omega),qc,Ay hX (by omega),qc];rfl
theorem CL(hn:3<=n)(x:Int):x9 (DD X n) x=some ((iH x,()),()):=by
 obtain⟨n,rfl⟩:∃k,n=k+1:=⟨n-1,by omega⟩
 rw[agp hX];simp only[Wx,M_];rw[Qe hX (by omega),qc,Ay hX (by omega),qc];rfl
theorem BF(hn:3<=n)(x:Int):vE (DD X n) x=some ((fM x,()),()):=by
 obtain⟨n,rfl⟩:∃k,n=k+1:=⟨n-1,by omega⟩
 rw[ahX hX];simp only[YO,NG];rw[Hz hX (by omega),qc,yc hX (by omega),qc,Ay hX (by omega),qc];rfl
theorem Ht(hn:3<=n)(x:Int):tr (DD X n) x=some ((qh x,()),()):=by
 obtain⟨n,rfl⟩:∃k,n=k+1:=⟨n-1,by omega⟩
 rw[ago hX];simp only[Ww,M9];rw[Hz hX (by omega),qc];unfold qh;cases bq x 1 6<;>rfl
theorem aam(hn:3<=n)(x:Int):YH (DD X n) x=some ((qw x,()),()):=by
 obtain⟨n,rfl⟩:∃k,n=k+1:=⟨n-1,by omega⟩
 rw[ah2 hX];simp only[YT,NS];rw[Pm hX (by omega),qc];unfold qw;cases bq x 0 3<;>rfl
theorem ZA(hn:3<=n)(x:Int):WN (DD X n) x=some ((q9 x,()),()):=by
 obtain⟨n,rfl⟩:∃k,n=k+1:=⟨n-1,by omega⟩
 rw[af_ hX];simp only[Xb,Nj];rw[I0 hX (by omega),qc];unfold q9;cases bq x 1 6<;>rfl
theorem Zz(hn:3<=n)(x:Int):WL (DD X n) x=some ((iH x,()),()):=by
 obtain⟨n,rfl⟩:∃k,n=k+1:=⟨n-1,by omega⟩
 rw[af8 hX];simp only[W_,Nh];rw[yw hX (by omega),qc];unfold iH;cases bq x 0 2<;>rfl
theorem aan(hn:3<=n)(x:Int):YI (DD X n) x=some ((fM x,()),()):=by
 obtain⟨n,rfl⟩:∃k,n=k+1:=⟨n-1,by omega⟩
 rw[ah4 hX];simp only[YV,NL];rw[I0 hX (by omega),qc,N0 hX (by omega),qc];unfold fM;cases bq x 1 6<;>rfl
theorem Zy(hn:3<=n)(x:Int):WK (DD X n) x=some ((qh x,()),()):=by
 obtain⟨n,rfl⟩:∃k,n=k+1:=⟨n-1,by omega⟩
 rw[af7 hX];simp only[W9,Ng];rw[I0 hX (by omega),qc];unfold qh;cases bq x 1 6<;>rfl
end
def rd(mM:Int):dY->Int->Bool->Int×Bool
 | [],n,ok=>(n,ok)
 | p::l,n,ok=>if p.1=mM then rd mM l p.2.1 true else rd mM l n ok
theorem Gx(mM:Int)(p:Ja):∀(l:dY)(n:Int)(ok:Bool),rd mM (l++[p]) n ok=if p.1=mM then (p.2.1,true) else rd mM l n ok
 | [],n,ok=>by simp only[gJ,rd]
 | q::l,n,ok=>by
  simp only[fJ,rd];by_cases h:q.1=mM
  .rw[aj h,aj h];exact Gx mM p l _ _
  .rw[af h,af h];exact Gx mM p l _ _
def eO(got:dY)(mM:Int):Int×Bool:=rd mM got 0 false
theorem OK(D:Den ctx)(n:Nat)(K0:Int->Bool->Option ((Int×Bool×Unit)×Unit))(K1:Option ((Int×Bool×Unit)×Unit))(hK:K0 0 false=K1)(got:dY)(hg:got.length<=1048576)(mM:Int):∀(m k:Nat),k<=got.length->k<m->
  RX D n K0 K1 m got mM ((k:Int)-1)=K0 (eO (got.take k) mM).1 (eO (got.take k) mM).2
 | 0,_,_,h=>by omega
 | m+1,k,hk,hf=>by
  simp only[RX,YN];cases k with
  | zero=>rw[qg (by omega),Gq];exact hK.symm
  | succ j=>
   have hj:j<got.length:=by omega
   have e1:(((j+1:Nat):Int)-1)=(j:Int):=by omega
   have e2:wrap .i64 ((j:Int)-1)=(j:Int)-1:=qs (by omega) (by omega);rw[e1,qf (by omega),ix hj,aA,aA,dQ,e2,qv hj,mw hj];unfold eO;rw[Gx];by_cases e:got[j].1=mM
   .rw[qf e,aj e]
   .rw[qg e,af e];exact OK D n K0 K1 hK got hg mM m j (by omega) (by omega)
theorem yd{X:Ext}(hX:fR X){n:Nat}(hn:W+1<=n)(got:dY)(hg:got.length<=1048576)(mM:Int):uK (DD X n) got mM=some (((eO got mM).1,(eO got mM).2,()),()):=by
 obtain⟨n,rfl⟩:∃k,n=k+1:=⟨n-1,by omega⟩
 have hW:=d7;rw[Zq hX];simp only[EW,E0,Yl];rw[qs (by omega) (by omega),OK (DD X n) n (fun bN eD=>M0 (DD X n) n bN eD) (M1 (DD X n) n) rfl got hg mM n got.length (b7 _) (by omega),Ag];rfl
structure ako (got:dY) (a:sw) (w:Ux) (k:Nat):Prop where
 g1:a.1=got
 g2:w.1=got
 akA:a.2.2.1=w.2.1
 akB:a.2.2.2.1=w.2.2.1
 pl:a.2.1.length<=k
section
variable {X:Ext} (hX:fR X) {n:Nat} (hn:W+6<=n) {got:dY} (hg:got.length<=1048576)
include hX hn hg
end
theorem P_{X:Ext}(hX:fR X){n:Nat}(hn:1<=n){a:sw}(h:a.2.2.2.1=true)(p:Int):qy (DD X n) a p=some ((0,()),(a,())):=by
 obtain⟨n,rfl⟩:∃k,n=k+1:=⟨n-1,by omega⟩
 rw[qv5 hX];simp only[Rc,TQ];rw[h,aA]
theorem KE{X:Ext}(hX:fR X)(N n:Nat)(hN:3<=N)(K:sw->Option (Unit×sw×Unit))(l:List Int)(hl:l.length<=2){a:sw}(h:a.2.2.2.1=true):∀(m i:Nat),l.length-i<m->
  Hj (DD X N) n K m l (l.length:Int) (i:Int) a=K a
 | 0,_,h=>by omega
 | m+1,i,hf=>by
  simp only[Hj,TJ];by_cases hi:i<l.length
  .rw[qf (by exact_mod_cast hi),ix hi,aA,dQ,BF hX (by omega),qc];dsimp only;rw[P_ hX (by omega) h,qc,qu (by omega)];exact KE hX N n hN K l hl h m (i+1) (by omega)
  .rw[qg (by exact_mod_cast hi)]
section
variable {X:Ext} (hX:fR X) {n:Nat} {got:dY} (hg:got.length<=1048576)
include hX hg
end
section
variable {X:Ext} (hX:fR X) {n:Nat} {got:dY} (hg:got.length<=1048576)
include hX hg
end
def hit(got:dY)(p:Int):Bool:=decide (0<=p)&&(eO got p).2
inductive PR where
 | done
 | ask (p:Int) (k:Int->PR)
def run(got:dY):PR->List Int×Int
 | .done=>([],-1)
 | .ask p k=>bif hit got p then (p::(run got (k (eO got p).1)).1,(run got (k (eO got p).1)).2) else ([],p)
theorem nD{got:dY}{p:Int}{k:Int->PR}(h:hit got p=false):run got (.ask p k)=([],p):=by simp only[run];rw[h];rfl
theorem nE{got:dY}{p:Int}{k:Int->PR}(h:hit got p=true):run got (.ask p k)=(p::(run got (k (eO got p).1)).1,(run got (k (eO got p).1)).2):=by simp only[run];rw[h];rfl
def r_:List Int->PR
 | []=>.done
 | v::l=>.ask (fM v) fun _=>r_ l
def tD(k:Int)(l:List Int):PR:=.ask 13 fun st=>bif decide (st<=wrap .i64 (k+1)) then .done else r_ l
def su(o:cL):PR:=.ask (qw o.2.1) fun r=>bif r != 0 then .done else .ask (q9 o.2.2.1) fun w=>bif w != 0 then .done else .ask (iH (qh o.2.2.1)) fun _=>tD o.2.1 [o.2.2.1]
def sv(o:cL):PR:=.ask (qw o.2.1) fun r=>bif (bif decide (r=0) then true else decide (r=o.2.2.1)) then .done else .ask (q9 o.2.2.1) fun w=>bif w != 0 then .done else .ask (q9 r) fun _=>
 bif qh r != qh o.2.2.1 then .ask (iH (qh r)) fun _=>.ask (iH (qh o.2.2.1)) fun _=>tD o.2.1 [r,o.2.2.1] else tD o.2.1 [r,o.2.2.1]
def uQ(o:cL):PR:=.ask (qw o.2.1) fun r=>bif decide (r=0) then .done else .ask (q9 r) fun _=>.ask (iH (qh r)) fun _=>tD o.2.1 [r]
def ym:PR:=.ask 13 fun st=>bif (bif decide (st<1) then true else decide (st>4)) then .done else .ask (qw (wrap .i64 (st-1))) fun r=>bif !bq r 1 6 then .done else .ask (fM r) fun _=>.done
def vN(o:cL):PR:=.ask 13 fun st=>bif st != 5 then .done else .ask (fM o.2.2.1) fun _=>.done
def BH:PR:=.ask 0 fun _=>.ask 1 fun _=>.ask 2 fun _=>.ask 3 fun _=>.done
def prog(o:cL):PR:=
 if o.1=1 then su o else if o.1=2 then sv o else if o.1=3 then uQ o else
 if o.1=4 then .ask (qw o.2.1) fun _=>.done else if o.1=5 then .ask (q9 o.2.2.1) fun _=>.done else if o.1=6 then .ask (iH o.2.1) fun _=>.done else
 if o.1=7 then BH else if o.1=8 then .ask 13 fun _=>.done else if o.1=9 then ym else if o.1=10 then vN o else .done
section
variable {X:Ext} (hX:fR X) {n:Nat} {got:dY}
include hX
theorem DP(hn:1<=n)(pl:List Int)(m p:Int):qy (DD X n) (got,pl,m,true,()) p=some ((0,()),((got,pl,m,true,()),())):=P_ hX hn rfl p
theorem Cv(hn:1<=n)(pl:List Int)(m:Int)(o b:Bool):tq (DD X n) (got,pl,m,o,()) b=some ((),((got,pl,m,bif o then true else b,()),())):=by
 obtain⟨n,rfl⟩:∃k,n=k+1:=⟨n-1,by omega⟩
 rw[adU hX];rfl
theorem oy(hn:W+2<=n)(hg:got.length<=1048576){pl:List Int}(hl:pl.length<=1000)(m:Int){p:Int}(h:hit got p=true) :
  qy (DD X n) (got,pl,m,false,()) p=some (((eO got p).1,()),((got,pl++[p],m,false,()),())):=by
 obtain⟨n,rfl⟩:∃k,n=k+1:=⟨n-1,by omega⟩
 have hb:=iG;unfold hit at h;simp only[bC,gI]at h;rw[qv5 hX];simp only[Rc,TQ];rw[aJ,yd hX (by omega) got hg,qc];dsimp only;rw[bJ (by omega:¬ p<0),h.2,cE,aW,aJ,qf (by omega)]
theorem ox(hn:W+2<=n)(hg:got.length<=1048576)(pl:List Int)(m:Int){p:Int}(h:hit got p=false) :
  qy (DD X n) (got,pl,m,false,()) p=some ((0,()),((got,pl,p,true,()),())):=by
 obtain⟨n,rfl⟩:∃k,n=k+1:=⟨n-1,by omega⟩
 unfold hit at h;rw[qv5 hX];simp only[Rc,TQ];rw[aJ,yd hX (by omega) got hg,qc];dsimp only;have:(bif decide (p<0) then true else !(eO got p).2)=true:=by
  by_cases h0:p<0
  .rw[cT h0];rfl
  .rw[bJ h0];rw[cT (by omega:0<=p),nR]at h;rw[h];rfl
 rw[this,aA]
theorem Mn(N m0:Nat)(hN:W+4<=N)(hg:got.length<=1048576)(K:sw->Option (Unit×sw×Unit))(l:List Int)(hl:l.length<=2):∀(m i:Nat)(pl:List Int),l.length-i<m->i<=l.length->pl.length<=20+i->
  ∃b,Hj (DD X N) n K m l (l.length:Int) (i:Int) (got,pl,-1,false,())=K (got,pl++(run got (r_ (l.drop i))).1,(run got (r_ (l.drop i))).2,b,())
 | 0,_,_,h,_,_=>by omega
 | m+1,i,pl,hf,hi,hp=>by
  simp only[Hj,TJ];by_cases h:i<l.length
  .rw[qf (by exact_mod_cast h),ix h,aA,dQ,BF hX (by omega),qc,qv h];dsimp only;rw[rf h];simp only[r_];rw[qu (by omega)];cases hh:hit got (fM l[i])
   .rw[ox hX (by omega) hg _ _ hh,qc,nD hh];dsimp only;rw[KE hX N n (by omega) K l hl (by rfl) m (i+1) (by omega)];exact⟨true,by rw[gr]⟩
   .rw[oy hX (by omega) hg (by omega) _ hh,qc,nE hh];dsimp only;obtain⟨b,e⟩:=Mn N m0 hN hg K l hl m (i+1) (pl++[fM l[i]]) (by omega) (by omega) (by rw[cw];simp only[ct,ic];omega);rw[e];exact⟨b,by rw[eu];rfl⟩
  .rw[qg (by exact_mod_cast h),rm h];exact⟨false,by simp only[r_,run];rw[gr]⟩
theorem Bd(hn:W+6<=n)(hg:got.length<=1048576){pl:List Int}(hp:pl.length<=10)(c:Int)(l:List Int)(hl:l.length<=2) :
  ∃b,Hg (DD X n) (got,pl,-1,false,()) c l=some ((),((got,pl++(run got (tD c l)).1,(run got (tD c l)).2,b,()),())):=by
 obtain⟨n,rfl⟩:∃k,n=k+1:=⟨n-1,by omega⟩
 have hW:=d7;rw[q8k hX];simp only[TP,TR,TG];rw[yc hX (by omega),qc];dsimp only;unfold tD;cases h:hit got 13
 .rw[ox hX (by omega) hg _ _ h,qc,nD h];dsimp only;rw[Cv hX (by omega),qc];dsimp only;rw[bg];have e:=KE hX n n (by omega) (fun bN=>Q4 (DD X n) n bN) l hl (a:=(got,pl,13,true,())) rfl n 0 (by omega);rw[show((0:Nat):Int)=0 from rfl]at e;rw[e];exact⟨true,by rw[gr];rfl⟩
 .rw[oy hX (by omega) hg (by omega) _ h,qc,nE h];dsimp only;rw[Cv hX (by omega),qc];dsimp only;rw[aW];cases hs:decide ((eO got 13).1<=wrap .i64 (c+1))
  .rw[aW];obtain⟨b,e⟩:=Mn hX n 0 (by omega) hg (fun bN=>Q4 (DD X n) n bN) l hl n 0 (pl++[13]) (by omega) (by omega) (by rw[cw];simp only[ct,ic];omega);rw[show((0:Nat):Int)=0 from rfl,iD]at e;rw[e];exact⟨b,by rw[eu];rfl⟩
  .rw[bg];have e:=KE hX n n (by omega) (fun bN=>Q4 (DD X n) n bN) l hl (a:=(got,pl++[13],-1,true,())) rfl n 0 (by omega);rw[show((0:Nat):Int)=0 from rfl]at e;rw[e];exact⟨true,rfl⟩
theorem FV(hn:5<=n)(pl:List Int)(m c:Int)(l:List Int)(hl:l.length<=2)(hW2:W+6<=n):Hg (DD X n) (got,pl,m,true,()) c l=some ((),((got,pl,m,true,()),())):=by
 obtain⟨n,rfl⟩:∃k,n=k+1:=⟨n-1,by omega⟩
 have hW:=d7;rw[q8k hX];simp only[TP,TR,TG];rw[yc hX (by omega),qc];dsimp only;rw[DP hX (by omega),qc];dsimp only;rw[Cv hX (by omega),qc];dsimp only;rw[bg];have e:=KE hX n n (by omega) (fun bN=>Q4 (DD X n) n bN) l hl (a:=(got,pl,m,true,())) rfl n 0 (by omega);rw[show((0:Nat):Int)=0 from rfl]at e;rw[e];rfl
end
section
variable {X:Ext} (hX:fR X) {n:Nat} {got:dY}
include hX
theorem abd(hn:W+8<=n)(hg:got.length<=1048576)(K V:Int) :
  ∃b,Q2 (DD X n) (got,[],-1,false,()) (1,K,V,())=some ((),((got,(run got (su (1,K,V,()))).1,(run got (su (1,K,V,()))).2,b,()),())):=by
 obtain⟨n,rfl⟩:∃k,n=k+1:=⟨n-1,by omega⟩
 have hW:=d7;have he:=fun pl m p=>DP hX (n:=n) (got:=got) (by omega) pl m p;have hs:=fun pl m o b=>Cv hX (n:=n) (got:=got) (by omega) pl m o b;have hr:=fun x=>yg hX (n:=n) (by omega) x;have ho:=fun x=>CM hX (n:=n) (by omega) x;have hc:=fun x=>CL hX (n:=n) (by omega) x;have hk:=fun x=>Ht hX (n:=n) (by omega) x;have mE:=fun pl m c l hl=>FV hX (n:=n) (got:=got) (by omega) pl m c l hl (by omega);rw[qqi hX];simp only[Q3,TC];rw[hr,qc];dsimp only;unfold su;dsimp only;cases h1:hit got (qw K)
 .rw[ox hX (by omega) hg _ _ h1,qc,nD h1];dsimp only;rw[qf trivial];simp only[he,hs,ho,hc,hk,qc,bg,mE _ _ _ [V] (by simp)];exact⟨true,rfl⟩
 .rw[oy hX (by omega) hg (by simp) _ h1,qc,nE h1];dsimp only;rw[qf trivial,hs,qc];dsimp only;rw[aW];cases h2:((eO got (qw K)).1 != 0)
  .rw[aW,ho,qc];dsimp only;cases h3:hit got (q9 V)
   .rw[ox hX (by omega) hg _ _ h3,qc,nD h3];simp only[he,hs,ho,hc,hk,qc,bg,mE _ _ _ [V] (by simp)];exact⟨true,rfl⟩
   .rw[oy hX (by omega) hg (by simp) _ h3,qc,nE h3];dsimp only;rw[hs,qc];dsimp only;rw[aW];cases h4:((eO got (q9 V)).1 != 0)
    .rw[aW,hk,qc];dsimp only;rw[hc,qc];dsimp only;cases h5:hit got (iH (qh V))
     .rw[ox hX (by omega) hg _ _ h5,qc,nD h5];simp only[qc,mE _ _ _ [V] (by simp)];exact⟨true,rfl⟩
     .rw[oy hX (by omega) hg (by simp) _ h5,qc,nE h5];dsimp only;obtain⟨b,e⟩:=Bd hX (n:=n) (by omega) hg (pl:=[]++[qw K]++[q9 V]++[iH (qh V)]) (by simp) K [V] (by simp);rw[e,qc];exact⟨b,rfl⟩
    .simp only[he,hs,ho,hc,hk,qc,bg,mE _ _ _ [V] (by simp),run];exact⟨true,rfl⟩
  .simp only[he,hs,ho,hc,hk,qc,bg,mE _ _ _ [V] (by simp),run];exact⟨true,rfl⟩
theorem abe(hn:W+8<=n)(hg:got.length<=1048576)(K V:Int) :
  ∃b,Q2 (DD X n) (got,[],-1,false,()) (2,K,V,())=some ((),((got,(run got (sv (2,K,V,()))).1,(run got (sv (2,K,V,()))).2,b,()),())):=by
 obtain⟨n,rfl⟩:∃k,n=k+1:=⟨n-1,by omega⟩
 have hW:=d7;have he:=fun pl m p=>DP hX (n:=n) (got:=got) (by omega) pl m p;have hs:=fun pl m o b=>Cv hX (n:=n) (got:=got) (by omega) pl m o b;have hr:=fun x=>yg hX (n:=n) (by omega) x;have ho:=fun x=>CM hX (n:=n) (by omega) x;have hc:=fun x=>CL hX (n:=n) (by omega) x;have hk:=fun x=>Ht hX (n:=n) (by omega) x;have mE:=fun pl m c a b=>FV hX (n:=n) (got:=got) (by omega) pl m c [a,b] (by simp) (by omega);have hsame:∀(c:Bool)(x:Option (Unit×sw×Unit)),br c x x=x:=by intro c x;cases c<;>rfl
 rw[qqi hX];simp only[Q3,TC];rw[hr,qc];dsimp only;unfold sv;dsimp only;cases h1:hit got (qw K)
 .rw[ox hX (by omega) hg _ _ h1,qc,nD h1];dsimp only;rw[qg (by decide),qf trivial];simp only[he,hs,ho,hc,hk,qc,bg,mE,hsame];exact⟨true,rfl⟩
 .rw[oy hX (by omega) hg (by simp) _ h1,qc,nE h1];dsimp only;generalize hv:(eO got (qw K)).1=v;rw[qg (by decide),qf trivial,hs,qc];dsimp only;rw[aW];cases h2:(bif decide (v=0) then true else decide (v=V))
  .rw[aW,ho,qc];dsimp only;cases h3:hit got (q9 V)
   .rw[ox hX (by omega) hg _ _ h3,qc,nD h3];simp only[he,hs,ho,hc,hk,qc,bg,mE,hsame];exact⟨true,rfl⟩
   .rw[oy hX (by omega) hg (by simp) _ h3,qc,nE h3];dsimp only;rw[hs,qc];dsimp only;rw[aW];cases h4:((eO got (q9 V)).1 != 0)
    .rw[aW,ho,qc];dsimp only;cases h5:hit got (q9 v)
     .rw[ox hX (by omega) hg _ _ h5,qc,nD h5];simp only[he,hs,ho,hc,hk,qc,bg,mE,hsame];exact⟨true,rfl⟩
     .rw[oy hX (by omega) hg (by simp) _ h5,qc,nE h5,hk,qc,hk,qc];dsimp only;cases h6:(qh v != qh V)
      .rw[aJ,aW];obtain⟨b,e⟩:=Bd hX (n:=n) (by omega) hg (pl:=[]++[qw K]++[q9 V]++[q9 v]) (by simp) K [v,V] (by simp);rw[e,qc];exact⟨b,rfl⟩
      .rw[aA,bg];simp only[qc];rw[hc,qc];dsimp only;cases h7:hit got (iH (qh v))
       .rw[ox hX (by omega) hg _ _ h7,qc,nD h7];simp only[he,hs,ho,hc,hk,qc,bg,mE,hsame];exact⟨true,rfl⟩
       .rw[oy hX (by omega) hg (by simp) _ h7,qc,nE h7];simp only[qc];rw[hc,qc];dsimp only;cases h8:hit got (iH (qh V))
        .rw[ox hX (by omega) hg _ _ h8,qc,nD h8];simp only[he,hs,ho,hc,hk,qc,bg,mE,hsame];exact⟨true,rfl⟩
        .rw[oy hX (by omega) hg (by simp) _ h8,qc,nE h8];dsimp only;obtain⟨b,e⟩:=Bd hX (n:=n) (by omega) hg (pl:=[]++[qw K]++[q9 V]++[q9 v]++[iH (qh v)]++[iH (qh V)]) (by simp) K [v,V] (by simp);rw[e,qc];exact⟨b,rfl⟩
    .simp only[he,hs,ho,hc,hk,qc,bg,mE,run,hsame];exact⟨true,rfl⟩
  .simp only[he,hs,ho,hc,hk,qc,bg,mE,run,hsame];exact⟨true,rfl⟩
theorem aaW(hn:W+8<=n)(hg:got.length<=1048576)(K V:Int) :
  ∃b,Q2 (DD X n) (got,[],-1,false,()) (3,K,V,())=some ((),((got,(run got (uQ (3,K,V,()))).1,(run got (uQ (3,K,V,()))).2,b,()),())):=by
 obtain⟨n,rfl⟩:∃k,n=k+1:=⟨n-1,by omega⟩
 have hW:=d7;have he:=fun pl m p=>DP hX (n:=n) (got:=got) (by omega) pl m p;have hs:=fun pl m o b=>Cv hX (n:=n) (got:=got) (by omega) pl m o b;have hr:=fun x=>yg hX (n:=n) (by omega) x;have ho:=fun x=>CM hX (n:=n) (by omega) x;have hc:=fun x=>CL hX (n:=n) (by omega) x;have hk:=fun x=>Ht hX (n:=n) (by omega) x;have mE:=fun pl m c a=>FV hX (n:=n) (got:=got) (by omega) pl m c [a] (by simp) (by omega);rw[qqi hX];simp only[Q3,TC];rw[hr,qc];dsimp only;unfold uQ;dsimp only;cases h1:hit got (qw K)
 .rw[ox hX (by omega) hg _ _ h1,qc,nD h1];dsimp only;rw[qg (by decide),qg (by decide)];simp only[he,hs,ho,hc,hk,qc,bg,mE];exact⟨true,rfl⟩
 .rw[oy hX (by omega) hg (by simp) _ h1,qc,nE h1];dsimp only;generalize hv:(eO got (qw K)).1=v;rw[qg (by decide),qg (by decide),hs,qc];dsimp only;rw[aW];cases h2:decide (v=0)
  .rw[aW,ho,qc];dsimp only;cases h3:hit got (q9 v)
   .rw[ox hX (by omega) hg _ _ h3,qc,nD h3];simp only[he,hs,ho,hc,hk,qc,bg,mE];exact⟨true,rfl⟩
   .rw[oy hX (by omega) hg (by simp) _ h3,qc,nE h3,hk,qc];dsimp only;rw[hc,qc];dsimp only;cases h5:hit got (iH (qh v))
    .rw[ox hX (by omega) hg _ _ h5,qc,nD h5];simp only[he,hs,ho,hc,hk,qc,bg,mE];exact⟨true,rfl⟩
    .rw[oy hX (by omega) hg (by simp) _ h5,qc,nE h5];dsimp only;obtain⟨b,e⟩:=Bd hX (n:=n) (by omega) hg (pl:=[]++[qw K]++[q9 v]++[iH (qh v)]) (by simp) K [v] (by simp);rw[e,qc];exact⟨b,rfl⟩
  .simp only[he,hs,ho,hc,hk,qc,bg,mE,run];exact⟨true,rfl⟩
end
section
variable {X:Ext} (hX:fR X) {n:Nat} {got:dY}
include hX
theorem AX(hn:W+2<=n)(hg:got.length<=1048576)(p:Int):∃b,qd (qy (DD X n) (got,[],-1,false,()) p) (fun b=>some ((b.2.1,()),())) =
  (some (((got,(run got (.ask p fun _=>.done)).1,(run got (.ask p fun _=>.done)).2,b,()),()),()):Option ((sw×Unit)×Unit)):=by
 cases h:hit got p
 .rw[ox hX hn hg _ _ h,qc,nD h];exact⟨true,rfl⟩
 .rw[oy hX hn hg (by simp) _ h,qc,nE h];exact⟨false,rfl⟩
theorem aaj(hn:W+2<=n)(hn3:3<=n)(hg:got.length<=1048576):∃b,
  qd (tv (DD X n)) (fun b=>
          qd (qy (DD X n) (got,[],-1,false,()) (Prod.fst (Prod.fst b))) fun b=>
           qd
            (tq (DD X n) (Prod.fst (Prod.snd b))
             (bif decide (Prod.fst (Prod.fst b)<1) then true else decide (Prod.fst (Prod.fst b)>4)))
            fun b_1=>
            qd (yb (DD X n) (wrap .i64 (Prod.fst (Prod.fst b)-1))) fun b=>
             qd (qy (DD X n) (Prod.fst (Prod.snd b_1)) (Prod.fst (Prod.fst b))) fun b=>
              qd (zg (DD X n) (Prod.fst (Prod.fst b))) fun b_2=>
               qd (tq (DD X n) (Prod.fst (Prod.snd b)) !Prod.fst (Prod.fst b_2)) fun So=>
                qd (vE (DD X n) (Prod.fst (Prod.fst b))) fun b=>
                 qd (qy (DD X n) (Prod.fst (Prod.snd So)) (Prod.fst (Prod.fst b))) fun b=>
                  some ((Prod.fst (Prod.snd b),()),()))=(some (((got,(run got ym).1,(run got ym).2,b,()),()),()):Option ((sw×Unit)×Unit)):=by
 have he:=fun pl m p=>DP hX (n:=n) (got:=got) (by omega) pl m p;have hs:=fun pl m o b=>Cv hX (n:=n) (got:=got) (by omega) pl m o b;have hr:=fun x=>yg hX (n:=n) (by omega) x;have hv:=fun x=>Hz hX (n:=n) (by omega) x;have hi:=fun x=>BF hX (n:=n) (by omega) x;rw[yc hX (by omega),qc];dsimp only;unfold ym;cases h:hit got 13
 .rw[ox hX hn hg _ _ h,qc,nD h];simp only[he,hs,hr,hv,hi,qc,bg];exact⟨true,rfl⟩
 .rw[oy hX hn hg (by simp) _ h,qc,nE h];dsimp only;generalize (eO got 13).1=st;rw[hs,qc];dsimp only;rw[aW];cases h2:(bif decide (st<1) then true else decide (st>4))
  .rw[aW,hr,qc];dsimp only;cases h3:hit got (qw (wrap .i64 (st-1)))
   .rw[ox hX hn hg _ _ h3,qc,nD h3];simp only[he,hs,hr,hv,hi,qc,bg];exact⟨true,rfl⟩
   .rw[oy hX hn hg (by simp) _ h3,qc,nE h3];dsimp only;generalize (eO got (qw (wrap .i64 (st-1)))).1=r;rw[hv,qc];dsimp only;rw[hs,qc];dsimp only;rw[aW];cases h4:bq r 1 6
    .simp only[he,hs,hr,hv,hi,qc,gf,bg,run];exact⟨true,rfl⟩
    .rw[cE,aW,hi,qc];dsimp only;cases h5:hit got (fM r)
     .rw[ox hX hn hg _ _ h5,qc,nD h5];exact⟨true,rfl⟩
     .rw[oy hX hn hg (by simp) _ h5,qc,nE h5];exact⟨false,rfl⟩
  .simp only[he,hs,hr,hv,hi,qc,bg,run];exact⟨true,rfl⟩
theorem abf(hn:W+2<=n)(hn3:3<=n)(hg:got.length<=1048576)(o:cL):∃b,
  qd (tv (DD X n)) (fun b=>
           qd (qy (DD X n) (got,[],-1,false,()) (Prod.fst (Prod.fst b))) fun b=>
            qd (tq (DD X n) (Prod.fst (Prod.snd b)) (Prod.fst (Prod.fst b) != 5)) fun b=>
             qd (vE (DD X n) o.2.2.1) fun b_1=>
              qd (qy (DD X n) (Prod.fst (Prod.snd b)) (Prod.fst (Prod.fst b_1))) fun b=>some ((Prod.fst (Prod.snd b),()),())) =
  (some (((got,(run got (vN o)).1,(run got (vN o)).2,b,()),()),()):Option ((sw×Unit)×Unit)):=by
 have he:=fun pl m p=>DP hX (n:=n) (got:=got) (by omega) pl m p;have hs:=fun pl m o b=>Cv hX (n:=n) (got:=got) (by omega) pl m o b;have hi:=fun x=>BF hX (n:=n) (by omega) x;rw[yc hX (by omega),qc];dsimp only;unfold vN;cases h:hit got 13
 .rw[ox hX hn hg _ _ h,qc,nD h];simp only[he,hs,hi,qc,bg];exact⟨true,rfl⟩
 .rw[oy hX hn hg (by simp) _ h,qc,nE h];dsimp only;generalize (eO got 13).1=st;rw[hs,qc];dsimp only;rw[aW];cases h2:(st != 5)
  .rw[aW,hi,qc];dsimp only;cases h5:hit got (fM o.2.2.1)
   .rw[ox hX hn hg _ _ h5,qc,nD h5];exact⟨true,rfl⟩
   .rw[oy hX hn hg (by simp) _ h5,qc,nE h5];exact⟨false,rfl⟩
  .simp only[he,hs,hi,qc,bg,run];exact⟨true,rfl⟩
def KL:Nat->Nat->PR
 | _,0=>.done
 | i,d+1=>.ask (i:Int) fun _=>KL (i+1) d
theorem KP(N n:Nat)(hN:3<=N)(K:sw->Option ((sw×Unit)×Unit))(pl:List Int)(m0:Int):∀(m i:Nat),i<=4->4-i<m->CE (DD X N) n K m (i:Int) (got,pl,m0,true,())=K (got,pl,m0,true,())
 | 0,_,_,h=>by omega
 | m+1,i,hi,hf=>by
  simp only[CE,RN];by_cases h:(i:Int)<4
  .rw[qf h,yg hX (by omega),qc];dsimp only;rw[DP hX (by omega),qc,qu (by omega)];exact KP N n hN K pl m0 m (i+1) (by omega) (by omega)
  .rw[qg h]
theorem Ma(N n:Nat)(hN:W+6<=N)(hN3:3<=N)(hg:got.length<=1048576)(K:sw->Option ((sw×Unit)×Unit)):∀(m d i:Nat)(pl:List Int),i+d=4->d<m->pl.length<=i->
  ∃b,CE (DD X N) n K m (i:Int) (got,pl,-1,false,())=K (got,pl++(run got (KL i d)).1,(run got (KL i d)).2,b,())
 | 0,_,_,_,_,h,_=>by omega
 | m+1,0,i,pl,hi,hf,hp=>by
  simp only[CE,RN];rw[qg (by omega)];exact⟨false,by simp only[KL,run];rw[gr]⟩
 | m+1,d+1,i,pl,hi,hf,hp=>by
  simp only[CE,RN];have hr:qw (i:Int)=i:=by unfold qw;rw[kF.2 (by omega)];rfl
  rw[qf (by omega),yg hX (by omega),qc,hr];dsimp only;simp only[KL];rw[qu (by omega)];cases h:hit got (i:Int)
  .rw[ox hX (by omega) hg _ _ h,qc,nD h];dsimp only;rw[KP hX N n hN3 K pl (i:Int) m (i+1) (by omega) (by omega)];exact⟨true,by rw[gr]⟩
  .rw[oy hX (by omega) hg (by omega) _ h,qc,nE h];dsimp only;obtain⟨b,e⟩:=Ma N n hN hN3 hg K m d (i+1) (pl++[(i:Int)]) (by omega) (by omega) (by rw[cw];simp only[ct,ic];omega);rw[e];exact⟨b,by rw[eu];rfl⟩
theorem Qd(hn:W+10<=n)(hg:got.length<=1048576)(o:cL) :
  ∃b,Uj (DD X n) o got=some (((got,(run got (prog o)).1,(run got (prog o)).2,b,()),()),()):=by
 obtain⟨n,rfl⟩:∃k,n=k+1:=⟨n-1,by omega⟩
 have hW:=d7;obtain⟨k,K,V,⟨⟩⟩:=o;rw[ahY hX];simp only[YP,Y1];unfold prog;dsimp only;by_cases k1:k=1
 .subst k1;obtain⟨b,e⟩:=abd hX (n:=n) (by omega) hg K V;rw[qf rfl,qf rfl,e,qc,aj rfl];exact⟨b,rfl⟩
 rw[qg k1,af k1];by_cases k2:k=2
 .subst k2;obtain⟨b,e⟩:=abe hX (n:=n) (by omega) hg K V;rw[qf rfl,qf rfl,e,qc,aj rfl];exact⟨b,rfl⟩
 rw[qg k2,af k2];by_cases k3:k=3
 .subst k3;obtain⟨b,e⟩:=aaW hX (n:=n) (by omega) hg K V;rw[qf rfl,e,qc,aj rfl];exact⟨b,rfl⟩
 rw[qg k3,af k3];by_cases k4:k=4
 .rw[qf k4,aj k4,yg hX (by omega),qc];exact AX hX (by omega) hg _
 rw[qg k4,af k4];by_cases k5:k=5
 .rw[qf k5,aj k5,CM hX (by omega),qc];exact AX hX (by omega) hg _
 rw[qg k5,af k5];by_cases k6:k=6
 .rw[qf k6,aj k6,CL hX (by omega),qc];exact AX hX (by omega) hg _
 rw[qg k6,af k6];by_cases k7:k=7
 .rw[qf k7,aj k7];simp only[Xv];obtain⟨b,e⟩:=Ma hX n n (by omega) (by omega) hg (fun bN=>MN (DD X n) n bN) n 4 0 [] rfl (by omega) (by simp);rw[show((0:Nat):Int)=0 from rfl]at e;rw[e];exact⟨b,rfl⟩
 rw[qg k7,af k7];by_cases k8:k=8
 .rw[qf k8,aj k8,yc hX (by omega),qc];exact AX hX (by omega) hg _
 rw[qg k8,af k8];by_cases k9:k=9
 .rw[qf k9,aj k9];exact aaj hX (by omega) (by omega) hg
 rw[qg k9,af k9];by_cases gO:k=10
 .rw[qf gO,aj gO];exact abf hX (by omega) (by omega) hg (k,K,V,())
 rw[qg gO,af gO];exact⟨false,rfl⟩
end
abbrev eB:=Int×Int×Int×Unit
def ir{α:Type}(key:α->Int):List α->α->List α
 | [],x=>[x]
 | y::rs,x=>if key x<key y then y::ir key rs x else x::y::rs
def jF{α:Type}(key:α->Int)(s:List α)(x:α):List α:=(ir key s.reverse x).reverse
theorem Qa{α:Type}(key:α->Int):∀(rs:List α)(x:α),(ir key rs x).length=rs.length+1
 | [],x=>rfl
 | y::rs,x=>by
  simp only[ir];split
  .simp only[ct,Qa key rs x]
  .simp only[ct]
theorem xC{α:Type}(key:α->Int)(s:List α)(x:α):(jF key s x).length=s.length+1:=by unfold jF;rw[ju,Qa,ju]
theorem Qb{α:Type}(key:α->Int):∀(rs:List α)(x z:α),z∈ir key rs x↔z=x\/z∈rs
 | [],x,z=>by simp[ir]
 | y::rs,x,z=>by
  simp only[ir];split
  .simp only[bk,Qb key rs x z];constructor
   .rintro(h | h | h)
    .exact .inr (.inl h)
    .exact .inl h
    .exact .inr (.inr h)
   .rintro(h | h | h)
    .exact .inr (.inl h)
    .exact .inl h
    .exact .inr (.inr h)
  .simp only[bk]
theorem GC{α:Type}(key:α->Int)(s:List α)(x z:α):z∈jF key s x↔z=x\/z∈s:=by unfold jF;rw[uE,Qb,uE]
theorem LV{α:Type}(key:α->Int)(e:α)(l1:List α)(h1:∀y∈l1,key y<=key e):∀(l2:List α),(∀y∈l2,key e<key y)->jF key (l1++l2.reverse) e=l1++e::l2.reverse
 | [],_=>by
  unfold jF;rw[xW,gr];cases h:l1.reverse with
  | nil=>have:l1=[]:=List.reverse_eq_nil_iff.1 h;subst this;rfl
  | cons y rs=>
   have hy:y∈l1:=by rw[<-uE,h];exact bO
   simp only[ir];rw[af (by have:=h1 y hy;omega)];have:l1=rs.reverse++[y]:=by rw[<-Ad l1,h,n7]
   rw[this];simp
 | y::l2,h2=>by
  have ih:=LV key e l1 h1 l2 (fun z hz=>h2 z (cD _ hz));unfold jF at ih⊢;rw[n7,<-eu,List.reverse_append];show(ir key (y::(l1++l2.reverse).reverse) e).reverse=_;simp only[ir];rw[aj (h2 y bO),n7,ih];simp
theorem AR{α:Type}(l:List α)(x:α)(t:List α)(d:α):(l++x::t).getD l.length d=x:=by simp[List.getD]
theorem AZ{α:Type}(l:List α)(x y:α)(t:List α):(l++x::t).set l.length y=l++y::t:=by simp
abbrev tL:Ty:=Ty.pair (Ty.int IntKind.i64) (Ty.pair (Ty.int IntKind.i64) (Ty.pair (Ty.int IntKind.i64) Ty.unit))
def qG(k:Int):Prop:=-1000<=k/\k<=1000
def jH(e:eB):Int:=e.1
section
variable {X:Ext} (hX:fR X) {n:Nat}
include hX
theorem ajb(hn:1<=n)(a b:eB)(ha:qG a.1)(hb:qG b.1):gl ctx (DD X n) (aZ.mk 183 []) [bt.val tL a,bt.val tL b] (Ty.int IntKind.i64)=some (a.1-b.1):=by
 obtain⟨n,rfl⟩:∃k,n=k+1:=⟨n-1,by omega⟩
 have h:∀D:Den ctx,gl ctx D (aZ.mk 183 []) [bt.val tL a,bt.val tL b] (Ty.int IntKind.i64)=(q7v D a b).bind fun r=>some r.1.1:=fun D=>by kernel_rfl
 unfold qG at ha hb;rw[h,aeo hX];simp only[qvz,q9b,dn];rw[qs (by omega) (by omega)]
theorem abj(hn:1<=n){a b x y:eB}(ha:a=x)(hb:b=y)(hx:qG x.1)(hy:qG y.1):gl ctx (DD X n) (aZ.mk 183 []) [bt.val tL a,bt.val tL b] (Ty.int IntKind.i64)=some (x.1-y.1):=by subst ha;subst hb;exact ajb hX hn a b hx hy
theorem KR(N n:Nat)(hN:1<=N)(K0:Int->Int->Int->List eB->Option (Unit×List eB×Unit))(b i:Int)(x:eB)(hx:qG x.1):∀(m:Nat)(rs t:List eB),rs.length<m->rs.length+t.length<=1000->(∀e∈rs,qG e.1)->
  Iv (DD X N) n (aZ.mk 183 []) K0 m 0 b i (rs.length:Int) (rs.reverse++x::t)=K0 0 b i ((ir jH rs x).reverse++t)
 | 0,_,_,h,_,_=>by omega
 | m+1,[],t,_,_,_=>by
  simp only[Iv,Tc];rw[qg (by simp)];simp[ir]
 | m+1,y::rs,t,hf,hl,hs=>by
  have hy:=hs y bO;have hlen:((y::rs).reverse++x::t).length=rs.length+t.length+2:=by simp;omega
  simp only[ct]at hf hl;have e1:((y::rs).length:Int)=((rs.length+1:Nat):Int):=by simp
  have e2:wrap .i64 (((rs.length+1:Nat):Int)-1)=((rs.length:Nat):Int):=by rw[qs (by omega) (by omega)];omega
  have g1:((y::rs).reverse++x::t).getD (rs.length+1) (0,0,0,())=x:=by have:=AR (y::rs).reverse x t (0,0,0,());rw[ju,ct]at this;exact this
  have g2:((y::rs).reverse++x::t).getD rs.length (0,0,0,())=y:=by have:=AR rs.reverse y (x::t) (0,0,0,());rw[ju]at this;rw[n7,eu];exact this
  have s1:((y::rs).reverse++x::t).set (rs.length+1) y=rs.reverse++y::(y::t):=by have:=AZ (y::rs).reverse x y t;rw[ju,ct]at this;rw[this,n7,eu];rfl
  have s2:(rs.reverse++y::(y::t)).set rs.length x=rs.reverse++x::(y::t):=by have:=AZ rs.reverse y x (y::t);rw[ju]at this;exact this
  simp only[Iv,Tc];rw[e1,e2,qf (by omega),fL (by omega) (by rw[hlen];omega),aA,fL (by omega) (by rw[hlen];omega),aA];simp only[dQ,ck];rw[abj hX hN g1 g2 hx hy,qc,g1,g2,aA,aA,aA,s1,s2];have iw:(rs.reverse++y::(y::t)).length=rs.length+t.length+2:=by simp;omega
  simp only[ir];by_cases hlt:x.1<y.1
  .rw[qf (show x.1-y.1<0 by omega),fL (by omega) (by rw[hlen];omega),aA,aj (show jH x<jH y from hlt)];rw[KR N n hN K0 b i x hx m rs (y::t) (by omega) (by simp only[ct];omega) (fun e he=>hs e (cD _ he))];rw[n7,eu];rfl
  .rw[qg (show ¬ x.1-y.1<0 by omega),af (show ¬ jH x<jH y from hlt)];simp
theorem PO(N:Nat)(hN:1<=N)(hW:2000<=N)(K0:List eB->Option (Unit×List eB×Unit)):∀(rest s:List eB)(m:Nat),rest.length<m->s.length+rest.length<=1000->(∀e∈s,qG e.1)->(∀e∈rest,qG e.1)->
  ze (DD X N) N (aZ.mk 183 []) K0 m 0 ((s.length+rest.length:Nat):Int) (s.length:Int) (s++rest)=K0 (rest.foldl (jF jH) s)
 | [],s,0,h,_,_,_=>by omega
 | _::_,s,0,h,_,_,_=>by omega
 | [],s,m+1,_,_,_,_=>by
  simp only[ze,QX];rw[qg (by simp),gr];rfl
 | x::rest,s,m+1,hf,hl,hs,hr=>by
  simp only[ct]at hf hl;simp only[ze,QX,qd1];rw[qf (by simp only[ct];omega)];have e:=KR hX N N hN (fun bN eD ja jS=>qdp (DD X N) N (aZ.mk 183 []) (ze (DD X N) N (aZ.mk 183 []) K0 m) K0 bN eD ja jS)
   ((s.length+(x::rest).length:Nat):Int) (s.length:Int) x (hr x bO) N s.reverse rest (by rw[ju];omega) (by rw[ju];omega) (fun e he=>hs e (uE.1 he))
  rw[ju,Ad]at e;rw[e];simp only[qdp];rw[qu (by omega)];have e2:=PO N hN hW K0 rest (jF jH s x) m (by omega) (by rw[xC];omega) (fun z hz=>by
   rcases(GC jH s x z).1 hz with h | h
   .subst h;exact hr _ bO
   .exact hs z h) (fun z hz=>hr z (cD _ hz))
  rw[xC]at e2;rw[show s.length+(x::rest).length=s.length+1+rest.length by simp only[ct];omega];exact e2
end
def fC(e:Int):Int:=e
theorem ajo(D:Den ctx)(n:Nat):qZ D n 0=some ((0,()),()):=by kernel_rfl
theorem ajp(D:Den ctx)(n:Nat):qZ D n 1=some ((1,()),()):=by kernel_rfl
theorem ajq(D:Den ctx)(n:Nat):qZ D n 2=some ((2,()),()):=by kernel_rfl
theorem ajr(D:Den ctx)(n:Nat):qZ D n 3=some ((2,()),()):=by kernel_rfl
theorem ajs(D:Den ctx)(n:Nat):qZ D n 4=some ((3,()),()):=by kernel_rfl
theorem ajt(D:Den ctx)(n:Nat):qZ D n 5=some ((3,()),()):=by kernel_rfl
theorem aju(D:Den ctx)(n:Nat):qZ D n 6=some ((3,()),()):=by kernel_rfl
theorem ajv(D:Den ctx)(n:Nat):qZ D n 7=some ((3,()),()):=by kernel_rfl
theorem ajw(D:Den ctx)(n:Nat):qZ D n 8=some ((4,()),()):=by kernel_rfl
theorem ajx(D:Den ctx)(n:Nat):qZ D n 9=some ((4,()),()):=by kernel_rfl
theorem abw(D:Den ctx)(n:Nat):qZ D n 10=some ((4,()),()):=by kernel_rfl
theorem abx(D:Den ctx)(n:Nat):qZ D n 11=some ((4,()),()):=by kernel_rfl
theorem aby(D:Den ctx)(n:Nat):qZ D n 12=some ((4,()),()):=by kernel_rfl
section
variable {X:Ext} (hX:fR X) {n:Nat}
include hX
theorem ajU(hn:2<=n)(a b:Int):xZ (DD X n) a b=some ((decide (a<b),()),()):=by
 obtain⟨n,rfl⟩:∃k,n=k+2:=⟨n-2,by omega⟩
 rw[agl hX];simp only[WS,M7];rw[afj hX];simp only[qxv,MG,qc];rw[show(a != a)=false by simp,aJ];rfl
theorem KS(N n:Nat)(hN:2<=N)(K0:Int->Int->Int->List Int->Option (Unit×List Int×Unit))(b i:Int)(x:Int)(hx:qG x):∀(m:Nat)(rs t:List Int),rs.length<m->rs.length+t.length<=1000->(∀e∈rs,qG e)->
  IB (DD X N) n K0 m 0 b i (rs.length:Int) (rs.reverse++x::t)=K0 0 b i ((ir fC rs x).reverse++t)
 | 0,_,_,h,_,_=>by omega
 | m+1,[],t,_,_,_=>by
  simp only[IB,Tm];rw[qg (by simp)];simp[ir]
 | m+1,y::rs,t,hf,hl,hs=>by
  have hy:=hs y bO;have hlen:((y::rs).reverse++x::t).length=rs.length+t.length+2:=by simp;omega
  simp only[ct]at hf hl;have e1:((y::rs).length:Int)=((rs.length+1:Nat):Int):=by simp
  have e2:wrap .i64 (((rs.length+1:Nat):Int)-1)=((rs.length:Nat):Int):=by rw[qs (by omega) (by omega)];omega
  have g1:((y::rs).reverse++x::t).getD (rs.length+1) 0=x:=by have:=AR (y::rs).reverse x t 0;rw[ju,ct]at this;exact this
  have g2:((y::rs).reverse++x::t).getD rs.length 0=y:=by have:=AR rs.reverse y (x::t) 0;rw[ju]at this;rw[n7,eu];exact this
  have s1:((y::rs).reverse++x::t).set (rs.length+1) y=rs.reverse++y::(y::t):=by have:=AZ (y::rs).reverse x y t;rw[ju,ct]at this;rw[this,n7,eu];rfl
  have s2:(rs.reverse++y::(y::t)).set rs.length x=rs.reverse++x::(y::t):=by have:=AZ rs.reverse y x (y::t);rw[ju]at this;exact this
  simp only[IB,Tm];rw[e1,e2,qf (by omega),fL (by omega) (by rw[hlen];omega),aA,fL (by omega) (by rw[hlen];omega),aA];simp only[dQ,ck];rw[g1,g2,ajU hX hN,qc];dsimp only;rw[aA,aA,aA,s1,s2];have iw:(rs.reverse++y::(y::t)).length=rs.length+t.length+2:=by simp;omega
  simp only[ir];by_cases hlt:x<y
  .rw[qf (show x<y from hlt),fL (by omega) (by rw[hlen];omega),aA,aj (show fC x<fC y from hlt)];rw[KS N n hN K0 b i x hx m rs (y::t) (by omega) (by simp only[ct];omega) (fun e he=>hs e (cD _ he))];rw[n7,eu];rfl
  .rw[qg (show ¬ x<y from hlt),af (show ¬ fC x<fC y from hlt)];simp
theorem PS(N:Nat)(hN:2<=N)(hW:2000<=N)(K0:List Int->Option (Unit×List Int×Unit)):∀(rest s:List Int)(m:Nat),rest.length<m->s.length+rest.length<=1000->(∀e∈s,qG e)->(∀e∈rest,qG e)->
  zf (DD X N) N K0 m 0 ((s.length+rest.length:Nat):Int) (s.length:Int) (s++rest)=K0 (rest.foldl (jF fC) s)
 | [],s,0,h,_,_,_=>by omega
 | _::_,s,0,h,_,_,_=>by omega
 | [],s,m+1,_,_,_,_=>by
  simp only[zf,QJ];rw[qg (by simp),gr];rfl
 | x::rest,s,m+1,hf,hl,hs,hr=>by
  simp only[ct]at hf hl;simp only[zf,QJ,qf9];rw[qf (by simp only[ct];omega)];have e:=KS hX N N hN (fun bN eD ja jS=>qf0 (DD X N) N (zf (DD X N) N K0 m) K0 bN eD ja jS)
   ((s.length+(x::rest).length:Nat):Int) (s.length:Int) x (hr x bO) N s.reverse rest (by rw[ju];omega) (by rw[ju];omega) (fun e he=>hs e (uE.1 he))
  rw[ju,Ad]at e;rw[e];simp only[qf0];rw[qu (by omega)];have e2:=PS N hN hW K0 rest (jF fC s x) m (by omega) (by rw[xC];omega) (fun z hz=>by
   rcases(GC fC s x z).1 hz with h | h
   .subst h;exact hr _ bO
   .exact hs z h) (fun z hz=>hr z (cD _ hz))
  rw[xC]at e2;rw[show s.length+(x::rest).length=s.length+1+rest.length by simp only[ct];omega];exact e2
theorem Mu(hn:2<=n)(k:Nat)(hk:k<=12):∃v,TX (DD X n) (IntKind.wrap IntKind.u64 (k:Int))=some ((v,()),()):=by
 obtain⟨n,rfl⟩:∃k,n=k+2:=⟨n-2,by omega⟩
 have hw:IntKind.wrap IntKind.u64 (k:Int)=(k:Int):=by
  have:∀j:Fin 13,IntKind.wrap IntKind.u64 ((j:Nat):Int)=((j:Nat):Int):=by decide +kernel
  exact this ⟨k,by omega⟩
 rw[hw,aeX hX];simp only[qxz,MP];rw[adW hX];have key:∃v,qZ (DD X n) n (k:Int)=some ((v,()),()):=by
  match k,hk with
  | 0,_=>exact⟨_,ajo _ _⟩
  | 1,_=>exact⟨_,ajp _ _⟩
  | 2,_=>exact⟨_,ajq _ _⟩
  | 3,_=>exact⟨_,ajr _ _⟩
  | 4,_=>exact⟨_,ajs _ _⟩
  | 5,_=>exact⟨_,ajt _ _⟩
  | 6,_=>exact⟨_,aju _ _⟩
  | 7,_=>exact⟨_,ajv _ _⟩
  | 8,_=>exact⟨_,ajw _ _⟩
  | 9,_=>exact⟨_,ajx _ _⟩
  | 10,_=>exact⟨_,abw _ _⟩
  | 11,_=>exact⟨_,abx _ _⟩
  | 12,_=>exact⟨_,aby _ _⟩
  | k+13,h=>omega
 obtain⟨v,e⟩:=key;rw[e,qc];exact⟨v,rfl⟩
theorem ai9(hn:W+6<=n)(l:List Int)(hl:l.length<=12)(hs:∀e∈l,qG e):Tu (DD X n) l=some ((),l.foldl (jF fC) [],()):=by
 obtain⟨n,rfl⟩:∃k,n=k+3:=⟨n-3,by omega⟩
 have hW:=d7;rw[ab7 hX];simp only[qnj,qxd];obtain⟨v,e⟩:=Mu hX (n:=n+2) (by omega) l.length hl;rw[e,qc];dsimp only;rw[q3r hX];simp only[qjo,qjy,qij];rw[show n+1=n+1 from rfl];simp only[Tp,qi7];rw[qs (by omega) (by omega),qf (by omega),qvd hX];simp only[qgy,qg3,qf8];rw[show wrap .i64 (0+1)=((1:Nat):Int) by decide +kernel];cases l with
 | nil=>
  obtain⟨n,rfl⟩:∃k,n=k+1:=⟨n-1,by omega⟩
  simp only[zf,QJ];rw[qg (by simp)];rfl
 | cons x l=>have:=PS hX n (by omega) (by omega) (fun bN=>qjx (DD X n) n bN) l [x] n (by simp only[ct]at hl;omega) (by simp only[ct,ic]at hl⊢;omega) (fun e he=>hs e (by simp only[er]at he;subst he;exact bO)) (fun e he=>hs e (cD _ he));simp only[ct,ic,jx,PX]at this⊢;rw[show l.length+1=1+l.length by omega,this];rfl
theorem ai8(hn:W+6<=n)(l:List eB)(hl:l.length<=12)(hs:∀e∈l,qG e.1):Tg (DD X n) l (aZ.mk 183 [])=some ((),l.foldl (jF jH) [],()):=by
 obtain⟨n,rfl⟩:∃k,n=k+3:=⟨n-3,by omega⟩
 have hW:=d7;rw[qpm hX];simp only[qex,qii];obtain⟨v,e⟩:=Mu hX (n:=n+2) (by omega) l.length hl;rw[e,qc];dsimp only;rw[qug hX];simp only[qgn,qgr,qf1];simp only[Tl,qgb];rw[qs (by omega) (by omega),qf (by omega),qos hX];simp only[qem,qet,qd0];rw[show wrap .i64 (0+1)=((1:Nat):Int) by decide +kernel];cases l with
 | nil=>
  obtain⟨n,rfl⟩:∃k,n=k+1:=⟨n-1,by omega⟩
  simp only[ze,QX];rw[qg (by simp)];rfl
 | cons x l=>have:=PO hX n (by omega) (by omega) (fun bN=>qg7 (DD X n) n (aZ.mk 183 []) bN) l [x] n (by simp only[ct]at hl;omega) (by simp only[ct,ic]at hl⊢;omega) (fun e he=>hs e (by simp only[er]at he;subst he;exact bO)) (fun e he=>hs e (cD _ he));simp only[ct,ic,jx,PX]at this⊢;rw[show l.length+1=1+l.length by omega,this];rfl
end
def iF(got:dY)(p:Int)(f:Int->Int):List eB:=bif hit got p then [(p,(eO got p).1,f (eO got p).1,())] else []
theorem xF{got:dY}{p:Int}(h:hit got p=true)(f:Int->Int):iF got p f=[(p,(eO got p).1,f (eO got p).1,())]:=by unfold iF;rw[h];rfl
theorem AB{got:dY}{p:Int}(h:hit got p=false)(f:Int->Int):iF got p f=[]:=by unfold iF;rw[h];rfl
theorem BM(got:dY)(p:Int)(f:Int->Int):(iF got p f).length<=1:=by unfold iF;cases hit got p<;>simp
def one(v:Int):Int:=wrap .i64 (v+1)
def less(v:Int):Int:=if wrap .i64 (v-1)>0 then wrap .i64 (v-1) else 0
def gU(l:List eB)(e:eB):List eB:=l.takeWhile (fun y=>decide (y.1<e.1))++e::l.dropWhile (fun y=>decide (y.1<e.1))
theorem Qx(l:List eB)(e:eB):(gU l e).length=l.length+1:=by unfold gU;have:=eM List.length (Gl (p:=fun y:eB=>decide (y.1<e.1)) (l:=l));rw[cw]at this⊢;rw[ct];omega
theorem GJ(got:dY)(p:Int):(bif decide (p<0) then true else !(eO got p).2)=!hit got p:=by
 unfold hit;by_cases h:p<0
 .rw[cT h,bJ (by omega:¬ 0<=p)];rfl
 .rw[bJ h,cT (by omega:0<=p)];rfl
section
variable {X:Ext} (hX:fR X) {n:Nat} {got:dY}
include hX
theorem uv(hn:W+2<=n)(hg:got.length<=1048576){out:List eB}(ho:out.length<=100)(p to:Int):vB (DD X n) p to 0 got out=some ((),(out++iF got p (fun _=>to)),()):=by
 obtain⟨n,rfl⟩:∃k,n=k+1:=⟨n-1,by omega⟩
 have hb:=iG;rw[qv6 hX];simp only[Rd,TS];rw[yd hX (by omega) got hg,qc];dsimp only;rw[GJ];cases h:hit got p
 .rw[gf,aA,AB h,gr]
 .rw[cE,aJ,qg (by decide),qg (by decide),qf (by omega),xF h]
theorem ajW(hn:W+2<=n)(hg:got.length<=1048576){out:List eB}(ho:out.length<=100)(p to:Int):vB (DD X n) p to 1 got out=some ((),(out++iF got p one),()):=by
 obtain⟨n,rfl⟩:∃k,n=k+1:=⟨n-1,by omega⟩
 have hb:=iG;rw[qv6 hX];simp only[Rd,TS];rw[yd hX (by omega) got hg,qc];dsimp only;rw[GJ];cases h:hit got p
 .rw[gf,aA,AB h,gr]
 .rw[cE,aJ,qf trivial,qf (by omega),xF h];rfl
theorem ajX(hn:W+2<=n)(hg:got.length<=1048576){out:List eB}(ho:out.length<=100)(p to:Int):vB (DD X n) p to (-1) got out=some ((),(out++iF got p less),()):=by
 obtain⟨n,rfl⟩:∃k,n=k+1:=⟨n-1,by omega⟩
 have hb:=iG;rw[qv6 hX];simp only[Rd,TS];rw[yd hX (by omega) got hg,qc];dsimp only;rw[GJ];cases h:hit got p
 .rw[gf,aA,AB h,gr]
 .rw[cE,aJ,qg (by decide),qf trivial,qf (by omega),xF h];rfl
end
theorem uW(k:Int):((0<=k/\k<=3)/\qw k=k)\/(¬ (0<=k/\k<=3)/\qw k = -1):=by
 unfold qw;by_cases h:0<=k/\k<=3
 .rw[kF.2 h];exact .inl ⟨h,rfl⟩
 .rw[HB h];exact .inr ⟨h,rfl⟩
theorem uN(v:Int):((1<=v/\v<=6)/\q9 v=3+v)\/(¬ (1<=v/\v<=6)/\q9 v = -1):=by
 unfold q9;by_cases h:1<=v/\v<=6
 .rw[kF.2 h,bg,qs (by omega) (by omega)];exact .inl ⟨h,rfl⟩
 .rw[HB h];exact .inr ⟨h,rfl⟩
theorem oC(v:Int):((1<=v/\v<=6)/\fM v=13+v)\/(¬ (1<=v/\v<=6)/\fM v = -1):=by
 unfold fM;by_cases h:1<=v/\v<=6
 .rw[kF.2 h,bg,qs (by omega) (by omega)];exact .inl ⟨h,rfl⟩
 .rw[HB h];exact .inr ⟨h,rfl⟩
theorem uM(c:Int):((0<=c/\c<=2)/\iH c=10+c)\/(¬ (0<=c/\c<=2)/\iH c = -1):=by
 unfold iH;by_cases h:0<=c/\c<=2
 .rw[kF.2 h,bg,qs (by omega) (by omega)];exact .inl ⟨h,rfl⟩
 .rw[HB h];exact .inr ⟨h,rfl⟩
theorem yl(v:Int):((1<=v/\v<=6)/\0<=qh v/\qh v<=2)\/(¬ (1<=v/\v<=6)/\qh v = -1):=by
 unfold qh;by_cases h:1<=v/\v<=6
 .rw[kF.2 h,bg,FP (by omega)];exact .inl ⟨h,EB _ (by omega),by have:=Ep v (show(0:Int)<3 by omega);omega⟩
 .rw[HB h];exact .inr ⟨h,rfl⟩
def lH(l:List eB):Prop:=l.Pairwise fun a b=>a.1<b.1
theorem GF(p:Int):∀(l:List eB),lH l->∀y∈l.dropWhile (fun y=>decide (y.1<p)),p<=y.1
 | [],_,y,h=>by simp at h
 | x::l,hs,y,h=>by
  have lZ:=kS.1 hs;by_cases hx:x.1<p
  .rw[List.dropWhile_cons_of_pos (by exact cT hx)]at h;exact GF p l lZ.2 y h
  .rw[List.dropWhile_cons_of_neg (by simpa using hx)]at h;rcases bk.1 h with h | h
   .subst h;omega
   .have:=lZ.1 y h;omega
theorem GO(p:Int):∀(l:List eB),∀y∈l.takeWhile (fun y=>decide (y.1<p)),y.1<p
 | [],y,h=>by simp at h
 | x::l,y,h=>by
  by_cases hx:x.1<p
  .rw[List.takeWhile_cons_of_pos (by exact cT hx)]at h;rcases bk.1 h with h | h
   .subst h;exact hx
   .exact GO p l y h
  .rw[List.takeWhile_cons_of_neg (by simpa using hx)]at h;simp at h
theorem Qy(l:List eB)(e z:eB):z∈gU l e↔z=e\/z∈l:=by
 unfold gU;have h:z∈l↔z∈l.takeWhile (fun y=>decide (y.1<e.1))\/z∈l.dropWhile (fun y=>decide (y.1<e.1)):=by rw[<-bL,Gl]
 rw[bL,bk,h];constructor
 .rintro(h | h | h)
  .exact .inr (.inl h)
  .exact .inl h
  .exact .inr (.inr h)
 .rintro(h | h | h)
  .exact .inr (.inl h)
  .exact .inl h
  .exact .inr (.inr h)
theorem abu{l:List eB}(hs:lH l){e:eB}(he:∀y∈l,y.1≠e.1):lH (gU l e):=by
 unfold gU;have hd:∀y∈l.dropWhile (fun y=>decide (y.1<e.1)),e.1<y.1:=fun y hy=>by
  have h1:=GF e.1 l hs y hy;have h2:=he y (Gn _ |>.mem hy);omega
 have ht:=GO e.1 l;refine xB.2 ⟨hs.sublist (List.takeWhile_sublist _),kS.2 ⟨hd,hs.sublist (Gn _)⟩,fun a ha b hb=>?_⟩;have h1:=ht a ha;rcases bk.1 hb with h | h
 .subst h;exact h1
 .have:=hd b h;omega
theorem ai5{l:List eB}(hs:lH l){e:eB}(he:∀y∈l,y.1≠e.1):jF jH l e=gU l e:=by
 have hd:∀y∈l.dropWhile (fun y=>decide (y.1<e.1)),e.1<y.1:=fun y hy=>by
  have h1:=GF e.1 l hs y hy;have h2:=he y (Gn _ |>.mem hy);omega
 have ht:=GO e.1 l;have:=LV jH e (l.takeWhile (fun y=>decide (y.1<e.1))) (fun y hy=>by have:=ht y hy;unfold jH;omega) (l.dropWhile (fun y=>decide (y.1<e.1))).reverse (fun y hy=>hd y (uE.1 hy));rw[Ad,Gl]at this;rw[this];rfl
def Ei(l:List eB):Prop:=l.Pairwise fun a b=>a.1≠b.1
theorem P9:∀(L acc:List eB),lH acc->Ei L->(∀a∈acc,∀e∈L,a.1≠e.1)->L.foldl (jF jH) acc=L.foldl gU acc/\lH (L.foldl gU acc)/\(∀z,z∈L.foldl gU acc↔z∈acc\/z∈L)/\(L.foldl gU acc).length=acc.length+L.length
 | [],acc,h,_,_=>⟨rfl,h,fun z=>by simp,rfl⟩
 | e::L,acc,h,hL,hx=>by
  have hL2:=kS.1 hL;have he:∀y∈acc,y.1≠e.1:=fun y hy=>hx y hy e bO;simp only[mA];rw[ai5 h he];obtain⟨r1,r2,r3,r4⟩:=P9 L (gU acc e) (abu h he) hL2.2 (fun a ha b hb=>by
   rcases(Qy acc e a).1 ha with q | q
   .subst q;exact hL2.1 b hb
   .exact hx a q b (cD _ hb))
  refine⟨r1,r2,fun z=>?_,by rw[r4,Qx,ct];omega⟩;rw[r3 z,Qy,bk];constructor
  .rintro((h | h) | h)
   .exact .inr (.inl h)
   .exact .inl h
   .exact .inr (.inr h)
  .rintro(h | h | h)
   .exact .inl (.inr h)
   .exact .inl (.inl h)
   .exact .inr h
theorem O6:∀(L acc:List eB),(L.foldl gU acc).length=acc.length+L.length
 | [],acc=>rfl
 | e::L,acc=>by rw[mA,O6 L,Qx,ct];omega
abbrev Want:=Int×(Int->Int)
def g_(got:dY)(L:List Want):List eB:=L.flatMap fun p=>iF got p.1 p.2
theorem F_(got:dY):∀(L:List Want),(g_ got L).length<=L.length
 | []=>b7 _
 | p::L=>by
  have h1:=BM got p.1 p.2;have h2:=F_ got L;show((p::L).flatMap _).length<=_;rw[Ae,cw,ct];have:(L.flatMap fun p=>iF got p.1 p.2).length<=L.length:=h2;omega
theorem Ig(got:dY)(L:List Want)(e:eB):e∈g_ got L↔∃p∈L,hit got p.1=true/\e=(p.1,(eO got p.1).1,p.2 (eO got p.1).1,()):=by
 unfold g_;rw[List.mem_flatMap];constructor
 .rintro⟨p,hp,he⟩;refine⟨p,hp,?_⟩;unfold iF at he;cases h:hit got p.1
  .rw[h]at he;simp at he
  .rw[h]at he;simp only[bg,er]at he;exact⟨rfl,he⟩
 .rintro⟨p,hp,h,rfl⟩;exact⟨p,hp,by rw[xF h];exact er.2 rfl⟩
theorem AS{got:dY}{p:Int}(h:hit got p=true):0<=p:=by unfold hit at h;simp only[bC,gI]at h;exact h.1
theorem OF(got:dY):∀(L:List Want),(L.Pairwise fun p q=>0<=p.1->p.1≠q.1)->Ei (g_ got L)
 | [],_=>List.Pairwise.nil
 | p::L,h=>by
  have h2:=kS.1 h;have ih:=OF got L h2.2;show Ei ((p::L).flatMap _);rw[Ae];cases hh:hit got p.1
  .rw[AB hh];exact ih
  .rw[xF hh];refine kS.2 ⟨fun e he=>?_,ih⟩;obtain⟨q,hq,_,rfl⟩:=(Ig got L e).1 he;exact h2.1 q hq (AS hh)
theorem ZS(got:dY)(L:List Want)(h:∀p∈L,p.1<=19):∀e∈g_ got L,qG e.1:=by intro e he;obtain⟨p,hp,hh,rfl⟩:=(Ig got L e).1 he;have h1:=AS hh;have h2:=h p hp;exact⟨by show -1000<=p.1;omega,by show p.1<=1000;omega⟩
def eX(K V held st:Int):List Want:=
 [(qw K,fun _=>V),(13,fun _=>st),(q9 held,fun _=>0),(fM held,fun _=>0),(q9 V,fun _=>wrap .i64 (K+1)),(fM V,fun _=>wrap .i64 (K+1))]++
  (bif qh held != qh V then [(iH (qh held),less),(iH (qh V),one)] else [])
theorem Qi(K V held st:Int):(eX K V held st).length<=8:=by unfold eX;cases qh held != qh V<;>simp
theorem Li(K V held st:Int):∀p∈eX K V held st,p.1<=19:=by
 have h1:=uW K;have h2:=uN held;have h3:=uN V;have h4:=oC held;have h5:=oC V;have h6:=uM (qh held);have h7:=uM (qh V);unfold eX;cases qh held != qh V
 .intro p hp;simp only[aW,gr,bk,c_,dg]at hp;rcases hp with rfl | rfl | rfl | rfl | rfl | rfl<;>dsimp only<;>omega
 .intro p hp;simp only[bg,fJ,gJ,bk,c_,dg]at hp;rcases hp with rfl | rfl | rfl | rfl | rfl | rfl | rfl | rfl<;>dsimp only<;>omega
theorem ZO{K V held st:Int}(hv:1<=held/\held<=6->held≠V):(eX K V held st).Pairwise fun p q=>0<=p.1->p.1≠q.1:=by
 have h1:=uW K;have h2:=uN held;have h3:=uN V;have h4:=oC held;have h5:=oC V;have h6:=uM (qh held);have h7:=uM (qh V);unfold eX;cases hc:qh held != qh V
 .simp only[aW,gr,kS,bk,c_,dg,uF,ur,List.Pairwise.nil,gM,Bx,uq,Ai];refine⟨⟨?_,?_,?_,?_,?_⟩,⟨?_,?_,?_,?_⟩,⟨?_,?_,?_⟩,⟨?_,?_⟩,?_⟩<;>omega
 .have hne:qh held≠qh V:=by simpa using hc
  simp only[bg,fJ,gJ,kS,bk,c_,dg,uF,ur,List.Pairwise.nil,gM,Bx,uq,Ai];refine⟨⟨?_,?_,?_,?_,?_,?_,?_⟩,⟨?_,?_,?_,?_,?_,?_⟩,⟨?_,?_,?_,?_,?_⟩,⟨?_,?_,?_,?_⟩,⟨?_,?_,?_⟩,⟨?_,?_⟩,?_⟩<;>omega
section
variable {X:Ext} (hX:fR X) {n:Nat} {got:dY}
include hX
theorem aax(hn:W+9<=n)(hg:got.length<=1048576)(k K V held st:Int) :
  TZ (DD X n) (k,K,V,()) got held st=some (((g_ got (eX K V held st)).foldl (jF jH) [],()),()):=by
 obtain⟨n,rfl⟩:∃k,n=k+1:=⟨n-1,by omega⟩
 have hW:=d7;obtain⟨E1,h1⟩:∃E,E=iF got (qw K) (fun _=>V):=⟨_,rfl⟩
 obtain⟨E2,h2⟩:∃E,E=iF got 13 (fun _=>st):=⟨_,rfl⟩
 obtain⟨E3,h3⟩:∃E,E=iF got (q9 held) (fun _=>0):=⟨_,rfl⟩
 obtain⟨E4,h4⟩:∃E,E=iF got (fM held) (fun _=>0):=⟨_,rfl⟩
 obtain⟨E5,h5⟩:∃E,E=iF got (q9 V) (fun _=>wrap .i64 (K+1)):=⟨_,rfl⟩
 obtain⟨E6,h6⟩:∃E,E=iF got (fM V) (fun _=>wrap .i64 (K+1)):=⟨_,rfl⟩
 obtain⟨E7,h7⟩:∃E,E=iF got (iH (qh held)) less:=⟨_,rfl⟩
 obtain⟨E8,h8⟩:∃E,E=iF got (iH (qh V)) one:=⟨_,rfl⟩
 have l1:E1.length<=1:=by rw[h1];exact BM ..
 have l2:E2.length<=1:=by rw[h2];exact BM ..
 have l3:E3.length<=1:=by rw[h3];exact BM ..
 have l4:E4.length<=1:=by rw[h4];exact BM ..
 have l5:E5.length<=1:=by rw[h5];exact BM ..
 have l6:E6.length<=1:=by rw[h6];exact BM ..
 have l7:E7.length<=1:=by rw[h7];exact BM ..
 have l8:E8.length<=1:=by rw[h8];exact BM ..
 have hs:=fun l hl hk=>ai8 hX (n:=n) (by omega) l hl hk;have hlen:=mB (F_ got (eX K V held st)) (Qi K V held st);have iY:=ZS got (eX K V held st) (Li K V held st);have heq:g_ got (eX K V held st)=bif qh held != qh V then []++E1++E2++E3++E4++E5++E6++E7++E8 else []++E1++E2++E3++E4++E5++E6:=by
  unfold g_ eX;cases qh held != qh V
  .simp only[aW,gr,Ae,List.flatMap_nil,gJ,eu,<-h1,<-h2,<-h3,<-h4,<-h5,<-h6]
  .simp only[bg,fJ,gJ,gr,Ae,List.flatMap_nil,eu,<-h1,<-h2,<-h3,<-h4,<-h5,<-h6,<-h7,<-h8]
 rw[agy hX];simp only[W3,Nb];rw[yg hX (by omega),qc];dsimp only;rw[uv hX (by omega) hg (by simp),<-h1,qc];dsimp only;rw[yc hX (by omega),qc];dsimp only;rw[uv hX (by omega) hg (by simp only[cw,ic];omega),<-h2,qc];dsimp only;rw[CM hX (by omega),qc];dsimp only;rw[uv hX (by omega) hg (by simp only[cw,ic];omega),<-h3,qc];dsimp only;rw[BF hX (by omega),qc];dsimp only;rw[uv hX (by omega) hg (by simp only[cw,ic];omega),<-h4,qc];dsimp only;rw[CM hX (by omega),qc];dsimp only;rw[uv hX (by omega) hg (by simp only[cw,ic];omega),<-h5,qc];dsimp only;rw[BF hX (by omega),qc];dsimp only;rw[uv hX (by omega) hg (by simp only[cw,ic];omega),<-h6,qc];dsimp only;rw[Ht hX (by omega),qc,Ht hX (by omega),qc];dsimp only;cases hc:qh held != qh V
 .rw[hc,aW]at heq;rw[aJ,<-heq,hs _ (by omega) iY,qc]
 .rw[hc,bg]at heq;rw[aA];simp only[qc];rw[CL hX (by omega),qc];dsimp only;rw[ajX hX (by omega) hg (by simp only[cw,ic];omega),<-h7,qc];dsimp only;rw[CL hX (by omega),qc];dsimp only;rw[ajW hX (by omega) hg (by simp only[cw,ic];omega),<-h8,qc];dsimp only;rw[<-heq,hs _ (by omega) iY,qc]
end
def cH(o:cL):Bool:=
 bif decide (o.1=1)||decide (o.1=2) then bq o.2.1 0 3&&bq o.2.2.1 1 6
 else bif decide (o.1=3)||decide (o.1=4) then bq o.2.1 0 3&&decide (o.2.2.1=0)
 else bif decide (o.1=5)||decide (o.1=10) then decide (o.2.1=0)&&bq o.2.2.1 1 6
 else bif decide (o.1=6) then bq o.2.1 0 2&&decide (o.2.2.1=0)
 else bif decide (o.1=7)||(decide (o.1=8)||decide (o.1=9)) then decide (o.2.1=0)&&decide (o.2.2.1=0) else false
def jr(k V row owner st cnt:Int):Option (Int×List Int):=
 if k=1/\row≠0 then some (1,[]) else
 if k=1/\owner≠0 then some (2,[]) else
 if (k=2\/k=3\/k=4)/\row=0 then some (3,[]) else
 if k=2/\row=V then some (0,[]) else
 if k=2/\owner≠0 then some (2,[]) else
 if k=4 then some (0,[row]) else
 if k=5/\owner=0 then some (3,[]) else
 if k=5 then some (0,[wrap .i64 (owner-1)]) else
 if k=6 then some (0,[cnt]) else
 if k=8/\st≠0 then some (4,[]) else
 if k=9/\(st<1\/st>4) then some (4,[]) else
 if k=10/\st≠5 then some (4,[]) else none
def sA:Option (Int×List Int)->(Int×List Int×Unit)×Bool×Unit
 | some x=>((x.1,x.2,()),true,())
 | none=>((0,[],()),false,())
abbrev pq:=Bool×(Int×List Int×Unit)×List eB×Unit
def mc(o:cL)(got:dY):Option (Int×List Int):=
 jr o.1 o.2.2.1 (eO got (qw o.2.1)).1 (eO got (q9 o.2.2.1)).1 (eO got 13).1 (eO got (iH o.2.1)).1
theorem bA(a b:Int):(a != b)=!decide (a=b):=by by_cases h:a=b<;>simp[h]
section
variable {X:Ext} (hX:fR X) {n:Nat} {got:dY}
include hX
theorem Z8(hn:4<=n)(k K V:Int):SU (DD X n) (k,K,V,())=some ((cH (k,K,V,()),()),()):=by
 obtain⟨n,rfl⟩:∃k,n=k+1:=⟨n-1,by omega⟩
 rw[Zu hX];simp only[EY,Ol];simp only[Pm hX (n:=n) (by omega),I0 hX (n:=n) (by omega),yw hX (n:=n) (by omega),K5 hX (n:=n) (by omega),yp hX (n:=n) (by omega),qc];unfold cH;dsimp only;generalize hA:bq K 0 3=A;generalize hB:bq V 1 6=B;generalize hC:bq K 0 2=C;generalize hD:decide (K=0)=D;generalize hE:decide (V=0)=E;by_cases h:1<=k/\k<=10
 .have:k=1\/k=2\/k=3\/k=4\/k=5\/k=6\/k=7\/k=8\/k=9\/k=10:=by omega
  rcases this with rfl | rfl | rfl | rfl | rfl | rfl | rfl | rfl | rfl | rfl<;>cases A<;>cases B<;>cases C<;>cases D<;>cases E<;>rfl
 .rw[HB h,gf,aA];simp only[bJ (by omega:¬ k=1),bJ (by omega:¬ k=2),bJ (by omega:¬ k=3),bJ (by omega:¬ k=4),bJ (by omega:¬ k=5),bJ (by omega:¬ k=6),bJ (by omega:¬ k=7),bJ (by omega:¬ k=8),bJ (by omega:¬ k=9),bJ (by omega:¬ k=10),Bool.or_false,aW]
theorem I1(hn:5<=n)(k K V:Int):CK (DD X n) (k,K,V,())=some ((cH (k,K,V,()),()),()):=by
 obtain⟨n,rfl⟩:∃k,n=k+1:=⟨n-1,by omega⟩
 rw[Zn hX];simp only[ET,N9];simp only[Pk hX (n:=n) (by omega),Hz hX (n:=n) (by omega),Qe hX (n:=n) (by omega),qc];unfold cH;dsimp only;generalize hA:bq K 0 3=A;generalize hB:bq V 1 6=B;generalize hC:bq K 0 2=C;generalize hD:decide (K=0)=D;generalize hE:decide (V=0)=E;by_cases h:1<=k/\k<=10
 .have:k=1\/k=2\/k=3\/k=4\/k=5\/k=6\/k=7\/k=8\/k=9\/k=10:=by omega
  rcases this with rfl | rfl | rfl | rfl | rfl | rfl | rfl | rfl | rfl | rfl<;>cases A<;>cases B<;>cases C<;>cases D<;>cases E<;>rfl
 .simp only[bJ (by omega:¬ k=1),bJ (by omega:¬ k=2),bJ (by omega:¬ k=3),bJ (by omega:¬ k=4),bJ (by omega:¬ k=5),bJ (by omega:¬ k=6),bJ (by omega:¬ k=7),bJ (by omega:¬ k=8),bJ (by omega:¬ k=9),bJ (by omega:¬ k=10),Bool.or_false,aW,aJ]
theorem aaU(hn:W+5<=n)(hg:got.length<=1048576)(o:cL):XX (DD X n) o got=some (sA (mc o got),()):=by
 obtain⟨n,rfl⟩:∃k,n=k+1:=⟨n-1,by omega⟩
 have hW:=d7;obtain⟨k,K,V,⟨⟩⟩:=o;rw[ahF hX];simp only[XJ,Ns];simp only[yg hX (n:=n) (by omega),CM hX (n:=n) (by omega),CL hX (n:=n) (by omega),yc hX (n:=n) (by omega),yd hX (n:=n) (by omega) got hg,qc];unfold mc;dsimp only;generalize (eO got (qw K)).1=row;generalize (eO got (q9 V)).1=owner;generalize (eO got 13).1=st;generalize (eO got (iH K)).1=cnt;unfold jr;by_cases h:1<=k/\k<=10
 .have:k=1\/k=2\/k=3\/k=4\/k=5\/k=6\/k=7\/k=8\/k=9\/k=10:=by omega
  rcases this with rfl | rfl | rfl | rfl | rfl | rfl | rfl | rfl | rfl | rfl
  .by_cases r0:row=0<;>by_cases w0:owner=0<;>simp[r0,w0,br,sA,bA]
  .by_cases rV:row=V
   .subst rV;by_cases r0:row=0<;>simp[r0,br,sA,bA]
   .by_cases r0:row=0<;>by_cases w0:owner=0<;>simp[r0,rV,w0,br,sA,bA]
  .by_cases r0:row=0<;>simp[r0,br,sA,bA]
  .by_cases r0:row=0<;>simp[r0,br,sA,bA]
  .by_cases w0:owner=0<;>simp[w0,br,sA,bA]
  .simp[br,sA,bA]
  .simp[br,sA,bA]
  .by_cases s0:st=0<;>simp[s0,br,sA,bA]
  .by_cases s1:st<1<;>by_cases s4:4<st<;>simp[s1,s4,br,sA,bA]
  .by_cases s5:st=5<;>simp[s5,br,sA,bA]
 .simp only[bJ (by omega:¬ k=1),bJ (by omega:¬ k=2),bJ (by omega:¬ k=3),bJ (by omega:¬ k=4),bJ (by omega:¬ k=5),bJ (by omega:¬ k=6),bJ (by omega:¬ k=7),bJ (by omega:¬ k=8),bJ (by omega:¬ k=9),bJ (by omega:¬ k=10),aW,aJ];have k1:¬ k=1:=by omega
  have k2:¬ k=2:=by omega
  have k3:¬ k=3:=by omega
  have k4:¬ k=4:=by omega
  have k5:¬ k=5:=by omega
  have k6:¬ k=6:=by omega
  have k8:¬ k=8:=by omega
  have k9:¬ k=9:=by omega
  have gO:¬ k=10:=by omega
  simp[k1,k2,k3,k4,k5,k6,k8,k9,gO,sA]
end
def val(got:dY)(p:Int):Int:=(eO got p).1
def lX(k row st p old:Int):Int:=if k=8 then wrap .i64 (old+1) else if k=9 then (if p=13 then wrap .i64 (old+1) else if p=fM row then st else old) else old
def same(got:dY)(p:Int):eB:=(p,val got p,val got p,())
def dw(o:cL)(got:dY):List eB:=
 if o.1=1\/o.1=2\/o.1=3 then (g_ got (eX o.2.1 o.2.2.1 (val got (qw o.2.1)) (val got 13))).foldl gU [] else
 if o.1=7 then [same got 0,same got 1,same got 2,same got 3] else
 if o.1=8 then [(13,val got 13,1,())] else
 if o.1=9 then same got (qw (wrap .i64 (val got 13-1)))::(13,val got 13,wrap .i64 (val got 13+1),())::
  (bif bq (val got (qw (wrap .i64 (val got 13-1)))) 1 6 then [(fM (val got (qw (wrap .i64 (val got 13-1)))),val got (fM (val got (qw (wrap .i64 (val got 13-1))))),val got 13,())] else []) else
 if o.1=10 then [same got 13,same got (fM o.2.2.1)] else []
def eC(o:cL)(got:dY):Int×List Int×Unit:=
 if o.1=7 then (0,[val got 0,val got 1,val got 2,val got 3],()) else
 if o.1=10 then (if val got (fM o.2.2.1)=0 then (3,[],()) else (0,[wrap .i64 (val got (fM o.2.2.1)-1)],())) else (0,[],())
def L3:pq:=(false,(0,[],()),[],())
def g7(o:cL)(got:dY):pq×Bool×Unit:=
 if cH o=true/\(run got (prog o)).2<0 then
  match mc o got with
  | some x=>((true,(x.1,x.2,()),[],()),true,())
  | none=>((false,eC o got,dw o got,()),true,())
 else (L3,false,())
theorem zp{got:dY}{p:Int}{k:Int->PR}(hp:0<=p)(h:(run got (.ask p k)).2<0):hit got p=true/\(run got (k (val got p))).2<0/\(run got (.ask p k)).1=p::(run got (k (val got p))).1:=by
 cases hh:hit got p
 .rw[nD hh]at h;dsimp only at h;omega
 .rw[nE hh]at h⊢;exact⟨rfl,h,rfl⟩
theorem rz{o:cL}(h:cH o=true):((o.1=1\/o.1=2)/\(0<=o.2.1/\o.2.1<=3)/\(1<=o.2.2.1/\o.2.2.1<=6))\/((o.1=3\/o.1=4)/\(0<=o.2.1/\o.2.1<=3)/\o.2.2.1=0)\/
  ((o.1=5\/o.1=10)/\o.2.1=0/\(1<=o.2.2.1/\o.2.2.1<=6))\/(o.1=6/\(0<=o.2.1/\o.2.1<=2)/\o.2.2.1=0)\/((o.1=7\/o.1=8\/o.1=9)/\o.2.1=0/\o.2.2.1=0):=by
 unfold cH at h;by_cases w7:o.1=1\/o.1=2
 .rw[show(decide (o.1=1)||decide (o.1=2))=true by simpa using w7,bg,bC]at h;exact .inl ⟨w7,kF.1 h.1,kF.1 h.2⟩
 rw[show(decide (o.1=1)||decide (o.1=2))=false by simpa using w7,aW]at h;by_cases Cs:o.1=3\/o.1=4
 .rw[show(decide (o.1=3)||decide (o.1=4))=true by simpa using Cs,bg,bC,gI]at h;exact .inr (.inl ⟨Cs,kF.1 h.1,h.2⟩)
 rw[show(decide (o.1=3)||decide (o.1=4))=false by simpa using Cs,aW]at h;by_cases k5:o.1=5\/o.1=10
 .rw[show(decide (o.1=5)||decide (o.1=10))=true by simpa using k5,bg,bC,gI]at h;exact .inr (.inr (.inl ⟨k5,h.1,kF.1 h.2⟩))
 rw[show(decide (o.1=5)||decide (o.1=10))=false by simpa using k5,aW]at h;by_cases k6:o.1=6
 .rw[cT k6,bg,bC,gI]at h;exact .inr (.inr (.inr (.inl ⟨k6,kF.1 h.1,h.2⟩)))
 rw[bJ k6,aW]at h;by_cases k7:o.1=7\/o.1=8\/o.1=9
 .rw[show(decide (o.1=7)||(decide (o.1=8)||decide (o.1=9)))=true by simpa using k7,bg,bC,gI,gI]at h;exact .inr (.inr (.inr (.inr ⟨k7,h.1,h.2⟩)))
 .rw[show(decide (o.1=7)||(decide (o.1=8)||decide (o.1=9)))=false by simpa using k7,aW]at h;exact absurd h (by simp)
theorem KB{got:dY}{K V held st:Int}(hv:1<=held/\held<=6->held≠V):(g_ got (eX K V held st)).foldl (jF jH) []=(g_ got (eX K V held st)).foldl gU []/\lH ((g_ got (eX K V held st)).foldl gU [])/\
  (∀z,z∈(g_ got (eX K V held st)).foldl gU []↔z∈g_ got (eX K V held st))/\((g_ got (eX K V held st)).foldl gU []).length=(g_ got (eX K V held st)).length:=by
 obtain⟨r1,r2,r3,r4⟩:=P9 (g_ got (eX K V held st)) [] List.Pairwise.nil (OF got _ (ZO hv)) (fun a ha=>by simp at ha);exact⟨r1,r2,fun z=>by rw[r3];simp,by rw[r4];simp⟩
theorem xH{o:cL}{got:dY}(ho:cH o=true)(hn:mc o got=none)(hk:o.1=1\/o.1=2\/o.1=3):1<=val got (qw o.2.1)/\val got (qw o.2.1)<=6->val got (qw o.2.1)≠o.2.2.1:=by
 intro h;have:=rz ho;unfold mc jr at hn;rcases hk with k | k | k
 .rw[k]at hn;by_cases h0:(eO got (qw o.2.1)).1=0
  .unfold val at h;omega
  .rw[aj ⟨rfl,h0⟩]at hn;cases hn
 .rw[k]at hn;rw[af (by omega),af (by omega)]at hn;by_cases h0:(eO got (qw o.2.1)).1=0
  .unfold val at h;omega
  .rw[af (by omega)]at hn;by_cases h1:(eO got (qw o.2.1)).1=o.2.2.1
   .rw[aj ⟨rfl,h1⟩]at hn;cases hn
   .exact h1
 .omega
section
variable {X:Ext} (hX:fR X) {n:Nat} {got:dY}
include hX
theorem aaV(hn:4<=n)(o:cL)(p old row st:Int):XY (DD X n) o p old row st=some ((lX o.1 row st p old,()),()):=by
 obtain⟨n,rfl⟩:∃k,n=k+1:=⟨n-1,by omega⟩
 rw[ahG hX];simp only[XK,Nt];rw[yc hX (by omega),qc,BF hX (by omega),qc];unfold lX;by_cases h8:o.1=8
 .rw[qf h8,aj h8]
 rw[qg h8,af h8];by_cases h9:o.1=9
 .rw[qf h9,aj h9];by_cases h1:p=13
  .rw[qf h1,aj h1]
  rw[qg h1,af h1];by_cases h2:p=fM row
  .rw[qf h2,aj h2]
  .rw[qg h2,af h2]
 .rw[qg h9,af h9]
theorem Ed(N n:Nat)(hN:W+2<=N)(hg:got.length<=1048576)(K:dY->cL->pq->pq->Option ((pq×Bool×Unit)×Unit))(st row:Int)(o:cL)(x6:pq)(g:dY)(P:List Int)(mo:Int×Bool×Unit)(hP:P.length<=20) :
  ∀(m i:Nat)(rl:List Int)(el:List eB),i<=P.length->P.length-i<m->rl.length<=i->el.length<=i->
  IL (DD X N) n K m got st row (P.length:Int) (i:Int) o x6 (false,(0,rl,()),el,()) (g,P,mo) =
   K got o x6 (false,(0,rl++(if o.1=7 then (P.drop i).map (val got) else []),()),el++(P.drop i).map (fun p=>(p,val got p,lX o.1 row st p (val got p),())),())
 | 0,_,_,_,_,h,_,_=>by omega
 | m+1,i,rl,el,hi,hf,h1,h2=>by
  have hb:=iG;have hW:=d7;simp only[IL,Xq];by_cases h:i<P.length
  .rw[qf (by omega),ix h,aA,yd hX (by omega) got hg,qc,dQ,qv h];dsimp only;rw[aaV hX (by omega),qc];dsimp only;rw[qf (by omega),rf h];simp only[cm];by_cases h7:o.1=7
   .rw[qf h7,qf (by omega),qu (by omega)];rw[Ed N n hN hg K st row o x6 g P mo hP m (i+1) _ _ (by omega) (by omega) (by rw[cw,o3];omega) (by rw[cw,o3];omega)];rw[aj h7,aj h7,eu,eu];rfl
   .rw[qg h7,qu (by omega)];rw[Ed N n hN hg K st row o x6 g P mo hP m (i+1) _ _ (by omega) (by omega) (by omega) (by rw[cw,o3];omega)];rw[af h7,af h7,eu];rfl
  .rw[qg (by omega),rm h];simp
end
theorem FJ{o:cL}{got:dY}(ho:cH o=true)(hn:mc o got=none)(hr:(run got (prog o)).2<0)(hk:¬ (o.1=1\/o.1=2\/o.1=3)) :
    ((run got (prog o)).1.length<=12/\∀e∈(run got (prog o)).1,qG e)/\
    ((o.1=7/\(run got (prog o)).1.foldl (jF fC) []=[0,1,2,3])\/
     (o.1=8/\val got 13=0/\(run got (prog o)).1.foldl (jF fC) []=[13])\/
     (o.1=9/\(1<=val got 13/\val got 13<=4)/\(run got (prog o)).1.foldl (jF fC) []=qw (wrap .i64 (val got 13-1))::13::(bif bq (val got (qw (wrap .i64 (val got 13-1)))) 1 6 then [fM (val got (qw (wrap .i64 (val got 13-1))))] else []))\/
     (o.1=10/\(run got (prog o)).1.foldl (jF fC) []=[13,fM o.2.2.1])):=by
  have qX:=rz ho;unfold mc jr at hn;rw[af (by omega),af (by omega)]at hn;by_cases k4:o.1=4
  . exfalso
    by_cases h0:(eO got (qw o.2.1)).1=0
    . rw[aj ⟨.inr (.inr k4),h0⟩]at hn;cases hn
    . rw[af (by omega),af (by omega),af (by omega),aj k4]at hn;cases hn
  rw[af (by omega),af (by omega),af (by omega),af k4]at hn;by_cases k5:o.1=5
  . exfalso
    by_cases h0:(eO got (q9 o.2.2.1)).1=0
    . rw[aj ⟨k5,h0⟩]at hn;cases hn
    . rw[af (by omega),aj k5]at hn;cases hn
  rw[af (by omega),af k5]at hn;by_cases k6:o.1=6
  . exfalso;rw[aj k6]at hn;cases hn
  rw[af k6]at hn;have kk:o.1=7\/o.1=8\/o.1=9\/o.1=10:=by omega
  have JQ:prog o=if o.1=7 then BH else if o.1=8 then .ask 13 (fun _=>.done) else if o.1=9 then ym else if o.1=10 then vN o else .done:=by unfold prog;rw[af (by omega),af (by omega),af (by omega),af k4,af k5,af k6]
  rw[JQ]at hr⊢;rcases kk with k | k | k | k
  . rw[aj k]at hr⊢
    unfold BH at hr⊢;obtain⟨_,r1,e1⟩:=zp (by omega) hr;obtain⟨_,r2,e2⟩:=zp (by omega) r1;obtain⟨_,r3,e3⟩:=zp (by omega) r2;obtain⟨_,_,e4⟩:=zp (by omega) r3;rw[e1,e2,e3,e4];refine⟨⟨by simp[run],fun e he=>?_⟩,.inl ⟨k,rfl⟩⟩;simp only[run,bk,c_,dg]at he;rcases he with rfl | rfl | rfl | rfl<;>exact⟨by omega,by omega⟩
  . rw[af (by omega),aj k]at hr⊢
    obtain⟨_,_,e1⟩:=zp (by omega) hr;rw[e1];refine⟨⟨by simp[run],fun e he=>?_⟩,.inr (.inl ⟨k,?_,rfl⟩)⟩
    . simp only[run,bk,c_,dg]at he
      subst he;exact⟨by omega,by omega⟩
    . by_cases s0:(eO got 13).1=0
      . exact s0
      . rw[aj ⟨k,s0⟩]at hn;cases hn
  . rw[af (by omega),af (by omega),aj k]at hr⊢
    rw[af (by omega)]at hn;have hst:1<=val got 13/\val got 13<=4:=by
      by_cases s0:(eO got 13).1<1\/(eO got 13).1>4
      . rw[aj ⟨k,s0⟩]at hn;cases hn
      . unfold val;omega
    unfold ym at hr⊢;obtain⟨_,r1,e1⟩:=zp (by omega) hr;rw[e1];have hb:(bif decide (val got 13<1) then true else decide (val got 13>4))=false:=by rw[bJ (by omega),bJ (by omega)];rfl
    rw[hb,aW]at r1⊢;have hw:wrap .i64 (val got 13-1)=val got 13-1:=qs (by omega) (by omega);have hrow:=uW (wrap .i64 (val got 13-1));rw[hw]at hrow;rw[hw]at r1⊢;obtain⟨_,r2,e2⟩:=zp (by omega) r1;rw[e2];generalize VQ:qw (val got 13-1)=p at *;have hp:0<=p/\p<=3:=by omega
    cases hv:bq (val got p) 1 6
    . rw[gf,bg,aW]
      have es:[(13:Int),p].foldl (jF fC) []=[p,13]:=by simp only[mA,Ak,jF,xW,ir,G0];rw[aj (show fC p<fC 13 by unfold fC;omega)];rfl
      refine⟨⟨by simp[run],fun e he=>?_⟩,.inr (.inr (.inl ⟨k,hst,es⟩))⟩;simp only[run,bk,c_,dg]at he;rcases he with rfl | rfl<;>exact⟨by omega,by omega⟩
    . rw[hv,cE,aW]at r2
      rw[cE,aW,bg];have mZ:=oC (val got p);have DA:=kF.1 hv;obtain⟨_,_,e3⟩:=zp (by omega) r2;rw[e3];have es:[(13:Int),p,fM (val got p)].foldl (jF fC) []=[p,13,fM (val got p)]:=by simp only[mA,Ak,jF,xW,ir,G0];rw[aj (show fC p<fC 13 by unfold fC;omega)];simp only[n7,xW,gJ,fJ,ir];rw[af (show ¬ fC (fM (val got p))<fC 13 by unfold fC;omega)];rfl
      refine⟨⟨by simp[run],fun e he=>?_⟩,.inr (.inr (.inl ⟨k,hst,es⟩))⟩;simp only[run,bk,c_,dg]at he;rcases he with rfl | rfl | rfl<;>exact⟨by omega,by omega⟩
  . rw[af (by omega),af (by omega),af (by omega),aj k]at hr⊢
    rw[af (by omega),af (by omega)]at hn;have hst:val got 13=5:=by
      by_cases s0:(eO got 13).1=5
      . exact s0
      . rw[aj ⟨k,s0⟩]at hn;cases hn
    unfold vN at hr⊢;obtain⟨_,r1,e1⟩:=zp (by omega) hr;rw[e1];rw[hst]at r1⊢;rw[show((5:Int) != 5)=false by decide,aW]at r1⊢;have mZ:=oC o.2.2.1;obtain⟨_,_,e3⟩:=zp (by omega) r1;rw[e3];have es:[(13:Int),fM o.2.2.1].foldl (jF fC) []=[13,fM o.2.2.1]:=by simp only[mA,Ak,jF,xW,ir,G0];rw[af (show ¬ fC (fM o.2.2.1)<fC 13 by unfold fC;omega)];rfl
    refine⟨⟨by simp[run],fun e he=>?_⟩,.inr (.inr (.inr ⟨k,es⟩))⟩;simp only[run,bk,c_,dg]at he;rcases he with rfl | rfl<;>exact⟨by omega,by omega⟩
section
variable {X:Ext} (hX:fR X) {n:Nat} {got:dY}
include hX
theorem aaz(hn:W+3<=n)(hg:got.length<=1048576)(o:cL)(x6:pq)(rl:List Int)(el:List eB):Ri (DD X n) n got o x6 (false,(0,rl,()),el,()) =
  some (((false,(if o.1=10 then (if val got (fM o.2.2.1)=0 then (3,rl,()) else (0,[wrap .i64 (val got (fM o.2.2.1)-1)],())) else (0,rl,())),el,()),true,()),()):=by
 have hW:=d7;simp only[Ri];by_cases k:o.1=10
 .rw[qf k,aj k,BF hX (by omega),qc];dsimp only;rw[yd hX (by omega) got hg,qc];dsimp only;unfold val;by_cases h:(eO got (fM o.2.2.1)).1=0
  .rw[bA,cT h,cE,aJ,aj h]
  .rw[bA,bJ h,gf,aA,af h]
 .rw[qg k,af k]
theorem aiE(hn:W+14<=n)(hg:got.length<=1048576)(o:cL):T_ (DD X n) o got=some (g7 o got,()):=by
 obtain⟨n,rfl⟩:∃k,n=k+1:=⟨n-1,by omega⟩
 have hW:=d7;obtain⟨k,K,V,⟨⟩⟩:=o;rw[ahC hX];simp only[X7,Yj,qyq];rw[I1 hX (by omega),qc];dsimp only;unfold g7;cases ho:cH (k,K,V,())
 .rw[gf,aA,af (by simp)];rfl
 obtain⟨b,e⟩:=Qd hX (n:=n) (by omega) hg (k,K,V,());rw[cE,aJ,e,qc];dsimp only;by_cases hr:(run got (prog (k,K,V,()))).2<0
 .rw[qg (by omega),aj ⟨rfl,hr⟩,aaU hX (by omega) hg,qc];cases dJ:mc (k,K,V,()) got with
  | some x=>simp only[sA];rw[aA]
  | none=>
   simp only[sA];rw[aJ,yc hX (by omega),qc];dsimp only;rw[yd hX (by omega) got hg,qc];dsimp only;rw[yg hX (by omega),qc];dsimp only;rw[yd hX (by omega) got hg,qc];dsimp only;by_cases hk:k=1\/k=2\/k=3
   .have hne:=xH ho dJ hk;obtain⟨c1,_,_,_⟩:=KB (got:=got) (K:=K) (V:=V) (held:=val got (qw K)) (st:=val got 13) hne;have eG:(bif bif decide (k=1) then true else decide (k=2) then true else decide (k=3))=true:=by rcases hk with h | h | h<;>subst h<;>rfl
    rw[qg (by omega),eG,aA,aax hX (by omega) hg,qc];dsimp only;unfold eC dw;rw[aj hk,af (show ¬ k=7 by omega),af (show ¬ k=10 by omega)];have B9:=c1;unfold val at B9⊢;rw[B9]
   .obtain⟨⟨p1,p2⟩,pl⟩:=FJ ho dJ hr hk;have eG:(bif bif decide (k=1) then true else decide (k=2) then true else decide (k=3))=false:=by rw[bJ (show ¬ k=1 by omega),bJ (show ¬ k=2 by omega),bJ (show ¬ k=3 by omega)];rfl
    rw[eG];simp only[aJ];have s9:=ai9 hX (n:=n) (by omega) _ p1 p2;have sX:∀(row:Int)(P:List Int)(x6:pq),P.length<=20->IL (DD X n) n (fun bN eD ja jS=>Ri (DD X n) n bN eD ja jS) n got (eO got 13).1 row (P.length:Int) 0 (k,K,V,()) x6 (false,(0,[],()),[],()) (got,P,(run got (prog (k,K,V,()))).2,b,()) =
      some (((false,(if k=10 then (if val got (fM V)=0 then (3,(if k=7 then P.map (val got) else []),()) else (0,[wrap .i64 (val got (fM V)-1)],())) else (0,(if k=7 then P.map (val got) else []),())),P.map (fun p=>(p,val got p,lX k row (eO got 13).1 p (val got p),())),()),true,()),()):=by
     intro row P x6 hP;have:=Ed hX n n (by omega) hg (fun bN eD ja jS=>Ri (DD X n) n bN eD ja jS) (eO got 13).1 row (k,K,V,()) x6 got P ((run got (prog (k,K,V,()))).2,b,()) hP n 0 [] [] (by omega) (by omega) (by simp) (by simp);rw[show((0:Nat):Int)=0 from rfl,iD]at this;rw[this];rw[aaz hX (by omega) hg];simp only[gJ]
    unfold eC dw;dsimp only;rw[af hk];rcases pl with⟨h7,hp⟩ | ⟨h8,hz,hp⟩ | ⟨h9,hz,hp⟩ | ⟨Da,hp⟩
    .dsimp only at h7;subst h7;rw[qg (by decide),s9,qc,hp];dsimp only;rw[sX _ [0,1,2,3] _ (by simp)];rfl
    .dsimp only at h8;subst h8;rw[qg (by decide),s9,qc,hp];dsimp only;rw[sX _ [13] _ (by simp),af (by decide),af (by decide),af (by decide),af (by decide),aj rfl,af (by decide)];simp only[cm,fO,lX,aX];rw[hz];rfl
    .dsimp only at h9;subst h9;rw[qf rfl,yg hX (by omega),qc];dsimp only;rw[yd hX (by omega) got hg,qc];dsimp only;rw[s9,qc,hp];dsimp only;rw[sX _ _ _ (by cases bq (val got (qw (wrap .i64 (val got 13-1)))) 1 6<;>simp)];have hw:wrap .i64 (val got 13-1)=val got 13-1:=qs (by omega) (by omega);have hrow:=uW (wrap .i64 (val got 13-1));rw[hw]at hrow;rw[af (by decide),af (by decide),af (by decide),af (by decide),aj rfl,af (by decide),af (by decide)];have zX:(eO got 13).1=val got 13:=rfl;rw[zX,hw];have hv2:(eO got (qw (val got 13-1))).1=val got (qw (val got 13-1)):=rfl;rw[hv2];generalize qw (val got 13-1)=p at *;have gN:0<=p/\p<=3:=by omega
     have mZ:=oC (val got p);have b1:∀x,lX 9 (val got p) (val got 13) p x=x:=fun x=>by
      unfold lX;rw[af (by decide),aj rfl,af (by omega),af (by omega)]
     have b2:∀x,lX 9 (val got p) (val got 13) 13 x=wrap .i64 (x+1):=fun x=>by
      unfold lX;rw[af (by decide),aj rfl,aj rfl]
     cases hin:bq (val got p) 1 6
     .simp only[aW,cm,fO,b1,b2];rfl
     .have DA:=kF.1 hin;have b3:∀x,lX 9 (val got p) (val got 13) (fM (val got p)) x=val got 13:=fun x=>by
       unfold lX;rw[af (by decide),aj rfl,af (by omega),aj rfl]
      simp only[bg,cm,fO,b1,b2,b3];rfl
    .dsimp only at Da;subst Da;rw[qg (by decide),s9,qc,hp];dsimp only;rw[sX _ [13,fM V] _ (by simp)];simp[lX,same]
 .rw[qf (by omega),af (fun h=>hr h.2)];rfl
end
theorem Fz{α:Type}(key:α->Int):∀(L acc:List α)(z:α),z∈L.foldl (jF key) acc↔z∈acc\/z∈L
 | [],acc,z=>by simp
 | e::L,acc,z=>by
  rw[mA,Fz key L,GC,bk];constructor
  .rintro((h | h) | h)
   .exact .inr (.inl h)
   .exact .inl h
   .exact .inr (.inr h)
  .rintro(h | h | h)
   .exact .inl (.inr h)
   .exact .inl (.inl h)
   .exact .inr h
def Bs(o:cL)(got:dY):Int:=if cH o=true then (run got (prog o)).2 else -1
section
variable {X:Ext} (hX:fR X) {n:Nat} {got:dY}
include hX
theorem Zx(hn:W+13<=n)(hg:got.length<=1048576)(o:cL):EP (DD X n) o got=some ((Bs o got,()),()):=by
 obtain⟨n,rfl⟩:∃k,n=k+1:=⟨n-1,by omega⟩
 have hW:=d7;rw[Zm hX];simp only[ES,N8];obtain⟨b,e⟩:=Qd hX (n:=n) (by omega) hg o;obtain⟨k,K,V,⟨⟩⟩:=o;rw[I1 hX (by omega),qc];dsimp only;unfold Bs;cases ho:cH (k,K,V,())
 .rw[gf,aA];rfl
 .rw[cE,aJ,e,qc,aj rfl]
end
end Go.G
namespace Go.G
open Go Go.V
abbrev jE:=List Int×Int×Int×Unit
def m_(c:jE):Prop:=c.1.length<=1048576/\0<=c.2.1/\c.2.1<=c.1.length
theorem AO(x:BitVec (IntKind.bits IntKind.i64)):0<=wrap .i64 ((BitVec.toNat (BitVec.and x (BitVec.ofInt (IntKind.bits IntKind.i64) 255)):Nat):Int)/\wrap .i64 ((BitVec.toNat (BitVec.and x (BitVec.ofInt (IntKind.bits IntKind.i64) 255)):Nat):Int)<=255:=by
 have h:BitVec.toNat (BitVec.and x (BitVec.ofInt (IntKind.bits IntKind.i64) 255))<=255:=by show BitVec.toNat (x &&&BitVec.ofInt (IntKind.bits IntKind.i64) 255)<=255;rw[BitVec.toNat_and];exact mB Nat.and_le_right (by decide)
 rw[qs (by omega) (by omega)];omega
theorem KA{X:Ext}(hX:fR X){n:Nat}(hn:1<=n){c:jE}(hc:m_ c):∃(x:Int)(c':jE),0<=x/\x<=255/\m_ c'/\Hp (DD X n) c=some ((x,()),(c',())):=by
 obtain⟨n,rfl⟩:∃k,n=k+1:=⟨n-1,by omega⟩
 obtain⟨h1,h2,h3⟩:=hc;rw[ahf hX];simp only[XP,Nw];by_cases h:c.2.1<(c.1.length:Int)
 .rw[qf h,fL h2 h,aA,qs (x:=c.2.1+1) (by omega) (by omega)];refine⟨_,(c.1,c.2.1+1,_,()),(AO _).1,(AO _).2,⟨h1,?_,?_⟩,rfl⟩
  .show 0<=c.2.1+1;omega
  .show c.2.1+1<=(c.1.length:Int);omega
 .rw[qg h];have k:∀h u,m_ (c.1,c.2.1,h,u):=fun _ _=>⟨h1,h2,h3⟩
  exact⟨_,_,(AO _).1,(AO _).2,k _ _,rfl⟩
theorem zk{X:Ext}(hX:fR X){n:Nat}(hn:2<=n){c:jE}(hc:m_ c)(k:Int):∃(x:Int)(c':jE),(0<k->0<=x/\x<k)/\(k<=0->x=0)/\m_ c'/\q_ (DD X n) c k=some ((x,()),(c',())):=by
 obtain⟨n,rfl⟩:∃k,n=k+1:=⟨n-1,by omega⟩
 rw[agI hX];simp only[Xd,Nk];by_cases h:k<=0
 .rw[qf h];exact⟨0,c,fun h2=>by omega,fun _=>rfl,hc,rfl⟩
 .rw[qg h];by_cases h2:k<=256
  .obtain⟨x,c',x0,x1,U3,e⟩:=KA hX (n:=n) (by omega) hc;rw[qf h2,e,qc];dsimp only;rw[qg (by omega)];refine⟨_,_,fun _=>?_,fun h3=>by omega,U3,rfl⟩;rw[FP x0];exact⟨EB _ (by omega),Ep _ (by omega)⟩
  .obtain⟨x,c1,x0,x1,jq,e1⟩:=KA hX (n:=n) (by omega) hc;obtain⟨y,c2,y0,y1,gS,e2⟩:=KA hX (n:=n) (by omega) jq;obtain⟨z,c3,z0,z1,qV,e3⟩:=KA hX (n:=n) (by omega) gS;obtain⟨w,c4,w0,w1,U4,e4⟩:=KA hX (n:=n) (by omega) qV;rw[qg h2,e1,qc];dsimp only;rw[e2,qc];dsimp only;rw[e3,qc];dsimp only;rw[e4,qc];dsimp only;rw[qg (by omega),qs (x:=x * 16777216) (by omega) (by omega),qs (x:=y * 65536) (by omega) (by omega),qs (x:=x * 16777216+y * 65536) (by omega) (by omega),
    qs (x:=z * 256) (by omega) (by omega),qs (x:=x * 16777216+y * 65536+z * 256) (by omega) (by omega),qs (x:=x * 16777216+y * 65536+z * 256+w) (by omega) (by omega)]
   refine⟨_,_,fun _=>?_,fun h3=>by omega,U4,rfl⟩;rw[FP (by omega)];exact⟨EB _ (by omega),Ep _ (by omega)⟩
theorem NY{X:Ext}(hX:fR X){n:Nat}(hn:3<=n){c:jE}(hc:m_ c)(l:List Int)(hl:0<l.length):∃(x:Int)(c':jE),x∈l/\m_ c'/\TO (DD X n) c l=some ((x,()),(c',())):=by
 obtain⟨n,rfl⟩:∃k,n=k+1:=⟨n-1,by omega⟩
 rw[aes hX];simp only[qv3,q93];obtain⟨x,c',h1,_,U3,e⟩:=zk hX (n:=n) (by omega) hc (l.length:Int);obtain⟨x0,x1⟩:=h1 (by omega);rw[e,qc];dsimp only;rw[fL x0 x1,aA,qv (by omega)];exact⟨_,_,ef _,U3,rfl⟩
theorem Lw(D:Den ctx)(n:Nat){K0:List Int->Int->Option ((jE×Unit)×Unit)}(a:List Int)(ha:a.length<=1048576):∀(m i:Nat)(h:Int),i<=a.length->a.length-i<m->∃h':Int,RH D n K0 m a h i=K0 a h'
 | 0,_,_,_,h=>by omega
 | m+1,i,h,hi,hf=>by
  simp only[RH,Yb];by_cases h1:i<a.length
  .by_cases h2:(i:Int)<4000
   .rw[cT (by omega:(i:Int)<(a.length:Int)),bg,qf h2,cT (by omega:(0:Int)<=(i:Int)),Gu,aA,qu (by omega)];exact Lw D n a ha m (i+1) _ (by omega) (by omega)
   .rw[cT (by omega:(i:Int)<(a.length:Int)),bg,qg h2];exact⟨h,rfl⟩
  .rw[bJ (by omega:¬ (i:Int)<(a.length:Int)),aW,aJ];exact⟨h,rfl⟩
theorem ai7{X:Ext}(hX:fR X){n:Nat}(hn:W+1<=n)(a:List Int)(ha:a.length<=1048576):∃c:jE,m_ c/\YJ (DD X n) a=some ((c,()),()):=by
 obtain⟨n,rfl⟩:∃k,n=k+1:=⟨n-1,by omega⟩
 have hW:=d7;rw[ah6 hX];simp only[YW,Y0,XE];obtain⟨h',e⟩:=Lw (DD X n) n (K0:=fun v w=>MS (DD X n) n v w) a ha n 0 (wrap .i64 (27323+(a.length:Int))) (by omega) (by omega);rw[show((0:Nat):Int)=0 from rfl]at e;exact⟨(a,0,h',()),⟨ha,by show(0:Int)<=0;omega,by show(0:Int)<=(a.length:Int);omega⟩,e⟩
theorem ajO{X:Ext}(hX:fR X){n:Nat}(hn:1<=n)(a:List Int):Ff (DD X n) a=some ((decide ((a.length:Int)>1048576),()),()):=by
 obtain⟨n,rfl⟩:∃k,n=k+1:=⟨n-1,by omega⟩
 rw[Z0 hX];rfl
open Go.Proofs
abbrev qp:=List Int×Int×Unit
def aV(v:Int):List Int->Nat->Int
 | [],_=>-1
 | x::l,i=>if x=v then (i:Int) else aV v l (i+1)
theorem KJ(v:Int):∀(l:List Int)(i:Nat),aV v l i<0->v∉l
 | [],i,_=>by simp
 | x::l,i,h=>by
  simp only[aV]at h;by_cases e:x=v
  .rw[aj e]at h;omega
  .rw[af e]at h;have:=KJ v l (i+1) h;intro hm;rcases bk.1 hm with k | k
   .exact e k.symm
   .exact this k
theorem Cu(v:Int):∀(l:List Int)(i k:Nat),l[k]? = some v->(∀j<k,l[j]?≠some v)->aV v l i=((i+k:Nat):Int)
 | [],i,k,h,_=>by simp at h
 | x::l,i,0,h,_=>by
  simp only[GZ,aI]at h;simp only[aV];rw[aj h];rfl
 | x::l,i,k+1,h,hj=>by
  simp only[QN]at h;simp only[aV];rw[af (by have:=hj 0 (by omega);simp only[GZ,ne_eq,aI]at this;exact this),Cu v l (i+1) k h (fun j h2=>by have:=hj (j+1) (by omega);simpa using this)];congr 1;omega
structure aM (r:qp):Prop where
 len:r.1.length=4
 dL:∀x∈r.1,0<=x/\x<=6
 once:∀i j:Nat,i<j->∀v,r.1[i]? = some v->r.1[j]? = some v->v=0
 st:0<=r.2.1/\r.2.1<=5
section
variable {X:Ext} (hX:fR X) {n:Nat}
include hX
theorem Lu(D:Den ctx)(n:Nat)(K0:Int->Option ((Int×Unit)×Unit))(K1:Option ((Int×Unit)×Unit))(hK:K0 (-1)=K1)(r:qp)(hr:r.1.length<=1000)(v:Int):∀(m i:Nat),i<=r.1.length->r.1.length-i<m->
  RP D n K0 K1 m v (i:Int) r=K0 (aV v (r.1.drop i) i)
 | 0,_,_,h=>by omega
 | m+1,i,hi,hf=>by
  simp only[RP,Yu];by_cases h:i<r.1.length
  .rw[qf (by omega),ix h,aA,dQ,qv h,rf h];simp only[aV];by_cases e:r.1[i]=v
   .rw[qf e,aj e]
   .rw[qg e,af e,qu (by omega)];exact Lu D n K0 K1 hK r hr v m (i+1) (by omega) (by omega)
  .rw[qg (by omega),rm h];exact hK.symm
theorem NZ(hn:W+1<=n)(r:qp)(hr:r.1.length<=1000)(v:Int):Uk (DD X n) r v=some ((aV v r.1 0,()),()):=by
 obtain⟨n,rfl⟩:∃k,n=k+1:=⟨n-1,by omega⟩
 have hW:=d7;rw[ahZ hX];simp only[YQ,Y4,Xi];have e:=Lu hX (DD X n) n (fun bN=>MA (DD X n) n bN) (MB (DD X n) n) rfl r hr v n 0 (by omega) (by omega);rw[show((0:Nat):Int)=0 from rfl]at e;rw[e];rfl
theorem F4(N n:Nat)(hN:W+2<=N)(K0:Bool->qp->Option ((Bool×Unit)×Unit))(K1:qp->Option ((Bool×Unit)×Unit)){r:qp}(hr:aM r):∀(m i:Nat),i<=r.1.length->r.1.length-i<m->
  RB (DD X N) n K0 K1 m (i:Int) r=K1 r
 | 0,_,_,h=>by omega
 | m+1,i,hi,hf=>by
  have hl:=hr.len;have hW:=d7;simp only[RB,Xo];by_cases h:i<r.1.length
  .rw[qf (by omega),ix h,aA,dQ,qv h];by_cases e:r.1[i]=0
   .rw[bA,cT e,cE,aJ,qu (by omega)];exact F4 N n hN K0 K1 hr m (i+1) (by omega) (by omega)
   .have hv:=hr.dL r.1[i] (ef h);rw[bA,bJ e,gf,aA,aA,I0 hX (by omega),qc];dsimp only;rw[kF.2 (by omega),cE,aJ,aA,NZ hX (by omega) r (by omega),qc];dsimp only;have hk:aV r.1[i] r.1 0=(i:Int):=by rw[Cu r.1[i] r.1 0 i (fN h) (fun j hj hc=>e (hr.once j i hj _ hc (fN h)))];congr 1;omega
    rw[hk,bA,cT rfl,cE,aJ,qu (by omega)];exact F4 N n hN K0 K1 hr m (i+1) (by omega) (by omega)
  .rw[qg (by omega)]
theorem NJ(hn:W+3<=n){r:qp}(hr:aM r):Ua (DD X n) r=some ((true,()),()):=by
 obtain⟨n,rfl⟩:∃k,n=k+1:=⟨n-1,by omega⟩
 have hW:=d7;have hl:=hr.len;rw[ahd hX];simp only[XN,X_,qzo];have e:=F4 hX n n (by omega) (fun bN eD=>q90 (DD X n) n bN eD) (fun sF=>qwq (DD X n) n sF) hr n 0 (by omega) (by omega);rw[show((0:Nat):Int)=0 from rfl]at e;rw[e];simp only[qwq];rw[qf (by omega),yw hX (by omega),qc,kF.2 hr.st]
theorem Fy(N n:Nat)(hN:W+2<=N)(K0:jE->qp->qp->Option ((qp×Unit)×(jE×Unit)))(z:qp):∀(m i:Nat)(c:jE)(r:qp),m_ c->aM r->i<=4->4-i<m->
  ∃(c':jE)(r':qp),m_ c'/\aM r'/\Q7 (DD X N) n K0 m (i:Int) c z r=K0 c' z r'
 | 0,_,_,_,_,_,_,h=>by omega
 | m+1,i,c,r,hc,hr,hi,hf=>by
  have hl:=hr.len;have hW:=d7;simp only[Q7,qq1];by_cases h:i<4
  .obtain⟨x,c1,h1,_,jq,e1⟩:=zk hX (n:=N) (by omega) hc 7;obtain⟨x0,x1⟩:=h1 (by omega);rw[qf (by omega),e1,qc];dsimp only;rw[show(r.1,r.2)=r from rfl,NZ hX (by omega) r (by omega),qc];dsimp only;by_cases hk:aV x r.1 0<0
   .have hnot:=KJ x r.1 0 hk;rw[qf hk,fL (by omega) (by omega),aA,qu (by omega),dQ];have yY:aM (r.1.set i x,r.2):=by
     refine⟨by show(r.1.set i x).length=4;rw[ck];exact hl,fun y hy=>?_,fun a b hab v ha hb=>?_,hr.st⟩
     .rcases Ev hy with hy | rfl
      .exact hr.dL y hy
      .omega
     .simp only[jv]at ha hb;by_cases ea:i=a
      .rw[aj ea]at ha;rw[af (by omega)]at hb;split at ha
       .simp only[aI]at ha;subst ha;exact absurd (lE.2 ⟨b,hb⟩) hnot
       .simp at ha
      .rw[af ea]at ha;by_cases eb:i=b
       .rw[aj eb]at hb;split at hb
        .simp only[aI]at hb;subst hb;exact absurd (lE.2 ⟨a,ha⟩) hnot
        .simp at hb
       .rw[af eb]at hb;exact hr.once a b hab v ha hb
    exact Fy N n hN K0 z m (i+1) c1 (r.1.set i x,r.2) jq yY (by omega) (by omega)
   .rw[qg hk,qu (by omega)];exact Fy N n hN K0 z m (i+1) c1 r jq hr (by omega) (by omega)
  .rw[qg (by omega)];exact⟨c,r,hc,hr,rfl⟩
theorem ahl(hn:W+3<=n){c:jE}(hc:m_ c):∃(r:qp)(c':jE),aM r/\(r.2.1=0\/r.2.1=1\/r.2.1=3\/r.2.1=5)/\m_ c'/\qrr (DD X n) c=some ((r,()),(c',())):=by
 obtain⟨n,rfl⟩:∃k,n=k+1:=⟨n-1,by omega⟩
 have hW:=d7;have hnew:WO (DD X n)=some ((((List.replicate (Int.toNat 4) 0,0,()):qp),()),()):=by
  obtain⟨n,rfl⟩:∃k,n=k+1:=⟨n-1,by omega⟩
  rw[aga hX];rfl
 rw[ac6 hX];simp only[qrx,qs2,qpe];rw[hnew,qc];dsimp only;have h0:aM ((List.replicate (Int.toNat 4) 0,0,()):qp):=by
  refine⟨rfl,fun x hx=>?_,fun i j hij v hi hj=>?_,by show(0:Int)<=0/\(0:Int)<=5;omega⟩
  .have:=(List.mem_replicate.1 hx).2;omega
  .simp only[sI]at hi;split at hi
   .simp only[aI]at hi;exact hi.symm
   .simp at hi
 obtain⟨c',r',h1,h2,e⟩:=Fy hX n n (by omega) (fun bN eD ja=>qn7 (DD X n) n bN eD ja) ([],0,()) n 0 c _ hc h0 (by omega) (by omega);rw[show((0:Nat):Int)=0 from rfl]at e;rw[e];simp only[qn7];obtain⟨s,c2,hs,gS,e2⟩:=NY hX (n:=n) (by omega) h1 [0,0,1,3,5] (by simp);rw[e2,qc];have lZ:s=0\/s=1\/s=3\/s=5:=by simp only[bk,c_,dg]at hs;omega
 exact⟨(r'.1,s,()),c2,⟨h2.len,h2.dL,h2.once,by show 0<=s/\s<=5;omega⟩,lZ,gS,rfl⟩
end
def GA(ws:List Int):Prop:=ws.length=20/\∀x∈ws,0<=x/\x<=1000
theorem GA.set{ws:List Int}(h:GA ws)(i:Nat){x:Int}(hx:0<=x/\x<=1000):GA (ws.set i x):=
 ⟨by rw[ck];exact h.1,fun y hy=>by
  rcases Ev hy with q | rfl
  .exact h.2 y q
  .exact hx⟩
def many(c:Int):List Int->Int
 | []=>0
 | x::l=>(bif bq x 1 6&&decide (qh x=c) then 1 else 0)+many c l
theorem KK(c:Int):∀l,0<=many c l/\many c l<=(l.length:Int)
 | []=>⟨by simp[many],by simp[many]⟩
 | x::l=>by
  have:=KK c l;simp only[many,ct];cases bq x 1 6&&decide (qh x=c)<;>simp only[bg,aW]<;>omega
section
variable {X:Ext} (hX:fR X) {n:Nat}
include hX
theorem K4(hn:1<=n)(b:Bool):RV (DD X n) b=some ((bif b then 1 else 0,()),()):=by
 obtain⟨n,rfl⟩:∃k,n=k+1:=⟨n-1,by omega⟩
 rw[ah5 hX];cases b<;>rfl
theorem G9(N n:Nat)(hN:4<=N)(K:Int->Option ((Int×Unit)×Unit))(r:qp)(hr:r.1.length<=1000)(c:Int):∀(m i:Nat)(a:Int),i<=r.1.length->r.1.length-i<m->0<=a/\a<=i->
  Ru (DD X N) n K m c a (i:Int) r=K (a+many c (r.1.drop i))
 | 0,_,_,_,h,_=>by omega
 | m+1,i,a,hi,hf,ha=>by
  simp only[Ru,qzh];by_cases h:i<r.1.length
  .rw[qf (by omega),ix h,aA,dQ,qv h,I0 hX (by omega),qc,rf h];simp only[many];cases hv:bq r.1[i] 1 6
   .rw[aJ,K4 hX (by omega),qc];dsimp only;rw[aW,qs (by omega) (by omega),qu (by omega),G9 N n hN K r hr c m (i+1) _ (by omega) (by omega) (by omega)];congr 1;simp only[Bool.false_and,aW];omega
   .rw[aA,aA,Zy hX (by omega),qc];dsimp only;rw[K4 hX (by omega),qc];dsimp only;have hb:0<=(bif decide (qh r.1[i]=c) then (1:Int) else 0)/\(bif decide (qh r.1[i]=c) then (1:Int) else 0)<=1:=by cases decide (qh r.1[i]=c)<;>simp
    rw[qs (by omega) (by omega),qu (by omega),G9 N n hN K r hr c m (i+1) _ (by omega) (by omega) (by omega)];congr 1;simp only[nR];omega
  .rw[qg (by omega),rm h];congr 1;simp[many]
theorem ahR(hn:W+1<=n)(r:qp)(hr:r.1.length<=1000)(c:Int):WM (DD X n) r c=some ((many c r.1,()),()):=by
 obtain⟨n,rfl⟩:∃k,n=k+1:=⟨n-1,by omega⟩
 have hW:=d7;rw[af9 hX];simp only[Xa,Xh,qwo];have e:=G9 hX n n (by omega) (fun bN=>q6w (DD X n) n bN) r hr c n 0 0 (by omega) (by omega) (by omega);rw[show((0:Nat):Int)=0 from rfl,iD,Int.zero_add]at e;rw[e];rfl
end
section
variable {X:Ext} (hX:fR X) {n:Nat}
include hX
theorem ahQ(hn:6<=n){c:jE}(hc:m_ c):∃(o:cL)(c':jE),m_ c'/\cH o=true/\qrs (DD X n) c=some ((o,()),(c',())):=by
 obtain⟨n,rfl⟩:∃k,n=k+1:=⟨n-1,by omega⟩
 rw[ac7 hX];simp only[qry,q4a];obtain⟨k,c1,hk,jq,e1⟩:=NY hX (n:=n) (by omega) hc [1,1,1,2,2,3,4,5,6,7,8,9,9,10] (by simp);have hk2:k=1\/k=2\/k=3\/k=4\/k=5\/k=6\/k=7\/k=8\/k=9\/k=10:=by simp only[bk,c_,dg]at hk;omega
 obtain⟨x,c2,h2,_,gS,e2⟩:=zk hX (n:=n) (by omega) jq 4;obtain⟨y,c3,h3,_,qV,e3⟩:=zk hX (n:=n) (by omega) gS 4;obtain⟨z,c4,h4,_,U4,e4⟩:=zk hX (n:=n) (by omega) jq 3;obtain⟨x0,x1⟩:=h2 (by omega);obtain⟨y0,y1⟩:=h3 (by omega);obtain⟨z0,z1⟩:=h4 (by omega);have SO:bq x 0 3=true:=kF.2 (by omega);have iz:bq z 0 2=true:=kF.2 (by omega);have wy:wrap .i64 (1+y)=1+y:=qs (by omega) (by omega);have wx:wrap .i64 (1+x)=1+x:=qs (by omega) (by omega);have iy:bq (1+y) 1 6=true:=kF.2 (by omega);have ix6:bq (1+x) 1 6=true:=kF.2 (by omega);simp only[show(List.set (List.set (List.set (List.set (List.set (List.set (List.set (List.set (List.set (List.set (List.set (List.set (List.set (List.set (List.replicate 14 (0:Int)) 0 1) 1 1) 2 1) 3 2) 4 2) 5 3) 6 4) 7 5) 8 6) 9 7) 10 8) 11 9) 12 9) 13 10)=[1,1,1,2,2,3,4,5,6,7,8,9,9,10] from rfl];rw[e1,qc];dsimp only;rw[K5 hX (by omega),qc];dsimp only;rcases hk2 with rfl | rfl | rfl | rfl | rfl | rfl | rfl | rfl | rfl | rfl
 .rw[show bq 1 1 4=true from rfl,aA,e2,qc];dsimp only;rw[qg (by decide),yp hX (by omega),qc];dsimp only;rw[show(bif bif bif decide ((1:Int)=1) then true else decide ((1:Int)=2) then true else decide ((1:Int)=5) then true else decide ((1:Int)=10))=true from rfl,aA,e3,qc,wy];exact⟨_,_,qV,by show(bq x 0 3&&bq (1+y) 1 6)=true;rw[SO,iy];rfl,rfl⟩
 .rw[show bq 2 1 4=true from rfl,aA,e2,qc];dsimp only;rw[qg (by decide),yp hX (by omega),qc];dsimp only;rw[show(bif bif bif decide ((2:Int)=1) then true else decide ((2:Int)=2) then true else decide ((2:Int)=5) then true else decide ((2:Int)=10))=true from rfl,aA,e3,qc,wy];exact⟨_,_,qV,by show(bq x 0 3&&bq (1+y) 1 6)=true;rw[SO,iy];rfl,rfl⟩
 .rw[show bq 3 1 4=true from rfl,aA,e2,qc];dsimp only;rw[qg (by decide),yp hX (by omega),qc];dsimp only;rw[show(bif bif bif decide ((3:Int)=1) then true else decide ((3:Int)=2) then true else decide ((3:Int)=5) then true else decide ((3:Int)=10))=false from rfl,aJ];exact⟨_,_,gS,by show(bq x 0 3&&true)=true;rw[SO];rfl,rfl⟩
 .rw[show bq 4 1 4=true from rfl,aA,e2,qc];dsimp only;rw[qg (by decide),yp hX (by omega),qc];dsimp only;rw[show(bif bif bif decide ((4:Int)=1) then true else decide ((4:Int)=2) then true else decide ((4:Int)=5) then true else decide ((4:Int)=10))=false from rfl,aJ];exact⟨_,_,gS,by show(bq x 0 3&&true)=true;rw[SO];rfl,rfl⟩
 .rw[show bq 5 1 4=false from rfl,aJ,qg (by decide),yp hX (by omega),qc];dsimp only;rw[show(bif bif bif decide ((5:Int)=1) then true else decide ((5:Int)=2) then true else decide ((5:Int)=5) then true else decide ((5:Int)=10))=true from rfl,aA,e2,qc,wx];exact⟨_,_,gS,by show(true&&bq (1+x) 1 6)=true;rw[ix6];rfl,rfl⟩
 .rw[show bq 6 1 4=false from rfl,aJ,qf rfl,e4,qc];dsimp only;rw[yp hX (by omega),qc];dsimp only;rw[show(bif bif bif decide ((6:Int)=1) then true else decide ((6:Int)=2) then true else decide ((6:Int)=5) then true else decide ((6:Int)=10))=false from rfl,aJ];exact⟨_,_,U4,by show(bq z 0 2&&true)=true;rw[iz];rfl,rfl⟩
 .rw[show bq 7 1 4=false from rfl,aJ,qg (by decide),yp hX (by omega),qc];exact⟨_,_,jq,rfl,rfl⟩
 .rw[show bq 8 1 4=false from rfl,aJ,qg (by decide),yp hX (by omega),qc];exact⟨_,_,jq,rfl,rfl⟩
 .rw[show bq 9 1 4=false from rfl,aJ,qg (by decide),yp hX (by omega),qc];exact⟨_,_,jq,rfl,rfl⟩
 .rw[show bq 10 1 4=false from rfl,aJ,qg (by decide),yp hX (by omega),qc];dsimp only;rw[show(bif bif bif decide ((10:Int)=1) then true else decide ((10:Int)=2) then true else decide ((10:Int)=5) then true else decide ((10:Int)=10))=true from rfl,aA,e2,qc,wx];exact⟨_,_,gS,by show(true&&bq (1+x) 1 6)=true;rw[ix6];rfl,rfl⟩
end
theorem abC{k V row owner st cnt:Int}{x:Int×List Int}(h:jr k V row owner st cnt=some x):x.2.length<=1:=by
 unfold jr at h;by_cases c0:k=1/\row≠0
 .rw[aj c0]at h;cases h;simp
 rw[af c0]at h;by_cases c1:k=1/\owner≠0
 .rw[aj c1]at h;cases h;simp
 rw[af c1]at h;by_cases c2:(k=2\/k=3\/k=4)/\row=0
 .rw[aj c2]at h;cases h;simp
 rw[af c2]at h;by_cases c3:k=2/\row=V
 .rw[aj c3]at h;cases h;simp
 rw[af c3]at h;by_cases c4:k=2/\owner≠0
 .rw[aj c4]at h;cases h;simp
 rw[af c4]at h;by_cases c5:k=4
 .rw[aj c5]at h;cases h;simp
 rw[af c5]at h;by_cases c6:k=5/\owner=0
 .rw[aj c6]at h;cases h;simp
 rw[af c6]at h;by_cases c7:k=5
 .rw[aj c7]at h;cases h;simp
 rw[af c7]at h;by_cases c8:k=6
 .rw[aj c8]at h;cases h;simp
 rw[af c8]at h;by_cases c9:k=8/\st≠0
 .rw[aj c9]at h;cases h;simp
 rw[af c9]at h;by_cases c10:k=9/\(st<1\/st>4)
 .rw[aj c10]at h;cases h;simp
 rw[af c10]at h;by_cases c11:k=10/\st≠5
 .rw[aj c11]at h;cases h;simp
 rw[af c11]at h;cases h
theorem aay(o:cL)(got:dY):(g7 o got).1.2.1.2.1.length<=20/\(g7 o got).1.2.2.1.length<=20:=by
 unfold g7;split
 .cases hn:mc o got with
  | some x=>have:=abC hn;exact⟨by show x.2.length<=20;omega,by show(0:Nat)<=20;omega⟩
  | none=>
   refine⟨?_,?_⟩
   .show(eC o got).2.1.length<=20;unfold eC
    repeat' split
    all_goals simp
   .show(dw o got).length<=20;unfold dw;split
    .rw[O6];have:=mB (F_ got (eX o.2.1 o.2.2.1 (val got (qw o.2.1)) (val got 13))) (Qi _ _ _ _);simp only[ic];omega
    .repeat' split
     .simp
     .simp
     .cases bq (val got (qw (wrap .i64 (val got 13-1)))) 1 6<;>simp
     .simp
     .simp
 .exact⟨by show(0:Nat)<=20;omega,by show(0:Nat)<=20;omega⟩
section
variable {X:Ext} (hX:fR X) {n:Nat}
include hX
end
theorem o7(l:List Int)(i j:Nat)(x:Int)(h:i<l.length):(l.set i x).getD j 0=if j=i then x else l.getD j 0:=by
 simp only[List.getD,jv];by_cases e:i=j
 .subst e;rw[aj rfl,aj h,aj rfl];rfl
 .rw[af e,af (fun k=>e k.symm)]
theorem KI(v:Int):∀(l:List Int)(i k:Nat),aV v l i=(k:Int)->i<=k/\l[k-i]? = some v
 | [],i,k,h=>by simp only[aV]at h;omega
 | x::l,i,k,h=>by
  simp only[aV]at h;by_cases e:x=v
  .rw[aj e]at h;have:i=k:=by omega
   subst this;refine⟨b7 _,?_⟩;rw[Nat.sub_self,e];rfl
  .rw[af e]at h;obtain⟨h1,h2⟩:=KI v l (i+1) k h;refine⟨by omega,?_⟩;rw[show k-i=(k-(i+1))+1 by omega];exact h2
theorem vO(v:Int):∀(l:List Int)(i:Nat),-1<=aV v l i/\aV v l i<(i+l.length:Nat)
 | [],i=>by simp only[aV,ic];omega
 | x::l,i=>by
  have:=vO v l (i+1);simp only[aV,ct];split<;>omega
def kM(v:Int)(h:List Int)(i:Int)(st:Int):Int:=if 0<=aV v h 0/\aV v h 0<i/\aV v h 0<st-1 then aV v h 0+1 else 0
def pU(v:Int)(h:List Int)(i:Int):Int:=if 0<=aV v h 0/\aV v h 0<i then aV v h 0+1 else 0
def vV(r:qp)(i p:Nat):Int:=
 if p<4 then (if p<i then r.1.getD p 0 else 0) else if p<10 then pU ((p:Int)-3) r.1 i else if p<14 then 0 else kM ((p:Int)-13) r.1 i r.2.1
def jB(r:qp)(p:Nat):Int:=
 if p<4 then r.1.getD p 0 else if p<10 then pU ((p:Int)-3) r.1 4 else if p<13 then many ((p:Int)-10) r.1 else if p=13 then r.2.1 else kM ((p:Int)-13) r.1 4 r.2.1
section
variable {X:Ext} (hX:fR X) {n:Nat}
include hX
theorem PC{r:qp}(hr:aM r){i:Nat}(hi:i<4)(hi2:i<r.1.length)(p:Nat)(hp:p<20) :
  vV r (i+1) p=if p<4 then (if p=i then r.1[i] else vV r i p) else if r.1[i]≠0/\(p:Int)=3+r.1[i] then (i:Int)+1 else
   if r.1[i]≠0/\(p:Int)=13+r.1[i]/\(i:Int)<r.2.1-1 then (i:Int)+1 else vV r i p:=by
 have hx:=hr.dL r.1[i] (ef hi2);have hkey:r.1[i]≠0->aV r.1[i] r.1 0=(i:Int):=fun e=>by
  rw[Cu r.1[i] r.1 0 i (fN hi2) (fun j hj hc=>e (hr.once j i hj _ hc (fN hi2)))];congr 1;omega
 have bT:∀v:Int,v≠r.1[i]->aV v r.1 0≠(i:Int):=fun v hv hc=>by
  obtain⟨_,h2⟩:=KI v r.1 0 i hc;rw[Aj,fN hi2]at h2;exact hv (gu h2).symm
 unfold vV;by_cases h4:p<4
 .simp only[aj h4];by_cases e:p=i
  .subst e;simp only[aj (show p<p+1 by omega),aX,qv hi2]
  .simp only[af e];by_cases e2:p<i
   .simp only[aj e2,aj (show p<i+1 by omega)]
   .simp only[af e2,af (show ¬ p<i+1 by omega)]
 simp only[af h4];by_cases Da:p<10
 .have Wb:¬ (r.1[i]≠0/\(p:Int)=13+r.1[i]/\(i:Int)<r.2.1-1):=by omega
  simp only[aj Da,af Wb];unfold pU;by_cases e:r.1[i]≠0/\(p:Int)=3+r.1[i]
  .simp only[aj e];rw[show(p:Int)-3=r.1[i] by omega,hkey e.1,aj (by omega)]
  .simp only[af e];have hk:aV ((p:Int)-3) r.1 0≠(i:Int):=by
    by_cases q:(p:Int)-3=r.1[i]
    .exact absurd ⟨by omega,by omega⟩ e
    .exact bT _ q
   by_cases c:0<=aV ((p:Int)-3) r.1 0/\aV ((p:Int)-3) r.1 0<(i:Int)
   .simp only[aj c,aj (show 0<=aV ((p:Int)-3) r.1 0/\aV ((p:Int)-3) r.1 0<((i+1:Nat):Int) by omega)]
   .simp only[af c,af (show ¬ (0<=aV ((p:Int)-3) r.1 0/\aV ((p:Int)-3) r.1 0<((i+1:Nat):Int)) by omega)]
 have n3:¬ (r.1[i]≠0/\(p:Int)=3+r.1[i]):=by omega
 simp only[af Da,af n3];by_cases Jf:p<14
 .have Wb:¬ (r.1[i]≠0/\(p:Int)=13+r.1[i]/\(i:Int)<r.2.1-1):=by omega
  simp only[aj Jf,af Wb]
 simp only[af Jf];unfold kM;by_cases e:r.1[i]≠0/\(p:Int)=13+r.1[i]
 .rw[show(p:Int)-13=r.1[i] by omega,hkey e.1];by_cases c:(i:Int)<r.2.1-1
  .simp only[aj (show 0<=(i:Int)/\(i:Int)<((i+1:Nat):Int)/\(i:Int)<r.2.1-1 by omega),aj (show r.1[i]≠0/\(p:Int)=13+r.1[i]/\(i:Int)<r.2.1-1 from⟨e.1,e.2,c⟩)]
  .simp only[af (show ¬ (0<=(i:Int)/\(i:Int)<((i+1:Nat):Int)/\(i:Int)<r.2.1-1) by omega),af (show ¬ (r.1[i]≠0/\(p:Int)=13+r.1[i]/\(i:Int)<r.2.1-1) from fun k=>c k.2.2),af (show ¬ (0<=(i:Int)/\(i:Int)<(i:Int)/\(i:Int)<r.2.1-1) by omega)]
 .simp only[af (show ¬ (r.1[i]≠0/\(p:Int)=13+r.1[i]/\(i:Int)<r.2.1-1) from fun k=>e ⟨k.1,k.2.1⟩)];have hk:aV ((p:Int)-13) r.1 0≠(i:Int)\/(p:Int)-13=0:=by
   by_cases q:(p:Int)-13=r.1[i]
   .by_cases z:r.1[i]=0
    .exact .inr (by omega)
    .exact absurd ⟨z,by omega⟩ e
   .exact .inl (bT _ q)
  by_cases c:0<=aV ((p:Int)-13) r.1 0/\aV ((p:Int)-13) r.1 0<(i:Int)/\aV ((p:Int)-13) r.1 0<r.2.1-1
  .simp only[aj c,aj (show 0<=aV ((p:Int)-13) r.1 0/\aV ((p:Int)-13) r.1 0<((i+1:Nat):Int)/\aV ((p:Int)-13) r.1 0<r.2.1-1 by omega)]
  .simp only[af c,af (show ¬ (0<=aV ((p:Int)-13) r.1 0/\aV ((p:Int)-13) r.1 0<((i+1:Nat):Int)/\aV ((p:Int)-13) r.1 0<r.2.1-1) by omega)]
theorem At(N n:Nat)(hN:4<=N)(K:qp->List Int->Option ((List Int×Unit)×Unit)){r:qp}(hr:aM r):∀(m i:Nat)(ws:List Int),i<=4->4-i<m->ws.length=20->(∀p<20,ws.getD p 0=vV r i p)->
  ∃yN,yN.length=20/\(∀p<20,yN.getD p 0=vV r 4 p)/\Rv (DD X N) n K m (i:Int) r ws=K r yN
 | 0,_,_,_,h,_,_=>by omega
 | m+1,i,ws,hi,hf,mC,hw=>by
  have hl:=hr.len;have hst:=hr.st;simp only[Rv,qzs];by_cases h:i<4
  .have hi2:i<r.1.length:=by omega
   have hv:=hr.dL r.1[i] (ef hi2);have hrow:qw (i:Int)=i:=by unfold qw;rw[kF.2 (by omega)];rfl
   have hps:=PC hX hr h hi2;rw[qf (by omega),ix hi2,aA,dQ,qv hi2,aam hX (by omega),qc,hrow];dsimp only;rw[fL (by omega) (by rw[mC];omega),aA,dQ];by_cases h0:r.1[i]=0
   .rw[qf h0,qu (by omega)];refine At N n hN K hr m (i+1) _ (by omega) (by omega) (by rw[ck];exact mC) (fun p hp=>?_);rw[hps p hp,o7 _ _ _ _ (by omega)];by_cases e:p=i
    .rw[aj e,aj (by omega),aj e]
    .rw[af e,hw p hp,af e];rw[af (show ¬ (r.1[i]≠0/\(p:Int)=3+r.1[i]) from fun k=>k.1 h0),af (show ¬ (r.1[i]≠0/\(p:Int)=13+r.1[i]/\(i:Int)<r.2.1-1) from fun k=>k.1 h0)];split<;>rfl
   .rw[qg h0,ZA hX (by omega),qc];dsimp only;have ho:=uN r.1[i];have hvi:=oC r.1[i];have oJ:q9 r.1[i]=3+r.1[i]:=by omega
    have Dz:fM r.1[i]=13+r.1[i]:=by omega
    have pP:wrap .i64 (r.2.1-1)=r.2.1-1:=qs (by omega) (by omega);rw[fL (by omega) (by rw[ck,mC];omega),aA,qu (by omega),pP,oJ];by_cases hs:(i:Int)<r.2.1-1
    .rw[qf hs,aan hX (by omega),qc];dsimp only;rw[fL (by omega) (by rw[ck,ck,mC];omega),aA,Dz];refine At N n hN K hr m (i+1) _ (by omega) (by omega) (by rw[ck,ck,ck];exact mC) (fun p hp=>?_);rw[hps p hp,o7 _ _ _ _ (by rw[ck,ck,mC];omega),o7 _ _ _ _ (by rw[ck,mC];omega),o7 _ _ _ _ (by omega),hw p hp];by_cases e3:p=(13+r.1[i]).toNat
     .rw[aj e3,af (by omega),af (by omega),aj ⟨h0,by omega,hs⟩];omega
     rw[af e3];by_cases e2:p=(3+r.1[i]).toNat
     .rw[aj e2,af (by omega),aj ⟨h0,by omega⟩];omega
     rw[af e2];by_cases e:p=i
     .simp only[aj e,aj (show p<4 by omega)]
     .simp only[af e];rw[af (show ¬ (r.1[i]≠0/\(p:Int)=3+r.1[i]) by omega),af (show ¬ (r.1[i]≠0/\(p:Int)=13+r.1[i]/\(i:Int)<r.2.1-1) by omega)];split<;>rfl
    .rw[qg hs];refine At N n hN K hr m (i+1) _ (by omega) (by omega) (by rw[ck,ck];exact mC) (fun p hp=>?_);rw[hps p hp,o7 _ _ _ _ (by rw[ck,mC];omega),o7 _ _ _ _ (by omega),hw p hp];rw[af (show ¬ (r.1[i]≠0/\(p:Int)=13+r.1[i]/\(i:Int)<r.2.1-1) by omega)];by_cases e2:p=(3+r.1[i]).toNat
     .rw[aj e2,af (by omega),aj ⟨h0,by omega⟩];omega
     rw[af e2];by_cases e:p=i
     .simp only[aj e,aj (show p<4 by omega)]
     .simp only[af e];rw[af (show ¬ (r.1[i]≠0/\(p:Int)=3+r.1[i]) by omega)];split<;>rfl
  .rw[qg (by omega)];have:i=4:=by omega
   subst this;exact⟨ws,mC,hw,rfl⟩
def we(r:qp)(i p:Nat):Int:=if 10<=p/\p<10+i then many ((p:Int)-10) r.1 else vV r 4 p
theorem Pt(N n:Nat)(hN:W+4<=N)(K:qp->List Int->Option ((List Int×Unit)×Unit)){r:qp}(hr:aM r):∀(m i:Nat)(ws:List Int),i<=3->3-i<m->ws.length=20->(∀p<20,ws.getD p 0=we r i p)->
  ∃yN,yN.length=20/\(∀p<20,yN.getD p 0=we r 3 p)/\Rw (DD X N) n K m (i:Int) r ws=K r yN
 | 0,_,_,_,h,_,_=>by omega
 | m+1,i,ws,hi,hf,mC,hw=>by
  have hl:=hr.len;have hW:=d7;simp only[Rw,qzt];by_cases h:i<3
  .have hc:=uM (i:Int);have gS:iH (i:Int)=10+i:=by omega
   rw[qf (by omega),Zz hX (by omega),qc];dsimp only;rw[ahR hX (by omega) r (by omega),qc];dsimp only;rw[fL (by omega) (by rw[mC];omega),aA,qu (by omega),gS];refine Pt N n hN K hr m (i+1) _ (by omega) (by omega) (by rw[ck];exact mC) (fun p hp=>?_);rw[o7 _ _ _ _ (by omega),hw p hp];unfold we;by_cases e:p=(10+(i:Int)).toNat
   .rw[aj e,aj (by omega),show(p:Int)-10=i by omega]
   .rw[af e];by_cases c:10<=p/\p<10+i
    .rw[aj c,aj (by omega)]
    .rw[af c,af (by omega)]
  .rw[qg (by omega)];have:i=3:=by omega
   subst this;exact⟨ws,mC,hw,rfl⟩
theorem abh(hn:W+6<=n){r:qp}(hr:aM r):∃ws:List Int,ws.length=20/\(∀p<20,ws.getD p 0=jB r p)/\WQ (DD X n) r=some ((ws,()),()):=by
 obtain⟨n,rfl⟩:∃k,n=k+1:=⟨n-1,by omega⟩
 have hW:=d7;have hst:=hr.st;rw[agc hX];simp only[Xc,XD];rw[NJ hX (by omega) hr,qc];dsimp only;rw[cE,aJ];simp only[qwx];obtain⟨w1,l1,h1,e1⟩:=At hX n n (by omega) (fun bN eD=>TK (DD X n) n (TV (DD X n) n) bN eD) hr n 0 (List.replicate (Int.toNat 20) 0) (by omega) (by omega) rfl (fun p hp=>by
  have e0:(List.replicate (Int.toNat 20) (0:Int)).getD p 0=0:=by simp only[List.getD,sI];split<;>rfl
  rw[e0];unfold vV pU kM;split
  .rfl
  .split
   .rw[af (by omega)]
   .split
    .rfl
    .rw[af (by omega)])
 rw[show((0:Nat):Int)=0 from rfl]at e1;obtain⟨w2,l2,h2,e2⟩:=Pt hX n n (by omega) (fun bN eD=>qu1 (DD X n) n bN eD) hr n 0 w1 (by omega) (by omega) l1 (fun p hp=>by
  rw[h1 p hp];unfold we;rw[af (by omega)])
 rw[show((0:Nat):Int)=0 from rfl]at e2;refine⟨w2.set 13 r.2.1,by rw[ck];exact l2,fun p hp=>?_,e1.trans ?_⟩
 .rw[o7 _ _ _ _ (by omega),h2 p hp];unfold jB we vV;have hlen:=hr.len;by_cases e:p=13
  .rw[aj e,af (by omega),af (by omega),af (by omega),aj e]
  rw[af e];by_cases a1:p<4
  .rw[af (by omega),aj a1,aj a1,aj a1]
  by_cases a2:p<10
  .rw[af (by omega),af a1,aj a2,af a1,aj a2];rfl
  by_cases a3:p<13
  .rw[aj (by omega),af a1,af a2,aj a3]
  .rw[af (by omega),af a1,af a2,af (by omega),af a1,af a2,af a3,af e];rfl
 simp only[TK,TV];rw[e2];simp only[qu1];rw[N0 hX (by omega),qc];dsimp only;rw[fL (by omega) (by rw[l2];omega),aA];rfl
end
def path(w:Int->Int):PR->List Int
 | .done=>[]
 | .ask p k=>p::path w (k (w p))
def z9(got:dY)(w:Int->Int)(L:List Int):Prop:=∀q,eO got q=if q∈L then (w q,true) else (0,false)
theorem aaH(w:Int->Int):∀(L:List Int),z9 (L.map fun p=>(p,w p,())) w L:=by
 intro L q;unfold eO;have key:∀(L:List Int)(v:Int)(ok:Bool),rd q (L.map fun p=>(p,w p,())) v ok=if q∈L then (w q,true) else (v,ok):=by
  intro L
  induction L with
  | nil=>intro v ok;simp[rd]
  | cons a L ih=>
   intro v ok;simp only[cm,rd];by_cases e:a=q
   .rw[aj e,ih];by_cases m:q∈L
    .rw[aj m,aj (cD _ m)]
    .rw[af m,aj (by rw[e];exact bO),e]
   .rw[af e,ih];by_cases m:q∈L
    .rw[aj m,aj (cD _ m)]
    .rw[af m,af (by
      intro k;rcases bk.1 k with k | k
      .exact e k.symm
      .exact m k)]
 exact key L 0 false
theorem Aq{got:dY}{w:Int->Int}{L:List Int}(h:z9 got w L){p:Int}(hp:0<=p):hit got p=decide (p∈L):=by
 unfold hit;rw[cT hp,nR,h p];by_cases m:p∈L
 .rw[aj m,cT m]
 .rw[af m,bJ m]
theorem F5{got:dY}{w:Int->Int}{L:List Int}(h:z9 got w L):∀(A B:List Int)(P:PR),path w P=A++B->(∀a∈A,a∈L)->(∀a∈A++B,0<=a)->(∀b B',B=b::B'->b∉L)->run got P=(A,B.headD (-1))
 | [],B,P,hp,_,hz,hB=>by
  cases P with
  | done=>simp only[path,gJ]at hp;subst hp;rfl
  | ask p k=>
   simp only[path,gJ]at hp;subst hp;have hm:hit got p=false:=by rw[Aq h (hz p (by simp)),bJ (hB p _ rfl)]
   rw[nD hm];rfl
 | a::A,B,P,hp,hA,hz,hB=>by
  cases P with
  | done=>simp[path]at hp
  | ask p k=>
   simp only[path,fJ,eL]at hp;obtain⟨rfl,hp⟩:=hp;have hm:hit got p=true:=by rw[Aq h (hz p (by simp)),cT (hA p bO)]
   have hv:(eO got p).1=w p:=by rw[h p,aj (hA p bO)]
   rw[nE hm,hv,F5 h A B (k (w p)) hp (fun a ha=>hA a (cD _ ha)) (fun a ha=>hz a (cD _ ha)) hB]
structure C5 (w:Int->Int) (l:List Int):Prop where
 once:l.Nodup
 dL:∀p∈l,0<=p/\p<20
 len:l.length<=8
theorem BK(w:Int->Int)(K:Int)(l:List Int):path w (tD K l)=13::(if w 13<=wrap .i64 (K+1) then [] else l.map fM):=by
 unfold tD;simp only[path];by_cases h:w 13<=wrap .i64 (K+1)
 .rw[cT h,aj h];rfl
 .rw[bJ h,af h,aW];congr 1
  induction l with
  | nil=>rfl
  | cons a l ih=>simp only[r_,path,cm,ih]
theorem Is{o:cL}(ho:cH o=true)(w:Int->Int)(hw:∀k,0<=k/\k<=3->0<=w k/\w k<=6):C5 w (path w (prog o)):=by
 have hk:=rz ho;have hr:=uW o.2.1;have hoV:=uN o.2.2.1;have hvV:=oC o.2.2.1;have ji:=yl o.2.2.1;have hcV:=uM (qh o.2.2.1);unfold prog;by_cases k1:o.1=1
 .rw[aj k1];unfold su;simp only[path];cases w (qw o.2.1) != 0
  .simp only[aW,path];cases w (q9 o.2.2.1) != 0
   .simp only[aW,path,BK,cm,fO];split
    .exact⟨by simp;omega,by simp;omega,by simp⟩
    .exact⟨by simp;omega,by simp;omega,by simp⟩
   .exact⟨by simp[path];omega,by simp[path];omega,by simp[path]⟩
  .exact⟨by simp[path],by simp[path];omega,by simp[path]⟩
 rw[af k1];by_cases k2:o.1=2
 .rw[aj k2];have hK:0<=o.2.1/\o.2.1<=3:=by omega
  have hrow:qw o.2.1=o.2.1:=by omega
  have hwv:=hw o.2.1 hK;unfold sv;simp only[path];rw[hrow];generalize w o.2.1=v at *;have hov:=uN v;have zX:=oC v;have hcv:=yl v;have U6:=uM (qh v);by_cases hb:v=0\/v=o.2.2.1
  .rw[show(bif decide (v=0) then true else decide (v=o.2.2.1))=true by
    rcases hb with h | h
    .rw[cT h];rfl
    .rw[cT h];cases decide (v=0)<;>rfl]
   exact⟨by simp[path],by simp[path];omega,by simp[path]⟩
  .rw[show(bif decide (v=0) then true else decide (v=o.2.2.1))=false by
    rw[bJ (by omega),bJ (by omega)];rfl]
   simp only[aW,path];cases w (q9 o.2.2.1) != 0
   .simp only[aW,path];cases hc:qh v != qh o.2.2.1
    .simp only[aW,path,BK,cm,fO];split
     .exact⟨by simp;omega,by simp;omega,by simp⟩
     .exact⟨by simp;omega,by simp;omega,by simp⟩
    .have hne:qh v≠qh o.2.2.1:=by simpa using hc
     simp only[bg,path,BK,cm,fO];split
     .exact⟨by simp;omega,by simp;omega,by simp⟩
     .exact⟨by simp;omega,by simp;omega,by simp⟩
   .exact⟨by simp[path];omega,by simp[path];omega,by simp[path]⟩
 rw[af k2];by_cases k3:o.1=3
 .rw[aj k3];have hK:0<=o.2.1/\o.2.1<=3:=by omega
  have hrow:qw o.2.1=o.2.1:=by omega
  have hwv:=hw o.2.1 hK;unfold uQ;simp only[path];rw[hrow];generalize w o.2.1=v at *;have hov:=uN v;have zX:=oC v;have hcv:=yl v;have U6:=uM (qh v);by_cases hb:v=0
  .rw[cT hb];exact⟨by simp[path],by simp[path];omega,by simp[path]⟩
  .rw[bJ hb];simp only[aW,path,BK,cm,fO];split
   .exact⟨by simp;omega,by simp;omega,by simp⟩
   .exact⟨by simp;omega,by simp;omega,by simp⟩
 rw[af k3];by_cases k4:o.1=4
 .rw[aj k4];exact⟨by simp[path],by simp[path];omega,by simp[path]⟩
 rw[af k4];by_cases k5:o.1=5
 .rw[aj k5];exact⟨by simp[path],by simp[path];omega,by simp[path]⟩
 rw[af k5];by_cases k6:o.1=6
 .rw[aj k6];have:=uM o.2.1;exact⟨by simp[path],by simp[path];omega,by simp[path]⟩
 rw[af k6];by_cases k7:o.1=7
 .rw[aj k7];exact⟨by simp[path,BH],by simp[path,BH],by simp[path,BH]⟩
 rw[af k7];by_cases k8:o.1=8
 .rw[aj k8];exact⟨by simp[path],by simp[path],by simp[path]⟩
 rw[af k8];by_cases k9:o.1=9
 .rw[aj k9];unfold ym;simp only[path];generalize w 13=st;by_cases hs:st<1\/st>4
  .rw[show(bif decide (st<1) then true else decide (st>4))=true by
    rcases hs with h | h
    .rw[cT h];rfl
    .rw[cT h];cases decide (st<1)<;>rfl]
   exact⟨by simp[path],by simp[path],by simp[path]⟩
  .rw[show(bif decide (st<1) then true else decide (st>4))=false by
    rw[bJ (by omega),bJ (by omega)];rfl]
   have pP:wrap .i64 (st-1)=st-1:=qs (by omega) (by omega);have VQ:=uW (st-1);simp only[aW,path];rw[pP];have hp:qw (st-1)=st-1:=by omega
   rw[hp];cases hin:bq (w (st-1)) 1 6
   .exact⟨by simp[path];omega,by simp[path];omega,by simp[path]⟩
   .have hi:=kF.1 hin;have zX:=oC (w (st-1));simp only[cE,aW,path];exact⟨by simp;omega,by simp;omega,by simp⟩
 rw[af k9];have gO:o.1=10:=by omega
 rw[aj gO];unfold vN;simp only[path];cases w 13 != 5
 .simp only[aW,path];exact⟨by simp;omega,by simp;omega,by simp⟩
 .exact⟨by simp[path],by simp[path],by simp[path]⟩
theorem O8{α:Type}(key:α->Int):∀(L acc:List α),(L.foldl (jF key) acc).length=acc.length+L.length
 | [],acc=>rfl
 | e::L,acc=>by rw[mA,O8 key L,xC,ct];omega
theorem AL(w:Int->Int)(K:Int)(l:List Int):∀p∈path w (tD K l),p=13\/p∈l.map fM:=by
 intro p hp;rw[BK]at hp;rcases bk.1 hp with h | h
 .exact .inl h
 .split at h
  .simp at h
  .exact .inr h
theorem Qs{o:cL}(ho:cH o=true){got:dY}{w:Int->Int}(hw:∀k,0<=k/\k<=3->0<=w k/\w k<=6)(hk:z9 got w (path w (prog o)))(hn:mc o got=none)(eG:o.1=1\/o.1=2\/o.1=3) :
  val got (qw o.2.1)=w o.2.1/\∀p∈path w (prog o),p∈(eX o.2.1 o.2.2.1 (w o.2.1) (val got 13)).map (·.1):=by
 have qX:=rz ho;have hr:=uW o.2.1;have hrow:qw o.2.1=o.2.1:=by omega
 have ji:=yl o.2.2.1;have SK:=hw o.2.1 (by omega);have Vf:∃P,path w (prog o)=qw o.2.1::P:=by
  unfold prog;rcases eG with k | k | k
  .rw[aj k];exact⟨_,rfl⟩
  .rw[af (by omega),aj k];exact⟨_,rfl⟩
  .rw[af (by omega),af (by omega),aj k];exact⟨_,rfl⟩
 obtain⟨P,hP⟩:=Vf;have hval:val got (qw o.2.1)=w o.2.1:=by unfold val;rw[hk (qw o.2.1),aj (by rw[hP];exact bO),hrow]
 refine⟨hval,?_⟩;have hrd:(eO got (qw o.2.1)).1=w o.2.1:=hval;unfold mc at hn;rw[hrd]at hn;unfold jr at hn;unfold prog at hk⊢;rcases eG with k | k | k
 .rw[aj k]at hk⊢;by_cases c1:w o.2.1≠0
  .rw[aj ⟨k,c1⟩]at hn;cases hn
  have B9:w o.2.1=0:=by omega
  rw[af (fun q=>c1 q.2)]at hn;have gZ:path w (su o)=qw o.2.1::q9 o.2.2.1::(bif w (q9 o.2.2.1) != 0 then [] else iH (qh o.2.2.1)::path w (tD o.2.1 [o.2.2.1])):=by unfold su;simp only[path];rw[hrow,B9];simp only[bA,oP,cE,aW,path];cases decide (w (q9 o.2.2.1)=0)<;>rfl
  rw[gZ]at hk⊢;have hown:(eO got (q9 o.2.2.1)).1=w (q9 o.2.2.1):=by rw[hk,aj (by simp)]
  rw[hown]at hn;by_cases c2:w (q9 o.2.2.1)≠0
  .rw[aj ⟨k,c2⟩]at hn;cases hn
  have Uy:w (q9 o.2.2.1)=0:=by omega
  rw[Uy,show((0:Int) != 0)=false by decide,aW];have hz:qh 0 = -1:=by decide
  have lJ:(qh (w o.2.1) != qh o.2.2.1)=true:=by rw[B9,hz,bA,bJ (by omega)];rfl
  intro p hp;unfold eX;rw[lJ,bg];simp only[fJ,gJ,cm,fO,bk,c_,dg];simp only[bk]at hp;rcases hp with h | h | h | h
  .exact .inl h
  .exact .inr (.inr (.inr (.inr (.inl h))))
  .exact .inr (.inr (.inr (.inr (.inr (.inr (.inr h))))))
  .rcases AL w _ _ p h with h | h
   .exact .inr (.inl h)
   .simp only[cm,fO,bk,c_,dg]at h;exact .inr (.inr (.inr (.inr (.inr (.inl h)))))
 .rw[af (by omega),aj k]at hk⊢;rw[af (by omega),af (by omega)]at hn;by_cases c1:w o.2.1=0
  .rw[aj ⟨.inl k,c1⟩]at hn;cases hn
  rw[af (fun q=>c1 q.2)]at hn;by_cases c3:w o.2.1=o.2.2.1
  .rw[aj ⟨k,c3⟩]at hn;cases hn
  rw[af (fun q=>c3 q.2)]at hn;have gZ:path w (sv o)=qw o.2.1::q9 o.2.2.1::(bif w (q9 o.2.2.1) != 0 then [] else q9 (w o.2.1)::(bif qh (w o.2.1) != qh o.2.2.1 then iH (qh (w o.2.1))::iH (qh o.2.2.1)::path w (tD o.2.1 [w o.2.1,o.2.2.1]) else path w (tD o.2.1 [w o.2.1,o.2.2.1]))):=by
   unfold sv;simp only[path];rw[hrow,bJ c1,bJ c3];simp only[aW,path];cases w (q9 o.2.2.1) != 0
   .simp only[aW,path];cases qh (w o.2.1) != qh o.2.2.1<;>rfl
   .rfl
  rw[gZ]at hk⊢;have hown:(eO got (q9 o.2.2.1)).1=w (q9 o.2.2.1):=by rw[hk,aj (by simp)]
  rw[hown]at hn;by_cases c2:w (q9 o.2.2.1)≠0
  .rw[aj ⟨k,c2⟩]at hn;cases hn
  have Uy:w (q9 o.2.2.1)=0:=by omega
  rw[Uy,show((0:Int) != 0)=false by decide,aW];intro p hp;unfold eX;cases lJ:qh (w o.2.1) != qh o.2.2.1
  .rw[lJ,aW]at hp;rw[aW];simp only[gr,cm,fO,bk,c_,dg];simp only[bk]at hp;rcases hp with h | h | h | h
   .exact .inl h
   .exact .inr (.inr (.inr (.inr (.inl h))))
   .exact .inr (.inr (.inl h))
   .rcases AL w _ _ p h with h | h
    .exact .inr (.inl h)
    .simp only[cm,fO,bk,c_,dg]at h;rcases h with h | h
     .exact .inr (.inr (.inr (.inl h)))
     .exact .inr (.inr (.inr (.inr (.inr h))))
  .rw[lJ,bg]at hp;rw[bg];simp only[fJ,gJ,cm,fO,bk,c_,dg];simp only[bk]at hp;rcases hp with h | h | h | h | h | h
   .exact .inl h
   .exact .inr (.inr (.inr (.inr (.inl h))))
   .exact .inr (.inr (.inl h))
   .exact .inr (.inr (.inr (.inr (.inr (.inr (.inl h))))))
   .exact .inr (.inr (.inr (.inr (.inr (.inr (.inr h))))))
   .rcases AL w _ _ p h with h | h
    .exact .inr (.inl h)
    .simp only[cm,fO,bk,c_,dg]at h;rcases h with h | h
     .exact .inr (.inr (.inr (.inl h)))
     .exact .inr (.inr (.inr (.inr (.inr (.inl h)))))
 .rw[af (by omega),af (by omega),aj k]at hk⊢;rw[af (by omega),af (by omega)]at hn;by_cases c1:w o.2.1=0
  .rw[aj ⟨.inr (.inl k),c1⟩]at hn;cases hn
  have gZ:path w (uQ o)=qw o.2.1::q9 (w o.2.1)::iH (qh (w o.2.1))::path w (tD o.2.1 [w o.2.1]):=by unfold uQ;simp only[path];rw[hrow,bJ c1];simp only[aW,path]
  rw[gZ];have hV:o.2.2.1=0:=by omega
  have hz:qh 0 = -1:=by decide
  have hck:=yl (w o.2.1);have lJ:(qh (w o.2.1) != qh o.2.2.1)=true:=by rw[hV,hz,bA,bJ (by omega)];rfl
  intro p hp;unfold eX;rw[lJ,bg];simp only[fJ,gJ,cm,fO,bk,c_,dg];simp only[bk]at hp;rcases hp with h | h | h | h
  .exact .inl h
  .exact .inr (.inr (.inl h))
  .exact .inr (.inr (.inr (.inr (.inr (.inr (.inl h))))))
  .rcases AL w _ _ p h with h | h
   .exact .inr (.inl h)
   .simp only[cm,fO,bk,c_,dg]at h;exact .inr (.inr (.inr (.inl h)))
theorem Pe{l:List eB}(h:lH l):(l.map (·.1)).Nodup:=by rw[List.Nodup,Af];exact h.imp fun {a b} hab=>by omega
theorem Ll{o:cL}(ho:cH o=true){got:dY}{w:Int->Int}(hw:∀k,0<=k/\k<=3->0<=w k/\w k<=6)(hk:z9 got w (path w (prog o)))(hrun:run got (prog o)=(path w (prog o),-1))(hn:mc o got=none) :
  (∀p∈path w (prog o),∃e∈dw o got,e.1=p/\e.2.1=w p)/\(dw o got).length=(path w (prog o)).length:=by
 have hpk:=Is ho w hw;have HZ:∀p∈path w (prog o),val got p=w p:=fun p hp=>by unfold val;rw[hk p,aj hp]
 have zO:∀p,0<=p->(hit got p=true↔p∈path w (prog o)):=fun p hp=>by rw[Aq hk hp,gI]
 by_cases eG:o.1=1\/o.1=2\/o.1=3
 .obtain⟨hv,hsub⟩:=Qs ho hw hk hn eG;have hne:=xH ho hn eG;have hE:dw o got=(g_ got (eX o.2.1 o.2.2.1 (w o.2.1) (val got 13))).foldl gU []:=by unfold dw;rw[aj eG,hv]
  rw[hv]at hne;obtain⟨_,r2,r3,r4⟩:=KB (got:=got) (K:=o.2.1) (V:=o.2.2.1) (held:=w o.2.1) (st:=val got 13) hne;rw[hE];have hA:∀p∈path w (prog o),∃e∈(g_ got (eX o.2.1 o.2.2.1 (w o.2.1) (val got 13))).foldl gU [],e.1=p/\e.2.1=w p:=by intro p hp;obtain⟨q,hq,rfl⟩:=eE.1 (hsub p hp);have hh:=(zO q.1 (hpk.dL q.1 hp).1).2 hp;exact⟨_,(r3 _).2 ((Ig got _ _).2 ⟨q,hq,hh,rfl⟩),rfl,HZ q.1 hp⟩
  refine⟨hA,?_⟩;have JP:(((g_ got (eX o.2.1 o.2.2.1 (w o.2.1) (val got 13))).foldl gU []).map (·.1)).Perm (path w (prog o)):=by
   rw[LN (Pe r2) hpk.once];intro p;constructor
   .intro hp;obtain⟨e,he,rfl⟩:=eE.1 hp;obtain⟨q,_,hh,rfl⟩:=(Ig got _ _).1 ((r3 _).1 he);exact(zO q.1 (AS hh)).1 hh
   .intro hp;obtain⟨e,he,h1,_⟩:=hA p hp;exact eE.2 ⟨e,he,h1⟩
  have:=JP.length_eq;rw[jw]at this;exact this
 .have hneg:(run got (prog o)).2<0:=by rw[hrun];show(-1:Int)<0;omega
  obtain⟨_,pl⟩:=FJ ho hn hneg eG;have JS:(run got (prog o)).1=path w (prog o):=by rw[hrun]
  rw[JS]at pl;have hmem:∀L:List Int,(path w (prog o)).foldl (jF fC) []=L->(∀p∈path w (prog o),p∈L)/\L.length=(path w (prog o)).length:=by
   intro L hL;refine⟨fun p hp=>?_,?_⟩
   .rw[<-hL,Fz];exact .inr hp
   .rw[<-hL,O8];simp
  unfold dw;rw[af eG];rcases pl with⟨k,hp⟩ | ⟨k,hz,hp⟩ | ⟨k,hz,hp⟩ | ⟨k,hp⟩
  .obtain⟨m1,m2⟩:=hmem _ hp;rw[aj k];refine⟨fun p wT=>?_,by rw[<-m2];rfl⟩;have h2:=m1 p wT;have hv:=HZ p wT;simp only[bk,c_,dg]at h2;rcases h2 with rfl | rfl | rfl | rfl
   .exact⟨same got 0,by simp,rfl,hv⟩
   .exact⟨same got 1,by simp,rfl,hv⟩
   .exact⟨same got 2,by simp,rfl,hv⟩
   .exact⟨same got 3,by simp,rfl,hv⟩
  .obtain⟨m1,m2⟩:=hmem _ hp;rw[af (by omega),aj k];refine⟨fun p wT=>?_,by rw[<-m2];rfl⟩;have h2:=m1 p wT;have hv:=HZ p wT;simp only[bk,c_,dg]at h2;subst h2;exact⟨_,er.2 rfl,rfl,hv⟩
  .obtain⟨m1,m2⟩:=hmem _ hp;rw[af (by omega),af (by omega),aj k];generalize qw (wrap .i64 (val got 13-1))=q at *;refine⟨fun p wT=>?_,by rw[<-m2];cases bq (val got q) 1 6<;>rfl⟩;have h2:=m1 p wT;have hv:=HZ p wT;simp only[bk]at h2;rcases h2 with rfl | rfl | h2
   .exact⟨same got p,bO,rfl,hv⟩
   .exact⟨_,cD _ bO,rfl,hv⟩
   .cases hin:bq (val got q) 1 6
    .rw[hin]at h2;simp at h2
    .rw[hin,bg,er]at h2;subst h2;exact⟨_,cD _ (cD _ (by rw[bg];exact er.2 rfl)),rfl,hv⟩
  .obtain⟨m1,m2⟩:=hmem _ hp;rw[af (by omega),af (by omega),af (by omega),aj k];refine⟨fun p wT=>?_,by rw[<-m2];rfl⟩;have h2:=m1 p wT;have hv:=HZ p wT;simp only[bk,c_,dg]at h2;rcases h2 with rfl | rfl
   .exact⟨same got 13,by simp,rfl,hv⟩
   .exact⟨same got (fM o.2.2.1),by simp,rfl,hv⟩
def cj(r:qp)(p:Int):Int:=jB r p.toNat
theorem uR{r:qp}(hr:aM r){k:Int}(hk:0<=k/\k<=3):cj r k=r.1.getD k.toNat 0/\0<=cj r k/\cj r k<=6:=by
 have hl:=hr.len;have e:cj r k=r.1.getD k.toNat 0:=by unfold cj jB;rw[aj (by omega)]
 refine⟨e,?_⟩;rw[e,qv (by omega)];exact hr.dL _ (ef _)
def fo(r:qp)(o:cL):dY:=(path (cj r) (prog o)).map fun p=>(p,cj r p,())
theorem EK(r:qp)(o:cL):z9 (fo r o) (cj r) (path (cj r) (prog o)):=aaH _ _
theorem FC{r:qp}(hr:aM r){o:cL}(ho:cH o=true):run (fo r o) (prog o)=(path (cj r) (prog o),-1):=by have hpk:=Is ho (cj r) (fun k hk=>(uR hr hk).2);exact F5 (EK r o) (path (cj r) (prog o)) [] (prog o) (by rw[gr]) (fun a ha=>ha) (fun a ha=>(hpk.dL a (by simpa using ha)).1) (fun b B' h=>by cases h)
section
variable {X:Ext} (hX:fR X) {n:Nat}
include hX
end
inductive Out (r:qp) (o:cL):Int->List Int->Prop
 | xu:o.1=1->r.1.getD o.2.1.toNat 0≠0->Out r o 1 []
 | xw:o.1=1->0<=aV o.2.2.1 r.1 0->Out r o 2 []
 | xq:o.1=1->r.1.getD o.2.1.toNat 0=0->aV o.2.2.1 r.1 0<0->Out r o 0 []
 | yJ:o.1=2->r.1.getD o.2.1.toNat 0=0->Out r o 3 []
 | u_:o.1=2->r.1.getD o.2.1.toNat 0≠0->r.1.getD o.2.1.toNat 0=o.2.2.1->Out r o 0 []
 | yI:o.1=2->0<=aV o.2.2.1 r.1 0->Out r o 2 []
 | yH:o.1=2->r.1.getD o.2.1.toNat 0≠0->r.1.getD o.2.1.toNat 0≠o.2.2.1->aV o.2.2.1 r.1 0<0->Out r o 0 []
 | zD:o.1=3->r.1.getD o.2.1.toNat 0=0->Out r o 3 []
 | zC:o.1=3->r.1.getD o.2.1.toNat 0≠0->Out r o 0 []
 | zG:o.1=4->r.1.getD o.2.1.toNat 0=0->Out r o 3 []
 | zF:o.1=4->r.1.getD o.2.1.toNat 0≠0->Out r o 0 [r.1.getD o.2.1.toNat 0]
 | sO:o.1=5->aV o.2.2.1 r.1 0<0->Out r o 3 []
 | sN:o.1=5->0<=aV o.2.2.1 r.1 0->Out r o 0 [aV o.2.2.1 r.1 0]
 | zB:o.1=6->Out r o 0 [many o.2.1 r.1]
 | yG:o.1=7->Out r o 0 r.1
 | pT:o.1=8->r.2.1≠0->Out r o 4 []
 | tf:o.1=8->r.2.1=0->Out r o 0 []
 | ou:o.1=9->r.2.1=0\/r.2.1=5->Out r o 4 []
 | tc:o.1=9->1<=r.2.1/\r.2.1<=4->Out r o 0 []
 | B6:o.1=10->r.2.1≠5->Out r o 4 []
 | HL:o.1=10->r.2.1=5->aV o.2.2.1 r.1 0<0->Out r o 3 []
 | HK:o.1=10->r.2.1=5->0<=aV o.2.2.1 r.1 0->Out r o 0 [aV o.2.2.1 r.1 0]
theorem HA{r:qp}(hr:aM r){v:Int}(hv:1<=v/\v<=6):cj r (q9 v)=aV v r.1 0+1:=by
 have ho:=uN v;have hl:=hr.len;have hk:=vO v r.1 0;have e:q9 v=3+v:=by omega
 unfold cj jB;rw[e,af (by omega),aj (by omega)];unfold pU;rw[show(((3+v).toNat:Nat):Int)-3=v by omega];by_cases h:0<=aV v r.1 0/\aV v r.1 0<4
 .rw[aj h]
 .rw[af h];omega
theorem CP(r:qp):cj r 13=r.2.1:=rfl
theorem Pq{r:qp}{c:Int}(hc:0<=c/\c<=2):cj r (iH c)=many c r.1:=by
 have ho:=uM c;have e:iH c=10+c:=by omega
 unfold cj jB;rw[e,af (by omega),af (by omega),aj (by omega),show(((10+c).toNat:Nat):Int)-10=c by omega]
theorem ajk{r:qp}{v:Int}(hv:1<=v/\v<=6):cj r (fM v)=kM v r.1 4 r.2.1:=by
 have ho:=oC v;have e:fM v=13+v:=by omega
 unfold cj jB;rw[e,af (by omega),af (by omega),af (by omega),af (by omega),show(((13+v).toNat:Nat):Int)-13=v by omega]
theorem aj_{l:List Int}(h:l.length=4):l=[l.getD 0 0,l.getD 1 0,l.getD 2 0,l.getD 3 0]:=by
 match l,h with
 | [a,b,c,d],_=>rfl
theorem LD{r:qp}(hr:aM r){o:cL}(ho:cH o=true):Out r o (g7 o (fo r o)).1.2.1.1 (g7 o (fo r o)).1.2.1.2.1:=by
 have qX:=rz ho;have hrun:=FC hr ho;have hkn:=EK r o;have gi:cH o=true/\(run (fo r o) (prog o)).2<0:=⟨ho,by rw[hrun];show(-1:Int)<0;omega⟩
 have hst:=hr.st;have hl:=hr.len;have hrd:∀p,p∈path (cj r) (prog o)->(eO (fo r o) p).1=cj r p:=fun p hp=>by rw[hkn p,aj hp]
 have hrow:=uW o.2.1;unfold g7;rw[aj gi];by_cases k1:o.1=1
 .have hK:qw o.2.1=o.2.1:=by omega
  have hw:=uR hr (k:=o.2.1) (by omega);have hp:prog o=su o:=by unfold prog;rw[aj k1]
  have m1:qw o.2.1∈path (cj r) (prog o):=by rw[hp];unfold su;simp only[path];exact bO
  have r1:=hrd _ m1;rw[hK,hw.1]at r1;unfold mc;rw[hK,r1];unfold jr;by_cases c1:r.1.getD o.2.1.toNat 0≠0
  .rw[aj ⟨k1,c1⟩];exact .xu k1 c1
  have B9:r.1.getD o.2.1.toNat 0=0:=by omega
  rw[af (fun q=>c1 q.2)];have m2:q9 o.2.2.1∈path (cj r) (prog o):=by rw[hp];unfold su;simp only[path];rw[hK,hw.1,B9];simp only[bA,oP,cE,aW,path];simp
  rw[hrd _ m2,HA hr (by omega)];by_cases c2:aV o.2.2.1 r.1 0+1≠0
  .rw[aj ⟨k1,c2⟩];exact .xw k1 (by have:=vO o.2.2.1 r.1 0;omega)
  rw[af (fun q=>c2 q.2),af (by omega),af (by omega),af (by omega),af (by omega),af (by omega),af (by omega),af (by omega),af (by omega),af (by omega),af (by omega)];dsimp only;unfold eC;rw[af (by omega),af (by omega)];exact .xq k1 B9 (by omega)
 by_cases k2:o.1=2
 .have hK:qw o.2.1=o.2.1:=by omega
  have hw:=uR hr (k:=o.2.1) (by omega);have hp:prog o=sv o:=by unfold prog;rw[af k1,aj k2]
  have m1:qw o.2.1∈path (cj r) (prog o):=by rw[hp];unfold sv;simp only[path];exact bO
  have r1:=hrd _ m1;rw[hK,hw.1]at r1;unfold mc;rw[hK,r1];unfold jr;rw[af (by omega),af (by omega)];by_cases c1:r.1.getD o.2.1.toNat 0=0
  .rw[aj ⟨.inl k2,c1⟩];exact .yJ k2 c1
  rw[af (fun q=>c1 q.2)];by_cases c3:r.1.getD o.2.1.toNat 0=o.2.2.1
  .rw[aj ⟨k2,c3⟩];exact .u_ k2 c1 c3
  rw[af (fun q=>c3 q.2)];have m2:q9 o.2.2.1∈path (cj r) (prog o):=by rw[hp];unfold sv;simp only[path];rw[hK,hw.1,bJ c1,bJ c3];simp only[aW,path];simp
  rw[hrd _ m2,HA hr (by omega)];by_cases c2:aV o.2.2.1 r.1 0+1≠0
  .rw[aj ⟨k2,c2⟩];exact .yI k2 (by have:=vO o.2.2.1 r.1 0;omega)
  rw[af (fun q=>c2 q.2),af (by omega),af (by omega),af (by omega),af (by omega),af (by omega),af (by omega),af (by omega)];dsimp only;unfold eC;rw[af (by omega),af (by omega)];exact .yH k2 c1 c3 (by omega)
 by_cases Cs:o.1=3\/o.1=4
 .have hK:qw o.2.1=o.2.1:=by omega
  have hw:=uR hr (k:=o.2.1) (by omega);have m1:qw o.2.1∈path (cj r) (prog o):=by
   unfold prog;rw[af k1,af k2];rcases Cs with k | k
   .rw[aj k];unfold uQ;simp only[path];exact bO
   .rw[af (by omega),aj k];simp only[path];exact bO
  have r1:=hrd _ m1;rw[hK,hw.1]at r1;unfold mc;rw[hK,r1];unfold jr;rw[af (by omega),af (by omega)];by_cases c1:r.1.getD o.2.1.toNat 0=0
  .rw[aj ⟨.inr Cs,c1⟩];rcases Cs with k | k
   .exact .zD k c1
   .exact .zG k c1
  rw[af (fun q=>c1 q.2),af (by omega),af (by omega)];rcases Cs with k | k
  .rw[af (by omega),af (by omega),af (by omega),af (by omega),af (by omega),af (by omega),af (by omega)];dsimp only;unfold eC;rw[af (by omega),af (by omega)];exact .zC k c1
  .rw[aj k];exact .zF k c1
 by_cases k5:o.1=5
 .have m1:q9 o.2.2.1∈path (cj r) (prog o):=by unfold prog;rw[af k1,af k2,af (by omega),af (by omega),aj k5];simp only[path];exact bO
  have hk:=vO o.2.2.1 r.1 0;unfold mc;rw[hrd _ m1,HA hr (by omega)];unfold jr;rw[af (by omega),af (by omega),af (by omega),af (by omega),af (by omega),af (by omega)];by_cases c:aV o.2.2.1 r.1 0+1=0
  .rw[aj ⟨k5,c⟩];exact .sO k5 (by omega)
  .rw[af (fun q=>c q.2),aj k5];dsimp only;rw[show aV o.2.2.1 r.1 0+1-1=aV o.2.2.1 r.1 0 by omega,qs (by omega) (by omega)];exact .sN k5 (by omega)
 by_cases k6:o.1=6
 .have m1:iH o.2.1∈path (cj r) (prog o):=by unfold prog;rw[af k1,af k2,af (by omega),af (by omega),af k5,aj k6];simp only[path];exact bO
  unfold mc;rw[hrd _ m1,Pq (by omega)];unfold jr;rw[af (by omega),af (by omega),af (by omega),af (by omega),af (by omega),af (by omega),af (by omega),af k5,aj k6];exact .zB k6
 by_cases k7:o.1=7
 .have hp:prog o=BH:=by unfold prog;rw[af k1,af k2,af (by omega),af (by omega),af k5,af k6,aj k7]
  unfold mc jr;rw[af (by omega),af (by omega),af (by omega),af (by omega),af (by omega),af (by omega),af (by omega),af k5,af k6,af (by omega),af (by omega),af (by omega)];dsimp only;unfold eC;rw[aj k7];have hv:∀p:Int,0<=p/\p<=3->val (fo r o) p=r.1.getD p.toNat 0:=fun p Dw=>by
   unfold val;rw[hrd p (by rw[hp];unfold BH;simp only[path,bk,c_,dg];omega)];exact(uR hr Dw).1
  dsimp only;rw[hv 0 (by omega),hv 1 (by omega),hv 2 (by omega),hv 3 (by omega)];have:=aj_ hl;have e:[r.1.getD (0:Int).toNat 0,r.1.getD (1:Int).toNat 0,r.1.getD (2:Int).toNat 0,r.1.getD (3:Int).toNat 0]=r.1:=this.symm;rw[e];exact .yG k7
 have m13:(13:Int)∈path (cj r) (prog o):=by
  unfold prog;rw[af k1,af k2,af (by omega),af (by omega),af k5,af k6,af k7];by_cases k8:o.1=8
  .rw[aj k8];simp only[path];exact bO
  by_cases k9:o.1=9
  .rw[af k8,aj k9];unfold ym;simp only[path];exact bO
  .rw[af k8,af k9,aj (by omega)];unfold vN;simp only[path];exact bO
 unfold mc;rw[hrd _ m13,CP];unfold jr;rw[af (by omega),af (by omega),af (by omega),af (by omega),af (by omega),af (by omega),af (by omega),af k5,af k6];by_cases k8:o.1=8
 .by_cases c:r.2.1≠0
  .rw[aj ⟨k8,c⟩];exact .pT k8 c
  .rw[af (fun q=>c q.2),af (by omega),af (by omega)];dsimp only;unfold eC;rw[af (by omega),af (by omega)];exact .tf k8 (by omega)
 rw[af (by omega)];by_cases k9:o.1=9
 .by_cases c:r.2.1<1\/r.2.1>4
  .rw[aj ⟨k9,c⟩];exact .ou k9 (by omega)
  .rw[af (fun q=>c q.2),af (by omega)];dsimp only;unfold eC;rw[af (by omega),af (by omega)];exact .tc k9 (by omega)
 rw[af (by omega)];have gO:o.1=10:=by omega
 by_cases c:r.2.1≠5
 .rw[aj ⟨gO,c⟩];exact .B6 gO c
 rw[af (fun q=>c q.2)];have c5:r.2.1=5:=by omega
 have mv:fM o.2.2.1∈path (cj r) (prog o):=by unfold prog;rw[af k1,af k2,af (by omega),af (by omega),af k5,af k6,af k7,af k8,af k9,aj gO];unfold vN;simp only[path];rw[CP,c5];simp only[show((5:Int) != 5)=false by decide,aW,path];simp
 have hk:=vO o.2.2.1 r.1 0;have zX:val (fo r o) (fM o.2.2.1)=aV o.2.2.1 r.1 0+1:=by
  unfold val;rw[hrd _ mv,ajk (by omega)];unfold kM;by_cases q:0<=aV o.2.2.1 r.1 0/\aV o.2.2.1 r.1 0<4/\aV o.2.2.1 r.1 0<r.2.1-1
  .rw[aj q]
  .rw[af q];omega
 dsimp only;unfold eC;rw[af k7,aj gO,zX];by_cases q:aV o.2.2.1 r.1 0+1=0
 .rw[aj q];exact .HL gO c5 (by omega)
 .rw[af q];dsimp only;rw[show aV o.2.2.1 r.1 0+1-1=aV o.2.2.1 r.1 0 by omega,qs (by omega) (by omega)];exact .HK gO c5 (by omega)
theorem Ap(v:Int):∀(l:List Int)(i:Nat),v∉l->aV v l i = -1
 | [],i,_=>rfl
 | x::l,i,h=>by
  simp only[aV];rw[af (fun e=>h (by rw[e];exact bO)),Ap v l (i+1) (fun m=>h (cD _ m))]
section
variable {X:Ext} (hX:fR X) {n:Nat}
include hX
theorem Lr(D:Den ctx)(n:Nat)(K0:Int->Option ((Int×Unit)×Unit))(K1:Option ((Int×Unit)×Unit))(hK:K0 (-1)=K1)(l:List Int)(hl:l.length<=1000)(v:Int):∀(m i:Nat),i<=l.length->l.length-i<m->
  QY D n K0 K1 m l v (l.length:Int) (i:Int)=K0 (aV v (l.drop i) i)
 | 0,_,_,h=>by omega
 | m+1,i,hi,hf=>by
  simp only[QY,qlr];by_cases h:i<l.length
  .rw[qf (by omega),ix h,aA,dQ,qv h,rf h];simp only[aV];by_cases e:l[i]=v
   .rw[qf e.symm,aj e]
   .rw[qg (fun k=>e k.symm),af e,qu (by omega)];exact Lr D n K0 K1 hK l hl v m (i+1) (by omega) (by omega)
  .rw[qg (by omega),rm h];exact hK.symm
theorem K3(hn:W+1<=n)(l:List Int)(hl:l.length<=1000)(v:Int):Tw (DD X n) l v=some ((aV v l 0,()),()):=by
 obtain⟨n,rfl⟩:∃k,n=k+1:=⟨n-1,by omega⟩
 have hW:=d7;rw[abZ hX];simp only[qmt,qm0,qlf];have e:=Lr hX (DD X n) n (fun bN=>qrf (DD X n) n bN) (qrg (DD X n) n) rfl l hl v n 0 (by omega) (by omega);rw[show((0:Nat):Int)=0 from rfl]at e;rw[e];rfl
theorem K7(hn:W+2<=n)(r:qp)(hr:r.1.length<=1000)(v:Int):Ui (DD X n) r v=some ((aV v r.1 0,()),()):=by
 obtain⟨n,rfl⟩:∃k,n=k+1:=⟨n-1,by omega⟩
 rw[ais hX];simp only[YC,NB];rw[K3 hX (by omega) r.1 hr,qc]
theorem Ot(hn:W+2<=n)(l:List Int)(hl:l.length<=1000)(v:Int)(h:v∉l):Ts (DD X n) l v=some ((false,()),()):=by
 obtain⟨n,rfl⟩:∃k,n=k+1:=⟨n-1,by omega⟩
 rw[q65 hX];simp only[qkg,qq8];rw[K3 hX (by omega) l hl,qc,Ap v l 0 h];rfl
theorem Ft(N n:Nat)(hN:W+3<=N)(K0:Bool->qp->Option ((Bool×Unit)×Unit))(K1:qp->Option ((Bool×Unit)×Unit)){r:qp}(hr:aM r):∀(m i:Nat),i<=r.1.length->r.1.length-i<m->
  RE (DD X N) n K0 K1 m r.1 (r.1.length:Int) (i:Int) r=K1 r
 | 0,_,_,h=>by omega
 | m+1,i,hi,hf=>by
  have hl:=hr.len;have hW:=d7;simp only[RE,Xt];by_cases h:i<r.1.length
  .rw[qf (by omega),ix h,aA,dQ,qv h];by_cases e:r.1[i]=0
   .rw[bA,cT e,cE,aJ,qu (by omega)];exact Ft N n hN K0 K1 hr m (i+1) (by omega) (by omega)
   .have hv:=hr.dL r.1[i] (ef h);rw[bA,bJ e,gf,aA,Hz hX (by omega),qc];dsimp only;rw[kF.2 (by omega),cE,aJ];rw[show(decide ((0:Nat)<=0)&&decide ((0:Int)<=(i:Int))&&decide ((i:Int)<=(r.1.length:Int)))=true by
     rw[cT (by omega:(0:Int)<=(i:Int)),cT (by omega:(i:Int)<=(r.1.length:Int))];rfl]
    rw[aA,Int.toNat_zero,iD];have hnot:r.1[i]∉r.1.take i:=fun hm=>by
     obtain⟨j,hj⟩:=lE.1 hm;rw[fk]at hj;split at hj
     .exact e (hr.once j i (by assumption) _ hj (fN h))
     .simp at hj
    rw[Ot hX (by omega) _ (by rw[cY];omega) _ hnot,qc];dsimp only;rw[aJ,qu (by omega)];exact Ft N n hN K0 K1 hr m (i+1) (by omega) (by omega)
  .rw[qg (by omega)]
theorem Kz(hn:W+4<=n){r:qp}(hr:aM r):IW (DD X n) r=some ((true,()),()):=by
 obtain⟨n,rfl⟩:∃k,n=k+1:=⟨n-1,by omega⟩
 have hW:=d7;have hl:=hr.len;rw[ahD hX];simp only[X8,Yn,qys];have e:=Ft hX n n (by omega) (fun bN eD=>q88 (DD X n) n bN eD) (fun sF=>qwd (DD X n) n sF) hr n 0 (by omega) (by omega);rw[show((0:Nat):Int)=0 from rfl]at e;rw[e];simp only[qwd];rw[qf (by omega),lN hX (by omega),qc,kF.2 hr.st]
theorem SR(N n:Nat)(hN:4<=N)(K:Int->Option ((Int×Unit)×Unit))(l:List Int)(hr:l.length<=1000)(c:Int):∀(m i:Nat)(a:Int),i<=l.length->l.length-i<m->0<=a/\a<=i->
  RF (DD X N) n K m c a l (l.length:Int) (i:Int)=K (a+many c (l.drop i))
 | 0,_,_,_,h,_=>by omega
 | m+1,i,a,hi,hf,ha=>by
  simp only[RF,qxw];by_cases h:i<l.length
  .rw[qf (by omega),ix h,aA,dQ,qv h,Hz hX (by omega),qc,rf h];simp only[many];cases hv:bq l[i] 1 6
   .rw[aJ,qu (by omega),SR N n hN K l hr c m (i+1) _ (by omega) (by omega) (by omega)];congr 1;simp only[Bool.false_and,aW];omega
   .rw[aA,Ht hX (by omega),qc];dsimp only;by_cases e:qh l[i]=c
    .rw[qf e,qs (by omega) (by omega),qu (by omega),SR N n hN K l hr c m (i+1) _ (by omega) (by omega) (by omega)];congr 1;simp only[e,nR,oP,bg];omega
    .rw[qg e,qu (by omega),SR N n hN K l hr c m (i+1) _ (by omega) (by omega) (by omega)];congr 1;simp only[bJ e,nR,aW];omega
  .rw[qg (by omega),rm h];congr 1;simp[many]
theorem q7j(hn:W+1<=n)(r:qp)(hr:r.1.length<=1000)(c:Int):qyh (DD X n) r c=some ((many c r.1,()),()):=by
 obtain⟨n,rfl⟩:∃k,n=k+1:=⟨n-1,by omega⟩
 have hW:=d7;rw[acX hX];simp only[qyj,qy4,qwc];have e:=SR hX n n (by omega) (fun bN=>q08 (DD X n) n bN) r.1 hr c n 0 0 (by omega) (by omega) (by omega);rw[show((0:Nat):Int)=0 from rfl,iD,Int.zero_add]at e;rw[e];rfl
theorem QU(hn:1<=n)(r:qp):IU (DD X n) r=some ((decide (r.2.1=5),()),()):=by
 obtain⟨n,rfl⟩:∃k,n=k+1:=⟨n-1,by omega⟩
 rw[Zt hX];rfl
theorem Lo(D:Den ctx)(n:Nat)(K0:Bool->Option ((Bool×Unit)×Unit))(K1:Option ((Bool×Unit)×Unit))(l:List Int)(hl:l.length<=1000):∀(m i:Nat),i<=l.length->l.length-i<m->
  Hi D n K0 K1 m l l (l.length:Int) (i:Int)=K1
 | 0,_,_,h=>by omega
 | m+1,i,hi,hf=>by
  simp only[Hi,TE];by_cases h:i<l.length
  .rw[qf (by omega),ix h,aA,aA,bA,cT rfl,cE,aJ,qu (by omega)];exact Lo D n K0 K1 l hl m (i+1) (by omega) (by omega)
  .rw[qg (by omega)]
theorem Zl(hn:W+1<=n)(l:List Int)(hl:l.length<=1000):Tv (DD X n) l l=some ((true,()),()):=by
 obtain⟨n,rfl⟩:∃k,n=k+1:=⟨n-1,by omega⟩
 have hW:=d7;rw[MU hX];simp only[TH,TI,TB];have e:=Lo hX (DD X n) n (fun bN=>qrb (DD X n) n bN) (qrc (DD X n) n) l hl n 0 (by omega) (by omega);rw[show((0:Nat):Int)=0 from rfl]at e;rw[show((l.length:Int) != (l.length:Int))=false by simp,aJ,e];rfl
theorem S4(hn:2<=n){r:qp}(hr:aM r):II (DD X n) r=some ((r,()),()):=by
 obtain⟨n,rfl⟩:∃k,n=k+2:=⟨n-2,by omega⟩
 have hl:=hr.len;have hb:=iG;rw[aeW hX];simp only[qxy,MO];rw[qvc hX];simp only[Tx,qmy];rw[qg (by rw[dQ];omega),qf (by omega),qc];rfl
end
def gX(r:qp)(o:cL)(code:Int):qp:=
 if code≠0 then r else if o.1=1\/o.1=2 then (r.1.set o.2.1.toNat o.2.2.1,r.2) else if o.1=3 then (r.1.set o.2.1.toNat 0,r.2) else
 if o.1=8\/o.1=9 then (r.1,wrap .i64 (r.2.1+1),()) else r
section
variable {X:Ext} (hX:fR X) {n:Nat}
include hX
theorem YA(hn:W+6<=n){r:qp}(hr:aM r){o:cL}(ho:cH o=true){code:Int}{list:List Int}(h:Out r o code list):IQ (DD X n) r o (code,list,())=some ((true,()),()):=by
 obtain⟨n,rfl⟩:∃k,n=k+2:=⟨n-2,by omega⟩
 have hW:=d7;have hl:=hr.len;have qX:=rz ho;have hkey:=fun v=>K7 hX (n:=n) (by omega) r (by omega) v;have di:=QU hX (n:=n) (by omega) r;have iA:=fun c=>q7j hX (n:=n) (by omega) r (by omega) c;have heq:=fun l hl=>Zl hX (n:=n+1) (by omega) l hl;obtain⟨k,K,V,⟨⟩⟩:=o;dsimp only at qX;rw[q6h hX];simp only[T9,qy3];rw[Kz hX (by omega) hr,qc];dsimp only;rw[cE,aJ,I1 hX (by omega),ho,qc];dsimp only;rw[cE,aJ];have oq:k=1\/k=2\/k=3\/k=4->(decide (0<=K)&&decide (K<(r.1.length:Int)))=true:=fun q=>fL (by omega) (by omega);have hkk:=vO V r.1 0;have Vp:r.1.getD K.toNat 0=V->(0<=K/\K<=3)->V≠0->aV V r.1 0=K:=fun e hK hV=>by
  have gT:r.1[K.toNat]? = some V:=by rw[<-e,fN (by omega),qv (by omega)]
  rw[Cu V r.1 0 K.toNat gT (fun j hj hc=>hV (hr.once j K.toNat hj V hc gT))];omega
 cases h with
 | xu hk h1=>dsimp only at hk h1;subst hk;have hI:=oq (by omega);rw[show((1:Int) != 0)=true by decide,aA,qf (by simp),vC hX];simp only[qm,uI];rw[hkey V,qc];generalize r.1.getD K.toNat 0=x at *;simp only[di];simp[br,bA,qd,hI,h1]
 | xw hk h2=>dsimp only at hk h2;subst hk;have hI:=oq (by omega);rw[show((2:Int) != 0)=true by decide,aA,qf (by simp),vC hX];simp only[qm,uI];rw[hkey V,qc];generalize r.1.getD K.toNat 0=x at *;simp only[di];simp[br,bA,qd,hI,h2]
 | xq hk h1 h2=>dsimp only at hk h1 h2;subst hk;have hI:=oq (by omega);rw[show((0:Int) != 0)=false by decide,aJ,vD hX];simp only[qn,uJ];rw[hkey V,qc];generalize r.1.getD K.toNat 0=x at *;simp only[di,iA];have hq:=heq ([]:List Int) (by simp);simp[br,bA,qd,hq,hI,h1,h2]
 | yJ hk h1=>dsimp only at hk h1;subst hk;have hI:=oq (by omega);rw[show((3:Int) != 0)=true by decide,aA,qf (by simp),vC hX];simp only[qm,uI];rw[hkey V,qc];generalize r.1.getD K.toNat 0=x at *;simp only[di];simp[br,bA,qd,hI,h1]
 | u_ hk h1 h2=>dsimp only at hk h1 h2;subst hk;have hI:=oq (by omega);have hkv:=Vp h2 (by omega) (by omega);rw[show((0:Int) != 0)=false by decide,aJ,vD hX];simp only[qn,uJ];rw[hkey V,qc];generalize r.1.getD K.toNat 0=x at *;simp only[di,iA];have hq:=heq ([]:List Int) (by simp);simp[br,bA,qd,hq,hI,h1,h2,hkv,(show ¬ V=0 from fun e=>h1 (h2.trans e))]
 | yI hk h3=>dsimp only at hk h3;subst hk;have hI:=oq (by omega);rw[show((2:Int) != 0)=true by decide,aA,qf (by simp),vC hX];simp only[qm,uI];rw[hkey V,qc];generalize r.1.getD K.toNat 0=x at *;simp only[di];simp[br,bA,qd,hI,h3]
 | yH hk h1 h2 h3=>dsimp only at hk h1 h2 h3;subst hk;have hI:=oq (by omega);rw[show((0:Int) != 0)=false by decide,aJ,vD hX];simp only[qn,uJ];rw[hkey V,qc];generalize r.1.getD K.toNat 0=x at *;simp only[di,iA];have hq:=heq ([]:List Int) (by simp);simp[br,bA,qd,hq,hI,h1,h2,h3]
 | zD hk h1=>dsimp only at hk h1;subst hk;have hI:=oq (by omega);rw[show((3:Int) != 0)=true by decide,aA,qf (by simp),vC hX];simp only[qm,uI];rw[hkey V,qc];generalize r.1.getD K.toNat 0=x at *;simp only[di];simp[br,bA,qd,hI,h1]
 | zC hk h1=>dsimp only at hk h1;subst hk;have hI:=oq (by omega);rw[show((0:Int) != 0)=false by decide,aJ,vD hX];simp only[qn,uJ];rw[hkey V,qc];generalize r.1.getD K.toNat 0=x at *;simp only[di,iA];have hq:=heq ([]:List Int) (by simp);simp[br,bA,qd,hq,hI,h1]
 | zG hk h1=>dsimp only at hk h1;subst hk;have hI:=oq (by omega);rw[show((3:Int) != 0)=true by decide,aA,qf (by simp),vC hX];simp only[qm,uI];rw[hkey V,qc];generalize r.1.getD K.toNat 0=x at *;simp only[di];simp[br,bA,qd,hI,h1]
 | zF hk h1=>dsimp only at hk h1;subst hk;have hI:=oq (by omega);rw[show((0:Int) != 0)=false by decide,aJ,vD hX];simp only[qn,uJ];rw[hkey V,qc];generalize r.1.getD K.toNat 0=x at *;simp only[di,iA];have hq:=heq [x] (by simp);simp[br,bA,qd,hq,hI,h1]
 | sO hk h1=>dsimp only at hk h1;subst hk;rw[show((3:Int) != 0)=true by decide,aA,qf (by simp),vC hX];simp only[qm,uI];rw[hkey V,qc];simp only[di];simp[br,bA,qd,h1]
 | sN hk h1=>dsimp only at hk h1;subst hk;rw[show((0:Int) != 0)=false by decide,aJ,vD hX];simp only[qn,uJ];rw[hkey V,qc];simp only[di,iA];have hq:=heq [aV V r.1 0] (by simp);simp[br,bA,qd,hq,h1]
 | zB hk=>dsimp only at hk;subst hk;rw[show((0:Int) != 0)=false by decide,aJ,vD hX];simp only[qn,uJ];rw[hkey V,qc];simp only[di,iA];have hq:=heq [many K r.1] (by simp);simp[br,bA,qd,hq]
 | yG hk=>dsimp only at hk;subst hk;rw[show((0:Int) != 0)=false by decide,aJ,vD hX];simp only[qn,uJ];rw[hkey V,qc];simp only[di,iA];have hq:=heq r.1 (by omega);simp[br,bA,qd,hq]
 | pT hk h1=>dsimp only at hk h1;subst hk;rw[show((4:Int) != 0)=true by decide,aA,qf (by simp),vC hX];simp only[qm,uI];rw[hkey V,qc];simp only[di];simp[br,bA,qd,h1]
 | tf hk h1=>dsimp only at hk h1;subst hk;rw[show((0:Int) != 0)=false by decide,aJ,vD hX];simp only[qn,uJ];rw[hkey V,qc];simp only[di,iA];have hq:=heq ([]:List Int) (by simp);simp[br,bA,qd,hq,h1]
 | ou hk h1=>dsimp only at hk h1;subst hk;rw[show((4:Int) != 0)=true by decide,aA,qf (by simp),vC hX];simp only[qm,uI];rw[hkey V,qc];simp only[di];rcases h1 with h1 | h1<;>simp[br,bA,qd,h1]
 | tc hk h1=>dsimp only at hk h1;subst hk;rw[show((0:Int) != 0)=false by decide,aJ,vD hX];simp only[qn,uJ];rw[hkey V,qc];simp only[di,iA];have hq:=heq ([]:List Int) (by simp);simp[br,bA,qd,hq,show ¬ r.2.1=0 by omega,show ¬ r.2.1=5 by omega]
 | B6 hk h1=>dsimp only at hk h1;subst hk;rw[show((4:Int) != 0)=true by decide,aA,qf (by simp),vC hX];simp only[qm,uI];rw[hkey V,qc];simp only[di];simp[br,bA,qd,h1]
 | HL hk h1 h2=>dsimp only at hk h1 h2;subst hk;rw[show((3:Int) != 0)=true by decide,aA,qf (by simp),vC hX];simp only[qm,uI];rw[hkey V,qc];simp only[di];simp[br,bA,qd,h1,h2]
 | HK hk h1 h2=>dsimp only at hk h1 h2;subst hk;rw[show((0:Int) != 0)=false by decide,aJ,vD hX];simp only[qn,uJ];rw[hkey V,qc];simp only[di,iA];have hq:=heq [aV V r.1 0] (by simp);simp[br,bA,qd,hq,h1,h2]
theorem OH(hn:W+7<=n){r:qp}(hr:aM r){o:cL}(ho:cH o=true){code:Int}{list:List Int}(h:Out r o code list):RZ (DD X n) r o (code,list,())=some ((gX r o code,()),()):=by
 obtain⟨n,rfl⟩:∃k,n=k+1:=⟨n-1,by omega⟩
 have hW:=d7;have hl:=hr.len;have qX:=rz ho;have sR:=YA hX (n:=n) (by omega) hr ho h;have Js:=S4 hX (n:=n) (by omega) hr;obtain⟨k,K,V,⟨⟩⟩:=o;dsimp only at qX;rw[ad3 hX];simp only[Xz,q72];rw[Js,qc,sR,qc];dsimp only;rw[cE,aW];unfold gX;by_cases hc:code=0
 .subst hc;rw[show((0:Int) != 0)=false by decide,aJ,af (by omega)];dsimp only;by_cases k1:k=1
  .rw[qf k1,qf k1,fL (by omega) (by omega),aA,aj (.inl k1)]
  rw[qg k1];by_cases k2:k=2
  .rw[qf k2,fL (by omega) (by omega),aA,aj (.inr k2)]
  rw[qg k2,af (by omega)];by_cases k3:k=3
  .rw[qf k3,fL (by omega) (by omega),aA,aj k3]
  rw[qg k3,af k3];by_cases k8:k=8
  .rw[qf k8,qf k8,aj (.inl k8)]
  rw[qg k8];by_cases k9:k=9
  .rw[qf k9,aj (.inr k9)]
  rw[qg k9,af (by omega)]
 .rw[show(code != 0)=true by rw[bA,bJ hc];rfl,aA,aj hc]
end
def cls(c v:Int):Int:=bif bq v 1 6&&decide (qh v=c) then 1 else 0
theorem QH(c:Int):∀(l k:List Int),many c (l++k)=many c l+many c k
 | [],k=>by simp[many]
 | x::l,k=>by
  rw[fJ];simp only[many];rw[QH c l k];omega
theorem aaL(c:Int)(l:List Int){i:Nat}(h:i<l.length):many c (l.take (i+1))=many c (l.take i)+cls c l[i]:=by rw[mw h,QH];simp only[many,cls];omega
def pW(r:qp)(i p:Nat):Int:=if p<4 then r.1.getD p 0 else if 10<=p/\p<13 then many ((p:Int)-10) (r.1.take i) else vV r i p
section
variable {X:Ext} (hX:fR X) {n:Nat}
include hX
theorem AG(N n:Nat)(hN:W+4<=N)(K:qp->List Int->Option ((List Int×Unit)×Unit)){r:qp}(hr:aM r):∀(m i:Nat)(ws:List Int),i<=4->4-i<m->ws.length=20->(∀p<20,ws.getD p 0=pW r i p)->
  ∃yN,yN.length=20/\(∀p<20,yN.getD p 0=pW r 4 p)/\Rl (DD X N) n K m r.1 (r.1.length:Int) (i:Int) r ws=K r yN
 | 0,_,_,_,h,_,_=>by omega
 | m+1,i,ws,hi,hf,mC,hw=>by
  have hl:=hr.len;have hst:=hr.st;have hW:=d7;simp only[Rl,qyu];by_cases h:i<4
  .have hi2:i<r.1.length:=by omega
   have hv:=hr.dL r.1[i] (ef hi2);have hps:=PC hX hr h hi2;have wJ:=fun c=>aaL c r.1 hi2;rw[qf (by omega),ix hi2,aA,dQ,qv hi2];by_cases h0:r.1[i]=0
   .rw[qf h0,qu (by omega)];refine AG N n hN K hr m (i+1) ws (by omega) (by omega) mC (fun p hp=>?_);rw[hw p hp];unfold pW;by_cases a1:p<4
    .rw[aj a1,aj a1]
    rw[af a1,af a1];by_cases a2:10<=p/\p<13
    .rw[aj a2,aj a2,wJ,h0];have:cls ((p:Int)-10) 0=0:=rfl;rw[this];omega
    rw[af a2,af a2,hps p hp,af a1];rw[af (show ¬ (r.1[i]≠0/\(p:Int)=3+r.1[i]) from fun k=>k.1 h0),af (show ¬ (r.1[i]≠0/\(p:Int)=13+r.1[i]/\(i:Int)<r.2.1-1) from fun k=>k.1 h0)]
   .have ho:=uN r.1[i];have hvi:=oC r.1[i];have ji:=yl r.1[i];have hc:=uM (qh r.1[i]);have oJ:q9 r.1[i]=3+r.1[i]:=by omega
    have Dz:fM r.1[i]=13+r.1[i]:=by omega
    have gS:iH (qh r.1[i])=10+qh r.1[i]:=by omega
    have pP:wrap .i64 (r.2.1-1)=r.2.1-1:=qs (by omega) (by omega);have hmr:=KK (qh r.1[i]) (r.1.take i);rw[cY]at hmr;have tX:(ws.set (3+r.1[i]).toNat ((i:Int)+1)).getD (10+qh r.1[i]).toNat 0=many (qh r.1[i]) (r.1.take i):=by rw[o7 _ _ _ _ (by omega),af (by omega),hw _ (by omega)];unfold pW;rw[af (by omega),aj (by omega),show(((10+qh r.1[i]).toNat:Nat):Int)-10=qh r.1[i] by omega]
    have Jp:∀c,cls c r.1[i]=if qh r.1[i]=c then 1 else 0:=fun c=>by
     unfold cls;rw[kF.2 (by omega),nR];by_cases e:qh r.1[i]=c
     .rw[cT e,aj e];rfl
     .rw[bJ e,af e];rfl
    rw[qg h0,CM hX (by omega),qc];dsimp only;rw[oJ,fL (by omega) (by omega),aA,Ht hX (by omega),qc];dsimp only;rw[CL hX (by omega),qc];dsimp only;have hw1:wrap .i64 ((i:Int)+1)=(i:Int)+1:=qs (by omega) (by omega);rw[gS,hw1,fL (by omega) (by rw[ck,mC];omega),aA,aA,tX,qs (x:=many (qh r.1[i]) (r.1.take i)+1) (by omega) (by omega),pP];have oI:∀p<20,p<4\/¬ (p<4):=fun p _=>by omega
    by_cases hs:(i:Int)<r.2.1-1
    .rw[qf hs,BF hX (by omega),qc];dsimp only;rw[Dz,fL (by omega) (by rw[ck,ck,mC];omega),aA];refine AG N n hN K hr m (i+1) _ (by omega) (by omega) (by rw[ck,ck,ck];exact mC) (fun p hp=>?_);rw[o7 _ _ _ _ (by rw[ck,ck,mC];omega),o7 _ _ _ _ (by rw[ck,mC];omega),o7 _ _ _ _ (by omega),hw p hp];unfold pW;by_cases a1:p<4
     .rw[af (by omega),af (by omega),af (by omega),aj a1,aj a1]
     rw[af a1,af a1];by_cases a2:10<=p/\p<13
     .rw[af (show ¬ p=(13+r.1[i]).toNat by omega),af (show ¬ p=(3+r.1[i]).toNat by omega),aj a2,aj a2,wJ,Jp];by_cases e:p=(10+qh r.1[i]).toNat
      .rw[aj e,aj (by omega),show(p:Int)-10=qh r.1[i] by omega]
      .rw[af e,af (by omega)];omega
     rw[af a2,af a2,hps p hp,af a1];by_cases e3:p=(13+r.1[i]).toNat
     .rw[aj e3,af (by omega),aj ⟨h0,by omega,hs⟩]
     rw[af e3,af (show ¬ p=(10+qh r.1[i]).toNat by omega)];by_cases e2:p=(3+r.1[i]).toNat
     .rw[aj e2,aj ⟨h0,by omega⟩]
     rw[af e2,af (show ¬ (r.1[i]≠0/\(p:Int)=3+r.1[i]) by omega),af (show ¬ (r.1[i]≠0/\(p:Int)=13+r.1[i]/\(i:Int)<r.2.1-1) by omega)]
    .rw[qg hs];refine AG N n hN K hr m (i+1) _ (by omega) (by omega) (by rw[ck,ck];exact mC) (fun p hp=>?_);rw[o7 _ _ _ _ (by rw[ck,mC];omega),o7 _ _ _ _ (by omega),hw p hp];unfold pW;by_cases a1:p<4
     .rw[af (by omega),af (by omega),aj a1,aj a1]
     rw[af a1,af a1];by_cases a2:10<=p/\p<13
     .rw[af (show ¬ p=(3+r.1[i]).toNat by omega),aj a2,aj a2,wJ,Jp];by_cases e:p=(10+qh r.1[i]).toNat
      .rw[aj e,aj (by omega),show(p:Int)-10=qh r.1[i] by omega]
      .rw[af e,af (by omega)];omega
     rw[af a2,af a2,hps p hp,af a1];rw[af (show ¬ p=(10+qh r.1[i]).toNat by omega),af (show ¬ (r.1[i]≠0/\(p:Int)=13+r.1[i]/\(i:Int)<r.2.1-1) from fun k=>hs k.2.2)];by_cases e2:p=(3+r.1[i]).toNat
     .rw[aj e2,aj ⟨h0,by omega⟩]
     rw[af e2,af (show ¬ (r.1[i]≠0/\(p:Int)=3+r.1[i]) by omega)]
  .rw[qg (by omega)];have:i=4:=by omega
   subst this;exact⟨ws,mC,hw,rfl⟩
theorem abg(hn:W+6<=n){r:qp}(hr:aM r):∃ws:List Int,ws.length=20/\(∀p<20,ws.getD p 0=jB r p)/\TN (DD X n) r=some ((ws,()),()):=by
 obtain⟨n,rfl⟩:∃k,n=k+1:=⟨n-1,by omega⟩
 have hW:=d7;have hst:=hr.st;have hl:=hr.len;rw[agw hX];simp only[WD,Xu];rw[Kz hX (by omega) hr,qc];dsimp only;rw[cE,aJ];simp only[qwe];have Js:(decide (0<r.1.length)&&decide (0<(List.replicate (Int.toNat 20) (0:Int)).length))=true:=by rw[cT (by omega),kQ];rfl
 obtain⟨w1,l1,h1,e1⟩:=AG hX n n (by omega) (fun bN eD=>qup (DD X n) n bN eD) hr n 0 (vQ (Ty.int IntKind.i64) (List.replicate (Int.toNat 20) 0) r.1) (by omega) (by omega)
  (by rw[OE];rfl) (fun p hp=>by
  have e0:(List.replicate (Int.toNat 20) (0:Int)).getD p 0=0:=by simp only[List.getD,sI];split<;>rfl
  have e1:=OD (t:=Ty.int IntKind.i64) (xs:=List.replicate (Int.toNat 20) 0) (ys:=r.1) p (by rw[kQ];exact hp);rw[kQ,hl]at e1;refine dF e1 ?_;unfold pW;by_cases a1:p<4
  .rw[aj (by omega),aj a1];rfl
  .rw[af (by omega),af a1];refine dF e0 ?_;by_cases a2:10<=p/\p<13
   .rw[aj a2,Gq];rfl
   rw[af a2];unfold vV pU kM;rw[af a1];split
   .rw[af (by omega)]
   .split
    .rfl
    .rw[af (by omega)])
 rw[show((0:Nat):Int)=0 from rfl]at e1;refine⟨w1.set 13 r.2.1,by rw[ck];exact l1,fun p hp=>?_,(eM (fun c=>br c _ _) Js).trans (e1.trans ?_)⟩
 .rw[o7 _ _ _ _ (by omega),h1 p hp];unfold jB pW vV;by_cases e:p=13
  .rw[aj e,af (by omega),af (by omega),af (by omega),aj e]
  rw[af e];by_cases a1:p<4
  .rw[aj a1,aj a1]
  by_cases a2:p<10
  .rw[af a1,af (by omega),af a1,aj a2,af a1,aj a2];rfl
  by_cases a3:p<13
  .rw[af a1,aj (by omega),af a1,af a2,aj a3,jf (by omega)]
  .rw[af a1,af (by omega),af a1,af a2,af (by omega),af a1,af a2,af a3,af e];rfl
 simp only[qup];rw[yc hX (by omega),qc];dsimp only;rw[fL (by omega) (by rw[l1];omega),aA];rfl
end
theorem Ge(c:Int):∀(l:List Int)(k:Nat)(V:Int),k<l.length->many c (l.set k V)=many c l+cls c V-cls c (l.getD k 0)
 | [],k,V,h=>by simp at h
 | x::l,0,V,_=>by
  simp only[List.set_cons_zero,many,I4,cls];omega
 | x::l,k+1,V,h=>by
  simp only[List.set_cons_succ,many,G4];rw[Ge c l k V (by simpa using h)];omega
theorem Ow{r:qp}(hr:aM r){v:Int}(hv:v≠0){k:Nat}(h:r.1[k]? = some v):aV v r.1 0=k:=by rw[Cu v r.1 0 k h (fun j hj hc=>hv (hr.once j k hj v hc h))];congr 1;omega
theorem QB{r:qp}(hr:aM r){K:Nat}(hK:K<4){V:Int}(hV:V=0\/aV V r.1 0<0){v:Int}(hv:1<=v) :
  aV v (r.1.set K V) 0=if v=V then (K:Int) else if v=r.1.getD K 0 then -1 else aV v r.1 0:=by
 have hl:=hr.len;have gT:∀j,j≠K->(r.1.set K V)[j]? = r.1[j]?:=fun j hj=>by rw[jv,af (fun e=>hj e.symm)]
 have Dr:(r.1.set K V)[K]? = some V:=by rw[jv,aj rfl,aj (by omega)]
 have SH:r.1[K]? = some (r.1.getD K 0):=by rw[fN (by omega),qv (by omega)]
 by_cases e:v=V
 .rw[aj e];subst e;have hno:v∉r.1:=KJ v r.1 0 (by omega);rw[Cu v _ 0 K Dr (fun j hj hc=>by
   rw[gT j (by omega)]at hc;exact hno (lE.2 ⟨j,hc⟩))]
  congr 1;omega
 rw[af e];by_cases e2:v=r.1.getD K 0
 .rw[aj e2];refine Ap v _ 0 (fun hm=>?_);obtain⟨j,hj⟩:=lE.1 hm;by_cases q:j=K
  .subst q;rw[Dr]at hj;exact e (gu hj).symm
  .rw[gT j q]at hj;rw[<-e2]at SH;by_cases lt:j<K
   .have:=hr.once j K lt v hj SH;omega
   .have:=hr.once K j (by omega) v SH hj;omega
 rw[af e2];by_cases h0:aV v r.1 0<0
 .have hno:v∉r.1:=KJ _ _ _ h0;have:=vO v r.1 0;rw[Ap v _ 0 (fun hm=>by
   obtain⟨j,hj⟩:=lE.1 hm;by_cases q:j=K
   .subst q;rw[Dr]at hj;exact e (gu hj).symm
   .rw[gT j q]at hj;exact hno (lE.2 ⟨j,hj⟩))]
  omega
 .obtain⟨k,hk⟩:∃k:Nat,aV v r.1 0=k:=⟨(aV v r.1 0).toNat,by omega⟩
  obtain⟨_,h2⟩:=KI v r.1 0 k hk;rw[Aj]at h2;have hkK:k≠K:=fun q=>by subst q;rw[SH]at h2;exact e2 (gu h2).symm
  rw[hk,Cu v _ 0 k (by rw[gT k hkK];exact h2) (fun j hj hc=>by
   by_cases q:j=K
   .subst q;rw[Dr]at hc;exact e (gu hc).symm
   .rw[gT j q]at hc;have:=hr.once j k hj v hc h2;omega)]
  congr 1;omega
theorem EC{r:qp}(hr:aM r){K:Nat}(hK:K<4){V:Int}(hV:V=0\/aV V r.1 0<0)(hV6:0<=V/\V<=6):aM (r.1.set K V,r.2):=by
 have hl:=hr.len;have gT:∀j,j≠K->(r.1.set K V)[j]? = r.1[j]?:=fun j hj=>by rw[jv,af (fun e=>hj e.symm)]
 have Dr:(r.1.set K V)[K]? = some V:=by rw[jv,aj rfl,aj (by omega)]
 have hno:V≠0->V∉r.1:=fun h=>KJ V r.1 0 (by omega);refine⟨by show(r.1.set K V).length=4;rw[ck];exact hl,fun x hx=>?_,fun i j hij v g1 g2=>?_,hr.st⟩
 .rcases Ev hx with q | rfl
  .exact hr.dL x q
  .exact hV6
 .show v=0;have h1:(r.1.set K V)[i]? = some v:=g1;have h2:(r.1.set K V)[j]? = some v:=g2;clear g1 g2;by_cases q:i=K
  .subst q;rw[Dr]at h1;rw[gT j (by omega)]at h2;have:=gu h1;subst this;by_cases z:V=0
   .exact z
   .exact absurd (lE.2 ⟨j,h2⟩) (hno z)
  .rw[gT i q]at h1;by_cases q2:j=K
   .subst q2;rw[Dr]at h2;have:=gu h2;subst this;by_cases z:V=0
    .exact z
    .exact absurd (show V∈r.1 from lE.2 ⟨i,h1⟩) (hno z)
   .rw[gT j q2]at h2;exact hr.once i j hij v h1 h2
theorem KX{r:qp}(hr:aM r){K:Nat}(hK:K<4){V:Int}(hV:V=0\/aV V r.1 0<0){p:Nat}(hp:p<20) :
  jB (r.1.set K V,r.2) p=if p<4 then (if p=K then V else jB r p)
   else if p<10 then (if (p:Int)-3=V then (K:Int)+1 else if (p:Int)-3=r.1.getD K 0 then 0 else jB r p)
   else if p<13 then jB r p+cls ((p:Int)-10) V-cls ((p:Int)-10) (r.1.getD K 0)
   else if p=13 then jB r p
   else (if (p:Int)-13=V then (if (K:Int)<r.2.1-1 then (K:Int)+1 else 0) else if (p:Int)-13=r.1.getD K 0 then 0 else jB r p):=by
 have hl:=hr.len;unfold jB;by_cases a1:p<4
 .simp only[aj a1];rw[o7 _ _ _ _ (by omega)]
 simp only[af a1];by_cases a2:p<10
 .simp only[aj a2];unfold pU;rw[QB hr hK hV (by omega)];by_cases e:(p:Int)-3=V
  .simp only[aj e];rw[aj (by omega)]
  simp only[af e];by_cases e2:(p:Int)-3=r.1.getD K 0
  .simp only[aj e2];rw[af (by omega)]
  simp only[af e2]
 simp only[af a2];by_cases a3:p<13
 .simp only[aj a3];exact Ge _ _ _ _ (by omega)
 simp only[af a3];by_cases a4:p=13
 .simp only[aj a4]
 simp only[af a4];unfold kM;rw[QB hr hK hV (by omega)];by_cases e:(p:Int)-13=V
 .simp only[aj e];by_cases q:(K:Int)<r.2.1-1
  .rw[aj ⟨by omega,by omega,q⟩,aj q]
  .rw[af (fun z=>q z.2.2),af q]
 simp only[af e];by_cases e2:(p:Int)-13=r.1.getD K 0
 .simp only[aj e2];rw[af (by omega)]
 simp only[af e2]
theorem D9{v:Int}(hv:1<=v/\v<=6)(c:Int):cls c v=if qh v=c then 1 else 0:=by
 unfold cls;rw[kF.2 hv,nR];by_cases e:qh v=c
 .rw[cT e,aj e];rfl
 .rw[bJ e,af e];rfl
structure C4 (r:qp) (K V:Int) (l:List Int):Prop where
 k:K∈l
 s:13∈l
 o:∀v,v=r.1.getD K.toNat 0\/v=V->1<=v->3+v∈l
 c:qh (r.1.getD K.toNat 0)≠qh V->∀v,v=r.1.getD K.toNat 0\/v=V->1<=v->10+qh v∈l
 v:K+1<r.2.1->∀v,v=r.1.getD K.toNat 0\/v=V->1<=v->13+v∈l
 x:∀p∈l,14<=p->K+1<r.2.1
structure I8 (r:qp) (K V:Int):Prop where
 k:0<=K/\K<=3
 v:0<=V/\V<=6
 h:0<=r.1.getD K.toNat 0/\r.1.getD K.toNat 0<=6
 z:V=0\/aV V r.1 0<0
 n:r.1.getD K.toNat 0≠V
theorem abi{r:qp}(hr:aM r){K V:Int}{l:List Int}(hc:I8 r K V)(hm:C4 r K V l){p:Nat}(hp:p<20)(hn:(p:Int)∉l) :
  jB (r.1.set K.toNat V,r.2) p=jB r p:=by
 have hK:=hc.k;have hV:=hc.v;have hh:=hc.h;have hz:=hc.z;have hne:=hc.n;have hl:=hr.len;have Vn:K.toNat<4:=by omega
 have hcV:=yl V;have hcH:=yl (r.1.getD K.toNat 0);rw[KX hr Vn hc.z hp];have hno:∀q,q∈l->(p:Int)≠q:=fun q hq e=>hn (e ▸ hq);by_cases a1:p<4
 .rw[aj a1,af (by have:=hno K hm.k;omega)]
 rw[af a1];by_cases a2:p<10
 .rw[aj a2,af (fun e=>by have:=hno _ (hm.o V (.inr rfl) (by omega));omega),af (fun e=>by have:=hno _ (hm.o _ (.inl rfl) (by omega));omega)]
 rw[af a2];by_cases a3:p<13
 .rw[aj a3];by_cases e:qh (r.1.getD K.toNat 0)=qh V
  .have h1:1<=V:=by omega
   have h2:1<=r.1.getD K.toNat 0:=by omega
   rw[D9 (by omega),D9 (by omega),e];omega
  .have q:=hm.c e;have f1:cls ((p:Int)-10) V=0:=by
    by_cases z:1<=V
    .rw[D9 (by omega),af (fun e=>by have:=hno _ (q V (.inr rfl) z);omega)]
    .rw[show V=0 by omega];rfl
   have f2:cls ((p:Int)-10) (r.1.getD K.toNat 0)=0:=by
    by_cases z:1<=r.1.getD K.toNat 0
    .rw[D9 (by omega),af (fun e=>by have:=hno _ (q _ (.inl rfl) z);omega)]
    .rw[show r.1.getD K.toNat 0=0 by omega];rfl
   rw[f1,f2];omega
 rw[af a3];by_cases a4:p=13
 .rw[aj a4]
 rw[af a4];have hw:jB r p=kM ((p:Int)-13) r.1 4 r.2.1:=by unfold jB;rw[af a1,af a2,af a3,af a4]
 by_cases e:(p:Int)-13=V
 .have hk:¬ K+1<r.2.1:=fun q=>by have:=hno _ (hm.v q V (.inr rfl) (by omega));omega
  rw[aj e,af (by omega),hw,e];unfold kM;rw[af (by omega)]
 rw[af e];by_cases e2:(p:Int)-13=r.1.getD K.toNat 0
 .have hk:¬ K+1<r.2.1:=fun q=>by have:=hno _ (hm.v q _ (.inl rfl) (by omega));omega
  have hkey:aV (r.1.getD K.toNat 0) r.1 0=K.toNat:=Ow hr (by omega) (by rw[fN (by omega),qv (by omega)]);rw[aj e2,hw,e2];unfold kM;rw[hkey,af (by omega)]
 rw[af e2]
theorem ajd{k:Int}(h:0<=qw k):qw k=k:=by have:=uW k;omega
theorem PB{v:Int}(h:0<=q9 v):(1<=v/\v<=6)/\q9 v=3+v:=by have:=uN v;omega
theorem LM{v:Int}(h:0<=fM v):(1<=v/\v<=6)/\fM v=13+v:=by have:=oC v;omega
theorem O1{v:Int}(h:0<=iH (qh v)):(1<=v/\v<=6)/\(0<=qh v/\qh v<=2)/\iH (qh v)=10+qh v:=by have:=uM (qh v);have:=yl v;omega
theorem Lj{c V:Int}(hV:0<=V/\V<=6)(h:qh V≠c):cls c V=0:=by
 by_cases z:1<=V
 .rw[D9 (by omega),af h]
 .rw[show V=0 by omega];rfl
theorem OO(r:qp){c:Int}(hc:0<=c/\c<=2):jB r (10+c).toNat=many c r.1:=by unfold jB;rw[af (by omega),af (by omega),aj (by omega),show(((10+c).toNat:Nat):Int)-10=c by omega]
theorem aja{r:qp}(hr:aM r){K V:Int}{l:List Int}(hc:I8 r K V)(hm:C4 r K V l){q:Want}(hq:q∈eX K V (r.1.getD K.toNat 0) r.2.1)(hl:q.1∈l)(h0:0<=q.1) :
  q.1<20/\q.2 (cj r q.1)=cj (r.1.set K.toNat V,r.2) q.1:=by
 have hb:=iG;have hK:=hc.k;have hV:=hc.v;have hh:=hc.h;have hne:=hc.n;have hlen:=hr.len;have hst:=hr.st;have Vn:K.toNat<4:=by omega
 have hlt:=Li K V (r.1.getD K.toNat 0) r.2.1 q hq;have pP:=KX hr Vn hc.z (p:=q.1.toNat) (by omega);refine⟨by omega,?_⟩;have hx:=fun h=>hm.x _ hl h;have hlK:K.toNat<r.1.length:=by omega
 have hms:=fun c=>Ge c r.1 K.toNat V hlK;have Vx:=fun c=>KK c (r.1.set K.toNat V);unfold cj;rw[pP];clear pP hlt hl hm;unfold eX at hq;generalize sW:r.1.getD K.toNat 0=H at *;rcases bL.1 hq with hq | hq
 .simp only[bk,c_,dg]at hq;rcases hq with rfl | rfl | rfl | rfl | rfl | rfl<;>dsimp only at *
  .rw[ajd h0,aj (by omega),aj rfl]
  .rw[af (by decide),af (by decide),af (by decide),aj (by decide)];rfl
  .obtain⟨e1,e⟩:=PB h0;rw[e,af (by omega),aj (by omega),af (by omega),aj (by omega)]
  .obtain⟨e1,e⟩:=LM h0;rw[e,af (by omega),af (by omega),af (by omega),af (by omega),af (by omega),aj (by omega)]
  .obtain⟨e1,e⟩:=PB h0;rw[e,af (by omega),aj (by omega),aj (by omega),qs (by omega) (by omega)];omega
  .obtain⟨e1,e⟩:=LM h0;have hx:=hx (by omega);rw[e,af (by omega),af (by omega),af (by omega),af (by omega),aj (by omega),aj (by omega),qs (by omega) (by omega)];omega
 .cases lJ:qh H != qh V
  .rw[lJ]at hq;simp at hq
  rw[lJ,bg]at hq;have Jq:qh H≠qh V:=by simpa using lJ
  simp only[bk,c_,dg]at hq;rcases hq with rfl | rfl<;>dsimp only at *
  .obtain⟨hH,ec,e⟩:=O1 h0;have a1:=KK (qh H) r.1;have a2:=hms (qh H);have a3:=Vx (qh H);have f1:cls (qh H) H=1:=by rw[D9 hH,aj rfl]
   have f2:cls (qh H) V=0:=Lj hV (fun q=>Jq q.symm);rw[f1,f2]at a2;rw[e,af (by omega),af (by omega),aj (by omega),OO r ec,show(((10+qh H).toNat:Nat):Int)-10=qh H by omega,f1,f2];unfold less;rw[qs (by omega) (by omega)];split<;>omega
  .obtain⟨hH,ec,e⟩:=O1 h0;have a1:=KK (qh V) r.1;have f1:cls (qh V) V=1:=by rw[D9 hH,aj rfl]
   have f2:cls (qh V) H=0:=Lj hh Jq;rw[e,af (by omega),af (by omega),aj (by omega),OO r ec,show(((10+qh V).toNat:Nat):Int)-10=qh V by omega,f1,f2];unfold one;rw[qs (by omega) (by omega)];omega
theorem aj1{r:qp}(hr:aM r){o:cL}(ho:cH o=true)(eG:o.1=1\/o.1=2\/o.1=3)(hne:1<=r.1.getD o.2.1.toNat 0/\r.1.getD o.2.1.toNat 0<=6->r.1.getD o.2.1.toNat 0≠o.2.2.1){c:Int}{L:List Int}(hc:c=0)(h:Out r o c L) :
  I8 r o.2.1 o.2.2.1/\(o.1=1->r.1.getD o.2.1.toNat 0=0)/\(o.1≠1->r.1.getD o.2.1.toNat 0≠0):=by
 have hk:=rz ho;have hl:=hr.len;have hK:0<=o.2.1/\o.2.1<=3:=by omega
 have hh:0<=r.1.getD o.2.1.toNat 0/\r.1.getD o.2.1.toNat 0<=6:=by rw[qv (by omega)];exact hr.dL _ (ef _)
 have mk:(o.2.2.1=0\/aV o.2.2.1 r.1 0<0)->r.1.getD o.2.1.toNat 0≠o.2.2.1->I8 r o.2.1 o.2.2.1:=fun a b=>⟨hK,by omega,hh,a,b⟩
 cases h with
 | xq k h1 h2=>exact⟨mk (.inr h2) (by omega),fun _=>h1,fun q=>absurd k q⟩
 | yH k h1 h2 h3=>exact⟨mk (.inr h3) h2,fun q=>by omega,fun _=>h1⟩
 | zC k h1=>exact⟨mk (.inl (by omega)) (by omega),fun q=>by omega,fun _=>h1⟩
 | u_ k h1 h2=>exact absurd h2 (hne (by omega))
 | _=>omega
theorem ajC{r:qp}(hr:aM r){o:cL}(ho:cH o=true)(eG:o.1=1\/o.1=2\/o.1=3)(hc:I8 r o.2.1 o.2.2.1)(h1:o.1=1->r.1.getD o.2.1.toNat 0=0)(h2:o.1≠1->r.1.getD o.2.1.toNat 0≠0) :
  C4 r o.2.1 o.2.2.1 (path (cj r) (prog o)):=by
 have hk:=rz ho;have hb:=iG;have hh:=hc.h;have hz:=hc.z;have hne:=hc.n;have hst:=hr.st;have hK:0<=o.2.1/\o.2.1<=3:=hc.k;have hrow:qw o.2.1=o.2.1:=by have:=uW o.2.1;omega
 have SK:=(uR hr hK).1;have hwo:1<=o.2.2.1->cj r (q9 o.2.2.1)=0:=fun z=>by
  rw[HA hr (by have:=hc.v;omega)];have:=vO o.2.2.1 r.1 0;omega
 have pP:=CP r;have DE:wrap .i64 (o.2.1+1)=o.2.1+1:=qs (by omega) (by omega);have hown:∀v,1<=v/\v<=6->q9 v=3+v:=fun v hv=>by have:=uN v;omega
 have mZ:∀v,1<=v/\v<=6->fM v=13+v:=fun v hv=>by have:=oC v;omega
 have tX:∀v,1<=v/\v<=6->iH (qh v)=10+qh v:=fun v hv=>by have:=uM (qh v);have:=yl v;omega
 have zL:∀v,1<=v/\v<=6->0<=qh v/\qh v<=2:=fun v hv=>by have:=yl v;omega
 have hV:=hc.v;generalize sW:r.1.getD o.2.1.toNat 0=H at *;unfold prog;rcases eG with k | k | k
 .rw[aj k];have hH:=h1 k;have tV:1<=o.2.2.1/\o.2.2.1<=6:=by omega
  have e:path (cj r) (su o)=o.2.1::(3+o.2.2.1)::(10+qh o.2.2.1)::13::(if r.2.1<=o.2.1+1 then [] else [13+o.2.2.1]):=by unfold su;simp only[path];rw[hrow,SK,hH];simp only[bA,oP,cE,aW,path];rw[hwo tV.1];simp only[oP,cE,aW,path,BK,cm,fO];rw[pP,DE,hown _ tV,mZ _ tV,tX _ tV]
  rw[e];have gS:=zL _ tV;refine⟨by simp,by simp,fun v hv z=>?_,fun _ v hv z=>?_,fun q v hv z=>?_,fun p hp Jf=>?_⟩
  .have:v=o.2.2.1:=by omega
   subst this;simp
  .have:v=o.2.2.1:=by omega
   subst this;simp
  .have:v=o.2.2.1:=by omega
   subst this;rw[af (by omega)];simp
  .by_cases q:r.2.1<=o.2.1+1
   .rw[aj q]at hp;simp only[bk,c_,dg]at hp;omega
   .omega
 .have hH:=h2 (by omega);rw[af (by omega),aj k];have tV:1<=o.2.2.1/\o.2.2.1<=6:=by omega
  have tU:1<=H/\H<=6:=by omega
  have e:path (cj r) (sv o)=o.2.1::(3+o.2.2.1)::(3+H)::((bif qh H != qh o.2.2.1 then [10+qh H,10+qh o.2.2.1] else [])++13::(if r.2.1<=o.2.1+1 then [] else [13+H,13+o.2.2.1])):=by
   unfold sv;simp only[path];rw[hrow,SK,bJ hH,bJ hne];simp only[aW,path];rw[hwo tV.1];simp only[bA,oP,cE,aW,path];cases decide (qh H=qh o.2.2.1)
   .simp only[gf,bg,path,BK,cm,fO,fJ,gJ];rw[pP,DE,hown _ tV,mZ _ tV,tX _ tV,hown _ tU,mZ _ tU,tX _ tU]
   .simp only[cE,aW,path,BK,cm,fO,fJ,gJ];rw[pP,DE,hown _ tV,mZ _ tV,hown _ tU,mZ _ tU]
  rw[e];have gS:=zL _ tV;have qV:=zL _ tU;refine⟨by simp,by simp,fun v hv z=>?_,fun q v hv z=>?_,fun q v hv z=>?_,fun p hp Jf=>?_⟩
  .rw[sW]at hv;rcases hv with rfl | rfl<;>simp
  .rw[sW]at hv q;rw[bA,bJ q];rcases hv with rfl | rfl<;>simp
  .rw[sW]at hv;rw[af (by omega)];rcases hv with rfl | rfl<;>simp
  .by_cases q:r.2.1<=o.2.1+1
   .rw[aj q]at hp;cases hq:qh H != qh o.2.2.1
    .rw[hq]at hp;simp only[aW,gJ,bk,c_,dg]at hp;omega
    .rw[hq]at hp;simp only[bg,fJ,gJ,bk,c_,dg]at hp;omega
   .omega
 .have hH:=h2 (by omega);rw[af (by omega),af (by omega),aj k];have tU:1<=H/\H<=6:=by omega
  have e:path (cj r) (uQ o)=o.2.1::(3+H)::(10+qh H)::13::(if r.2.1<=o.2.1+1 then [] else [13+H]):=by unfold uQ;simp only[path];rw[hrow,SK,bJ hH];simp only[aW,path,BK,cm,fO];rw[pP,DE,hown _ tU,mZ _ tU,tX _ tU]
  rw[e];have qV:=zL _ tU;refine⟨by simp,by simp,fun v hv z=>?_,fun q v hv z=>?_,fun q v hv z=>?_,fun p hp Jf=>?_⟩
  .have:v=H:=by omega
   subst this;simp
  .have:v=H:=by omega
   subst this;simp
  .have:v=H:=by omega
   subst this;rw[af (by omega)];simp
  .by_cases q:r.2.1<=o.2.1+1
   .rw[aj q]at hp;simp only[bk,c_,dg]at hp;omega
   .omega
theorem AM{r:qp}(hr:aM r){p:Nat}(hp:p<20)(yS:p≠13)(hk:14<=p->aV ((p:Int)-13) r.1 0≠r.2.1-1\/r.2.1=0):jB (r.1,r.2.1+1,()) p=jB r p:=by
 have hst:=hr.st;unfold jB;by_cases a1:p<4
 .rw[aj a1,aj a1]
 rw[af a1,af a1];by_cases a2:p<10
 .rw[aj a2,aj a2]
 rw[af a2,af a2];by_cases a3:p<13
 .rw[aj a3,aj a3]
 rw[af a3,af a3,af yS,af yS];have hk:=hk (by omega);unfold kM;dsimp only;by_cases e:0<=aV ((p:Int)-13) r.1 0/\aV ((p:Int)-13) r.1 0<4/\aV ((p:Int)-13) r.1 0<r.2.1-1
 .rw[aj e,aj (by omega)]
 .rw[af e,af (by omega)]
theorem R6{r:qp}{o:cL}(c:Int)(h:¬ (o.1=1\/o.1=2)/\¬ o.1=3/\¬ (o.1=8\/o.1=9)):gX r o c=r:=by unfold gX;rw[af h.1,af h.2.1,af h.2.2];split<;>rfl
structure sK (w w':Int->Int) (E:List eB):Prop where
 B8:lH E
 old:∀e∈E,0<=e.1/\e.1<20/\e.2.1=w e.1/\e.2.2.1=w' e.1
 rest:∀p:Nat,p<20->(∀e∈E,e.1≠(p:Int))->w p=w' p
theorem aab{r:qp}(hr:aM r){o:cL}(ho:cH o=true)(dJ:mc o (fo r o)=none) :
  sK (cj r) (cj (gX r o (eC o (fo r o)).1)) (dw o (fo r o))/\aM (gX r o (eC o (fo r o)).1):=by
 have hb:=iG;have hw:=fun k hk=>(uR hr (k:=k) hk).2;have hpk:=Is ho (cj r) hw;have hrun:=FC hr ho;have hkn:=EK r o;have qX:=rz ho;have hst:=hr.st;have hl:=hr.len;have gi:cH o=true/\(run (fo r o) (prog o)).2<0:=⟨ho,by rw[hrun];show(-1:Int)<0;omega⟩
 have hrd:∀p,p∈path (cj r) (prog o)->(eO (fo r o) p).1=cj r p:=fun p hp=>by rw[hkn p,aj hp]
 have zO:∀p,0<=p->(hit (fo r o) p=true↔p∈path (cj r) (prog o)):=fun p hp=>by rw[Aq hkn hp,gI]
 have hout:=LD hr ho;have ua:g7 o (fo r o)=((false,eC o (fo r o),dw o (fo r o),()),true,()):=by unfold g7;rw[aj gi,dJ]
 rw[ua]at hout;dsimp only at hout;obtain⟨hA,hB⟩:=Ll ho hw hkn hrun dJ;by_cases eG:o.1=1\/o.1=2\/o.1=3
 .obtain⟨hv,hsub⟩:=Qs ho hw hkn dJ eG;have hne:=xH ho dJ eG;have DE:=(uR hr (k:=o.2.1) (by omega)).1;rw[hv,DE]at hne;have hres:eC o (fo r o)=(0,[],()):=by unfold eC;rw[af (by omega),af (by omega)]
  rw[hres]at hout⊢;obtain⟨hc,h1,h2⟩:=aj1 hr ho eG hne rfl hout;have hm:=ajC hr ho eG hc h1 h2;have zJ:gX r o 0=(r.1.set o.2.1.toNat o.2.2.1,r.2):=by
   unfold gX;rw[af (by omega)];by_cases w7:o.1=1\/o.1=2
   .rw[aj w7]
   .rw[af w7,aj (by omega),show o.2.2.1=0 by omega]
  show sK _ (cj (gX r o 0)) _/\aM (gX r o 0);rw[zJ];have yS:val (fo r o) 13=r.2.1:=hrd 13 hm.s;have hE:dw o (fo r o)=(g_ (fo r o) (eX o.2.1 o.2.2.1 (r.1.getD o.2.1.toNat 0) r.2.1)).foldl gU []:=by unfold dw;rw[aj eG,hv,DE,yS]
  obtain⟨_,r2,r3,r4⟩:=KB (got:=fo r o) (K:=o.2.1) (V:=o.2.2.1) (held:=r.1.getD o.2.1.toNat 0) (st:=r.2.1) hne;refine⟨⟨by rw[hE];exact r2,fun e he=>?_,fun p hp hno=>?_⟩,EC hr (by have:=hc.k;omega) hc.z hc.v⟩
  .rw[hE]at he;obtain⟨q,hq,hh,rfl⟩:=(Ig _ _ _).1 ((r3 e).1 he);have JO:=AS hh;have hqm:=(zO q.1 JO).1 hh;have hn:=aja hr hc hm hq hqm JO;have:=hrd q.1 hqm;refine⟨JO,hn.1,this,?_⟩;show q.2 (eO (fo r o) q.1).1=_;rw[this];exact hn.2
  .have hnp:(p:Int)∉path (cj r) (prog o):=fun hm=>by
    obtain⟨e,he,e1,_⟩:=hA _ hm;exact hno e he e1
   exact(abi hr hc hm hp hnp).symm
 .obtain⟨_,pl⟩:=FJ ho dJ gi.2 eG;have JS:(run (fo r o) (prog o)).1=path (cj r) (prog o):=by rw[hrun]
  rw[JS]at pl;have hmem:∀L:List Int,(path (cj r) (prog o)).foldl (jF fC) []=L->∀p∈L,p∈path (cj r) (prog o):=by
   intro L hL p hp;rw[<-hL,Fz]at hp;rcases hp with h | h
   .simp at h
   .exact h
  have hsame:∀p,p∈path (cj r) (prog o)->val (fo r o) p=cj r p:=hrd;rcases pl with⟨k,hp⟩ | ⟨k,hz,hp⟩ | ⟨k,hz,hp⟩ | ⟨k,hp⟩
  .have m:=hmem _ hp;have zJ:∀c,gX r o c=r:=fun c=>R6 c (by omega);rw[zJ];refine⟨?_,hr⟩;have hE:dw o (fo r o)=[same (fo r o) 0,same (fo r o) 1,same (fo r o) 2,same (fo r o) 3]:=by unfold dw;rw[af eG,aj k]
   rw[hE];refine⟨by simp[lH,same],fun e he=>?_,fun p _ _=>rfl⟩;simp only[bk,c_,dg]at he;rcases he with rfl | rfl | rfl | rfl<;>exact⟨by simp[same],by simp[same],hsame _ (m _ (by simp)),hsame _ (m _ (by simp))⟩
  .have m:=hmem _ hp;have yS:=hsame 13 (m _ (by simp));have pP:=CP r;have VT:r.2.1=0:=by omega
   have hres:eC o (fo r o)=(0,[],()):=by unfold eC;rw[af (by omega),af (by omega)]
   have zJ:gX r o 0=(r.1,r.2.1+1,()):=by unfold gX;rw[af (by omega),af (by omega),af (by omega),aj (.inl k),qs (by omega) (by omega)]
   rw[hres];show sK _ (cj (gX r o 0)) _/\aM (gX r o 0);rw[zJ];refine⟨?_,⟨hl,hr.dL,hr.once,by show 0<=r.2.1+1/\r.2.1+1<=5;omega⟩⟩;have hE:dw o (fo r o)=[(13,val (fo r o) 13,1,())]:=by unfold dw;rw[af eG,af (by omega),aj k]
   rw[hE];refine⟨List.pairwise_singleton _ _,fun e he=>?_,fun p hp hno=>?_⟩
   .simp only[bk,c_,dg]at he;subst he;refine⟨by simp[same],by simp[same],yS,?_⟩;show(1:Int)=r.2.1+1;omega
   .have h1:=hno _ (er.2 rfl);dsimp only at h1;exact(AM hr hp (by omega) (fun _=>.inr VT)).symm
  .have m:=hmem _ hp;have yS:=hsame 13 (m _ (by simp));have pP:=CP r;have hres:eC o (fo r o)=(0,[],()):=by unfold eC;rw[af (by omega),af (by omega)]
   have zJ:gX r o 0=(r.1,r.2.1+1,()):=by unfold gX;rw[af (by omega),af (by omega),af (by omega),aj (.inr k),qs (by omega) (by omega)]
   rw[hres];show sK _ (cj (gX r o 0)) _/\aM (gX r o 0);rw[zJ];refine⟨?_,⟨hl,hr.dL,hr.once,by show 0<=r.2.1+1/\r.2.1+1<=5;omega⟩⟩;have J6:val (fo r o) 13=r.2.1:=yS;have hrow:qw (wrap .i64 (val (fo r o) 13-1))=r.2.1-1:=by rw[J6,qs (by omega) (by omega)];have:=uW (r.2.1-1);omega
   have hE:dw o (fo r o)=same (fo r o) (qw (wrap .i64 (val (fo r o) 13-1)))::(13,val (fo r o) 13,wrap .i64 (val (fo r o) 13+1),())::
     (bif bq (val (fo r o) (qw (wrap .i64 (val (fo r o) 13-1)))) 1 6 then [(fM (val (fo r o) (qw (wrap .i64 (val (fo r o) 13-1)))),val (fo r o) (fM (val (fo r o) (qw (wrap .i64 (val (fo r o) 13-1))))),val (fo r o) 13,())] else []):=by
    unfold dw;rw[af eG,af (by omega),af (by omega),aj k]
   rw[hE];rw[hrow]at m⊢;have DA:=hsame (r.2.1-1) (m _ (by simp));have w6:=uR hr (k:=r.2.1-1) (by omega);rw[DA,w6.1]at m⊢;rw[J6,qs (by omega) (by omega)];have gT:r.1[(r.2.1-1).toNat]? = some (r.1.getD (r.2.1-1).toNat 0):=by rw[fN (by omega),qv (by omega)]
   have VP:=w6.2;rw[w6.1]at VP;generalize r.1.getD (r.2.1-1).toNat 0=v at *;have hx:jB (r.1,r.2.1+1,()) (r.2.1-1).toNat=jB r (r.2.1-1).toNat:=AM hr (by omega) (by omega) (fun q=>by omega);by_cases hv1:1<=v
   .have hin:bq v 1 6=true:=kF.2 (by omega);rw[hin,bg]at m⊢;have mZ:fM v=13+v:=by have:=oC v;omega
    have hkey:aV v r.1 0=r.2.1-1:=by rw[Ow hr (by omega) gT];omega
    have zX:=hsame (fM v) (m _ (by simp));rw[mZ]at zX⊢;have hnew:jB (r.1,r.2.1+1,()) (13+v).toNat=r.2.1:=by unfold jB;rw[af (by omega),af (by omega),af (by omega),af (by omega),show(((13+v).toNat:Nat):Int)-13=v by omega];unfold kM;dsimp only;rw[hkey,aj (by omega)];omega
    refine⟨?_,fun e he=>?_,fun p hp hno=>?_⟩
    .simp only[lH,same,kS,bk,c_,dg,uF,ur,List.Pairwise.nil,gM,Bx,uq,Ai];omega
    .simp only[bk,c_,dg]at he;rcases he with rfl | rfl | rfl
     .refine⟨by show 0<=r.2.1-1;omega,by show r.2.1-1<20;omega,DA,?_⟩;show val (fo r o) (r.2.1-1)=jB (r.1,r.2.1+1,()) (r.2.1-1).toNat
      rw[hx];exact DA
     .exact⟨by simp[same],by simp[same],by show r.2.1=cj r 13;omega,rfl⟩
     .exact⟨by show 0<=13+v;omega,by show 13+v<20;omega,zX,hnew.symm⟩
    .have h1:=hno _ (cD _ bO);have h2:=hno _ (cD _ (cD _ bO));dsimp only at h1 h2;refine(AM hr hp (by omega) (fun _=>.inl (fun q=>?_))).symm;obtain⟨_,g⟩:=KI _ r.1 0 (r.2.1-1).toNat (q.trans (by omega))
     rw[Aj,gT]at g;have:=gu g;omega
   .have hin:bq v 1 6=false:=HB (by omega);rw[hin,aW]at m⊢;refine⟨?_,fun e he=>?_,fun p hp hno=>?_⟩
    .simp only[lH,same,kS,bk,c_,dg,uF,ur,List.Pairwise.nil,gM,Bx,uq,Ai];omega
    .simp only[bk,c_,dg]at he;rcases he with rfl | rfl
     .refine⟨by show 0<=r.2.1-1;omega,by show r.2.1-1<20;omega,DA,?_⟩;show val (fo r o) (r.2.1-1)=jB (r.1,r.2.1+1,()) (r.2.1-1).toNat
      rw[hx];exact DA
     .exact⟨by simp[same],by simp[same],by show r.2.1=cj r 13;omega,rfl⟩
    .have h1:=hno _ (cD _ bO);dsimp only at h1;refine(AM hr hp (by omega) (fun _=>.inl (fun q=>?_))).symm;obtain⟨_,g⟩:=KI _ r.1 0 (r.2.1-1).toNat (q.trans (by omega))
     rw[Aj,gT]at g;have:=gu g;omega
  .have m:=hmem _ hp;have zJ:∀c,gX r o c=r:=fun c=>R6 c (by omega);rw[zJ];refine⟨?_,hr⟩;have hE:dw o (fo r o)=[same (fo r o) 13,same (fo r o) (fM o.2.2.1)]:=by unfold dw;rw[af eG,af (by omega),af (by omega),af (by omega),aj k]
   have hv:fM o.2.2.1=13+o.2.2.1:=by have:=oC o.2.2.1;omega
   rw[hE];rw[hv]at m⊢;refine⟨by simp[lH,same];omega,fun e he=>?_,fun p _ _=>rfl⟩;simp only[bk,c_,dg]at he;rcases he with rfl | rfl
   .exact⟨by simp[same],by simp[same],hsame _ (m _ (by simp)),hsame _ (m _ (by simp))⟩
   .exact⟨by show 0<=13+o.2.2.1;omega,by show 13+o.2.2.1<20;omega,hsame _ (m _ (by simp)),hsame _ (m _ (by simp))⟩
end Go.G

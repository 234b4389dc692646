import Derived.Test.YtpmimbgkiindbaaGreatAPFnAlone1
set_option maxRecDepth 100000
set_option linter.unusedVariables false
set_option linter.unusedSimpArgs false
set_option linter.unusedSectionVars false
open Go.IntKind (wrap)
namespace Go.G
open Go Go.V
theorem aF{R:Type}{a b:Option R}:br true a b=a:=rfl
theorem aL{R:Type}{a b:Option R}:br false a b=b:=rfl
theorem qf{R:Type}{a b:Option R}{p:Prop}[Decidable p](h:p):br (decide p) a b=a:=by simp[br,h]
theorem qg{R:Type}{a b:Option R}{p:Prop}[Decidable p](h:¬ p):br (decide p) a b=b:=by simp[br,h]
theorem qc{α R:Type}{a:α}{f:α->Option R}:qd (some a) f=f a:=rfl
theorem akh{R:Type}{c:Bool}{a:Option R}:br c a a=a:=by cases c<;>rfl
theorem uu{R:Type}{c:Bool}{a b:Option R}:br c a b=if c=true then a else b:=by cases c<;>rfl
theorem acu(x:Int):wrap .i64 x=if x % 18446744073709551616>=9223372036854775808 then x % 18446744073709551616-18446744073709551616 else x % 18446744073709551616:=by by_cases h:x % 18446744073709551616>=9223372036854775808<;>simp[IntKind.wrap,IntKind.signed,IntKind.bits,h]
theorem qs{x:Int}(h1 : -9223372036854775808<=x)(h2:x<=9223372036854775807):wrap .i64 x=x:=by rw[acu];split<;>omega
def W:Nat:=9223372036854775808
theorem ej:W=9223372036854775808:=rfl
theorem i5:f9=274877906944:=rfl
theorem ix{α:Type}{l:List α}{i:Nat}(h:i<l.length):(decide (0<=(i:Int))&&decide ((i:Int)<(l.length:Int)))=true:=by simp only[bI,gQ];omega
theorem fI{α:Type}{l:List α}{i:Int}(h0:0<=i)(h:i<l.length):(decide (0<=i)&&decide (i<(l.length:Int)))=true:=by simp only[bI,gQ];omega
theorem qu{i:Nat}(h:i<9223372036854775807):wrap .i64 ((i:Int)+1)=((i+1:Nat):Int):=by rw[qs]<;>omega
theorem qv{α:Type}{l:List α}{i:Nat}{d:α}(h:i<l.length):l.getD i d=l[i]:=by simp[List.getD,h]
theorem uP{α:Type}{l:List α}{i:Nat}(h:i<l.length):l.drop i=l[i]::l.drop (i+1):=Sv h
theorem uT{α:Type}{l:List α}{i:Nat}(h:¬ i<l.length):l.drop i=[]:=vC (by omega)
def tot:(t:Ty)->t.den->Nat
 | .unit,_=>0
 | .int _,_=>0
 | .bool,_=>0
 | .str,s=>s.size
 | .sl t,xs=>xs.length+(xs.map (tot t)).sum
 | .pair a b,x=>tot a x.1+tot b x.2
def left(t:Ty)(a:t.den)(k:Int):Int:=if (tot t a:Int)<=k then k-tot t a else -1
open Go.Proofs
abbrev Kf:=Int×Int×Unit
abbrev dL:=List Kf
abbrev cK:=Int×Int×Int×Unit
abbrev sG:=dL×List Int×Int×Bool×Unit
abbrev V7:=dL×Int×Bool×Unit
def bu(x a b:Int):Bool:=bif decide (x>=a) then decide (x<=b) else false
theorem kZ{x a b:Int}:bu x a b=true↔a<=x/\x<=b:=by
 unfold bu;by_cases h:x>=a
 .rw[bz h];simp only[bA,gQ];omega
 .rw[b7 h];simp only[bf];constructor
  .intro k;cases k
  .intro k;omega
theorem IL{x a b:Int}(h:¬ (a<=x/\x<=b)):bu x a b=false:=by
 cases k:bu x a b
 .rfl
 .exact absurd (kZ.1 k) h
def qw(k:Int):Int:=bif bu k 0 3 then k else -1
def q9(v:Int):Int:=bif bu v 1 6 then wrap .i64 (3+v) else -1
def iQ(c:Int):Int:=bif bu c 0 2 then wrap .i64 (10+c) else -1
def fQ(v:Int):Int:=bif bu v 1 6 then wrap .i64 (13+v) else -1
def qh(v:Int):Int:=bif bu v 1 6 then Int.tmod v 3 else -1
section
variable {X:Ext} (hX:f4 X) {n:Nat}
include hX
theorem k_(hn:1<=n)(x a b:Int):kC (DD X n) x a b=some ((bu x a b,()),()):=by
 obtain⟨n,rfl⟩:∃k,n=k+1:=⟨n-1,by omega⟩
 rw[aav hX];rfl
theorem yO(hn:1<=n)(x a b:Int):lU (DD X n) x a b=some ((bu x a b,()),()):=by
 obtain⟨n,rfl⟩:∃k,n=k+1:=⟨n-1,by omega⟩
 rw[aay hX];rfl
theorem AX(hn:1<=n)(b:Bool)(x:Int):JV (DD X n) b x=some ((bif b then x else -1,()),()):=by
 obtain⟨n,rfl⟩:∃k,n=k+1:=⟨n-1,by omega⟩
 rw[aiY hX];cases b<;>rfl
theorem Q1(hn:2<=n)(x:Int):TB (DD X n) x=some ((bu x 0 3,()),()):=by
 obtain⟨n,rfl⟩:∃k,n=k+1:=⟨n-1,by omega⟩
 rw[ajJ hX];simp only[q76,Pj];rw[k_ hX (by omega),qc]
theorem IJ(hn:2<=n)(x:Int):zJ (DD X n) x=some ((bu x 1 6,()),()):=by
 obtain⟨n,rfl⟩:∃k,n=k+1:=⟨n-1,by omega⟩
 rw[ajM hX];simp only[q79,Pm];rw[k_ hX (by omega),qc]
theorem RS(hn:2<=n)(x:Int):VD (DD X n) x=some ((bu x 0 2,()),()):=by
 obtain⟨n,rfl⟩:∃k,n=k+1:=⟨n-1,by omega⟩
 rw[ah0 hX];simp only[YH,OW];rw[k_ hX (by omega),qc]
theorem Q2(hn:2<=n)(x:Int):VV (DD X n) x=some ((bu x 0 3,()),()):=by
 obtain⟨n,rfl⟩:∃k,n=k+1:=⟨n-1,by omega⟩
 rw[ajg hX];simp only[q8d,PC];rw[yO hX (by omega),qc]
theorem J6(hn:2<=n)(x:Int):Di (DD X n) x=some ((bu x 1 6,()),()):=by
 obtain⟨n,rfl⟩:∃k,n=k+1:=⟨n-1,by omega⟩
 rw[ajj hX];simp only[q8g,Pw];rw[yO hX (by omega),qc]
theorem MA(hn:2<=n)(x:Int):VW (DD X n) x=some ((bu x 1 4,()),()):=by
 obtain⟨n,rfl⟩:∃k,n=k+1:=⟨n-1,by omega⟩
 rw[ajP hX];simp only[q8j,Py];rw[yO hX (by omega),qc]
theorem yI(hn:1<=n)(x:Int):Cd (DD X n) x=some ((bif bif bif decide (x=1) then true else decide (x=2) then true else decide (x=5) then true else decide (x=10),()),()):=by
 obtain⟨n,rfl⟩:∃k,n=k+1:=⟨n-1,by omega⟩
 rw[ajQ hX];rfl
theorem yB(hn:1<=n):tw (DD X n)=some ((13,()),()):=by
 obtain⟨n,rfl⟩:∃k,n=k+1:=⟨n-1,by omega⟩
 rw[ahT hX];rfl
theorem PM(hn:1<=n):VF (DD X n)=some ((13,()),()):=by
 obtain⟨n,rfl⟩:∃k,n=k+1:=⟨n-1,by omega⟩
 rw[ahz hX];rfl
theorem yE(hn:3<=n)(x:Int):yA (DD X n) x=some ((qw x,()),()):=by
 obtain⟨n,rfl⟩:∃k,n=k+1:=⟨n-1,by omega⟩
 rw[ajL hX];simp only[q78,Pk];rw[Q1 hX (by omega),qc,AX hX (by omega),qc];rfl
theorem Dm(hn:3<=n)(x:Int):yw (DD X n) x=some ((q9 x,()),()):=by
 obtain⟨n,rfl⟩:∃k,n=k+1:=⟨n-1,by omega⟩
 rw[ahS hX];simp only[Ya,OB];rw[IJ hX (by omega),qc,AX hX (by omega),qc];rfl
theorem Dl(hn:3<=n)(x:Int):yu (DD X n) x=some ((iQ x,()),()):=by
 obtain⟨n,rfl⟩:∃k,n=k+1:=⟨n-1,by omega⟩
 rw[ahM hX];simp only[X5,OT];rw[RS hX (by omega),qc,AX hX (by omega),qc];rfl
theorem Cj(hn:3<=n)(x:Int):vN (DD X n) x=some ((fQ x,()),()):=by
 obtain⟨n,rfl⟩:∃k,n=k+1:=⟨n-1,by omega⟩
 rw[ajd hX];simp only[q8a,Pn];rw[IJ hX (by omega),qc,yB hX (by omega),qc,AX hX (by omega),qc];rfl
theorem IC(hn:3<=n)(x:Int):tv (DD X n) x=some ((qh x,()),()):=by
 obtain⟨n,rfl⟩:∃k,n=k+1:=⟨n-1,by omega⟩
 rw[ahL hX];simp only[X4,OS];rw[IJ hX (by omega),qc];unfold qh;cases bu x 1 6<;>rfl
theorem abw(hn:3<=n)(x:Int):q7w (DD X n) x=some ((qw x,()),()):=by
 obtain⟨n,rfl⟩:∃k,n=k+1:=⟨n-1,by omega⟩
 rw[aji hX];simp only[q8f,PD];rw[Q2 hX (by omega),qc];unfold qw;cases bu x 0 3<;>rfl
theorem aaE(hn:3<=n)(x:Int):Ym (DD X n) x=some ((q9 x,()),()):=by
 obtain⟨n,rfl⟩:∃k,n=k+1:=⟨n-1,by omega⟩
 rw[ahx hX];simp only[YO,O1];rw[J6 hX (by omega),qc];unfold q9;cases bu x 1 6<;>rfl
theorem aaD(hn:3<=n)(x:Int):Yk (DD X n) x=some ((iQ x,()),()):=by
 obtain⟨n,rfl⟩:∃k,n=k+1:=⟨n-1,by omega⟩
 rw[ahv hX];simp only[YM,OZ];rw[yO hX (by omega),qc];unfold iQ;cases bu x 0 2<;>rfl
theorem abx(hn:3<=n)(x:Int):q7y (DD X n) x=some ((fQ x,()),()):=by
 obtain⟨n,rfl⟩:∃k,n=k+1:=⟨n-1,by omega⟩
 rw[ajk hX];simp only[q8h,Px];rw[J6 hX (by omega),qc,PM hX (by omega),qc];unfold fQ;cases bu x 1 6<;>rfl
theorem aaC(hn:3<=n)(x:Int):Yj (DD X n) x=some ((qh x,()),()):=by
 obtain⟨n,rfl⟩:∃k,n=k+1:=⟨n-1,by omega⟩
 rw[ahu hX];simp only[YL,OY];rw[J6 hX (by omega),qc];unfold qh;cases bu x 1 6<;>rfl
end
def rd(mZ:Int):dL->Int->Bool->Int×Bool
 | [],n,ok=>(n,ok)
 | p::l,n,ok=>if p.1=mZ then rd mZ l p.2.1 true else rd mZ l n ok
theorem HN(mZ:Int)(p:Kf):∀(l:dL)(n:Int)(ok:Bool),rd mZ (l++[p]) n ok=if p.1=mZ then (p.2.1,true) else rd mZ l n ok
 | [],n,ok=>by simp only[gy,rd]
 | q::l,n,ok=>by
  simp only[fH,rd];by_cases h:q.1=mZ
  .rw[aj h,aj h];exact HN mZ p l _ _
  .rw[af h,af h];exact HN mZ p l _ _
def eW(got:dL)(mZ:Int):Int×Bool:=rd mZ got 0 false
theorem Qq(D:Den ctx)(n:Nat)(K0:Int->Bool->Option ((Int×Bool×Unit)×Unit))(K1:Option ((Int×Bool×Unit)×Unit))(hK:K0 0 false=K1)(got:dL)(hg:got.length<=1048576)(mZ:Int):∀(m k:Nat),k<=got.length->k<m->
  TF D n K0 K1 m got mZ ((k:Int)-1)=K0 (eW (got.take k) mZ).1 (eW (got.take k) mZ).2
 | 0,_,_,h=>by omega
 | m+1,k,hk,hf=>by
  simp only[TF,q84];cases k with
  | zero=>rw[qg (by omega),List.take_zero];exact hK.symm
  | succ j=>
   have hj:j<got.length:=by omega
   have e1:(((j+1:Nat):Int)-1)=(j:Int):=by omega
   have e2:wrap .i64 ((j:Int)-1)=(j:Int)-1:=qs (by omega) (by omega);rw[e1,qf (by omega),ix hj,aF,aF,eB,e2,qv hj,mO hj];unfold eW;rw[HN];by_cases e:got[j].1=mZ
   .rw[qf e,aj e]
   .rw[qg e,af e];exact Qq D n K0 K1 hK got hg mZ m j (by omega) (by omega)
theorem yC{X:Ext}(hX:f4 X){n:Nat}(hn:W+1<=n)(got:dL)(hg:got.length<=1048576)(mZ:Int):uO (DD X n) got mZ=some (((eW got mZ).1,(eW got mZ).2,()),()):=by
 obtain⟨n,rfl⟩:∃k,n=k+1:=⟨n-1,by omega⟩
 have hW:=ej;rw[aat hX];simp only[Gu,Gy,ZY];rw[qs (by omega) (by omega),Qq (DD X n) n (fun bY eG=>OF (DD X n) n bY eG) (OG (DD X n) n) rfl got hg mZ n got.length (cq _) (by omega),B_];rfl
structure alZ (got:dL) (a:sG) (w:V7) (k:Nat):Prop where
 g1:a.1=got
 g2:w.1=got
 al8:a.2.2.1=w.2.1
 al9:a.2.2.2.1=w.2.2.1
 pl:a.2.1.length<=k
section
variable {X:Ext} (hX:f4 X) {n:Nat} (hn:W+6<=n) {got:dL} (hg:got.length<=1048576)
include hX hn hg
end
theorem RM{X:Ext}(hX:f4 X){n:Nat}(hn:1<=n){a:sG}(h:a.2.2.2.1=true)(p:Int):qy (DD X n) a p=some ((0,()),(a,())):=by
 obtain⟨n,rfl⟩:∃k,n=k+1:=⟨n-1,by omega⟩
 rw[qv5 hX];simp only[SW,Vr];rw[h,aF]
theorem L4{X:Ext}(hX:f4 X)(N n:Nat)(hN:3<=N)(K:sG->Option (Unit×sG×Unit))(l:List Int)(hl:l.length<=2){a:sG}(h:a.2.2.2.1=true):∀(m i:Nat),l.length-i<m->
  Iu (DD X N) n K m l (l.length:Int) (i:Int) a=K a
 | 0,_,h=>by omega
 | m+1,i,hf=>by
  simp only[Iu,Vj];by_cases hi:i<l.length
  .rw[qf (by exact_mod_cast hi),ix hi,aF,eB,Cj hX (by omega),qc];dsimp only;rw[RM hX (by omega) h,qc,qu (by omega)];exact L4 hX N n hN K l hl h m (i+1) (by omega)
  .rw[qg (by exact_mod_cast hi)]
section
variable {X:Ext} (hX:f4 X) {n:Nat} {got:dL} (hg:got.length<=1048576)
include hX hg
end
section
variable {X:Ext} (hX:f4 X) {n:Nat} {got:dL} (hg:got.length<=1048576)
include hX hg
end
def hit(got:dL)(p:Int):Bool:=decide (0<=p)&&(eW got p).2
inductive PR where
 | done
 | ask (p:Int) (k:Int->PR)
def run(got:dL):PR->List Int×Int
 | .done=>([],-1)
 | .ask p k=>bif hit got p then (p::(run got (k (eW got p).1)).1,(run got (k (eW got p).1)).2) else ([],p)
theorem nO{got:dL}{p:Int}{k:Int->PR}(h:hit got p=false):run got (.ask p k)=([],p):=by simp only[run];rw[h];rfl
theorem nQ{got:dL}{p:Int}{k:Int->PR}(h:hit got p=true):run got (.ask p k)=(p::(run got (k (eW got p).1)).1,(run got (k (eW got p).1)).2):=by simp only[run];rw[h];rfl
def su:List Int->PR
 | []=>.done
 | v::l=>.ask (fQ v) fun _=>su l
def tC(k:Int)(l:List Int):PR:=.ask 13 fun st=>bif decide (st<=wrap .i64 (k+1)) then .done else su l
def sE(o:cK):PR:=.ask (qw o.2.1) fun r=>bif r != 0 then .done else .ask (q9 o.2.2.1) fun w=>bif w != 0 then .done else .ask (iQ (qh o.2.2.1)) fun _=>tC o.2.1 [o.2.2.1]
def sF(o:cK):PR:=.ask (qw o.2.1) fun r=>bif (bif decide (r=0) then true else decide (r=o.2.2.1)) then .done else .ask (q9 o.2.2.1) fun w=>bif w != 0 then .done else .ask (q9 r) fun _=>
 bif qh r != qh o.2.2.1 then .ask (iQ (qh r)) fun _=>.ask (iQ (qh o.2.2.1)) fun _=>tC o.2.1 [r,o.2.2.1] else tC o.2.1 [r,o.2.2.1]
def uY(o:cK):PR:=.ask (qw o.2.1) fun r=>bif decide (r=0) then .done else .ask (q9 r) fun _=>.ask (iQ (qh r)) fun _=>tC o.2.1 [r]
def yG:PR:=.ask 13 fun st=>bif (bif decide (st<1) then true else decide (st>4)) then .done else .ask (qw (wrap .i64 (st-1))) fun r=>bif !bu r 1 6 then .done else .ask (fQ r) fun _=>.done
def vW(o:cK):PR:=.ask 13 fun st=>bif st != 5 then .done else .ask (fQ o.2.2.1) fun _=>.done
def Cn:PR:=.ask 0 fun _=>.ask 1 fun _=>.ask 2 fun _=>.ask 3 fun _=>.done
def prog(o:cK):PR:=
 if o.1=1 then sE o else if o.1=2 then sF o else if o.1=3 then uY o else
 if o.1=4 then .ask (qw o.2.1) fun _=>.done else if o.1=5 then .ask (q9 o.2.2.1) fun _=>.done else if o.1=6 then .ask (iQ o.2.1) fun _=>.done else
 if o.1=7 then Cn else if o.1=8 then .ask 13 fun _=>.done else if o.1=9 then yG else if o.1=10 then vW o else .done
section
variable {X:Ext} (hX:f4 X) {n:Nat} {got:dL}
include hX
theorem EO(hn:1<=n)(pl:List Int)(m p:Int):qy (DD X n) (got,pl,m,true,()) p=some ((0,()),((got,pl,m,true,()),())):=RM hX hn rfl p
theorem C_(hn:1<=n)(pl:List Int)(m:Int)(o b:Bool):tr (DD X n) (got,pl,m,o,()) b=some ((),((got,pl,m,bif o then true else b,()),())):=by
 obtain⟨n,rfl⟩:∃k,n=k+1:=⟨n-1,by omega⟩
 rw[afb hX];rfl
theorem oG(hn:W+2<=n)(hg:got.length<=1048576){pl:List Int}(hl:pl.length<=1000)(m:Int){p:Int}(h:hit got p=true) :
  qy (DD X n) (got,pl,m,false,()) p=some (((eW got p).1,()),((got,pl++[p],m,false,()),())):=by
 obtain⟨n,rfl⟩:∃k,n=k+1:=⟨n-1,by omega⟩
 have hb:=i5;unfold hit at h;simp only[bI,gQ]at h;rw[qv5 hX];simp only[SW,Vr];rw[aL,yC hX (by omega) got hg,qc];dsimp only;rw[b7 (by omega:¬ p<0),h.2,cJ,bf,aL,qf (by omega)]
theorem oF(hn:W+2<=n)(hg:got.length<=1048576)(pl:List Int)(m:Int){p:Int}(h:hit got p=false) :
  qy (DD X n) (got,pl,m,false,()) p=some ((0,()),((got,pl,p,true,()),())):=by
 obtain⟨n,rfl⟩:∃k,n=k+1:=⟨n-1,by omega⟩
 unfold hit at h;rw[qv5 hX];simp only[SW,Vr];rw[aL,yC hX (by omega) got hg,qc];dsimp only;have:(bif decide (p<0) then true else !(eW got p).2)=true:=by
  by_cases h0:p<0
  .rw[bz h0];rfl
  .rw[b7 h0];rw[bz (by omega:0<=p),zE]at h;rw[h];rfl
 rw[this,aF]
theorem NT(N m0:Nat)(hN:W+4<=N)(hg:got.length<=1048576)(K:sG->Option (Unit×sG×Unit))(l:List Int)(hl:l.length<=2):∀(m i:Nat)(pl:List Int),l.length-i<m->i<=l.length->pl.length<=20+i->
  ∃b,Iu (DD X N) n K m l (l.length:Int) (i:Int) (got,pl,-1,false,())=K (got,pl++(run got (su (l.drop i))).1,(run got (su (l.drop i))).2,b,())
 | 0,_,_,h,_,_=>by omega
 | m+1,i,pl,hf,hi,hp=>by
  simp only[Iu,Vj];by_cases h:i<l.length
  .rw[qf (by exact_mod_cast h),ix h,aF,eB,Cj hX (by omega),qc,qv h];dsimp only;rw[uP h];simp only[su];rw[qu (by omega)];cases hh:hit got (fQ l[i])
   .rw[oF hX (by omega) hg _ _ hh,qc,nO hh];dsimp only;rw[L4 hX N n (by omega) K l hl (by rfl) m (i+1) (by omega)];exact⟨true,by rw[gR]⟩
   .rw[oG hX (by omega) hg (by omega) _ hh,qc,nQ hh];dsimp only;obtain⟨b,e⟩:=NT N m0 hN hg K l hl m (i+1) (pl++[fQ l[i]]) (by omega) (by omega) (by rw[cT];simp only[ct,gz];omega);rw[e];exact⟨b,by rw[eH];rfl⟩
  .rw[qg (by exact_mod_cast h),uT h];exact⟨false,by simp only[su,run];rw[gR]⟩
theorem BD(hn:W+6<=n)(hg:got.length<=1048576){pl:List Int}(hp:pl.length<=10)(c:Int)(l:List Int)(hl:l.length<=2) :
  ∃b,It (DD X n) (got,pl,-1,false,()) c l=some ((),((got,pl++(run got (tC c l)).1,(run got (tC c l)).2,b,()),())):=by
 obtain⟨n,rfl⟩:∃k,n=k+1:=⟨n-1,by omega⟩
 have hW:=ej;rw[q8k hX];simp only[Vq,Vs,Vi];rw[yB hX (by omega),qc];dsimp only;unfold tC;cases h:hit got 13
 .rw[oF hX (by omega) hg _ _ h,qc,nO h];dsimp only;rw[C_ hX (by omega),qc];dsimp only;rw[bA];have e:=L4 hX n n (by omega) (fun bY=>SL (DD X n) n bY) l hl (a:=(got,pl,13,true,())) rfl n 0 (by omega);rw[show((0:Nat):Int)=0 from rfl]at e;rw[e];exact⟨true,by rw[gR];rfl⟩
 .rw[oG hX (by omega) hg (by omega) _ h,qc,nQ h];dsimp only;rw[C_ hX (by omega),qc];dsimp only;rw[bf];cases hs:decide ((eW got 13).1<=wrap .i64 (c+1))
  .rw[bf];obtain⟨b,e⟩:=NT hX n 0 (by omega) hg (fun bY=>SL (DD X n) n bY) l hl n 0 (pl++[13]) (by omega) (by omega) (by rw[cT];simp only[ct,gz];omega);rw[show((0:Nat):Int)=0 from rfl,jU]at e;rw[e];exact⟨b,by rw[eH];rfl⟩
  .rw[bA];have e:=L4 hX n n (by omega) (fun bY=>SL (DD X n) n bY) l hl (a:=(got,pl++[13],-1,true,())) rfl n 0 (by omega);rw[show((0:Nat):Int)=0 from rfl]at e;rw[e];exact⟨true,rfl⟩
theorem Hl(hn:5<=n)(pl:List Int)(m c:Int)(l:List Int)(hl:l.length<=2)(hW2:W+6<=n):It (DD X n) (got,pl,m,true,()) c l=some ((),((got,pl,m,true,()),())):=by
 obtain⟨n,rfl⟩:∃k,n=k+1:=⟨n-1,by omega⟩
 have hW:=ej;rw[q8k hX];simp only[Vq,Vs,Vi];rw[yB hX (by omega),qc];dsimp only;rw[EO hX (by omega),qc];dsimp only;rw[C_ hX (by omega),qc];dsimp only;rw[bA];have e:=L4 hX n n (by omega) (fun bY=>SL (DD X n) n bY) l hl (a:=(got,pl,m,true,())) rfl n 0 (by omega);rw[show((0:Nat):Int)=0 from rfl]at e;rw[e];rfl
end
section
variable {X:Ext} (hX:f4 X) {n:Nat} {got:dL}
include hX
theorem acI(hn:W+8<=n)(hg:got.length<=1048576)(K V:Int) :
  ∃b,SJ (DD X n) (got,[],-1,false,()) (1,K,V,())=some ((),((got,(run got (sE (1,K,V,()))).1,(run got (sE (1,K,V,()))).2,b,()),())):=by
 obtain⟨n,rfl⟩:∃k,n=k+1:=⟨n-1,by omega⟩
 have hW:=ej;have he:=fun pl m p=>EO hX (n:=n) (got:=got) (by omega) pl m p;have hs:=fun pl m o b=>C_ hX (n:=n) (got:=got) (by omega) pl m o b;have hr:=fun x=>yE hX (n:=n) (by omega) x;have ho:=fun x=>Dm hX (n:=n) (by omega) x;have hc:=fun x=>Dl hX (n:=n) (by omega) x;have hk:=fun x=>IC hX (n:=n) (by omega) x;have mT:=fun pl m c l hl=>Hl hX (n:=n) (got:=got) (by omega) pl m c l hl (by omega);rw[qqi hX];simp only[SK,Ve];rw[hr,qc];dsimp only;unfold sE;dsimp only;cases h1:hit got (qw K)
 .rw[oF hX (by omega) hg _ _ h1,qc,nO h1];dsimp only;rw[qf trivial];simp only[he,hs,ho,hc,hk,qc,bA,mT _ _ _ [V] (by simp)];exact⟨true,rfl⟩
 .rw[oG hX (by omega) hg (by simp) _ h1,qc,nQ h1];dsimp only;rw[qf trivial,hs,qc];dsimp only;rw[bf];cases h2:((eW got (qw K)).1 != 0)
  .rw[bf,ho,qc];dsimp only;cases h3:hit got (q9 V)
   .rw[oF hX (by omega) hg _ _ h3,qc,nO h3];simp only[he,hs,ho,hc,hk,qc,bA,mT _ _ _ [V] (by simp)];exact⟨true,rfl⟩
   .rw[oG hX (by omega) hg (by simp) _ h3,qc,nQ h3];dsimp only;rw[hs,qc];dsimp only;rw[bf];cases h4:((eW got (q9 V)).1 != 0)
    .rw[bf,hk,qc];dsimp only;rw[hc,qc];dsimp only;cases h5:hit got (iQ (qh V))
     .rw[oF hX (by omega) hg _ _ h5,qc,nO h5];simp only[qc,mT _ _ _ [V] (by simp)];exact⟨true,rfl⟩
     .rw[oG hX (by omega) hg (by simp) _ h5,qc,nQ h5];dsimp only;obtain⟨b,e⟩:=BD hX (n:=n) (by omega) hg (pl:=[]++[qw K]++[q9 V]++[iQ (qh V)]) (by simp) K [V] (by simp);rw[e,qc];exact⟨b,rfl⟩
    .simp only[he,hs,ho,hc,hk,qc,bA,mT _ _ _ [V] (by simp),run];exact⟨true,rfl⟩
  .simp only[he,hs,ho,hc,hk,qc,bA,mT _ _ _ [V] (by simp),run];exact⟨true,rfl⟩
theorem acJ(hn:W+8<=n)(hg:got.length<=1048576)(K V:Int) :
  ∃b,SJ (DD X n) (got,[],-1,false,()) (2,K,V,())=some ((),((got,(run got (sF (2,K,V,()))).1,(run got (sF (2,K,V,()))).2,b,()),())):=by
 obtain⟨n,rfl⟩:∃k,n=k+1:=⟨n-1,by omega⟩
 have hW:=ej;have he:=fun pl m p=>EO hX (n:=n) (got:=got) (by omega) pl m p;have hs:=fun pl m o b=>C_ hX (n:=n) (got:=got) (by omega) pl m o b;have hr:=fun x=>yE hX (n:=n) (by omega) x;have ho:=fun x=>Dm hX (n:=n) (by omega) x;have hc:=fun x=>Dl hX (n:=n) (by omega) x;have hk:=fun x=>IC hX (n:=n) (by omega) x;have mT:=fun pl m c a b=>Hl hX (n:=n) (got:=got) (by omega) pl m c [a,b] (by simp) (by omega);have hsame:∀(c:Bool)(x:Option (Unit×sG×Unit)),br c x x=x:=by intro c x;cases c<;>rfl
 rw[qqi hX];simp only[SK,Ve];rw[hr,qc];dsimp only;unfold sF;dsimp only;cases h1:hit got (qw K)
 .rw[oF hX (by omega) hg _ _ h1,qc,nO h1];dsimp only;rw[qg (by decide),qf trivial];simp only[he,hs,ho,hc,hk,qc,bA,mT,hsame];exact⟨true,rfl⟩
 .rw[oG hX (by omega) hg (by simp) _ h1,qc,nQ h1];dsimp only;generalize hv:(eW got (qw K)).1=v;rw[qg (by decide),qf trivial,hs,qc];dsimp only;rw[bf];cases h2:(bif decide (v=0) then true else decide (v=V))
  .rw[bf,ho,qc];dsimp only;cases h3:hit got (q9 V)
   .rw[oF hX (by omega) hg _ _ h3,qc,nO h3];simp only[he,hs,ho,hc,hk,qc,bA,mT,hsame];exact⟨true,rfl⟩
   .rw[oG hX (by omega) hg (by simp) _ h3,qc,nQ h3];dsimp only;rw[hs,qc];dsimp only;rw[bf];cases h4:((eW got (q9 V)).1 != 0)
    .rw[bf,ho,qc];dsimp only;cases h5:hit got (q9 v)
     .rw[oF hX (by omega) hg _ _ h5,qc,nO h5];simp only[he,hs,ho,hc,hk,qc,bA,mT,hsame];exact⟨true,rfl⟩
     .rw[oG hX (by omega) hg (by simp) _ h5,qc,nQ h5,hk,qc,hk,qc];dsimp only;cases h6:(qh v != qh V)
      .rw[aL,bf];obtain⟨b,e⟩:=BD hX (n:=n) (by omega) hg (pl:=[]++[qw K]++[q9 V]++[q9 v]) (by simp) K [v,V] (by simp);rw[e,qc];exact⟨b,rfl⟩
      .rw[aF,bA];simp only[qc];rw[hc,qc];dsimp only;cases h7:hit got (iQ (qh v))
       .rw[oF hX (by omega) hg _ _ h7,qc,nO h7];simp only[he,hs,ho,hc,hk,qc,bA,mT,hsame];exact⟨true,rfl⟩
       .rw[oG hX (by omega) hg (by simp) _ h7,qc,nQ h7];simp only[qc];rw[hc,qc];dsimp only;cases h8:hit got (iQ (qh V))
        .rw[oF hX (by omega) hg _ _ h8,qc,nO h8];simp only[he,hs,ho,hc,hk,qc,bA,mT,hsame];exact⟨true,rfl⟩
        .rw[oG hX (by omega) hg (by simp) _ h8,qc,nQ h8];dsimp only;obtain⟨b,e⟩:=BD hX (n:=n) (by omega) hg (pl:=[]++[qw K]++[q9 V]++[q9 v]++[iQ (qh v)]++[iQ (qh V)]) (by simp) K [v,V] (by simp);rw[e,qc];exact⟨b,rfl⟩
    .simp only[he,hs,ho,hc,hk,qc,bA,mT,run,hsame];exact⟨true,rfl⟩
  .simp only[he,hs,ho,hc,hk,qc,bA,mT,run,hsame];exact⟨true,rfl⟩
theorem aci(hn:W+8<=n)(hg:got.length<=1048576)(K V:Int) :
  ∃b,SJ (DD X n) (got,[],-1,false,()) (3,K,V,())=some ((),((got,(run got (uY (3,K,V,()))).1,(run got (uY (3,K,V,()))).2,b,()),())):=by
 obtain⟨n,rfl⟩:∃k,n=k+1:=⟨n-1,by omega⟩
 have hW:=ej;have he:=fun pl m p=>EO hX (n:=n) (got:=got) (by omega) pl m p;have hs:=fun pl m o b=>C_ hX (n:=n) (got:=got) (by omega) pl m o b;have hr:=fun x=>yE hX (n:=n) (by omega) x;have ho:=fun x=>Dm hX (n:=n) (by omega) x;have hc:=fun x=>Dl hX (n:=n) (by omega) x;have hk:=fun x=>IC hX (n:=n) (by omega) x;have mT:=fun pl m c a=>Hl hX (n:=n) (got:=got) (by omega) pl m c [a] (by simp) (by omega);rw[qqi hX];simp only[SK,Ve];rw[hr,qc];dsimp only;unfold uY;dsimp only;cases h1:hit got (qw K)
 .rw[oF hX (by omega) hg _ _ h1,qc,nO h1];dsimp only;rw[qg (by decide),qg (by decide)];simp only[he,hs,ho,hc,hk,qc,bA,mT];exact⟨true,rfl⟩
 .rw[oG hX (by omega) hg (by simp) _ h1,qc,nQ h1];dsimp only;generalize hv:(eW got (qw K)).1=v;rw[qg (by decide),qg (by decide),hs,qc];dsimp only;rw[bf];cases h2:decide (v=0)
  .rw[bf,ho,qc];dsimp only;cases h3:hit got (q9 v)
   .rw[oF hX (by omega) hg _ _ h3,qc,nO h3];simp only[he,hs,ho,hc,hk,qc,bA,mT];exact⟨true,rfl⟩
   .rw[oG hX (by omega) hg (by simp) _ h3,qc,nQ h3,hk,qc];dsimp only;rw[hc,qc];dsimp only;cases h5:hit got (iQ (qh v))
    .rw[oF hX (by omega) hg _ _ h5,qc,nO h5];simp only[he,hs,ho,hc,hk,qc,bA,mT];exact⟨true,rfl⟩
    .rw[oG hX (by omega) hg (by simp) _ h5,qc,nQ h5];dsimp only;obtain⟨b,e⟩:=BD hX (n:=n) (by omega) hg (pl:=[]++[qw K]++[q9 v]++[iQ (qh v)]) (by simp) K [v] (by simp);rw[e,qc];exact⟨b,rfl⟩
  .simp only[he,hs,ho,hc,hk,qc,bA,mT,run];exact⟨true,rfl⟩
end
section
variable {X:Ext} (hX:f4 X) {n:Nat} {got:dL}
include hX
theorem Bn(hn:W+2<=n)(hg:got.length<=1048576)(p:Int):∃b,qd (qy (DD X n) (got,[],-1,false,()) p) (fun b=>some ((b.2.1,()),())) =
  (some (((got,(run got (.ask p fun _=>.done)).1,(run got (.ask p fun _=>.done)).2,b,()),()),()):Option ((sG×Unit)×Unit)):=by
 cases h:hit got p
 .rw[oF hX hn hg _ _ h,qc,nO h];exact⟨true,rfl⟩
 .rw[oG hX hn hg (by simp) _ h,qc,nQ h];exact⟨false,rfl⟩
theorem abr(hn:W+2<=n)(W3:3<=n)(hg:got.length<=1048576):∃b,
  qd (tw (DD X n)) (fun b=>
          qd (qy (DD X n) (got,[],-1,false,()) (Prod.fst (Prod.fst b))) fun b=>
           qd
            (tr (DD X n) (Prod.fst (Prod.snd b))
             (bif decide (Prod.fst (Prod.fst b)<1) then true else decide (Prod.fst (Prod.fst b)>4)))
            fun b_1=>
            qd (yA (DD X n) (wrap .i64 (Prod.fst (Prod.fst b)-1))) fun b=>
             qd (qy (DD X n) (Prod.fst (Prod.snd b_1)) (Prod.fst (Prod.fst b))) fun b=>
              qd (zJ (DD X n) (Prod.fst (Prod.fst b))) fun b_2=>
               qd (tr (DD X n) (Prod.fst (Prod.snd b)) !Prod.fst (Prod.fst b_2)) fun T6=>
                qd (vN (DD X n) (Prod.fst (Prod.fst b))) fun b=>
                 qd (qy (DD X n) (Prod.fst (Prod.snd T6)) (Prod.fst (Prod.fst b))) fun b=>
                  some ((Prod.fst (Prod.snd b),()),()))=(some (((got,(run got yG).1,(run got yG).2,b,()),()),()):Option ((sG×Unit)×Unit)):=by
 have he:=fun pl m p=>EO hX (n:=n) (got:=got) (by omega) pl m p;have hs:=fun pl m o b=>C_ hX (n:=n) (got:=got) (by omega) pl m o b;have hr:=fun x=>yE hX (n:=n) (by omega) x;have hv:=fun x=>IJ hX (n:=n) (by omega) x;have hi:=fun x=>Cj hX (n:=n) (by omega) x;rw[yB hX (by omega),qc];dsimp only;unfold yG;cases h:hit got 13
 .rw[oF hX hn hg _ _ h,qc,nO h];simp only[he,hs,hr,hv,hi,qc,bA];exact⟨true,rfl⟩
 .rw[oG hX hn hg (by simp) _ h,qc,nQ h];dsimp only;generalize (eW got 13).1=st;rw[hs,qc];dsimp only;rw[bf];cases h2:(bif decide (st<1) then true else decide (st>4))
  .rw[bf,hr,qc];dsimp only;cases h3:hit got (qw (wrap .i64 (st-1)))
   .rw[oF hX hn hg _ _ h3,qc,nO h3];simp only[he,hs,hr,hv,hi,qc,bA];exact⟨true,rfl⟩
   .rw[oG hX hn hg (by simp) _ h3,qc,nQ h3];dsimp only;generalize (eW got (qw (wrap .i64 (st-1)))).1=r;rw[hv,qc];dsimp only;rw[hs,qc];dsimp only;rw[bf];cases h4:bu r 1 6
    .simp only[he,hs,hr,hv,hi,qc,jm,bA,run];exact⟨true,rfl⟩
    .rw[cJ,bf,hi,qc];dsimp only;cases h5:hit got (fQ r)
     .rw[oF hX hn hg _ _ h5,qc,nO h5];exact⟨true,rfl⟩
     .rw[oG hX hn hg (by simp) _ h5,qc,nQ h5];exact⟨false,rfl⟩
  .simp only[he,hs,hr,hv,hi,qc,bA,run];exact⟨true,rfl⟩
theorem acK(hn:W+2<=n)(W3:3<=n)(hg:got.length<=1048576)(o:cK):∃b,
  qd (tw (DD X n)) (fun b=>
           qd (qy (DD X n) (got,[],-1,false,()) (Prod.fst (Prod.fst b))) fun b=>
            qd (tr (DD X n) (Prod.fst (Prod.snd b)) (Prod.fst (Prod.fst b) != 5)) fun b=>
             qd (vN (DD X n) o.2.2.1) fun b_1=>
              qd (qy (DD X n) (Prod.fst (Prod.snd b)) (Prod.fst (Prod.fst b_1))) fun b=>some ((Prod.fst (Prod.snd b),()),())) =
  (some (((got,(run got (vW o)).1,(run got (vW o)).2,b,()),()),()):Option ((sG×Unit)×Unit)):=by
 have he:=fun pl m p=>EO hX (n:=n) (got:=got) (by omega) pl m p;have hs:=fun pl m o b=>C_ hX (n:=n) (got:=got) (by omega) pl m o b;have hi:=fun x=>Cj hX (n:=n) (by omega) x;rw[yB hX (by omega),qc];dsimp only;unfold vW;cases h:hit got 13
 .rw[oF hX hn hg _ _ h,qc,nO h];simp only[he,hs,hi,qc,bA];exact⟨true,rfl⟩
 .rw[oG hX hn hg (by simp) _ h,qc,nQ h];dsimp only;generalize (eW got 13).1=st;rw[hs,qc];dsimp only;rw[bf];cases h2:(st != 5)
  .rw[bf,hi,qc];dsimp only;cases h5:hit got (fQ o.2.2.1)
   .rw[oF hX hn hg _ _ h5,qc,nO h5];exact⟨true,rfl⟩
   .rw[oG hX hn hg (by simp) _ h5,qc,nQ h5];exact⟨false,rfl⟩
  .simp only[he,hs,hi,qc,bA,run];exact⟨true,rfl⟩
def Ma:Nat->Nat->PR
 | _,0=>.done
 | i,d+1=>.ask (i:Int) fun _=>Ma (i+1) d
theorem Mf(N n:Nat)(hN:3<=N)(K:sG->Option ((sG×Unit)×Unit))(pl:List Int)(m0:Int):∀(m i:Nat),i<=4->4-i<m->Dh (DD X N) n K m (i:Int) (got,pl,m0,true,())=K (got,pl,m0,true,())
 | 0,_,_,h=>by omega
 | m+1,i,hi,hf=>by
  simp only[Dh,Tu];by_cases h:(i:Int)<4
  .rw[qf h,yE hX (by omega),qc];dsimp only;rw[EO hX (by omega),qc,qu (by omega)];exact Mf N n hN K pl m0 m (i+1) (by omega) (by omega)
  .rw[qg h]
theorem NF(N n:Nat)(hN:W+6<=N)(hN3:3<=N)(hg:got.length<=1048576)(K:sG->Option ((sG×Unit)×Unit)):∀(m d i:Nat)(pl:List Int),i+d=4->d<m->pl.length<=i->
  ∃b,Dh (DD X N) n K m (i:Int) (got,pl,-1,false,())=K (got,pl++(run got (Ma i d)).1,(run got (Ma i d)).2,b,())
 | 0,_,_,_,_,h,_=>by omega
 | m+1,0,i,pl,hi,hf,hp=>by
  simp only[Dh,Tu];rw[qg (by omega)];exact⟨false,by simp only[Ma,run];rw[gR]⟩
 | m+1,d+1,i,pl,hi,hf,hp=>by
  simp only[Dh,Tu];have hr:qw (i:Int)=i:=by unfold qw;rw[kZ.2 (by omega)];rfl
  rw[qf (by omega),yE hX (by omega),qc,hr];dsimp only;simp only[Ma];rw[qu (by omega)];cases h:hit got (i:Int)
  .rw[oF hX (by omega) hg _ _ h,qc,nO h];dsimp only;rw[Mf hX N n hN3 K pl (i:Int) m (i+1) (by omega) (by omega)];exact⟨true,by rw[gR]⟩
  .rw[oG hX (by omega) hg (by omega) _ h,qc,nQ h];dsimp only;obtain⟨b,e⟩:=NF N n hN hN3 hg K m d (i+1) (pl++[(i:Int)]) (by omega) (by omega) (by rw[cT];simp only[ct,gz];omega);rw[e];exact⟨b,by rw[eH];rfl⟩
theorem RR(hn:W+10<=n)(hg:got.length<=1048576)(o:cK) :
  ∃b,VT (DD X n) o got=some (((got,(run got (prog o)).1,(run got (prog o)).2,b,()),()),()):=by
 obtain⟨n,rfl⟩:∃k,n=k+1:=⟨n-1,by omega⟩
 have hW:=ej;obtain⟨k,K,V,⟨⟩⟩:=o;rw[aje hX];simp only[q8b,q9a];unfold prog;dsimp only;by_cases k1:k=1
 .subst k1;obtain⟨b,e⟩:=acI hX (n:=n) (by omega) hg K V;rw[qf rfl,qf rfl,e,qc,aj rfl];exact⟨b,rfl⟩
 rw[qg k1,af k1];by_cases k2:k=2
 .subst k2;obtain⟨b,e⟩:=acJ hX (n:=n) (by omega) hg K V;rw[qf rfl,qf rfl,e,qc,aj rfl];exact⟨b,rfl⟩
 rw[qg k2,af k2];by_cases k3:k=3
 .subst k3;obtain⟨b,e⟩:=aci hX (n:=n) (by omega) hg K V;rw[qf rfl,e,qc,aj rfl];exact⟨b,rfl⟩
 rw[qg k3,af k3];by_cases k4:k=4
 .rw[qf k4,aj k4,yE hX (by omega),qc];exact Bn hX (by omega) hg _
 rw[qg k4,af k4];by_cases k5:k=5
 .rw[qf k5,aj k5,Dm hX (by omega),qc];exact Bn hX (by omega) hg _
 rw[qg k5,af k5];by_cases k6:k=6
 .rw[qf k6,aj k6,Dl hX (by omega),qc];exact Bn hX (by omega) hg _
 rw[qg k6,af k6];by_cases k7:k=7
 .rw[qf k7,aj k7];simp only[Y9];obtain⟨b,e⟩:=NF hX n n (by omega) (by omega) hg (fun bY=>Oq (DD X n) n bY) n 4 0 [] rfl (by omega) (by simp);rw[show((0:Nat):Int)=0 from rfl]at e;rw[e];exact⟨b,rfl⟩
 rw[qg k7,af k7];by_cases k8:k=8
 .rw[qf k8,aj k8,yB hX (by omega),qc];exact Bn hX (by omega) hg _
 rw[qg k8,af k8];by_cases k9:k=9
 .rw[qf k9,aj k9];exact abr hX (by omega) (by omega) hg
 rw[qg k9,af k9];by_cases jo:k=10
 .rw[qf jo,aj jo];exact acK hX (by omega) (by omega) hg (k,K,V,())
 rw[qg jo,af jo];exact⟨false,rfl⟩
end
abbrev eu:=Int×Int×Int×Unit
def iF{α:Type}(key:α->Int):List α->α->List α
 | [],x=>[x]
 | y::rs,x=>if key x<key y then y::iF key rs x else x::y::rs
def jZ{α:Type}(key:α->Int)(s:List α)(x:α):List α:=(iF key s.reverse x).reverse
theorem RO{α:Type}(key:α->Int):∀(rs:List α)(x:α),(iF key rs x).length=rs.length+1
 | [],x=>rfl
 | y::rs,x=>by
  simp only[iF];split
  .simp only[ct,RO key rs x]
  .simp only[ct]
theorem xF{α:Type}(key:α->Int)(s:List α)(x:α):(jZ key s x).length=s.length+1:=by unfold jZ;rw[jS,RO,jS]
theorem RP{α:Type}(key:α->Int):∀(rs:List α)(x z:α),z∈iF key rs x↔z=x\/z∈rs
 | [],x,z=>by simp[iF]
 | y::rs,x,z=>by
  simp only[iF];split
  .simp only[bh,RP key rs x z];constructor
   .rintro(h | h | h)
    .exact .inr (.inl h)
    .exact .inl h
    .exact .inr (.inr h)
   .rintro(h | h | h)
    .exact .inr (.inl h)
    .exact .inl h
    .exact .inr (.inr h)
  .simp only[bh]
theorem HS{α:Type}(key:α->Int)(s:List α)(x z:α):z∈jZ key s x↔z=x\/z∈s:=by unfold jZ;rw[uE,RP,uE]
theorem Nl{α:Type}(key:α->Int)(e:α)(l1:List α)(h1:∀y∈l1,key y<=key e):∀(l2:List α),(∀y∈l2,key e<key y)->jZ key (l1++l2.reverse) e=l1++e::l2.reverse
 | [],_=>by
  unfold jZ;rw[yh,gR];cases h:l1.reverse with
  | nil=>have:l1=[]:=List.reverse_eq_nil_iff.1 h;subst this;rfl
  | cons y rs=>
   have hy:y∈l1:=by rw[<-uE,h];exact e7
   simp only[iF];rw[af (by have:=h1 y hy;omega)];have:l1=rs.reverse++[y]:=by rw[<-B3 l1,h,og]
   rw[this];simp
 | y::l2,h2=>by
  have ih:=Nl key e l1 h1 l2 (fun z hz=>h2 z (cF _ hz));unfold jZ at ih⊢;rw[og,<-eH,List.reverse_append];show(iF key (y::(l1++l2.reverse).reverse) e).reverse=_;simp only[iF];rw[aj (h2 y e7),og,ih];simp
theorem Bg{α:Type}(l:List α)(x:α)(t:List α)(d:α):(l++x::t).getD l.length d=x:=by simp[List.getD]
theorem Bq{α:Type}(l:List α)(x y:α)(t:List α):(l++x::t).set l.length y=l++y::t:=by simp
abbrev tO:Ty:=Ty.pair (Ty.int IntKind.i64) (Ty.pair (Ty.int IntKind.i64) (Ty.pair (Ty.int IntKind.i64) Ty.unit))
def qX(k:Int):Prop:=-1000<=k/\k<=1000
def j3(e:eu):Int:=e.1
section
variable {X:Ext} (hX:f4 X) {n:Nat}
include hX
theorem aks(hn:1<=n)(a b:eu)(ha:qX a.1)(hb:qX b.1):iK ctx (DD X n) (bk.mk 183 []) [bL.val tO a,bL.val tO b] (Ty.int IntKind.i64)=some (a.1-b.1):=by
 obtain⟨n,rfl⟩:∃k,n=k+1:=⟨n-1,by omega⟩
 have h:∀D:Den ctx,iK ctx D (bk.mk 183 []) [bL.val tO a,bL.val tO b] (Ty.int IntKind.i64)=(q7v D a b).bind fun r=>some r.1.1:=fun D=>by kernel_rfl
 unfold qX at ha hb;rw[h,afF hX];simp only[qvz,q9b,dF];rw[qs (by omega) (by omega)]
theorem acO(hn:1<=n){a b x y:eu}(ha:a=x)(hb:b=y)(hx:qX x.1)(hy:qX y.1):iK ctx (DD X n) (bk.mk 183 []) [bL.val tO a,bL.val tO b] (Ty.int IntKind.i64)=some (x.1-y.1):=by subst ha;subst hb;exact aks hX hn a b hx hy
theorem Mh(N n:Nat)(hN:1<=N)(K0:Int->Int->Int->List eu->Option (Unit×List eu×Unit))(b i:Int)(x:eu)(hx:qX x.1):∀(m:Nat)(rs t:List eu),rs.length<m->rs.length+t.length<=1000->(∀e∈rs,qX e.1)->
  JF (DD X N) n (bk.mk 183 []) K0 m 0 b i (rs.length:Int) (rs.reverse++x::t)=K0 0 b i ((iF j3 rs x).reverse++t)
 | 0,_,_,h,_,_=>by omega
 | m+1,[],t,_,_,_=>by
  simp only[JF,US];rw[qg (by simp)];simp[iF]
 | m+1,y::rs,t,hf,hl,hs=>by
  have hy:=hs y e7;have hlen:((y::rs).reverse++x::t).length=rs.length+t.length+2:=by simp;omega
  simp only[ct]at hf hl;have e1:((y::rs).length:Int)=((rs.length+1:Nat):Int):=by simp
  have e2:wrap .i64 (((rs.length+1:Nat):Int)-1)=((rs.length:Nat):Int):=by rw[qs (by omega) (by omega)];omega
  have g1:((y::rs).reverse++x::t).getD (rs.length+1) (0,0,0,())=x:=by have:=Bg (y::rs).reverse x t (0,0,0,());rw[jS,ct]at this;exact this
  have g2:((y::rs).reverse++x::t).getD rs.length (0,0,0,())=y:=by have:=Bg rs.reverse y (x::t) (0,0,0,());rw[jS]at this;rw[og,eH];exact this
  have s1:((y::rs).reverse++x::t).set (rs.length+1) y=rs.reverse++y::(y::t):=by have:=Bq (y::rs).reverse x y t;rw[jS,ct]at this;rw[this,og,eH];rfl
  have s2:(rs.reverse++y::(y::t)).set rs.length x=rs.reverse++x::(y::t):=by have:=Bq rs.reverse y x (y::t);rw[jS]at this;exact this
  simp only[JF,US];rw[e1,e2,qf (by omega),fI (by omega) (by rw[hlen];omega),aF,fI (by omega) (by rw[hlen];omega),aF];simp only[eB,b8];rw[acO hX hN g1 g2 hx hy,qc,g1,g2,aF,aF,aF,s1,s2];have iH:(rs.reverse++y::(y::t)).length=rs.length+t.length+2:=by simp;omega
  simp only[iF];by_cases hlt:x.1<y.1
  .rw[qf (show x.1-y.1<0 by omega),fI (by omega) (by rw[hlen];omega),aF,aj (show j3 x<j3 y from hlt)];rw[Mh N n hN K0 b i x hx m rs (y::t) (by omega) (by simp only[ct];omega) (fun e he=>hs e (cF _ he))];rw[og,eH];rfl
  .rw[qg (show ¬ x.1-y.1<0 by omega),af (show ¬ j3 x<j3 y from hlt)];simp
theorem Rv(N:Nat)(hN:1<=N)(hW:2000<=N)(K0:List eu->Option (Unit×List eu×Unit)):∀(rest s:List eu)(m:Nat),rest.length<m->s.length+rest.length<=1000->(∀e∈s,qX e.1)->(∀e∈rest,qX e.1)->
  zG (DD X N) N (bk.mk 183 []) K0 m 0 ((s.length+rest.length:Nat):Int) (s.length:Int) (s++rest)=K0 (rest.foldl (jZ j3) s)
 | [],s,0,h,_,_,_=>by omega
 | _::_,s,0,h,_,_,_=>by omega
 | [],s,m+1,_,_,_,_=>by
  simp only[zG,SE];rw[qg (by simp),gR];rfl
 | x::rest,s,m+1,hf,hl,hs,hr=>by
  simp only[ct]at hf hl;simp only[zG,SE,qd1];rw[qf (by simp only[ct];omega)];have e:=Mh hX N N hN (fun bY eG jy ko=>qdp (DD X N) N (bk.mk 183 []) (zG (DD X N) N (bk.mk 183 []) K0 m) K0 bY eG jy ko)
   ((s.length+(x::rest).length:Nat):Int) (s.length:Int) x (hr x e7) N s.reverse rest (by rw[jS];omega) (by rw[jS];omega) (fun e he=>hs e (uE.1 he))
  rw[jS,B3]at e;rw[e];simp only[qdp];rw[qu (by omega)];have e2:=Rv N hN hW K0 rest (jZ j3 s x) m (by omega) (by rw[xF];omega) (fun z hz=>by
   rcases(HS j3 s x z).1 hz with h | h
   .subst h;exact hr _ e7
   .exact hs z h) (fun z hz=>hr z (cF _ hz))
  rw[xF]at e2;rw[show s.length+(x::rest).length=s.length+1+rest.length by simp only[ct];omega];exact e2
end
def fF(e:Int):Int:=e
theorem akG(D:Den ctx)(n:Nat):rM D n 0=some ((0,()),()):=by kernel_rfl
theorem akH(D:Den ctx)(n:Nat):rM D n 1=some ((1,()),()):=by kernel_rfl
theorem akI(D:Den ctx)(n:Nat):rM D n 2=some ((2,()),()):=by kernel_rfl
theorem akJ(D:Den ctx)(n:Nat):rM D n 3=some ((2,()),()):=by kernel_rfl
theorem akK(D:Den ctx)(n:Nat):rM D n 4=some ((3,()),()):=by kernel_rfl
theorem akL(D:Den ctx)(n:Nat):rM D n 5=some ((3,()),()):=by kernel_rfl
theorem akM(D:Den ctx)(n:Nat):rM D n 6=some ((3,()),()):=by kernel_rfl
theorem akN(D:Den ctx)(n:Nat):rM D n 7=some ((3,()),()):=by kernel_rfl
theorem akO(D:Den ctx)(n:Nat):rM D n 8=some ((4,()),()):=by kernel_rfl
theorem akP(D:Den ctx)(n:Nat):rM D n 9=some ((4,()),()):=by kernel_rfl
theorem ac0(D:Den ctx)(n:Nat):rM D n 10=some ((4,()),()):=by kernel_rfl
theorem ac1(D:Den ctx)(n:Nat):rM D n 11=some ((4,()),()):=by kernel_rfl
theorem ac2(D:Den ctx)(n:Nat):rM D n 12=some ((4,()),()):=by kernel_rfl
section
variable {X:Ext} (hX:f4 X) {n:Nat}
include hX
theorem alk(hn:2<=n)(a b:Int):yt (DD X n) a b=some ((decide (a<b),()),()):=by
 obtain⟨n,rfl⟩:∃k,n=k+2:=⟨n-2,by omega⟩
 rw[ahI hX];simp only[Yq,OP];rw[agC hX];simp only[qxv,Og,qc];rw[show(a != a)=false by simp,aL];rfl
theorem Mi(N n:Nat)(hN:2<=N)(K0:Int->Int->Int->List Int->Option (Unit×List Int×Unit))(b i:Int)(x:Int)(hx:qX x):∀(m:Nat)(rs t:List Int),rs.length<m->rs.length+t.length<=1000->(∀e∈rs,qX e)->
  JL (DD X N) n K0 m 0 b i (rs.length:Int) (rs.reverse++x::t)=K0 0 b i ((iF fF rs x).reverse++t)
 | 0,_,_,h,_,_=>by omega
 | m+1,[],t,_,_,_=>by
  simp only[JL,U1];rw[qg (by simp)];simp[iF]
 | m+1,y::rs,t,hf,hl,hs=>by
  have hy:=hs y e7;have hlen:((y::rs).reverse++x::t).length=rs.length+t.length+2:=by simp;omega
  simp only[ct]at hf hl;have e1:((y::rs).length:Int)=((rs.length+1:Nat):Int):=by simp
  have e2:wrap .i64 (((rs.length+1:Nat):Int)-1)=((rs.length:Nat):Int):=by rw[qs (by omega) (by omega)];omega
  have g1:((y::rs).reverse++x::t).getD (rs.length+1) 0=x:=by have:=Bg (y::rs).reverse x t 0;rw[jS,ct]at this;exact this
  have g2:((y::rs).reverse++x::t).getD rs.length 0=y:=by have:=Bg rs.reverse y (x::t) 0;rw[jS]at this;rw[og,eH];exact this
  have s1:((y::rs).reverse++x::t).set (rs.length+1) y=rs.reverse++y::(y::t):=by have:=Bq (y::rs).reverse x y t;rw[jS,ct]at this;rw[this,og,eH];rfl
  have s2:(rs.reverse++y::(y::t)).set rs.length x=rs.reverse++x::(y::t):=by have:=Bq rs.reverse y x (y::t);rw[jS]at this;exact this
  simp only[JL,U1];rw[e1,e2,qf (by omega),fI (by omega) (by rw[hlen];omega),aF,fI (by omega) (by rw[hlen];omega),aF];simp only[eB,b8];rw[g1,g2,alk hX hN,qc];dsimp only;rw[aF,aF,aF,s1,s2];have iH:(rs.reverse++y::(y::t)).length=rs.length+t.length+2:=by simp;omega
  simp only[iF];by_cases hlt:x<y
  .rw[qf (show x<y from hlt),fI (by omega) (by rw[hlen];omega),aF,aj (show fF x<fF y from hlt)];rw[Mi N n hN K0 b i x hx m rs (y::t) (by omega) (by simp only[ct];omega) (fun e he=>hs e (cF _ he))];rw[og,eH];rfl
  .rw[qg (show ¬ x<y from hlt),af (show ¬ fF x<fF y from hlt)];simp
theorem Rw(N:Nat)(hN:2<=N)(hW:2000<=N)(K0:List Int->Option (Unit×List Int×Unit)):∀(rest s:List Int)(m:Nat),rest.length<m->s.length+rest.length<=1000->(∀e∈s,qX e)->(∀e∈rest,qX e)->
  zH (DD X N) N K0 m 0 ((s.length+rest.length:Nat):Int) (s.length:Int) (s++rest)=K0 (rest.foldl (jZ fF) s)
 | [],s,0,h,_,_,_=>by omega
 | _::_,s,0,h,_,_,_=>by omega
 | [],s,m+1,_,_,_,_=>by
  simp only[zH,Ss];rw[qg (by simp),gR];rfl
 | x::rest,s,m+1,hf,hl,hs,hr=>by
  simp only[ct]at hf hl;simp only[zH,Ss,qf9];rw[qf (by simp only[ct];omega)];have e:=Mi hX N N hN (fun bY eG jy ko=>qf0 (DD X N) N (zH (DD X N) N K0 m) K0 bY eG jy ko)
   ((s.length+(x::rest).length:Nat):Int) (s.length:Int) x (hr x e7) N s.reverse rest (by rw[jS];omega) (by rw[jS];omega) (fun e he=>hs e (uE.1 he))
  rw[jS,B3]at e;rw[e];simp only[qf0];rw[qu (by omega)];have e2:=Rw N hN hW K0 rest (jZ fF s x) m (by omega) (by rw[xF];omega) (fun z hz=>by
   rcases(HS fF s x z).1 hz with h | h
   .subst h;exact hr _ e7
   .exact hs z h) (fun z hz=>hr z (cF _ hz))
  rw[xF]at e2;rw[show s.length+(x::rest).length=s.length+1+rest.length by simp only[ct];omega];exact e2
theorem N3(hn:2<=n)(k:Nat)(hk:k<=12):∃v,Vy (DD X n) (IntKind.wrap IntKind.u64 (k:Int))=some ((v,()),()):=by
 obtain⟨n,rfl⟩:∃k,n=k+2:=⟨n-2,by omega⟩
 have hw:IntKind.wrap IntKind.u64 (k:Int)=(k:Int):=by
  have:∀j:Fin 13,IntKind.wrap IntKind.u64 ((j:Nat):Int)=((j:Nat):Int):=by decide +kernel
  exact this ⟨k,by omega⟩
 rw[hw,agh hX];simp only[qxz,Ou];rw[afd hX];have key:∃v,rM (DD X n) n (k:Int)=some ((v,()),()):=by
  match k,hk with
  | 0,_=>exact⟨_,akG _ _⟩
  | 1,_=>exact⟨_,akH _ _⟩
  | 2,_=>exact⟨_,akI _ _⟩
  | 3,_=>exact⟨_,akJ _ _⟩
  | 4,_=>exact⟨_,akK _ _⟩
  | 5,_=>exact⟨_,akL _ _⟩
  | 6,_=>exact⟨_,akM _ _⟩
  | 7,_=>exact⟨_,akN _ _⟩
  | 8,_=>exact⟨_,akO _ _⟩
  | 9,_=>exact⟨_,akP _ _⟩
  | 10,_=>exact⟨_,ac0 _ _⟩
  | 11,_=>exact⟨_,ac1 _ _⟩
  | 12,_=>exact⟨_,ac2 _ _⟩
  | k+13,h=>omega
 obtain⟨v,e⟩:=key;rw[e,qc];exact⟨v,rfl⟩
theorem akp(hn:W+6<=n)(l:List Int)(hl:l.length<=12)(hs:∀e∈l,qX e):U7 (DD X n) l=some ((),l.foldl (jZ fF) [],()):=by
 obtain⟨n,rfl⟩:∃k,n=k+3:=⟨n-3,by omega⟩
 have hW:=ej;rw[adE hX];simp only[qnj,qxd];obtain⟨v,e⟩:=N3 hX (n:=n+2) (by omega) l.length hl;rw[e,qc];dsimp only;rw[q3r hX];simp only[qjo,qjy,qij];rw[show n+1=n+1 from rfl];simp only[U3,qi7];rw[qs (by omega) (by omega),qf (by omega),qvd hX];simp only[qgy,qg3,qf8];rw[show wrap .i64 (0+1)=((1:Nat):Int) by decide +kernel];cases l with
 | nil=>
  obtain⟨n,rfl⟩:∃k,n=k+1:=⟨n-1,by omega⟩
  simp only[zH,Ss];rw[qg (by simp)];rfl
 | cons x l=>have:=Rw hX n (by omega) (by omega) (fun bY=>qjx (DD X n) n bY) l [x] n (by simp only[ct]at hl;omega) (by simp only[ct,gz]at hl⊢;omega) (fun e he=>hs e (by simp only[d6]at he;subst he;exact e7)) (fun e he=>hs e (cF _ he));simp only[ct,gz,kz,SD]at this⊢;rw[show l.length+1=1+l.length by omega,this];rfl
theorem ako(hn:W+6<=n)(l:List eu)(hl:l.length<=12)(hs:∀e∈l,qX e.1):UX (DD X n) l (bk.mk 183 [])=some ((),l.foldl (jZ j3) [],()):=by
 obtain⟨n,rfl⟩:∃k,n=k+3:=⟨n-3,by omega⟩
 have hW:=ej;rw[qpm hX];simp only[qex,qii];obtain⟨v,e⟩:=N3 hX (n:=n+2) (by omega) l.length hl;rw[e,qc];dsimp only;rw[qug hX];simp only[qgn,qgr,qf1];simp only[U0,qgb];rw[qs (by omega) (by omega),qf (by omega),qos hX];simp only[qem,qet,qd0];rw[show wrap .i64 (0+1)=((1:Nat):Int) by decide +kernel];cases l with
 | nil=>
  obtain⟨n,rfl⟩:∃k,n=k+1:=⟨n-1,by omega⟩
  simp only[zG,SE];rw[qg (by simp)];rfl
 | cons x l=>have:=Rv hX n (by omega) (by omega) (fun bY=>qg7 (DD X n) n (bk.mk 183 []) bY) l [x] n (by simp only[ct]at hl;omega) (by simp only[ct,gz]at hl⊢;omega) (fun e he=>hs e (by simp only[d6]at he;subst he;exact e7)) (fun e he=>hs e (cF _ he));simp only[ct,gz,kz,SD]at this⊢;rw[show l.length+1=1+l.length by omega,this];rfl
end
def gU(got:dL)(p:Int)(f:Int->Int):List eu:=bif hit got p then [(p,(eW got p).1,f (eW got p).1,())] else []
theorem xI{got:dL}{p:Int}(h:hit got p=true)(f:Int->Int):gU got p f=[(p,(eW got p).1,f (eW got p).1,())]:=by unfold gU;rw[h];rfl
theorem A3{got:dL}{p:Int}(h:hit got p=false)(f:Int->Int):gU got p f=[]:=by unfold gU;rw[h];rfl
theorem Cr(got:dL)(p:Int)(f:Int->Int):(gU got p f).length<=1:=by unfold gU;cases hit got p<;>simp
def one(v:Int):Int:=wrap .i64 (v+1)
def less(v:Int):Int:=if wrap .i64 (v-1)>0 then wrap .i64 (v-1) else 0
def g8(l:List eu)(e:eu):List eu:=l.takeWhile (fun y=>decide (y.1<e.1))++e::l.dropWhile (fun y=>decide (y.1<e.1))
theorem Sf(l:List eu)(e:eu):(g8 l e).length=l.length+1:=by unfold g8;have:=er List.length (FM (p:=fun y:eu=>decide (y.1<e.1)) (l:=l));rw[cT]at this⊢;rw[ct];omega
theorem H6(got:dL)(p:Int):(bif decide (p<0) then true else !(eW got p).2)=!hit got p:=by
 unfold hit;by_cases h:p<0
 .rw[bz h,b7 (by omega:¬ 0<=p)];rfl
 .rw[b7 h,bz (by omega:0<=p)];rfl
section
variable {X:Ext} (hX:f4 X) {n:Nat} {got:dL}
include hX
theorem uv(hn:W+2<=n)(hg:got.length<=1048576){out:List eu}(ho:out.length<=100)(p to:Int):vJ (DD X n) p to 0 got out=some ((),(out++gU got p (fun _=>to)),()):=by
 obtain⟨n,rfl⟩:∃k,n=k+1:=⟨n-1,by omega⟩
 have hb:=i5;rw[qv6 hX];simp only[SX,Vt];rw[yC hX (by omega) got hg,qc];dsimp only;rw[H6];cases h:hit got p
 .rw[jm,aF,A3 h,gR]
 .rw[cJ,aL,qg (by decide),qg (by decide),qf (by omega),xI h]
theorem alo(hn:W+2<=n)(hg:got.length<=1048576){out:List eu}(ho:out.length<=100)(p to:Int):vJ (DD X n) p to 1 got out=some ((),(out++gU got p one),()):=by
 obtain⟨n,rfl⟩:∃k,n=k+1:=⟨n-1,by omega⟩
 have hb:=i5;rw[qv6 hX];simp only[SX,Vt];rw[yC hX (by omega) got hg,qc];dsimp only;rw[H6];cases h:hit got p
 .rw[jm,aF,A3 h,gR]
 .rw[cJ,aL,qf trivial,qf (by omega),xI h];rfl
theorem alp(hn:W+2<=n)(hg:got.length<=1048576){out:List eu}(ho:out.length<=100)(p to:Int):vJ (DD X n) p to (-1) got out=some ((),(out++gU got p less),()):=by
 obtain⟨n,rfl⟩:∃k,n=k+1:=⟨n-1,by omega⟩
 have hb:=i5;rw[qv6 hX];simp only[SX,Vt];rw[yC hX (by omega) got hg,qc];dsimp only;rw[H6];cases h:hit got p
 .rw[jm,aF,A3 h,gR]
 .rw[cJ,aL,qg (by decide),qf trivial,qf (by omega),xI h];rfl
end
theorem u_(k:Int):((0<=k/\k<=3)/\qw k=k)\/(¬ (0<=k/\k<=3)/\qw k = -1):=by
 unfold qw;by_cases h:0<=k/\k<=3
 .rw[kZ.2 h];exact .inl ⟨h,rfl⟩
 .rw[IL h];exact .inr ⟨h,rfl⟩
theorem uU(v:Int):((1<=v/\v<=6)/\q9 v=3+v)\/(¬ (1<=v/\v<=6)/\q9 v = -1):=by
 unfold q9;by_cases h:1<=v/\v<=6
 .rw[kZ.2 h,bA,qs (by omega) (by omega)];exact .inl ⟨h,rfl⟩
 .rw[IL h];exact .inr ⟨h,rfl⟩
theorem oK(v:Int):((1<=v/\v<=6)/\fQ v=13+v)\/(¬ (1<=v/\v<=6)/\fQ v = -1):=by
 unfold fQ;by_cases h:1<=v/\v<=6
 .rw[kZ.2 h,bA,qs (by omega) (by omega)];exact .inl ⟨h,rfl⟩
 .rw[IL h];exact .inr ⟨h,rfl⟩
theorem uS(c:Int):((0<=c/\c<=2)/\iQ c=10+c)\/(¬ (0<=c/\c<=2)/\iQ c = -1):=by
 unfold iQ;by_cases h:0<=c/\c<=2
 .rw[kZ.2 h,bA,qs (by omega) (by omega)];exact .inl ⟨h,rfl⟩
 .rw[IL h];exact .inr ⟨h,rfl⟩
theorem yF(v:Int):((1<=v/\v<=6)/\0<=qh v/\qh v<=2)\/(¬ (1<=v/\v<=6)/\qh v = -1):=by
 unfold qh;by_cases h:1<=v/\v<=6
 .rw[kZ.2 h,bA,FP (by omega)];exact .inl ⟨h,F9 _ (by omega),by have:=FC v (show(0:Int)<3 by omega);omega⟩
 .rw[IL h];exact .inr ⟨h,rfl⟩
def lJ(l:List eu):Prop:=l.Pairwise fun a b=>a.1<b.1
theorem HV(p:Int):∀(l:List eu),lJ l->∀y∈l.dropWhile (fun y=>decide (y.1<p)),p<=y.1
 | [],_,y,h=>by simp at h
 | x::l,hs,y,h=>by
  have lO:=l9.1 hs;by_cases hx:x.1<p
  .rw[List.dropWhile_cons_of_pos (by exact bz hx)]at h;exact HV p l lO.2 y h
  .rw[List.dropWhile_cons_of_neg (by simpa using hx)]at h;rcases bh.1 h with h | h
   .subst h;omega
   .have:=lO.1 y h;omega
theorem Ib(p:Int):∀(l:List eu),∀y∈l.takeWhile (fun y=>decide (y.1<p)),y.1<p
 | [],y,h=>by simp at h
 | x::l,y,h=>by
  by_cases hx:x.1<p
  .rw[List.takeWhile_cons_of_pos (by exact bz hx)]at h;rcases bh.1 h with h | h
   .subst h;exact hx
   .exact Ib p l y h
  .rw[List.takeWhile_cons_of_neg (by simpa using hx)]at h;simp at h
theorem Sg(l:List eu)(e z:eu):z∈g8 l e↔z=e\/z∈l:=by
 unfold g8;have h:z∈l↔z∈l.takeWhile (fun y=>decide (y.1<e.1))\/z∈l.dropWhile (fun y=>decide (y.1<e.1)):=by rw[<-bN,FM]
 rw[bN,bh,h];constructor
 .rintro(h | h | h)
  .exact .inr (.inl h)
  .exact .inl h
  .exact .inr (.inr h)
 .rintro(h | h | h)
  .exact .inr (.inl h)
  .exact .inl h
  .exact .inr (.inr h)
theorem acY{l:List eu}(hs:lJ l){e:eu}(he:∀y∈l,y.1≠e.1):lJ (g8 l e):=by
 unfold g8;have hd:∀y∈l.dropWhile (fun y=>decide (y.1<e.1)),e.1<y.1:=fun y hy=>by
  have h1:=HV e.1 l hs y hy;have h2:=he y (FW _ |>.mem hy);omega
 have ht:=Ib e.1 l;refine yc.2 ⟨hs.sublist (List.takeWhile_sublist _),l9.2 ⟨hd,hs.sublist (FW _)⟩,fun a ha b hb=>?_⟩;have h1:=ht a ha;rcases bh.1 hb with h | h
 .subst h;exact h1
 .have:=hd b h;omega
theorem aki{l:List eu}(hs:lJ l){e:eu}(he:∀y∈l,y.1≠e.1):jZ j3 l e=g8 l e:=by
 have hd:∀y∈l.dropWhile (fun y=>decide (y.1<e.1)),e.1<y.1:=fun y hy=>by
  have h1:=HV e.1 l hs y hy;have h2:=he y (FW _ |>.mem hy);omega
 have ht:=Ib e.1 l;have:=Nl j3 e (l.takeWhile (fun y=>decide (y.1<e.1))) (fun y hy=>by have:=ht y hy;unfold j3;omega) (l.dropWhile (fun y=>decide (y.1<e.1))).reverse (fun y hy=>hd y (uE.1 hy));rw[B3,FM]at this;rw[this];rfl
def Fu(l:List eu):Prop:=l.Pairwise fun a b=>a.1≠b.1
theorem RI:∀(L acc:List eu),lJ acc->Fu L->(∀a∈acc,∀e∈L,a.1≠e.1)->L.foldl (jZ j3) acc=L.foldl g8 acc/\lJ (L.foldl g8 acc)/\(∀z,z∈L.foldl g8 acc↔z∈acc\/z∈L)/\(L.foldl g8 acc).length=acc.length+L.length
 | [],acc,h,_,_=>⟨rfl,h,fun z=>by simp,rfl⟩
 | e::L,acc,h,hL,hx=>by
  have hL2:=l9.1 hL;have he:∀y∈acc,y.1≠e.1:=fun y hy=>hx y hy e e7;simp only[nI];rw[aki h he];obtain⟨r1,r2,r3,r4⟩:=RI L (g8 acc e) (acY h he) hL2.2 (fun a ha b hb=>by
   rcases(Sg acc e a).1 ha with q | q
   .subst q;exact hL2.1 b hb
   .exact hx a q b (cF _ hb))
  refine⟨r1,r2,fun z=>?_,by rw[r4,Sf,ct];omega⟩;rw[r3 z,Sg,bh];constructor
  .rintro((h | h) | h)
   .exact .inr (.inl h)
   .exact .inl h
   .exact .inr (.inr h)
  .rintro(h | h | h)
   .exact .inl (.inr h)
   .exact .inl (.inl h)
   .exact .inr h
theorem QJ:∀(L acc:List eu),(L.foldl g8 acc).length=acc.length+L.length
 | [],acc=>rfl
 | e::L,acc=>by rw[nI,QJ L,Sf,ct];omega
abbrev Want:=Int×(Int->Int)
def iq(got:dL)(L:List Want):List eu:=L.flatMap fun p=>gU got p.1 p.2
theorem Hy(got:dL):∀(L:List Want),(iq got L).length<=L.length
 | []=>cq _
 | p::L=>by
  have h1:=Cr got p.1 p.2;have h2:=Hy got L;show((p::L).flatMap _).length<=_;rw[B7,cT,ct];have:(L.flatMap fun p=>gU got p.1 p.2).length<=L.length:=h2;omega
theorem Jo(got:dL)(L:List Want)(e:eu):e∈iq got L↔∃p∈L,hit got p.1=true/\e=(p.1,(eW got p.1).1,p.2 (eW got p.1).1,()):=by
 unfold iq;rw[List.mem_flatMap];constructor
 .rintro⟨p,hp,he⟩;refine⟨p,hp,?_⟩;unfold gU at he;cases h:hit got p.1
  .rw[h]at he;simp at he
  .rw[h]at he;simp only[bA,d6]at he;exact⟨rfl,he⟩
 .rintro⟨p,hp,h,rfl⟩;exact⟨p,hp,by rw[xI h];exact d6.2 rfl⟩
theorem Bi{got:dL}{p:Int}(h:hit got p=true):0<=p:=by unfold hit at h;simp only[bI,gQ]at h;exact h.1
theorem Qm(got:dL):∀(L:List Want),(L.Pairwise fun p q=>0<=p.1->p.1≠q.1)->Fu (iq got L)
 | [],_=>List.Pairwise.nil
 | p::L,h=>by
  have h2:=l9.1 h;have ih:=Qm got L h2.2;show Fu ((p::L).flatMap _);rw[B7];cases hh:hit got p.1
  .rw[A3 hh];exact ih
  .rw[xI hh];refine l9.2 ⟨fun e he=>?_,ih⟩;obtain⟨q,hq,_,rfl⟩:=(Jo got L e).1 he;exact h2.1 q hq (Bi hh)
theorem aaX(got:dL)(L:List Want)(h:∀p∈L,p.1<=19):∀e∈iq got L,qX e.1:=by intro e he;obtain⟨p,hp,hh,rfl⟩:=(Jo got L e).1 he;have h1:=Bi hh;have h2:=h p hp;exact⟨by show -1000<=p.1;omega,by show p.1<=1000;omega⟩
def e9(K V held st:Int):List Want:=
 [(qw K,fun _=>V),(13,fun _=>st),(q9 held,fun _=>0),(fQ held,fun _=>0),(q9 V,fun _=>wrap .i64 (K+1)),(fQ V,fun _=>wrap .i64 (K+1))]++
  (bif qh held != qh V then [(iQ (qh held),less),(iQ (qh V),one)] else [])
theorem RX(K V held st:Int):(e9 K V held st).length<=8:=by unfold e9;cases qh held != qh V<;>simp
theorem MO(K V held st:Int):∀p∈e9 K V held st,p.1<=19:=by
 have h1:=u_ K;have h2:=uU held;have h3:=uU V;have h4:=oK held;have h5:=oK V;have h6:=uS (qh held);have h7:=uS (qh V);unfold e9;cases qh held != qh V
 .intro p hp;simp only[bf,gR,bh,dc,di]at hp;rcases hp with rfl | rfl | rfl | rfl | rfl | rfl<;>dsimp only<;>omega
 .intro p hp;simp only[bA,fH,gy,bh,dc,di]at hp;rcases hp with rfl | rfl | rfl | rfl | rfl | rfl | rfl | rfl<;>dsimp only<;>omega
theorem aaT{K V held st:Int}(hv:1<=held/\held<=6->held≠V):(e9 K V held st).Pairwise fun p q=>0<=p.1->p.1≠q.1:=by
 have h1:=u_ K;have h2:=uU held;have h3:=uU V;have h4:=oK held;have h5:=oK V;have h6:=uS (qh held);have h7:=uS (qh V);unfold e9;cases hc:qh held != qh V
 .simp only[bf,gR,l9,bh,dc,di,uF,uL,List.Pairwise.nil,iO,Cb,uK,BP];refine⟨⟨?_,?_,?_,?_,?_⟩,⟨?_,?_,?_,?_⟩,⟨?_,?_,?_⟩,⟨?_,?_⟩,?_⟩<;>omega
 .have hne:qh held≠qh V:=by simpa using hc
  simp only[bA,fH,gy,l9,bh,dc,di,uF,uL,List.Pairwise.nil,iO,Cb,uK,BP];refine⟨⟨?_,?_,?_,?_,?_,?_,?_⟩,⟨?_,?_,?_,?_,?_,?_⟩,⟨?_,?_,?_,?_,?_⟩,⟨?_,?_,?_,?_⟩,⟨?_,?_,?_⟩,⟨?_,?_⟩,?_⟩<;>omega
section
variable {X:Ext} (hX:f4 X) {n:Nat} {got:dL}
include hX
theorem abI(hn:W+9<=n)(hg:got.length<=1048576)(k K V held st:Int) :
  VC (DD X n) (k,K,V,()) got held st=some (((iq got (e9 K V held st)).foldl (jZ j3) [],()),()):=by
 obtain⟨n,rfl⟩:∃k,n=k+1:=⟨n-1,by omega⟩
 have hW:=ej;obtain⟨E1,h1⟩:∃E,E=gU got (qw K) (fun _=>V):=⟨_,rfl⟩
 obtain⟨E2,h2⟩:∃E,E=gU got 13 (fun _=>st):=⟨_,rfl⟩
 obtain⟨E3,h3⟩:∃E,E=gU got (q9 held) (fun _=>0):=⟨_,rfl⟩
 obtain⟨E4,h4⟩:∃E,E=gU got (fQ held) (fun _=>0):=⟨_,rfl⟩
 obtain⟨E5,h5⟩:∃E,E=gU got (q9 V) (fun _=>wrap .i64 (K+1)):=⟨_,rfl⟩
 obtain⟨E6,h6⟩:∃E,E=gU got (fQ V) (fun _=>wrap .i64 (K+1)):=⟨_,rfl⟩
 obtain⟨E7,h7⟩:∃E,E=gU got (iQ (qh held)) less:=⟨_,rfl⟩
 obtain⟨E8,h8⟩:∃E,E=gU got (iQ (qh V)) one:=⟨_,rfl⟩
 have l1:E1.length<=1:=by rw[h1];exact Cr ..
 have l2:E2.length<=1:=by rw[h2];exact Cr ..
 have l3:E3.length<=1:=by rw[h3];exact Cr ..
 have l4:E4.length<=1:=by rw[h4];exact Cr ..
 have l5:E5.length<=1:=by rw[h5];exact Cr ..
 have l6:E6.length<=1:=by rw[h6];exact Cr ..
 have l7:E7.length<=1:=by rw[h7];exact Cr ..
 have l8:E8.length<=1:=by rw[h8];exact Cr ..
 have hs:=fun l hl hk=>ako hX (n:=n) (by omega) l hl hk;have hlen:=nJ (Hy got (e9 K V held st)) (RX K V held st);have iI:=aaX got (e9 K V held st) (MO K V held st);have heq:iq got (e9 K V held st)=bif qh held != qh V then []++E1++E2++E3++E4++E5++E6++E7++E8 else []++E1++E2++E3++E4++E5++E6:=by
  unfold iq e9;cases qh held != qh V
  .simp only[bf,gR,B7,List.flatMap_nil,gy,eH,<-h1,<-h2,<-h3,<-h4,<-h5,<-h6]
  .simp only[bA,fH,gy,gR,B7,List.flatMap_nil,eH,<-h1,<-h2,<-h3,<-h4,<-h5,<-h6,<-h7,<-h8]
 rw[ahX hX];simp only[YE,OU];rw[yE hX (by omega),qc];dsimp only;rw[uv hX (by omega) hg (by simp),<-h1,qc];dsimp only;rw[yB hX (by omega),qc];dsimp only;rw[uv hX (by omega) hg (by simp only[cT,gz];omega),<-h2,qc];dsimp only;rw[Dm hX (by omega),qc];dsimp only;rw[uv hX (by omega) hg (by simp only[cT,gz];omega),<-h3,qc];dsimp only;rw[Cj hX (by omega),qc];dsimp only;rw[uv hX (by omega) hg (by simp only[cT,gz];omega),<-h4,qc];dsimp only;rw[Dm hX (by omega),qc];dsimp only;rw[uv hX (by omega) hg (by simp only[cT,gz];omega),<-h5,qc];dsimp only;rw[Cj hX (by omega),qc];dsimp only;rw[uv hX (by omega) hg (by simp only[cT,gz];omega),<-h6,qc];dsimp only;rw[IC hX (by omega),qc,IC hX (by omega),qc];dsimp only;cases hc:qh held != qh V
 .rw[hc,bf]at heq;rw[aL,<-heq,hs _ (by omega) iI,qc]
 .rw[hc,bA]at heq;rw[aF];simp only[qc];rw[Dl hX (by omega),qc];dsimp only;rw[alp hX (by omega) hg (by simp only[cT,gz];omega),<-h7,qc];dsimp only;rw[Dl hX (by omega),qc];dsimp only;rw[alo hX (by omega) hg (by simp only[cT,gz];omega),<-h8,qc];dsimp only;rw[<-heq,hs _ (by omega) iI,qc]
end
def dh(o:cK):Bool:=
 bif decide (o.1=1)||decide (o.1=2) then bu o.2.1 0 3&&bu o.2.2.1 1 6
 else bif decide (o.1=3)||decide (o.1=4) then bu o.2.1 0 3&&decide (o.2.2.1=0)
 else bif decide (o.1=5)||decide (o.1=10) then decide (o.2.1=0)&&bu o.2.2.1 1 6
 else bif decide (o.1=6) then bu o.2.1 0 2&&decide (o.2.2.1=0)
 else bif decide (o.1=7)||(decide (o.1=8)||decide (o.1=9)) then decide (o.2.1=0)&&decide (o.2.2.1=0) else false
def jM(k V row owner st cnt:Int):Option (Int×List Int):=
 if k=1/\row≠0 then some (1,[]) else
 if k=1/\owner≠0 then some (2,[]) else
 if (k=2\/k=3\/k=4)/\row=0 then some (3,[]) else
 if k=2/\row=V then some (0,[]) else
 if k=2/\owner≠0 then some (2,[]) else
 if k=4 then some (0,[row]) else
 if k=5/\owner=0 then some (3,[]) else
 if k=5 then some (0,[wrap .i64 (owner-1)]) else
 if k=6 then some (0,[cnt]) else
 if k=8/\st≠0 then some (4,[]) else
 if k=9/\(st<1\/st>4) then some (4,[]) else
 if k=10/\st≠5 then some (4,[]) else none
def sH:Option (Int×List Int)->(Int×List Int×Unit)×Bool×Unit
 | some x=>((x.1,x.2,()),true,())
 | none=>((0,[],()),false,())
abbrev pN:=Bool×(Int×List Int×Unit)×List eu×Unit
def mJ(o:cK)(got:dL):Option (Int×List Int):=
 jM o.1 o.2.2.1 (eW got (qw o.2.1)).1 (eW got (q9 o.2.2.1)).1 (eW got 13).1 (eW got (iQ o.2.1)).1
theorem bH(a b:Int):(a != b)=!decide (a=b):=by by_cases h:a=b<;>simp[h]
section
variable {X:Ext} (hX:f4 X) {n:Nat} {got:dL}
include hX
theorem abd(hn:4<=n)(k K V:Int):UD (DD X n) (k,K,V,())=some ((dh (k,K,V,()),()),()):=by
 obtain⟨n,rfl⟩:∃k,n=k+1:=⟨n-1,by omega⟩
 rw[aax hX];simp only[Gw,P9];simp only[Q2 hX (n:=n) (by omega),J6 hX (n:=n) (by omega),yO hX (n:=n) (by omega),MA hX (n:=n) (by omega),yI hX (n:=n) (by omega),qc];unfold dh;dsimp only;generalize hA:bu K 0 3=A;generalize hB:bu V 1 6=B;generalize hC:bu K 0 2=C;generalize hD:decide (K=0)=D;generalize hE:decide (V=0)=E;by_cases h:1<=k/\k<=10
 .have:k=1\/k=2\/k=3\/k=4\/k=5\/k=6\/k=7\/k=8\/k=9\/k=10:=by omega
  rcases this with rfl | rfl | rfl | rfl | rfl | rfl | rfl | rfl | rfl | rfl<;>cases A<;>cases B<;>cases C<;>cases D<;>cases E<;>rfl
 .rw[IL h,jm,aF];simp only[b7 (by omega:¬ k=1),b7 (by omega:¬ k=2),b7 (by omega:¬ k=3),b7 (by omega:¬ k=4),b7 (by omega:¬ k=5),b7 (by omega:¬ k=6),b7 (by omega:¬ k=7),b7 (by omega:¬ k=8),b7 (by omega:¬ k=9),b7 (by omega:¬ k=10),Bool.or_false,bf]
theorem TL(hn:5<=n)(k K V:Int):Dk (DD X n) (k,K,V,())=some ((dh (k,K,V,()),()),()):=by
 obtain⟨n,rfl⟩:∃k,n=k+1:=⟨n-1,by omega⟩
 rw[aaq hX];simp only[Gq,PX];simp only[Q1 hX (n:=n) (by omega),IJ hX (n:=n) (by omega),RS hX (n:=n) (by omega),qc];unfold dh;dsimp only;generalize hA:bu K 0 3=A;generalize hB:bu V 1 6=B;generalize hC:bu K 0 2=C;generalize hD:decide (K=0)=D;generalize hE:decide (V=0)=E;by_cases h:1<=k/\k<=10
 .have:k=1\/k=2\/k=3\/k=4\/k=5\/k=6\/k=7\/k=8\/k=9\/k=10:=by omega
  rcases this with rfl | rfl | rfl | rfl | rfl | rfl | rfl | rfl | rfl | rfl<;>cases A<;>cases B<;>cases C<;>cases D<;>cases E<;>rfl
 .simp only[b7 (by omega:¬ k=1),b7 (by omega:¬ k=2),b7 (by omega:¬ k=3),b7 (by omega:¬ k=4),b7 (by omega:¬ k=5),b7 (by omega:¬ k=6),b7 (by omega:¬ k=7),b7 (by omega:¬ k=8),b7 (by omega:¬ k=9),b7 (by omega:¬ k=10),Bool.or_false,bf,aL]
theorem acg(hn:W+5<=n)(hg:got.length<=1048576)(o:cK):Zy (DD X n) o got=some (sH (mJ o got),()):=by
 obtain⟨n,rfl⟩:∃k,n=k+1:=⟨n-1,by omega⟩
 have hW:=ej;obtain⟨k,K,V,⟨⟩⟩:=o;rw[aiW hX];simp only[Zk,O8];simp only[yE hX (n:=n) (by omega),Dm hX (n:=n) (by omega),Dl hX (n:=n) (by omega),yB hX (n:=n) (by omega),yC hX (n:=n) (by omega) got hg,qc];unfold mJ;dsimp only;generalize (eW got (qw K)).1=row;generalize (eW got (q9 V)).1=owner;generalize (eW got 13).1=st;generalize (eW got (iQ K)).1=cnt;unfold jM;by_cases h:1<=k/\k<=10
 .have:k=1\/k=2\/k=3\/k=4\/k=5\/k=6\/k=7\/k=8\/k=9\/k=10:=by omega
  rcases this with rfl | rfl | rfl | rfl | rfl | rfl | rfl | rfl | rfl | rfl
  .by_cases r0:row=0<;>by_cases w0:owner=0<;>simp[r0,w0,br,sH,bH]
  .by_cases rV:row=V
   .subst rV;by_cases r0:row=0<;>simp[r0,br,sH,bH]
   .by_cases r0:row=0<;>by_cases w0:owner=0<;>simp[r0,rV,w0,br,sH,bH]
  .by_cases r0:row=0<;>simp[r0,br,sH,bH]
  .by_cases r0:row=0<;>simp[r0,br,sH,bH]
  .by_cases w0:owner=0<;>simp[w0,br,sH,bH]
  .simp[br,sH,bH]
  .simp[br,sH,bH]
  .by_cases s0:st=0<;>simp[s0,br,sH,bH]
  .by_cases s1:st<1<;>by_cases s4:4<st<;>simp[s1,s4,br,sH,bH]
  .by_cases s5:st=5<;>simp[s5,br,sH,bH]
 .simp only[b7 (by omega:¬ k=1),b7 (by omega:¬ k=2),b7 (by omega:¬ k=3),b7 (by omega:¬ k=4),b7 (by omega:¬ k=5),b7 (by omega:¬ k=6),b7 (by omega:¬ k=7),b7 (by omega:¬ k=8),b7 (by omega:¬ k=9),b7 (by omega:¬ k=10),bf,aL];have k1:¬ k=1:=by omega
  have k2:¬ k=2:=by omega
  have k3:¬ k=3:=by omega
  have k4:¬ k=4:=by omega
  have k5:¬ k=5:=by omega
  have k6:¬ k=6:=by omega
  have k8:¬ k=8:=by omega
  have k9:¬ k=9:=by omega
  have jo:¬ k=10:=by omega
  simp[k1,k2,k3,k4,k5,k6,k8,k9,jo,sH]
end
def val(got:dL)(p:Int):Int:=(eW got p).1
def mD(k row st p old:Int):Int:=if k=8 then wrap .i64 (old+1) else if k=9 then (if p=13 then wrap .i64 (old+1) else if p=fQ row then st else old) else old
def same(got:dL)(p:Int):eu:=(p,val got p,val got p,())
def dI(o:cK)(got:dL):List eu:=
 if o.1=1\/o.1=2\/o.1=3 then (iq got (e9 o.2.1 o.2.2.1 (val got (qw o.2.1)) (val got 13))).foldl g8 [] else
 if o.1=7 then [same got 0,same got 1,same got 2,same got 3] else
 if o.1=8 then [(13,val got 13,1,())] else
 if o.1=9 then same got (qw (wrap .i64 (val got 13-1)))::(13,val got 13,wrap .i64 (val got 13+1),())::
  (bif bu (val got (qw (wrap .i64 (val got 13-1)))) 1 6 then [(fQ (val got (qw (wrap .i64 (val got 13-1)))),val got (fQ (val got (qw (wrap .i64 (val got 13-1))))),val got 13,())] else []) else
 if o.1=10 then [same got 13,same got (fQ o.2.2.1)] else []
def eF(o:cK)(got:dL):Int×List Int×Unit:=
 if o.1=7 then (0,[val got 0,val got 1,val got 2,val got 3],()) else
 if o.1=10 then (if val got (fQ o.2.2.1)=0 then (3,[],()) else (0,[wrap .i64 (val got (fQ o.2.2.1)-1)],())) else (0,[],())
def Nw:pN:=(false,(0,[],()),[],())
def gh(o:cK)(got:dL):pN×Bool×Unit:=
 if dh o=true/\(run got (prog o)).2<0 then
  match mJ o got with
  | some x=>((true,(x.1,x.2,()),[],()),true,())
  | none=>((false,eF o got,dI o got,()),true,())
 else (Nw,false,())
theorem zW{got:dL}{p:Int}{k:Int->PR}(hp:0<=p)(h:(run got (.ask p k)).2<0):hit got p=true/\(run got (k (val got p))).2<0/\(run got (.ask p k)).1=p::(run got (k (val got p))).1:=by
 cases hh:hit got p
 .rw[nO hh]at h;dsimp only at h;omega
 .rw[nQ hh]at h⊢;exact⟨rfl,h,rfl⟩
theorem tH{o:cK}(h:dh o=true):((o.1=1\/o.1=2)/\(0<=o.2.1/\o.2.1<=3)/\(1<=o.2.2.1/\o.2.2.1<=6))\/((o.1=3\/o.1=4)/\(0<=o.2.1/\o.2.1<=3)/\o.2.2.1=0)\/
  ((o.1=5\/o.1=10)/\o.2.1=0/\(1<=o.2.2.1/\o.2.2.1<=6))\/(o.1=6/\(0<=o.2.1/\o.2.1<=2)/\o.2.2.1=0)\/((o.1=7\/o.1=8\/o.1=9)/\o.2.1=0/\o.2.2.1=0):=by
 unfold dh at h;by_cases Jh:o.1=1\/o.1=2
 .rw[show(decide (o.1=1)||decide (o.1=2))=true by simpa using Jh,bA,bI]at h;exact .inl ⟨Jh,kZ.1 h.1,kZ.1 h.2⟩
 rw[show(decide (o.1=1)||decide (o.1=2))=false by simpa using Jh,bf]at h;by_cases C5:o.1=3\/o.1=4
 .rw[show(decide (o.1=3)||decide (o.1=4))=true by simpa using C5,bA,bI,gQ]at h;exact .inr (.inl ⟨C5,kZ.1 h.1,h.2⟩)
 rw[show(decide (o.1=3)||decide (o.1=4))=false by simpa using C5,bf]at h;by_cases k5:o.1=5\/o.1=10
 .rw[show(decide (o.1=5)||decide (o.1=10))=true by simpa using k5,bA,bI,gQ]at h;exact .inr (.inr (.inl ⟨k5,h.1,kZ.1 h.2⟩))
 rw[show(decide (o.1=5)||decide (o.1=10))=false by simpa using k5,bf]at h;by_cases k6:o.1=6
 .rw[bz k6,bA,bI,gQ]at h;exact .inr (.inr (.inr (.inl ⟨k6,kZ.1 h.1,h.2⟩)))
 rw[b7 k6,bf]at h;by_cases k7:o.1=7\/o.1=8\/o.1=9
 .rw[show(decide (o.1=7)||(decide (o.1=8)||decide (o.1=9)))=true by simpa using k7,bA,bI,gQ,gQ]at h;exact .inr (.inr (.inr (.inr ⟨k7,h.1,h.2⟩)))
 .rw[show(decide (o.1=7)||(decide (o.1=8)||decide (o.1=9)))=false by simpa using k7,bf]at h;exact absurd h (by simp)
theorem L1{got:dL}{K V held st:Int}(hv:1<=held/\held<=6->held≠V):(iq got (e9 K V held st)).foldl (jZ j3) []=(iq got (e9 K V held st)).foldl g8 []/\lJ ((iq got (e9 K V held st)).foldl g8 [])/\
  (∀z,z∈(iq got (e9 K V held st)).foldl g8 []↔z∈iq got (e9 K V held st))/\((iq got (e9 K V held st)).foldl g8 []).length=(iq got (e9 K V held st)).length:=by
 obtain⟨r1,r2,r3,r4⟩:=RI (iq got (e9 K V held st)) [] List.Pairwise.nil (Qm got _ (aaT hv)) (fun a ha=>by simp at ha);exact⟨r1,r2,fun z=>by rw[r3];simp,by rw[r4];simp⟩
theorem xK{o:cK}{got:dL}(ho:dh o=true)(hn:mJ o got=none)(hk:o.1=1\/o.1=2\/o.1=3):1<=val got (qw o.2.1)/\val got (qw o.2.1)<=6->val got (qw o.2.1)≠o.2.2.1:=by
 intro h;have:=tH ho;unfold mJ jM at hn;rcases hk with k | k | k
 .rw[k]at hn;by_cases h0:(eW got (qw o.2.1)).1=0
  .unfold val at h;omega
  .rw[aj ⟨rfl,h0⟩]at hn;cases hn
 .rw[k]at hn;rw[af (by omega),af (by omega)]at hn;by_cases h0:(eW got (qw o.2.1)).1=0
  .unfold val at h;omega
  .rw[af (by omega)]at hn;by_cases h1:(eW got (qw o.2.1)).1=o.2.2.1
   .rw[aj ⟨rfl,h1⟩]at hn;cases hn
   .exact h1
 .omega
section
variable {X:Ext} (hX:f4 X) {n:Nat} {got:dL}
include hX
theorem ach(hn:4<=n)(o:cK)(p old row st:Int):Zz (DD X n) o p old row st=some ((mD o.1 row st p old,()),()):=by
 obtain⟨n,rfl⟩:∃k,n=k+1:=⟨n-1,by omega⟩
 rw[aiX hX];simp only[Zl,O9];rw[yB hX (by omega),qc,Cj hX (by omega),qc];unfold mD;by_cases h8:o.1=8
 .rw[qf h8,aj h8]
 rw[qg h8,af h8];by_cases h9:o.1=9
 .rw[qf h9,aj h9];by_cases h1:p=13
  .rw[qf h1,aj h1]
  rw[qg h1,af h1];by_cases h2:p=fQ row
  .rw[qf h2,aj h2]
  .rw[qg h2,af h2]
 .rw[qg h9,af h9]
theorem Fk(N n:Nat)(hN:W+2<=N)(hg:got.length<=1048576)(K:dL->cK->pN->pN->Option ((pN×Bool×Unit)×Unit))(st row:Int)(o:cK)(x6:pN)(g:dL)(P:List Int)(mo:Int×Bool×Unit)(hP:P.length<=20) :
  ∀(m i:Nat)(rl:List Int)(el:List eu),i<=P.length->P.length-i<m->rl.length<=i->el.length<=i->
  JU (DD X N) n K m got st row (P.length:Int) (i:Int) o x6 (false,(0,rl,()),el,()) (g,P,mo) =
   K got o x6 (false,(0,rl++(if o.1=7 then (P.drop i).map (val got) else []),()),el++(P.drop i).map (fun p=>(p,val got p,mD o.1 row st p (val got p),())),())
 | 0,_,_,_,_,h,_,_=>by omega
 | m+1,i,rl,el,hi,hf,h1,h2=>by
  have hb:=i5;have hW:=ej;simp only[JU,Y3];by_cases h:i<P.length
  .rw[qf (by omega),ix h,aF,yC hX (by omega) got hg,qc,eB,qv h];dsimp only;rw[ach hX (by omega),qc];dsimp only;rw[qf (by omega),uP h];simp only[cv];by_cases h7:o.1=7
   .rw[qf h7,qf (by omega),qu (by omega)];rw[Fk N n hN hg K st row o x6 g P mo hP m (i+1) _ _ (by omega) (by omega) (by rw[cT,nG];omega) (by rw[cT,nG];omega)];rw[aj h7,aj h7,eH,eH];rfl
   .rw[qg h7,qu (by omega)];rw[Fk N n hN hg K st row o x6 g P mo hP m (i+1) _ _ (by omega) (by omega) (by omega) (by rw[cT,nG];omega)];rw[af h7,af h7,eH];rfl
  .rw[qg (by omega),uT h];simp
end
theorem G9{o:cK}{got:dL}(ho:dh o=true)(hn:mJ o got=none)(hr:(run got (prog o)).2<0)(hk:¬ (o.1=1\/o.1=2\/o.1=3)) :
    ((run got (prog o)).1.length<=12/\∀e∈(run got (prog o)).1,qX e)/\
    ((o.1=7/\(run got (prog o)).1.foldl (jZ fF) []=[0,1,2,3])\/
     (o.1=8/\val got 13=0/\(run got (prog o)).1.foldl (jZ fF) []=[13])\/
     (o.1=9/\(1<=val got 13/\val got 13<=4)/\(run got (prog o)).1.foldl (jZ fF) []=qw (wrap .i64 (val got 13-1))::13::(bif bu (val got (qw (wrap .i64 (val got 13-1)))) 1 6 then [fQ (val got (qw (wrap .i64 (val got 13-1))))] else []))\/
     (o.1=10/\(run got (prog o)).1.foldl (jZ fF) []=[13,fQ o.2.2.1])):=by
  have ua:=tH ho;unfold mJ jM at hn;rw[af (by omega),af (by omega)]at hn;by_cases k4:o.1=4
  . exfalso
    by_cases h0:(eW got (qw o.2.1)).1=0
    . rw[aj ⟨.inr (.inr k4),h0⟩]at hn;cases hn
    . rw[af (by omega),af (by omega),af (by omega),aj k4]at hn;cases hn
  rw[af (by omega),af (by omega),af (by omega),af k4]at hn;by_cases k5:o.1=5
  . exfalso
    by_cases h0:(eW got (q9 o.2.2.1)).1=0
    . rw[aj ⟨k5,h0⟩]at hn;cases hn
    . rw[af (by omega),aj k5]at hn;cases hn
  rw[af (by omega),af k5]at hn;by_cases k6:o.1=6
  . exfalso;rw[aj k6]at hn;cases hn
  rw[af k6]at hn;have kk:o.1=7\/o.1=8\/o.1=9\/o.1=10:=by omega
  have Lc:prog o=if o.1=7 then Cn else if o.1=8 then .ask 13 (fun _=>.done) else if o.1=9 then yG else if o.1=10 then vW o else .done:=by unfold prog;rw[af (by omega),af (by omega),af (by omega),af k4,af k5,af k6]
  rw[Lc]at hr⊢;rcases kk with k | k | k | k
  . rw[aj k]at hr⊢
    unfold Cn at hr⊢;obtain⟨_,r1,e1⟩:=zW (by omega) hr;obtain⟨_,r2,e2⟩:=zW (by omega) r1;obtain⟨_,r3,e3⟩:=zW (by omega) r2;obtain⟨_,_,e4⟩:=zW (by omega) r3;rw[e1,e2,e3,e4];refine⟨⟨by simp[run],fun e he=>?_⟩,.inl ⟨k,rfl⟩⟩;simp only[run,bh,dc,di]at he;rcases he with rfl | rfl | rfl | rfl<;>exact⟨by omega,by omega⟩
  . rw[af (by omega),aj k]at hr⊢
    obtain⟨_,_,e1⟩:=zW (by omega) hr;rw[e1];refine⟨⟨by simp[run],fun e he=>?_⟩,.inr (.inl ⟨k,?_,rfl⟩)⟩
    . simp only[run,bh,dc,di]at he
      subst he;exact⟨by omega,by omega⟩
    . by_cases s0:(eW got 13).1=0
      . exact s0
      . rw[aj ⟨k,s0⟩]at hn;cases hn
  . rw[af (by omega),af (by omega),aj k]at hr⊢
    rw[af (by omega)]at hn;have hst:1<=val got 13/\val got 13<=4:=by
      by_cases s0:(eW got 13).1<1\/(eW got 13).1>4
      . rw[aj ⟨k,s0⟩]at hn;cases hn
      . unfold val;omega
    unfold yG at hr⊢;obtain⟨_,r1,e1⟩:=zW (by omega) hr;rw[e1];have hb:(bif decide (val got 13<1) then true else decide (val got 13>4))=false:=by rw[b7 (by omega),b7 (by omega)];rfl
    rw[hb,bf]at r1⊢;have hw:wrap .i64 (val got 13-1)=val got 13-1:=qs (by omega) (by omega);have hrow:=u_ (wrap .i64 (val got 13-1));rw[hw]at hrow;rw[hw]at r1⊢;obtain⟨_,r2,e2⟩:=zW (by omega) r1;rw[e2];generalize Xm:qw (val got 13-1)=p at *;have hp:0<=p/\p<=3:=by omega
    cases hv:bu (val got p) 1 6
    . rw[jm,bA,bf]
      have es:[(13:Int),p].foldl (jZ fF) []=[p,13]:=by simp only[nI,Gb,jZ,yh,iF,FX];rw[aj (show fF p<fF 13 by unfold fF;omega)];rfl
      refine⟨⟨by simp[run],fun e he=>?_⟩,.inr (.inr (.inl ⟨k,hst,es⟩))⟩;simp only[run,bh,dc,di]at he;rcases he with rfl | rfl<;>exact⟨by omega,by omega⟩
    . rw[hv,cJ,bf]at r2
      rw[cJ,bf,bA];have ng:=oK (val got p);have Ew:=kZ.1 hv;obtain⟨_,_,e3⟩:=zW (by omega) r2;rw[e3];have es:[(13:Int),p,fQ (val got p)].foldl (jZ fF) []=[p,13,fQ (val got p)]:=by simp only[nI,Gb,jZ,yh,iF,FX];rw[aj (show fF p<fF 13 by unfold fF;omega)];simp only[og,yh,gy,fH,iF];rw[af (show ¬ fF (fQ (val got p))<fF 13 by unfold fF;omega)];rfl
      refine⟨⟨by simp[run],fun e he=>?_⟩,.inr (.inr (.inl ⟨k,hst,es⟩))⟩;simp only[run,bh,dc,di]at he;rcases he with rfl | rfl | rfl<;>exact⟨by omega,by omega⟩
  . rw[af (by omega),af (by omega),af (by omega),aj k]at hr⊢
    rw[af (by omega),af (by omega)]at hn;have hst:val got 13=5:=by
      by_cases s0:(eW got 13).1=5
      . exact s0
      . rw[aj ⟨k,s0⟩]at hn;cases hn
    unfold vW at hr⊢;obtain⟨_,r1,e1⟩:=zW (by omega) hr;rw[e1];rw[hst]at r1⊢;rw[show((5:Int) != 5)=false by decide,bf]at r1⊢;have ng:=oK o.2.2.1;obtain⟨_,_,e3⟩:=zW (by omega) r1;rw[e3];have es:[(13:Int),fQ o.2.2.1].foldl (jZ fF) []=[13,fQ o.2.2.1]:=by simp only[nI,Gb,jZ,yh,iF,FX];rw[af (show ¬ fF (fQ o.2.2.1)<fF 13 by unfold fF;omega)];rfl
    refine⟨⟨by simp[run],fun e he=>?_⟩,.inr (.inr (.inr ⟨k,es⟩))⟩;simp only[run,bh,dc,di]at he;rcases he with rfl | rfl<;>exact⟨by omega,by omega⟩
section
variable {X:Ext} (hX:f4 X) {n:Nat} {got:dL}
include hX
theorem abL(hn:W+3<=n)(hg:got.length<=1048576)(o:cK)(x6:pN)(rl:List Int)(el:List eu):S7 (DD X n) n got o x6 (false,(0,rl,()),el,()) =
  some (((false,(if o.1=10 then (if val got (fQ o.2.2.1)=0 then (3,rl,()) else (0,[wrap .i64 (val got (fQ o.2.2.1)-1)],())) else (0,rl,())),el,()),true,()),()):=by
 have hW:=ej;simp only[S7];by_cases k:o.1=10
 .rw[qf k,aj k,Cj hX (by omega),qc];dsimp only;rw[yC hX (by omega) got hg,qc];dsimp only;unfold val;by_cases h:(eW got (fQ o.2.2.1)).1=0
  .rw[bH,bz h,cJ,aL,aj h]
  .rw[bH,b7 h,jm,aF,af h]
 .rw[qg k,af k]
theorem ajS(hn:W+14<=n)(hg:got.length<=1048576)(o:cK):VH (DD X n) o got=some (gh o got,()):=by
 obtain⟨n,rfl⟩:∃k,n=k+1:=⟨n-1,by omega⟩
 have hW:=ej;obtain⟨k,K,V,⟨⟩⟩:=o;rw[aiS hX];simp only[ZI,ZW,qyq];rw[TL hX (by omega),qc];dsimp only;unfold gh;cases ho:dh (k,K,V,())
 .rw[jm,aF,af (by simp)];rfl
 obtain⟨b,e⟩:=RR hX (n:=n) (by omega) hg (k,K,V,());rw[cJ,aL,e,qc];dsimp only;by_cases hr:(run got (prog (k,K,V,()))).2<0
 .rw[qg (by omega),aj ⟨rfl,hr⟩,acg hX (by omega) hg,qc];cases dz:mJ (k,K,V,()) got with
  | some x=>simp only[sH];rw[aF]
  | none=>
   simp only[sH];rw[aL,yB hX (by omega),qc];dsimp only;rw[yC hX (by omega) got hg,qc];dsimp only;rw[yE hX (by omega),qc];dsimp only;rw[yC hX (by omega) got hg,qc];dsimp only;by_cases hk:k=1\/k=2\/k=3
   .have hne:=xK ho dz hk;obtain⟨c1,_,_,_⟩:=L1 (got:=got) (K:=K) (V:=V) (held:=val got (qw K)) (st:=val got 13) hne;have eJ:(bif bif decide (k=1) then true else decide (k=2) then true else decide (k=3))=true:=by rcases hk with h | h | h<;>subst h<;>rfl
    rw[qg (by omega),eJ,aF,abI hX (by omega) hg,qc];dsimp only;unfold eF dI;rw[aj hk,af (show ¬ k=7 by omega),af (show ¬ k=10 by omega)];have zj:=c1;unfold val at zj⊢;rw[zj]
   .obtain⟨⟨p1,p2⟩,pl⟩:=G9 ho dz hr hk;have eJ:(bif bif decide (k=1) then true else decide (k=2) then true else decide (k=3))=false:=by rw[b7 (show ¬ k=1 by omega),b7 (show ¬ k=2 by omega),b7 (show ¬ k=3 by omega)];rfl
    rw[eJ];simp only[aL];have tc:=akp hX (n:=n) (by omega) _ p1 p2;have sZ:∀(row:Int)(P:List Int)(x6:pN),P.length<=20->JU (DD X n) n (fun bY eG jy ko=>S7 (DD X n) n bY eG jy ko) n got (eW got 13).1 row (P.length:Int) 0 (k,K,V,()) x6 (false,(0,[],()),[],()) (got,P,(run got (prog (k,K,V,()))).2,b,()) =
      some (((false,(if k=10 then (if val got (fQ V)=0 then (3,(if k=7 then P.map (val got) else []),()) else (0,[wrap .i64 (val got (fQ V)-1)],())) else (0,(if k=7 then P.map (val got) else []),())),P.map (fun p=>(p,val got p,mD k row (eW got 13).1 p (val got p),())),()),true,()),()):=by
     intro row P x6 hP;have:=Fk hX n n (by omega) hg (fun bY eG jy ko=>S7 (DD X n) n bY eG jy ko) (eW got 13).1 row (k,K,V,()) x6 got P ((run got (prog (k,K,V,()))).2,b,()) hP n 0 [] [] (by omega) (by omega) (by simp) (by simp);rw[show((0:Nat):Int)=0 from rfl,jU]at this;rw[this];rw[abL hX (by omega) hg];simp only[gy]
    unfold eF dI;dsimp only;rw[af hk];rcases pl with⟨h7,hp⟩ | ⟨h8,hz,hp⟩ | ⟨h9,hz,hp⟩ | ⟨DZ,hp⟩
    .dsimp only at h7;subst h7;rw[qg (by decide),tc,qc,hp];dsimp only;rw[sZ _ [0,1,2,3] _ (by simp)];rfl
    .dsimp only at h8;subst h8;rw[qg (by decide),tc,qc,hp];dsimp only;rw[sZ _ [13] _ (by simp),af (by decide),af (by decide),af (by decide),af (by decide),aj rfl,af (by decide)];simp only[cv,fZ,mD,aX];rw[hz];rfl
    .dsimp only at h9;subst h9;rw[qf rfl,yE hX (by omega),qc];dsimp only;rw[yC hX (by omega) got hg,qc];dsimp only;rw[tc,qc,hp];dsimp only;rw[sZ _ _ _ (by cases bu (val got (qw (wrap .i64 (val got 13-1)))) 1 6<;>simp)];have hw:wrap .i64 (val got 13-1)=val got 13-1:=qs (by omega) (by omega);have hrow:=u_ (wrap .i64 (val got 13-1));rw[hw]at hrow;rw[af (by decide),af (by decide),af (by decide),af (by decide),aj rfl,af (by decide),af (by decide)];have Ap:(eW got 13).1=val got 13:=rfl;rw[Ap,hw];have hv2:(eW got (qw (val got 13-1))).1=val got (qw (val got 13-1)):=rfl;rw[hv2];generalize qw (val got 13-1)=p at *;have gW:0<=p/\p<=3:=by omega
     have ng:=oK (val got p);have b1:∀x,mD 9 (val got p) (val got 13) p x=x:=fun x=>by
      unfold mD;rw[af (by decide),aj rfl,af (by omega),af (by omega)]
     have b2:∀x,mD 9 (val got p) (val got 13) 13 x=wrap .i64 (x+1):=fun x=>by
      unfold mD;rw[af (by decide),aj rfl,aj rfl]
     cases hin:bu (val got p) 1 6
     .simp only[bf,cv,fZ,b1,b2];rfl
     .have Ew:=kZ.1 hin;have b3:∀x,mD 9 (val got p) (val got 13) (fQ (val got p)) x=val got 13:=fun x=>by
       unfold mD;rw[af (by decide),aj rfl,af (by omega),aj rfl]
      simp only[bA,cv,fZ,b1,b2,b3];rfl
    .dsimp only at DZ;subst DZ;rw[qg (by decide),tc,qc,hp];dsimp only;rw[sZ _ [13,fQ V] _ (by simp)];simp[mD,same]
 .rw[qf (by omega),af (fun h=>hr h.2)];rfl
end
theorem GW{α:Type}(key:α->Int):∀(L acc:List α)(z:α),z∈L.foldl (jZ key) acc↔z∈acc\/z∈L
 | [],acc,z=>by simp
 | e::L,acc,z=>by
  rw[nI,GW key L,HS,bh];constructor
  .rintro((h | h) | h)
   .exact .inr (.inl h)
   .exact .inl h
   .exact .inr (.inr h)
  .rintro(h | h | h)
   .exact .inl (.inr h)
   .exact .inl (.inl h)
   .exact .inr h
def BW(o:cK)(got:dL):Int:=if dh o=true then (run got (prog o)).2 else -1
section
variable {X:Ext} (hX:f4 X) {n:Nat} {got:dL}
include hX
theorem aaB(hn:W+13<=n)(hg:got.length<=1048576)(o:cK):Gm (DD X n) o got=some ((BW o got,()),()):=by
 obtain⟨n,rfl⟩:∃k,n=k+1:=⟨n-1,by omega⟩
 have hW:=ej;rw[aap hX];simp only[Gp,PW];obtain⟨b,e⟩:=RR hX (n:=n) (by omega) hg o;obtain⟨k,K,V,⟨⟩⟩:=o;rw[TL hX (by omega),qc];dsimp only;unfold BW;cases ho:dh (k,K,V,())
 .rw[jm,aF];rfl
 .rw[cJ,aL,e,qc,aj rfl]
end
end Go.G
namespace Go.G
open Go Go.V
abbrev jY:=List Int×Int×Int×Unit
def nr(c:jY):Prop:=c.1.length<=1048576/\0<=c.2.1/\c.2.1<=c.1.length
theorem Bc(x:BitVec (IntKind.bits IntKind.i64)):0<=wrap .i64 ((BitVec.toNat (BitVec.and x (BitVec.ofInt (IntKind.bits IntKind.i64) 255)):Nat):Int)/\wrap .i64 ((BitVec.toNat (BitVec.and x (BitVec.ofInt (IntKind.bits IntKind.i64) 255)):Nat):Int)<=255:=by
 have h:BitVec.toNat (BitVec.and x (BitVec.ofInt (IntKind.bits IntKind.i64) 255))<=255:=by show BitVec.toNat (x &&&BitVec.ofInt (IntKind.bits IntKind.i64) 255)<=255;rw[BitVec.toNat_and];exact nJ Nat.and_le_right (by decide)
 rw[qs (by omega) (by omega)];omega
theorem L0{X:Ext}(hX:f4 X){n:Nat}(hn:1<=n){c:jY}(hc:nr c):∃(x:Int)(c':jY),0<=x/\x<=255/\nr c'/\IA (DD X n) c=some ((x,()),(c',())):=by
 obtain⟨n,rfl⟩:∃k,n=k+1:=⟨n-1,by omega⟩
 obtain⟨h1,h2,h3⟩:=hc;rw[ait hX];simp only[Zq,Pb];by_cases h:c.2.1<(c.1.length:Int)
 .rw[qf h,fI h2 h,aF,qs (x:=c.2.1+1) (by omega) (by omega)];refine⟨_,(c.1,c.2.1+1,_,()),(Bc _).1,(Bc _).2,⟨h1,?_,?_⟩,rfl⟩
  .show 0<=c.2.1+1;omega
  .show c.2.1+1<=(c.1.length:Int);omega
 .rw[qg h];have k:∀h u,nr (c.1,c.2.1,h,u):=fun _ _=>⟨h1,h2,h3⟩
  exact⟨_,_,(Bc _).1,(Bc _).2,k _ _,rfl⟩
theorem zM{X:Ext}(hX:f4 X){n:Nat}(hn:2<=n){c:jY}(hc:nr c)(k:Int):∃(x:Int)(c':jY),(0<k->0<=x/\x<k)/\(k<=0->x=0)/\nr c'/\rN (DD X n) c k=some ((x,()),(c',())):=by
 obtain⟨n,rfl⟩:∃k,n=k+1:=⟨n-1,by omega⟩
 rw[ah5 hX];simp only[YQ,O2];by_cases h:k<=0
 .rw[qf h];exact⟨0,c,fun h2=>by omega,fun _=>rfl,hc,rfl⟩
 .rw[qg h];by_cases h2:k<=256
  .obtain⟨x,c',x0,x1,Kx,e⟩:=L0 hX (n:=n) (by omega) hc;rw[qf h2,e,qc];dsimp only;rw[qg (by omega)];refine⟨_,_,fun _=>?_,fun h3=>by omega,Kx,rfl⟩;rw[FP x0];exact⟨F9 _ (by omega),FC _ (by omega)⟩
  .obtain⟨x,c1,x0,x1,jK,e1⟩:=L0 hX (n:=n) (by omega) hc;obtain⟨y,c2,y0,y1,g7,e2⟩:=L0 hX (n:=n) (by omega) jK;obtain⟨z,c3,z0,z1,rJ,e3⟩:=L0 hX (n:=n) (by omega) g7;obtain⟨w,c4,w0,w1,Wy,e4⟩:=L0 hX (n:=n) (by omega) rJ;rw[qg h2,e1,qc];dsimp only;rw[e2,qc];dsimp only;rw[e3,qc];dsimp only;rw[e4,qc];dsimp only;rw[qg (by omega),qs (x:=x * 16777216) (by omega) (by omega),qs (x:=y * 65536) (by omega) (by omega),qs (x:=x * 16777216+y * 65536) (by omega) (by omega),
    qs (x:=z * 256) (by omega) (by omega),qs (x:=x * 16777216+y * 65536+z * 256) (by omega) (by omega),qs (x:=x * 16777216+y * 65536+z * 256+w) (by omega) (by omega)]
   refine⟨_,_,fun _=>?_,fun h3=>by omega,Wy,rfl⟩;rw[FP (by omega)];exact⟨F9 _ (by omega),FC _ (by omega)⟩
theorem PJ{X:Ext}(hX:f4 X){n:Nat}(hn:3<=n){c:jY}(hc:nr c)(l:List Int)(hl:0<l.length):∃(x:Int)(c':jY),x∈l/\nr c'/\Vp (DD X n) c l=some ((x,()),(c',())):=by
 obtain⟨n,rfl⟩:∃k,n=k+1:=⟨n-1,by omega⟩
 rw[afJ hX];simp only[qv3,q93];obtain⟨x,c',h1,_,Kx,e⟩:=zM hX (n:=n) (by omega) hc (l.length:Int);obtain⟨x0,x1⟩:=h1 (by omega);rw[e,qc];dsimp only;rw[fI x0 x1,aF,qv (by omega)];exact⟨_,_,ez _,Kx,rfl⟩
theorem M5(D:Den ctx)(n:Nat){K0:List Int->Int->Option ((jY×Unit)×Unit)}(a:List Int)(ha:a.length<=1048576):∀(m i:Nat)(h:Int),i<=a.length->a.length-i<m->∃h':Int,To D n K0 m a h i=K0 a h'
 | 0,_,_,_,h=>by omega
 | m+1,i,h,hi,hf=>by
  simp only[To,ZO];by_cases h1:i<a.length
  .by_cases h2:(i:Int)<4000
   .rw[bz (by omega:(i:Int)<(a.length:Int)),bA,qf h2,bz (by omega:(0:Int)<=(i:Int)),Ge,aF,qu (by omega)];exact M5 D n a ha m (i+1) _ (by omega) (by omega)
   .rw[bz (by omega:(i:Int)<(a.length:Int)),bA,qg h2];exact⟨h,rfl⟩
  .rw[b7 (by omega:¬ (i:Int)<(a.length:Int)),bf,aL];exact⟨h,rfl⟩
theorem akn{X:Ext}(hX:f4 X){n:Nat}(hn:W+1<=n)(a:List Int)(ha:a.length<=1048576):∃c:jY,nr c/\q7z (DD X n) a=some ((c,()),()):=by
 obtain⟨n,rfl⟩:∃k,n=k+1:=⟨n-1,by omega⟩
 have hW:=ej;rw[ajm hX];simp only[q8i,q92,Zf];obtain⟨h',e⟩:=M5 (DD X n) n (K0:=fun v w=>Ox (DD X n) n v w) a ha n 0 (wrap .i64 (27323+(a.length:Int))) (by omega) (by omega);rw[show((0:Nat):Int)=0 from rfl]at e;exact⟨(a,0,h',()),⟨ha,by show(0:Int)<=0;omega,by show(0:Int)<=(a.length:Int);omega⟩,e⟩
theorem ala{X:Ext}(hX:f4 X){n:Nat}(hn:1<=n)(a:List Int):GB (DD X n) a=some ((decide ((a.length:Int)>1048576),()),()):=by
 obtain⟨n,rfl⟩:∃k,n=k+1:=⟨n-1,by omega⟩
 rw[aa5 hX];rfl
open Go.Proofs
abbrev qp:=List Int×Int×Unit
def a_(v:Int):List Int->Nat->Int
 | [],_=>-1
 | x::l,i=>if x=v then (i:Int) else a_ v l (i+1)
theorem L9(v:Int):∀(l:List Int)(i:Nat),a_ v l i<0->v∉l
 | [],i,_=>by simp
 | x::l,i,h=>by
  simp only[a_]at h;by_cases e:x=v
  .rw[aj e]at h;omega
  .rw[af e]at h;have:=L9 v l (i+1) h;intro hm;rcases bh.1 hm with k | k
   .exact e k.symm
   .exact this k
theorem EY(v:Int):∀(l:List Int)(i k:Nat),l[k]? = some v->(∀j<k,l[j]?≠some v)->a_ v l i=((i+k:Nat):Int)
 | [],i,k,h,_=>by simp at h
 | x::l,i,0,h,_=>by
  simp only[FT,aK]at h;simp only[a_];rw[aj h];rfl
 | x::l,i,k+1,h,hj=>by
  simp only[List.getElem?_cons_succ]at h;simp only[a_];rw[af (by have:=hj 0 (by omega);simp only[FT,ne_eq,aK]at this;exact this),EY v l (i+1) k h (fun j h2=>by have:=hj (j+1) (by omega);simpa using this)];congr 1;omega
structure aW (r:qp):Prop where
 len:r.1.length=4
 dQ:∀x∈r.1,0<=x/\x<=6
 once:∀i j:Nat,i<j->∀v,r.1[i]? = some v->r.1[j]? = some v->v=0
 st:0<=r.2.1/\r.2.1<=5
section
variable {X:Ext} (hX:f4 X) {n:Nat}
include hX
theorem M3(D:Den ctx)(n:Nat)(K0:Int->Option ((Int×Unit)×Unit))(K1:Option ((Int×Unit)×Unit))(hK:K0 (-1)=K1)(r:qp)(hr:r.1.length<=1000)(v:Int):∀(m i:Nat),i<=r.1.length->r.1.length-i<m->
  Tw D n K0 K1 m v (i:Int) r=K0 (a_ v (r.1.drop i) i)
 | 0,_,_,h=>by omega
 | m+1,i,hi,hf=>by
  simp only[Tw,Z7];by_cases h:i<r.1.length
  .rw[qf (by omega),ix h,aF,eB,qv h,uP h];simp only[a_];by_cases e:r.1[i]=v
   .rw[qf e,aj e]
   .rw[qg e,af e,qu (by omega)];exact M3 D n K0 K1 hK r hr v m (i+1) (by omega) (by omega)
  .rw[qg (by omega),uT h];exact hK.symm
theorem PL(hn:W+1<=n)(r:qp)(hr:r.1.length<=1000)(v:Int):VU (DD X n) r v=some ((a_ v r.1 0,()),()):=by
 obtain⟨n,rfl⟩:∃k,n=k+1:=⟨n-1,by omega⟩
 have hW:=ej;rw[ajf hX];simp only[q8c,q9u,YV];have e:=M3 hX (DD X n) n (fun bY=>N9 (DD X n) n bY) (N_ (DD X n) n) rfl r hr v n 0 (by omega) (by omega);rw[show((0:Nat):Int)=0 from rfl]at e;rw[e];rfl
theorem Hs(N n:Nat)(hN:W+2<=N)(K0:Bool->qp->Option ((Bool×Unit)×Unit))(K1:qp->Option ((Bool×Unit)×Unit)){r:qp}(hr:aW r):∀(m i:Nat),i<=r.1.length->r.1.length-i<m->
  Ti (DD X N) n K0 K1 m (i:Int) r=K1 r
 | 0,_,_,h=>by omega
 | m+1,i,hi,hf=>by
  have hl:=hr.len;have hW:=ej;simp only[Ti,Y1];by_cases h:i<r.1.length
  .rw[qf (by omega),ix h,aF,eB,qv h];by_cases e:r.1[i]=0
   .rw[bH,bz e,cJ,aL,qu (by omega)];exact Hs N n hN K0 K1 hr m (i+1) (by omega) (by omega)
   .have hv:=hr.dQ r.1[i] (ez h);rw[bH,b7 e,jm,aF,aF,J6 hX (by omega),qc];dsimp only;rw[kZ.2 (by omega),cJ,aL,aF,PL hX (by omega) r (by omega),qc];dsimp only;have hk:a_ r.1[i] r.1 0=(i:Int):=by rw[EY r.1[i] r.1 0 i (gx h) (fun j hj hc=>e (hr.once j i hj _ hc (gx h)))];congr 1;omega
    rw[hk,bH,bz rfl,cJ,aL,qu (by omega)];exact Hs N n hN K0 K1 hr m (i+1) (by omega) (by omega)
  .rw[qg (by omega)]
theorem Pt(hn:W+3<=n){r:qp}(hr:aW r):VJ (DD X n) r=some ((true,()),()):=by
 obtain⟨n,rfl⟩:∃k,n=k+1:=⟨n-1,by omega⟩
 have hW:=ej;have hl:=hr.len;rw[air hX];simp only[Zo,ZM,qzo];have e:=Hs hX n n (by omega) (fun bY eG=>q90 (DD X n) n bY eG) (fun sM=>qwq (DD X n) n sM) hr n 0 (by omega) (by omega);rw[show((0:Nat):Int)=0 from rfl]at e;rw[e];simp only[qwq];rw[qf (by omega),yO hX (by omega),qc,kZ.2 hr.st]
theorem GV(N n:Nat)(hN:W+2<=N)(K0:jY->qp->qp->Option ((qp×Unit)×(jY×Unit)))(z:qp):∀(m i:Nat)(c:jY)(r:qp),nr c->aW r->i<=4->4-i<m->
  ∃(c':jY)(r':qp),nr c'/\aW r'/\SO (DD X N) n K0 m (i:Int) c z r=K0 c' z r'
 | 0,_,_,_,_,_,_,h=>by omega
 | m+1,i,c,r,hc,hr,hi,hf=>by
  have hl:=hr.len;have hW:=ej;simp only[SO,qq1];by_cases h:i<4
  .obtain⟨x,c1,h1,_,jK,e1⟩:=zM hX (n:=N) (by omega) hc 7;obtain⟨x0,x1⟩:=h1 (by omega);rw[qf (by omega),e1,qc];dsimp only;rw[show(r.1,r.2)=r from rfl,PL hX (by omega) r (by omega),qc];dsimp only;by_cases hk:a_ x r.1 0<0
   .have hnot:=L9 x r.1 0 hk;rw[qf hk,fI (by omega) (by omega),aF,qu (by omega),eB];have zw:aW (r.1.set i x,r.2):=by
     refine⟨by show(r.1.set i x).length=4;rw[b8];exact hl,fun y hy=>?_,fun a b hab v ha hb=>?_,hr.st⟩
     .rcases FR hy with hy | rfl
      .exact hr.dQ y hy
      .omega
     .simp only[jT]at ha hb;by_cases ea:i=a
      .rw[aj ea]at ha;rw[af (by omega)]at hb;split at ha
       .simp only[aK]at ha;subst ha;exact absurd (mQ.2 ⟨b,hb⟩) hnot
       .simp at ha
      .rw[af ea]at ha;by_cases eb:i=b
       .rw[aj eb]at hb;split at hb
        .simp only[aK]at hb;subst hb;exact absurd (mQ.2 ⟨a,ha⟩) hnot
        .simp at hb
       .rw[af eb]at hb;exact hr.once a b hab v ha hb
    exact GV N n hN K0 z m (i+1) c1 (r.1.set i x,r.2) jK zw (by omega) (by omega)
   .rw[qg hk,qu (by omega)];exact GV N n hN K0 z m (i+1) c1 r jK hr (by omega) (by omega)
  .rw[qg (by omega)];exact⟨c,r,hc,hr,rfl⟩
theorem aiA(hn:W+3<=n){c:jY}(hc:nr c):∃(r:qp)(c':jY),aW r/\(r.2.1=0\/r.2.1=1\/r.2.1=3\/r.2.1=5)/\nr c'/\qrr (DD X n) c=some ((r,()),(c',())):=by
 obtain⟨n,rfl⟩:∃k,n=k+1:=⟨n-1,by omega⟩
 have hW:=ej;have hnew:Yn (DD X n)=some ((((List.replicate (Int.toNat 4) 0,0,()):qp),()),()):=by
  obtain⟨n,rfl⟩:∃k,n=k+1:=⟨n-1,by omega⟩
  rw[ahy hX];rfl
 rw[aet hX];simp only[qrx,qs2,qpe];rw[hnew,qc];dsimp only;have h0:aW ((List.replicate (Int.toNat 4) 0,0,()):qp):=by
  refine⟨rfl,fun x hx=>?_,fun i j hij v hi hj=>?_,by show(0:Int)<=0/\(0:Int)<=5;omega⟩
  .have:=(List.mem_replicate.1 hx).2;omega
  .simp only[vB]at hi;split at hi
   .simp only[aK]at hi;exact hi.symm
   .simp at hi
 obtain⟨c',r',h1,h2,e⟩:=GV hX n n (by omega) (fun bY eG jy=>qn7 (DD X n) n bY eG jy) ([],0,()) n 0 c _ hc h0 (by omega) (by omega);rw[show((0:Nat):Int)=0 from rfl]at e;rw[e];simp only[qn7];obtain⟨s,c2,hs,g7,e2⟩:=PJ hX (n:=n) (by omega) h1 [0,0,1,3,5] (by simp);rw[e2,qc];have lO:s=0\/s=1\/s=3\/s=5:=by simp only[bh,dc,di]at hs;omega
 exact⟨(r'.1,s,()),c2,⟨h2.len,h2.dQ,h2.once,by show 0<=s/\s<=5;omega⟩,lO,g7,rfl⟩
end
def HQ(ws:List Int):Prop:=ws.length=20/\∀x∈ws,0<=x/\x<=1000
theorem HQ.set{ws:List Int}(h:HQ ws)(i:Nat){x:Int}(hx:0<=x/\x<=1000):HQ (ws.set i x):=
 ⟨by rw[b8];exact h.1,fun y hy=>by
  rcases FR hy with q | rfl
  .exact h.2 y q
  .exact hx⟩
def many(c:Int):List Int->Int
 | []=>0
 | x::l=>(bif bu x 1 6&&decide (qh x=c) then 1 else 0)+many c l
theorem L_(c:Int):∀l,0<=many c l/\many c l<=(l.length:Int)
 | []=>⟨by simp[many],by simp[many]⟩
 | x::l=>by
  have:=L_ c l;simp only[many,ct];cases bu x 1 6&&decide (qh x=c)<;>simp only[bA,bf]<;>omega
section
variable {X:Ext} (hX:f4 X) {n:Nat}
include hX
theorem Mz(hn:1<=n)(b:Bool):TD (DD X n) b=some ((bif b then 1 else 0,()),()):=by
 obtain⟨n,rfl⟩:∃k,n=k+1:=⟨n-1,by omega⟩
 rw[ajl hX];cases b<;>rfl
theorem Io(N n:Nat)(hN:4<=N)(K:Int->Option ((Int×Unit)×Unit))(r:qp)(hr:r.1.length<=1000)(c:Int):∀(m i:Nat)(a:Int),i<=r.1.length->r.1.length-i<m->0<=a/\a<=i->
  Te (DD X N) n K m c a (i:Int) r=K (a+many c (r.1.drop i))
 | 0,_,_,_,h,_=>by omega
 | m+1,i,a,hi,hf,ha=>by
  simp only[Te,qzh];by_cases h:i<r.1.length
  .rw[qf (by omega),ix h,aF,eB,qv h,J6 hX (by omega),qc,uP h];simp only[many];cases hv:bu r.1[i] 1 6
   .rw[aL,Mz hX (by omega),qc];dsimp only;rw[bf,qs (by omega) (by omega),qu (by omega),Io N n hN K r hr c m (i+1) _ (by omega) (by omega) (by omega)];congr 1;simp only[Bool.false_and,bf];omega
   .rw[aF,aF,aaC hX (by omega),qc];dsimp only;rw[Mz hX (by omega),qc];dsimp only;have hb:0<=(bif decide (qh r.1[i]=c) then (1:Int) else 0)/\(bif decide (qh r.1[i]=c) then (1:Int) else 0)<=1:=by cases decide (qh r.1[i]=c)<;>simp
    rw[qs (by omega) (by omega),qu (by omega),Io N n hN K r hr c m (i+1) _ (by omega) (by omega) (by omega)];congr 1;simp only[zE];omega
  .rw[qg (by omega),uT h];congr 1;simp[many]
theorem ai8(hn:W+1<=n)(r:qp)(hr:r.1.length<=1000)(c:Int):Yl (DD X n) r c=some ((many c r.1,()),()):=by
 obtain⟨n,rfl⟩:∃k,n=k+1:=⟨n-1,by omega⟩
 have hW:=ej;rw[ahw hX];simp only[YN,YU,qwo];have e:=Io hX n n (by omega) (fun bY=>q6w (DD X n) n bY) r hr c n 0 0 (by omega) (by omega) (by omega);rw[show((0:Nat):Int)=0 from rfl,jU,Int.zero_add]at e;rw[e];rfl
end
section
variable {X:Ext} (hX:f4 X) {n:Nat}
include hX
theorem ai7(hn:6<=n){c:jY}(hc:nr c):∃(o:cK)(c':jY),nr c'/\dh o=true/\qrs (DD X n) c=some ((o,()),(c',())):=by
 obtain⟨n,rfl⟩:∃k,n=k+1:=⟨n-1,by omega⟩
 rw[aeu hX];simp only[qry,q4a];obtain⟨k,c1,hk,jK,e1⟩:=PJ hX (n:=n) (by omega) hc [1,1,1,2,2,3,4,5,6,7,8,9,9,10] (by simp);have hk2:k=1\/k=2\/k=3\/k=4\/k=5\/k=6\/k=7\/k=8\/k=9\/k=10:=by simp only[bh,dc,di]at hk;omega
 obtain⟨x,c2,h2,_,g7,e2⟩:=zM hX (n:=n) (by omega) jK 4;obtain⟨y,c3,h3,_,rJ,e3⟩:=zM hX (n:=n) (by omega) g7 4;obtain⟨z,c4,h4,_,Wy,e4⟩:=zM hX (n:=n) (by omega) jK 3;obtain⟨x0,x1⟩:=h2 (by omega);obtain⟨y0,y1⟩:=h3 (by omega);obtain⟨z0,z1⟩:=h4 (by omega);have Uz:bu x 0 3=true:=kZ.2 (by omega);have iz:bu z 0 2=true:=kZ.2 (by omega);have wy:wrap .i64 (1+y)=1+y:=qs (by omega) (by omega);have wx:wrap .i64 (1+x)=1+x:=qs (by omega) (by omega);have iy:bu (1+y) 1 6=true:=kZ.2 (by omega);have ix6:bu (1+x) 1 6=true:=kZ.2 (by omega);simp only[show(List.set (List.set (List.set (List.set (List.set (List.set (List.set (List.set (List.set (List.set (List.set (List.set (List.set (List.set (List.replicate 14 (0:Int)) 0 1) 1 1) 2 1) 3 2) 4 2) 5 3) 6 4) 7 5) 8 6) 9 7) 10 8) 11 9) 12 9) 13 10)=[1,1,1,2,2,3,4,5,6,7,8,9,9,10] from rfl];rw[e1,qc];dsimp only;rw[MA hX (by omega),qc];dsimp only;rcases hk2 with rfl | rfl | rfl | rfl | rfl | rfl | rfl | rfl | rfl | rfl
 .rw[show bu 1 1 4=true from rfl,aF,e2,qc];dsimp only;rw[qg (by decide),yI hX (by omega),qc];dsimp only;rw[show(bif bif bif decide ((1:Int)=1) then true else decide ((1:Int)=2) then true else decide ((1:Int)=5) then true else decide ((1:Int)=10))=true from rfl,aF,e3,qc,wy];exact⟨_,_,rJ,by show(bu x 0 3&&bu (1+y) 1 6)=true;rw[Uz,iy];rfl,rfl⟩
 .rw[show bu 2 1 4=true from rfl,aF,e2,qc];dsimp only;rw[qg (by decide),yI hX (by omega),qc];dsimp only;rw[show(bif bif bif decide ((2:Int)=1) then true else decide ((2:Int)=2) then true else decide ((2:Int)=5) then true else decide ((2:Int)=10))=true from rfl,aF,e3,qc,wy];exact⟨_,_,rJ,by show(bu x 0 3&&bu (1+y) 1 6)=true;rw[Uz,iy];rfl,rfl⟩
 .rw[show bu 3 1 4=true from rfl,aF,e2,qc];dsimp only;rw[qg (by decide),yI hX (by omega),qc];dsimp only;rw[show(bif bif bif decide ((3:Int)=1) then true else decide ((3:Int)=2) then true else decide ((3:Int)=5) then true else decide ((3:Int)=10))=false from rfl,aL];exact⟨_,_,g7,by show(bu x 0 3&&true)=true;rw[Uz];rfl,rfl⟩
 .rw[show bu 4 1 4=true from rfl,aF,e2,qc];dsimp only;rw[qg (by decide),yI hX (by omega),qc];dsimp only;rw[show(bif bif bif decide ((4:Int)=1) then true else decide ((4:Int)=2) then true else decide ((4:Int)=5) then true else decide ((4:Int)=10))=false from rfl,aL];exact⟨_,_,g7,by show(bu x 0 3&&true)=true;rw[Uz];rfl,rfl⟩
 .rw[show bu 5 1 4=false from rfl,aL,qg (by decide),yI hX (by omega),qc];dsimp only;rw[show(bif bif bif decide ((5:Int)=1) then true else decide ((5:Int)=2) then true else decide ((5:Int)=5) then true else decide ((5:Int)=10))=true from rfl,aF,e2,qc,wx];exact⟨_,_,g7,by show(true&&bu (1+x) 1 6)=true;rw[ix6];rfl,rfl⟩
 .rw[show bu 6 1 4=false from rfl,aL,qf rfl,e4,qc];dsimp only;rw[yI hX (by omega),qc];dsimp only;rw[show(bif bif bif decide ((6:Int)=1) then true else decide ((6:Int)=2) then true else decide ((6:Int)=5) then true else decide ((6:Int)=10))=false from rfl,aL];exact⟨_,_,Wy,by show(bu z 0 2&&true)=true;rw[iz];rfl,rfl⟩
 .rw[show bu 7 1 4=false from rfl,aL,qg (by decide),yI hX (by omega),qc];exact⟨_,_,jK,rfl,rfl⟩
 .rw[show bu 8 1 4=false from rfl,aL,qg (by decide),yI hX (by omega),qc];exact⟨_,_,jK,rfl,rfl⟩
 .rw[show bu 9 1 4=false from rfl,aL,qg (by decide),yI hX (by omega),qc];exact⟨_,_,jK,rfl,rfl⟩
 .rw[show bu 10 1 4=false from rfl,aL,qg (by decide),yI hX (by omega),qc];dsimp only;rw[show(bif bif bif decide ((10:Int)=1) then true else decide ((10:Int)=2) then true else decide ((10:Int)=5) then true else decide ((10:Int)=10))=true from rfl,aF,e2,qc,wx];exact⟨_,_,g7,by show(true&&bu (1+x) 1 6)=true;rw[ix6];rfl,rfl⟩
end
theorem ac7{k V row owner st cnt:Int}{x:Int×List Int}(h:jM k V row owner st cnt=some x):x.2.length<=1:=by
 unfold jM at h;by_cases c0:k=1/\row≠0
 .rw[aj c0]at h;cases h;simp
 rw[af c0]at h;by_cases c1:k=1/\owner≠0
 .rw[aj c1]at h;cases h;simp
 rw[af c1]at h;by_cases c2:(k=2\/k=3\/k=4)/\row=0
 .rw[aj c2]at h;cases h;simp
 rw[af c2]at h;by_cases c3:k=2/\row=V
 .rw[aj c3]at h;cases h;simp
 rw[af c3]at h;by_cases c4:k=2/\owner≠0
 .rw[aj c4]at h;cases h;simp
 rw[af c4]at h;by_cases c5:k=4
 .rw[aj c5]at h;cases h;simp
 rw[af c5]at h;by_cases c6:k=5/\owner=0
 .rw[aj c6]at h;cases h;simp
 rw[af c6]at h;by_cases c7:k=5
 .rw[aj c7]at h;cases h;simp
 rw[af c7]at h;by_cases c8:k=6
 .rw[aj c8]at h;cases h;simp
 rw[af c8]at h;by_cases c9:k=8/\st≠0
 .rw[aj c9]at h;cases h;simp
 rw[af c9]at h;by_cases c10:k=9/\(st<1\/st>4)
 .rw[aj c10]at h;cases h;simp
 rw[af c10]at h;by_cases c11:k=10/\st≠5
 .rw[aj c11]at h;cases h;simp
 rw[af c11]at h;cases h
theorem abK(o:cK)(got:dL):(gh o got).1.2.1.2.1.length<=20/\(gh o got).1.2.2.1.length<=20:=by
 unfold gh;split
 .cases hn:mJ o got with
  | some x=>have:=ac7 hn;exact⟨by show x.2.length<=20;omega,by show(0:Nat)<=20;omega⟩
  | none=>
   refine⟨?_,?_⟩
   .show(eF o got).2.1.length<=20;unfold eF
    repeat' split
    all_goals simp
   .show(dI o got).length<=20;unfold dI;split
    .rw[QJ];have:=nJ (Hy got (e9 o.2.1 o.2.2.1 (val got (qw o.2.1)) (val got 13))) (RX _ _ _ _);simp only[gz];omega
    .repeat' split
     .simp
     .simp
     .cases bu (val got (qw (wrap .i64 (val got 13-1)))) 1 6<;>simp
     .simp
     .simp
 .exact⟨by show(0:Nat)<=20;omega,by show(0:Nat)<=20;omega⟩
section
variable {X:Ext} (hX:f4 X) {n:Nat}
include hX
end
theorem pF(l:List Int)(i j:Nat)(x:Int)(h:i<l.length):(l.set i x).getD j 0=if j=i then x else l.getD j 0:=by
 simp only[List.getD,jT];by_cases e:i=j
 .subst e;rw[aj rfl,aj h,aj rfl];rfl
 .rw[af e,af (fun k=>e k.symm)]
theorem L8(v:Int):∀(l:List Int)(i k:Nat),a_ v l i=(k:Int)->i<=k/\l[k-i]? = some v
 | [],i,k,h=>by simp only[a_]at h;omega
 | x::l,i,k,h=>by
  simp only[a_]at h;by_cases e:x=v
  .rw[aj e]at h;have:i=k:=by omega
   subst this;refine⟨cq _,?_⟩;rw[Nat.sub_self,e];rfl
  .rw[af e]at h;obtain⟨h1,h2⟩:=L8 v l (i+1) k h;refine⟨by omega,?_⟩;rw[show k-i=(k-(i+1))+1 by omega];exact h2
theorem yL(v:Int):∀(l:List Int)(i:Nat),-1<=a_ v l i/\a_ v l i<(i+l.length:Nat)
 | [],i=>by simp only[a_,gz];omega
 | x::l,i=>by
  have:=yL v l (i+1);simp only[a_,ct];split<;>omega
def lB(v:Int)(h:List Int)(i:Int)(st:Int):Int:=if 0<=a_ v h 0/\a_ v h 0<i/\a_ v h 0<st-1 then a_ v h 0+1 else 0
def qF(v:Int)(h:List Int)(i:Int):Int:=if 0<=a_ v h 0/\a_ v h 0<i then a_ v h 0+1 else 0
def v_(r:qp)(i p:Nat):Int:=
 if p<4 then (if p<i then r.1.getD p 0 else 0) else if p<10 then qF ((p:Int)-3) r.1 i else if p<14 then 0 else lB ((p:Int)-13) r.1 i r.2.1
def jV(r:qp)(p:Nat):Int:=
 if p<4 then r.1.getD p 0 else if p<10 then qF ((p:Int)-3) r.1 4 else if p<13 then many ((p:Int)-10) r.1 else if p=13 then r.2.1 else lB ((p:Int)-13) r.1 4 r.2.1
section
variable {X:Ext} (hX:f4 X) {n:Nat}
include hX
theorem Rj{r:qp}(hr:aW r){i:Nat}(hi:i<4)(hi2:i<r.1.length)(p:Nat)(hp:p<20) :
  v_ r (i+1) p=if p<4 then (if p=i then r.1[i] else v_ r i p) else if r.1[i]≠0/\(p:Int)=3+r.1[i] then (i:Int)+1 else
   if r.1[i]≠0/\(p:Int)=13+r.1[i]/\(i:Int)<r.2.1-1 then (i:Int)+1 else v_ r i p:=by
 have hx:=hr.dQ r.1[i] (ez hi2);have hkey:r.1[i]≠0->a_ r.1[i] r.1 0=(i:Int):=fun e=>by
  rw[EY r.1[i] r.1 0 i (gx hi2) (fun j hj hc=>e (hr.once j i hj _ hc (gx hi2)))];congr 1;omega
 have cY:∀v:Int,v≠r.1[i]->a_ v r.1 0≠(i:Int):=fun v hv hc=>by
  obtain⟨_,h2⟩:=L8 v r.1 0 i hc;rw[BQ,gx hi2]at h2;exact hv (gS h2).symm
 unfold v_;by_cases h4:p<4
 .simp only[aj h4];by_cases e:p=i
  .subst e;simp only[aj (show p<p+1 by omega),aX,qv hi2]
  .simp only[af e];by_cases e2:p<i
   .simp only[aj e2,aj (show p<i+1 by omega)]
   .simp only[af e2,af (show ¬ p<i+1 by omega)]
 simp only[af h4];by_cases DZ:p<10
 .have XJ:¬ (r.1[i]≠0/\(p:Int)=13+r.1[i]/\(i:Int)<r.2.1-1):=by omega
  simp only[aj DZ,af XJ];unfold qF;by_cases e:r.1[i]≠0/\(p:Int)=3+r.1[i]
  .simp only[aj e];rw[show(p:Int)-3=r.1[i] by omega,hkey e.1,aj (by omega)]
  .simp only[af e];have hk:a_ ((p:Int)-3) r.1 0≠(i:Int):=by
    by_cases q:(p:Int)-3=r.1[i]
    .exact absurd ⟨by omega,by omega⟩ e
    .exact cY _ q
   by_cases c:0<=a_ ((p:Int)-3) r.1 0/\a_ ((p:Int)-3) r.1 0<(i:Int)
   .simp only[aj c,aj (show 0<=a_ ((p:Int)-3) r.1 0/\a_ ((p:Int)-3) r.1 0<((i+1:Nat):Int) by omega)]
   .simp only[af c,af (show ¬ (0<=a_ ((p:Int)-3) r.1 0/\a_ ((p:Int)-3) r.1 0<((i+1:Nat):Int)) by omega)]
 have n3:¬ (r.1[i]≠0/\(p:Int)=3+r.1[i]):=by omega
 simp only[af DZ,af n3];by_cases Km:p<14
 .have XJ:¬ (r.1[i]≠0/\(p:Int)=13+r.1[i]/\(i:Int)<r.2.1-1):=by omega
  simp only[aj Km,af XJ]
 simp only[af Km];unfold lB;by_cases e:r.1[i]≠0/\(p:Int)=13+r.1[i]
 .rw[show(p:Int)-13=r.1[i] by omega,hkey e.1];by_cases c:(i:Int)<r.2.1-1
  .simp only[aj (show 0<=(i:Int)/\(i:Int)<((i+1:Nat):Int)/\(i:Int)<r.2.1-1 by omega),aj (show r.1[i]≠0/\(p:Int)=13+r.1[i]/\(i:Int)<r.2.1-1 from⟨e.1,e.2,c⟩)]
  .simp only[af (show ¬ (0<=(i:Int)/\(i:Int)<((i+1:Nat):Int)/\(i:Int)<r.2.1-1) by omega),af (show ¬ (r.1[i]≠0/\(p:Int)=13+r.1[i]/\(i:Int)<r.2.1-1) from fun k=>c k.2.2),af (show ¬ (0<=(i:Int)/\(i:Int)<(i:Int)/\(i:Int)<r.2.1-1) by omega)]
 .simp only[af (show ¬ (r.1[i]≠0/\(p:Int)=13+r.1[i]/\(i:Int)<r.2.1-1) from fun k=>e ⟨k.1,k.2.1⟩)];have hk:a_ ((p:Int)-13) r.1 0≠(i:Int)\/(p:Int)-13=0:=by
   by_cases q:(p:Int)-13=r.1[i]
   .by_cases z:r.1[i]=0
    .exact .inr (by omega)
    .exact absurd ⟨z,by omega⟩ e
   .exact .inl (cY _ q)
  by_cases c:0<=a_ ((p:Int)-13) r.1 0/\a_ ((p:Int)-13) r.1 0<(i:Int)/\a_ ((p:Int)-13) r.1 0<r.2.1-1
  .simp only[aj c,aj (show 0<=a_ ((p:Int)-13) r.1 0/\a_ ((p:Int)-13) r.1 0<((i+1:Nat):Int)/\a_ ((p:Int)-13) r.1 0<r.2.1-1 by omega)]
  .simp only[af c,af (show ¬ (0<=a_ ((p:Int)-13) r.1 0/\a_ ((p:Int)-13) r.1 0<((i+1:Nat):Int)/\a_ ((p:Int)-13) r.1 0<r.2.1-1) by omega)]
theorem AS(N n:Nat)(hN:4<=N)(K:qp->List Int->Option ((List Int×Unit)×Unit)){r:qp}(hr:aW r):∀(m i:Nat)(ws:List Int),i<=4->4-i<m->ws.length=20->(∀p<20,ws.getD p 0=v_ r i p)->
  ∃zd,zd.length=20/\(∀p<20,zd.getD p 0=v_ r 4 p)/\Tf (DD X N) n K m (i:Int) r ws=K r zd
 | 0,_,_,_,h,_,_=>by omega
 | m+1,i,ws,hi,hf,mR,hw=>by
  have hl:=hr.len;have hst:=hr.st;simp only[Tf,qzs];by_cases h:i<4
  .have hi2:i<r.1.length:=by omega
   have hv:=hr.dQ r.1[i] (ez hi2);have hrow:qw (i:Int)=i:=by unfold qw;rw[kZ.2 (by omega)];rfl
   have hps:=Rj hX hr h hi2;rw[qf (by omega),ix hi2,aF,eB,qv hi2,abw hX (by omega),qc,hrow];dsimp only;rw[fI (by omega) (by rw[mR];omega),aF,eB];by_cases h0:r.1[i]=0
   .rw[qf h0,qu (by omega)];refine AS N n hN K hr m (i+1) _ (by omega) (by omega) (by rw[b8];exact mR) (fun p hp=>?_);rw[hps p hp,pF _ _ _ _ (by omega)];by_cases e:p=i
    .rw[aj e,aj (by omega),aj e]
    .rw[af e,hw p hp,af e];rw[af (show ¬ (r.1[i]≠0/\(p:Int)=3+r.1[i]) from fun k=>k.1 h0),af (show ¬ (r.1[i]≠0/\(p:Int)=13+r.1[i]/\(i:Int)<r.2.1-1) from fun k=>k.1 h0)];split<;>rfl
   .rw[qg h0,aaE hX (by omega),qc];dsimp only;have ho:=uU r.1[i];have hvi:=oK r.1[i];have nX:q9 r.1[i]=3+r.1[i]:=by omega
    have Ev:fQ r.1[i]=13+r.1[i]:=by omega
    have qB:wrap .i64 (r.2.1-1)=r.2.1-1:=qs (by omega) (by omega);rw[fI (by omega) (by rw[b8,mR];omega),aF,qu (by omega),qB,nX];by_cases hs:(i:Int)<r.2.1-1
    .rw[qf hs,abx hX (by omega),qc];dsimp only;rw[fI (by omega) (by rw[b8,b8,mR];omega),aF,Ev];refine AS N n hN K hr m (i+1) _ (by omega) (by omega) (by rw[b8,b8,b8];exact mR) (fun p hp=>?_);rw[hps p hp,pF _ _ _ _ (by rw[b8,b8,mR];omega),pF _ _ _ _ (by rw[b8,mR];omega),pF _ _ _ _ (by omega),hw p hp];by_cases e3:p=(13+r.1[i]).toNat
     .rw[aj e3,af (by omega),af (by omega),aj ⟨h0,by omega,hs⟩];omega
     rw[af e3];by_cases e2:p=(3+r.1[i]).toNat
     .rw[aj e2,af (by omega),aj ⟨h0,by omega⟩];omega
     rw[af e2];by_cases e:p=i
     .simp only[aj e,aj (show p<4 by omega)]
     .simp only[af e];rw[af (show ¬ (r.1[i]≠0/\(p:Int)=3+r.1[i]) by omega),af (show ¬ (r.1[i]≠0/\(p:Int)=13+r.1[i]/\(i:Int)<r.2.1-1) by omega)];split<;>rfl
    .rw[qg hs];refine AS N n hN K hr m (i+1) _ (by omega) (by omega) (by rw[b8,b8];exact mR) (fun p hp=>?_);rw[hps p hp,pF _ _ _ _ (by rw[b8,mR];omega),pF _ _ _ _ (by omega),hw p hp];rw[af (show ¬ (r.1[i]≠0/\(p:Int)=13+r.1[i]/\(i:Int)<r.2.1-1) by omega)];by_cases e2:p=(3+r.1[i]).toNat
     .rw[aj e2,af (by omega),aj ⟨h0,by omega⟩];omega
     rw[af e2];by_cases e:p=i
     .simp only[aj e,aj (show p<4 by omega)]
     .simp only[af e];rw[af (show ¬ (r.1[i]≠0/\(p:Int)=3+r.1[i]) by omega)];split<;>rfl
  .rw[qg (by omega)];have:i=4:=by omega
   subst this;exact⟨ws,mR,hw,rfl⟩
def wA(r:qp)(i p:Nat):Int:=if 10<=p/\p<10+i then many ((p:Int)-10) r.1 else v_ r 4 p
theorem Q8(N n:Nat)(hN:W+4<=N)(K:qp->List Int->Option ((List Int×Unit)×Unit)){r:qp}(hr:aW r):∀(m i:Nat)(ws:List Int),i<=3->3-i<m->ws.length=20->(∀p<20,ws.getD p 0=wA r i p)->
  ∃zd,zd.length=20/\(∀p<20,zd.getD p 0=wA r 3 p)/\Tg (DD X N) n K m (i:Int) r ws=K r zd
 | 0,_,_,_,h,_,_=>by omega
 | m+1,i,ws,hi,hf,mR,hw=>by
  have hl:=hr.len;have hW:=ej;simp only[Tg,qzt];by_cases h:i<3
  .have hc:=uS (i:Int);have g7:iQ (i:Int)=10+i:=by omega
   rw[qf (by omega),aaD hX (by omega),qc];dsimp only;rw[ai8 hX (by omega) r (by omega),qc];dsimp only;rw[fI (by omega) (by rw[mR];omega),aF,qu (by omega),g7];refine Q8 N n hN K hr m (i+1) _ (by omega) (by omega) (by rw[b8];exact mR) (fun p hp=>?_);rw[pF _ _ _ _ (by omega),hw p hp];unfold wA;by_cases e:p=(10+(i:Int)).toNat
   .rw[aj e,aj (by omega),show(p:Int)-10=i by omega]
   .rw[af e];by_cases c:10<=p/\p<10+i
    .rw[aj c,aj (by omega)]
    .rw[af c,af (by omega)]
  .rw[qg (by omega)];have:i=3:=by omega
   subst this;exact⟨ws,mR,hw,rfl⟩
theorem acM(hn:W+6<=n){r:qp}(hr:aW r):∃ws:List Int,ws.length=20/\(∀p<20,ws.getD p 0=jV r p)/\Yo (DD X n) r=some ((ws,()),()):=by
 obtain⟨n,rfl⟩:∃k,n=k+1:=⟨n-1,by omega⟩
 have hW:=ej;have hst:=hr.st;rw[ahA hX];simp only[YP,Ze];rw[Pt hX (by omega) hr,qc];dsimp only;rw[cJ,aL];simp only[qwx];obtain⟨w1,l1,h1,e1⟩:=AS hX n n (by omega) (fun bY eG=>Vm (DD X n) n (Vw (DD X n) n) bY eG) hr n 0 (List.replicate (Int.toNat 20) 0) (by omega) (by omega) rfl (fun p hp=>by
  have e0:(List.replicate (Int.toNat 20) (0:Int)).getD p 0=0:=by simp only[List.getD,vB];split<;>rfl
  rw[e0];unfold v_ qF lB;split
  .rfl
  .split
   .rw[af (by omega)]
   .split
    .rfl
    .rw[af (by omega)])
 rw[show((0:Nat):Int)=0 from rfl]at e1;obtain⟨w2,l2,h2,e2⟩:=Q8 hX n n (by omega) (fun bY eG=>qu1 (DD X n) n bY eG) hr n 0 w1 (by omega) (by omega) l1 (fun p hp=>by
  rw[h1 p hp];unfold wA;rw[af (by omega)])
 rw[show((0:Nat):Int)=0 from rfl]at e2;refine⟨w2.set 13 r.2.1,by rw[b8];exact l2,fun p hp=>?_,e1.trans ?_⟩
 .rw[pF _ _ _ _ (by omega),h2 p hp];unfold jV wA v_;have hlen:=hr.len;by_cases e:p=13
  .rw[aj e,af (by omega),af (by omega),af (by omega),aj e]
  rw[af e];by_cases a1:p<4
  .rw[af (by omega),aj a1,aj a1,aj a1]
  by_cases a2:p<10
  .rw[af (by omega),af a1,aj a2,af a1,aj a2];rfl
  by_cases a3:p<13
  .rw[aj (by omega),af a1,af a2,aj a3]
  .rw[af (by omega),af a1,af a2,af (by omega),af a1,af a2,af a3,af e];rfl
 simp only[Vm,Vw];rw[e2];simp only[qu1];rw[PM hX (by omega),qc];dsimp only;rw[fI (by omega) (by rw[l2];omega),aF];rfl
end
def path(w:Int->Int):PR->List Int
 | .done=>[]
 | .ask p k=>p::path w (k (w p))
def AE(got:dL)(w:Int->Int)(L:List Int):Prop:=∀q,eW got q=if q∈L then (w q,true) else (0,false)
theorem abZ(w:Int->Int):∀(L:List Int),AE (L.map fun p=>(p,w p,())) w L:=by
 intro L q;unfold eW;have key:∀(L:List Int)(v:Int)(ok:Bool),rd q (L.map fun p=>(p,w p,())) v ok=if q∈L then (w q,true) else (v,ok):=by
  intro L
  induction L with
  | nil=>intro v ok;simp[rd]
  | cons a L ih=>
   intro v ok;simp only[cv,rd];by_cases e:a=q
   .rw[aj e,ih];by_cases m:q∈L
    .rw[aj m,aj (cF _ m)]
    .rw[af m,aj (by rw[e];exact e7),e]
   .rw[af e,ih];by_cases m:q∈L
    .rw[aj m,aj (cF _ m)]
    .rw[af m,af (by
      intro k;rcases bh.1 k with k | k
      .exact e k.symm
      .exact m k)]
 exact key L 0 false
theorem AO{got:dL}{w:Int->Int}{L:List Int}(h:AE got w L){p:Int}(hp:0<=p):hit got p=decide (p∈L):=by
 unfold hit;rw[bz hp,zE,h p];by_cases m:p∈L
 .rw[aj m,bz m]
 .rw[af m,b7 m]
theorem Ht{got:dL}{w:Int->Int}{L:List Int}(h:AE got w L):∀(A B:List Int)(P:PR),path w P=A++B->(∀a∈A,a∈L)->(∀a∈A++B,0<=a)->(∀b B',B=b::B'->b∉L)->run got P=(A,B.headD (-1))
 | [],B,P,hp,_,hz,hB=>by
  cases P with
  | done=>simp only[path,gy]at hp;subst hp;rfl
  | ask p k=>
   simp only[path,gy]at hp;subst hp;have hm:hit got p=false:=by rw[AO h (hz p (by simp)),b7 (hB p _ rfl)]
   rw[nO hm];rfl
 | a::A,B,P,hp,hA,hz,hB=>by
  cases P with
  | done=>simp[path]at hp
  | ask p k=>
   simp only[path,fH,eY]at hp;obtain⟨rfl,hp⟩:=hp;have hm:hit got p=true:=by rw[AO h (hz p (by simp)),bz (hA p e7)]
   have hv:(eW got p).1=w p:=by rw[h p,aj (hA p e7)]
   rw[nQ hm,hv,Ht h A B (k (w p)) hp (fun a ha=>hA a (cF _ ha)) (fun a ha=>hz a (cF _ ha)) hB]
structure DM (w:Int->Int) (l:List Int):Prop where
 once:l.Nodup
 dQ:∀p∈l,0<=p/\p<20
 len:l.length<=8
theorem Cq(w:Int->Int)(K:Int)(l:List Int):path w (tC K l)=13::(if w 13<=wrap .i64 (K+1) then [] else l.map fQ):=by
 unfold tC;simp only[path];by_cases h:w 13<=wrap .i64 (K+1)
 .rw[bz h,aj h];rfl
 .rw[b7 h,af h,bf];congr 1
  induction l with
  | nil=>rfl
  | cons a l ih=>simp only[su,path,cv,ih]
theorem JB{o:cK}(ho:dh o=true)(w:Int->Int)(hw:∀k,0<=k/\k<=3->0<=w k/\w k<=6):DM w (path w (prog o)):=by
 have hk:=tH ho;have hr:=u_ o.2.1;have hoV:=uU o.2.2.1;have hvV:=oK o.2.2.1;have jL:=yF o.2.2.1;have hcV:=uS (qh o.2.2.1);unfold prog;by_cases k1:o.1=1
 .rw[aj k1];unfold sE;simp only[path];cases w (qw o.2.1) != 0
  .simp only[bf,path];cases w (q9 o.2.2.1) != 0
   .simp only[bf,path,Cq,cv,fZ];split
    .exact⟨by simp;omega,by simp;omega,by simp⟩
    .exact⟨by simp;omega,by simp;omega,by simp⟩
   .exact⟨by simp[path];omega,by simp[path];omega,by simp[path]⟩
  .exact⟨by simp[path],by simp[path];omega,by simp[path]⟩
 rw[af k1];by_cases k2:o.1=2
 .rw[aj k2];have hK:0<=o.2.1/\o.2.1<=3:=by omega
  have hrow:qw o.2.1=o.2.1:=by omega
  have hwv:=hw o.2.1 hK;unfold sF;simp only[path];rw[hrow];generalize w o.2.1=v at *;have hov:=uU v;have Ap:=oK v;have hcv:=yF v;have WA:=uS (qh v);by_cases hb:v=0\/v=o.2.2.1
  .rw[show(bif decide (v=0) then true else decide (v=o.2.2.1))=true by
    rcases hb with h | h
    .rw[bz h];rfl
    .rw[bz h];cases decide (v=0)<;>rfl]
   exact⟨by simp[path],by simp[path];omega,by simp[path]⟩
  .rw[show(bif decide (v=0) then true else decide (v=o.2.2.1))=false by
    rw[b7 (by omega),b7 (by omega)];rfl]
   simp only[bf,path];cases w (q9 o.2.2.1) != 0
   .simp only[bf,path];cases hc:qh v != qh o.2.2.1
    .simp only[bf,path,Cq,cv,fZ];split
     .exact⟨by simp;omega,by simp;omega,by simp⟩
     .exact⟨by simp;omega,by simp;omega,by simp⟩
    .have hne:qh v≠qh o.2.2.1:=by simpa using hc
     simp only[bA,path,Cq,cv,fZ];split
     .exact⟨by simp;omega,by simp;omega,by simp⟩
     .exact⟨by simp;omega,by simp;omega,by simp⟩
   .exact⟨by simp[path];omega,by simp[path];omega,by simp[path]⟩
 rw[af k2];by_cases k3:o.1=3
 .rw[aj k3];have hK:0<=o.2.1/\o.2.1<=3:=by omega
  have hrow:qw o.2.1=o.2.1:=by omega
  have hwv:=hw o.2.1 hK;unfold uY;simp only[path];rw[hrow];generalize w o.2.1=v at *;have hov:=uU v;have Ap:=oK v;have hcv:=yF v;have WA:=uS (qh v);by_cases hb:v=0
  .rw[bz hb];exact⟨by simp[path],by simp[path];omega,by simp[path]⟩
  .rw[b7 hb];simp only[bf,path,Cq,cv,fZ];split
   .exact⟨by simp;omega,by simp;omega,by simp⟩
   .exact⟨by simp;omega,by simp;omega,by simp⟩
 rw[af k3];by_cases k4:o.1=4
 .rw[aj k4];exact⟨by simp[path],by simp[path];omega,by simp[path]⟩
 rw[af k4];by_cases k5:o.1=5
 .rw[aj k5];exact⟨by simp[path],by simp[path];omega,by simp[path]⟩
 rw[af k5];by_cases k6:o.1=6
 .rw[aj k6];have:=uS o.2.1;exact⟨by simp[path],by simp[path];omega,by simp[path]⟩
 rw[af k6];by_cases k7:o.1=7
 .rw[aj k7];exact⟨by simp[path,Cn],by simp[path,Cn],by simp[path,Cn]⟩
 rw[af k7];by_cases k8:o.1=8
 .rw[aj k8];exact⟨by simp[path],by simp[path],by simp[path]⟩
 rw[af k8];by_cases k9:o.1=9
 .rw[aj k9];unfold yG;simp only[path];generalize w 13=st;by_cases hs:st<1\/st>4
  .rw[show(bif decide (st<1) then true else decide (st>4))=true by
    rcases hs with h | h
    .rw[bz h];rfl
    .rw[bz h];cases decide (st<1)<;>rfl]
   exact⟨by simp[path],by simp[path],by simp[path]⟩
  .rw[show(bif decide (st<1) then true else decide (st>4))=false by
    rw[b7 (by omega),b7 (by omega)];rfl]
   have qB:wrap .i64 (st-1)=st-1:=qs (by omega) (by omega);have Xm:=u_ (st-1);simp only[bf,path];rw[qB];have hp:qw (st-1)=st-1:=by omega
   rw[hp];cases hin:bu (w (st-1)) 1 6
   .exact⟨by simp[path];omega,by simp[path];omega,by simp[path]⟩
   .have hi:=kZ.1 hin;have Ap:=oK (w (st-1));simp only[cJ,bf,path];exact⟨by simp;omega,by simp;omega,by simp⟩
 rw[af k9];have jo:o.1=10:=by omega
 rw[aj jo];unfold vW;simp only[path];cases w 13 != 5
 .simp only[bf,path];exact⟨by simp;omega,by simp;omega,by simp⟩
 .exact⟨by simp[path],by simp[path],by simp[path]⟩
theorem QL{α:Type}(key:α->Int):∀(L acc:List α),(L.foldl (jZ key) acc).length=acc.length+L.length
 | [],acc=>rfl
 | e::L,acc=>by rw[nI,QL key L,xF,ct];omega
theorem Ba(w:Int->Int)(K:Int)(l:List Int):∀p∈path w (tC K l),p=13\/p∈l.map fQ:=by
 intro p hp;rw[Cq]at hp;rcases bh.1 hp with h | h
 .exact .inl h
 .split at h
  .simp at h
  .exact .inr h
theorem R_{o:cK}(ho:dh o=true){got:dL}{w:Int->Int}(hw:∀k,0<=k/\k<=3->0<=w k/\w k<=6)(hk:AE got w (path w (prog o)))(hn:mJ o got=none)(eJ:o.1=1\/o.1=2\/o.1=3) :
  val got (qw o.2.1)=w o.2.1/\∀p∈path w (prog o),p∈(e9 o.2.1 o.2.2.1 (w o.2.1) (val got 13)).map (·.1):=by
 have ua:=tH ho;have hr:=u_ o.2.1;have hrow:qw o.2.1=o.2.1:=by omega
 have jL:=yF o.2.2.1;have Uw:=hw o.2.1 (by omega);have WL:∃P,path w (prog o)=qw o.2.1::P:=by
  unfold prog;rcases eJ with k | k | k
  .rw[aj k];exact⟨_,rfl⟩
  .rw[af (by omega),aj k];exact⟨_,rfl⟩
  .rw[af (by omega),af (by omega),aj k];exact⟨_,rfl⟩
 obtain⟨P,hP⟩:=WL;have hval:val got (qw o.2.1)=w o.2.1:=by unfold val;rw[hk (qw o.2.1),aj (by rw[hP];exact e7),hrow]
 refine⟨hval,?_⟩;have hrd:(eW got (qw o.2.1)).1=w o.2.1:=hval;unfold mJ at hn;rw[hrd]at hn;unfold jM at hn;unfold prog at hk⊢;rcases eJ with k | k | k
 .rw[aj k]at hk⊢;by_cases c1:w o.2.1≠0
  .rw[aj ⟨k,c1⟩]at hn;cases hn
  have zj:w o.2.1=0:=by omega
  rw[af (fun q=>c1 q.2)]at hn;have hJ:path w (sE o)=qw o.2.1::q9 o.2.2.1::(bif w (q9 o.2.2.1) != 0 then [] else iQ (qh o.2.2.1)::path w (tC o.2.1 [o.2.2.1])):=by unfold sE;simp only[path];rw[hrow,zj];simp only[bH,AH,cJ,bf,path];cases decide (w (q9 o.2.2.1)=0)<;>rfl
  rw[hJ]at hk⊢;have hown:(eW got (q9 o.2.2.1)).1=w (q9 o.2.2.1):=by rw[hk,aj (by simp)]
  rw[hown]at hn;by_cases c2:w (q9 o.2.2.1)≠0
  .rw[aj ⟨k,c2⟩]at hn;cases hn
  have V8:w (q9 o.2.2.1)=0:=by omega
  rw[V8,show((0:Int) != 0)=false by decide,bf];have hz:qh 0 = -1:=by decide
  have mc:(qh (w o.2.1) != qh o.2.2.1)=true:=by rw[zj,hz,bH,b7 (by omega)];rfl
  intro p hp;unfold e9;rw[mc,bA];simp only[fH,gy,cv,fZ,bh,dc,di];simp only[bh]at hp;rcases hp with h | h | h | h
  .exact .inl h
  .exact .inr (.inr (.inr (.inr (.inl h))))
  .exact .inr (.inr (.inr (.inr (.inr (.inr (.inr h))))))
  .rcases Ba w _ _ p h with h | h
   .exact .inr (.inl h)
   .simp only[cv,fZ,bh,dc,di]at h;exact .inr (.inr (.inr (.inr (.inr (.inl h)))))
 .rw[af (by omega),aj k]at hk⊢;rw[af (by omega),af (by omega)]at hn;by_cases c1:w o.2.1=0
  .rw[aj ⟨.inl k,c1⟩]at hn;cases hn
  rw[af (fun q=>c1 q.2)]at hn;by_cases c3:w o.2.1=o.2.2.1
  .rw[aj ⟨k,c3⟩]at hn;cases hn
  rw[af (fun q=>c3 q.2)]at hn;have hJ:path w (sF o)=qw o.2.1::q9 o.2.2.1::(bif w (q9 o.2.2.1) != 0 then [] else q9 (w o.2.1)::(bif qh (w o.2.1) != qh o.2.2.1 then iQ (qh (w o.2.1))::iQ (qh o.2.2.1)::path w (tC o.2.1 [w o.2.1,o.2.2.1]) else path w (tC o.2.1 [w o.2.1,o.2.2.1]))):=by
   unfold sF;simp only[path];rw[hrow,b7 c1,b7 c3];simp only[bf,path];cases w (q9 o.2.2.1) != 0
   .simp only[bf,path];cases qh (w o.2.1) != qh o.2.2.1<;>rfl
   .rfl
  rw[hJ]at hk⊢;have hown:(eW got (q9 o.2.2.1)).1=w (q9 o.2.2.1):=by rw[hk,aj (by simp)]
  rw[hown]at hn;by_cases c2:w (q9 o.2.2.1)≠0
  .rw[aj ⟨k,c2⟩]at hn;cases hn
  have V8:w (q9 o.2.2.1)=0:=by omega
  rw[V8,show((0:Int) != 0)=false by decide,bf];intro p hp;unfold e9;cases mc:qh (w o.2.1) != qh o.2.2.1
  .rw[mc,bf]at hp;rw[bf];simp only[gR,cv,fZ,bh,dc,di];simp only[bh]at hp;rcases hp with h | h | h | h
   .exact .inl h
   .exact .inr (.inr (.inr (.inr (.inl h))))
   .exact .inr (.inr (.inl h))
   .rcases Ba w _ _ p h with h | h
    .exact .inr (.inl h)
    .simp only[cv,fZ,bh,dc,di]at h;rcases h with h | h
     .exact .inr (.inr (.inr (.inl h)))
     .exact .inr (.inr (.inr (.inr (.inr h))))
  .rw[mc,bA]at hp;rw[bA];simp only[fH,gy,cv,fZ,bh,dc,di];simp only[bh]at hp;rcases hp with h | h | h | h | h | h
   .exact .inl h
   .exact .inr (.inr (.inr (.inr (.inl h))))
   .exact .inr (.inr (.inl h))
   .exact .inr (.inr (.inr (.inr (.inr (.inr (.inl h))))))
   .exact .inr (.inr (.inr (.inr (.inr (.inr (.inr h))))))
   .rcases Ba w _ _ p h with h | h
    .exact .inr (.inl h)
    .simp only[cv,fZ,bh,dc,di]at h;rcases h with h | h
     .exact .inr (.inr (.inr (.inl h)))
     .exact .inr (.inr (.inr (.inr (.inr (.inl h)))))
 .rw[af (by omega),af (by omega),aj k]at hk⊢;rw[af (by omega),af (by omega)]at hn;by_cases c1:w o.2.1=0
  .rw[aj ⟨.inr (.inl k),c1⟩]at hn;cases hn
  have hJ:path w (uY o)=qw o.2.1::q9 (w o.2.1)::iQ (qh (w o.2.1))::path w (tC o.2.1 [w o.2.1]):=by unfold uY;simp only[path];rw[hrow,b7 c1];simp only[bf,path]
  rw[hJ];have hV:o.2.2.1=0:=by omega
  have hz:qh 0 = -1:=by decide
  have hck:=yF (w o.2.1);have mc:(qh (w o.2.1) != qh o.2.2.1)=true:=by rw[hV,hz,bH,b7 (by omega)];rfl
  intro p hp;unfold e9;rw[mc,bA];simp only[fH,gy,cv,fZ,bh,dc,di];simp only[bh]at hp;rcases hp with h | h | h | h
  .exact .inl h
  .exact .inr (.inr (.inl h))
  .exact .inr (.inr (.inr (.inr (.inr (.inr (.inl h))))))
  .rcases Ba w _ _ p h with h | h
   .exact .inr (.inl h)
   .simp only[cv,fZ,bh,dc,di]at h;exact .inr (.inr (.inr (.inl h)))
theorem QU{l:List eu}(h:lJ l):(l.map (·.1)).Nodup:=by rw[List.Nodup,List.pairwise_map];exact h.imp fun {a b} hab=>by omega
theorem MQ{o:cK}(ho:dh o=true){got:dL}{w:Int->Int}(hw:∀k,0<=k/\k<=3->0<=w k/\w k<=6)(hk:AE got w (path w (prog o)))(hrun:run got (prog o)=(path w (prog o),-1))(hn:mJ o got=none) :
  (∀p∈path w (prog o),∃e∈dI o got,e.1=p/\e.2.1=w p)/\(dI o got).length=(path w (prog o)).length:=by
 have hpk:=JB ho w hw;have Je:∀p∈path w (prog o),val got p=w p:=fun p hp=>by unfold val;rw[hk p,aj hp]
 have Af:∀p,0<=p->(hit got p=true↔p∈path w (prog o)):=fun p hp=>by rw[AO hk hp,gQ]
 by_cases eJ:o.1=1\/o.1=2\/o.1=3
 .obtain⟨hv,hsub⟩:=R_ ho hw hk hn eJ;have hne:=xK ho hn eJ;have hE:dI o got=(iq got (e9 o.2.1 o.2.2.1 (w o.2.1) (val got 13))).foldl g8 []:=by unfold dI;rw[aj eJ,hv]
  rw[hv]at hne;obtain⟨_,r2,r3,r4⟩:=L1 (got:=got) (K:=o.2.1) (V:=o.2.2.1) (held:=w o.2.1) (st:=val got 13) hne;rw[hE];have hA:∀p∈path w (prog o),∃e∈(iq got (e9 o.2.1 o.2.2.1 (w o.2.1) (val got 13))).foldl g8 [],e.1=p/\e.2.1=w p:=by intro p hp;obtain⟨q,hq,rfl⟩:=eI.1 (hsub p hp);have hh:=(Af q.1 (hpk.dQ q.1 hp).1).2 hp;exact⟨_,(r3 _).2 ((Jo got _ _).2 ⟨q,hq,hh,rfl⟩),rfl,Je q.1 hp⟩
  refine⟨hA,?_⟩;have Lb:(((iq got (e9 o.2.1 o.2.2.1 (w o.2.1) (val got 13))).foldl g8 []).map (·.1)).Perm (path w (prog o)):=by
   rw[NX (QU r2) hpk.once];intro p;constructor
   .intro hp;obtain⟨e,he,rfl⟩:=eI.1 hp;obtain⟨q,_,hh,rfl⟩:=(Jo got _ _).1 ((r3 _).1 he);exact(Af q.1 (Bi hh)).1 hh
   .intro hp;obtain⟨e,he,h1,_⟩:=hA p hp;exact eI.2 ⟨e,he,h1⟩
  have:=Lb.length_eq;rw[jA]at this;exact this
 .have hneg:(run got (prog o)).2<0:=by rw[hrun];show(-1:Int)<0;omega
  obtain⟨_,pl⟩:=G9 ho hn hneg eJ;have Ja:(run got (prog o)).1=path w (prog o):=by rw[hrun]
  rw[Ja]at pl;have hmem:∀L:List Int,(path w (prog o)).foldl (jZ fF) []=L->(∀p∈path w (prog o),p∈L)/\L.length=(path w (prog o)).length:=by
   intro L hL;refine⟨fun p hp=>?_,?_⟩
   .rw[<-hL,GW];exact .inr hp
   .rw[<-hL,QL];simp
  unfold dI;rw[af eJ];rcases pl with⟨k,hp⟩ | ⟨k,hz,hp⟩ | ⟨k,hz,hp⟩ | ⟨k,hp⟩
  .obtain⟨m1,m2⟩:=hmem _ hp;rw[aj k];refine⟨fun p w8=>?_,by rw[<-m2];rfl⟩;have h2:=m1 p w8;have hv:=Je p w8;simp only[bh,dc,di]at h2;rcases h2 with rfl | rfl | rfl | rfl
   .exact⟨same got 0,by simp,rfl,hv⟩
   .exact⟨same got 1,by simp,rfl,hv⟩
   .exact⟨same got 2,by simp,rfl,hv⟩
   .exact⟨same got 3,by simp,rfl,hv⟩
  .obtain⟨m1,m2⟩:=hmem _ hp;rw[af (by omega),aj k];refine⟨fun p w8=>?_,by rw[<-m2];rfl⟩;have h2:=m1 p w8;have hv:=Je p w8;simp only[bh,dc,di]at h2;subst h2;exact⟨_,d6.2 rfl,rfl,hv⟩
  .obtain⟨m1,m2⟩:=hmem _ hp;rw[af (by omega),af (by omega),aj k];generalize qw (wrap .i64 (val got 13-1))=q at *;refine⟨fun p w8=>?_,by rw[<-m2];cases bu (val got q) 1 6<;>rfl⟩;have h2:=m1 p w8;have hv:=Je p w8;simp only[bh]at h2;rcases h2 with rfl | rfl | h2
   .exact⟨same got p,e7,rfl,hv⟩
   .exact⟨_,cF _ e7,rfl,hv⟩
   .cases hin:bu (val got q) 1 6
    .rw[hin]at h2;simp at h2
    .rw[hin,bA,d6]at h2;subst h2;exact⟨_,cF _ (cF _ (by rw[bA];exact d6.2 rfl)),rfl,hv⟩
  .obtain⟨m1,m2⟩:=hmem _ hp;rw[af (by omega),af (by omega),af (by omega),aj k];refine⟨fun p w8=>?_,by rw[<-m2];rfl⟩;have h2:=m1 p w8;have hv:=Je p w8;simp only[bh,dc,di]at h2;rcases h2 with rfl | rfl
   .exact⟨same got 13,by simp,rfl,hv⟩
   .exact⟨same got (fQ o.2.2.1),by simp,rfl,hv⟩
def b_(r:qp)(p:Int):Int:=jV r p.toNat
theorem u5{r:qp}(hr:aW r){k:Int}(hk:0<=k/\k<=3):b_ r k=r.1.getD k.toNat 0/\0<=b_ r k/\b_ r k<=6:=by
 have hl:=hr.len;have e:b_ r k=r.1.getD k.toNat 0:=by unfold b_ jV;rw[aj (by omega)]
 refine⟨e,?_⟩;rw[e,qv (by omega)];exact hr.dQ _ (ez _)
def fy(r:qp)(o:cK):dL:=(path (b_ r) (prog o)).map fun p=>(p,b_ r p,())
theorem Gh(r:qp)(o:cK):AE (fy r o) (b_ r) (path (b_ r) (prog o)):=abZ _ _
theorem GZ{r:qp}(hr:aW r){o:cK}(ho:dh o=true):run (fy r o) (prog o)=(path (b_ r) (prog o),-1):=by have hpk:=JB ho (b_ r) (fun k hk=>(u5 hr hk).2);exact Ht (Gh r o) (path (b_ r) (prog o)) [] (prog o) (by rw[gR]) (fun a ha=>ha) (fun a ha=>(hpk.dQ a (by simpa using ha)).1) (fun b B' h=>by cases h)
section
variable {X:Ext} (hX:f4 X) {n:Nat}
include hX
end
inductive Out (r:qp) (o:cK):Int->List Int->Prop
 | EL:o.1=1->r.1.getD o.2.1.toNat 0≠0->Out r o 1 []
 | EM:o.1=1->0<=a_ o.2.2.1 r.1 0->Out r o 2 []
 | EK:o.1=1->r.1.getD o.2.1.toNat 0=0->a_ o.2.2.1 r.1 0<0->Out r o 0 []
 | IY:o.1=2->r.1.getD o.2.1.toNat 0=0->Out r o 3 []
 | CC:o.1=2->r.1.getD o.2.1.toNat 0≠0->r.1.getD o.2.1.toNat 0=o.2.2.1->Out r o 0 []
 | IX:o.1=2->0<=a_ o.2.2.1 r.1 0->Out r o 2 []
 | IW:o.1=2->r.1.getD o.2.1.toNat 0≠0->r.1.getD o.2.1.toNat 0≠o.2.2.1->a_ o.2.2.1 r.1 0<0->Out r o 0 []
 | DP:o.1=3->r.1.getD o.2.1.toNat 0=0->Out r o 3 []
 | DO:o.1=3->r.1.getD o.2.1.toNat 0≠0->Out r o 0 []
 | DY:o.1=4->r.1.getD o.2.1.toNat 0=0->Out r o 3 []
 | DW:o.1=4->r.1.getD o.2.1.toNat 0≠0->Out r o 0 [r.1.getD o.2.1.toNat 0]
 | wD:o.1=5->a_ o.2.2.1 r.1 0<0->Out r o 3 []
 | wC:o.1=5->0<=a_ o.2.2.1 r.1 0->Out r o 0 [a_ o.2.2.1 r.1 0]
 | DN:o.1=6->Out r o 0 [many o.2.1 r.1]
 | DF:o.1=7->Out r o 0 r.1
 | xx:o.1=8->r.2.1≠0->Out r o 4 []
 | C8:o.1=8->r.2.1=0->Out r o 0 []
 | xu:o.1=9->r.2.1=0\/r.2.1=5->Out r o 4 []
 | C7:o.1=9->1<=r.2.1/\r.2.1<=4->Out r o 0 []
 | I2:o.1=10->r.2.1≠5->Out r o 4 []
 | TV:o.1=10->r.2.1=5->a_ o.2.2.1 r.1 0<0->Out r o 3 []
 | TU:o.1=10->r.2.1=5->0<=a_ o.2.2.1 r.1 0->Out r o 0 [a_ o.2.2.1 r.1 0]
theorem IK{r:qp}(hr:aW r){v:Int}(hv:1<=v/\v<=6):b_ r (q9 v)=a_ v r.1 0+1:=by
 have ho:=uU v;have hl:=hr.len;have hk:=yL v r.1 0;have e:q9 v=3+v:=by omega
 unfold b_ jV;rw[e,af (by omega),aj (by omega)];unfold qF;rw[show(((3+v).toNat:Nat):Int)-3=v by omega];by_cases h:0<=a_ v r.1 0/\a_ v r.1 0<4
 .rw[aj h]
 .rw[af h];omega
theorem Du(r:qp):b_ r 13=r.2.1:=rfl
theorem Q6{r:qp}{c:Int}(hc:0<=c/\c<=2):b_ r (iQ c)=many c r.1:=by
 have ho:=uS c;have e:iQ c=10+c:=by omega
 unfold b_ jV;rw[e,af (by omega),af (by omega),aj (by omega),show(((10+c).toNat:Nat):Int)-10=c by omega]
theorem akB{r:qp}{v:Int}(hv:1<=v/\v<=6):b_ r (fQ v)=lB v r.1 4 r.2.1:=by
 have ho:=oK v;have e:fQ v=13+v:=by omega
 unfold b_ jV;rw[e,af (by omega),af (by omega),af (by omega),af (by omega),show(((13+v).toNat:Nat):Int)-13=v by omega]
theorem alH{l:List Int}(h:l.length=4):l=[l.getD 0 0,l.getD 1 0,l.getD 2 0,l.getD 3 0]:=by
 match l,h with
 | [a,b,c,d],_=>rfl
theorem Na{r:qp}(hr:aW r){o:cK}(ho:dh o=true):Out r o (gh o (fy r o)).1.2.1.1 (gh o (fy r o)).1.2.1.2.1:=by
 have ua:=tH ho;have hrun:=GZ hr ho;have hkn:=Gh r o;have gm:dh o=true/\(run (fy r o) (prog o)).2<0:=⟨ho,by rw[hrun];show(-1:Int)<0;omega⟩
 have hst:=hr.st;have hl:=hr.len;have hrd:∀p,p∈path (b_ r) (prog o)->(eW (fy r o) p).1=b_ r p:=fun p hp=>by rw[hkn p,aj hp]
 have hrow:=u_ o.2.1;unfold gh;rw[aj gm];by_cases k1:o.1=1
 .have hK:qw o.2.1=o.2.1:=by omega
  have hw:=u5 hr (k:=o.2.1) (by omega);have hp:prog o=sE o:=by unfold prog;rw[aj k1]
  have m1:qw o.2.1∈path (b_ r) (prog o):=by rw[hp];unfold sE;simp only[path];exact e7
  have r1:=hrd _ m1;rw[hK,hw.1]at r1;unfold mJ;rw[hK,r1];unfold jM;by_cases c1:r.1.getD o.2.1.toNat 0≠0
  .rw[aj ⟨k1,c1⟩];exact .EL k1 c1
  have zj:r.1.getD o.2.1.toNat 0=0:=by omega
  rw[af (fun q=>c1 q.2)];have m2:q9 o.2.2.1∈path (b_ r) (prog o):=by rw[hp];unfold sE;simp only[path];rw[hK,hw.1,zj];simp only[bH,AH,cJ,bf,path];simp
  rw[hrd _ m2,IK hr (by omega)];by_cases c2:a_ o.2.2.1 r.1 0+1≠0
  .rw[aj ⟨k1,c2⟩];exact .EM k1 (by have:=yL o.2.2.1 r.1 0;omega)
  rw[af (fun q=>c2 q.2),af (by omega),af (by omega),af (by omega),af (by omega),af (by omega),af (by omega),af (by omega),af (by omega),af (by omega),af (by omega)];dsimp only;unfold eF;rw[af (by omega),af (by omega)];exact .EK k1 zj (by omega)
 by_cases k2:o.1=2
 .have hK:qw o.2.1=o.2.1:=by omega
  have hw:=u5 hr (k:=o.2.1) (by omega);have hp:prog o=sF o:=by unfold prog;rw[af k1,aj k2]
  have m1:qw o.2.1∈path (b_ r) (prog o):=by rw[hp];unfold sF;simp only[path];exact e7
  have r1:=hrd _ m1;rw[hK,hw.1]at r1;unfold mJ;rw[hK,r1];unfold jM;rw[af (by omega),af (by omega)];by_cases c1:r.1.getD o.2.1.toNat 0=0
  .rw[aj ⟨.inl k2,c1⟩];exact .IY k2 c1
  rw[af (fun q=>c1 q.2)];by_cases c3:r.1.getD o.2.1.toNat 0=o.2.2.1
  .rw[aj ⟨k2,c3⟩];exact .CC k2 c1 c3
  rw[af (fun q=>c3 q.2)];have m2:q9 o.2.2.1∈path (b_ r) (prog o):=by rw[hp];unfold sF;simp only[path];rw[hK,hw.1,b7 c1,b7 c3];simp only[bf,path];simp
  rw[hrd _ m2,IK hr (by omega)];by_cases c2:a_ o.2.2.1 r.1 0+1≠0
  .rw[aj ⟨k2,c2⟩];exact .IX k2 (by have:=yL o.2.2.1 r.1 0;omega)
  rw[af (fun q=>c2 q.2),af (by omega),af (by omega),af (by omega),af (by omega),af (by omega),af (by omega),af (by omega)];dsimp only;unfold eF;rw[af (by omega),af (by omega)];exact .IW k2 c1 c3 (by omega)
 by_cases C5:o.1=3\/o.1=4
 .have hK:qw o.2.1=o.2.1:=by omega
  have hw:=u5 hr (k:=o.2.1) (by omega);have m1:qw o.2.1∈path (b_ r) (prog o):=by
   unfold prog;rw[af k1,af k2];rcases C5 with k | k
   .rw[aj k];unfold uY;simp only[path];exact e7
   .rw[af (by omega),aj k];simp only[path];exact e7
  have r1:=hrd _ m1;rw[hK,hw.1]at r1;unfold mJ;rw[hK,r1];unfold jM;rw[af (by omega),af (by omega)];by_cases c1:r.1.getD o.2.1.toNat 0=0
  .rw[aj ⟨.inr C5,c1⟩];rcases C5 with k | k
   .exact .DP k c1
   .exact .DY k c1
  rw[af (fun q=>c1 q.2),af (by omega),af (by omega)];rcases C5 with k | k
  .rw[af (by omega),af (by omega),af (by omega),af (by omega),af (by omega),af (by omega),af (by omega)];dsimp only;unfold eF;rw[af (by omega),af (by omega)];exact .DO k c1
  .rw[aj k];exact .DW k c1
 by_cases k5:o.1=5
 .have m1:q9 o.2.2.1∈path (b_ r) (prog o):=by unfold prog;rw[af k1,af k2,af (by omega),af (by omega),aj k5];simp only[path];exact e7
  have hk:=yL o.2.2.1 r.1 0;unfold mJ;rw[hrd _ m1,IK hr (by omega)];unfold jM;rw[af (by omega),af (by omega),af (by omega),af (by omega),af (by omega),af (by omega)];by_cases c:a_ o.2.2.1 r.1 0+1=0
  .rw[aj ⟨k5,c⟩];exact .wD k5 (by omega)
  .rw[af (fun q=>c q.2),aj k5];dsimp only;rw[show a_ o.2.2.1 r.1 0+1-1=a_ o.2.2.1 r.1 0 by omega,qs (by omega) (by omega)];exact .wC k5 (by omega)
 by_cases k6:o.1=6
 .have m1:iQ o.2.1∈path (b_ r) (prog o):=by unfold prog;rw[af k1,af k2,af (by omega),af (by omega),af k5,aj k6];simp only[path];exact e7
  unfold mJ;rw[hrd _ m1,Q6 (by omega)];unfold jM;rw[af (by omega),af (by omega),af (by omega),af (by omega),af (by omega),af (by omega),af (by omega),af k5,aj k6];exact .DN k6
 by_cases k7:o.1=7
 .have hp:prog o=Cn:=by unfold prog;rw[af k1,af k2,af (by omega),af (by omega),af k5,af k6,aj k7]
  unfold mJ jM;rw[af (by omega),af (by omega),af (by omega),af (by omega),af (by omega),af (by omega),af (by omega),af k5,af k6,af (by omega),af (by omega),af (by omega)];dsimp only;unfold eF;rw[aj k7];have hv:∀p:Int,0<=p/\p<=3->val (fy r o) p=r.1.getD p.toNat 0:=fun p La=>by
   unfold val;rw[hrd p (by rw[hp];unfold Cn;simp only[path,bh,dc,di];omega)];exact(u5 hr La).1
  dsimp only;rw[hv 0 (by omega),hv 1 (by omega),hv 2 (by omega),hv 3 (by omega)];have:=alH hl;have e:[r.1.getD (0:Int).toNat 0,r.1.getD (1:Int).toNat 0,r.1.getD (2:Int).toNat 0,r.1.getD (3:Int).toNat 0]=r.1:=this.symm;rw[e];exact .DF k7
 have m13:(13:Int)∈path (b_ r) (prog o):=by
  unfold prog;rw[af k1,af k2,af (by omega),af (by omega),af k5,af k6,af k7];by_cases k8:o.1=8
  .rw[aj k8];simp only[path];exact e7
  by_cases k9:o.1=9
  .rw[af k8,aj k9];unfold yG;simp only[path];exact e7
  .rw[af k8,af k9,aj (by omega)];unfold vW;simp only[path];exact e7
 unfold mJ;rw[hrd _ m13,Du];unfold jM;rw[af (by omega),af (by omega),af (by omega),af (by omega),af (by omega),af (by omega),af (by omega),af k5,af k6];by_cases k8:o.1=8
 .by_cases c:r.2.1≠0
  .rw[aj ⟨k8,c⟩];exact .xx k8 c
  .rw[af (fun q=>c q.2),af (by omega),af (by omega)];dsimp only;unfold eF;rw[af (by omega),af (by omega)];exact .C8 k8 (by omega)
 rw[af (by omega)];by_cases k9:o.1=9
 .by_cases c:r.2.1<1\/r.2.1>4
  .rw[aj ⟨k9,c⟩];exact .xu k9 (by omega)
  .rw[af (fun q=>c q.2),af (by omega)];dsimp only;unfold eF;rw[af (by omega),af (by omega)];exact .C7 k9 (by omega)
 rw[af (by omega)];have jo:o.1=10:=by omega
 by_cases c:r.2.1≠5
 .rw[aj ⟨jo,c⟩];exact .I2 jo c
 rw[af (fun q=>c q.2)];have c5:r.2.1=5:=by omega
 have mv:fQ o.2.2.1∈path (b_ r) (prog o):=by unfold prog;rw[af k1,af k2,af (by omega),af (by omega),af k5,af k6,af k7,af k8,af k9,aj jo];unfold vW;simp only[path];rw[Du,c5];simp only[show((5:Int) != 5)=false by decide,bf,path];simp
 have hk:=yL o.2.2.1 r.1 0;have Ap:val (fy r o) (fQ o.2.2.1)=a_ o.2.2.1 r.1 0+1:=by
  unfold val;rw[hrd _ mv,akB (by omega)];unfold lB;by_cases q:0<=a_ o.2.2.1 r.1 0/\a_ o.2.2.1 r.1 0<4/\a_ o.2.2.1 r.1 0<r.2.1-1
  .rw[aj q]
  .rw[af q];omega
 dsimp only;unfold eF;rw[af k7,aj jo,Ap];by_cases q:a_ o.2.2.1 r.1 0+1=0
 .rw[aj q];exact .TV jo c5 (by omega)
 .rw[af q];dsimp only;rw[show a_ o.2.2.1 r.1 0+1-1=a_ o.2.2.1 r.1 0 by omega,qs (by omega) (by omega)];exact .TU jo c5 (by omega)
theorem AN(v:Int):∀(l:List Int)(i:Nat),v∉l->a_ v l i = -1
 | [],i,_=>rfl
 | x::l,i,h=>by
  simp only[a_];rw[af (fun e=>h (by rw[e];exact e7)),AN v l (i+1) (fun m=>h (cF _ m))]
section
variable {X:Ext} (hX:f4 X) {n:Nat}
include hX
theorem MZ(D:Den ctx)(n:Nat)(K0:Int->Option ((Int×Unit)×Unit))(K1:Option ((Int×Unit)×Unit))(hK:K0 (-1)=K1)(l:List Int)(hl:l.length<=1000)(v:Int):∀(m i:Nat),i<=l.length->l.length-i<m->
  SG D n K0 K1 m l v (l.length:Int) (i:Int)=K0 (a_ v (l.drop i) i)
 | 0,_,_,h=>by omega
 | m+1,i,hi,hf=>by
  simp only[SG,qlr];by_cases h:i<l.length
  .rw[qf (by omega),ix h,aF,eB,qv h,uP h];simp only[a_];by_cases e:l[i]=v
   .rw[qf e.symm,aj e]
   .rw[qg (fun k=>e k.symm),af e,qu (by omega)];exact MZ D n K0 K1 hK l hl v m (i+1) (by omega) (by omega)
  .rw[qg (by omega),uT h];exact hK.symm
theorem My(hn:W+1<=n)(l:List Int)(hl:l.length<=1000)(v:Int):U9 (DD X n) l v=some ((a_ v l 0,()),()):=by
 obtain⟨n,rfl⟩:∃k,n=k+1:=⟨n-1,by omega⟩
 have hW:=ej;rw[adz hX];simp only[qmt,qm0,qlf];have e:=MZ hX (DD X n) n (fun bY=>qrf (DD X n) n bY) (qrg (DD X n) n) rfl l hl v n 0 (by omega) (by omega);rw[show((0:Nat):Int)=0 from rfl]at e;rw[e];rfl
theorem aaA(hn:W+2<=n)(r:qp)(hr:r.1.length<=1000)(v:Int):VS (DD X n) r v=some ((a_ v r.1 0,()),()):=by
 obtain⟨n,rfl⟩:∃k,n=k+1:=⟨n-1,by omega⟩
 rw[ajI hX];simp only[q75,Ph];rw[My hX (by omega) r.1 hr,qc]
theorem Qa(hn:W+2<=n)(l:List Int)(hl:l.length<=1000)(v:Int)(h:v∉l):U5 (DD X n) l v=some ((false,()),()):=by
 obtain⟨n,rfl⟩:∃k,n=k+1:=⟨n-1,by omega⟩
 rw[q65 hX];simp only[qkg,qq8];rw[My hX (by omega) l hl,qc,AN v l 0 h];rfl
theorem GP(N n:Nat)(hN:W+3<=N)(K0:Bool->qp->Option ((Bool×Unit)×Unit))(K1:qp->Option ((Bool×Unit)×Unit)){r:qp}(hr:aW r):∀(m i:Nat),i<=r.1.length->r.1.length-i<m->
  Tn (DD X N) n K0 K1 m r.1 (r.1.length:Int) (i:Int) r=K1 r
 | 0,_,_,h=>by omega
 | m+1,i,hi,hf=>by
  have hl:=hr.len;have hW:=ej;simp only[Tn,Y7];by_cases h:i<r.1.length
  .rw[qf (by omega),ix h,aF,eB,qv h];by_cases e:r.1[i]=0
   .rw[bH,bz e,cJ,aL,qu (by omega)];exact GP N n hN K0 K1 hr m (i+1) (by omega) (by omega)
   .have hv:=hr.dQ r.1[i] (ez h);rw[bH,b7 e,jm,aF,IJ hX (by omega),qc];dsimp only;rw[kZ.2 (by omega),cJ,aL];rw[show(decide ((0:Nat)<=0)&&decide ((0:Int)<=(i:Int))&&decide ((i:Int)<=(r.1.length:Int)))=true by
     rw[bz (by omega:(0:Int)<=(i:Int)),bz (by omega:(i:Int)<=(r.1.length:Int))];rfl]
    rw[aF,Int.toNat_zero,jU];have hnot:r.1[i]∉r.1.take i:=fun hm=>by
     obtain⟨j,hj⟩:=mQ.1 hm;rw[gj]at hj;split at hj
     .exact e (hr.once j i (by assumption) _ hj (gx h))
     .simp at hj
    rw[Qa hX (by omega) _ (by rw[eP];omega) _ hnot,qc];dsimp only;rw[aL,qu (by omega)];exact GP N n hN K0 K1 hr m (i+1) (by omega) (by omega)
  .rw[qg (by omega)]
theorem q8n(hn:W+4<=n){r:qp}(hr:aW r):Tp (DD X n) r=some ((true,()),()):=by
 obtain⟨n,rfl⟩:∃k,n=k+1:=⟨n-1,by omega⟩
 have hW:=ej;have hl:=hr.len;rw[aiU hX];simp only[ZK,Z0,qys];have e:=GP hX n n (by omega) (fun bY eG=>q88 (DD X n) n bY eG) (fun sM=>qwd (DD X n) n sM) hr n 0 (by omega) (by omega);rw[show((0:Nat):Int)=0 from rfl]at e;rw[e];simp only[qwd];rw[qf (by omega),k_ hX (by omega),qc,kZ.2 hr.st]
theorem UN(N n:Nat)(hN:4<=N)(K:Int->Option ((Int×Unit)×Unit))(l:List Int)(hr:l.length<=1000)(c:Int):∀(m i:Nat)(a:Int),i<=l.length->l.length-i<m->0<=a/\a<=i->
  S5 (DD X N) n K m c a l (l.length:Int) (i:Int)=K (a+many c (l.drop i))
 | 0,_,_,_,h,_=>by omega
 | m+1,i,a,hi,hf,ha=>by
  simp only[S5,qyg];by_cases h:i<l.length
  .rw[qf (by omega),ix h,aF,eB,qv h,IJ hX (by omega),qc,uP h];simp only[many];cases hv:bu l[i] 1 6
   .rw[aL,qu (by omega),UN N n hN K l hr c m (i+1) _ (by omega) (by omega) (by omega)];congr 1;simp only[Bool.false_and,bf];omega
   .rw[aF,IC hX (by omega),qc];dsimp only;by_cases e:qh l[i]=c
    .rw[qf e,qs (by omega) (by omega),qu (by omega),UN N n hN K l hr c m (i+1) _ (by omega) (by omega) (by omega)];congr 1;simp only[e,zE,AH,bA];omega
    .rw[qg e,qu (by omega),UN N n hN K l hr c m (i+1) _ (by omega) (by omega) (by omega)];congr 1;simp only[b7 e,zE,bf];omega
  .rw[qg (by omega),uT h];congr 1;simp[many]
theorem aiz(hn:W+1<=n)(r:qp)(hr:r.1.length<=1000)(c:Int):Yd (DD X n) r c=some ((many c r.1,()),()):=by
 obtain⟨n,rfl⟩:∃k,n=k+1:=⟨n-1,by omega⟩
 have hW:=ej;rw[ahO hX];simp only[X7,Yy,qwa];have e:=UN hX n n (by omega) (fun bY=>q6e (DD X n) n bY) r.1 hr c n 0 0 (by omega) (by omega) (by omega);rw[show((0:Nat):Int)=0 from rfl,jU,Int.zero_add]at e;rw[e];rfl
theorem alm(hn:1<=n)(r:qp):J0 (DD X n) r=some ((decide (r.2.1=5),()),()):=by
 obtain⟨n,rfl⟩:∃k,n=k+1:=⟨n-1,by omega⟩
 rw[aaw hX];rfl
theorem MT(D:Den ctx)(n:Nat)(K0:Bool->Option ((Bool×Unit)×Unit))(K1:Option ((Bool×Unit)×Unit))(l:List Int)(hl:l.length<=1000):∀(m i:Nat),i<=l.length->l.length-i<m->
  SF D n K0 K1 m l l (l.length:Int) (i:Int)=K1
 | 0,_,_,h=>by omega
 | m+1,i,hi,hf=>by
  simp only[SF,qlp];by_cases h:i<l.length
  .rw[qf (by omega),ix h,aF,aF,bH,bz rfl,cJ,aL,qu (by omega)];exact MT D n K0 K1 l hl m (i+1) (by omega) (by omega)
  .rw[qg (by omega)]
theorem Mx(hn:W+1<=n)(l:List Int)(hl:l.length<=1000):U8 (DD X n) l l=some ((true,()),()):=by
 obtain⟨n,rfl⟩:∃k,n=k+1:=⟨n-1,by omega⟩
 have hW:=ej;rw[ady hX];simp only[qms,qmz,qle];have e:=MT hX (DD X n) n (fun bY=>qrb (DD X n) n bY) (qrc (DD X n) n) l hl n 0 (by omega) (by omega);rw[show((0:Nat):Int)=0 from rfl]at e;rw[show((l.length:Int) != (l.length:Int))=false by simp,aL,e];rfl
theorem UK(hn:2<=n){r:qp}(hr:aW r):JQ (DD X n) r=some ((r,()),()):=by
 obtain⟨n,rfl⟩:∃k,n=k+2:=⟨n-2,by omega⟩
 have hl:=hr.len;have hb:=i5;rw[agf hX];simp only[qxy,Ot];rw[qvc hX];simp only[U_,qmy];rw[qg (by rw[eB];omega),qf (by omega),qc];rfl
end
def jf(r:qp)(o:cK)(code:Int):qp:=
 if code≠0 then r else if o.1=1\/o.1=2 then (r.1.set o.2.1.toNat o.2.2.1,r.2) else if o.1=3 then (r.1.set o.2.1.toNat 0,r.2) else
 if o.1=8\/o.1=9 then (r.1,wrap .i64 (r.2.1+1),()) else r
section
variable {X:Ext} (hX:f4 X) {n:Nat}
include hX
theorem QZ(hn:W+6<=n){r:qp}(hr:aW r){o:cK}(ho:dh o=true){code:Int}{list:List Int}(h:Out r o code list):VA (DD X n) r o (code,list,())=some ((true,()),()):=by
 obtain⟨n,rfl⟩:∃k,n=k+2:=⟨n-2,by omega⟩
 have hW:=ej;have hl:=hr.len;have ua:=tH ho;have hkey:=fun v=>aaA hX (n:=n) (by omega) r (by omega) v;have eS:=alm hX (n:=n) (by omega) r;have jt:=fun c=>aiz hX (n:=n) (by omega) r (by omega) c;have heq:=fun l hl=>Mx hX (n:=n+1) (by omega) l hl;obtain⟨k,K,V,⟨⟩⟩:=o;dsimp only at ua;rw[ahJ hX];simp only[Yr,OQ];rw[q8n hX (by omega) hr,qc];dsimp only;rw[cJ,aL,TL hX (by omega),ho,qc];dsimp only;rw[cJ,aL];have wU:k=1\/k=2\/k=3\/k=4->(decide (0<=K)&&decide (K<(r.1.length:Int)))=true:=fun q=>fI (by omega) (by omega);have hkk:=yL V r.1 0;have hkV:r.1.getD K.toNat 0=V->(0<=K/\K<=3)->V≠0->a_ V r.1 0=K:=fun e hK hV=>by
  have iS:r.1[K.toNat]? = some V:=by rw[<-e,gx (by omega),qv (by omega)]
  rw[EY V r.1 0 K.toNat iS (fun j hj hc=>hV (hr.once j K.toNat hj V hc iS))];omega
 cases h with
 | EL hk h1=>dsimp only at hk h1;subst hk;have hI:=wU (by omega);rw[show((1:Int) != 0)=true by decide,aF,qf (by simp),yx hX];simp only[uM,vK];rw[hkey V,qc];generalize r.1.getD K.toNat 0=x at *;simp only[eS];simp[br,bH,qd,hI,h1]
 | EM hk h2=>dsimp only at hk h2;subst hk;have hI:=wU (by omega);rw[show((2:Int) != 0)=true by decide,aF,qf (by simp),yx hX];simp only[uM,vK];rw[hkey V,qc];generalize r.1.getD K.toNat 0=x at *;simp only[eS];simp[br,bH,qd,hI,h2]
 | EK hk h1 h2=>dsimp only at hk h1 h2;subst hk;have hI:=wU (by omega);rw[show((0:Int) != 0)=false by decide,aL,yz hX];simp only[uN,vL];rw[hkey V,qc];generalize r.1.getD K.toNat 0=x at *;simp only[eS,jt];have hq:=heq ([]:List Int) (by simp);simp[br,bH,qd,hq,hI,h1,h2]
 | IY hk h1=>dsimp only at hk h1;subst hk;have hI:=wU (by omega);rw[show((3:Int) != 0)=true by decide,aF,qf (by simp),yx hX];simp only[uM,vK];rw[hkey V,qc];generalize r.1.getD K.toNat 0=x at *;simp only[eS];simp[br,bH,qd,hI,h1]
 | CC hk h1 h2=>dsimp only at hk h1 h2;subst hk;have hI:=wU (by omega);have hkv:=hkV h2 (by omega) (by omega);rw[show((0:Int) != 0)=false by decide,aL,yz hX];simp only[uN,vL];rw[hkey V,qc];generalize r.1.getD K.toNat 0=x at *;simp only[eS,jt];have hq:=heq ([]:List Int) (by simp);simp[br,bH,qd,hq,hI,h1,h2,hkv,(show ¬ V=0 from fun e=>h1 (h2.trans e))]
 | IX hk h3=>dsimp only at hk h3;subst hk;have hI:=wU (by omega);rw[show((2:Int) != 0)=true by decide,aF,qf (by simp),yx hX];simp only[uM,vK];rw[hkey V,qc];generalize r.1.getD K.toNat 0=x at *;simp only[eS];simp[br,bH,qd,hI,h3]
 | IW hk h1 h2 h3=>dsimp only at hk h1 h2 h3;subst hk;have hI:=wU (by omega);rw[show((0:Int) != 0)=false by decide,aL,yz hX];simp only[uN,vL];rw[hkey V,qc];generalize r.1.getD K.toNat 0=x at *;simp only[eS,jt];have hq:=heq ([]:List Int) (by simp);simp[br,bH,qd,hq,hI,h1,h2,h3]
 | DP hk h1=>dsimp only at hk h1;subst hk;have hI:=wU (by omega);rw[show((3:Int) != 0)=true by decide,aF,qf (by simp),yx hX];simp only[uM,vK];rw[hkey V,qc];generalize r.1.getD K.toNat 0=x at *;simp only[eS];simp[br,bH,qd,hI,h1]
 | DO hk h1=>dsimp only at hk h1;subst hk;have hI:=wU (by omega);rw[show((0:Int) != 0)=false by decide,aL,yz hX];simp only[uN,vL];rw[hkey V,qc];generalize r.1.getD K.toNat 0=x at *;simp only[eS,jt];have hq:=heq ([]:List Int) (by simp);simp[br,bH,qd,hq,hI,h1]
 | DY hk h1=>dsimp only at hk h1;subst hk;have hI:=wU (by omega);rw[show((3:Int) != 0)=true by decide,aF,qf (by simp),yx hX];simp only[uM,vK];rw[hkey V,qc];generalize r.1.getD K.toNat 0=x at *;simp only[eS];simp[br,bH,qd,hI,h1]
 | DW hk h1=>dsimp only at hk h1;subst hk;have hI:=wU (by omega);rw[show((0:Int) != 0)=false by decide,aL,yz hX];simp only[uN,vL];rw[hkey V,qc];generalize r.1.getD K.toNat 0=x at *;simp only[eS,jt];have hq:=heq [x] (by simp);simp[br,bH,qd,hq,hI,h1]
 | wD hk h1=>dsimp only at hk h1;subst hk;rw[show((3:Int) != 0)=true by decide,aF,qf (by simp),yx hX];simp only[uM,vK];rw[hkey V,qc];simp only[eS];simp[br,bH,qd,h1]
 | wC hk h1=>dsimp only at hk h1;subst hk;rw[show((0:Int) != 0)=false by decide,aL,yz hX];simp only[uN,vL];rw[hkey V,qc];simp only[eS,jt];have hq:=heq [a_ V r.1 0] (by simp);simp[br,bH,qd,hq,h1]
 | DN hk=>dsimp only at hk;subst hk;rw[show((0:Int) != 0)=false by decide,aL,yz hX];simp only[uN,vL];rw[hkey V,qc];simp only[eS,jt];have hq:=heq [many K r.1] (by simp);simp[br,bH,qd,hq]
 | DF hk=>dsimp only at hk;subst hk;rw[show((0:Int) != 0)=false by decide,aL,yz hX];simp only[uN,vL];rw[hkey V,qc];simp only[eS,jt];have hq:=heq r.1 (by omega);simp[br,bH,qd,hq]
 | xx hk h1=>dsimp only at hk h1;subst hk;rw[show((4:Int) != 0)=true by decide,aF,qf (by simp),yx hX];simp only[uM,vK];rw[hkey V,qc];simp only[eS];simp[br,bH,qd,h1]
 | C8 hk h1=>dsimp only at hk h1;subst hk;rw[show((0:Int) != 0)=false by decide,aL,yz hX];simp only[uN,vL];rw[hkey V,qc];simp only[eS,jt];have hq:=heq ([]:List Int) (by simp);simp[br,bH,qd,hq,h1]
 | xu hk h1=>dsimp only at hk h1;subst hk;rw[show((4:Int) != 0)=true by decide,aF,qf (by simp),yx hX];simp only[uM,vK];rw[hkey V,qc];simp only[eS];rcases h1 with h1 | h1<;>simp[br,bH,qd,h1]
 | C7 hk h1=>dsimp only at hk h1;subst hk;rw[show((0:Int) != 0)=false by decide,aL,yz hX];simp only[uN,vL];rw[hkey V,qc];simp only[eS,jt];have hq:=heq ([]:List Int) (by simp);simp[br,bH,qd,hq,show ¬ r.2.1=0 by omega,show ¬ r.2.1=5 by omega]
 | I2 hk h1=>dsimp only at hk h1;subst hk;rw[show((4:Int) != 0)=true by decide,aF,qf (by simp),yx hX];simp only[uM,vK];rw[hkey V,qc];simp only[eS];simp[br,bH,qd,h1]
 | TV hk h1 h2=>dsimp only at hk h1 h2;subst hk;rw[show((3:Int) != 0)=true by decide,aF,qf (by simp),yx hX];simp only[uM,vK];rw[hkey V,qc];simp only[eS];simp[br,bH,qd,h1,h2]
 | TU hk h1 h2=>dsimp only at hk h1 h2;subst hk;rw[show((0:Int) != 0)=false by decide,aL,yz hX];simp only[uN,vL];rw[hkey V,qc];simp only[eS,jt];have hq:=heq [a_ V r.1 0] (by simp);simp[br,bH,qd,hq,h1,h2]
theorem akj(hn:W+7<=n){r:qp}(hr:aW r){o:cK}(ho:dh o=true){code:Int}{list:List Int}(h:Out r o code list):VP (DD X n) r o (code,list,())=some ((jf r o code,()),()):=by
 obtain⟨n,rfl⟩:∃k,n=k+1:=⟨n-1,by omega⟩
 have hW:=ej;have hl:=hr.len;have ua:=tH ho;have nL:=QZ hX (n:=n) (by omega) hr ho h;have KC:=UK hX (n:=n) (by omega) hr;obtain⟨k,K,V,⟨⟩⟩:=o;dsimp only at ua;rw[ajD hX];simp only[q70,Pu];rw[KC,qc,nL,qc];dsimp only;rw[cJ,bf];unfold jf;by_cases hc:code=0
 .subst hc;rw[show((0:Int) != 0)=false by decide,aL,af (by omega)];dsimp only;by_cases k1:k=1
  .rw[qf k1,qf k1,fI (by omega) (by omega),aF,aj (.inl k1)]
  rw[qg k1];by_cases k2:k=2
  .rw[qf k2,fI (by omega) (by omega),aF,aj (.inr k2)]
  rw[qg k2,af (by omega)];by_cases k3:k=3
  .rw[qf k3,fI (by omega) (by omega),aF,aj k3]
  rw[qg k3,af k3];by_cases k8:k=8
  .rw[qf k8,qf k8,aj (.inl k8)]
  rw[qg k8];by_cases k9:k=9
  .rw[qf k9,aj (.inr k9)]
  rw[qg k9,af (by omega)]
 .rw[show(code != 0)=true by rw[bH,b7 hc];rfl,aF,aj hc]
end
def cls(c v:Int):Int:=bif bu v 1 6&&decide (qh v=c) then 1 else 0
theorem Sp(c:Int):∀(l k:List Int),many c (l++k)=many c l+many c k
 | [],k=>by simp[many]
 | x::l,k=>by
  rw[fH];simp only[many];rw[Sp c l k];omega
theorem ab5(c:Int)(l:List Int){i:Nat}(h:i<l.length):many c (l.take (i+1))=many c (l.take i)+cls c l[i]:=by rw[mO h,Sp];simp only[many,cls];omega
def qI(r:qp)(i p:Nat):Int:=if p<4 then r.1.getD p 0 else if 10<=p/\p<13 then many ((p:Int)-10) (r.1.take i) else v_ r i p
section
variable {X:Ext} (hX:f4 X) {n:Nat}
include hX
theorem A8(N n:Nat)(hN:W+4<=N)(K:qp->List Int->Option ((List Int×Unit)×Unit)){r:qp}(hr:aW r):∀(m i:Nat)(ws:List Int),i<=4->4-i<m->ws.length=20->(∀p<20,ws.getD p 0=qI r i p)->
  ∃zd,zd.length=20/\(∀p<20,zd.getD p 0=qI r 4 p)/\S9 (DD X N) n K m r.1 (r.1.length:Int) (i:Int) r ws=K r zd
 | 0,_,_,_,h,_,_=>by omega
 | m+1,i,ws,hi,hf,mR,hw=>by
  have hl:=hr.len;have hst:=hr.st;have hW:=ej;simp only[S9,qyu];by_cases h:i<4
  .have hi2:i<r.1.length:=by omega
   have hv:=hr.dQ r.1[i] (ez hi2);have hps:=Rj hX hr h hi2;have wV:=fun c=>ab5 c r.1 hi2;rw[qf (by omega),ix hi2,aF,eB,qv hi2];by_cases h0:r.1[i]=0
   .rw[qf h0,qu (by omega)];refine A8 N n hN K hr m (i+1) ws (by omega) (by omega) mR (fun p hp=>?_);rw[hw p hp];unfold qI;by_cases a1:p<4
    .rw[aj a1,aj a1]
    rw[af a1,af a1];by_cases a2:10<=p/\p<13
    .rw[aj a2,aj a2,wV,h0];have:cls ((p:Int)-10) 0=0:=rfl;rw[this];omega
    rw[af a2,af a2,hps p hp,af a1];rw[af (show ¬ (r.1[i]≠0/\(p:Int)=3+r.1[i]) from fun k=>k.1 h0),af (show ¬ (r.1[i]≠0/\(p:Int)=13+r.1[i]/\(i:Int)<r.2.1-1) from fun k=>k.1 h0)]
   .have ho:=uU r.1[i];have hvi:=oK r.1[i];have jL:=yF r.1[i];have hc:=uS (qh r.1[i]);have nX:q9 r.1[i]=3+r.1[i]:=by omega
    have Ev:fQ r.1[i]=13+r.1[i]:=by omega
    have g7:iQ (qh r.1[i])=10+qh r.1[i]:=by omega
    have qB:wrap .i64 (r.2.1-1)=r.2.1-1:=qs (by omega) (by omega);have hmr:=L_ (qh r.1[i]) (r.1.take i);rw[eP]at hmr;have tY:(ws.set (3+r.1[i]).toNat ((i:Int)+1)).getD (10+qh r.1[i]).toNat 0=many (qh r.1[i]) (r.1.take i):=by rw[pF _ _ _ _ (by omega),af (by omega),hw _ (by omega)];unfold qI;rw[af (by omega),aj (by omega),show(((10+qh r.1[i]).toNat:Nat):Int)-10=qh r.1[i] by omega]
    have Kz:∀c,cls c r.1[i]=if qh r.1[i]=c then 1 else 0:=fun c=>by
     unfold cls;rw[kZ.2 (by omega),zE];by_cases e:qh r.1[i]=c
     .rw[bz e,aj e];rfl
     .rw[b7 e,af e];rfl
    rw[qg h0,Dm hX (by omega),qc];dsimp only;rw[nX,fI (by omega) (by omega),aF,IC hX (by omega),qc];dsimp only;rw[Dl hX (by omega),qc];dsimp only;have hw1:wrap .i64 ((i:Int)+1)=(i:Int)+1:=qs (by omega) (by omega);rw[g7,hw1,fI (by omega) (by rw[b8,mR];omega),aF,aF,tY,qs (x:=many (qh r.1[i]) (r.1.take i)+1) (by omega) (by omega),qB];have kM:∀p<20,p<4\/¬ (p<4):=fun p _=>by omega
    by_cases hs:(i:Int)<r.2.1-1
    .rw[qf hs,Cj hX (by omega),qc];dsimp only;rw[Ev,fI (by omega) (by rw[b8,b8,mR];omega),aF];refine A8 N n hN K hr m (i+1) _ (by omega) (by omega) (by rw[b8,b8,b8];exact mR) (fun p hp=>?_);rw[pF _ _ _ _ (by rw[b8,b8,mR];omega),pF _ _ _ _ (by rw[b8,mR];omega),pF _ _ _ _ (by omega),hw p hp];unfold qI;by_cases a1:p<4
     .rw[af (by omega),af (by omega),af (by omega),aj a1,aj a1]
     rw[af a1,af a1];by_cases a2:10<=p/\p<13
     .rw[af (show ¬ p=(13+r.1[i]).toNat by omega),af (show ¬ p=(3+r.1[i]).toNat by omega),aj a2,aj a2,wV,Kz];by_cases e:p=(10+qh r.1[i]).toNat
      .rw[aj e,aj (by omega),show(p:Int)-10=qh r.1[i] by omega]
      .rw[af e,af (by omega)];omega
     rw[af a2,af a2,hps p hp,af a1];by_cases e3:p=(13+r.1[i]).toNat
     .rw[aj e3,af (by omega),aj ⟨h0,by omega,hs⟩]
     rw[af e3,af (show ¬ p=(10+qh r.1[i]).toNat by omega)];by_cases e2:p=(3+r.1[i]).toNat
     .rw[aj e2,aj ⟨h0,by omega⟩]
     rw[af e2,af (show ¬ (r.1[i]≠0/\(p:Int)=3+r.1[i]) by omega),af (show ¬ (r.1[i]≠0/\(p:Int)=13+r.1[i]/\(i:Int)<r.2.1-1) by omega)]
    .rw[qg hs];refine A8 N n hN K hr m (i+1) _ (by omega) (by omega) (by rw[b8,b8];exact mR) (fun p hp=>?_);rw[pF _ _ _ _ (by rw[b8,mR];omega),pF _ _ _ _ (by omega),hw p hp];unfold qI;by_cases a1:p<4
     .rw[af (by omega),af (by omega),aj a1,aj a1]
     rw[af a1,af a1];by_cases a2:10<=p/\p<13
     .rw[af (show ¬ p=(3+r.1[i]).toNat by omega),aj a2,aj a2,wV,Kz];by_cases e:p=(10+qh r.1[i]).toNat
      .rw[aj e,aj (by omega),show(p:Int)-10=qh r.1[i] by omega]
      .rw[af e,af (by omega)];omega
     rw[af a2,af a2,hps p hp,af a1];rw[af (show ¬ p=(10+qh r.1[i]).toNat by omega),af (show ¬ (r.1[i]≠0/\(p:Int)=13+r.1[i]/\(i:Int)<r.2.1-1) from fun k=>hs k.2.2)];by_cases e2:p=(3+r.1[i]).toNat
     .rw[aj e2,aj ⟨h0,by omega⟩]
     rw[af e2,af (show ¬ (r.1[i]≠0/\(p:Int)=3+r.1[i]) by omega)]
  .rw[qg (by omega)];have:i=4:=by omega
   subst this;exact⟨ws,mR,hw,rfl⟩
theorem acL(hn:W+6<=n){r:qp}(hr:aW r):∃ws:List Int,ws.length=20/\(∀p<20,ws.getD p 0=jV r p)/\Tj (DD X n) r=some ((ws,()),()):=by
 obtain⟨n,rfl⟩:∃k,n=k+1:=⟨n-1,by omega⟩
 have hW:=ej;have hst:=hr.st;have hl:=hr.len;rw[ahV hX];simp only[Yc,Y8];rw[q8n hX (by omega) hr,qc];dsimp only;rw[cJ,aL];simp only[qwe];have KC:(decide (0<r.1.length)&&decide (0<(List.replicate (Int.toNat 20) (0:Int)).length))=true:=by rw[bz (by omega),oe];rfl
 obtain⟨w1,l1,h1,e1⟩:=A8 hX n n (by omega) (fun bY eG=>qup (DD X n) n bY eG) hr n 0 (vY (Ty.int IntKind.i64) (List.replicate (Int.toNat 20) 0) r.1) (by omega) (by omega)
  (by rw[Ql];rfl) (fun p hp=>by
  have e0:(List.replicate (Int.toNat 20) (0:Int)).getD p 0=0:=by simp only[List.getD,vB];split<;>rfl
  have e1:=Qk (t:=Ty.int IntKind.i64) (xs:=List.replicate (Int.toNat 20) 0) (ys:=r.1) p (by rw[oe];exact hp);rw[oe,hl]at e1;refine dj e1 ?_;unfold qI;by_cases a1:p<4
  .rw[aj (by omega),aj a1];rfl
  .rw[af (by omega),af a1];refine dj e0 ?_;by_cases a2:10<=p/\p<13
   .rw[aj a2,List.take_zero];rfl
   rw[af a2];unfold v_ qF lB;rw[af a1];split
   .rw[af (by omega)]
   .split
    .rfl
    .rw[af (by omega)])
 rw[show((0:Nat):Int)=0 from rfl]at e1;refine⟨w1.set 13 r.2.1,by rw[b8];exact l1,fun p hp=>?_,(er (fun c=>br c _ _) KC).trans (e1.trans ?_)⟩
 .rw[pF _ _ _ _ (by omega),h1 p hp];unfold jV qI v_;by_cases e:p=13
  .rw[aj e,af (by omega),af (by omega),af (by omega),aj e]
  rw[af e];by_cases a1:p<4
  .rw[aj a1,aj a1]
  by_cases a2:p<10
  .rw[af a1,af (by omega),af a1,aj a2,af a1,aj a2];rfl
  by_cases a3:p<13
  .rw[af a1,aj (by omega),af a1,af a2,aj a3,jR (by omega)]
  .rw[af a1,af (by omega),af a1,af a2,af (by omega),af a1,af a2,af a3,af e];rfl
 simp only[qup];rw[yB hX (by omega),qc];dsimp only;rw[fI (by omega) (by rw[l1];omega),aF];rfl
end
theorem HD(c:Int):∀(l:List Int)(k:Nat)(V:Int),k<l.length->many c (l.set k V)=many c l+cls c V-cls c (l.getD k 0)
 | [],k,V,h=>by simp at h
 | x::l,0,V,_=>by
  simp only[B6,many,uC,cls];omega
 | x::l,k+1,V,h=>by
  simp only[FD,many,FA];rw[HD c l k V (by simpa using h)];omega
theorem Qd{r:qp}(hr:aW r){v:Int}(hv:v≠0){k:Nat}(h:r.1[k]? = some v):a_ v r.1 0=k:=by rw[EY v r.1 0 k h (fun j hj hc=>hv (hr.once j k hj v hc h))];congr 1;omega
theorem Sj{r:qp}(hr:aW r){K:Nat}(hK:K<4){V:Int}(hV:V=0\/a_ V r.1 0<0){v:Int}(hv:1<=v) :
  a_ v (r.1.set K V) 0=if v=V then (K:Int) else if v=r.1.getD K 0 then -1 else a_ v r.1 0:=by
 have hl:=hr.len;have iS:∀j,j≠K->(r.1.set K V)[j]? = r.1[j]?:=fun j hj=>by rw[jT,af (fun e=>hj e.symm)]
 have Ej:(r.1.set K V)[K]? = some V:=by rw[jT,aj rfl,aj (by omega)]
 have Ur:r.1[K]? = some (r.1.getD K 0):=by rw[gx (by omega),qv (by omega)]
 by_cases e:v=V
 .rw[aj e];subst e;have hno:v∉r.1:=L9 v r.1 0 (by omega);rw[EY v _ 0 K Ej (fun j hj hc=>by
   rw[iS j (by omega)]at hc;exact hno (mQ.2 ⟨j,hc⟩))]
  congr 1;omega
 rw[af e];by_cases e2:v=r.1.getD K 0
 .rw[aj e2];refine AN v _ 0 (fun hm=>?_);obtain⟨j,hj⟩:=mQ.1 hm;by_cases q:j=K
  .subst q;rw[Ej]at hj;exact e (gS hj).symm
  .rw[iS j q]at hj;rw[<-e2]at Ur;by_cases lt:j<K
   .have:=hr.once j K lt v hj Ur;omega
   .have:=hr.once K j (by omega) v Ur hj;omega
 rw[af e2];by_cases h0:a_ v r.1 0<0
 .have hno:v∉r.1:=L9 _ _ _ h0;have:=yL v r.1 0;rw[AN v _ 0 (fun hm=>by
   obtain⟨j,hj⟩:=mQ.1 hm;by_cases q:j=K
   .subst q;rw[Ej]at hj;exact e (gS hj).symm
   .rw[iS j q]at hj;exact hno (mQ.2 ⟨j,hj⟩))]
  omega
 .obtain⟨k,hk⟩:∃k:Nat,a_ v r.1 0=k:=⟨(a_ v r.1 0).toNat,by omega⟩
  obtain⟨_,h2⟩:=L8 v r.1 0 k hk;rw[BQ]at h2;have hkK:k≠K:=fun q=>by subst q;rw[Ur]at h2;exact e2 (gS h2).symm
  rw[hk,EY v _ 0 k (by rw[iS k hkK];exact h2) (fun j hj hc=>by
   by_cases q:j=K
   .subst q;rw[Ej]at hc;exact e (gS hc).symm
   .rw[iS j q]at hc;have:=hr.once j k hj v hc h2;omega)]
  congr 1;omega
theorem acp{r:qp}(hr:aW r){K:Nat}(hK:K<4){V:Int}(hV:V=0\/a_ V r.1 0<0)(hV6:0<=V/\V<=6):aW (r.1.set K V,r.2):=by
 have hl:=hr.len;have iS:∀j,j≠K->(r.1.set K V)[j]? = r.1[j]?:=fun j hj=>by rw[jT,af (fun e=>hj e.symm)]
 have Ej:(r.1.set K V)[K]? = some V:=by rw[jT,aj rfl,aj (by omega)]
 have hno:V≠0->V∉r.1:=fun h=>L9 V r.1 0 (by omega);refine⟨by show(r.1.set K V).length=4;rw[b8];exact hl,fun x hx=>?_,fun i j hij v g1 g2=>?_,hr.st⟩
 .rcases FR hx with q | rfl
  .exact hr.dQ x q
  .exact hV6
 .show v=0;have h1:(r.1.set K V)[i]? = some v:=g1;have h2:(r.1.set K V)[j]? = some v:=g2;clear g1 g2;by_cases q:i=K
  .subst q;rw[Ej]at h1;rw[iS j (by omega)]at h2;have:=gS h1;subst this;by_cases z:V=0
   .exact z
   .exact absurd (mQ.2 ⟨j,h2⟩) (hno z)
  .rw[iS i q]at h1;by_cases q2:j=K
   .subst q2;rw[Ej]at h2;have:=gS h2;subst this;by_cases z:V=0
    .exact z
    .exact absurd (show V∈r.1 from mQ.2 ⟨i,h1⟩) (hno z)
   .rw[iS j q2]at h2;exact hr.once i j hij v h1 h2
theorem Ms{r:qp}(hr:aW r){K:Nat}(hK:K<4){V:Int}(hV:V=0\/a_ V r.1 0<0){p:Nat}(hp:p<20) :
  jV (r.1.set K V,r.2) p=if p<4 then (if p=K then V else jV r p)
   else if p<10 then (if (p:Int)-3=V then (K:Int)+1 else if (p:Int)-3=r.1.getD K 0 then 0 else jV r p)
   else if p<13 then jV r p+cls ((p:Int)-10) V-cls ((p:Int)-10) (r.1.getD K 0)
   else if p=13 then jV r p
   else (if (p:Int)-13=V then (if (K:Int)<r.2.1-1 then (K:Int)+1 else 0) else if (p:Int)-13=r.1.getD K 0 then 0 else jV r p):=by
 have hl:=hr.len;unfold jV;by_cases a1:p<4
 .simp only[aj a1];rw[pF _ _ _ _ (by omega)]
 simp only[af a1];by_cases a2:p<10
 .simp only[aj a2];unfold qF;rw[Sj hr hK hV (by omega)];by_cases e:(p:Int)-3=V
  .simp only[aj e];rw[aj (by omega)]
  simp only[af e];by_cases e2:(p:Int)-3=r.1.getD K 0
  .simp only[aj e2];rw[af (by omega)]
  simp only[af e2]
 simp only[af a2];by_cases a3:p<13
 .simp only[aj a3];exact HD _ _ _ _ (by omega)
 simp only[af a3];by_cases a4:p=13
 .simp only[aj a4]
 simp only[af a4];unfold lB;rw[Sj hr hK hV (by omega)];by_cases e:(p:Int)-13=V
 .simp only[aj e];by_cases q:(K:Int)<r.2.1-1
  .rw[aj ⟨by omega,by omega,q⟩,aj q]
  .rw[af (fun z=>q z.2.2),af q]
 simp only[af e];by_cases e2:(p:Int)-13=r.1.getD K 0
 .simp only[aj e2];rw[af (by omega)]
 simp only[af e2]
theorem Fg{v:Int}(hv:1<=v/\v<=6)(c:Int):cls c v=if qh v=c then 1 else 0:=by
 unfold cls;rw[kZ.2 hv,zE];by_cases e:qh v=c
 .rw[bz e,aj e];rfl
 .rw[b7 e,af e];rfl
structure DL (r:qp) (K V:Int) (l:List Int):Prop where
 k:K∈l
 s:13∈l
 o:∀v,v=r.1.getD K.toNat 0\/v=V->1<=v->3+v∈l
 c:qh (r.1.getD K.toNat 0)≠qh V->∀v,v=r.1.getD K.toNat 0\/v=V->1<=v->10+qh v∈l
 v:K+1<r.2.1->∀v,v=r.1.getD K.toNat 0\/v=V->1<=v->13+v∈l
 x:∀p∈l,14<=p->K+1<r.2.1
structure Kc (r:qp) (K V:Int):Prop where
 k:0<=K/\K<=3
 v:0<=V/\V<=6
 h:0<=r.1.getD K.toNat 0/\r.1.getD K.toNat 0<=6
 z:V=0\/a_ V r.1 0<0
 n:r.1.getD K.toNat 0≠V
theorem acN{r:qp}(hr:aW r){K V:Int}{l:List Int}(hc:Kc r K V)(hm:DL r K V l){p:Nat}(hp:p<20)(hn:(p:Int)∉l) :
  jV (r.1.set K.toNat V,r.2) p=jV r p:=by
 have hK:=hc.k;have hV:=hc.v;have hh:=hc.h;have hz:=hc.z;have hne:=hc.n;have hl:=hr.len;have WQ:K.toNat<4:=by omega
 have hcV:=yF V;have hcH:=yF (r.1.getD K.toNat 0);rw[Ms hr WQ hc.z hp];have hno:∀q,q∈l->(p:Int)≠q:=fun q hq e=>hn (e ▸ hq);by_cases a1:p<4
 .rw[aj a1,af (by have:=hno K hm.k;omega)]
 rw[af a1];by_cases a2:p<10
 .rw[aj a2,af (fun e=>by have:=hno _ (hm.o V (.inr rfl) (by omega));omega),af (fun e=>by have:=hno _ (hm.o _ (.inl rfl) (by omega));omega)]
 rw[af a2];by_cases a3:p<13
 .rw[aj a3];by_cases e:qh (r.1.getD K.toNat 0)=qh V
  .have h1:1<=V:=by omega
   have h2:1<=r.1.getD K.toNat 0:=by omega
   rw[Fg (by omega),Fg (by omega),e];omega
  .have q:=hm.c e;have f1:cls ((p:Int)-10) V=0:=by
    by_cases z:1<=V
    .rw[Fg (by omega),af (fun e=>by have:=hno _ (q V (.inr rfl) z);omega)]
    .rw[show V=0 by omega];rfl
   have f2:cls ((p:Int)-10) (r.1.getD K.toNat 0)=0:=by
    by_cases z:1<=r.1.getD K.toNat 0
    .rw[Fg (by omega),af (fun e=>by have:=hno _ (q _ (.inl rfl) z);omega)]
    .rw[show r.1.getD K.toNat 0=0 by omega];rfl
   rw[f1,f2];omega
 rw[af a3];by_cases a4:p=13
 .rw[aj a4]
 rw[af a4];have hw:jV r p=lB ((p:Int)-13) r.1 4 r.2.1:=by unfold jV;rw[af a1,af a2,af a3,af a4]
 by_cases e:(p:Int)-13=V
 .have hk:¬ K+1<r.2.1:=fun q=>by have:=hno _ (hm.v q V (.inr rfl) (by omega));omega
  rw[aj e,af (by omega),hw,e];unfold lB;rw[af (by omega)]
 rw[af e];by_cases e2:(p:Int)-13=r.1.getD K.toNat 0
 .have hk:¬ K+1<r.2.1:=fun q=>by have:=hno _ (hm.v q _ (.inl rfl) (by omega));omega
  have hkey:a_ (r.1.getD K.toNat 0) r.1 0=K.toNat:=Qd hr (by omega) (by rw[gx (by omega),qv (by omega)]);rw[aj e2,hw,e2];unfold lB;rw[hkey,af (by omega)]
 rw[af e2]
theorem aku{k:Int}(h:0<=qw k):qw k=k:=by have:=u_ k;omega
theorem Ri{v:Int}(h:0<=q9 v):(1<=v/\v<=6)/\q9 v=3+v:=by have:=uU v;omega
theorem Ni{v:Int}(h:0<=fQ v):(1<=v/\v<=6)/\fQ v=13+v:=by have:=oK v;omega
theorem QE{v:Int}(h:0<=iQ (qh v)):(1<=v/\v<=6)/\(0<=qh v/\qh v<=2)/\iQ (qh v)=10+qh v:=by have:=uS (qh v);have:=yF v;omega
theorem MP{c V:Int}(hV:0<=V/\V<=6)(h:qh V≠c):cls c V=0:=by
 by_cases z:1<=V
 .rw[Fg (by omega),af h]
 .rw[show V=0 by omega];rfl
theorem Qu(r:qp){c:Int}(hc:0<=c/\c<=2):jV r (10+c).toNat=many c r.1:=by unfold jV;rw[af (by omega),af (by omega),aj (by omega),show(((10+c).toNat:Nat):Int)-10=c by omega]
theorem akr{r:qp}(hr:aW r){K V:Int}{l:List Int}(hc:Kc r K V)(hm:DL r K V l){q:Want}(hq:q∈e9 K V (r.1.getD K.toNat 0) r.2.1)(hl:q.1∈l)(h0:0<=q.1) :
  q.1<20/\q.2 (b_ r q.1)=b_ (r.1.set K.toNat V,r.2) q.1:=by
 have hb:=i5;have hK:=hc.k;have hV:=hc.v;have hh:=hc.h;have hne:=hc.n;have hlen:=hr.len;have hst:=hr.st;have WQ:K.toNat<4:=by omega
 have hlt:=MO K V (r.1.getD K.toNat 0) r.2.1 q hq;have qB:=Ms hr WQ hc.z (p:=q.1.toNat) (by omega);refine⟨by omega,?_⟩;have hx:=fun h=>hm.x _ hl h;have hlK:K.toNat<r.1.length:=by omega
 have hms:=fun c=>HD c r.1 K.toNat V hlK;have WY:=fun c=>L_ c (r.1.set K.toNat V);unfold b_;rw[qB];clear qB hlt hl hm;unfold e9 at hq;generalize sY:r.1.getD K.toNat 0=H at *;rcases bN.1 hq with hq | hq
 .simp only[bh,dc,di]at hq;rcases hq with rfl | rfl | rfl | rfl | rfl | rfl<;>dsimp only at *
  .rw[aku h0,aj (by omega),aj rfl]
  .rw[af (by decide),af (by decide),af (by decide),aj (by decide)];rfl
  .obtain⟨e1,e⟩:=Ri h0;rw[e,af (by omega),aj (by omega),af (by omega),aj (by omega)]
  .obtain⟨e1,e⟩:=Ni h0;rw[e,af (by omega),af (by omega),af (by omega),af (by omega),af (by omega),aj (by omega)]
  .obtain⟨e1,e⟩:=Ri h0;rw[e,af (by omega),aj (by omega),aj (by omega),qs (by omega) (by omega)];omega
  .obtain⟨e1,e⟩:=Ni h0;have hx:=hx (by omega);rw[e,af (by omega),af (by omega),af (by omega),af (by omega),aj (by omega),aj (by omega),qs (by omega) (by omega)];omega
 .cases mc:qh H != qh V
  .rw[mc]at hq;simp at hq
  rw[mc,bA]at hq;have KA:qh H≠qh V:=by simpa using mc
  simp only[bh,dc,di]at hq;rcases hq with rfl | rfl<;>dsimp only at *
  .obtain⟨hH,ec,e⟩:=QE h0;have a1:=L_ (qh H) r.1;have a2:=hms (qh H);have a3:=WY (qh H);have f1:cls (qh H) H=1:=by rw[Fg hH,aj rfl]
   have f2:cls (qh H) V=0:=MP hV (fun q=>KA q.symm);rw[f1,f2]at a2;rw[e,af (by omega),af (by omega),aj (by omega),Qu r ec,show(((10+qh H).toNat:Nat):Int)-10=qh H by omega,f1,f2];unfold less;rw[qs (by omega) (by omega)];split<;>omega
  .obtain⟨hH,ec,e⟩:=QE h0;have a1:=L_ (qh V) r.1;have f1:cls (qh V) V=1:=by rw[Fg hH,aj rfl]
   have f2:cls (qh V) H=0:=MP hh KA;rw[e,af (by omega),af (by omega),aj (by omega),Qu r ec,show(((10+qh V).toNat:Nat):Int)-10=qh V by omega,f1,f2];unfold one;rw[qs (by omega) (by omega)];omega
theorem alu{r:qp}(hr:aW r){o:cK}(ho:dh o=true)(eJ:o.1=1\/o.1=2\/o.1=3)(hne:1<=r.1.getD o.2.1.toNat 0/\r.1.getD o.2.1.toNat 0<=6->r.1.getD o.2.1.toNat 0≠o.2.2.1){c:Int}{L:List Int}(hc:c=0)(h:Out r o c L) :
  Kc r o.2.1 o.2.2.1/\(o.1=1->r.1.getD o.2.1.toNat 0=0)/\(o.1≠1->r.1.getD o.2.1.toNat 0≠0):=by
 have hk:=tH ho;have hl:=hr.len;have hK:0<=o.2.1/\o.2.1<=3:=by omega
 have hh:0<=r.1.getD o.2.1.toNat 0/\r.1.getD o.2.1.toNat 0<=6:=by rw[qv (by omega)];exact hr.dQ _ (ez _)
 have mk:(o.2.2.1=0\/a_ o.2.2.1 r.1 0<0)->r.1.getD o.2.1.toNat 0≠o.2.2.1->Kc r o.2.1 o.2.2.1:=fun a b=>⟨hK,by omega,hh,a,b⟩
 cases h with
 | EK k h1 h2=>exact⟨mk (.inr h2) (by omega),fun _=>h1,fun q=>absurd k q⟩
 | IW k h1 h2 h3=>exact⟨mk (.inr h3) h2,fun q=>by omega,fun _=>h1⟩
 | DO k h1=>exact⟨mk (.inl (by omega)) (by omega),fun q=>by omega,fun _=>h1⟩
 | CC k h1 h2=>exact absurd h2 (hne (by omega))
 | _=>omega
theorem akU{r:qp}(hr:aW r){o:cK}(ho:dh o=true)(eJ:o.1=1\/o.1=2\/o.1=3)(hc:Kc r o.2.1 o.2.2.1)(h1:o.1=1->r.1.getD o.2.1.toNat 0=0)(h2:o.1≠1->r.1.getD o.2.1.toNat 0≠0) :
  DL r o.2.1 o.2.2.1 (path (b_ r) (prog o)):=by
 have hk:=tH ho;have hb:=i5;have hh:=hc.h;have hz:=hc.z;have hne:=hc.n;have hst:=hr.st;have hK:0<=o.2.1/\o.2.1<=3:=hc.k;have hrow:qw o.2.1=o.2.1:=by have:=u_ o.2.1;omega
 have Uw:=(u5 hr hK).1;have hwo:1<=o.2.2.1->b_ r (q9 o.2.2.1)=0:=fun z=>by
  rw[IK hr (by have:=hc.v;omega)];have:=yL o.2.2.1 r.1 0;omega
 have qB:=Du r;have EA:wrap .i64 (o.2.1+1)=o.2.1+1:=qs (by omega) (by omega);have hown:∀v,1<=v/\v<=6->q9 v=3+v:=fun v hv=>by have:=uU v;omega
 have ng:∀v,1<=v/\v<=6->fQ v=13+v:=fun v hv=>by have:=oK v;omega
 have tY:∀v,1<=v/\v<=6->iQ (qh v)=10+qh v:=fun v hv=>by have:=uS (qh v);have:=yF v;omega
 have Ab:∀v,1<=v/\v<=6->0<=qh v/\qh v<=2:=fun v hv=>by have:=yF v;omega
 have hV:=hc.v;generalize sY:r.1.getD o.2.1.toNat 0=H at *;unfold prog;rcases eJ with k | k | k
 .rw[aj k];have hH:=h1 k;have tW:1<=o.2.2.1/\o.2.2.1<=6:=by omega
  have e:path (b_ r) (sE o)=o.2.1::(3+o.2.2.1)::(10+qh o.2.2.1)::13::(if r.2.1<=o.2.1+1 then [] else [13+o.2.2.1]):=by unfold sE;simp only[path];rw[hrow,Uw,hH];simp only[bH,AH,cJ,bf,path];rw[hwo tW.1];simp only[AH,cJ,bf,path,Cq,cv,fZ];rw[qB,EA,hown _ tW,ng _ tW,tY _ tW]
  rw[e];have g7:=Ab _ tW;refine⟨by simp,by simp,fun v hv z=>?_,fun _ v hv z=>?_,fun q v hv z=>?_,fun p hp Km=>?_⟩
  .have:v=o.2.2.1:=by omega
   subst this;simp
  .have:v=o.2.2.1:=by omega
   subst this;simp
  .have:v=o.2.2.1:=by omega
   subst this;rw[af (by omega)];simp
  .by_cases q:r.2.1<=o.2.1+1
   .rw[aj q]at hp;simp only[bh,dc,di]at hp;omega
   .omega
 .have hH:=h2 (by omega);rw[af (by omega),aj k];have tW:1<=o.2.2.1/\o.2.2.1<=6:=by omega
  have tV:1<=H/\H<=6:=by omega
  have e:path (b_ r) (sF o)=o.2.1::(3+o.2.2.1)::(3+H)::((bif qh H != qh o.2.2.1 then [10+qh H,10+qh o.2.2.1] else [])++13::(if r.2.1<=o.2.1+1 then [] else [13+H,13+o.2.2.1])):=by
   unfold sF;simp only[path];rw[hrow,Uw,b7 hH,b7 hne];simp only[bf,path];rw[hwo tW.1];simp only[bH,AH,cJ,bf,path];cases decide (qh H=qh o.2.2.1)
   .simp only[jm,bA,path,Cq,cv,fZ,fH,gy];rw[qB,EA,hown _ tW,ng _ tW,tY _ tW,hown _ tV,ng _ tV,tY _ tV]
   .simp only[cJ,bf,path,Cq,cv,fZ,fH,gy];rw[qB,EA,hown _ tW,ng _ tW,hown _ tV,ng _ tV]
  rw[e];have g7:=Ab _ tW;have rJ:=Ab _ tV;refine⟨by simp,by simp,fun v hv z=>?_,fun q v hv z=>?_,fun q v hv z=>?_,fun p hp Km=>?_⟩
  .rw[sY]at hv;rcases hv with rfl | rfl<;>simp
  .rw[sY]at hv q;rw[bH,b7 q];rcases hv with rfl | rfl<;>simp
  .rw[sY]at hv;rw[af (by omega)];rcases hv with rfl | rfl<;>simp
  .by_cases q:r.2.1<=o.2.1+1
   .rw[aj q]at hp;cases hq:qh H != qh o.2.2.1
    .rw[hq]at hp;simp only[bf,gy,bh,dc,di]at hp;omega
    .rw[hq]at hp;simp only[bA,fH,gy,bh,dc,di]at hp;omega
   .omega
 .have hH:=h2 (by omega);rw[af (by omega),af (by omega),aj k];have tV:1<=H/\H<=6:=by omega
  have e:path (b_ r) (uY o)=o.2.1::(3+H)::(10+qh H)::13::(if r.2.1<=o.2.1+1 then [] else [13+H]):=by unfold uY;simp only[path];rw[hrow,Uw,b7 hH];simp only[bf,path,Cq,cv,fZ];rw[qB,EA,hown _ tV,ng _ tV,tY _ tV]
  rw[e];have rJ:=Ab _ tV;refine⟨by simp,by simp,fun v hv z=>?_,fun q v hv z=>?_,fun q v hv z=>?_,fun p hp Km=>?_⟩
  .have:v=H:=by omega
   subst this;simp
  .have:v=H:=by omega
   subst this;simp
  .have:v=H:=by omega
   subst this;rw[af (by omega)];simp
  .by_cases q:r.2.1<=o.2.1+1
   .rw[aj q]at hp;simp only[bh,dc,di]at hp;omega
   .omega
theorem Bb{r:qp}(hr:aW r){p:Nat}(hp:p<20)(zm:p≠13)(hk:14<=p->a_ ((p:Int)-13) r.1 0≠r.2.1-1\/r.2.1=0):jV (r.1,r.2.1+1,()) p=jV r p:=by
 have hst:=hr.st;unfold jV;by_cases a1:p<4
 .rw[aj a1,aj a1]
 rw[af a1,af a1];by_cases a2:p<10
 .rw[aj a2,aj a2]
 rw[af a2,af a2];by_cases a3:p<13
 .rw[aj a3,aj a3]
 rw[af a3,af a3,af zm,af zm];have hk:=hk (by omega);unfold lB;dsimp only;by_cases e:0<=a_ ((p:Int)-13) r.1 0/\a_ ((p:Int)-13) r.1 0<4/\a_ ((p:Int)-13) r.1 0<r.2.1-1
 .rw[aj e,aj (by omega)]
 .rw[af e,af (by omega)]
theorem TI{r:qp}{o:cK}(c:Int)(h:¬ (o.1=1\/o.1=2)/\¬ o.1=3/\¬ (o.1=8\/o.1=9)):jf r o c=r:=by unfold jf;rw[af h.1,af h.2.1,af h.2.2];split<;>rfl
structure sR (w w':Int->Int) (E:List eu):Prop where
 z4:lJ E
 old:∀e∈E,0<=e.1/\e.1<20/\e.2.1=w e.1/\e.2.2.1=w' e.1
 rest:∀p:Nat,p<20->(∀e∈E,e.1≠(p:Int))->w p=w' p
theorem abi{r:qp}(hr:aW r){o:cK}(ho:dh o=true)(dz:mJ o (fy r o)=none) :
  sR (b_ r) (b_ (jf r o (eF o (fy r o)).1)) (dI o (fy r o))/\aW (jf r o (eF o (fy r o)).1):=by
 have hb:=i5;have hw:=fun k hk=>(u5 hr (k:=k) hk).2;have hpk:=JB ho (b_ r) hw;have hrun:=GZ hr ho;have hkn:=Gh r o;have ua:=tH ho;have hst:=hr.st;have hl:=hr.len;have gm:dh o=true/\(run (fy r o) (prog o)).2<0:=⟨ho,by rw[hrun];show(-1:Int)<0;omega⟩
 have hrd:∀p,p∈path (b_ r) (prog o)->(eW (fy r o) p).1=b_ r p:=fun p hp=>by rw[hkn p,aj hp]
 have Af:∀p,0<=p->(hit (fy r o) p=true↔p∈path (b_ r) (prog o)):=fun p hp=>by rw[AO hkn hp,gQ]
 have hout:=Na hr ho;have ue:gh o (fy r o)=((false,eF o (fy r o),dI o (fy r o),()),true,()):=by unfold gh;rw[aj gm,dz]
 rw[ue]at hout;dsimp only at hout;obtain⟨hA,hB⟩:=MQ ho hw hkn hrun dz;by_cases eJ:o.1=1\/o.1=2\/o.1=3
 .obtain⟨hv,hsub⟩:=R_ ho hw hkn dz eJ;have hne:=xK ho dz eJ;have EA:=(u5 hr (k:=o.2.1) (by omega)).1;rw[hv,EA]at hne;have hres:eF o (fy r o)=(0,[],()):=by unfold eF;rw[af (by omega),af (by omega)]
  rw[hres]at hout⊢;obtain⟨hc,h1,h2⟩:=alu hr ho eJ hne rfl hout;have hm:=akU hr ho eJ hc h1 h2;have z_:jf r o 0=(r.1.set o.2.1.toNat o.2.2.1,r.2):=by
   unfold jf;rw[af (by omega)];by_cases Jh:o.1=1\/o.1=2
   .rw[aj Jh]
   .rw[af Jh,aj (by omega),show o.2.2.1=0 by omega]
  show sR _ (b_ (jf r o 0)) _/\aW (jf r o 0);rw[z_];have zm:val (fy r o) 13=r.2.1:=hrd 13 hm.s;have hE:dI o (fy r o)=(iq (fy r o) (e9 o.2.1 o.2.2.1 (r.1.getD o.2.1.toNat 0) r.2.1)).foldl g8 []:=by unfold dI;rw[aj eJ,hv,EA,zm]
  obtain⟨_,r2,r3,r4⟩:=L1 (got:=fy r o) (K:=o.2.1) (V:=o.2.2.1) (held:=r.1.getD o.2.1.toNat 0) (st:=r.2.1) hne;refine⟨⟨by rw[hE];exact r2,fun e he=>?_,fun p hp hno=>?_⟩,acp hr (by have:=hc.k;omega) hc.z hc.v⟩
  .rw[hE]at he;obtain⟨q,hq,hh,rfl⟩:=(Jo _ _ _).1 ((r3 e).1 he);have K_:=Bi hh;have hqm:=(Af q.1 K_).1 hh;have hn:=akr hr hc hm hq hqm K_;have:=hrd q.1 hqm;refine⟨K_,hn.1,this,?_⟩;show q.2 (eW (fy r o) q.1).1=_;rw[this];exact hn.2
  .have hnp:(p:Int)∉path (b_ r) (prog o):=fun hm=>by
    obtain⟨e,he,e1,_⟩:=hA _ hm;exact hno e he e1
   exact(acN hr hc hm hp hnp).symm
 .obtain⟨_,pl⟩:=G9 ho dz gm.2 eJ;have Ja:(run (fy r o) (prog o)).1=path (b_ r) (prog o):=by rw[hrun]
  rw[Ja]at pl;have hmem:∀L:List Int,(path (b_ r) (prog o)).foldl (jZ fF) []=L->∀p∈L,p∈path (b_ r) (prog o):=by
   intro L hL p hp;rw[<-hL,GW]at hp;rcases hp with h | h
   .simp at h
   .exact h
  have hsame:∀p,p∈path (b_ r) (prog o)->val (fy r o) p=b_ r p:=hrd;rcases pl with⟨k,hp⟩ | ⟨k,hz,hp⟩ | ⟨k,hz,hp⟩ | ⟨k,hp⟩
  .have m:=hmem _ hp;have z_:∀c,jf r o c=r:=fun c=>TI c (by omega);rw[z_];refine⟨?_,hr⟩;have hE:dI o (fy r o)=[same (fy r o) 0,same (fy r o) 1,same (fy r o) 2,same (fy r o) 3]:=by unfold dI;rw[af eJ,aj k]
   rw[hE];refine⟨by simp[lJ,same],fun e he=>?_,fun p _ _=>rfl⟩;simp only[bh,dc,di]at he;rcases he with rfl | rfl | rfl | rfl<;>exact⟨by simp[same],by simp[same],hsame _ (m _ (by simp)),hsame _ (m _ (by simp))⟩
  .have m:=hmem _ hp;have zm:=hsame 13 (m _ (by simp));have qB:=Du r;have Eu:r.2.1=0:=by omega
   have hres:eF o (fy r o)=(0,[],()):=by unfold eF;rw[af (by omega),af (by omega)]
   have z_:jf r o 0=(r.1,r.2.1+1,()):=by unfold jf;rw[af (by omega),af (by omega),af (by omega),aj (.inl k),qs (by omega) (by omega)]
   rw[hres];show sR _ (b_ (jf r o 0)) _/\aW (jf r o 0);rw[z_];refine⟨?_,⟨hl,hr.dQ,hr.once,by show 0<=r.2.1+1/\r.2.1+1<=5;omega⟩⟩;have hE:dI o (fy r o)=[(13,val (fy r o) 13,1,())]:=by unfold dI;rw[af eJ,af (by omega),aj k]
   rw[hE];refine⟨List.pairwise_singleton _ _,fun e he=>?_,fun p hp hno=>?_⟩
   .simp only[bh,dc,di]at he;subst he;refine⟨by simp[same],by simp[same],zm,?_⟩;show(1:Int)=r.2.1+1;omega
   .have h1:=hno _ (d6.2 rfl);dsimp only at h1;exact(Bb hr hp (by omega) (fun _=>.inr Eu)).symm
  .have m:=hmem _ hp;have zm:=hsame 13 (m _ (by simp));have qB:=Du r;have hres:eF o (fy r o)=(0,[],()):=by unfold eF;rw[af (by omega),af (by omega)]
   have z_:jf r o 0=(r.1,r.2.1+1,()):=by unfold jf;rw[af (by omega),af (by omega),af (by omega),aj (.inr k),qs (by omega) (by omega)]
   rw[hres];show sR _ (b_ (jf r o 0)) _/\aW (jf r o 0);rw[z_];refine⟨?_,⟨hl,hr.dQ,hr.once,by show 0<=r.2.1+1/\r.2.1+1<=5;omega⟩⟩;have Lr:val (fy r o) 13=r.2.1:=zm;have hrow:qw (wrap .i64 (val (fy r o) 13-1))=r.2.1-1:=by rw[Lr,qs (by omega) (by omega)];have:=u_ (r.2.1-1);omega
   have hE:dI o (fy r o)=same (fy r o) (qw (wrap .i64 (val (fy r o) 13-1)))::(13,val (fy r o) 13,wrap .i64 (val (fy r o) 13+1),())::
     (bif bu (val (fy r o) (qw (wrap .i64 (val (fy r o) 13-1)))) 1 6 then [(fQ (val (fy r o) (qw (wrap .i64 (val (fy r o) 13-1)))),val (fy r o) (fQ (val (fy r o) (qw (wrap .i64 (val (fy r o) 13-1))))),val (fy r o) 13,())] else []):=by
    unfold dI;rw[af eJ,af (by omega),af (by omega),aj k]
   rw[hE];rw[hrow]at m⊢;have Ew:=hsame (r.2.1-1) (m _ (by simp));have xm:=u5 hr (k:=r.2.1-1) (by omega);rw[Ew,xm.1]at m⊢;rw[Lr,qs (by omega) (by omega)];have iS:r.1[(r.2.1-1).toNat]? = some (r.1.getD (r.2.1-1).toNat 0):=by rw[gx (by omega),qv (by omega)]
   have Xl:=xm.2;rw[xm.1]at Xl;generalize r.1.getD (r.2.1-1).toNat 0=v at *;have hx:jV (r.1,r.2.1+1,()) (r.2.1-1).toNat=jV r (r.2.1-1).toNat:=Bb hr (by omega) (by omega) (fun q=>by omega);by_cases hv1:1<=v
   .have hin:bu v 1 6=true:=kZ.2 (by omega);rw[hin,bA]at m⊢;have ng:fQ v=13+v:=by have:=oK v;omega
    have hkey:a_ v r.1 0=r.2.1-1:=by rw[Qd hr (by omega) iS];omega
    have Ap:=hsame (fQ v) (m _ (by simp));rw[ng]at Ap⊢;have hnew:jV (r.1,r.2.1+1,()) (13+v).toNat=r.2.1:=by unfold jV;rw[af (by omega),af (by omega),af (by omega),af (by omega),show(((13+v).toNat:Nat):Int)-13=v by omega];unfold lB;dsimp only;rw[hkey,aj (by omega)];omega
    refine⟨?_,fun e he=>?_,fun p hp hno=>?_⟩
    .simp only[lJ,same,l9,bh,dc,di,uF,uL,List.Pairwise.nil,iO,Cb,uK,BP];omega
    .simp only[bh,dc,di]at he;rcases he with rfl | rfl | rfl
     .refine⟨by show 0<=r.2.1-1;omega,by show r.2.1-1<20;omega,Ew,?_⟩;show val (fy r o) (r.2.1-1)=jV (r.1,r.2.1+1,()) (r.2.1-1).toNat
      rw[hx];exact Ew
     .exact⟨by simp[same],by simp[same],by show r.2.1=b_ r 13;omega,rfl⟩
     .exact⟨by show 0<=13+v;omega,by show 13+v<20;omega,Ap,hnew.symm⟩
    .have h1:=hno _ (cF _ e7);have h2:=hno _ (cF _ (cF _ e7));dsimp only at h1 h2;refine(Bb hr hp (by omega) (fun _=>.inl (fun q=>?_))).symm;obtain⟨_,g⟩:=L8 _ r.1 0 (r.2.1-1).toNat (q.trans (by omega))
     rw[BQ,iS]at g;have:=gS g;omega
   .have hin:bu v 1 6=false:=IL (by omega);rw[hin,bf]at m⊢;refine⟨?_,fun e he=>?_,fun p hp hno=>?_⟩
    .simp only[lJ,same,l9,bh,dc,di,uF,uL,List.Pairwise.nil,iO,Cb,uK,BP];omega
    .simp only[bh,dc,di]at he;rcases he with rfl | rfl
     .refine⟨by show 0<=r.2.1-1;omega,by show r.2.1-1<20;omega,Ew,?_⟩;show val (fy r o) (r.2.1-1)=jV (r.1,r.2.1+1,()) (r.2.1-1).toNat
      rw[hx];exact Ew
     .exact⟨by simp[same],by simp[same],by show r.2.1=b_ r 13;omega,rfl⟩
    .have h1:=hno _ (cF _ e7);dsimp only at h1;refine(Bb hr hp (by omega) (fun _=>.inl (fun q=>?_))).symm;obtain⟨_,g⟩:=L8 _ r.1 0 (r.2.1-1).toNat (q.trans (by omega))
     rw[BQ,iS]at g;have:=gS g;omega
  .have m:=hmem _ hp;have z_:∀c,jf r o c=r:=fun c=>TI c (by omega);rw[z_];refine⟨?_,hr⟩;have hE:dI o (fy r o)=[same (fy r o) 13,same (fy r o) (fQ o.2.2.1)]:=by unfold dI;rw[af eJ,af (by omega),af (by omega),af (by omega),aj k]
   have hv:fQ o.2.2.1=13+o.2.2.1:=by have:=oK o.2.2.1;omega
   rw[hE];rw[hv]at m⊢;refine⟨by simp[lJ,same];omega,fun e he=>?_,fun p _ _=>rfl⟩;simp only[bh,dc,di]at he;rcases he with rfl | rfl
   .exact⟨by simp[same],by simp[same],hsame _ (m _ (by simp)),hsame _ (m _ (by simp))⟩
   .exact⟨by show 0<=13+o.2.2.1;omega,by show 13+o.2.2.1<20;omega,hsame _ (m _ (by simp)),hsame _ (m _ (by simp))⟩
end Go.G

import Derived.Test.YtpmimbgkiindbaaGreatAPFnStopped1
set_option maxRecDepth 100000
set_option linter.unusedVariables false
set_option linter.unusedSimpArgs false
set_option linter.unusedSectionVars false
open Go.IntKind (wrap)
namespace Go.G
open Go Go.V
theorem aG{R:Type}{a b:Option R}:br true a b=a:=rfl
theorem aL{R:Type}{a b:Option R}:br false a b=b:=rfl
theorem qf{R:Type}{a b:Option R}{p:Prop}[Decidable p](h:p):br (decide p) a b=a:=by simp[br,h]
theorem qg{R:Type}{a b:Option R}{p:Prop}[Decidable p](h:¬ p):br (decide p) a b=b:=by simp[br,h]
theorem qc{α R:Type}{a:α}{f:α->Option R}:qd (some a) f=f a:=rfl
theorem ake{R:Type}{c:Bool}{a:Option R}:br c a a=a:=by cases c<;>rfl
theorem uy{R:Type}{c:Bool}{a b:Option R}:br c a b=if c=true then a else b:=by cases c<;>rfl
theorem acu(x:Int):wrap .i64 x=if x % 18446744073709551616>=9223372036854775808 then x % 18446744073709551616-18446744073709551616 else x % 18446744073709551616:=by by_cases h:x % 18446744073709551616>=9223372036854775808<;>simp[IntKind.wrap,IntKind.signed,IntKind.bits,h]
theorem qs{x:Int}(h1 : -9223372036854775808<=x)(h2:x<=9223372036854775807):wrap .i64 x=x:=by rw[acu];split<;>omega
def W:Nat:=9223372036854775808
theorem d7:W=9223372036854775808:=rfl
theorem i_:ga=274877906944:=rfl
theorem ix{α:Type}{l:List α}{i:Nat}(h:i<l.length):(decide (0<=(i:Int))&&decide ((i:Int)<(l.length:Int)))=true:=by simp only[bI,gS];omega
theorem fJ{α:Type}{l:List α}{i:Int}(h0:0<=i)(h:i<l.length):(decide (0<=i)&&decide (i<(l.length:Int)))=true:=by simp only[bI,gS];omega
theorem qu{i:Nat}(h:i<9223372036854775807):wrap .i64 ((i:Int)+1)=((i+1:Nat):Int):=by rw[qs]<;>omega
theorem qv{α:Type}{l:List α}{i:Nat}{d:α}(h:i<l.length):l.getD i d=l[i]:=by simp[List.getD,h]
theorem uT{α:Type}{l:List α}{i:Nat}(h:i<l.length):l.drop i=l[i]::l.drop (i+1):=SG h
theorem uY{α:Type}{l:List α}{i:Nat}(h:¬ i<l.length):l.drop i=[]:=vG (by omega)
def tot:(t:Ty)->t.den->Nat
 | .unit,_=>0
 | .int _,_=>0
 | .bool,_=>0
 | .str,s=>s.size
 | .sl t,xs=>xs.length+(xs.map (tot t)).sum
 | .pair a b,x=>tot a x.1+tot b x.2
def left(t:Ty)(a:t.den)(k:Int):Int:=if (tot t a:Int)<=k then k-tot t a else -1
open Go.Proofs
abbrev Ko:=Int×Int×Unit
abbrev dM:=List Ko
abbrev cL:=Int×Int×Int×Unit
abbrev sK:=dM×List Int×Int×Bool×Unit
abbrev Wo:=dM×Int×Bool×Unit
def bu(x a b:Int):Bool:=bif decide (x>=a) then decide (x<=b) else false
theorem lp{x a b:Int}:bu x a b=true↔a<=x/\x<=b:=by
 unfold bu;by_cases h:x>=a
 .rw[bw h];simp only[bA,gS];omega
 .rw[b7 h];simp only[bf];constructor
  .intro k;cases k
  .intro k;omega
theorem IW{x a b:Int}(h:¬ (a<=x/\x<=b)):bu x a b=false:=by
 cases k:bu x a b
 .rfl
 .exact absurd (lp.1 k) h
def qw(k:Int):Int:=bif bu k 0 3 then k else -1
def q9(v:Int):Int:=bif bu v 1 6 then wrap .i64 (3+v) else -1
def iS(c:Int):Int:=bif bu c 0 2 then wrap .i64 (10+c) else -1
def fR(v:Int):Int:=bif bu v 1 6 then wrap .i64 (13+v) else -1
def qh(v:Int):Int:=bif bu v 1 6 then Int.tmod v 3 else -1
section
variable {X:Ext} (hX:fW X) {n:Nat}
include hX
theorem lq(hn:1<=n)(x a b:Int):kE (DD X n) x a b=some ((bu x a b,()),()):=by
 obtain⟨n,rfl⟩:∃k,n=k+1:=⟨n-1,by omega⟩
 rw[aav hX];rfl
theorem yR(hn:1<=n)(x a b:Int):lY (DD X n) x a b=some ((bu x a b,()),()):=by
 obtain⟨n,rfl⟩:∃k,n=k+1:=⟨n-1,by omega⟩
 rw[aay hX];rfl
theorem A0(hn:1<=n)(b:Bool)(x:Int):J4 (DD X n) b x=some ((bif b then x else -1,()),()):=by
 obtain⟨n,rfl⟩:∃k,n=k+1:=⟨n-1,by omega⟩
 rw[aiW hX];cases b<;>rfl
theorem Ra(hn:2<=n)(x:Int):TU (DD X n) x=some ((bu x 0 3,()),()):=by
 obtain⟨n,rfl⟩:∃k,n=k+1:=⟨n-1,by omega⟩
 rw[ajG hX];simp only[q76,Pt];rw[lq hX (by omega),qc]
theorem IU(hn:2<=n)(x:Int):zM (DD X n) x=some ((bu x 1 6,()),()):=by
 obtain⟨n,rfl⟩:∃k,n=k+1:=⟨n-1,by omega⟩
 rw[ajJ hX];simp only[q79,Pv];rw[lq hX (by omega),qc]
theorem R6(hn:2<=n)(x:Int):VT (DD X n) x=some ((bu x 0 2,()),()):=by
 obtain⟨n,rfl⟩:∃k,n=k+1:=⟨n-1,by omega⟩
 rw[ahY hX];simp only[YX,O3];rw[lq hX (by omega),qc]
theorem Rb(hn:2<=n)(x:Int):Wb (DD X n) x=some ((bu x 0 3,()),()):=by
 obtain⟨n,rfl⟩:∃k,n=k+1:=⟨n-1,by omega⟩
 rw[ajd hX];simp only[q8d,PM];rw[yR hX (by omega),qc]
theorem Ke(hn:2<=n)(x:Int):Dq (DD X n) x=some ((bu x 1 6,()),()):=by
 obtain⟨n,rfl⟩:∃k,n=k+1:=⟨n-1,by omega⟩
 rw[ajg hX];simp only[q8g,PD];rw[yR hX (by omega),qc]
theorem MJ(hn:2<=n)(x:Int):Wc (DD X n) x=some ((bu x 1 4,()),()):=by
 obtain⟨n,rfl⟩:∃k,n=k+1:=⟨n-1,by omega⟩
 rw[ajM hX];simp only[q8j,PF];rw[yR hX (by omega),qc]
theorem yL(hn:1<=n)(x:Int):Ci (DD X n) x=some ((bif bif bif decide (x=1) then true else decide (x=2) then true else decide (x=5) then true else decide (x=10),()),()):=by
 obtain⟨n,rfl⟩:∃k,n=k+1:=⟨n-1,by omega⟩
 rw[ajN hX];rfl
theorem yE(hn:1<=n):tD (DD X n)=some ((13,()),()):=by
 obtain⟨n,rfl⟩:∃k,n=k+1:=⟨n-1,by omega⟩
 rw[ahR hX];rfl
theorem PW(hn:1<=n):VV (DD X n)=some ((13,()),()):=by
 obtain⟨n,rfl⟩:∃k,n=k+1:=⟨n-1,by omega⟩
 rw[ahx hX];rfl
theorem yH(hn:3<=n)(x:Int):yD (DD X n) x=some ((qw x,()),()):=by
 obtain⟨n,rfl⟩:∃k,n=k+1:=⟨n-1,by omega⟩
 rw[ajI hX];simp only[q78,Pu];rw[Ra hX (by omega),qc,A0 hX (by omega),qc];rfl
theorem Du(hn:3<=n)(x:Int):yA (DD X n) x=some ((q9 x,()),()):=by
 obtain⟨n,rfl⟩:∃k,n=k+1:=⟨n-1,by omega⟩
 rw[ahQ hX];simp only[Yq,OI];rw[IU hX (by omega),qc,A0 hX (by omega),qc];rfl
theorem Dt(hn:3<=n)(x:Int):yz (DD X n) x=some ((iS x,()),()):=by
 obtain⟨n,rfl⟩:∃k,n=k+1:=⟨n-1,by omega⟩
 rw[ahK hX];simp only[Yk,O0];rw[R6 hX (by omega),qc,A0 hX (by omega),qc];rfl
theorem Co(hn:3<=n)(x:Int):vS (DD X n) x=some ((fR x,()),()):=by
 obtain⟨n,rfl⟩:∃k,n=k+1:=⟨n-1,by omega⟩
 rw[aja hX];simp only[q8a,Pw];rw[IU hX (by omega),qc,yE hX (by omega),qc,A0 hX (by omega),qc];rfl
theorem IL(hn:3<=n)(x:Int):tC (DD X n) x=some ((qh x,()),()):=by
 obtain⟨n,rfl⟩:∃k,n=k+1:=⟨n-1,by omega⟩
 rw[ahJ hX];simp only[Yj,OZ];rw[IU hX (by omega),qc];unfold qh;cases bu x 1 6<;>rfl
theorem abw(hn:3<=n)(x:Int):q7w (DD X n) x=some ((qw x,()),()):=by
 obtain⟨n,rfl⟩:∃k,n=k+1:=⟨n-1,by omega⟩
 rw[ajf hX];simp only[q8f,PN];rw[Rb hX (by omega),qc];unfold qw;cases bu x 0 3<;>rfl
theorem aaE(hn:3<=n)(x:Int):YD (DD X n) x=some ((q9 x,()),()):=by
 obtain⟨n,rfl⟩:∃k,n=k+1:=⟨n-1,by omega⟩
 rw[ahv hX];simp only[Y4,O8];rw[Ke hX (by omega),qc];unfold q9;cases bu x 1 6<;>rfl
theorem aaD(hn:3<=n)(x:Int):YB (DD X n) x=some ((iS x,()),()):=by
 obtain⟨n,rfl⟩:∃k,n=k+1:=⟨n-1,by omega⟩
 rw[aht hX];simp only[Y2,O6];rw[yR hX (by omega),qc];unfold iS;cases bu x 0 2<;>rfl
theorem abx(hn:3<=n)(x:Int):q7y (DD X n) x=some ((fR x,()),()):=by
 obtain⟨n,rfl⟩:∃k,n=k+1:=⟨n-1,by omega⟩
 rw[ajh hX];simp only[q8h,PE];rw[Ke hX (by omega),qc,PW hX (by omega),qc];unfold fR;cases bu x 1 6<;>rfl
theorem aaC(hn:3<=n)(x:Int):YA (DD X n) x=some ((qh x,()),()):=by
 obtain⟨n,rfl⟩:∃k,n=k+1:=⟨n-1,by omega⟩
 rw[ahs hX];simp only[Y1,O5];rw[Ke hX (by omega),qc];unfold qh;cases bu x 1 6<;>rfl
end
def rd(m5:Int):dM->Int->Bool->Int×Bool
 | [],n,ok=>(n,ok)
 | p::l,n,ok=>if p.1=m5 then rd m5 l p.2.1 true else rd m5 l n ok
theorem HV(m5:Int)(p:Ko):∀(l:dM)(n:Int)(ok:Bool),rd m5 (l++[p]) n ok=if p.1=m5 then (p.2.1,true) else rd m5 l n ok
 | [],n,ok=>by simp only[gA,rd]
 | q::l,n,ok=>by
  simp only[fI,rd];by_cases h:q.1=m5
  .rw[aj h,aj h];exact HV m5 p l _ _
  .rw[af h,af h];exact HV m5 p l _ _
def eX(got:dM)(m5:Int):Int×Bool:=rd m5 got 0 false
theorem QA(D:Den ctx)(n:Nat)(K0:Int->Bool->Option ((Int×Bool×Unit)×Unit))(K1:Option ((Int×Bool×Unit)×Unit))(hK:K0 0 false=K1)(got:dM)(hg:got.length<=1048576)(m5:Int):∀(m k:Nat),k<=got.length->k<m->
  TY D n K0 K1 m got m5 ((k:Int)-1)=K0 (eX (got.take k) m5).1 (eX (got.take k) m5).2
 | 0,_,_,h=>by omega
 | m+1,k,hk,hf=>by
  simp only[TY,q84];cases k with
  | zero=>rw[qg (by omega),List.take_zero];exact hK.symm
  | succ j=>
   have hj:j<got.length:=by omega
   have e1:(((j+1:Nat):Int)-1)=(j:Int):=by omega
   have e2:wrap .i64 ((j:Int)-1)=(j:Int)-1:=qs (by omega) (by omega);rw[e1,qf (by omega),ix hj,aG,aG,eE,e2,qv hj,mR hj];unfold eX;rw[HV];by_cases e:got[j].1=m5
   .rw[qf e,aj e]
   .rw[qg e,af e];exact QA D n K0 K1 hK got hg m5 m j (by omega) (by omega)
theorem yF{X:Ext}(hX:fW X){n:Nat}(hn:W+1<=n)(got:dM)(hg:got.length<=1048576)(m5:Int):uS (DD X n) got m5=some (((eX got m5).1,(eX got m5).2,()),()):=by
 obtain⟨n,rfl⟩:∃k,n=k+1:=⟨n-1,by omega⟩
 have hW:=d7;rw[aat hX];simp only[GB,GG,q5l];rw[qs (by omega) (by omega),QA (DD X n) n (fun bR dY=>OM (DD X n) n bR dY) (ON (DD X n) n) rfl got hg m5 n got.length (cq _) (by omega),Cc];rfl
structure alZ (got:dM) (a:sK) (w:Wo) (k:Nat):Prop where
 g1:a.1=got
 g2:w.1=got
 al9:a.2.2.1=w.2.1
 al_:a.2.2.2.1=w.2.2.1
 pl:a.2.1.length<=k
section
variable {X:Ext} (hX:fW X) {n:Nat} (hn:W+6<=n) {got:dM} (hg:got.length<=1048576)
include hX hn hg
end
theorem RX{X:Ext}(hX:fW X){n:Nat}(hn:1<=n){a:sK}(h:a.2.2.2.1=true)(p:Int):qy (DD X n) a p=some ((0,()),(a,())):=by
 obtain⟨n,rfl⟩:∃k,n=k+1:=⟨n-1,by omega⟩
 rw[qv5 hX];simp only[Td,VH];rw[h,aG]
theorem Mc{X:Ext}(hX:fW X)(N n:Nat)(hN:3<=N)(K:sK->Option (Unit×sK×Unit))(l:List Int)(hl:l.length<=2){a:sK}(h:a.2.2.2.1=true):∀(m i:Nat),l.length-i<m->
  ID (DD X N) n K m l (l.length:Int) (i:Int) a=K a
 | 0,_,h=>by omega
 | m+1,i,hf=>by
  simp only[ID,VB];by_cases hi:i<l.length
  .rw[qf (by exact_mod_cast hi),ix hi,aG,eE,Co hX (by omega),qc];dsimp only;rw[RX hX (by omega) h,qc,qu (by omega)];exact Mc hX N n hN K l hl h m (i+1) (by omega)
  .rw[qg (by exact_mod_cast hi)]
section
variable {X:Ext} (hX:fW X) {n:Nat} {got:dM} (hg:got.length<=1048576)
include hX hg
end
section
variable {X:Ext} (hX:fW X) {n:Nat} {got:dM} (hg:got.length<=1048576)
include hX hg
end
def hit(got:dM)(p:Int):Bool:=decide (0<=p)&&(eX got p).2
inductive PR where
 | done
 | ask (p:Int) (k:Int->PR)
def run(got:dM):PR->List Int×Int
 | .done=>([],-1)
 | .ask p k=>bif hit got p then (p::(run got (k (eX got p).1)).1,(run got (k (eX got p).1)).2) else ([],p)
theorem nQ{got:dM}{p:Int}{k:Int->PR}(h:hit got p=false):run got (.ask p k)=([],p):=by simp only[run];rw[h];rfl
theorem nS{got:dM}{p:Int}{k:Int->PR}(h:hit got p=true):run got (.ask p k)=(p::(run got (k (eX got p).1)).1,(run got (k (eX got p).1)).2):=by simp only[run];rw[h];rfl
def sA:List Int->PR
 | []=>.done
 | v::l=>.ask (fR v) fun _=>sA l
def tG(k:Int)(l:List Int):PR:=.ask 13 fun st=>bif decide (st<=wrap .i64 (k+1)) then .done else sA l
def sI(o:cL):PR:=.ask (qw o.2.1) fun r=>bif r != 0 then .done else .ask (q9 o.2.2.1) fun w=>bif w != 0 then .done else .ask (iS (qh o.2.2.1)) fun _=>tG o.2.1 [o.2.2.1]
def sJ(o:cL):PR:=.ask (qw o.2.1) fun r=>bif (bif decide (r=0) then true else decide (r=o.2.2.1)) then .done else .ask (q9 o.2.2.1) fun w=>bif w != 0 then .done else .ask (q9 r) fun _=>
 bif qh r != qh o.2.2.1 then .ask (iS (qh r)) fun _=>.ask (iS (qh o.2.2.1)) fun _=>tG o.2.1 [r,o.2.2.1] else tG o.2.1 [r,o.2.2.1]
def u7(o:cL):PR:=.ask (qw o.2.1) fun r=>bif decide (r=0) then .done else .ask (q9 r) fun _=>.ask (iS (qh r)) fun _=>tG o.2.1 [r]
def yJ:PR:=.ask 13 fun st=>bif (bif decide (st<1) then true else decide (st>4)) then .done else .ask (qw (wrap .i64 (st-1))) fun r=>bif !bu r 1 6 then .done else .ask (fR r) fun _=>.done
def v7(o:cL):PR:=.ask 13 fun st=>bif st != 5 then .done else .ask (fR o.2.2.1) fun _=>.done
def Cs:PR:=.ask 0 fun _=>.ask 1 fun _=>.ask 2 fun _=>.ask 3 fun _=>.done
def prog(o:cL):PR:=
 if o.1=1 then sI o else if o.1=2 then sJ o else if o.1=3 then u7 o else
 if o.1=4 then .ask (qw o.2.1) fun _=>.done else if o.1=5 then .ask (q9 o.2.2.1) fun _=>.done else if o.1=6 then .ask (iS o.2.1) fun _=>.done else
 if o.1=7 then Cs else if o.1=8 then .ask 13 fun _=>.done else if o.1=9 then yJ else if o.1=10 then v7 o else .done
section
variable {X:Ext} (hX:fW X) {n:Nat} {got:dM}
include hX
theorem EW(hn:1<=n)(pl:List Int)(m p:Int):qy (DD X n) (got,pl,m,true,()) p=some ((0,()),((got,pl,m,true,()),())):=RX hX hn rfl p
theorem Df(hn:1<=n)(pl:List Int)(m:Int)(o b:Bool):tB (DD X n) (got,pl,m,o,()) b=some ((),((got,pl,m,bif o then true else b,()),())):=by
 obtain⟨n,rfl⟩:∃k,n=k+1:=⟨n-1,by omega⟩
 rw[afd hX];rfl
theorem oJ(hn:W+2<=n)(hg:got.length<=1048576){pl:List Int}(hl:pl.length<=1000)(m:Int){p:Int}(h:hit got p=true) :
  qy (DD X n) (got,pl,m,false,()) p=some (((eX got p).1,()),((got,pl++[p],m,false,()),())):=by
 obtain⟨n,rfl⟩:∃k,n=k+1:=⟨n-1,by omega⟩
 have hb:=i_;unfold hit at h;simp only[bI,gS]at h;rw[qv5 hX];simp only[Td,VH];rw[aL,yF hX (by omega) got hg,qc];dsimp only;rw[b7 (by omega:¬ p<0),h.2,cJ,bf,aL,qf (by omega)]
theorem oI(hn:W+2<=n)(hg:got.length<=1048576)(pl:List Int)(m:Int){p:Int}(h:hit got p=false) :
  qy (DD X n) (got,pl,m,false,()) p=some ((0,()),((got,pl,p,true,()),())):=by
 obtain⟨n,rfl⟩:∃k,n=k+1:=⟨n-1,by omega⟩
 unfold hit at h;rw[qv5 hX];simp only[Td,VH];rw[aL,yF hX (by omega) got hg,qc];dsimp only;have:(bif decide (p<0) then true else !(eX got p).2)=true:=by
  by_cases h0:p<0
  .rw[bw h0];rfl
  .rw[b7 h0];rw[bw (by omega:0<=p),zH]at h;rw[h];rfl
 rw[this,aG]
theorem N0(N m0:Nat)(hN:W+4<=N)(hg:got.length<=1048576)(K:sK->Option (Unit×sK×Unit))(l:List Int)(hl:l.length<=2):∀(m i:Nat)(pl:List Int),l.length-i<m->i<=l.length->pl.length<=20+i->
  ∃b,ID (DD X N) n K m l (l.length:Int) (i:Int) (got,pl,-1,false,())=K (got,pl++(run got (sA (l.drop i))).1,(run got (sA (l.drop i))).2,b,())
 | 0,_,_,h,_,_=>by omega
 | m+1,i,pl,hf,hi,hp=>by
  simp only[ID,VB];by_cases h:i<l.length
  .rw[qf (by exact_mod_cast h),ix h,aG,eE,Co hX (by omega),qc,qv h];dsimp only;rw[uT h];simp only[sA];rw[qu (by omega)];cases hh:hit got (fR l[i])
   .rw[oI hX (by omega) hg _ _ hh,qc,nQ hh];dsimp only;rw[Mc hX N n (by omega) K l hl (by rfl) m (i+1) (by omega)];exact⟨true,by rw[gT]⟩
   .rw[oJ hX (by omega) hg (by omega) _ hh,qc,nS hh];dsimp only;obtain⟨b,e⟩:=N0 N m0 hN hg K l hl m (i+1) (pl++[fR l[i]]) (by omega) (by omega) (by rw[cT];simp only[ct,gB];omega);rw[e];exact⟨b,by rw[eI];rfl⟩
  .rw[qg (by exact_mod_cast h),uY h];exact⟨false,by simp only[sA,run];rw[gT]⟩
theorem BG(hn:W+6<=n)(hg:got.length<=1048576){pl:List Int}(hp:pl.length<=10)(c:Int)(l:List Int)(hl:l.length<=2) :
  ∃b,IC (DD X n) (got,pl,-1,false,()) c l=some ((),((got,pl++(run got (tG c l)).1,(run got (tG c l)).2,b,()),())):=by
 obtain⟨n,rfl⟩:∃k,n=k+1:=⟨n-1,by omega⟩
 have hW:=d7;rw[q8k hX];simp only[VG,VI,VA];rw[yE hX (by omega),qc];dsimp only;unfold tG;cases h:hit got 13
 .rw[oI hX (by omega) hg _ _ h,qc,nQ h];dsimp only;rw[Df hX (by omega),qc];dsimp only;rw[bA];have e:=Mc hX n n (by omega) (fun bR=>S4 (DD X n) n bR) l hl (a:=(got,pl,13,true,())) rfl n 0 (by omega);rw[show((0:Nat):Int)=0 from rfl]at e;rw[e];exact⟨true,by rw[gT];rfl⟩
 .rw[oJ hX (by omega) hg (by omega) _ h,qc,nS h];dsimp only;rw[Df hX (by omega),qc];dsimp only;rw[bf];cases hs:decide ((eX got 13).1<=wrap .i64 (c+1))
  .rw[bf];obtain⟨b,e⟩:=N0 hX n 0 (by omega) hg (fun bR=>S4 (DD X n) n bR) l hl n 0 (pl++[13]) (by omega) (by omega) (by rw[cT];simp only[ct,gB];omega);rw[show((0:Nat):Int)=0 from rfl,jW]at e;rw[e];exact⟨b,by rw[eI];rfl⟩
  .rw[bA];have e:=Mc hX n n (by omega) (fun bR=>S4 (DD X n) n bR) l hl (a:=(got,pl++[13],-1,true,())) rfl n 0 (by omega);rw[show((0:Nat):Int)=0 from rfl]at e;rw[e];exact⟨true,rfl⟩
theorem Hu(hn:5<=n)(pl:List Int)(m c:Int)(l:List Int)(hl:l.length<=2)(hW2:W+6<=n):IC (DD X n) (got,pl,m,true,()) c l=some ((),((got,pl,m,true,()),())):=by
 obtain⟨n,rfl⟩:∃k,n=k+1:=⟨n-1,by omega⟩
 have hW:=d7;rw[q8k hX];simp only[VG,VI,VA];rw[yE hX (by omega),qc];dsimp only;rw[EW hX (by omega),qc];dsimp only;rw[Df hX (by omega),qc];dsimp only;rw[bA];have e:=Mc hX n n (by omega) (fun bR=>S4 (DD X n) n bR) l hl (a:=(got,pl,m,true,())) rfl n 0 (by omega);rw[show((0:Nat):Int)=0 from rfl]at e;rw[e];rfl
end
section
variable {X:Ext} (hX:fW X) {n:Nat} {got:dM}
include hX
theorem acI(hn:W+8<=n)(hg:got.length<=1048576)(K V:Int) :
  ∃b,SZ (DD X n) (got,[],-1,false,()) (1,K,V,())=some ((),((got,(run got (sI (1,K,V,()))).1,(run got (sI (1,K,V,()))).2,b,()),())):=by
 obtain⟨n,rfl⟩:∃k,n=k+1:=⟨n-1,by omega⟩
 have hW:=d7;have he:=fun pl m p=>EW hX (n:=n) (got:=got) (by omega) pl m p;have hs:=fun pl m o b=>Df hX (n:=n) (got:=got) (by omega) pl m o b;have hr:=fun x=>yH hX (n:=n) (by omega) x;have ho:=fun x=>Du hX (n:=n) (by omega) x;have hc:=fun x=>Dt hX (n:=n) (by omega) x;have hk:=fun x=>IL hX (n:=n) (by omega) x;have mW:=fun pl m c l hl=>Hu hX (n:=n) (got:=got) (by omega) pl m c l hl (by omega);rw[qqi hX];simp only[S0,Vx];rw[hr,qc];dsimp only;unfold sI;dsimp only;cases h1:hit got (qw K)
 .rw[oI hX (by omega) hg _ _ h1,qc,nQ h1];dsimp only;rw[qf trivial];simp only[he,hs,ho,hc,hk,qc,bA,mW _ _ _ [V] (by simp)];exact⟨true,rfl⟩
 .rw[oJ hX (by omega) hg (by simp) _ h1,qc,nS h1];dsimp only;rw[qf trivial,hs,qc];dsimp only;rw[bf];cases h2:((eX got (qw K)).1 != 0)
  .rw[bf,ho,qc];dsimp only;cases h3:hit got (q9 V)
   .rw[oI hX (by omega) hg _ _ h3,qc,nQ h3];simp only[he,hs,ho,hc,hk,qc,bA,mW _ _ _ [V] (by simp)];exact⟨true,rfl⟩
   .rw[oJ hX (by omega) hg (by simp) _ h3,qc,nS h3];dsimp only;rw[hs,qc];dsimp only;rw[bf];cases h4:((eX got (q9 V)).1 != 0)
    .rw[bf,hk,qc];dsimp only;rw[hc,qc];dsimp only;cases h5:hit got (iS (qh V))
     .rw[oI hX (by omega) hg _ _ h5,qc,nQ h5];simp only[qc,mW _ _ _ [V] (by simp)];exact⟨true,rfl⟩
     .rw[oJ hX (by omega) hg (by simp) _ h5,qc,nS h5];dsimp only;obtain⟨b,e⟩:=BG hX (n:=n) (by omega) hg (pl:=[]++[qw K]++[q9 V]++[iS (qh V)]) (by simp) K [V] (by simp);rw[e,qc];exact⟨b,rfl⟩
    .simp only[he,hs,ho,hc,hk,qc,bA,mW _ _ _ [V] (by simp),run];exact⟨true,rfl⟩
  .simp only[he,hs,ho,hc,hk,qc,bA,mW _ _ _ [V] (by simp),run];exact⟨true,rfl⟩
theorem acJ(hn:W+8<=n)(hg:got.length<=1048576)(K V:Int) :
  ∃b,SZ (DD X n) (got,[],-1,false,()) (2,K,V,())=some ((),((got,(run got (sJ (2,K,V,()))).1,(run got (sJ (2,K,V,()))).2,b,()),())):=by
 obtain⟨n,rfl⟩:∃k,n=k+1:=⟨n-1,by omega⟩
 have hW:=d7;have he:=fun pl m p=>EW hX (n:=n) (got:=got) (by omega) pl m p;have hs:=fun pl m o b=>Df hX (n:=n) (got:=got) (by omega) pl m o b;have hr:=fun x=>yH hX (n:=n) (by omega) x;have ho:=fun x=>Du hX (n:=n) (by omega) x;have hc:=fun x=>Dt hX (n:=n) (by omega) x;have hk:=fun x=>IL hX (n:=n) (by omega) x;have mW:=fun pl m c a b=>Hu hX (n:=n) (got:=got) (by omega) pl m c [a,b] (by simp) (by omega);have hsame:∀(c:Bool)(x:Option (Unit×sK×Unit)),br c x x=x:=by intro c x;cases c<;>rfl
 rw[qqi hX];simp only[S0,Vx];rw[hr,qc];dsimp only;unfold sJ;dsimp only;cases h1:hit got (qw K)
 .rw[oI hX (by omega) hg _ _ h1,qc,nQ h1];dsimp only;rw[qg (by decide),qf trivial];simp only[he,hs,ho,hc,hk,qc,bA,mW,hsame];exact⟨true,rfl⟩
 .rw[oJ hX (by omega) hg (by simp) _ h1,qc,nS h1];dsimp only;generalize hv:(eX got (qw K)).1=v;rw[qg (by decide),qf trivial,hs,qc];dsimp only;rw[bf];cases h2:(bif decide (v=0) then true else decide (v=V))
  .rw[bf,ho,qc];dsimp only;cases h3:hit got (q9 V)
   .rw[oI hX (by omega) hg _ _ h3,qc,nQ h3];simp only[he,hs,ho,hc,hk,qc,bA,mW,hsame];exact⟨true,rfl⟩
   .rw[oJ hX (by omega) hg (by simp) _ h3,qc,nS h3];dsimp only;rw[hs,qc];dsimp only;rw[bf];cases h4:((eX got (q9 V)).1 != 0)
    .rw[bf,ho,qc];dsimp only;cases h5:hit got (q9 v)
     .rw[oI hX (by omega) hg _ _ h5,qc,nQ h5];simp only[he,hs,ho,hc,hk,qc,bA,mW,hsame];exact⟨true,rfl⟩
     .rw[oJ hX (by omega) hg (by simp) _ h5,qc,nS h5,hk,qc,hk,qc];dsimp only;cases h6:(qh v != qh V)
      .rw[aL,bf];obtain⟨b,e⟩:=BG hX (n:=n) (by omega) hg (pl:=[]++[qw K]++[q9 V]++[q9 v]) (by simp) K [v,V] (by simp);rw[e,qc];exact⟨b,rfl⟩
      .rw[aG,bA];simp only[qc];rw[hc,qc];dsimp only;cases h7:hit got (iS (qh v))
       .rw[oI hX (by omega) hg _ _ h7,qc,nQ h7];simp only[he,hs,ho,hc,hk,qc,bA,mW,hsame];exact⟨true,rfl⟩
       .rw[oJ hX (by omega) hg (by simp) _ h7,qc,nS h7];simp only[qc];rw[hc,qc];dsimp only;cases h8:hit got (iS (qh V))
        .rw[oI hX (by omega) hg _ _ h8,qc,nQ h8];simp only[he,hs,ho,hc,hk,qc,bA,mW,hsame];exact⟨true,rfl⟩
        .rw[oJ hX (by omega) hg (by simp) _ h8,qc,nS h8];dsimp only;obtain⟨b,e⟩:=BG hX (n:=n) (by omega) hg (pl:=[]++[qw K]++[q9 V]++[q9 v]++[iS (qh v)]++[iS (qh V)]) (by simp) K [v,V] (by simp);rw[e,qc];exact⟨b,rfl⟩
    .simp only[he,hs,ho,hc,hk,qc,bA,mW,run,hsame];exact⟨true,rfl⟩
  .simp only[he,hs,ho,hc,hk,qc,bA,mW,run,hsame];exact⟨true,rfl⟩
theorem aci(hn:W+8<=n)(hg:got.length<=1048576)(K V:Int) :
  ∃b,SZ (DD X n) (got,[],-1,false,()) (3,K,V,())=some ((),((got,(run got (u7 (3,K,V,()))).1,(run got (u7 (3,K,V,()))).2,b,()),())):=by
 obtain⟨n,rfl⟩:∃k,n=k+1:=⟨n-1,by omega⟩
 have hW:=d7;have he:=fun pl m p=>EW hX (n:=n) (got:=got) (by omega) pl m p;have hs:=fun pl m o b=>Df hX (n:=n) (got:=got) (by omega) pl m o b;have hr:=fun x=>yH hX (n:=n) (by omega) x;have ho:=fun x=>Du hX (n:=n) (by omega) x;have hc:=fun x=>Dt hX (n:=n) (by omega) x;have hk:=fun x=>IL hX (n:=n) (by omega) x;have mW:=fun pl m c a=>Hu hX (n:=n) (got:=got) (by omega) pl m c [a] (by simp) (by omega);rw[qqi hX];simp only[S0,Vx];rw[hr,qc];dsimp only;unfold u7;dsimp only;cases h1:hit got (qw K)
 .rw[oI hX (by omega) hg _ _ h1,qc,nQ h1];dsimp only;rw[qg (by decide),qg (by decide)];simp only[he,hs,ho,hc,hk,qc,bA,mW];exact⟨true,rfl⟩
 .rw[oJ hX (by omega) hg (by simp) _ h1,qc,nS h1];dsimp only;generalize hv:(eX got (qw K)).1=v;rw[qg (by decide),qg (by decide),hs,qc];dsimp only;rw[bf];cases h2:decide (v=0)
  .rw[bf,ho,qc];dsimp only;cases h3:hit got (q9 v)
   .rw[oI hX (by omega) hg _ _ h3,qc,nQ h3];simp only[he,hs,ho,hc,hk,qc,bA,mW];exact⟨true,rfl⟩
   .rw[oJ hX (by omega) hg (by simp) _ h3,qc,nS h3,hk,qc];dsimp only;rw[hc,qc];dsimp only;cases h5:hit got (iS (qh v))
    .rw[oI hX (by omega) hg _ _ h5,qc,nQ h5];simp only[he,hs,ho,hc,hk,qc,bA,mW];exact⟨true,rfl⟩
    .rw[oJ hX (by omega) hg (by simp) _ h5,qc,nS h5];dsimp only;obtain⟨b,e⟩:=BG hX (n:=n) (by omega) hg (pl:=[]++[qw K]++[q9 v]++[iS (qh v)]) (by simp) K [v] (by simp);rw[e,qc];exact⟨b,rfl⟩
  .simp only[he,hs,ho,hc,hk,qc,bA,mW,run];exact⟨true,rfl⟩
end
section
variable {X:Ext} (hX:fW X) {n:Nat} {got:dM}
include hX
theorem Bq(hn:W+2<=n)(hg:got.length<=1048576)(p:Int):∃b,qd (qy (DD X n) (got,[],-1,false,()) p) (fun b=>some ((b.2.1,()),())) =
  (some (((got,(run got (.ask p fun _=>.done)).1,(run got (.ask p fun _=>.done)).2,b,()),()),()):Option ((sK×Unit)×Unit)):=by
 cases h:hit got p
 .rw[oI hX hn hg _ _ h,qc,nQ h];exact⟨true,rfl⟩
 .rw[oJ hX hn hg (by simp) _ h,qc,nS h];exact⟨false,rfl⟩
theorem abr(hn:W+2<=n)(Xj:3<=n)(hg:got.length<=1048576):∃b,
  qd (tD (DD X n)) (fun b=>
          qd (qy (DD X n) (got,[],-1,false,()) (Prod.fst (Prod.fst b))) fun b=>
           qd
            (tB (DD X n) (Prod.fst (Prod.snd b))
             (bif decide (Prod.fst (Prod.fst b)<1) then true else decide (Prod.fst (Prod.fst b)>4)))
            fun b_1=>
            qd (yD (DD X n) (wrap .i64 (Prod.fst (Prod.fst b)-1))) fun b=>
             qd (qy (DD X n) (Prod.fst (Prod.snd b_1)) (Prod.fst (Prod.fst b))) fun b=>
              qd (zM (DD X n) (Prod.fst (Prod.fst b))) fun b_2=>
               qd (tB (DD X n) (Prod.fst (Prod.snd b)) !Prod.fst (Prod.fst b_2)) fun Up=>
                qd (vS (DD X n) (Prod.fst (Prod.fst b))) fun b=>
                 qd (qy (DD X n) (Prod.fst (Prod.snd Up)) (Prod.fst (Prod.fst b))) fun b=>
                  some ((Prod.fst (Prod.snd b),()),()))=(some (((got,(run got yJ).1,(run got yJ).2,b,()),()),()):Option ((sK×Unit)×Unit)):=by
 have he:=fun pl m p=>EW hX (n:=n) (got:=got) (by omega) pl m p;have hs:=fun pl m o b=>Df hX (n:=n) (got:=got) (by omega) pl m o b;have hr:=fun x=>yH hX (n:=n) (by omega) x;have hv:=fun x=>IU hX (n:=n) (by omega) x;have hi:=fun x=>Co hX (n:=n) (by omega) x;rw[yE hX (by omega),qc];dsimp only;unfold yJ;cases h:hit got 13
 .rw[oI hX hn hg _ _ h,qc,nQ h];simp only[he,hs,hr,hv,hi,qc,bA];exact⟨true,rfl⟩
 .rw[oJ hX hn hg (by simp) _ h,qc,nS h];dsimp only;generalize (eX got 13).1=st;rw[hs,qc];dsimp only;rw[bf];cases h2:(bif decide (st<1) then true else decide (st>4))
  .rw[bf,hr,qc];dsimp only;cases h3:hit got (qw (wrap .i64 (st-1)))
   .rw[oI hX hn hg _ _ h3,qc,nQ h3];simp only[he,hs,hr,hv,hi,qc,bA];exact⟨true,rfl⟩
   .rw[oJ hX hn hg (by simp) _ h3,qc,nS h3];dsimp only;generalize (eX got (qw (wrap .i64 (st-1)))).1=r;rw[hv,qc];dsimp only;rw[hs,qc];dsimp only;rw[bf];cases h4:bu r 1 6
    .simp only[he,hs,hr,hv,hi,qc,i6,bA,run];exact⟨true,rfl⟩
    .rw[cJ,bf,hi,qc];dsimp only;cases h5:hit got (fR r)
     .rw[oI hX hn hg _ _ h5,qc,nQ h5];exact⟨true,rfl⟩
     .rw[oJ hX hn hg (by simp) _ h5,qc,nS h5];exact⟨false,rfl⟩
  .simp only[he,hs,hr,hv,hi,qc,bA,run];exact⟨true,rfl⟩
theorem acK(hn:W+2<=n)(Xj:3<=n)(hg:got.length<=1048576)(o:cL):∃b,
  qd (tD (DD X n)) (fun b=>
           qd (qy (DD X n) (got,[],-1,false,()) (Prod.fst (Prod.fst b))) fun b=>
            qd (tB (DD X n) (Prod.fst (Prod.snd b)) (Prod.fst (Prod.fst b) != 5)) fun b=>
             qd (vS (DD X n) o.2.2.1) fun b_1=>
              qd (qy (DD X n) (Prod.fst (Prod.snd b)) (Prod.fst (Prod.fst b_1))) fun b=>some ((Prod.fst (Prod.snd b),()),())) =
  (some (((got,(run got (v7 o)).1,(run got (v7 o)).2,b,()),()),()):Option ((sK×Unit)×Unit)):=by
 have he:=fun pl m p=>EW hX (n:=n) (got:=got) (by omega) pl m p;have hs:=fun pl m o b=>Df hX (n:=n) (got:=got) (by omega) pl m o b;have hi:=fun x=>Co hX (n:=n) (by omega) x;rw[yE hX (by omega),qc];dsimp only;unfold v7;cases h:hit got 13
 .rw[oI hX hn hg _ _ h,qc,nQ h];simp only[he,hs,hi,qc,bA];exact⟨true,rfl⟩
 .rw[oJ hX hn hg (by simp) _ h,qc,nS h];dsimp only;generalize (eX got 13).1=st;rw[hs,qc];dsimp only;rw[bf];cases h2:(st != 5)
  .rw[bf,hi,qc];dsimp only;cases h5:hit got (fR o.2.2.1)
   .rw[oI hX hn hg _ _ h5,qc,nQ h5];exact⟨true,rfl⟩
   .rw[oJ hX hn hg (by simp) _ h5,qc,nS h5];exact⟨false,rfl⟩
  .simp only[he,hs,hi,qc,bA,run];exact⟨true,rfl⟩
def Mj:Nat->Nat->PR
 | _,0=>.done
 | i,d+1=>.ask (i:Int) fun _=>Mj (i+1) d
theorem Mp(N n:Nat)(hN:3<=N)(K:sK->Option ((sK×Unit)×Unit))(pl:List Int)(m0:Int):∀(m i:Nat),i<=4->4-i<m->Dp (DD X N) n K m (i:Int) (got,pl,m0,true,())=K (got,pl,m0,true,())
 | 0,_,_,h=>by omega
 | m+1,i,hi,hf=>by
  simp only[Dp,TO];by_cases h:(i:Int)<4
  .rw[qf h,yH hX (by omega),qc];dsimp only;rw[EW hX (by omega),qc,qu (by omega)];exact Mp N n hN K pl m0 m (i+1) (by omega) (by omega)
  .rw[qg h]
theorem NO(N n:Nat)(hN:W+6<=N)(hN3:3<=N)(hg:got.length<=1048576)(K:sK->Option ((sK×Unit)×Unit)):∀(m d i:Nat)(pl:List Int),i+d=4->d<m->pl.length<=i->
  ∃b,Dp (DD X N) n K m (i:Int) (got,pl,-1,false,())=K (got,pl++(run got (Mj i d)).1,(run got (Mj i d)).2,b,())
 | 0,_,_,_,_,h,_=>by omega
 | m+1,0,i,pl,hi,hf,hp=>by
  simp only[Dp,TO];rw[qg (by omega)];exact⟨false,by simp only[Mj,run];rw[gT]⟩
 | m+1,d+1,i,pl,hi,hf,hp=>by
  simp only[Dp,TO];have hr:qw (i:Int)=i:=by unfold qw;rw[lp.2 (by omega)];rfl
  rw[qf (by omega),yH hX (by omega),qc,hr];dsimp only;simp only[Mj];rw[qu (by omega)];cases h:hit got (i:Int)
  .rw[oI hX (by omega) hg _ _ h,qc,nQ h];dsimp only;rw[Mp hX N n hN3 K pl (i:Int) m (i+1) (by omega) (by omega)];exact⟨true,by rw[gT]⟩
  .rw[oJ hX (by omega) hg (by omega) _ h,qc,nS h];dsimp only;obtain⟨b,e⟩:=NO N n hN hN3 hg K m d (i+1) (pl++[(i:Int)]) (by omega) (by omega) (by rw[cT];simp only[ct,gB];omega);rw[e];exact⟨b,by rw[eI];rfl⟩
theorem R5(hn:W+10<=n)(hg:got.length<=1048576)(o:cL) :
  ∃b,V_ (DD X n) o got=some (((got,(run got (prog o)).1,(run got (prog o)).2,b,()),()),()):=by
 obtain⟨n,rfl⟩:∃k,n=k+1:=⟨n-1,by omega⟩
 have hW:=d7;obtain⟨k,K,V,⟨⟩⟩:=o;rw[ajb hX];simp only[q8b,q9a];unfold prog;dsimp only;by_cases k1:k=1
 .subst k1;obtain⟨b,e⟩:=acI hX (n:=n) (by omega) hg K V;rw[qf rfl,qf rfl,e,qc,aj rfl];exact⟨b,rfl⟩
 rw[qg k1,af k1];by_cases k2:k=2
 .subst k2;obtain⟨b,e⟩:=acJ hX (n:=n) (by omega) hg K V;rw[qf rfl,qf rfl,e,qc,aj rfl];exact⟨b,rfl⟩
 rw[qg k2,af k2];by_cases k3:k=3
 .subst k3;obtain⟨b,e⟩:=aci hX (n:=n) (by omega) hg K V;rw[qf rfl,e,qc,aj rfl];exact⟨b,rfl⟩
 rw[qg k3,af k3];by_cases k4:k=4
 .rw[qf k4,aj k4,yH hX (by omega),qc];exact Bq hX (by omega) hg _
 rw[qg k4,af k4];by_cases k5:k=5
 .rw[qf k5,aj k5,Du hX (by omega),qc];exact Bq hX (by omega) hg _
 rw[qg k5,af k5];by_cases k6:k=6
 .rw[qf k6,aj k6,Dt hX (by omega),qc];exact Bq hX (by omega) hg _
 rw[qg k6,af k6];by_cases k7:k=7
 .rw[qf k7,aj k7];simp only[Zo];obtain⟨b,e⟩:=NO hX n n (by omega) (by omega) hg (fun bR=>Oz (DD X n) n bR) n 4 0 [] rfl (by omega) (by simp);rw[show((0:Nat):Int)=0 from rfl]at e;rw[e];exact⟨b,rfl⟩
 rw[qg k7,af k7];by_cases k8:k=8
 .rw[qf k8,aj k8,yE hX (by omega),qc];exact Bq hX (by omega) hg _
 rw[qg k8,af k8];by_cases k9:k=9
 .rw[qf k9,aj k9];exact abr hX (by omega) (by omega) hg
 rw[qg k9,af k9];by_cases js:k=10
 .rw[qf js,aj js];exact acK hX (by omega) (by omega) hg (k,K,V,())
 rw[qg js,af js];exact⟨false,rfl⟩
end
abbrev ez:=Int×Int×Int×Unit
def iH{α:Type}(key:α->Int):List α->α->List α
 | [],x=>[x]
 | y::rs,x=>if key x<key y then y::iH key rs x else x::y::rs
def j4{α:Type}(key:α->Int)(s:List α)(x:α):List α:=(iH key s.reverse x).reverse
theorem RZ{α:Type}(key:α->Int):∀(rs:List α)(x:α),(iH key rs x).length=rs.length+1
 | [],x=>rfl
 | y::rs,x=>by
  simp only[iH];split
  .simp only[ct,RZ key rs x]
  .simp only[ct]
theorem xJ{α:Type}(key:α->Int)(s:List α)(x:α):(j4 key s x).length=s.length+1:=by unfold j4;rw[jU,RZ,jU]
theorem R3{α:Type}(key:α->Int):∀(rs:List α)(x z:α),z∈iH key rs x↔z=x\/z∈rs
 | [],x,z=>by simp[iH]
 | y::rs,x,z=>by
  simp only[iH];split
  .simp only[bh,R3 key rs x z];constructor
   .rintro(h | h | h)
    .exact .inr (.inl h)
    .exact .inl h
    .exact .inr (.inr h)
   .rintro(h | h | h)
    .exact .inr (.inl h)
    .exact .inl h
    .exact .inr (.inr h)
  .simp only[bh]
theorem H6{α:Type}(key:α->Int)(s:List α)(x z:α):z∈j4 key s x↔z=x\/z∈s:=by unfold j4;rw[uI,R3,uI]
theorem Nv{α:Type}(key:α->Int)(e:α)(l1:List α)(h1:∀y∈l1,key y<=key e):∀(l2:List α),(∀y∈l2,key e<key y)->j4 key (l1++l2.reverse) e=l1++e::l2.reverse
 | [],_=>by
  unfold j4;rw[ym,gT];cases h:l1.reverse with
  | nil=>have:l1=[]:=List.reverse_eq_nil_iff.1 h;subst this;rfl
  | cons y rs=>
   have hy:y∈l1:=by rw[<-uI,h];exact e8
   simp only[iH];rw[af (by have:=h1 y hy;omega)];have:l1=rs.reverse++[y]:=by rw[<-B6 l1,h,oq]
   rw[this];simp
 | y::l2,h2=>by
  have ih:=Nv key e l1 h1 l2 (fun z hz=>h2 z (cF _ hz));unfold j4 at ih⊢;rw[oq,<-eI,List.reverse_append];show(iH key (y::(l1++l2.reverse).reverse) e).reverse=_;simp only[iH];rw[aj (h2 y e8),oq,ih];simp
theorem Bj{α:Type}(l:List α)(x:α)(t:List α)(d:α):(l++x::t).getD l.length d=x:=by simp[List.getD]
theorem Bt{α:Type}(l:List α)(x y:α)(t:List α):(l++x::t).set l.length y=l++y::t:=by simp
abbrev tR:Ty:=Ty.pair (Ty.int IntKind.i64) (Ty.pair (Ty.int IntKind.i64) (Ty.pair (Ty.int IntKind.i64) Ty.unit))
def qZ(k:Int):Prop:=-1000<=k/\k<=1000
def j5(e:ez):Int:=e.1
section
variable {X:Ext} (hX:fW X) {n:Nat}
include hX
theorem akp(hn:1<=n)(a b:ez)(ha:qZ a.1)(hb:qZ b.1):iM ctx (DD X n) (bk.mk 183 []) [bL.val tR a,bL.val tR b] (Ty.int IntKind.i64)=some (a.1-b.1):=by
 obtain⟨n,rfl⟩:∃k,n=k+1:=⟨n-1,by omega⟩
 have h:∀D:Den ctx,iM ctx D (bk.mk 183 []) [bL.val tR a,bL.val tR b] (Ty.int IntKind.i64)=(q7v D a b).bind fun r=>some r.1.1:=fun D=>by kernel_rfl
 unfold qZ at ha hb;rw[h,afE hX];simp only[qvz,q9b,dG];rw[qs (by omega) (by omega)]
theorem acO(hn:1<=n){a b x y:ez}(ha:a=x)(hb:b=y)(hx:qZ x.1)(hy:qZ y.1):iM ctx (DD X n) (bk.mk 183 []) [bL.val tR a,bL.val tR b] (Ty.int IntKind.i64)=some (x.1-y.1):=by subst ha;subst hb;exact akp hX hn a b hx hy
theorem Mr(N n:Nat)(hN:1<=N)(K0:Int->Int->Int->List ez->Option (Unit×List ez×Unit))(b i:Int)(x:ez)(hx:qZ x.1):∀(m:Nat)(rs t:List ez),rs.length<m->rs.length+t.length<=1000->(∀e∈rs,qZ e.1)->
  JO (DD X N) n (bk.mk 183 []) K0 m 0 b i (rs.length:Int) (rs.reverse++x::t)=K0 0 b i ((iH j5 rs x).reverse++t)
 | 0,_,_,h,_,_=>by omega
 | m+1,[],t,_,_,_=>by
  simp only[JO,Vb];rw[qg (by simp)];simp[iH]
 | m+1,y::rs,t,hf,hl,hs=>by
  have hy:=hs y e8;have hlen:((y::rs).reverse++x::t).length=rs.length+t.length+2:=by simp;omega
  simp only[ct]at hf hl;have e1:((y::rs).length:Int)=((rs.length+1:Nat):Int):=by simp
  have e2:wrap .i64 (((rs.length+1:Nat):Int)-1)=((rs.length:Nat):Int):=by rw[qs (by omega) (by omega)];omega
  have g1:((y::rs).reverse++x::t).getD (rs.length+1) (0,0,0,())=x:=by have:=Bj (y::rs).reverse x t (0,0,0,());rw[jU,ct]at this;exact this
  have g2:((y::rs).reverse++x::t).getD rs.length (0,0,0,())=y:=by have:=Bj rs.reverse y (x::t) (0,0,0,());rw[jU]at this;rw[oq,eI];exact this
  have s1:((y::rs).reverse++x::t).set (rs.length+1) y=rs.reverse++y::(y::t):=by have:=Bt (y::rs).reverse x y t;rw[jU,ct]at this;rw[this,oq,eI];rfl
  have s2:(rs.reverse++y::(y::t)).set rs.length x=rs.reverse++x::(y::t):=by have:=Bt rs.reverse y x (y::t);rw[jU]at this;exact this
  simp only[JO,Vb];rw[e1,e2,qf (by omega),fJ (by omega) (by rw[hlen];omega),aG,fJ (by omega) (by rw[hlen];omega),aG];simp only[eE,b8];rw[acO hX hN g1 g2 hx hy,qc,g1,g2,aG,aG,aG,s1,s2];have iJ:(rs.reverse++y::(y::t)).length=rs.length+t.length+2:=by simp;omega
  simp only[iH];by_cases hlt:x.1<y.1
  .rw[qf (show x.1-y.1<0 by omega),fJ (by omega) (by rw[hlen];omega),aG,aj (show j5 x<j5 y from hlt)];rw[Mr N n hN K0 b i x hx m rs (y::t) (by omega) (by simp only[ct];omega) (fun e he=>hs e (cF _ he))];rw[oq,eI];rfl
  .rw[qg (show ¬ x.1-y.1<0 by omega),af (show ¬ j5 x<j5 y from hlt)];simp
theorem RG(N:Nat)(hN:1<=N)(hW:2000<=N)(K0:List ez->Option (Unit×List ez×Unit)):∀(rest s:List ez)(m:Nat),rest.length<m->s.length+rest.length<=1000->(∀e∈s,qZ e.1)->(∀e∈rest,qZ e.1)->
  zJ (DD X N) N (bk.mk 183 []) K0 m 0 ((s.length+rest.length:Nat):Int) (s.length:Int) (s++rest)=K0 (rest.foldl (j4 j5) s)
 | [],s,0,h,_,_,_=>by omega
 | _::_,s,0,h,_,_,_=>by omega
 | [],s,m+1,_,_,_,_=>by
  simp only[zJ,SU];rw[qg (by simp),gT];rfl
 | x::rest,s,m+1,hf,hl,hs,hr=>by
  simp only[ct]at hf hl;simp only[zJ,SU,qd1];rw[qf (by simp only[ct];omega)];have e:=Mr hX N N hN (fun bR dY iY kr=>qdp (DD X N) N (bk.mk 183 []) (zJ (DD X N) N (bk.mk 183 []) K0 m) K0 bR dY iY kr)
   ((s.length+(x::rest).length:Nat):Int) (s.length:Int) x (hr x e8) N s.reverse rest (by rw[jU];omega) (by rw[jU];omega) (fun e he=>hs e (uI.1 he))
  rw[jU,B6]at e;rw[e];simp only[qdp];rw[qu (by omega)];have e2:=RG N hN hW K0 rest (j4 j5 s x) m (by omega) (by rw[xJ];omega) (fun z hz=>by
   rcases(H6 j5 s x z).1 hz with h | h
   .subst h;exact hr _ e8
   .exact hs z h) (fun z hz=>hr z (cF _ hz))
  rw[xJ]at e2;rw[show s.length+(x::rest).length=s.length+1+rest.length by simp only[ct];omega];exact e2
end
def fG(e:Int):Int:=e
theorem akD(D:Den ctx)(n:Nat):rO D n 0=some ((0,()),()):=by kernel_rfl
theorem akE(D:Den ctx)(n:Nat):rO D n 1=some ((1,()),()):=by kernel_rfl
theorem akF(D:Den ctx)(n:Nat):rO D n 2=some ((2,()),()):=by kernel_rfl
theorem akG(D:Den ctx)(n:Nat):rO D n 3=some ((2,()),()):=by kernel_rfl
theorem akH(D:Den ctx)(n:Nat):rO D n 4=some ((3,()),()):=by kernel_rfl
theorem akI(D:Den ctx)(n:Nat):rO D n 5=some ((3,()),()):=by kernel_rfl
theorem akJ(D:Den ctx)(n:Nat):rO D n 6=some ((3,()),()):=by kernel_rfl
theorem akK(D:Den ctx)(n:Nat):rO D n 7=some ((3,()),()):=by kernel_rfl
theorem akL(D:Den ctx)(n:Nat):rO D n 8=some ((4,()),()):=by kernel_rfl
theorem akM(D:Den ctx)(n:Nat):rO D n 9=some ((4,()),()):=by kernel_rfl
theorem ac0(D:Den ctx)(n:Nat):rO D n 10=some ((4,()),()):=by kernel_rfl
theorem ac1(D:Den ctx)(n:Nat):rO D n 11=some ((4,()),()):=by kernel_rfl
theorem ac2(D:Den ctx)(n:Nat):rO D n 12=some ((4,()),()):=by kernel_rfl
section
variable {X:Ext} (hX:fW X) {n:Nat}
include hX
theorem alg(hn:2<=n)(a b:Int):yx (DD X n) a b=some ((decide (a<b),()),()):=by
 obtain⟨n,rfl⟩:∃k,n=k+2:=⟨n-2,by omega⟩
 rw[ahG hX];simp only[YH,OW];rw[agB hX];simp only[qxv,On,qc];rw[show(a != a)=false by simp,aL];rfl
theorem Ms(N n:Nat)(hN:2<=N)(K0:Int->Int->Int->List Int->Option (Unit×List Int×Unit))(b i:Int)(x:Int)(hx:qZ x):∀(m:Nat)(rs t:List Int),rs.length<m->rs.length+t.length<=1000->(∀e∈rs,qZ e)->
  JU (DD X N) n K0 m 0 b i (rs.length:Int) (rs.reverse++x::t)=K0 0 b i ((iH fG rs x).reverse++t)
 | 0,_,_,h,_,_=>by omega
 | m+1,[],t,_,_,_=>by
  simp only[JU,Vj];rw[qg (by simp)];simp[iH]
 | m+1,y::rs,t,hf,hl,hs=>by
  have hy:=hs y e8;have hlen:((y::rs).reverse++x::t).length=rs.length+t.length+2:=by simp;omega
  simp only[ct]at hf hl;have e1:((y::rs).length:Int)=((rs.length+1:Nat):Int):=by simp
  have e2:wrap .i64 (((rs.length+1:Nat):Int)-1)=((rs.length:Nat):Int):=by rw[qs (by omega) (by omega)];omega
  have g1:((y::rs).reverse++x::t).getD (rs.length+1) 0=x:=by have:=Bj (y::rs).reverse x t 0;rw[jU,ct]at this;exact this
  have g2:((y::rs).reverse++x::t).getD rs.length 0=y:=by have:=Bj rs.reverse y (x::t) 0;rw[jU]at this;rw[oq,eI];exact this
  have s1:((y::rs).reverse++x::t).set (rs.length+1) y=rs.reverse++y::(y::t):=by have:=Bt (y::rs).reverse x y t;rw[jU,ct]at this;rw[this,oq,eI];rfl
  have s2:(rs.reverse++y::(y::t)).set rs.length x=rs.reverse++x::(y::t):=by have:=Bt rs.reverse y x (y::t);rw[jU]at this;exact this
  simp only[JU,Vj];rw[e1,e2,qf (by omega),fJ (by omega) (by rw[hlen];omega),aG,fJ (by omega) (by rw[hlen];omega),aG];simp only[eE,b8];rw[g1,g2,alg hX hN,qc];dsimp only;rw[aG,aG,aG,s1,s2];have iJ:(rs.reverse++y::(y::t)).length=rs.length+t.length+2:=by simp;omega
  simp only[iH];by_cases hlt:x<y
  .rw[qf (show x<y from hlt),fJ (by omega) (by rw[hlen];omega),aG,aj (show fG x<fG y from hlt)];rw[Ms N n hN K0 b i x hx m rs (y::t) (by omega) (by simp only[ct];omega) (fun e he=>hs e (cF _ he))];rw[oq,eI];rfl
  .rw[qg (show ¬ x<y from hlt),af (show ¬ fG x<fG y from hlt)];simp
theorem RH(N:Nat)(hN:2<=N)(hW:2000<=N)(K0:List Int->Option (Unit×List Int×Unit)):∀(rest s:List Int)(m:Nat),rest.length<m->s.length+rest.length<=1000->(∀e∈s,qZ e)->(∀e∈rest,qZ e)->
  zK (DD X N) N K0 m 0 ((s.length+rest.length:Nat):Int) (s.length:Int) (s++rest)=K0 (rest.foldl (j4 fG) s)
 | [],s,0,h,_,_,_=>by omega
 | _::_,s,0,h,_,_,_=>by omega
 | [],s,m+1,_,_,_,_=>by
  simp only[zK,SE];rw[qg (by simp),gT];rfl
 | x::rest,s,m+1,hf,hl,hs,hr=>by
  simp only[ct]at hf hl;simp only[zK,SE,qf9];rw[qf (by simp only[ct];omega)];have e:=Ms hX N N hN (fun bR dY iY kr=>qf0 (DD X N) N (zK (DD X N) N K0 m) K0 bR dY iY kr)
   ((s.length+(x::rest).length:Nat):Int) (s.length:Int) x (hr x e8) N s.reverse rest (by rw[jU];omega) (by rw[jU];omega) (fun e he=>hs e (uI.1 he))
  rw[jU,B6]at e;rw[e];simp only[qf0];rw[qu (by omega)];have e2:=RH N hN hW K0 rest (j4 fG s x) m (by omega) (by rw[xJ];omega) (fun z hz=>by
   rcases(H6 fG s x z).1 hz with h | h
   .subst h;exact hr _ e8
   .exact hs z h) (fun z hz=>hr z (cF _ hz))
  rw[xJ]at e2;rw[show s.length+(x::rest).length=s.length+1+rest.length by simp only[ct];omega];exact e2
theorem N_(hn:2<=n)(k:Nat)(hk:k<=12):∃v,VO (DD X n) (IntKind.wrap IntKind.u64 (k:Int))=some ((v,()),()):=by
 obtain⟨n,rfl⟩:∃k,n=k+2:=⟨n-2,by omega⟩
 have hw:IntKind.wrap IntKind.u64 (k:Int)=(k:Int):=by
  have:∀j:Fin 13,IntKind.wrap IntKind.u64 ((j:Nat):Int)=((j:Nat):Int):=by decide +kernel
  exact this ⟨k,by omega⟩
 rw[hw,agf hX];simp only[qxz,OB];rw[aff hX];have key:∃v,rO (DD X n) n (k:Int)=some ((v,()),()):=by
  match k,hk with
  | 0,_=>exact⟨_,akD _ _⟩
  | 1,_=>exact⟨_,akE _ _⟩
  | 2,_=>exact⟨_,akF _ _⟩
  | 3,_=>exact⟨_,akG _ _⟩
  | 4,_=>exact⟨_,akH _ _⟩
  | 5,_=>exact⟨_,akI _ _⟩
  | 6,_=>exact⟨_,akJ _ _⟩
  | 7,_=>exact⟨_,akK _ _⟩
  | 8,_=>exact⟨_,akL _ _⟩
  | 9,_=>exact⟨_,akM _ _⟩
  | 10,_=>exact⟨_,ac0 _ _⟩
  | 11,_=>exact⟨_,ac1 _ _⟩
  | 12,_=>exact⟨_,ac2 _ _⟩
  | k+13,h=>omega
 obtain⟨v,e⟩:=key;rw[e,qc];exact⟨v,rfl⟩
theorem akm(hn:W+6<=n)(l:List Int)(hl:l.length<=12)(hs:∀e∈l,qZ e):Vp (DD X n) l=some ((),l.foldl (j4 fG) [],()):=by
 obtain⟨n,rfl⟩:∃k,n=k+3:=⟨n-3,by omega⟩
 have hW:=d7;rw[adG hX];simp only[qnj,qxd];obtain⟨v,e⟩:=N_ hX (n:=n+2) (by omega) l.length hl;rw[e,qc];dsimp only;rw[q3r hX];simp only[qjo,qjy,qij];rw[show n+1=n+1 from rfl];simp only[Vl,qi7];rw[qs (by omega) (by omega),qf (by omega),qvd hX];simp only[qgy,qg3,qf8];rw[show wrap .i64 (0+1)=((1:Nat):Int) by decide +kernel];cases l with
 | nil=>
  obtain⟨n,rfl⟩:∃k,n=k+1:=⟨n-1,by omega⟩
  simp only[zK,SE];rw[qg (by simp)];rfl
 | cons x l=>have:=RH hX n (by omega) (by omega) (fun bR=>qjx (DD X n) n bR) l [x] n (by simp only[ct]at hl;omega) (by simp only[ct,gB]at hl⊢;omega) (fun e he=>hs e (by simp only[d9]at he;subst he;exact e8)) (fun e he=>hs e (cF _ he));simp only[ct,gB,kB,SO]at this⊢;rw[show l.length+1=1+l.length by omega,this];rfl
theorem akl(hn:W+6<=n)(l:List ez)(hl:l.length<=12)(hs:∀e∈l,qZ e.1):Vf (DD X n) l (bk.mk 183 [])=some ((),l.foldl (j4 j5) [],()):=by
 obtain⟨n,rfl⟩:∃k,n=k+3:=⟨n-3,by omega⟩
 have hW:=d7;rw[qpm hX];simp only[qex,qii];obtain⟨v,e⟩:=N_ hX (n:=n+2) (by omega) l.length hl;rw[e,qc];dsimp only;rw[qug hX];simp only[qgn,qgr,qf1];simp only[Vi,qgb];rw[qs (by omega) (by omega),qf (by omega),qos hX];simp only[qem,qet,qd0];rw[show wrap .i64 (0+1)=((1:Nat):Int) by decide +kernel];cases l with
 | nil=>
  obtain⟨n,rfl⟩:∃k,n=k+1:=⟨n-1,by omega⟩
  simp only[zJ,SU];rw[qg (by simp)];rfl
 | cons x l=>have:=RG hX n (by omega) (by omega) (fun bR=>qg7 (DD X n) n (bk.mk 183 []) bR) l [x] n (by simp only[ct]at hl;omega) (by simp only[ct,gB]at hl⊢;omega) (fun e he=>hs e (by simp only[d9]at he;subst he;exact e8)) (fun e he=>hs e (cF _ he));simp only[ct,gB,kB,SO]at this⊢;rw[show l.length+1=1+l.length by omega,this];rfl
end
def gW(got:dM)(p:Int)(f:Int->Int):List ez:=bif hit got p then [(p,(eX got p).1,f (eX got p).1,())] else []
theorem xM{got:dM}{p:Int}(h:hit got p=true)(f:Int->Int):gW got p f=[(p,(eX got p).1,f (eX got p).1,())]:=by unfold gW;rw[h];rfl
theorem A6{got:dM}{p:Int}(h:hit got p=false)(f:Int->Int):gW got p f=[]:=by unfold gW;rw[h];rfl
theorem Cw(got:dM)(p:Int)(f:Int->Int):(gW got p f).length<=1:=by unfold gW;cases hit got p<;>simp
def one(v:Int):Int:=wrap .i64 (v+1)
def less(v:Int):Int:=if wrap .i64 (v-1)>0 then wrap .i64 (v-1) else 0
def g_(l:List ez)(e:ez):List ez:=l.takeWhile (fun y=>decide (y.1<e.1))++e::l.dropWhile (fun y=>decide (y.1<e.1))
theorem Sq(l:List ez)(e:ez):(g_ l e).length=l.length+1:=by unfold g_;have:=ew List.length (FU (p:=fun y:ez=>decide (y.1<e.1)) (l:=l));rw[cT]at this⊢;rw[ct];omega
theorem Ie(got:dM)(p:Int):(bif decide (p<0) then true else !(eX got p).2)=!hit got p:=by
 unfold hit;by_cases h:p<0
 .rw[bw h,b7 (by omega:¬ 0<=p)];rfl
 .rw[b7 h,bw (by omega:0<=p)];rfl
section
variable {X:Ext} (hX:fW X) {n:Nat} {got:dM}
include hX
theorem uz(hn:W+2<=n)(hg:got.length<=1048576){out:List ez}(ho:out.length<=100)(p to:Int):vO (DD X n) p to 0 got out=some ((),(out++gW got p (fun _=>to)),()):=by
 obtain⟨n,rfl⟩:∃k,n=k+1:=⟨n-1,by omega⟩
 have hb:=i_;rw[qv6 hX];simp only[Te,VJ];rw[yF hX (by omega) got hg,qc];dsimp only;rw[Ie];cases h:hit got p
 .rw[i6,aG,A6 h,gT]
 .rw[cJ,aL,qg (by decide),qg (by decide),qf (by omega),xM h]
theorem alj(hn:W+2<=n)(hg:got.length<=1048576){out:List ez}(ho:out.length<=100)(p to:Int):vO (DD X n) p to 1 got out=some ((),(out++gW got p one),()):=by
 obtain⟨n,rfl⟩:∃k,n=k+1:=⟨n-1,by omega⟩
 have hb:=i_;rw[qv6 hX];simp only[Te,VJ];rw[yF hX (by omega) got hg,qc];dsimp only;rw[Ie];cases h:hit got p
 .rw[i6,aG,A6 h,gT]
 .rw[cJ,aL,qf trivial,qf (by omega),xM h];rfl
theorem alk(hn:W+2<=n)(hg:got.length<=1048576){out:List ez}(ho:out.length<=100)(p to:Int):vO (DD X n) p to (-1) got out=some ((),(out++gW got p less),()):=by
 obtain⟨n,rfl⟩:∃k,n=k+1:=⟨n-1,by omega⟩
 have hb:=i_;rw[qv6 hX];simp only[Te,VJ];rw[yF hX (by omega) got hg,qc];dsimp only;rw[Ie];cases h:hit got p
 .rw[i6,aG,A6 h,gT]
 .rw[cJ,aL,qg (by decide),qf trivial,qf (by omega),xM h];rfl
end
theorem vg(k:Int):((0<=k/\k<=3)/\qw k=k)\/(¬ (0<=k/\k<=3)/\qw k = -1):=by
 unfold qw;by_cases h:0<=k/\k<=3
 .rw[lp.2 h];exact .inl ⟨h,rfl⟩
 .rw[IW h];exact .inr ⟨h,rfl⟩
theorem uZ(v:Int):((1<=v/\v<=6)/\q9 v=3+v)\/(¬ (1<=v/\v<=6)/\q9 v = -1):=by
 unfold q9;by_cases h:1<=v/\v<=6
 .rw[lp.2 h,bA,qs (by omega) (by omega)];exact .inl ⟨h,rfl⟩
 .rw[IW h];exact .inr ⟨h,rfl⟩
theorem oO(v:Int):((1<=v/\v<=6)/\fR v=13+v)\/(¬ (1<=v/\v<=6)/\fR v = -1):=by
 unfold fR;by_cases h:1<=v/\v<=6
 .rw[lp.2 h,bA,qs (by omega) (by omega)];exact .inl ⟨h,rfl⟩
 .rw[IW h];exact .inr ⟨h,rfl⟩
theorem uX(c:Int):((0<=c/\c<=2)/\iS c=10+c)\/(¬ (0<=c/\c<=2)/\iS c = -1):=by
 unfold iS;by_cases h:0<=c/\c<=2
 .rw[lp.2 h,bA,qs (by omega) (by omega)];exact .inl ⟨h,rfl⟩
 .rw[IW h];exact .inr ⟨h,rfl⟩
theorem yI(v:Int):((1<=v/\v<=6)/\0<=qh v/\qh v<=2)\/(¬ (1<=v/\v<=6)/\qh v = -1):=by
 unfold qh;by_cases h:1<=v/\v<=6
 .rw[lp.2 h,bA,FX (by omega)];exact .inl ⟨h,Gf _ (by omega),by have:=FK v (show(0:Int)<3 by omega);omega⟩
 .rw[IW h];exact .inr ⟨h,rfl⟩
def lM(l:List ez):Prop:=l.Pairwise fun a b=>a.1<b.1
theorem H9(p:Int):∀(l:List ez),lM l->∀y∈l.dropWhile (fun y=>decide (y.1<p)),p<=y.1
 | [],_,y,h=>by simp at h
 | x::l,hs,y,h=>by
  have lS:=me.1 hs;by_cases hx:x.1<p
  .rw[List.dropWhile_cons_of_pos (by exact bw hx)]at h;exact H9 p l lS.2 y h
  .rw[List.dropWhile_cons_of_neg (by simpa using hx)]at h;rcases bh.1 h with h | h
   .subst h;omega
   .have:=lS.1 y h;omega
theorem Il(p:Int):∀(l:List ez),∀y∈l.takeWhile (fun y=>decide (y.1<p)),y.1<p
 | [],y,h=>by simp at h
 | x::l,y,h=>by
  by_cases hx:x.1<p
  .rw[List.takeWhile_cons_of_pos (by exact bw hx)]at h;rcases bh.1 h with h | h
   .subst h;exact hx
   .exact Il p l y h
  .rw[List.takeWhile_cons_of_neg (by simpa using hx)]at h;simp at h
theorem Sr(l:List ez)(e z:ez):z∈g_ l e↔z=e\/z∈l:=by
 unfold g_;have h:z∈l↔z∈l.takeWhile (fun y=>decide (y.1<e.1))\/z∈l.dropWhile (fun y=>decide (y.1<e.1)):=by rw[<-bN,FU]
 rw[bN,bh,h];constructor
 .rintro(h | h | h)
  .exact .inr (.inl h)
  .exact .inl h
  .exact .inr (.inr h)
 .rintro(h | h | h)
  .exact .inr (.inl h)
  .exact .inl h
  .exact .inr (.inr h)
theorem acY{l:List ez}(hs:lM l){e:ez}(he:∀y∈l,y.1≠e.1):lM (g_ l e):=by
 unfold g_;have hd:∀y∈l.dropWhile (fun y=>decide (y.1<e.1)),e.1<y.1:=fun y hy=>by
  have h1:=H9 e.1 l hs y hy;have h2:=he y (F7 _ |>.mem hy);omega
 have ht:=Il e.1 l;refine yf.2 ⟨hs.sublist (List.takeWhile_sublist _),me.2 ⟨hd,hs.sublist (F7 _)⟩,fun a ha b hb=>?_⟩;have h1:=ht a ha;rcases bh.1 hb with h | h
 .subst h;exact h1
 .have:=hd b h;omega
theorem akf{l:List ez}(hs:lM l){e:ez}(he:∀y∈l,y.1≠e.1):j4 j5 l e=g_ l e:=by
 have hd:∀y∈l.dropWhile (fun y=>decide (y.1<e.1)),e.1<y.1:=fun y hy=>by
  have h1:=H9 e.1 l hs y hy;have h2:=he y (F7 _ |>.mem hy);omega
 have ht:=Il e.1 l;have:=Nv j5 e (l.takeWhile (fun y=>decide (y.1<e.1))) (fun y hy=>by have:=ht y hy;unfold j5;omega) (l.dropWhile (fun y=>decide (y.1<e.1))).reverse (fun y hy=>hd y (uI.1 hy));rw[B6,FU]at this;rw[this];rfl
def FB(l:List ez):Prop:=l.Pairwise fun a b=>a.1≠b.1
theorem RU:∀(L acc:List ez),lM acc->FB L->(∀a∈acc,∀e∈L,a.1≠e.1)->L.foldl (j4 j5) acc=L.foldl g_ acc/\lM (L.foldl g_ acc)/\(∀z,z∈L.foldl g_ acc↔z∈acc\/z∈L)/\(L.foldl g_ acc).length=acc.length+L.length
 | [],acc,h,_,_=>⟨rfl,h,fun z=>by simp,rfl⟩
 | e::L,acc,h,hL,hx=>by
  have hL2:=me.1 hL;have he:∀y∈acc,y.1≠e.1:=fun y hy=>hx y hy e e8;simp only[nK];rw[akf h he];obtain⟨r1,r2,r3,r4⟩:=RU L (g_ acc e) (acY h he) hL2.2 (fun a ha b hb=>by
   rcases(Sr acc e a).1 ha with q | q
   .subst q;exact hL2.1 b hb
   .exact hx a q b (cF _ hb))
  refine⟨r1,r2,fun z=>?_,by rw[r4,Sq,ct];omega⟩;rw[r3 z,Sr,bh];constructor
  .rintro((h | h) | h)
   .exact .inr (.inl h)
   .exact .inl h
   .exact .inr (.inr h)
  .rintro(h | h | h)
   .exact .inl (.inr h)
   .exact .inl (.inl h)
   .exact .inr h
theorem QW:∀(L acc:List ez),(L.foldl g_ acc).length=acc.length+L.length
 | [],acc=>rfl
 | e::L,acc=>by rw[nK,QW L,Sq,ct];omega
abbrev Want:=Int×(Int->Int)
def iu(got:dM)(L:List Want):List ez:=L.flatMap fun p=>gW got p.1 p.2
theorem HF(got:dM):∀(L:List Want),(iu got L).length<=L.length
 | []=>cq _
 | p::L=>by
  have h1:=Cw got p.1 p.2;have h2:=HF got L;show((p::L).flatMap _).length<=_;rw[B_,cT,ct];have:(L.flatMap fun p=>gW got p.1 p.2).length<=L.length:=h2;omega
theorem Jx(got:dM)(L:List Want)(e:ez):e∈iu got L↔∃p∈L,hit got p.1=true/\e=(p.1,(eX got p.1).1,p.2 (eX got p.1).1,()):=by
 unfold iu;rw[List.mem_flatMap];constructor
 .rintro⟨p,hp,he⟩;refine⟨p,hp,?_⟩;unfold gW at he;cases h:hit got p.1
  .rw[h]at he;simp at he
  .rw[h]at he;simp only[bA,d9]at he;exact⟨rfl,he⟩
 .rintro⟨p,hp,h,rfl⟩;exact⟨p,hp,by rw[xM h];exact d9.2 rfl⟩
theorem Bl{got:dM}{p:Int}(h:hit got p=true):0<=p:=by unfold hit at h;simp only[bI,gS]at h;exact h.1
theorem Qw(got:dM):∀(L:List Want),(L.Pairwise fun p q=>0<=p.1->p.1≠q.1)->FB (iu got L)
 | [],_=>List.Pairwise.nil
 | p::L,h=>by
  have h2:=me.1 h;have ih:=Qw got L h2.2;show FB ((p::L).flatMap _);rw[B_];cases hh:hit got p.1
  .rw[A6 hh];exact ih
  .rw[xM hh];refine me.2 ⟨fun e he=>?_,ih⟩;obtain⟨q,hq,_,rfl⟩:=(Jx got L e).1 he;exact h2.1 q hq (Bl hh)
theorem aaX(got:dM)(L:List Want)(h:∀p∈L,p.1<=19):∀e∈iu got L,qZ e.1:=by intro e he;obtain⟨p,hp,hh,rfl⟩:=(Jx got L e).1 he;have h1:=Bl hh;have h2:=h p hp;exact⟨by show -1000<=p.1;omega,by show p.1<=1000;omega⟩
def e_(K V held st:Int):List Want:=
 [(qw K,fun _=>V),(13,fun _=>st),(q9 held,fun _=>0),(fR held,fun _=>0),(q9 V,fun _=>wrap .i64 (K+1)),(fR V,fun _=>wrap .i64 (K+1))]++
  (bif qh held != qh V then [(iS (qh held),less),(iS (qh V),one)] else [])
theorem Sa(K V held st:Int):(e_ K V held st).length<=8:=by unfold e_;cases qh held != qh V<;>simp
theorem MX(K V held st:Int):∀p∈e_ K V held st,p.1<=19:=by
 have h1:=vg K;have h2:=uZ held;have h3:=uZ V;have h4:=oO held;have h5:=oO V;have h6:=uX (qh held);have h7:=uX (qh V);unfold e_;cases qh held != qh V
 .intro p hp;simp only[bf,gT,bh,dg,dj]at hp;rcases hp with rfl | rfl | rfl | rfl | rfl | rfl<;>dsimp only<;>omega
 .intro p hp;simp only[bA,fI,gA,bh,dg,dj]at hp;rcases hp with rfl | rfl | rfl | rfl | rfl | rfl | rfl | rfl<;>dsimp only<;>omega
theorem aaT{K V held st:Int}(hv:1<=held/\held<=6->held≠V):(e_ K V held st).Pairwise fun p q=>0<=p.1->p.1≠q.1:=by
 have h1:=vg K;have h2:=uZ held;have h3:=uZ V;have h4:=oO held;have h5:=oO V;have h6:=uX (qh held);have h7:=uX (qh V);unfold e_;cases hc:qh held != qh V
 .simp only[bf,gT,me,bh,dg,dj,uJ,uP,List.Pairwise.nil,iQ,Ce,uO,BT];refine⟨⟨?_,?_,?_,?_,?_⟩,⟨?_,?_,?_,?_⟩,⟨?_,?_,?_⟩,⟨?_,?_⟩,?_⟩<;>omega
 .have hne:qh held≠qh V:=by simpa using hc
  simp only[bA,fI,gA,me,bh,dg,dj,uJ,uP,List.Pairwise.nil,iQ,Ce,uO,BT];refine⟨⟨?_,?_,?_,?_,?_,?_,?_⟩,⟨?_,?_,?_,?_,?_,?_⟩,⟨?_,?_,?_,?_,?_⟩,⟨?_,?_,?_,?_⟩,⟨?_,?_,?_⟩,⟨?_,?_⟩,?_⟩<;>omega
section
variable {X:Ext} (hX:fW X) {n:Nat} {got:dM}
include hX
theorem abI(hn:W+9<=n)(hg:got.length<=1048576)(k K V held st:Int) :
  VS (DD X n) (k,K,V,()) got held st=some (((iu got (e_ K V held st)).foldl (j4 j5) [],()),()):=by
 obtain⟨n,rfl⟩:∃k,n=k+1:=⟨n-1,by omega⟩
 have hW:=d7;obtain⟨E1,h1⟩:∃E,E=gW got (qw K) (fun _=>V):=⟨_,rfl⟩
 obtain⟨E2,h2⟩:∃E,E=gW got 13 (fun _=>st):=⟨_,rfl⟩
 obtain⟨E3,h3⟩:∃E,E=gW got (q9 held) (fun _=>0):=⟨_,rfl⟩
 obtain⟨E4,h4⟩:∃E,E=gW got (fR held) (fun _=>0):=⟨_,rfl⟩
 obtain⟨E5,h5⟩:∃E,E=gW got (q9 V) (fun _=>wrap .i64 (K+1)):=⟨_,rfl⟩
 obtain⟨E6,h6⟩:∃E,E=gW got (fR V) (fun _=>wrap .i64 (K+1)):=⟨_,rfl⟩
 obtain⟨E7,h7⟩:∃E,E=gW got (iS (qh held)) less:=⟨_,rfl⟩
 obtain⟨E8,h8⟩:∃E,E=gW got (iS (qh V)) one:=⟨_,rfl⟩
 have l1:E1.length<=1:=by rw[h1];exact Cw ..
 have l2:E2.length<=1:=by rw[h2];exact Cw ..
 have l3:E3.length<=1:=by rw[h3];exact Cw ..
 have l4:E4.length<=1:=by rw[h4];exact Cw ..
 have l5:E5.length<=1:=by rw[h5];exact Cw ..
 have l6:E6.length<=1:=by rw[h6];exact Cw ..
 have l7:E7.length<=1:=by rw[h7];exact Cw ..
 have l8:E8.length<=1:=by rw[h8];exact Cw ..
 have hs:=fun l hl hk=>akl hX (n:=n) (by omega) l hl hk;have hlen:=nL (HF got (e_ K V held st)) (Sa K V held st);have iK:=aaX got (e_ K V held st) (MX K V held st);have heq:iu got (e_ K V held st)=bif qh held != qh V then []++E1++E2++E3++E4++E5++E6++E7++E8 else []++E1++E2++E3++E4++E5++E6:=by
  unfold iu e_;cases qh held != qh V
  .simp only[bf,gT,B_,List.flatMap_nil,gA,eI,<-h1,<-h2,<-h3,<-h4,<-h5,<-h6]
  .simp only[bA,fI,gA,gT,B_,List.flatMap_nil,eI,<-h1,<-h2,<-h3,<-h4,<-h5,<-h6,<-h7,<-h8]
 rw[ahV hX];simp only[YU,O1];rw[yH hX (by omega),qc];dsimp only;rw[uz hX (by omega) hg (by simp),<-h1,qc];dsimp only;rw[yE hX (by omega),qc];dsimp only;rw[uz hX (by omega) hg (by simp only[cT,gB];omega),<-h2,qc];dsimp only;rw[Du hX (by omega),qc];dsimp only;rw[uz hX (by omega) hg (by simp only[cT,gB];omega),<-h3,qc];dsimp only;rw[Co hX (by omega),qc];dsimp only;rw[uz hX (by omega) hg (by simp only[cT,gB];omega),<-h4,qc];dsimp only;rw[Du hX (by omega),qc];dsimp only;rw[uz hX (by omega) hg (by simp only[cT,gB];omega),<-h5,qc];dsimp only;rw[Co hX (by omega),qc];dsimp only;rw[uz hX (by omega) hg (by simp only[cT,gB];omega),<-h6,qc];dsimp only;rw[IL hX (by omega),qc,IL hX (by omega),qc];dsimp only;cases hc:qh held != qh V
 .rw[hc,bf]at heq;rw[aL,<-heq,hs _ (by omega) iK,qc]
 .rw[hc,bA]at heq;rw[aG];simp only[qc];rw[Dt hX (by omega),qc];dsimp only;rw[alk hX (by omega) hg (by simp only[cT,gB];omega),<-h7,qc];dsimp only;rw[Dt hX (by omega),qc];dsimp only;rw[alj hX (by omega) hg (by simp only[cT,gB];omega),<-h8,qc];dsimp only;rw[<-heq,hs _ (by omega) iK,qc]
end
def di(o:cL):Bool:=
 bif decide (o.1=1)||decide (o.1=2) then bu o.2.1 0 3&&bu o.2.2.1 1 6
 else bif decide (o.1=3)||decide (o.1=4) then bu o.2.1 0 3&&decide (o.2.2.1=0)
 else bif decide (o.1=5)||decide (o.1=10) then decide (o.2.1=0)&&bu o.2.2.1 1 6
 else bif decide (o.1=6) then bu o.2.1 0 2&&decide (o.2.2.1=0)
 else bif decide (o.1=7)||(decide (o.1=8)||decide (o.1=9)) then decide (o.2.1=0)&&decide (o.2.2.1=0) else false
def jO(k V row owner st cnt:Int):Option (Int×List Int):=
 if k=1/\row≠0 then some (1,[]) else
 if k=1/\owner≠0 then some (2,[]) else
 if (k=2\/k=3\/k=4)/\row=0 then some (3,[]) else
 if k=2/\row=V then some (0,[]) else
 if k=2/\owner≠0 then some (2,[]) else
 if k=4 then some (0,[row]) else
 if k=5/\owner=0 then some (3,[]) else
 if k=5 then some (0,[wrap .i64 (owner-1)]) else
 if k=6 then some (0,[cnt]) else
 if k=8/\st≠0 then some (4,[]) else
 if k=9/\(st<1\/st>4) then some (4,[]) else
 if k=10/\st≠5 then some (4,[]) else none
def sL:Option (Int×List Int)->(Int×List Int×Unit)×Bool×Unit
 | some x=>((x.1,x.2,()),true,())
 | none=>((0,[],()),false,())
abbrev pQ:=Bool×(Int×List Int×Unit)×List ez×Unit
def mM(o:cL)(got:dM):Option (Int×List Int):=
 jO o.1 o.2.2.1 (eX got (qw o.2.1)).1 (eX got (q9 o.2.2.1)).1 (eX got 13).1 (eX got (iS o.2.1)).1
theorem bH(a b:Int):(a != b)=!decide (a=b):=by by_cases h:a=b<;>simp[h]
section
variable {X:Ext} (hX:fW X) {n:Nat} {got:dM}
include hX
theorem abd(hn:4<=n)(k K V:Int):UX (DD X n) (k,K,V,())=some ((di (k,K,V,()),()),()):=by
 obtain⟨n,rfl⟩:∃k,n=k+1:=⟨n-1,by omega⟩
 rw[aax hX];simp only[GD,Qi];simp only[Rb hX (n:=n) (by omega),Ke hX (n:=n) (by omega),yR hX (n:=n) (by omega),MJ hX (n:=n) (by omega),yL hX (n:=n) (by omega),qc];unfold di;dsimp only;generalize hA:bu K 0 3=A;generalize hB:bu V 1 6=B;generalize hC:bu K 0 2=C;generalize hD:decide (K=0)=D;generalize hE:decide (V=0)=E;by_cases h:1<=k/\k<=10
 .have:k=1\/k=2\/k=3\/k=4\/k=5\/k=6\/k=7\/k=8\/k=9\/k=10:=by omega
  rcases this with rfl | rfl | rfl | rfl | rfl | rfl | rfl | rfl | rfl | rfl<;>cases A<;>cases B<;>cases C<;>cases D<;>cases E<;>rfl
 .rw[IW h,i6,aG];simp only[b7 (by omega:¬ k=1),b7 (by omega:¬ k=2),b7 (by omega:¬ k=3),b7 (by omega:¬ k=4),b7 (by omega:¬ k=5),b7 (by omega:¬ k=6),b7 (by omega:¬ k=7),b7 (by omega:¬ k=8),b7 (by omega:¬ k=9),b7 (by omega:¬ k=10),Bool.or_false,bf]
theorem T8(hn:5<=n)(k K V:Int):Ds (DD X n) (k,K,V,())=some ((di (k,K,V,()),()),()):=by
 obtain⟨n,rfl⟩:∃k,n=k+1:=⟨n-1,by omega⟩
 rw[aaq hX];simp only[Gy,P8];simp only[Ra hX (n:=n) (by omega),IU hX (n:=n) (by omega),R6 hX (n:=n) (by omega),qc];unfold di;dsimp only;generalize hA:bu K 0 3=A;generalize hB:bu V 1 6=B;generalize hC:bu K 0 2=C;generalize hD:decide (K=0)=D;generalize hE:decide (V=0)=E;by_cases h:1<=k/\k<=10
 .have:k=1\/k=2\/k=3\/k=4\/k=5\/k=6\/k=7\/k=8\/k=9\/k=10:=by omega
  rcases this with rfl | rfl | rfl | rfl | rfl | rfl | rfl | rfl | rfl | rfl<;>cases A<;>cases B<;>cases C<;>cases D<;>cases E<;>rfl
 .simp only[b7 (by omega:¬ k=1),b7 (by omega:¬ k=2),b7 (by omega:¬ k=3),b7 (by omega:¬ k=4),b7 (by omega:¬ k=5),b7 (by omega:¬ k=6),b7 (by omega:¬ k=7),b7 (by omega:¬ k=8),b7 (by omega:¬ k=9),b7 (by omega:¬ k=10),Bool.or_false,bf,aL]
theorem acg(hn:W+5<=n)(hg:got.length<=1048576)(o:cL):ZO (DD X n) o got=some (sL (mM o got),()):=by
 obtain⟨n,rfl⟩:∃k,n=k+1:=⟨n-1,by omega⟩
 have hW:=d7;obtain⟨k,K,V,⟨⟩⟩:=o;rw[aiU hX];simp only[ZA,Pe];simp only[yH hX (n:=n) (by omega),Du hX (n:=n) (by omega),Dt hX (n:=n) (by omega),yE hX (n:=n) (by omega),yF hX (n:=n) (by omega) got hg,qc];unfold mM;dsimp only;generalize (eX got (qw K)).1=row;generalize (eX got (q9 V)).1=owner;generalize (eX got 13).1=st;generalize (eX got (iS K)).1=cnt;unfold jO;by_cases h:1<=k/\k<=10
 .have:k=1\/k=2\/k=3\/k=4\/k=5\/k=6\/k=7\/k=8\/k=9\/k=10:=by omega
  rcases this with rfl | rfl | rfl | rfl | rfl | rfl | rfl | rfl | rfl | rfl
  .by_cases r0:row=0<;>by_cases w0:owner=0<;>simp[r0,w0,br,sL,bH]
  .by_cases rV:row=V
   .subst rV;by_cases r0:row=0<;>simp[r0,br,sL,bH]
   .by_cases r0:row=0<;>by_cases w0:owner=0<;>simp[r0,rV,w0,br,sL,bH]
  .by_cases r0:row=0<;>simp[r0,br,sL,bH]
  .by_cases r0:row=0<;>simp[r0,br,sL,bH]
  .by_cases w0:owner=0<;>simp[w0,br,sL,bH]
  .simp[br,sL,bH]
  .simp[br,sL,bH]
  .by_cases s0:st=0<;>simp[s0,br,sL,bH]
  .by_cases s1:st<1<;>by_cases s4:4<st<;>simp[s1,s4,br,sL,bH]
  .by_cases s5:st=5<;>simp[s5,br,sL,bH]
 .simp only[b7 (by omega:¬ k=1),b7 (by omega:¬ k=2),b7 (by omega:¬ k=3),b7 (by omega:¬ k=4),b7 (by omega:¬ k=5),b7 (by omega:¬ k=6),b7 (by omega:¬ k=7),b7 (by omega:¬ k=8),b7 (by omega:¬ k=9),b7 (by omega:¬ k=10),bf,aL];have k1:¬ k=1:=by omega
  have k2:¬ k=2:=by omega
  have k3:¬ k=3:=by omega
  have k4:¬ k=4:=by omega
  have k5:¬ k=5:=by omega
  have k6:¬ k=6:=by omega
  have k8:¬ k=8:=by omega
  have k9:¬ k=9:=by omega
  have js:¬ k=10:=by omega
  simp[k1,k2,k3,k4,k5,k6,k8,k9,js,sL]
end
def val(got:dM)(p:Int):Int:=(eX got p).1
def mG(k row st p old:Int):Int:=if k=8 then wrap .i64 (old+1) else if k=9 then (if p=13 then wrap .i64 (old+1) else if p=fR row then st else old) else old
def same(got:dM)(p:Int):ez:=(p,val got p,val got p,())
def dJ(o:cL)(got:dM):List ez:=
 if o.1=1\/o.1=2\/o.1=3 then (iu got (e_ o.2.1 o.2.2.1 (val got (qw o.2.1)) (val got 13))).foldl g_ [] else
 if o.1=7 then [same got 0,same got 1,same got 2,same got 3] else
 if o.1=8 then [(13,val got 13,1,())] else
 if o.1=9 then same got (qw (wrap .i64 (val got 13-1)))::(13,val got 13,wrap .i64 (val got 13+1),())::
  (bif bu (val got (qw (wrap .i64 (val got 13-1)))) 1 6 then [(fR (val got (qw (wrap .i64 (val got 13-1)))),val got (fR (val got (qw (wrap .i64 (val got 13-1))))),val got 13,())] else []) else
 if o.1=10 then [same got 13,same got (fR o.2.2.1)] else []
def eH(o:cL)(got:dM):Int×List Int×Unit:=
 if o.1=7 then (0,[val got 0,val got 1,val got 2,val got 3],()) else
 if o.1=10 then (if val got (fR o.2.2.1)=0 then (3,[],()) else (0,[wrap .i64 (val got (fR o.2.2.1)-1)],())) else (0,[],())
def NG:pQ:=(false,(0,[],()),[],())
def gj(o:cL)(got:dM):pQ×Bool×Unit:=
 if di o=true/\(run got (prog o)).2<0 then
  match mM o got with
  | some x=>((true,(x.1,x.2,()),[],()),true,())
  | none=>((false,eH o got,dJ o got,()),true,())
 else (NG,false,())
theorem zZ{got:dM}{p:Int}{k:Int->PR}(hp:0<=p)(h:(run got (.ask p k)).2<0):hit got p=true/\(run got (k (val got p))).2<0/\(run got (.ask p k)).1=p::(run got (k (val got p))).1:=by
 cases hh:hit got p
 .rw[nQ hh]at h;dsimp only at h;omega
 .rw[nS hh]at h⊢;exact⟨rfl,h,rfl⟩
theorem tL{o:cL}(h:di o=true):((o.1=1\/o.1=2)/\(0<=o.2.1/\o.2.1<=3)/\(1<=o.2.2.1/\o.2.2.1<=6))\/((o.1=3\/o.1=4)/\(0<=o.2.1/\o.2.1<=3)/\o.2.2.1=0)\/
  ((o.1=5\/o.1=10)/\o.2.1=0/\(1<=o.2.2.1/\o.2.2.1<=6))\/(o.1=6/\(0<=o.2.1/\o.2.1<=2)/\o.2.2.1=0)\/((o.1=7\/o.1=8\/o.1=9)/\o.2.1=0/\o.2.2.1=0):=by
 unfold di at h;by_cases Jp:o.1=1\/o.1=2
 .rw[show(decide (o.1=1)||decide (o.1=2))=true by simpa using Jp,bA,bI]at h;exact .inl ⟨Jp,lp.1 h.1,lp.1 h.2⟩
 rw[show(decide (o.1=1)||decide (o.1=2))=false by simpa using Jp,bf]at h;by_cases C_:o.1=3\/o.1=4
 .rw[show(decide (o.1=3)||decide (o.1=4))=true by simpa using C_,bA,bI,gS]at h;exact .inr (.inl ⟨C_,lp.1 h.1,h.2⟩)
 rw[show(decide (o.1=3)||decide (o.1=4))=false by simpa using C_,bf]at h;by_cases k5:o.1=5\/o.1=10
 .rw[show(decide (o.1=5)||decide (o.1=10))=true by simpa using k5,bA,bI,gS]at h;exact .inr (.inr (.inl ⟨k5,h.1,lp.1 h.2⟩))
 rw[show(decide (o.1=5)||decide (o.1=10))=false by simpa using k5,bf]at h;by_cases k6:o.1=6
 .rw[bw k6,bA,bI,gS]at h;exact .inr (.inr (.inr (.inl ⟨k6,lp.1 h.1,h.2⟩)))
 rw[b7 k6,bf]at h;by_cases k7:o.1=7\/o.1=8\/o.1=9
 .rw[show(decide (o.1=7)||(decide (o.1=8)||decide (o.1=9)))=true by simpa using k7,bA,bI,gS,gS]at h;exact .inr (.inr (.inr (.inr ⟨k7,h.1,h.2⟩)))
 .rw[show(decide (o.1=7)||(decide (o.1=8)||decide (o.1=9)))=false by simpa using k7,bf]at h;exact absurd h (by simp)
theorem L_{got:dM}{K V held st:Int}(hv:1<=held/\held<=6->held≠V):(iu got (e_ K V held st)).foldl (j4 j5) []=(iu got (e_ K V held st)).foldl g_ []/\lM ((iu got (e_ K V held st)).foldl g_ [])/\
  (∀z,z∈(iu got (e_ K V held st)).foldl g_ []↔z∈iu got (e_ K V held st))/\((iu got (e_ K V held st)).foldl g_ []).length=(iu got (e_ K V held st)).length:=by
 obtain⟨r1,r2,r3,r4⟩:=RU (iu got (e_ K V held st)) [] List.Pairwise.nil (Qw got _ (aaT hv)) (fun a ha=>by simp at ha);exact⟨r1,r2,fun z=>by rw[r3];simp,by rw[r4];simp⟩
theorem xO{o:cL}{got:dM}(ho:di o=true)(hn:mM o got=none)(hk:o.1=1\/o.1=2\/o.1=3):1<=val got (qw o.2.1)/\val got (qw o.2.1)<=6->val got (qw o.2.1)≠o.2.2.1:=by
 intro h;have:=tL ho;unfold mM jO at hn;rcases hk with k | k | k
 .rw[k]at hn;by_cases h0:(eX got (qw o.2.1)).1=0
  .unfold val at h;omega
  .rw[aj ⟨rfl,h0⟩]at hn;cases hn
 .rw[k]at hn;rw[af (by omega),af (by omega)]at hn;by_cases h0:(eX got (qw o.2.1)).1=0
  .unfold val at h;omega
  .rw[af (by omega)]at hn;by_cases h1:(eX got (qw o.2.1)).1=o.2.2.1
   .rw[aj ⟨rfl,h1⟩]at hn;cases hn
   .exact h1
 .omega
section
variable {X:Ext} (hX:fW X) {n:Nat} {got:dM}
include hX
theorem ach(hn:4<=n)(o:cL)(p old row st:Int):ZP (DD X n) o p old row st=some ((mG o.1 row st p old,()),()):=by
 obtain⟨n,rfl⟩:∃k,n=k+1:=⟨n-1,by omega⟩
 rw[aiV hX];simp only[ZB,Pf];rw[yE hX (by omega),qc,Co hX (by omega),qc];unfold mG;by_cases h8:o.1=8
 .rw[qf h8,aj h8]
 rw[qg h8,af h8];by_cases h9:o.1=9
 .rw[qf h9,aj h9];by_cases h1:p=13
  .rw[qf h1,aj h1]
  rw[qg h1,af h1];by_cases h2:p=fR row
  .rw[qf h2,aj h2]
  .rw[qg h2,af h2]
 .rw[qg h9,af h9]
theorem Fu(N n:Nat)(hN:W+2<=N)(hg:got.length<=1048576)(K:dM->cL->pQ->pQ->Option ((pQ×Bool×Unit)×Unit))(st row:Int)(o:cL)(x6:pQ)(g:dM)(P:List Int)(mo:Int×Bool×Unit)(hP:P.length<=20) :
  ∀(m i:Nat)(rl:List Int)(el:List ez),i<=P.length->P.length-i<m->rl.length<=i->el.length<=i->
  J3 (DD X N) n K m got st row (P.length:Int) (i:Int) o x6 (false,(0,rl,()),el,()) (g,P,mo) =
   K got o x6 (false,(0,rl++(if o.1=7 then (P.drop i).map (val got) else []),()),el++(P.drop i).map (fun p=>(p,val got p,mG o.1 row st p (val got p),())),())
 | 0,_,_,_,_,h,_,_=>by omega
 | m+1,i,rl,el,hi,hf,h1,h2=>by
  have hb:=i_;have hW:=d7;simp only[J3,Zi];by_cases h:i<P.length
  .rw[qf (by omega),ix h,aG,yF hX (by omega) got hg,qc,eE,qv h];dsimp only;rw[ach hX (by omega),qc];dsimp only;rw[qf (by omega),uT h];simp only[cv];by_cases h7:o.1=7
   .rw[qf h7,qf (by omega),qu (by omega)];rw[Fu N n hN hg K st row o x6 g P mo hP m (i+1) _ _ (by omega) (by omega) (by rw[cT,nI];omega) (by rw[cT,nI];omega)];rw[aj h7,aj h7,eI,eI];rfl
   .rw[qg h7,qu (by omega)];rw[Fu N n hN hg K st row o x6 g P mo hP m (i+1) _ _ (by omega) (by omega) (by omega) (by rw[cT,nI];omega)];rw[af h7,af h7,eI];rfl
  .rw[qg (by omega),uY h];simp
end
theorem Hl{o:cL}{got:dM}(ho:di o=true)(hn:mM o got=none)(hr:(run got (prog o)).2<0)(hk:¬ (o.1=1\/o.1=2\/o.1=3)) :
    ((run got (prog o)).1.length<=12/\∀e∈(run got (prog o)).1,qZ e)/\
    ((o.1=7/\(run got (prog o)).1.foldl (j4 fG) []=[0,1,2,3])\/
     (o.1=8/\val got 13=0/\(run got (prog o)).1.foldl (j4 fG) []=[13])\/
     (o.1=9/\(1<=val got 13/\val got 13<=4)/\(run got (prog o)).1.foldl (j4 fG) []=qw (wrap .i64 (val got 13-1))::13::(bif bu (val got (qw (wrap .i64 (val got 13-1)))) 1 6 then [fR (val got (qw (wrap .i64 (val got 13-1))))] else []))\/
     (o.1=10/\(run got (prog o)).1.foldl (j4 fG) []=[13,fR o.2.2.1])):=by
  have ue:=tL ho;unfold mM jO at hn;rw[af (by omega),af (by omega)]at hn;by_cases k4:o.1=4
  . exfalso
    by_cases h0:(eX got (qw o.2.1)).1=0
    . rw[aj ⟨.inr (.inr k4),h0⟩]at hn;cases hn
    . rw[af (by omega),af (by omega),af (by omega),aj k4]at hn;cases hn
  rw[af (by omega),af (by omega),af (by omega),af k4]at hn;by_cases k5:o.1=5
  . exfalso
    by_cases h0:(eX got (q9 o.2.2.1)).1=0
    . rw[aj ⟨k5,h0⟩]at hn;cases hn
    . rw[af (by omega),aj k5]at hn;cases hn
  rw[af (by omega),af k5]at hn;by_cases k6:o.1=6
  . exfalso;rw[aj k6]at hn;cases hn
  rw[af k6]at hn;have kk:o.1=7\/o.1=8\/o.1=9\/o.1=10:=by omega
  have Ll:prog o=if o.1=7 then Cs else if o.1=8 then .ask 13 (fun _=>.done) else if o.1=9 then yJ else if o.1=10 then v7 o else .done:=by unfold prog;rw[af (by omega),af (by omega),af (by omega),af k4,af k5,af k6]
  rw[Ll]at hr⊢;rcases kk with k | k | k | k
  . rw[aj k]at hr⊢
    unfold Cs at hr⊢;obtain⟨_,r1,e1⟩:=zZ (by omega) hr;obtain⟨_,r2,e2⟩:=zZ (by omega) r1;obtain⟨_,r3,e3⟩:=zZ (by omega) r2;obtain⟨_,_,e4⟩:=zZ (by omega) r3;rw[e1,e2,e3,e4];refine⟨⟨by simp[run],fun e he=>?_⟩,.inl ⟨k,rfl⟩⟩;simp only[run,bh,dg,dj]at he;rcases he with rfl | rfl | rfl | rfl<;>exact⟨by omega,by omega⟩
  . rw[af (by omega),aj k]at hr⊢
    obtain⟨_,_,e1⟩:=zZ (by omega) hr;rw[e1];refine⟨⟨by simp[run],fun e he=>?_⟩,.inr (.inl ⟨k,?_,rfl⟩)⟩
    . simp only[run,bh,dg,dj]at he
      subst he;exact⟨by omega,by omega⟩
    . by_cases s0:(eX got 13).1=0
      . exact s0
      . rw[aj ⟨k,s0⟩]at hn;cases hn
  . rw[af (by omega),af (by omega),aj k]at hr⊢
    rw[af (by omega)]at hn;have hst:1<=val got 13/\val got 13<=4:=by
      by_cases s0:(eX got 13).1<1\/(eX got 13).1>4
      . rw[aj ⟨k,s0⟩]at hn;cases hn
      . unfold val;omega
    unfold yJ at hr⊢;obtain⟨_,r1,e1⟩:=zZ (by omega) hr;rw[e1];have hb:(bif decide (val got 13<1) then true else decide (val got 13>4))=false:=by rw[b7 (by omega),b7 (by omega)];rfl
    rw[hb,bf]at r1⊢;have hw:wrap .i64 (val got 13-1)=val got 13-1:=qs (by omega) (by omega);have hrow:=vg (wrap .i64 (val got 13-1));rw[hw]at hrow;rw[hw]at r1⊢;obtain⟨_,r2,e2⟩:=zZ (by omega) r1;rw[e2];generalize XD:qw (val got 13-1)=p at *;have hp:0<=p/\p<=3:=by omega
    cases hv:bu (val got p) 1 6
    . rw[i6,bA,bf]
      have es:[(13:Int),p].foldl (j4 fG) []=[p,13]:=by simp only[nK,Gi,j4,ym,iH,F8];rw[aj (show fG p<fG 13 by unfold fG;omega)];rfl
      refine⟨⟨by simp[run],fun e he=>?_⟩,.inr (.inr (.inl ⟨k,hst,es⟩))⟩;simp only[run,bh,dg,dj]at he;rcases he with rfl | rfl<;>exact⟨by omega,by omega⟩
    . rw[hv,cJ,bf]at r2
      rw[cJ,bf,bA];have nj:=oO (val got p);have ED:=lp.1 hv;obtain⟨_,_,e3⟩:=zZ (by omega) r2;rw[e3];have es:[(13:Int),p,fR (val got p)].foldl (j4 fG) []=[p,13,fR (val got p)]:=by simp only[nK,Gi,j4,ym,iH,F8];rw[aj (show fG p<fG 13 by unfold fG;omega)];simp only[oq,ym,gA,fI,iH];rw[af (show ¬ fG (fR (val got p))<fG 13 by unfold fG;omega)];rfl
      refine⟨⟨by simp[run],fun e he=>?_⟩,.inr (.inr (.inl ⟨k,hst,es⟩))⟩;simp only[run,bh,dg,dj]at he;rcases he with rfl | rfl | rfl<;>exact⟨by omega,by omega⟩
  . rw[af (by omega),af (by omega),af (by omega),aj k]at hr⊢
    rw[af (by omega),af (by omega)]at hn;have hst:val got 13=5:=by
      by_cases s0:(eX got 13).1=5
      . exact s0
      . rw[aj ⟨k,s0⟩]at hn;cases hn
    unfold v7 at hr⊢;obtain⟨_,r1,e1⟩:=zZ (by omega) hr;rw[e1];rw[hst]at r1⊢;rw[show((5:Int) != 5)=false by decide,bf]at r1⊢;have nj:=oO o.2.2.1;obtain⟨_,_,e3⟩:=zZ (by omega) r1;rw[e3];have es:[(13:Int),fR o.2.2.1].foldl (j4 fG) []=[13,fR o.2.2.1]:=by simp only[nK,Gi,j4,ym,iH,F8];rw[af (show ¬ fG (fR o.2.2.1)<fG 13 by unfold fG;omega)];rfl
    refine⟨⟨by simp[run],fun e he=>?_⟩,.inr (.inr (.inr ⟨k,es⟩))⟩;simp only[run,bh,dg,dj]at he;rcases he with rfl | rfl<;>exact⟨by omega,by omega⟩
section
variable {X:Ext} (hX:fW X) {n:Nat} {got:dM}
include hX
theorem abL(hn:W+3<=n)(hg:got.length<=1048576)(o:cL)(x6:pQ)(rl:List Int)(el:List ez):Tl (DD X n) n got o x6 (false,(0,rl,()),el,()) =
  some (((false,(if o.1=10 then (if val got (fR o.2.2.1)=0 then (3,rl,()) else (0,[wrap .i64 (val got (fR o.2.2.1)-1)],())) else (0,rl,())),el,()),true,()),()):=by
 have hW:=d7;simp only[Tl];by_cases k:o.1=10
 .rw[qf k,aj k,Co hX (by omega),qc];dsimp only;rw[yF hX (by omega) got hg,qc];dsimp only;unfold val;by_cases h:(eX got (fR o.2.2.1)).1=0
  .rw[bH,bw h,cJ,aL,aj h]
  .rw[bH,b7 h,i6,aG,af h]
 .rw[qg k,af k]
theorem ajP(hn:W+14<=n)(hg:got.length<=1048576)(o:cL):VX (DD X n) o got=some (gj o got,()):=by
 obtain⟨n,rfl⟩:∃k,n=k+1:=⟨n-1,by omega⟩
 have hW:=d7;obtain⟨k,K,V,⟨⟩⟩:=o;rw[aiQ hX];simp only[ZY,q5j,qyq];rw[T8 hX (by omega),qc];dsimp only;unfold gj;cases ho:di (k,K,V,())
 .rw[i6,aG,af (by simp)];rfl
 obtain⟨b,e⟩:=R5 hX (n:=n) (by omega) hg (k,K,V,());rw[cJ,aL,e,qc];dsimp only;by_cases hr:(run got (prog (k,K,V,()))).2<0
 .rw[qg (by omega),aj ⟨rfl,hr⟩,acg hX (by omega) hg,qc];cases dF:mM (k,K,V,()) got with
  | some x=>simp only[sL];rw[aG]
  | none=>
   simp only[sL];rw[aL,yE hX (by omega),qc];dsimp only;rw[yF hX (by omega) got hg,qc];dsimp only;rw[yH hX (by omega),qc];dsimp only;rw[yF hX (by omega) got hg,qc];dsimp only;by_cases hk:k=1\/k=2\/k=3
   .have hne:=xO ho dF hk;obtain⟨c1,_,_,_⟩:=L_ (got:=got) (K:=K) (V:=V) (held:=val got (qw K)) (st:=val got 13) hne;have eK:(bif bif decide (k=1) then true else decide (k=2) then true else decide (k=3))=true:=by rcases hk with h | h | h<;>subst h<;>rfl
    rw[qg (by omega),eK,aG,abI hX (by omega) hg,qc];dsimp only;unfold eH dJ;rw[aj hk,af (show ¬ k=7 by omega),af (show ¬ k=10 by omega)];have zm:=c1;unfold val at zm⊢;rw[zm]
   .obtain⟨⟨p1,p2⟩,pl⟩:=Hl ho dF hr hk;have eK:(bif bif decide (k=1) then true else decide (k=2) then true else decide (k=3))=false:=by rw[b7 (show ¬ k=1 by omega),b7 (show ¬ k=2 by omega),b7 (show ¬ k=3 by omega)];rfl
    rw[eK];simp only[aL];have tq:=akm hX (n:=n) (by omega) _ p1 p2;have tc:∀(row:Int)(P:List Int)(x6:pQ),P.length<=20->J3 (DD X n) n (fun bR dY iY kr=>Tl (DD X n) n bR dY iY kr) n got (eX got 13).1 row (P.length:Int) 0 (k,K,V,()) x6 (false,(0,[],()),[],()) (got,P,(run got (prog (k,K,V,()))).2,b,()) =
      some (((false,(if k=10 then (if val got (fR V)=0 then (3,(if k=7 then P.map (val got) else []),()) else (0,[wrap .i64 (val got (fR V)-1)],())) else (0,(if k=7 then P.map (val got) else []),())),P.map (fun p=>(p,val got p,mG k row (eX got 13).1 p (val got p),())),()),true,()),()):=by
     intro row P x6 hP;have:=Fu hX n n (by omega) hg (fun bR dY iY kr=>Tl (DD X n) n bR dY iY kr) (eX got 13).1 row (k,K,V,()) x6 got P ((run got (prog (k,K,V,()))).2,b,()) hP n 0 [] [] (by omega) (by omega) (by simp) (by simp);rw[show((0:Nat):Int)=0 from rfl,jW]at this;rw[this];rw[abL hX (by omega) hg];simp only[gA]
    unfold eH dJ;dsimp only;rw[af hk];rcases pl with⟨h7,hp⟩ | ⟨h8,hz,hp⟩ | ⟨h9,hz,hp⟩ | ⟨D9,hp⟩
    .dsimp only at h7;subst h7;rw[qg (by decide),tq,qc,hp];dsimp only;rw[tc _ [0,1,2,3] _ (by simp)];rfl
    .dsimp only at h8;subst h8;rw[qg (by decide),tq,qc,hp];dsimp only;rw[tc _ [13] _ (by simp),af (by decide),af (by decide),af (by decide),af (by decide),aj rfl,af (by decide)];simp only[cv,f6,mG,aX];rw[hz];rfl
    .dsimp only at h9;subst h9;rw[qf rfl,yH hX (by omega),qc];dsimp only;rw[yF hX (by omega) got hg,qc];dsimp only;rw[tq,qc,hp];dsimp only;rw[tc _ _ _ (by cases bu (val got (qw (wrap .i64 (val got 13-1)))) 1 6<;>simp)];have hw:wrap .i64 (val got 13-1)=val got 13-1:=qs (by omega) (by omega);have hrow:=vg (wrap .i64 (val got 13-1));rw[hw]at hrow;rw[af (by decide),af (by decide),af (by decide),af (by decide),aj rfl,af (by decide),af (by decide)];have As:(eX got 13).1=val got 13:=rfl;rw[As,hw];have hv2:(eX got (qw (val got 13-1))).1=val got (qw (val got 13-1)):=rfl;rw[hv2];generalize qw (val got 13-1)=p at *;have gY:0<=p/\p<=3:=by omega
     have nj:=oO (val got p);have b1:∀x,mG 9 (val got p) (val got 13) p x=x:=fun x=>by
      unfold mG;rw[af (by decide),aj rfl,af (by omega),af (by omega)]
     have b2:∀x,mG 9 (val got p) (val got 13) 13 x=wrap .i64 (x+1):=fun x=>by
      unfold mG;rw[af (by decide),aj rfl,aj rfl]
     cases hin:bu (val got p) 1 6
     .simp only[bf,cv,f6,b1,b2];rfl
     .have ED:=lp.1 hin;have b3:∀x,mG 9 (val got p) (val got 13) (fR (val got p)) x=val got 13:=fun x=>by
       unfold mG;rw[af (by decide),aj rfl,af (by omega),aj rfl]
      simp only[bA,cv,f6,b1,b2,b3];rfl
    .dsimp only at D9;subst D9;rw[qg (by decide),tq,qc,hp];dsimp only;rw[tc _ [13,fR V] _ (by simp)];simp[mG,same]
 .rw[qf (by omega),af (fun h=>hr h.2)];rfl
end
theorem G5{α:Type}(key:α->Int):∀(L acc:List α)(z:α),z∈L.foldl (j4 key) acc↔z∈acc\/z∈L
 | [],acc,z=>by simp
 | e::L,acc,z=>by
  rw[nK,G5 key L,H6,bh];constructor
  .rintro((h | h) | h)
   .exact .inr (.inl h)
   .exact .inl h
   .exact .inr (.inr h)
  .rintro(h | h | h)
   .exact .inl (.inr h)
   .exact .inl (.inl h)
   .exact .inr h
def BZ(o:cL)(got:dM):Int:=if di o=true then (run got (prog o)).2 else -1
section
variable {X:Ext} (hX:fW X) {n:Nat} {got:dM}
include hX
theorem aaB(hn:W+13<=n)(hg:got.length<=1048576)(o:cL):Gv (DD X n) o got=some ((BZ o got,()),()):=by
 obtain⟨n,rfl⟩:∃k,n=k+1:=⟨n-1,by omega⟩
 have hW:=d7;rw[aap hX];simp only[Gx,P7];obtain⟨b,e⟩:=R5 hX (n:=n) (by omega) hg o;obtain⟨k,K,V,⟨⟩⟩:=o;rw[T8 hX (by omega),qc];dsimp only;unfold BZ;cases ho:di (k,K,V,())
 .rw[i6,aG];rfl
 .rw[cJ,aL,e,qc,aj rfl]
end
end Go.G
namespace Go.G
open Go Go.V
abbrev j3:=List Int×Int×Int×Unit
def nu(c:j3):Prop:=c.1.length<=1048576/\0<=c.2.1/\c.2.1<=c.1.length
theorem Bf(x:BitVec (IntKind.bits IntKind.i64)):0<=wrap .i64 ((BitVec.toNat (BitVec.and x (BitVec.ofInt (IntKind.bits IntKind.i64) 255)):Nat):Int)/\wrap .i64 ((BitVec.toNat (BitVec.and x (BitVec.ofInt (IntKind.bits IntKind.i64) 255)):Nat):Int)<=255:=by
 have h:BitVec.toNat (BitVec.and x (BitVec.ofInt (IntKind.bits IntKind.i64) 255))<=255:=by show BitVec.toNat (x &&&BitVec.ofInt (IntKind.bits IntKind.i64) 255)<=255;rw[BitVec.toNat_and];exact nL Nat.and_le_right (by decide)
 rw[qs (by omega) (by omega)];omega
theorem L9{X:Ext}(hX:fW X){n:Nat}(hn:1<=n){c:j3}(hc:nu c):∃(x:Int)(c':j3),0<=x/\x<=255/\nu c'/\IJ (DD X n) c=some ((x,()),(c',())):=by
 obtain⟨n,rfl⟩:∃k,n=k+1:=⟨n-1,by omega⟩
 obtain⟨h1,h2,h3⟩:=hc;rw[air hX];simp only[ZG,Pj];by_cases h:c.2.1<(c.1.length:Int)
 .rw[qf h,fJ h2 h,aG,qs (x:=c.2.1+1) (by omega) (by omega)];refine⟨_,(c.1,c.2.1+1,_,()),(Bf _).1,(Bf _).2,⟨h1,?_,?_⟩,rfl⟩
  .show 0<=c.2.1+1;omega
  .show c.2.1+1<=(c.1.length:Int);omega
 .rw[qg h];have k:∀h u,nu (c.1,c.2.1,h,u):=fun _ _=>⟨h1,h2,h3⟩
  exact⟨_,_,(Bf _).1,(Bf _).2,k _ _,rfl⟩
theorem zP{X:Ext}(hX:fW X){n:Nat}(hn:2<=n){c:j3}(hc:nu c)(k:Int):∃(x:Int)(c':j3),(0<k->0<=x/\x<k)/\(k<=0->x=0)/\nu c'/\rP (DD X n) c k=some ((x,()),(c',())):=by
 obtain⟨n,rfl⟩:∃k,n=k+1:=⟨n-1,by omega⟩
 rw[ah3 hX];simp only[Y6,O9];by_cases h:k<=0
 .rw[qf h];exact⟨0,c,fun h2=>by omega,fun _=>rfl,hc,rfl⟩
 .rw[qg h];by_cases h2:k<=256
  .obtain⟨x,c',x0,x1,KH,e⟩:=L9 hX (n:=n) (by omega) hc;rw[qf h2,e,qc];dsimp only;rw[qg (by omega)];refine⟨_,_,fun _=>?_,fun h3=>by omega,KH,rfl⟩;rw[FX x0];exact⟨Gf _ (by omega),FK _ (by omega)⟩
  .obtain⟨x,c1,x0,x1,jM,e1⟩:=L9 hX (n:=n) (by omega) hc;obtain⟨y,c2,y0,y1,g9,e2⟩:=L9 hX (n:=n) (by omega) jM;obtain⟨z,c3,z0,z1,rL,e3⟩:=L9 hX (n:=n) (by omega) g9;obtain⟨w,c4,w0,w1,WR,e4⟩:=L9 hX (n:=n) (by omega) rL;rw[qg h2,e1,qc];dsimp only;rw[e2,qc];dsimp only;rw[e3,qc];dsimp only;rw[e4,qc];dsimp only;rw[qg (by omega),qs (x:=x * 16777216) (by omega) (by omega),qs (x:=y * 65536) (by omega) (by omega),qs (x:=x * 16777216+y * 65536) (by omega) (by omega),
    qs (x:=z * 256) (by omega) (by omega),qs (x:=x * 16777216+y * 65536+z * 256) (by omega) (by omega),qs (x:=x * 16777216+y * 65536+z * 256+w) (by omega) (by omega)]
   refine⟨_,_,fun _=>?_,fun h3=>by omega,WR,rfl⟩;rw[FX (by omega)];exact⟨Gf _ (by omega),FK _ (by omega)⟩
theorem PU{X:Ext}(hX:fW X){n:Nat}(hn:3<=n){c:j3}(hc:nu c)(l:List Int)(hl:0<l.length):∃(x:Int)(c':j3),x∈l/\nu c'/\VF (DD X n) c l=some ((x,()),(c',())):=by
 obtain⟨n,rfl⟩:∃k,n=k+1:=⟨n-1,by omega⟩
 rw[afI hX];simp only[qv3,q93];obtain⟨x,c',h1,_,KH,e⟩:=zP hX (n:=n) (by omega) hc (l.length:Int);obtain⟨x0,x1⟩:=h1 (by omega);rw[e,qc];dsimp only;rw[fJ x0 x1,aG,qv (by omega)];exact⟨_,_,eB _,KH,rfl⟩
theorem Nd(D:Den ctx)(n:Nat){K0:List Int->Int->Option ((j3×Unit)×Unit)}(a:List Int)(ha:a.length<=1048576):∀(m i:Nat)(h:Int),i<=a.length->a.length-i<m->∃h':Int,TJ D n K0 m a h i=K0 a h'
 | 0,_,_,_,h=>by omega
 | m+1,i,h,hi,hf=>by
  simp only[TJ,Z4];by_cases h1:i<a.length
  .by_cases h2:(i:Int)<4000
   .rw[bw (by omega:(i:Int)<(a.length:Int)),bA,qf h2,bw (by omega:(0:Int)<=(i:Int)),Gl,aG,qu (by omega)];exact Nd D n a ha m (i+1) _ (by omega) (by omega)
   .rw[bw (by omega:(i:Int)<(a.length:Int)),bA,qg h2];exact⟨h,rfl⟩
  .rw[b7 (by omega:¬ (i:Int)<(a.length:Int)),bf,aL];exact⟨h,rfl⟩
theorem akk{X:Ext}(hX:fW X){n:Nat}(hn:W+1<=n)(a:List Int)(ha:a.length<=1048576):∃c:j3,nu c/\q7z (DD X n) a=some ((c,()),()):=by
 obtain⟨n,rfl⟩:∃k,n=k+1:=⟨n-1,by omega⟩
 have hW:=d7;rw[ajj hX];simp only[q8i,q92,Zv];obtain⟨h',e⟩:=Nd (DD X n) n (K0:=fun v w=>OE (DD X n) n v w) a ha n 0 (wrap .i64 (27323+(a.length:Int))) (by omega) (by omega);rw[show((0:Nat):Int)=0 from rfl]at e;exact⟨(a,0,h',()),⟨ha,by show(0:Int)<=0;omega,by show(0:Int)<=(a.length:Int);omega⟩,e⟩
theorem ak8{X:Ext}(hX:fW X){n:Nat}(hn:1<=n)(a:List Int):GJ (DD X n) a=some ((decide ((a.length:Int)>1048576),()),()):=by
 obtain⟨n,rfl⟩:∃k,n=k+1:=⟨n-1,by omega⟩
 rw[aa5 hX];rfl
open Go.Proofs
abbrev qp:=List Int×Int×Unit
def a_(v:Int):List Int->Nat->Int
 | [],_=>-1
 | x::l,i=>if x=v then (i:Int) else a_ v l (i+1)
theorem Mh(v:Int):∀(l:List Int)(i:Nat),a_ v l i<0->v∉l
 | [],i,_=>by simp
 | x::l,i,h=>by
  simp only[a_]at h;by_cases e:x=v
  .rw[aj e]at h;omega
  .rw[af e]at h;have:=Mh v l (i+1) h;intro hm;rcases bh.1 hm with k | k
   .exact e k.symm
   .exact this k
theorem Ff(v:Int):∀(l:List Int)(i k:Nat),l[k]? = some v->(∀j<k,l[j]?≠some v)->a_ v l i=((i+k:Nat):Int)
 | [],i,k,h,_=>by simp at h
 | x::l,i,0,h,_=>by
  simp only[F4,aK]at h;simp only[a_];rw[aj h];rfl
 | x::l,i,k+1,h,hj=>by
  simp only[List.getElem?_cons_succ]at h;simp only[a_];rw[af (by have:=hj 0 (by omega);simp only[F4,ne_eq,aK]at this;exact this),Ff v l (i+1) k h (fun j h2=>by have:=hj (j+1) (by omega);simpa using this)];congr 1;omega
structure aW (r:qp):Prop where
 len:r.1.length=4
 dS:∀x∈r.1,0<=x/\x<=6
 once:∀i j:Nat,i<j->∀v,r.1[i]? = some v->r.1[j]? = some v->v=0
 st:0<=r.2.1/\r.2.1<=5
section
variable {X:Ext} (hX:fW X) {n:Nat}
include hX
theorem Nb(D:Den ctx)(n:Nat)(K0:Int->Option ((Int×Unit)×Unit))(K1:Option ((Int×Unit)×Unit))(hK:K0 (-1)=K1)(r:qp)(hr:r.1.length<=1000)(v:Int):∀(m i:Nat),i<=r.1.length->r.1.length-i<m->
  TQ D n K0 K1 m v (i:Int) r=K0 (a_ v (r.1.drop i) i)
 | 0,_,_,h=>by omega
 | m+1,i,hi,hf=>by
  simp only[TQ,q5u];by_cases h:i<r.1.length
  .rw[qf (by omega),ix h,aG,eE,qv h,uT h];simp only[a_];by_cases e:r.1[i]=v
   .rw[qf e,aj e]
   .rw[qg e,af e,qu (by omega)];exact Nb D n K0 K1 hK r hr v m (i+1) (by omega) (by omega)
  .rw[qg (by omega),uY h];exact hK.symm
theorem PV(hn:W+1<=n)(r:qp)(hr:r.1.length<=1000)(v:Int):Wa (DD X n) r v=some ((a_ v r.1 0,()),()):=by
 obtain⟨n,rfl⟩:∃k,n=k+1:=⟨n-1,by omega⟩
 have hW:=d7;rw[ajc hX];simp only[q8c,q9u,Za];have e:=Nb hX (DD X n) n (fun bR=>Oh (DD X n) n bR) (Oi (DD X n) n) rfl r hr v n 0 (by omega) (by omega);rw[show((0:Nat):Int)=0 from rfl]at e;rw[e];rfl
theorem Hz(N n:Nat)(hN:W+2<=N)(K0:Bool->qp->Option ((Bool×Unit)×Unit))(K1:qp->Option ((Bool×Unit)×Unit)){r:qp}(hr:aW r):∀(m i:Nat),i<=r.1.length->r.1.length-i<m->
  TB (DD X N) n K0 K1 m (i:Int) r=K1 r
 | 0,_,_,h=>by omega
 | m+1,i,hi,hf=>by
  have hl:=hr.len;have hW:=d7;simp only[TB,Zg];by_cases h:i<r.1.length
  .rw[qf (by omega),ix h,aG,eE,qv h];by_cases e:r.1[i]=0
   .rw[bH,bw e,cJ,aL,qu (by omega)];exact Hz N n hN K0 K1 hr m (i+1) (by omega) (by omega)
   .have hv:=hr.dS r.1[i] (eB h);rw[bH,b7 e,i6,aG,aG,Ke hX (by omega),qc];dsimp only;rw[lp.2 (by omega),cJ,aL,aG,PV hX (by omega) r (by omega),qc];dsimp only;have hk:a_ r.1[i] r.1 0=(i:Int):=by rw[Ff r.1[i] r.1 0 i (gz h) (fun j hj hc=>e (hr.once j i hj _ hc (gz h)))];congr 1;omega
    rw[hk,bH,bw rfl,cJ,aL,qu (by omega)];exact Hz N n hN K0 K1 hr m (i+1) (by omega) (by omega)
  .rw[qg (by omega)]
theorem PA(hn:W+3<=n){r:qp}(hr:aW r):VZ (DD X n) r=some ((true,()),()):=by
 obtain⟨n,rfl⟩:∃k,n=k+1:=⟨n-1,by omega⟩
 have hW:=d7;have hl:=hr.len;rw[aip hX];simp only[ZE,Z2,qzo];have e:=Hz hX n n (by omega) (fun bR dY=>q90 (DD X n) n bR dY) (fun sR=>qwq (DD X n) n sR) hr n 0 (by omega) (by omega);rw[show((0:Nat):Int)=0 from rfl]at e;rw[e];simp only[qwq];rw[qf (by omega),yR hX (by omega),qc,lp.2 hr.st]
theorem G4(N n:Nat)(hN:W+2<=N)(K0:j3->qp->qp->Option ((qp×Unit)×(j3×Unit)))(z:qp):∀(m i:Nat)(c:j3)(r:qp),nu c->aW r->i<=4->4-i<m->
  ∃(c':j3)(r':qp),nu c'/\aW r'/\S7 (DD X N) n K0 m (i:Int) c z r=K0 c' z r'
 | 0,_,_,_,_,_,_,h=>by omega
 | m+1,i,c,r,hc,hr,hi,hf=>by
  have hl:=hr.len;have hW:=d7;simp only[S7,qq1];by_cases h:i<4
  .obtain⟨x,c1,h1,_,jM,e1⟩:=zP hX (n:=N) (by omega) hc 7;obtain⟨x0,x1⟩:=h1 (by omega);rw[qf (by omega),e1,qc];dsimp only;rw[show(r.1,r.2)=r from rfl,PV hX (by omega) r (by omega),qc];dsimp only;by_cases hk:a_ x r.1 0<0
   .have hnot:=Mh x r.1 0 hk;rw[qf hk,fJ (by omega) (by omega),aG,qu (by omega),eE];have zB:aW (r.1.set i x,r.2):=by
     refine⟨by show(r.1.set i x).length=4;rw[b8];exact hl,fun y hy=>?_,fun a b hab v ha hb=>?_,hr.st⟩
     .rcases FZ hy with hy | rfl
      .exact hr.dS y hy
      .omega
     .simp only[jV]at ha hb;by_cases ea:i=a
      .rw[aj ea]at ha;rw[af (by omega)]at hb;split at ha
       .simp only[aK]at ha;subst ha;exact absurd (mT.2 ⟨b,hb⟩) hnot
       .simp at ha
      .rw[af ea]at ha;by_cases eb:i=b
       .rw[aj eb]at hb;split at hb
        .simp only[aK]at hb;subst hb;exact absurd (mT.2 ⟨a,ha⟩) hnot
        .simp at hb
       .rw[af eb]at hb;exact hr.once a b hab v ha hb
    exact G4 N n hN K0 z m (i+1) c1 (r.1.set i x,r.2) jM zB (by omega) (by omega)
   .rw[qg hk,qu (by omega)];exact G4 N n hN K0 z m (i+1) c1 r jM hr (by omega) (by omega)
  .rw[qg (by omega)];exact⟨c,r,hc,hr,rfl⟩
theorem aiy(hn:W+3<=n){c:j3}(hc:nu c):∃(r:qp)(c':j3),aW r/\(r.2.1=0\/r.2.1=1\/r.2.1=3\/r.2.1=5)/\nu c'/\qrr (DD X n) c=some ((r,()),(c',())):=by
 obtain⟨n,rfl⟩:∃k,n=k+1:=⟨n-1,by omega⟩
 have hW:=d7;have hnew:YE (DD X n)=some ((((List.replicate (Int.toNat 4) 0,0,()):qp),()),()):=by
  obtain⟨n,rfl⟩:∃k,n=k+1:=⟨n-1,by omega⟩
  rw[ahw hX];rfl
 rw[aev hX];simp only[qrx,qs2,qpe];rw[hnew,qc];dsimp only;have h0:aW ((List.replicate (Int.toNat 4) 0,0,()):qp):=by
  refine⟨rfl,fun x hx=>?_,fun i j hij v hi hj=>?_,by show(0:Int)<=0/\(0:Int)<=5;omega⟩
  .have:=(List.mem_replicate.1 hx).2;omega
  .simp only[vF]at hi;split at hi
   .simp only[aK]at hi;exact hi.symm
   .simp at hi
 obtain⟨c',r',h1,h2,e⟩:=G4 hX n n (by omega) (fun bR dY iY=>qn7 (DD X n) n bR dY iY) ([],0,()) n 0 c _ hc h0 (by omega) (by omega);rw[show((0:Nat):Int)=0 from rfl]at e;rw[e];simp only[qn7];obtain⟨s,c2,hs,g9,e2⟩:=PU hX (n:=n) (by omega) h1 [0,0,1,3,5] (by simp);rw[e2,qc];have lS:s=0\/s=1\/s=3\/s=5:=by simp only[bh,dg,dj]at hs;omega
 exact⟨(r'.1,s,()),c2,⟨h2.len,h2.dS,h2.once,by show 0<=s/\s<=5;omega⟩,lS,g9,rfl⟩
end
def HY(ws:List Int):Prop:=ws.length=20/\∀x∈ws,0<=x/\x<=1000
theorem HY.set{ws:List Int}(h:HY ws)(i:Nat){x:Int}(hx:0<=x/\x<=1000):HY (ws.set i x):=
 ⟨by rw[b8];exact h.1,fun y hy=>by
  rcases FZ hy with q | rfl
  .exact h.2 y q
  .exact hx⟩
def many(c:Int):List Int->Int
 | []=>0
 | x::l=>(bif bu x 1 6&&decide (qh x=c) then 1 else 0)+many c l
theorem Mi(c:Int):∀l,0<=many c l/\many c l<=(l.length:Int)
 | []=>⟨by simp[many],by simp[many]⟩
 | x::l=>by
  have:=Mi c l;simp only[many,ct];cases bu x 1 6&&decide (qh x=c)<;>simp only[bA,bf]<;>omega
section
variable {X:Ext} (hX:fW X) {n:Nat}
include hX
theorem MI(hn:1<=n)(b:Bool):TW (DD X n) b=some ((bif b then 1 else 0,()),()):=by
 obtain⟨n,rfl⟩:∃k,n=k+1:=⟨n-1,by omega⟩
 rw[aji hX];cases b<;>rfl
theorem Iw(N n:Nat)(hN:4<=N)(K:Int->Option ((Int×Unit)×Unit))(r:qp)(hr:r.1.length<=1000)(c:Int):∀(m i:Nat)(a:Int),i<=r.1.length->r.1.length-i<m->0<=a/\a<=i->
  Tw (DD X N) n K m c a (i:Int) r=K (a+many c (r.1.drop i))
 | 0,_,_,_,h,_=>by omega
 | m+1,i,a,hi,hf,ha=>by
  simp only[Tw,qzh];by_cases h:i<r.1.length
  .rw[qf (by omega),ix h,aG,eE,qv h,Ke hX (by omega),qc,uT h];simp only[many];cases hv:bu r.1[i] 1 6
   .rw[aL,MI hX (by omega),qc];dsimp only;rw[bf,qs (by omega) (by omega),qu (by omega),Iw N n hN K r hr c m (i+1) _ (by omega) (by omega) (by omega)];congr 1;simp only[Bool.false_and,bf];omega
   .rw[aG,aG,aaC hX (by omega),qc];dsimp only;rw[MI hX (by omega),qc];dsimp only;have hb:0<=(bif decide (qh r.1[i]=c) then (1:Int) else 0)/\(bif decide (qh r.1[i]=c) then (1:Int) else 0)<=1:=by cases decide (qh r.1[i]=c)<;>simp
    rw[qs (by omega) (by omega),qu (by omega),Iw N n hN K r hr c m (i+1) _ (by omega) (by omega) (by omega)];congr 1;simp only[zH];omega
  .rw[qg (by omega),uY h];congr 1;simp[many]
theorem ai5(hn:W+1<=n)(r:qp)(hr:r.1.length<=1000)(c:Int):YC (DD X n) r c=some ((many c r.1,()),()):=by
 obtain⟨n,rfl⟩:∃k,n=k+1:=⟨n-1,by omega⟩
 have hW:=d7;rw[ahu hX];simp only[Y3,Y_,qwo];have e:=Iw hX n n (by omega) (fun bR=>q6w (DD X n) n bR) r hr c n 0 0 (by omega) (by omega) (by omega);rw[show((0:Nat):Int)=0 from rfl,jW,Int.zero_add]at e;rw[e];rfl
end
section
variable {X:Ext} (hX:fW X) {n:Nat}
include hX
theorem ai4(hn:6<=n){c:j3}(hc:nu c):∃(o:cL)(c':j3),nu c'/\di o=true/\qrs (DD X n) c=some ((o,()),(c',())):=by
 obtain⟨n,rfl⟩:∃k,n=k+1:=⟨n-1,by omega⟩
 rw[aew hX];simp only[qry,q4a];obtain⟨k,c1,hk,jM,e1⟩:=PU hX (n:=n) (by omega) hc [1,1,1,2,2,3,4,5,6,7,8,9,9,10] (by simp);have hk2:k=1\/k=2\/k=3\/k=4\/k=5\/k=6\/k=7\/k=8\/k=9\/k=10:=by simp only[bh,dg,dj]at hk;omega
 obtain⟨x,c2,h2,_,g9,e2⟩:=zP hX (n:=n) (by omega) jM 4;obtain⟨y,c3,h3,_,rL,e3⟩:=zP hX (n:=n) (by omega) g9 4;obtain⟨z,c4,h4,_,WR,e4⟩:=zP hX (n:=n) (by omega) jM 3;obtain⟨x0,x1⟩:=h2 (by omega);obtain⟨y0,y1⟩:=h3 (by omega);obtain⟨z0,z1⟩:=h4 (by omega);have UT:bu x 0 3=true:=lp.2 (by omega);have iz:bu z 0 2=true:=lp.2 (by omega);have wy:wrap .i64 (1+y)=1+y:=qs (by omega) (by omega);have wx:wrap .i64 (1+x)=1+x:=qs (by omega) (by omega);have iy:bu (1+y) 1 6=true:=lp.2 (by omega);have ix6:bu (1+x) 1 6=true:=lp.2 (by omega);simp only[show(List.set (List.set (List.set (List.set (List.set (List.set (List.set (List.set (List.set (List.set (List.set (List.set (List.set (List.set (List.replicate 14 (0:Int)) 0 1) 1 1) 2 1) 3 2) 4 2) 5 3) 6 4) 7 5) 8 6) 9 7) 10 8) 11 9) 12 9) 13 10)=[1,1,1,2,2,3,4,5,6,7,8,9,9,10] from rfl];rw[e1,qc];dsimp only;rw[MJ hX (by omega),qc];dsimp only;rcases hk2 with rfl | rfl | rfl | rfl | rfl | rfl | rfl | rfl | rfl | rfl
 .rw[show bu 1 1 4=true from rfl,aG,e2,qc];dsimp only;rw[qg (by decide),yL hX (by omega),qc];dsimp only;rw[show(bif bif bif decide ((1:Int)=1) then true else decide ((1:Int)=2) then true else decide ((1:Int)=5) then true else decide ((1:Int)=10))=true from rfl,aG,e3,qc,wy];exact⟨_,_,rL,by show(bu x 0 3&&bu (1+y) 1 6)=true;rw[UT,iy];rfl,rfl⟩
 .rw[show bu 2 1 4=true from rfl,aG,e2,qc];dsimp only;rw[qg (by decide),yL hX (by omega),qc];dsimp only;rw[show(bif bif bif decide ((2:Int)=1) then true else decide ((2:Int)=2) then true else decide ((2:Int)=5) then true else decide ((2:Int)=10))=true from rfl,aG,e3,qc,wy];exact⟨_,_,rL,by show(bu x 0 3&&bu (1+y) 1 6)=true;rw[UT,iy];rfl,rfl⟩
 .rw[show bu 3 1 4=true from rfl,aG,e2,qc];dsimp only;rw[qg (by decide),yL hX (by omega),qc];dsimp only;rw[show(bif bif bif decide ((3:Int)=1) then true else decide ((3:Int)=2) then true else decide ((3:Int)=5) then true else decide ((3:Int)=10))=false from rfl,aL];exact⟨_,_,g9,by show(bu x 0 3&&true)=true;rw[UT];rfl,rfl⟩
 .rw[show bu 4 1 4=true from rfl,aG,e2,qc];dsimp only;rw[qg (by decide),yL hX (by omega),qc];dsimp only;rw[show(bif bif bif decide ((4:Int)=1) then true else decide ((4:Int)=2) then true else decide ((4:Int)=5) then true else decide ((4:Int)=10))=false from rfl,aL];exact⟨_,_,g9,by show(bu x 0 3&&true)=true;rw[UT];rfl,rfl⟩
 .rw[show bu 5 1 4=false from rfl,aL,qg (by decide),yL hX (by omega),qc];dsimp only;rw[show(bif bif bif decide ((5:Int)=1) then true else decide ((5:Int)=2) then true else decide ((5:Int)=5) then true else decide ((5:Int)=10))=true from rfl,aG,e2,qc,wx];exact⟨_,_,g9,by show(true&&bu (1+x) 1 6)=true;rw[ix6];rfl,rfl⟩
 .rw[show bu 6 1 4=false from rfl,aL,qf rfl,e4,qc];dsimp only;rw[yL hX (by omega),qc];dsimp only;rw[show(bif bif bif decide ((6:Int)=1) then true else decide ((6:Int)=2) then true else decide ((6:Int)=5) then true else decide ((6:Int)=10))=false from rfl,aL];exact⟨_,_,WR,by show(bu z 0 2&&true)=true;rw[iz];rfl,rfl⟩
 .rw[show bu 7 1 4=false from rfl,aL,qg (by decide),yL hX (by omega),qc];exact⟨_,_,jM,rfl,rfl⟩
 .rw[show bu 8 1 4=false from rfl,aL,qg (by decide),yL hX (by omega),qc];exact⟨_,_,jM,rfl,rfl⟩
 .rw[show bu 9 1 4=false from rfl,aL,qg (by decide),yL hX (by omega),qc];exact⟨_,_,jM,rfl,rfl⟩
 .rw[show bu 10 1 4=false from rfl,aL,qg (by decide),yL hX (by omega),qc];dsimp only;rw[show(bif bif bif decide ((10:Int)=1) then true else decide ((10:Int)=2) then true else decide ((10:Int)=5) then true else decide ((10:Int)=10))=true from rfl,aG,e2,qc,wx];exact⟨_,_,g9,by show(true&&bu (1+x) 1 6)=true;rw[ix6];rfl,rfl⟩
end
theorem ac7{k V row owner st cnt:Int}{x:Int×List Int}(h:jO k V row owner st cnt=some x):x.2.length<=1:=by
 unfold jO at h;by_cases c0:k=1/\row≠0
 .rw[aj c0]at h;cases h;simp
 rw[af c0]at h;by_cases c1:k=1/\owner≠0
 .rw[aj c1]at h;cases h;simp
 rw[af c1]at h;by_cases c2:(k=2\/k=3\/k=4)/\row=0
 .rw[aj c2]at h;cases h;simp
 rw[af c2]at h;by_cases c3:k=2/\row=V
 .rw[aj c3]at h;cases h;simp
 rw[af c3]at h;by_cases c4:k=2/\owner≠0
 .rw[aj c4]at h;cases h;simp
 rw[af c4]at h;by_cases c5:k=4
 .rw[aj c5]at h;cases h;simp
 rw[af c5]at h;by_cases c6:k=5/\owner=0
 .rw[aj c6]at h;cases h;simp
 rw[af c6]at h;by_cases c7:k=5
 .rw[aj c7]at h;cases h;simp
 rw[af c7]at h;by_cases c8:k=6
 .rw[aj c8]at h;cases h;simp
 rw[af c8]at h;by_cases c9:k=8/\st≠0
 .rw[aj c9]at h;cases h;simp
 rw[af c9]at h;by_cases c10:k=9/\(st<1\/st>4)
 .rw[aj c10]at h;cases h;simp
 rw[af c10]at h;by_cases c11:k=10/\st≠5
 .rw[aj c11]at h;cases h;simp
 rw[af c11]at h;cases h
theorem abK(o:cL)(got:dM):(gj o got).1.2.1.2.1.length<=20/\(gj o got).1.2.2.1.length<=20:=by
 unfold gj;split
 .cases hn:mM o got with
  | some x=>have:=ac7 hn;exact⟨by show x.2.length<=20;omega,by show(0:Nat)<=20;omega⟩
  | none=>
   refine⟨?_,?_⟩
   .show(eH o got).2.1.length<=20;unfold eH
    repeat' split
    all_goals simp
   .show(dJ o got).length<=20;unfold dJ;split
    .rw[QW];have:=nL (HF got (e_ o.2.1 o.2.2.1 (val got (qw o.2.1)) (val got 13))) (Sa _ _ _ _);simp only[gB];omega
    .repeat' split
     .simp
     .simp
     .cases bu (val got (qw (wrap .i64 (val got 13-1)))) 1 6<;>simp
     .simp
     .simp
 .exact⟨by show(0:Nat)<=20;omega,by show(0:Nat)<=20;omega⟩
section
variable {X:Ext} (hX:fW X) {n:Nat}
include hX
end
theorem pI(l:List Int)(i j:Nat)(x:Int)(h:i<l.length):(l.set i x).getD j 0=if j=i then x else l.getD j 0:=by
 simp only[List.getD,jV];by_cases e:i=j
 .subst e;rw[aj rfl,aj h,aj rfl];rfl
 .rw[af e,af (fun k=>e k.symm)]
theorem Mg(v:Int):∀(l:List Int)(i k:Nat),a_ v l i=(k:Int)->i<=k/\l[k-i]? = some v
 | [],i,k,h=>by simp only[a_]at h;omega
 | x::l,i,k,h=>by
  simp only[a_]at h;by_cases e:x=v
  .rw[aj e]at h;have:i=k:=by omega
   subst this;refine⟨cq _,?_⟩;rw[Nat.sub_self,e];rfl
  .rw[af e]at h;obtain⟨h1,h2⟩:=Mg v l (i+1) k h;refine⟨by omega,?_⟩;rw[show k-i=(k-(i+1))+1 by omega];exact h2
theorem yO(v:Int):∀(l:List Int)(i:Nat),-1<=a_ v l i/\a_ v l i<(i+l.length:Nat)
 | [],i=>by simp only[a_,gB];omega
 | x::l,i=>by
  have:=yO v l (i+1);simp only[a_,ct];split<;>omega
def lD(v:Int)(h:List Int)(i:Int)(st:Int):Int:=if 0<=a_ v h 0/\a_ v h 0<i/\a_ v h 0<st-1 then a_ v h 0+1 else 0
def qH(v:Int)(h:List Int)(i:Int):Int:=if 0<=a_ v h 0/\a_ v h 0<i then a_ v h 0+1 else 0
def wm(r:qp)(i p:Nat):Int:=
 if p<4 then (if p<i then r.1.getD p 0 else 0) else if p<10 then qH ((p:Int)-3) r.1 i else if p<14 then 0 else lD ((p:Int)-13) r.1 i r.2.1
def jX(r:qp)(p:Nat):Int:=
 if p<4 then r.1.getD p 0 else if p<10 then qH ((p:Int)-3) r.1 4 else if p<13 then many ((p:Int)-10) r.1 else if p=13 then r.2.1 else lD ((p:Int)-13) r.1 4 r.2.1
section
variable {X:Ext} (hX:fW X) {n:Nat}
include hX
theorem Rv{r:qp}(hr:aW r){i:Nat}(hi:i<4)(hi2:i<r.1.length)(p:Nat)(hp:p<20) :
  wm r (i+1) p=if p<4 then (if p=i then r.1[i] else wm r i p) else if r.1[i]≠0/\(p:Int)=3+r.1[i] then (i:Int)+1 else
   if r.1[i]≠0/\(p:Int)=13+r.1[i]/\(i:Int)<r.2.1-1 then (i:Int)+1 else wm r i p:=by
 have hx:=hr.dS r.1[i] (eB hi2);have hkey:r.1[i]≠0->a_ r.1[i] r.1 0=(i:Int):=fun e=>by
  rw[Ff r.1[i] r.1 0 i (gz hi2) (fun j hj hc=>e (hr.once j i hj _ hc (gz hi2)))];congr 1;omega
 have cY:∀v:Int,v≠r.1[i]->a_ v r.1 0≠(i:Int):=fun v hv hc=>by
  obtain⟨_,h2⟩:=Mg v r.1 0 i hc;rw[BU,gz hi2]at h2;exact hv (gU h2).symm
 unfold wm;by_cases h4:p<4
 .simp only[aj h4];by_cases e:p=i
  .subst e;simp only[aj (show p<p+1 by omega),aX,qv hi2]
  .simp only[af e];by_cases e2:p<i
   .simp only[aj e2,aj (show p<i+1 by omega)]
   .simp only[af e2,af (show ¬ p<i+1 by omega)]
 simp only[af h4];by_cases D9:p<10
 .have X0:¬ (r.1[i]≠0/\(p:Int)=13+r.1[i]/\(i:Int)<r.2.1-1):=by omega
  simp only[aj D9,af X0];unfold qH;by_cases e:r.1[i]≠0/\(p:Int)=3+r.1[i]
  .simp only[aj e];rw[show(p:Int)-3=r.1[i] by omega,hkey e.1,aj (by omega)]
  .simp only[af e];have hk:a_ ((p:Int)-3) r.1 0≠(i:Int):=by
    by_cases q:(p:Int)-3=r.1[i]
    .exact absurd ⟨by omega,by omega⟩ e
    .exact cY _ q
   by_cases c:0<=a_ ((p:Int)-3) r.1 0/\a_ ((p:Int)-3) r.1 0<(i:Int)
   .simp only[aj c,aj (show 0<=a_ ((p:Int)-3) r.1 0/\a_ ((p:Int)-3) r.1 0<((i+1:Nat):Int) by omega)]
   .simp only[af c,af (show ¬ (0<=a_ ((p:Int)-3) r.1 0/\a_ ((p:Int)-3) r.1 0<((i+1:Nat):Int)) by omega)]
 have n3:¬ (r.1[i]≠0/\(p:Int)=3+r.1[i]):=by omega
 simp only[af D9,af n3];by_cases Kw:p<14
 .have X0:¬ (r.1[i]≠0/\(p:Int)=13+r.1[i]/\(i:Int)<r.2.1-1):=by omega
  simp only[aj Kw,af X0]
 simp only[af Kw];unfold lD;by_cases e:r.1[i]≠0/\(p:Int)=13+r.1[i]
 .rw[show(p:Int)-13=r.1[i] by omega,hkey e.1];by_cases c:(i:Int)<r.2.1-1
  .simp only[aj (show 0<=(i:Int)/\(i:Int)<((i+1:Nat):Int)/\(i:Int)<r.2.1-1 by omega),aj (show r.1[i]≠0/\(p:Int)=13+r.1[i]/\(i:Int)<r.2.1-1 from⟨e.1,e.2,c⟩)]
  .simp only[af (show ¬ (0<=(i:Int)/\(i:Int)<((i+1:Nat):Int)/\(i:Int)<r.2.1-1) by omega),af (show ¬ (r.1[i]≠0/\(p:Int)=13+r.1[i]/\(i:Int)<r.2.1-1) from fun k=>c k.2.2),af (show ¬ (0<=(i:Int)/\(i:Int)<(i:Int)/\(i:Int)<r.2.1-1) by omega)]
 .simp only[af (show ¬ (r.1[i]≠0/\(p:Int)=13+r.1[i]/\(i:Int)<r.2.1-1) from fun k=>e ⟨k.1,k.2.1⟩)];have hk:a_ ((p:Int)-13) r.1 0≠(i:Int)\/(p:Int)-13=0:=by
   by_cases q:(p:Int)-13=r.1[i]
   .by_cases z:r.1[i]=0
    .exact .inr (by omega)
    .exact absurd ⟨z,by omega⟩ e
   .exact .inl (cY _ q)
  by_cases c:0<=a_ ((p:Int)-13) r.1 0/\a_ ((p:Int)-13) r.1 0<(i:Int)/\a_ ((p:Int)-13) r.1 0<r.2.1-1
  .simp only[aj c,aj (show 0<=a_ ((p:Int)-13) r.1 0/\a_ ((p:Int)-13) r.1 0<((i+1:Nat):Int)/\a_ ((p:Int)-13) r.1 0<r.2.1-1 by omega)]
  .simp only[af c,af (show ¬ (0<=a_ ((p:Int)-13) r.1 0/\a_ ((p:Int)-13) r.1 0<((i+1:Nat):Int)/\a_ ((p:Int)-13) r.1 0<r.2.1-1) by omega)]
theorem AW(N n:Nat)(hN:4<=N)(K:qp->List Int->Option ((List Int×Unit)×Unit)){r:qp}(hr:aW r):∀(m i:Nat)(ws:List Int),i<=4->4-i<m->ws.length=20->(∀p<20,ws.getD p 0=wm r i p)->
  ∃zg,zg.length=20/\(∀p<20,zg.getD p 0=wm r 4 p)/\Tx (DD X N) n K m (i:Int) r ws=K r zg
 | 0,_,_,_,h,_,_=>by omega
 | m+1,i,ws,hi,hf,mU,hw=>by
  have hl:=hr.len;have hst:=hr.st;simp only[Tx,qzs];by_cases h:i<4
  .have hi2:i<r.1.length:=by omega
   have hv:=hr.dS r.1[i] (eB hi2);have hrow:qw (i:Int)=i:=by unfold qw;rw[lp.2 (by omega)];rfl
   have hps:=Rv hX hr h hi2;rw[qf (by omega),ix hi2,aG,eE,qv hi2,abw hX (by omega),qc,hrow];dsimp only;rw[fJ (by omega) (by rw[mU];omega),aG,eE];by_cases h0:r.1[i]=0
   .rw[qf h0,qu (by omega)];refine AW N n hN K hr m (i+1) _ (by omega) (by omega) (by rw[b8];exact mU) (fun p hp=>?_);rw[hps p hp,pI _ _ _ _ (by omega)];by_cases e:p=i
    .rw[aj e,aj (by omega),aj e]
    .rw[af e,hw p hp,af e];rw[af (show ¬ (r.1[i]≠0/\(p:Int)=3+r.1[i]) from fun k=>k.1 h0),af (show ¬ (r.1[i]≠0/\(p:Int)=13+r.1[i]/\(i:Int)<r.2.1-1) from fun k=>k.1 h0)];split<;>rfl
   .rw[qg h0,aaE hX (by omega),qc];dsimp only;have ho:=uZ r.1[i];have hvi:=oO r.1[i];have nZ:q9 r.1[i]=3+r.1[i]:=by omega
    have EC:fR r.1[i]=13+r.1[i]:=by omega
    have qD:wrap .i64 (r.2.1-1)=r.2.1-1:=qs (by omega) (by omega);rw[fJ (by omega) (by rw[b8,mU];omega),aG,qu (by omega),qD,nZ];by_cases hs:(i:Int)<r.2.1-1
    .rw[qf hs,abx hX (by omega),qc];dsimp only;rw[fJ (by omega) (by rw[b8,b8,mU];omega),aG,EC];refine AW N n hN K hr m (i+1) _ (by omega) (by omega) (by rw[b8,b8,b8];exact mU) (fun p hp=>?_);rw[hps p hp,pI _ _ _ _ (by rw[b8,b8,mU];omega),pI _ _ _ _ (by rw[b8,mU];omega),pI _ _ _ _ (by omega),hw p hp];by_cases e3:p=(13+r.1[i]).toNat
     .rw[aj e3,af (by omega),af (by omega),aj ⟨h0,by omega,hs⟩];omega
     rw[af e3];by_cases e2:p=(3+r.1[i]).toNat
     .rw[aj e2,af (by omega),aj ⟨h0,by omega⟩];omega
     rw[af e2];by_cases e:p=i
     .simp only[aj e,aj (show p<4 by omega)]
     .simp only[af e];rw[af (show ¬ (r.1[i]≠0/\(p:Int)=3+r.1[i]) by omega),af (show ¬ (r.1[i]≠0/\(p:Int)=13+r.1[i]/\(i:Int)<r.2.1-1) by omega)];split<;>rfl
    .rw[qg hs];refine AW N n hN K hr m (i+1) _ (by omega) (by omega) (by rw[b8,b8];exact mU) (fun p hp=>?_);rw[hps p hp,pI _ _ _ _ (by rw[b8,mU];omega),pI _ _ _ _ (by omega),hw p hp];rw[af (show ¬ (r.1[i]≠0/\(p:Int)=13+r.1[i]/\(i:Int)<r.2.1-1) by omega)];by_cases e2:p=(3+r.1[i]).toNat
     .rw[aj e2,af (by omega),aj ⟨h0,by omega⟩];omega
     rw[af e2];by_cases e:p=i
     .simp only[aj e,aj (show p<4 by omega)]
     .simp only[af e];rw[af (show ¬ (r.1[i]≠0/\(p:Int)=3+r.1[i]) by omega)];split<;>rfl
  .rw[qg (by omega)];have:i=4:=by omega
   subst this;exact⟨ws,mU,hw,rfl⟩
def wF(r:qp)(i p:Nat):Int:=if 10<=p/\p<10+i then many ((p:Int)-10) r.1 else wm r 4 p
theorem Rh(N n:Nat)(hN:W+4<=N)(K:qp->List Int->Option ((List Int×Unit)×Unit)){r:qp}(hr:aW r):∀(m i:Nat)(ws:List Int),i<=3->3-i<m->ws.length=20->(∀p<20,ws.getD p 0=wF r i p)->
  ∃zg,zg.length=20/\(∀p<20,zg.getD p 0=wF r 3 p)/\Tz (DD X N) n K m (i:Int) r ws=K r zg
 | 0,_,_,_,h,_,_=>by omega
 | m+1,i,ws,hi,hf,mU,hw=>by
  have hl:=hr.len;have hW:=d7;simp only[Tz,qzt];by_cases h:i<3
  .have hc:=uX (i:Int);have g9:iS (i:Int)=10+i:=by omega
   rw[qf (by omega),aaD hX (by omega),qc];dsimp only;rw[ai5 hX (by omega) r (by omega),qc];dsimp only;rw[fJ (by omega) (by rw[mU];omega),aG,qu (by omega),g9];refine Rh N n hN K hr m (i+1) _ (by omega) (by omega) (by rw[b8];exact mU) (fun p hp=>?_);rw[pI _ _ _ _ (by omega),hw p hp];unfold wF;by_cases e:p=(10+(i:Int)).toNat
   .rw[aj e,aj (by omega),show(p:Int)-10=i by omega]
   .rw[af e];by_cases c:10<=p/\p<10+i
    .rw[aj c,aj (by omega)]
    .rw[af c,af (by omega)]
  .rw[qg (by omega)];have:i=3:=by omega
   subst this;exact⟨ws,mU,hw,rfl⟩
theorem acM(hn:W+6<=n){r:qp}(hr:aW r):∃ws:List Int,ws.length=20/\(∀p<20,ws.getD p 0=jX r p)/\YF (DD X n) r=some ((ws,()),()):=by
 obtain⟨n,rfl⟩:∃k,n=k+1:=⟨n-1,by omega⟩
 have hW:=d7;have hst:=hr.st;rw[ahy hX];simp only[Y5,Zu];rw[PA hX (by omega) hr,qc];dsimp only;rw[cJ,aL];simp only[qwx];obtain⟨w1,l1,h1,e1⟩:=AW hX n n (by omega) (fun bR dY=>VC (DD X n) n (VM (DD X n) n) bR dY) hr n 0 (List.replicate (Int.toNat 20) 0) (by omega) (by omega) rfl (fun p hp=>by
  have e0:(List.replicate (Int.toNat 20) (0:Int)).getD p 0=0:=by simp only[List.getD,vF];split<;>rfl
  rw[e0];unfold wm qH lD;split
  .rfl
  .split
   .rw[af (by omega)]
   .split
    .rfl
    .rw[af (by omega)])
 rw[show((0:Nat):Int)=0 from rfl]at e1;obtain⟨w2,l2,h2,e2⟩:=Rh hX n n (by omega) (fun bR dY=>qu1 (DD X n) n bR dY) hr n 0 w1 (by omega) (by omega) l1 (fun p hp=>by
  rw[h1 p hp];unfold wF;rw[af (by omega)])
 rw[show((0:Nat):Int)=0 from rfl]at e2;refine⟨w2.set 13 r.2.1,by rw[b8];exact l2,fun p hp=>?_,e1.trans ?_⟩
 .rw[pI _ _ _ _ (by omega),h2 p hp];unfold jX wF wm;have hlen:=hr.len;by_cases e:p=13
  .rw[aj e,af (by omega),af (by omega),af (by omega),aj e]
  rw[af e];by_cases a1:p<4
  .rw[af (by omega),aj a1,aj a1,aj a1]
  by_cases a2:p<10
  .rw[af (by omega),af a1,aj a2,af a1,aj a2];rfl
  by_cases a3:p<13
  .rw[aj (by omega),af a1,af a2,aj a3]
  .rw[af (by omega),af a1,af a2,af (by omega),af a1,af a2,af a3,af e];rfl
 simp only[VC,VM];rw[e2];simp only[qu1];rw[PW hX (by omega),qc];dsimp only;rw[fJ (by omega) (by rw[l2];omega),aG];rfl
end
def path(w:Int->Int):PR->List Int
 | .done=>[]
 | .ask p k=>p::path w (k (w p))
def AH(got:dM)(w:Int->Int)(L:List Int):Prop:=∀q,eX got q=if q∈L then (w q,true) else (0,false)
theorem abZ(w:Int->Int):∀(L:List Int),AH (L.map fun p=>(p,w p,())) w L:=by
 intro L q;unfold eX;have key:∀(L:List Int)(v:Int)(ok:Bool),rd q (L.map fun p=>(p,w p,())) v ok=if q∈L then (w q,true) else (v,ok):=by
  intro L
  induction L with
  | nil=>intro v ok;simp[rd]
  | cons a L ih=>
   intro v ok;simp only[cv,rd];by_cases e:a=q
   .rw[aj e,ih];by_cases m:q∈L
    .rw[aj m,aj (cF _ m)]
    .rw[af m,aj (by rw[e];exact e8),e]
   .rw[af e,ih];by_cases m:q∈L
    .rw[aj m,aj (cF _ m)]
    .rw[af m,af (by
      intro k;rcases bh.1 k with k | k
      .exact e k.symm
      .exact m k)]
 exact key L 0 false
theorem AR{got:dM}{w:Int->Int}{L:List Int}(h:AH got w L){p:Int}(hp:0<=p):hit got p=decide (p∈L):=by
 unfold hit;rw[bw hp,zH,h p];by_cases m:p∈L
 .rw[aj m,bw m]
 .rw[af m,b7 m]
theorem HA{got:dM}{w:Int->Int}{L:List Int}(h:AH got w L):∀(A B:List Int)(P:PR),path w P=A++B->(∀a∈A,a∈L)->(∀a∈A++B,0<=a)->(∀b B',B=b::B'->b∉L)->run got P=(A,B.headD (-1))
 | [],B,P,hp,_,hz,hB=>by
  cases P with
  | done=>simp only[path,gA]at hp;subst hp;rfl
  | ask p k=>
   simp only[path,gA]at hp;subst hp;have hm:hit got p=false:=by rw[AR h (hz p (by simp)),b7 (hB p _ rfl)]
   rw[nQ hm];rfl
 | a::A,B,P,hp,hA,hz,hB=>by
  cases P with
  | done=>simp[path]at hp
  | ask p k=>
   simp only[path,fI,eZ]at hp;obtain⟨rfl,hp⟩:=hp;have hm:hit got p=true:=by rw[AR h (hz p (by simp)),bw (hA p e8)]
   have hv:(eX got p).1=w p:=by rw[h p,aj (hA p e8)]
   rw[nS hm,hv,HA h A B (k (w p)) hp (fun a ha=>hA a (cF _ ha)) (fun a ha=>hz a (cF _ ha)) hB]
structure DS (w:Int->Int) (l:List Int):Prop where
 once:l.Nodup
 dS:∀p∈l,0<=p/\p<20
 len:l.length<=8
theorem Cv(w:Int->Int)(K:Int)(l:List Int):path w (tG K l)=13::(if w 13<=wrap .i64 (K+1) then [] else l.map fR):=by
 unfold tG;simp only[path];by_cases h:w 13<=wrap .i64 (K+1)
 .rw[bw h,aj h];rfl
 .rw[b7 h,af h,bf];congr 1
  induction l with
  | nil=>rfl
  | cons a l ih=>simp only[sA,path,cv,ih]
theorem JK{o:cL}(ho:di o=true)(w:Int->Int)(hw:∀k,0<=k/\k<=3->0<=w k/\w k<=6):DS w (path w (prog o)):=by
 have hk:=tL ho;have hr:=vg o.2.1;have hoV:=uZ o.2.2.1;have hvV:=oO o.2.2.1;have jN:=yI o.2.2.1;have hcV:=uX (qh o.2.2.1);unfold prog;by_cases k1:o.1=1
 .rw[aj k1];unfold sI;simp only[path];cases w (qw o.2.1) != 0
  .simp only[bf,path];cases w (q9 o.2.2.1) != 0
   .simp only[bf,path,Cv,cv,f6];split
    .exact⟨by simp;omega,by simp;omega,by simp⟩
    .exact⟨by simp;omega,by simp;omega,by simp⟩
   .exact⟨by simp[path];omega,by simp[path];omega,by simp[path]⟩
  .exact⟨by simp[path],by simp[path];omega,by simp[path]⟩
 rw[af k1];by_cases k2:o.1=2
 .rw[aj k2];have hK:0<=o.2.1/\o.2.1<=3:=by omega
  have hrow:qw o.2.1=o.2.1:=by omega
  have hwv:=hw o.2.1 hK;unfold sJ;simp only[path];rw[hrow];generalize w o.2.1=v at *;have hov:=uZ v;have As:=oO v;have hcv:=yI v;have WT:=uX (qh v);by_cases hb:v=0\/v=o.2.2.1
  .rw[show(bif decide (v=0) then true else decide (v=o.2.2.1))=true by
    rcases hb with h | h
    .rw[bw h];rfl
    .rw[bw h];cases decide (v=0)<;>rfl]
   exact⟨by simp[path],by simp[path];omega,by simp[path]⟩
  .rw[show(bif decide (v=0) then true else decide (v=o.2.2.1))=false by
    rw[b7 (by omega),b7 (by omega)];rfl]
   simp only[bf,path];cases w (q9 o.2.2.1) != 0
   .simp only[bf,path];cases hc:qh v != qh o.2.2.1
    .simp only[bf,path,Cv,cv,f6];split
     .exact⟨by simp;omega,by simp;omega,by simp⟩
     .exact⟨by simp;omega,by simp;omega,by simp⟩
    .have hne:qh v≠qh o.2.2.1:=by simpa using hc
     simp only[bA,path,Cv,cv,f6];split
     .exact⟨by simp;omega,by simp;omega,by simp⟩
     .exact⟨by simp;omega,by simp;omega,by simp⟩
   .exact⟨by simp[path];omega,by simp[path];omega,by simp[path]⟩
 rw[af k2];by_cases k3:o.1=3
 .rw[aj k3];have hK:0<=o.2.1/\o.2.1<=3:=by omega
  have hrow:qw o.2.1=o.2.1:=by omega
  have hwv:=hw o.2.1 hK;unfold u7;simp only[path];rw[hrow];generalize w o.2.1=v at *;have hov:=uZ v;have As:=oO v;have hcv:=yI v;have WT:=uX (qh v);by_cases hb:v=0
  .rw[bw hb];exact⟨by simp[path],by simp[path];omega,by simp[path]⟩
  .rw[b7 hb];simp only[bf,path,Cv,cv,f6];split
   .exact⟨by simp;omega,by simp;omega,by simp⟩
   .exact⟨by simp;omega,by simp;omega,by simp⟩
 rw[af k3];by_cases k4:o.1=4
 .rw[aj k4];exact⟨by simp[path],by simp[path];omega,by simp[path]⟩
 rw[af k4];by_cases k5:o.1=5
 .rw[aj k5];exact⟨by simp[path],by simp[path];omega,by simp[path]⟩
 rw[af k5];by_cases k6:o.1=6
 .rw[aj k6];have:=uX o.2.1;exact⟨by simp[path],by simp[path];omega,by simp[path]⟩
 rw[af k6];by_cases k7:o.1=7
 .rw[aj k7];exact⟨by simp[path,Cs],by simp[path,Cs],by simp[path,Cs]⟩
 rw[af k7];by_cases k8:o.1=8
 .rw[aj k8];exact⟨by simp[path],by simp[path],by simp[path]⟩
 rw[af k8];by_cases k9:o.1=9
 .rw[aj k9];unfold yJ;simp only[path];generalize w 13=st;by_cases hs:st<1\/st>4
  .rw[show(bif decide (st<1) then true else decide (st>4))=true by
    rcases hs with h | h
    .rw[bw h];rfl
    .rw[bw h];cases decide (st<1)<;>rfl]
   exact⟨by simp[path],by simp[path],by simp[path]⟩
  .rw[show(bif decide (st<1) then true else decide (st>4))=false by
    rw[b7 (by omega),b7 (by omega)];rfl]
   have qD:wrap .i64 (st-1)=st-1:=qs (by omega) (by omega);have XD:=vg (st-1);simp only[bf,path];rw[qD];have hp:qw (st-1)=st-1:=by omega
   rw[hp];cases hin:bu (w (st-1)) 1 6
   .exact⟨by simp[path];omega,by simp[path];omega,by simp[path]⟩
   .have hi:=lp.1 hin;have As:=oO (w (st-1));simp only[cJ,bf,path];exact⟨by simp;omega,by simp;omega,by simp⟩
 rw[af k9];have js:o.1=10:=by omega
 rw[aj js];unfold v7;simp only[path];cases w 13 != 5
 .simp only[bf,path];exact⟨by simp;omega,by simp;omega,by simp⟩
 .exact⟨by simp[path],by simp[path],by simp[path]⟩
theorem QY{α:Type}(key:α->Int):∀(L acc:List α),(L.foldl (j4 key) acc).length=acc.length+L.length
 | [],acc=>rfl
 | e::L,acc=>by rw[nK,QY key L,xJ,ct];omega
theorem Bd(w:Int->Int)(K:Int)(l:List Int):∀p∈path w (tG K l),p=13\/p∈l.map fR:=by
 intro p hp;rw[Cv]at hp;rcases bh.1 hp with h | h
 .exact .inl h
 .split at h
  .simp at h
  .exact .inr h
theorem Sl{o:cL}(ho:di o=true){got:dM}{w:Int->Int}(hw:∀k,0<=k/\k<=3->0<=w k/\w k<=6)(hk:AH got w (path w (prog o)))(hn:mM o got=none)(eK:o.1=1\/o.1=2\/o.1=3) :
  val got (qw o.2.1)=w o.2.1/\∀p∈path w (prog o),p∈(e_ o.2.1 o.2.2.1 (w o.2.1) (val got 13)).map (·.1):=by
 have ue:=tL ho;have hr:=vg o.2.1;have hrow:qw o.2.1=o.2.1:=by omega
 have jN:=yI o.2.2.1;have UQ:=hw o.2.1 (by omega);have W4:∃P,path w (prog o)=qw o.2.1::P:=by
  unfold prog;rcases eK with k | k | k
  .rw[aj k];exact⟨_,rfl⟩
  .rw[af (by omega),aj k];exact⟨_,rfl⟩
  .rw[af (by omega),af (by omega),aj k];exact⟨_,rfl⟩
 obtain⟨P,hP⟩:=W4;have hval:val got (qw o.2.1)=w o.2.1:=by unfold val;rw[hk (qw o.2.1),aj (by rw[hP];exact e8),hrow]
 refine⟨hval,?_⟩;have hrd:(eX got (qw o.2.1)).1=w o.2.1:=hval;unfold mM at hn;rw[hrd]at hn;unfold jO at hn;unfold prog at hk⊢;rcases eK with k | k | k
 .rw[aj k]at hk⊢;by_cases c1:w o.2.1≠0
  .rw[aj ⟨k,c1⟩]at hn;cases hn
  have zm:w o.2.1=0:=by omega
  rw[af (fun q=>c1 q.2)]at hn;have ia:path w (sI o)=qw o.2.1::q9 o.2.2.1::(bif w (q9 o.2.2.1) != 0 then [] else iS (qh o.2.2.1)::path w (tG o.2.1 [o.2.2.1])):=by unfold sI;simp only[path];rw[hrow,zm];simp only[bH,AK,cJ,bf,path];cases decide (w (q9 o.2.2.1)=0)<;>rfl
  rw[ia]at hk⊢;have hown:(eX got (q9 o.2.2.1)).1=w (q9 o.2.2.1):=by rw[hk,aj (by simp)]
  rw[hown]at hn;by_cases c2:w (q9 o.2.2.1)≠0
  .rw[aj ⟨k,c2⟩]at hn;cases hn
  have Wp:w (q9 o.2.2.1)=0:=by omega
  rw[Wp,show((0:Int) != 0)=false by decide,bf];have hz:qh 0 = -1:=by decide
  have mj:(qh (w o.2.1) != qh o.2.2.1)=true:=by rw[zm,hz,bH,b7 (by omega)];rfl
  intro p hp;unfold e_;rw[mj,bA];simp only[fI,gA,cv,f6,bh,dg,dj];simp only[bh]at hp;rcases hp with h | h | h | h
  .exact .inl h
  .exact .inr (.inr (.inr (.inr (.inl h))))
  .exact .inr (.inr (.inr (.inr (.inr (.inr (.inr h))))))
  .rcases Bd w _ _ p h with h | h
   .exact .inr (.inl h)
   .simp only[cv,f6,bh,dg,dj]at h;exact .inr (.inr (.inr (.inr (.inr (.inl h)))))
 .rw[af (by omega),aj k]at hk⊢;rw[af (by omega),af (by omega)]at hn;by_cases c1:w o.2.1=0
  .rw[aj ⟨.inl k,c1⟩]at hn;cases hn
  rw[af (fun q=>c1 q.2)]at hn;by_cases c3:w o.2.1=o.2.2.1
  .rw[aj ⟨k,c3⟩]at hn;cases hn
  rw[af (fun q=>c3 q.2)]at hn;have ia:path w (sJ o)=qw o.2.1::q9 o.2.2.1::(bif w (q9 o.2.2.1) != 0 then [] else q9 (w o.2.1)::(bif qh (w o.2.1) != qh o.2.2.1 then iS (qh (w o.2.1))::iS (qh o.2.2.1)::path w (tG o.2.1 [w o.2.1,o.2.2.1]) else path w (tG o.2.1 [w o.2.1,o.2.2.1]))):=by
   unfold sJ;simp only[path];rw[hrow,b7 c1,b7 c3];simp only[bf,path];cases w (q9 o.2.2.1) != 0
   .simp only[bf,path];cases qh (w o.2.1) != qh o.2.2.1<;>rfl
   .rfl
  rw[ia]at hk⊢;have hown:(eX got (q9 o.2.2.1)).1=w (q9 o.2.2.1):=by rw[hk,aj (by simp)]
  rw[hown]at hn;by_cases c2:w (q9 o.2.2.1)≠0
  .rw[aj ⟨k,c2⟩]at hn;cases hn
  have Wp:w (q9 o.2.2.1)=0:=by omega
  rw[Wp,show((0:Int) != 0)=false by decide,bf];intro p hp;unfold e_;cases mj:qh (w o.2.1) != qh o.2.2.1
  .rw[mj,bf]at hp;rw[bf];simp only[gT,cv,f6,bh,dg,dj];simp only[bh]at hp;rcases hp with h | h | h | h
   .exact .inl h
   .exact .inr (.inr (.inr (.inr (.inl h))))
   .exact .inr (.inr (.inl h))
   .rcases Bd w _ _ p h with h | h
    .exact .inr (.inl h)
    .simp only[cv,f6,bh,dg,dj]at h;rcases h with h | h
     .exact .inr (.inr (.inr (.inl h)))
     .exact .inr (.inr (.inr (.inr (.inr h))))
  .rw[mj,bA]at hp;rw[bA];simp only[fI,gA,cv,f6,bh,dg,dj];simp only[bh]at hp;rcases hp with h | h | h | h | h | h
   .exact .inl h
   .exact .inr (.inr (.inr (.inr (.inl h))))
   .exact .inr (.inr (.inl h))
   .exact .inr (.inr (.inr (.inr (.inr (.inr (.inl h))))))
   .exact .inr (.inr (.inr (.inr (.inr (.inr (.inr h))))))
   .rcases Bd w _ _ p h with h | h
    .exact .inr (.inl h)
    .simp only[cv,f6,bh,dg,dj]at h;rcases h with h | h
     .exact .inr (.inr (.inr (.inl h)))
     .exact .inr (.inr (.inr (.inr (.inr (.inl h)))))
 .rw[af (by omega),af (by omega),aj k]at hk⊢;rw[af (by omega),af (by omega)]at hn;by_cases c1:w o.2.1=0
  .rw[aj ⟨.inr (.inl k),c1⟩]at hn;cases hn
  have ia:path w (u7 o)=qw o.2.1::q9 (w o.2.1)::iS (qh (w o.2.1))::path w (tG o.2.1 [w o.2.1]):=by unfold u7;simp only[path];rw[hrow,b7 c1];simp only[bf,path]
  rw[ia];have hV:o.2.2.1=0:=by omega
  have hz:qh 0 = -1:=by decide
  have hck:=yI (w o.2.1);have mj:(qh (w o.2.1) != qh o.2.2.1)=true:=by rw[hV,hz,bH,b7 (by omega)];rfl
  intro p hp;unfold e_;rw[mj,bA];simp only[fI,gA,cv,f6,bh,dg,dj];simp only[bh]at hp;rcases hp with h | h | h | h
  .exact .inl h
  .exact .inr (.inr (.inl h))
  .exact .inr (.inr (.inr (.inr (.inr (.inr (.inl h))))))
  .rcases Bd w _ _ p h with h | h
   .exact .inr (.inl h)
   .simp only[cv,f6,bh,dg,dj]at h;exact .inr (.inr (.inr (.inl h)))
theorem Q4{l:List ez}(h:lM l):(l.map (·.1)).Nodup:=by rw[List.Nodup,List.pairwise_map];exact h.imp fun {a b} hab=>by omega
theorem MZ{o:cL}(ho:di o=true){got:dM}{w:Int->Int}(hw:∀k,0<=k/\k<=3->0<=w k/\w k<=6)(hk:AH got w (path w (prog o)))(hrun:run got (prog o)=(path w (prog o),-1))(hn:mM o got=none) :
  (∀p∈path w (prog o),∃e∈dJ o got,e.1=p/\e.2.1=w p)/\(dJ o got).length=(path w (prog o)).length:=by
 have hpk:=JK ho w hw;have Jm:∀p∈path w (prog o),val got p=w p:=fun p hp=>by unfold val;rw[hk p,aj hp]
 have Aj:∀p,0<=p->(hit got p=true↔p∈path w (prog o)):=fun p hp=>by rw[AR hk hp,gS]
 by_cases eK:o.1=1\/o.1=2\/o.1=3
 .obtain⟨hv,hsub⟩:=Sl ho hw hk hn eK;have hne:=xO ho hn eK;have hE:dJ o got=(iu got (e_ o.2.1 o.2.2.1 (w o.2.1) (val got 13))).foldl g_ []:=by unfold dJ;rw[aj eK,hv]
  rw[hv]at hne;obtain⟨_,r2,r3,r4⟩:=L_ (got:=got) (K:=o.2.1) (V:=o.2.2.1) (held:=w o.2.1) (st:=val got 13) hne;rw[hE];have hA:∀p∈path w (prog o),∃e∈(iu got (e_ o.2.1 o.2.2.1 (w o.2.1) (val got 13))).foldl g_ [],e.1=p/\e.2.1=w p:=by intro p hp;obtain⟨q,hq,rfl⟩:=eJ.1 (hsub p hp);have hh:=(Aj q.1 (hpk.dS q.1 hp).1).2 hp;exact⟨_,(r3 _).2 ((Jx got _ _).2 ⟨q,hq,hh,rfl⟩),rfl,Jm q.1 hp⟩
  refine⟨hA,?_⟩;have Lj:(((iu got (e_ o.2.1 o.2.2.1 (w o.2.1) (val got 13))).foldl g_ []).map (·.1)).Perm (path w (prog o)):=by
   rw[N4 (Q4 r2) hpk.once];intro p;constructor
   .intro hp;obtain⟨e,he,rfl⟩:=eJ.1 hp;obtain⟨q,_,hh,rfl⟩:=(Jx got _ _).1 ((r3 _).1 he);exact(Aj q.1 (Bl hh)).1 hh
   .intro hp;obtain⟨e,he,h1,_⟩:=hA p hp;exact eJ.2 ⟨e,he,h1⟩
  have:=Lj.length_eq;rw[jC]at this;exact this
 .have hneg:(run got (prog o)).2<0:=by rw[hrun];show(-1:Int)<0;omega
  obtain⟨_,pl⟩:=Hl ho hn hneg eK;have Ji:(run got (prog o)).1=path w (prog o):=by rw[hrun]
  rw[Ji]at pl;have hmem:∀L:List Int,(path w (prog o)).foldl (j4 fG) []=L->(∀p∈path w (prog o),p∈L)/\L.length=(path w (prog o)).length:=by
   intro L hL;refine⟨fun p hp=>?_,?_⟩
   .rw[<-hL,G5];exact .inr hp
   .rw[<-hL,QY];simp
  unfold dJ;rw[af eK];rcases pl with⟨k,hp⟩ | ⟨k,hz,hp⟩ | ⟨k,hz,hp⟩ | ⟨k,hp⟩
  .obtain⟨m1,m2⟩:=hmem _ hp;rw[aj k];refine⟨fun p xg=>?_,by rw[<-m2];rfl⟩;have h2:=m1 p xg;have hv:=Jm p xg;simp only[bh,dg,dj]at h2;rcases h2 with rfl | rfl | rfl | rfl
   .exact⟨same got 0,by simp,rfl,hv⟩
   .exact⟨same got 1,by simp,rfl,hv⟩
   .exact⟨same got 2,by simp,rfl,hv⟩
   .exact⟨same got 3,by simp,rfl,hv⟩
  .obtain⟨m1,m2⟩:=hmem _ hp;rw[af (by omega),aj k];refine⟨fun p xg=>?_,by rw[<-m2];rfl⟩;have h2:=m1 p xg;have hv:=Jm p xg;simp only[bh,dg,dj]at h2;subst h2;exact⟨_,d9.2 rfl,rfl,hv⟩
  .obtain⟨m1,m2⟩:=hmem _ hp;rw[af (by omega),af (by omega),aj k];generalize qw (wrap .i64 (val got 13-1))=q at *;refine⟨fun p xg=>?_,by rw[<-m2];cases bu (val got q) 1 6<;>rfl⟩;have h2:=m1 p xg;have hv:=Jm p xg;simp only[bh]at h2;rcases h2 with rfl | rfl | h2
   .exact⟨same got p,e8,rfl,hv⟩
   .exact⟨_,cF _ e8,rfl,hv⟩
   .cases hin:bu (val got q) 1 6
    .rw[hin]at h2;simp at h2
    .rw[hin,bA,d9]at h2;subst h2;exact⟨_,cF _ (cF _ (by rw[bA];exact d9.2 rfl)),rfl,hv⟩
  .obtain⟨m1,m2⟩:=hmem _ hp;rw[af (by omega),af (by omega),af (by omega),aj k];refine⟨fun p xg=>?_,by rw[<-m2];rfl⟩;have h2:=m1 p xg;have hv:=Jm p xg;simp only[bh,dg,dj]at h2;rcases h2 with rfl | rfl
   .exact⟨same got 13,by simp,rfl,hv⟩
   .exact⟨same got (fR o.2.2.1),by simp,rfl,hv⟩
def b_(r:qp)(p:Int):Int:=jX r p.toNat
theorem u_{r:qp}(hr:aW r){k:Int}(hk:0<=k/\k<=3):b_ r k=r.1.getD k.toNat 0/\0<=b_ r k/\b_ r k<=6:=by
 have hl:=hr.len;have e:b_ r k=r.1.getD k.toNat 0:=by unfold b_ jX;rw[aj (by omega)]
 refine⟨e,?_⟩;rw[e,qv (by omega)];exact hr.dS _ (eB _)
def fz(r:qp)(o:cL):dM:=(path (b_ r) (prog o)).map fun p=>(p,b_ r p,())
theorem Gp(r:qp)(o:cL):AH (fz r o) (b_ r) (path (b_ r) (prog o)):=abZ _ _
theorem G8{r:qp}(hr:aW r){o:cL}(ho:di o=true):run (fz r o) (prog o)=(path (b_ r) (prog o),-1):=by have hpk:=JK ho (b_ r) (fun k hk=>(u_ hr hk).2);exact HA (Gp r o) (path (b_ r) (prog o)) [] (prog o) (by rw[gT]) (fun a ha=>ha) (fun a ha=>(hpk.dS a (by simpa using ha)).1) (fun b B' h=>by cases h)
section
variable {X:Ext} (hX:fW X) {n:Nat}
include hX
end
inductive Out (r:qp) (o:cL):Int->List Int->Prop
 | ET:o.1=1->r.1.getD o.2.1.toNat 0≠0->Out r o 1 []
 | EU:o.1=1->0<=a_ o.2.2.1 r.1 0->Out r o 2 []
 | ES:o.1=1->r.1.getD o.2.1.toNat 0=0->a_ o.2.2.1 r.1 0<0->Out r o 0 []
 | I6:o.1=2->r.1.getD o.2.1.toNat 0=0->Out r o 3 []
 | CI:o.1=2->r.1.getD o.2.1.toNat 0≠0->r.1.getD o.2.1.toNat 0=o.2.2.1->Out r o 0 []
 | I5:o.1=2->0<=a_ o.2.2.1 r.1 0->Out r o 2 []
 | I4:o.1=2->r.1.getD o.2.1.toNat 0≠0->r.1.getD o.2.1.toNat 0≠o.2.2.1->a_ o.2.2.1 r.1 0<0->Out r o 0 []
 | DV:o.1=3->r.1.getD o.2.1.toNat 0=0->Out r o 3 []
 | DU:o.1=3->r.1.getD o.2.1.toNat 0≠0->Out r o 0 []
 | D8:o.1=4->r.1.getD o.2.1.toNat 0=0->Out r o 3 []
 | D7:o.1=4->r.1.getD o.2.1.toNat 0≠0->Out r o 0 [r.1.getD o.2.1.toNat 0]
 | wI:o.1=5->a_ o.2.2.1 r.1 0<0->Out r o 3 []
 | wH:o.1=5->0<=a_ o.2.2.1 r.1 0->Out r o 0 [a_ o.2.2.1 r.1 0]
 | DT:o.1=6->Out r o 0 [many o.2.1 r.1]
 | DL:o.1=7->Out r o 0 r.1
 | xC:o.1=8->r.2.1≠0->Out r o 4 []
 | Dc:o.1=8->r.2.1=0->Out r o 0 []
 | xA:o.1=9->r.2.1=0\/r.2.1=5->Out r o 4 []
 | Db:o.1=9->1<=r.2.1/\r.2.1<=4->Out r o 0 []
 | I_:o.1=10->r.2.1≠5->Out r o 4 []
 | Uh:o.1=10->r.2.1=5->a_ o.2.2.1 r.1 0<0->Out r o 3 []
 | Ug:o.1=10->r.2.1=5->0<=a_ o.2.2.1 r.1 0->Out r o 0 [a_ o.2.2.1 r.1 0]
theorem IV{r:qp}(hr:aW r){v:Int}(hv:1<=v/\v<=6):b_ r (q9 v)=a_ v r.1 0+1:=by
 have ho:=uZ v;have hl:=hr.len;have hk:=yO v r.1 0;have e:q9 v=3+v:=by omega
 unfold b_ jX;rw[e,af (by omega),aj (by omega)];unfold qH;rw[show(((3+v).toNat:Nat):Int)-3=v by omega];by_cases h:0<=a_ v r.1 0/\a_ v r.1 0<4
 .rw[aj h]
 .rw[af h];omega
theorem DB(r:qp):b_ r 13=r.2.1:=rfl
theorem Rf{r:qp}{c:Int}(hc:0<=c/\c<=2):b_ r (iS c)=many c r.1:=by
 have ho:=uX c;have e:iS c=10+c:=by omega
 unfold b_ jX;rw[e,af (by omega),af (by omega),aj (by omega),show(((10+c).toNat:Nat):Int)-10=c by omega]
theorem aky{r:qp}{v:Int}(hv:1<=v/\v<=6):b_ r (fR v)=lD v r.1 4 r.2.1:=by
 have ho:=oO v;have e:fR v=13+v:=by omega
 unfold b_ jX;rw[e,af (by omega),af (by omega),af (by omega),af (by omega),show(((13+v).toNat:Nat):Int)-13=v by omega]
theorem alD{l:List Int}(h:l.length=4):l=[l.getD 0 0,l.getD 1 0,l.getD 2 0,l.getD 3 0]:=by
 match l,h with
 | [a,b,c,d],_=>rfl
theorem Nk{r:qp}(hr:aW r){o:cL}(ho:di o=true):Out r o (gj o (fz r o)).1.2.1.1 (gj o (fz r o)).1.2.1.2.1:=by
 have ue:=tL ho;have hrun:=G8 hr ho;have hkn:=Gp r o;have gq:di o=true/\(run (fz r o) (prog o)).2<0:=⟨ho,by rw[hrun];show(-1:Int)<0;omega⟩
 have hst:=hr.st;have hl:=hr.len;have hrd:∀p,p∈path (b_ r) (prog o)->(eX (fz r o) p).1=b_ r p:=fun p hp=>by rw[hkn p,aj hp]
 have hrow:=vg o.2.1;unfold gj;rw[aj gq];by_cases k1:o.1=1
 .have hK:qw o.2.1=o.2.1:=by omega
  have hw:=u_ hr (k:=o.2.1) (by omega);have hp:prog o=sI o:=by unfold prog;rw[aj k1]
  have m1:qw o.2.1∈path (b_ r) (prog o):=by rw[hp];unfold sI;simp only[path];exact e8
  have r1:=hrd _ m1;rw[hK,hw.1]at r1;unfold mM;rw[hK,r1];unfold jO;by_cases c1:r.1.getD o.2.1.toNat 0≠0
  .rw[aj ⟨k1,c1⟩];exact .ET k1 c1
  have zm:r.1.getD o.2.1.toNat 0=0:=by omega
  rw[af (fun q=>c1 q.2)];have m2:q9 o.2.2.1∈path (b_ r) (prog o):=by rw[hp];unfold sI;simp only[path];rw[hK,hw.1,zm];simp only[bH,AK,cJ,bf,path];simp
  rw[hrd _ m2,IV hr (by omega)];by_cases c2:a_ o.2.2.1 r.1 0+1≠0
  .rw[aj ⟨k1,c2⟩];exact .EU k1 (by have:=yO o.2.2.1 r.1 0;omega)
  rw[af (fun q=>c2 q.2),af (by omega),af (by omega),af (by omega),af (by omega),af (by omega),af (by omega),af (by omega),af (by omega),af (by omega),af (by omega)];dsimp only;unfold eH;rw[af (by omega),af (by omega)];exact .ES k1 zm (by omega)
 by_cases k2:o.1=2
 .have hK:qw o.2.1=o.2.1:=by omega
  have hw:=u_ hr (k:=o.2.1) (by omega);have hp:prog o=sJ o:=by unfold prog;rw[af k1,aj k2]
  have m1:qw o.2.1∈path (b_ r) (prog o):=by rw[hp];unfold sJ;simp only[path];exact e8
  have r1:=hrd _ m1;rw[hK,hw.1]at r1;unfold mM;rw[hK,r1];unfold jO;rw[af (by omega),af (by omega)];by_cases c1:r.1.getD o.2.1.toNat 0=0
  .rw[aj ⟨.inl k2,c1⟩];exact .I6 k2 c1
  rw[af (fun q=>c1 q.2)];by_cases c3:r.1.getD o.2.1.toNat 0=o.2.2.1
  .rw[aj ⟨k2,c3⟩];exact .CI k2 c1 c3
  rw[af (fun q=>c3 q.2)];have m2:q9 o.2.2.1∈path (b_ r) (prog o):=by rw[hp];unfold sJ;simp only[path];rw[hK,hw.1,b7 c1,b7 c3];simp only[bf,path];simp
  rw[hrd _ m2,IV hr (by omega)];by_cases c2:a_ o.2.2.1 r.1 0+1≠0
  .rw[aj ⟨k2,c2⟩];exact .I5 k2 (by have:=yO o.2.2.1 r.1 0;omega)
  rw[af (fun q=>c2 q.2),af (by omega),af (by omega),af (by omega),af (by omega),af (by omega),af (by omega),af (by omega)];dsimp only;unfold eH;rw[af (by omega),af (by omega)];exact .I4 k2 c1 c3 (by omega)
 by_cases C_:o.1=3\/o.1=4
 .have hK:qw o.2.1=o.2.1:=by omega
  have hw:=u_ hr (k:=o.2.1) (by omega);have m1:qw o.2.1∈path (b_ r) (prog o):=by
   unfold prog;rw[af k1,af k2];rcases C_ with k | k
   .rw[aj k];unfold u7;simp only[path];exact e8
   .rw[af (by omega),aj k];simp only[path];exact e8
  have r1:=hrd _ m1;rw[hK,hw.1]at r1;unfold mM;rw[hK,r1];unfold jO;rw[af (by omega),af (by omega)];by_cases c1:r.1.getD o.2.1.toNat 0=0
  .rw[aj ⟨.inr C_,c1⟩];rcases C_ with k | k
   .exact .DV k c1
   .exact .D8 k c1
  rw[af (fun q=>c1 q.2),af (by omega),af (by omega)];rcases C_ with k | k
  .rw[af (by omega),af (by omega),af (by omega),af (by omega),af (by omega),af (by omega),af (by omega)];dsimp only;unfold eH;rw[af (by omega),af (by omega)];exact .DU k c1
  .rw[aj k];exact .D7 k c1
 by_cases k5:o.1=5
 .have m1:q9 o.2.2.1∈path (b_ r) (prog o):=by unfold prog;rw[af k1,af k2,af (by omega),af (by omega),aj k5];simp only[path];exact e8
  have hk:=yO o.2.2.1 r.1 0;unfold mM;rw[hrd _ m1,IV hr (by omega)];unfold jO;rw[af (by omega),af (by omega),af (by omega),af (by omega),af (by omega),af (by omega)];by_cases c:a_ o.2.2.1 r.1 0+1=0
  .rw[aj ⟨k5,c⟩];exact .wI k5 (by omega)
  .rw[af (fun q=>c q.2),aj k5];dsimp only;rw[show a_ o.2.2.1 r.1 0+1-1=a_ o.2.2.1 r.1 0 by omega,qs (by omega) (by omega)];exact .wH k5 (by omega)
 by_cases k6:o.1=6
 .have m1:iS o.2.1∈path (b_ r) (prog o):=by unfold prog;rw[af k1,af k2,af (by omega),af (by omega),af k5,aj k6];simp only[path];exact e8
  unfold mM;rw[hrd _ m1,Rf (by omega)];unfold jO;rw[af (by omega),af (by omega),af (by omega),af (by omega),af (by omega),af (by omega),af (by omega),af k5,aj k6];exact .DT k6
 by_cases k7:o.1=7
 .have hp:prog o=Cs:=by unfold prog;rw[af k1,af k2,af (by omega),af (by omega),af k5,af k6,aj k7]
  unfold mM jO;rw[af (by omega),af (by omega),af (by omega),af (by omega),af (by omega),af (by omega),af (by omega),af k5,af k6,af (by omega),af (by omega),af (by omega)];dsimp only;unfold eH;rw[aj k7];have hv:∀p:Int,0<=p/\p<=3->val (fz r o) p=r.1.getD p.toNat 0:=fun p Li=>by
   unfold val;rw[hrd p (by rw[hp];unfold Cs;simp only[path,bh,dg,dj];omega)];exact(u_ hr Li).1
  dsimp only;rw[hv 0 (by omega),hv 1 (by omega),hv 2 (by omega),hv 3 (by omega)];have:=alD hl;have e:[r.1.getD (0:Int).toNat 0,r.1.getD (1:Int).toNat 0,r.1.getD (2:Int).toNat 0,r.1.getD (3:Int).toNat 0]=r.1:=this.symm;rw[e];exact .DL k7
 have m13:(13:Int)∈path (b_ r) (prog o):=by
  unfold prog;rw[af k1,af k2,af (by omega),af (by omega),af k5,af k6,af k7];by_cases k8:o.1=8
  .rw[aj k8];simp only[path];exact e8
  by_cases k9:o.1=9
  .rw[af k8,aj k9];unfold yJ;simp only[path];exact e8
  .rw[af k8,af k9,aj (by omega)];unfold v7;simp only[path];exact e8
 unfold mM;rw[hrd _ m13,DB];unfold jO;rw[af (by omega),af (by omega),af (by omega),af (by omega),af (by omega),af (by omega),af (by omega),af k5,af k6];by_cases k8:o.1=8
 .by_cases c:r.2.1≠0
  .rw[aj ⟨k8,c⟩];exact .xC k8 c
  .rw[af (fun q=>c q.2),af (by omega),af (by omega)];dsimp only;unfold eH;rw[af (by omega),af (by omega)];exact .Dc k8 (by omega)
 rw[af (by omega)];by_cases k9:o.1=9
 .by_cases c:r.2.1<1\/r.2.1>4
  .rw[aj ⟨k9,c⟩];exact .xA k9 (by omega)
  .rw[af (fun q=>c q.2),af (by omega)];dsimp only;unfold eH;rw[af (by omega),af (by omega)];exact .Db k9 (by omega)
 rw[af (by omega)];have js:o.1=10:=by omega
 by_cases c:r.2.1≠5
 .rw[aj ⟨js,c⟩];exact .I_ js c
 rw[af (fun q=>c q.2)];have c5:r.2.1=5:=by omega
 have mv:fR o.2.2.1∈path (b_ r) (prog o):=by unfold prog;rw[af k1,af k2,af (by omega),af (by omega),af k5,af k6,af k7,af k8,af k9,aj js];unfold v7;simp only[path];rw[DB,c5];simp only[show((5:Int) != 5)=false by decide,bf,path];simp
 have hk:=yO o.2.2.1 r.1 0;have As:val (fz r o) (fR o.2.2.1)=a_ o.2.2.1 r.1 0+1:=by
  unfold val;rw[hrd _ mv,aky (by omega)];unfold lD;by_cases q:0<=a_ o.2.2.1 r.1 0/\a_ o.2.2.1 r.1 0<4/\a_ o.2.2.1 r.1 0<r.2.1-1
  .rw[aj q]
  .rw[af q];omega
 dsimp only;unfold eH;rw[af k7,aj js,As];by_cases q:a_ o.2.2.1 r.1 0+1=0
 .rw[aj q];exact .Uh js c5 (by omega)
 .rw[af q];dsimp only;rw[show a_ o.2.2.1 r.1 0+1-1=a_ o.2.2.1 r.1 0 by omega,qs (by omega) (by omega)];exact .Ug js c5 (by omega)
theorem AQ(v:Int):∀(l:List Int)(i:Nat),v∉l->a_ v l i = -1
 | [],i,_=>rfl
 | x::l,i,h=>by
  simp only[a_];rw[af (fun e=>h (by rw[e];exact e8)),AQ v l (i+1) (fun m=>h (cF _ m))]
section
variable {X:Ext} (hX:fW X) {n:Nat}
include hX
theorem M9(D:Den ctx)(n:Nat)(K0:Int->Option ((Int×Unit)×Unit))(K1:Option ((Int×Unit)×Unit))(hK:K0 (-1)=K1)(l:List Int)(hl:l.length<=1000)(v:Int):∀(m i:Nat),i<=l.length->l.length-i<m->
  SW D n K0 K1 m l v (l.length:Int) (i:Int)=K0 (a_ v (l.drop i) i)
 | 0,_,_,h=>by omega
 | m+1,i,hi,hf=>by
  simp only[SW,qlr];by_cases h:i<l.length
  .rw[qf (by omega),ix h,aG,eE,qv h,uT h];simp only[a_];by_cases e:l[i]=v
   .rw[qf e.symm,aj e]
   .rw[qg (fun k=>e k.symm),af e,qu (by omega)];exact M9 D n K0 K1 hK l hl v m (i+1) (by omega) (by omega)
  .rw[qg (by omega),uY h];exact hK.symm
theorem MH(hn:W+1<=n)(l:List Int)(hl:l.length<=1000)(v:Int):Vr (DD X n) l v=some ((a_ v l 0,()),()):=by
 obtain⟨n,rfl⟩:∃k,n=k+1:=⟨n-1,by omega⟩
 have hW:=d7;rw[adB hX];simp only[qmt,qm0,qlf];have e:=M9 hX (DD X n) n (fun bR=>qrf (DD X n) n bR) (qrg (DD X n) n) rfl l hl v n 0 (by omega) (by omega);rw[show((0:Nat):Int)=0 from rfl]at e;rw[e];rfl
theorem aaA(hn:W+2<=n)(r:qp)(hr:r.1.length<=1000)(v:Int):V9 (DD X n) r v=some ((a_ v r.1 0,()),()):=by
 obtain⟨n,rfl⟩:∃k,n=k+1:=⟨n-1,by omega⟩
 rw[ajF hX];simp only[q75,Pq];rw[MH hX (by omega) r.1 hr,qc]
theorem Qk(hn:W+2<=n)(l:List Int)(hl:l.length<=1000)(v:Int)(h:v∉l):Vn (DD X n) l v=some ((false,()),()):=by
 obtain⟨n,rfl⟩:∃k,n=k+1:=⟨n-1,by omega⟩
 rw[q65 hX];simp only[qkg,qq8];rw[MH hX (by omega) l hl,qc,AQ v l 0 h];rfl
theorem GX(N n:Nat)(hN:W+3<=N)(K0:Bool->qp->Option ((Bool×Unit)×Unit))(K1:qp->Option ((Bool×Unit)×Unit)){r:qp}(hr:aW r):∀(m i:Nat),i<=r.1.length->r.1.length-i<m->
  TI (DD X N) n K0 K1 m r.1 (r.1.length:Int) (i:Int) r=K1 r
 | 0,_,_,h=>by omega
 | m+1,i,hi,hf=>by
  have hl:=hr.len;have hW:=d7;simp only[TI,Zm];by_cases h:i<r.1.length
  .rw[qf (by omega),ix h,aG,eE,qv h];by_cases e:r.1[i]=0
   .rw[bH,bw e,cJ,aL,qu (by omega)];exact GX N n hN K0 K1 hr m (i+1) (by omega) (by omega)
   .have hv:=hr.dS r.1[i] (eB h);rw[bH,b7 e,i6,aG,IU hX (by omega),qc];dsimp only;rw[lp.2 (by omega),cJ,aL];rw[show(decide ((0:Nat)<=0)&&decide ((0:Int)<=(i:Int))&&decide ((i:Int)<=(r.1.length:Int)))=true by
     rw[bw (by omega:(0:Int)<=(i:Int)),bw (by omega:(i:Int)<=(r.1.length:Int))];rfl]
    rw[aG,Int.toNat_zero,jW];have hnot:r.1[i]∉r.1.take i:=fun hm=>by
     obtain⟨j,hj⟩:=mT.1 hm;rw[gm]at hj;split at hj
     .exact e (hr.once j i (by assumption) _ hj (gz h))
     .simp at hj
    rw[Qk hX (by omega) _ (by rw[eR];omega) _ hnot,qc];dsimp only;rw[aL,qu (by omega)];exact GX N n hN K0 K1 hr m (i+1) (by omega) (by omega)
  .rw[qg (by omega)]
theorem q8n(hn:W+4<=n){r:qp}(hr:aW r):TK (DD X n) r=some ((true,()),()):=by
 obtain⟨n,rfl⟩:∃k,n=k+1:=⟨n-1,by omega⟩
 have hW:=d7;have hl:=hr.len;rw[aiS hX];simp only[Z0,q5n,qys];have e:=GX hX n n (by omega) (fun bR dY=>q88 (DD X n) n bR dY) (fun sR=>qwd (DD X n) n sR) hr n 0 (by omega) (by omega);rw[show((0:Nat):Int)=0 from rfl]at e;rw[e];simp only[qwd];rw[qf (by omega),lq hX (by omega),qc,lp.2 hr.st]
theorem U7(N n:Nat)(hN:4<=N)(K:Int->Option ((Int×Unit)×Unit))(l:List Int)(hr:l.length<=1000)(c:Int):∀(m i:Nat)(a:Int),i<=l.length->l.length-i<m->0<=a/\a<=i->
  Tj (DD X N) n K m c a l (l.length:Int) (i:Int)=K (a+many c (l.drop i))
 | 0,_,_,_,h,_=>by omega
 | m+1,i,a,hi,hf,ha=>by
  simp only[Tj,qyg];by_cases h:i<l.length
  .rw[qf (by omega),ix h,aG,eE,qv h,IU hX (by omega),qc,uT h];simp only[many];cases hv:bu l[i] 1 6
   .rw[aL,qu (by omega),U7 N n hN K l hr c m (i+1) _ (by omega) (by omega) (by omega)];congr 1;simp only[Bool.false_and,bf];omega
   .rw[aG,IL hX (by omega),qc];dsimp only;by_cases e:qh l[i]=c
    .rw[qf e,qs (by omega) (by omega),qu (by omega),U7 N n hN K l hr c m (i+1) _ (by omega) (by omega) (by omega)];congr 1;simp only[e,zH,AK,bA];omega
    .rw[qg e,qu (by omega),U7 N n hN K l hr c m (i+1) _ (by omega) (by omega) (by omega)];congr 1;simp only[b7 e,zH,bf];omega
  .rw[qg (by omega),uY h];congr 1;simp[many]
theorem aix(hn:W+1<=n)(r:qp)(hr:r.1.length<=1000)(c:Int):Yt (DD X n) r c=some ((many c r.1,()),()):=by
 obtain⟨n,rfl⟩:∃k,n=k+1:=⟨n-1,by omega⟩
 have hW:=d7;rw[ahM hX];simp only[Ym,YO,qwa];have e:=U7 hX n n (by omega) (fun bR=>q6e (DD X n) n bR) r.1 hr c n 0 0 (by omega) (by omega) (by omega);rw[show((0:Nat):Int)=0 from rfl,jW,Int.zero_add]at e;rw[e];rfl
theorem alh(hn:1<=n)(r:qp):J9 (DD X n) r=some ((decide (r.2.1=5),()),()):=by
 obtain⟨n,rfl⟩:∃k,n=k+1:=⟨n-1,by omega⟩
 rw[aaw hX];rfl
theorem M3(D:Den ctx)(n:Nat)(K0:Bool->Option ((Bool×Unit)×Unit))(K1:Option ((Bool×Unit)×Unit))(l:List Int)(hl:l.length<=1000):∀(m i:Nat),i<=l.length->l.length-i<m->
  SV D n K0 K1 m l l (l.length:Int) (i:Int)=K1
 | 0,_,_,h=>by omega
 | m+1,i,hi,hf=>by
  simp only[SV,qlp];by_cases h:i<l.length
  .rw[qf (by omega),ix h,aG,aG,bH,bw rfl,cJ,aL,qu (by omega)];exact M3 D n K0 K1 l hl m (i+1) (by omega) (by omega)
  .rw[qg (by omega)]
theorem MG(hn:W+1<=n)(l:List Int)(hl:l.length<=1000):Vq (DD X n) l l=some ((true,()),()):=by
 obtain⟨n,rfl⟩:∃k,n=k+1:=⟨n-1,by omega⟩
 have hW:=d7;rw[adA hX];simp only[qms,qmz,qle];have e:=M3 hX (DD X n) n (fun bR=>qrb (DD X n) n bR) (qrc (DD X n) n) l hl n 0 (by omega) (by omega);rw[show((0:Nat):Int)=0 from rfl]at e;rw[show((l.length:Int) != (l.length:Int))=false by simp,aL,e];rfl
theorem U4(hn:2<=n){r:qp}(hr:aW r):JZ (DD X n) r=some ((r,()),()):=by
 obtain⟨n,rfl⟩:∃k,n=k+2:=⟨n-2,by omega⟩
 have hl:=hr.len;have hb:=i_;rw[age hX];simp only[qxy,OA];rw[qvc hX];simp only[Vs,qmy];rw[qg (by rw[eE];omega),qf (by omega),qc];rfl
end
def jj(r:qp)(o:cL)(code:Int):qp:=
 if code≠0 then r else if o.1=1\/o.1=2 then (r.1.set o.2.1.toNat o.2.2.1,r.2) else if o.1=3 then (r.1.set o.2.1.toNat 0,r.2) else
 if o.1=8\/o.1=9 then (r.1,wrap .i64 (r.2.1+1),()) else r
section
variable {X:Ext} (hX:fW X) {n:Nat}
include hX
theorem Q9(hn:W+6<=n){r:qp}(hr:aW r){o:cL}(ho:di o=true){code:Int}{list:List Int}(h:Out r o code list):VQ (DD X n) r o (code,list,())=some ((true,()),()):=by
 obtain⟨n,rfl⟩:∃k,n=k+2:=⟨n-2,by omega⟩
 have hW:=d7;have hl:=hr.len;have ue:=tL ho;have hkey:=fun v=>aaA hX (n:=n) (by omega) r (by omega) v;have eW:=alh hX (n:=n) (by omega) r;have jw:=fun c=>aix hX (n:=n) (by omega) r (by omega) c;have heq:=fun l hl=>MG hX (n:=n+1) (by omega) l hl;obtain⟨k,K,V,⟨⟩⟩:=o;dsimp only at ue;rw[ahH hX];simp only[YI,OX];rw[q8n hX (by omega) hr,qc];dsimp only;rw[cJ,aL,T8 hX (by omega),ho,qc];dsimp only;rw[cJ,aL];have wY:k=1\/k=2\/k=3\/k=4->(decide (0<=K)&&decide (K<(r.1.length:Int)))=true:=fun q=>fJ (by omega) (by omega);have hkk:=yO V r.1 0;have hkV:r.1.getD K.toNat 0=V->(0<=K/\K<=3)->V≠0->a_ V r.1 0=K:=fun e hK hV=>by
  have iU:r.1[K.toNat]? = some V:=by rw[<-e,gz (by omega),qv (by omega)]
  rw[Ff V r.1 0 K.toNat iU (fun j hj hc=>hV (hr.once j K.toNat hj V hc iU))];omega
 cases h with
 | ET hk h1=>dsimp only at hk h1;subst hk;have hI:=wY (by omega);rw[show((1:Int) != 0)=true by decide,aG,qf (by simp),yB hX];simp only[uQ,vP];rw[hkey V,qc];generalize r.1.getD K.toNat 0=x at *;simp only[eW];simp[br,bH,qd,hI,h1]
 | EU hk h2=>dsimp only at hk h2;subst hk;have hI:=wY (by omega);rw[show((2:Int) != 0)=true by decide,aG,qf (by simp),yB hX];simp only[uQ,vP];rw[hkey V,qc];generalize r.1.getD K.toNat 0=x at *;simp only[eW];simp[br,bH,qd,hI,h2]
 | ES hk h1 h2=>dsimp only at hk h1 h2;subst hk;have hI:=wY (by omega);rw[show((0:Int) != 0)=false by decide,aL,yC hX];simp only[uR,vQ];rw[hkey V,qc];generalize r.1.getD K.toNat 0=x at *;simp only[eW,jw];have hq:=heq ([]:List Int) (by simp);simp[br,bH,qd,hq,hI,h1,h2]
 | I6 hk h1=>dsimp only at hk h1;subst hk;have hI:=wY (by omega);rw[show((3:Int) != 0)=true by decide,aG,qf (by simp),yB hX];simp only[uQ,vP];rw[hkey V,qc];generalize r.1.getD K.toNat 0=x at *;simp only[eW];simp[br,bH,qd,hI,h1]
 | CI hk h1 h2=>dsimp only at hk h1 h2;subst hk;have hI:=wY (by omega);have hkv:=hkV h2 (by omega) (by omega);rw[show((0:Int) != 0)=false by decide,aL,yC hX];simp only[uR,vQ];rw[hkey V,qc];generalize r.1.getD K.toNat 0=x at *;simp only[eW,jw];have hq:=heq ([]:List Int) (by simp);simp[br,bH,qd,hq,hI,h1,h2,hkv,(show ¬ V=0 from fun e=>h1 (h2.trans e))]
 | I5 hk h3=>dsimp only at hk h3;subst hk;have hI:=wY (by omega);rw[show((2:Int) != 0)=true by decide,aG,qf (by simp),yB hX];simp only[uQ,vP];rw[hkey V,qc];generalize r.1.getD K.toNat 0=x at *;simp only[eW];simp[br,bH,qd,hI,h3]
 | I4 hk h1 h2 h3=>dsimp only at hk h1 h2 h3;subst hk;have hI:=wY (by omega);rw[show((0:Int) != 0)=false by decide,aL,yC hX];simp only[uR,vQ];rw[hkey V,qc];generalize r.1.getD K.toNat 0=x at *;simp only[eW,jw];have hq:=heq ([]:List Int) (by simp);simp[br,bH,qd,hq,hI,h1,h2,h3]
 | DV hk h1=>dsimp only at hk h1;subst hk;have hI:=wY (by omega);rw[show((3:Int) != 0)=true by decide,aG,qf (by simp),yB hX];simp only[uQ,vP];rw[hkey V,qc];generalize r.1.getD K.toNat 0=x at *;simp only[eW];simp[br,bH,qd,hI,h1]
 | DU hk h1=>dsimp only at hk h1;subst hk;have hI:=wY (by omega);rw[show((0:Int) != 0)=false by decide,aL,yC hX];simp only[uR,vQ];rw[hkey V,qc];generalize r.1.getD K.toNat 0=x at *;simp only[eW,jw];have hq:=heq ([]:List Int) (by simp);simp[br,bH,qd,hq,hI,h1]
 | D8 hk h1=>dsimp only at hk h1;subst hk;have hI:=wY (by omega);rw[show((3:Int) != 0)=true by decide,aG,qf (by simp),yB hX];simp only[uQ,vP];rw[hkey V,qc];generalize r.1.getD K.toNat 0=x at *;simp only[eW];simp[br,bH,qd,hI,h1]
 | D7 hk h1=>dsimp only at hk h1;subst hk;have hI:=wY (by omega);rw[show((0:Int) != 0)=false by decide,aL,yC hX];simp only[uR,vQ];rw[hkey V,qc];generalize r.1.getD K.toNat 0=x at *;simp only[eW,jw];have hq:=heq [x] (by simp);simp[br,bH,qd,hq,hI,h1]
 | wI hk h1=>dsimp only at hk h1;subst hk;rw[show((3:Int) != 0)=true by decide,aG,qf (by simp),yB hX];simp only[uQ,vP];rw[hkey V,qc];simp only[eW];simp[br,bH,qd,h1]
 | wH hk h1=>dsimp only at hk h1;subst hk;rw[show((0:Int) != 0)=false by decide,aL,yC hX];simp only[uR,vQ];rw[hkey V,qc];simp only[eW,jw];have hq:=heq [a_ V r.1 0] (by simp);simp[br,bH,qd,hq,h1]
 | DT hk=>dsimp only at hk;subst hk;rw[show((0:Int) != 0)=false by decide,aL,yC hX];simp only[uR,vQ];rw[hkey V,qc];simp only[eW,jw];have hq:=heq [many K r.1] (by simp);simp[br,bH,qd,hq]
 | DL hk=>dsimp only at hk;subst hk;rw[show((0:Int) != 0)=false by decide,aL,yC hX];simp only[uR,vQ];rw[hkey V,qc];simp only[eW,jw];have hq:=heq r.1 (by omega);simp[br,bH,qd,hq]
 | xC hk h1=>dsimp only at hk h1;subst hk;rw[show((4:Int) != 0)=true by decide,aG,qf (by simp),yB hX];simp only[uQ,vP];rw[hkey V,qc];simp only[eW];simp[br,bH,qd,h1]
 | Dc hk h1=>dsimp only at hk h1;subst hk;rw[show((0:Int) != 0)=false by decide,aL,yC hX];simp only[uR,vQ];rw[hkey V,qc];simp only[eW,jw];have hq:=heq ([]:List Int) (by simp);simp[br,bH,qd,hq,h1]
 | xA hk h1=>dsimp only at hk h1;subst hk;rw[show((4:Int) != 0)=true by decide,aG,qf (by simp),yB hX];simp only[uQ,vP];rw[hkey V,qc];simp only[eW];rcases h1 with h1 | h1<;>simp[br,bH,qd,h1]
 | Db hk h1=>dsimp only at hk h1;subst hk;rw[show((0:Int) != 0)=false by decide,aL,yC hX];simp only[uR,vQ];rw[hkey V,qc];simp only[eW,jw];have hq:=heq ([]:List Int) (by simp);simp[br,bH,qd,hq,show ¬ r.2.1=0 by omega,show ¬ r.2.1=5 by omega]
 | I_ hk h1=>dsimp only at hk h1;subst hk;rw[show((4:Int) != 0)=true by decide,aG,qf (by simp),yB hX];simp only[uQ,vP];rw[hkey V,qc];simp only[eW];simp[br,bH,qd,h1]
 | Uh hk h1 h2=>dsimp only at hk h1 h2;subst hk;rw[show((3:Int) != 0)=true by decide,aG,qf (by simp),yB hX];simp only[uQ,vP];rw[hkey V,qc];simp only[eW];simp[br,bH,qd,h1,h2]
 | Ug hk h1 h2=>dsimp only at hk h1 h2;subst hk;rw[show((0:Int) != 0)=false by decide,aL,yC hX];simp only[uR,vQ];rw[hkey V,qc];simp only[eW,jw];have hq:=heq [a_ V r.1 0] (by simp);simp[br,bH,qd,hq,h1,h2]
theorem akg(hn:W+7<=n){r:qp}(hr:aW r){o:cL}(ho:di o=true){code:Int}{list:List Int}(h:Out r o code list):V7 (DD X n) r o (code,list,())=some ((jj r o code,()),()):=by
 obtain⟨n,rfl⟩:∃k,n=k+1:=⟨n-1,by omega⟩
 have hW:=d7;have hl:=hr.len;have ue:=tL ho;have nN:=Q9 hX (n:=n) (by omega) hr ho h;have KM:=U4 hX (n:=n) (by omega) hr;obtain⟨k,K,V,⟨⟩⟩:=o;dsimp only at ue;rw[ajA hX];simp only[q70,PB];rw[KM,qc,nN,qc];dsimp only;rw[cJ,bf];unfold jj;by_cases hc:code=0
 .subst hc;rw[show((0:Int) != 0)=false by decide,aL,af (by omega)];dsimp only;by_cases k1:k=1
  .rw[qf k1,qf k1,fJ (by omega) (by omega),aG,aj (.inl k1)]
  rw[qg k1];by_cases k2:k=2
  .rw[qf k2,fJ (by omega) (by omega),aG,aj (.inr k2)]
  rw[qg k2,af (by omega)];by_cases k3:k=3
  .rw[qf k3,fJ (by omega) (by omega),aG,aj k3]
  rw[qg k3,af k3];by_cases k8:k=8
  .rw[qf k8,qf k8,aj (.inl k8)]
  rw[qg k8];by_cases k9:k=9
  .rw[qf k9,aj (.inr k9)]
  rw[qg k9,af (by omega)]
 .rw[show(code != 0)=true by rw[bH,b7 hc];rfl,aG,aj hc]
end
def cls(c v:Int):Int:=bif bu v 1 6&&decide (qh v=c) then 1 else 0
theorem SB(c:Int):∀(l k:List Int),many c (l++k)=many c l+many c k
 | [],k=>by simp[many]
 | x::l,k=>by
  rw[fI];simp only[many];rw[SB c l k];omega
theorem ab5(c:Int)(l:List Int){i:Nat}(h:i<l.length):many c (l.take (i+1))=many c (l.take i)+cls c l[i]:=by rw[mR h,SB];simp only[many,cls];omega
def qK(r:qp)(i p:Nat):Int:=if p<4 then r.1.getD p 0 else if 10<=p/\p<13 then many ((p:Int)-10) (r.1.take i) else wm r i p
section
variable {X:Ext} (hX:fW X) {n:Nat}
include hX
theorem Ba(N n:Nat)(hN:W+4<=N)(K:qp->List Int->Option ((List Int×Unit)×Unit)){r:qp}(hr:aW r):∀(m i:Nat)(ws:List Int),i<=4->4-i<m->ws.length=20->(∀p<20,ws.getD p 0=qK r i p)->
  ∃zg,zg.length=20/\(∀p<20,zg.getD p 0=qK r 4 p)/\To (DD X N) n K m r.1 (r.1.length:Int) (i:Int) r ws=K r zg
 | 0,_,_,_,h,_,_=>by omega
 | m+1,i,ws,hi,hf,mU,hw=>by
  have hl:=hr.len;have hst:=hr.st;have hW:=d7;simp only[To,qyu];by_cases h:i<4
  .have hi2:i<r.1.length:=by omega
   have hv:=hr.dS r.1[i] (eB hi2);have hps:=Rv hX hr h hi2;have w4:=fun c=>ab5 c r.1 hi2;rw[qf (by omega),ix hi2,aG,eE,qv hi2];by_cases h0:r.1[i]=0
   .rw[qf h0,qu (by omega)];refine Ba N n hN K hr m (i+1) ws (by omega) (by omega) mU (fun p hp=>?_);rw[hw p hp];unfold qK;by_cases a1:p<4
    .rw[aj a1,aj a1]
    rw[af a1,af a1];by_cases a2:10<=p/\p<13
    .rw[aj a2,aj a2,w4,h0];have:cls ((p:Int)-10) 0=0:=rfl;rw[this];omega
    rw[af a2,af a2,hps p hp,af a1];rw[af (show ¬ (r.1[i]≠0/\(p:Int)=3+r.1[i]) from fun k=>k.1 h0),af (show ¬ (r.1[i]≠0/\(p:Int)=13+r.1[i]/\(i:Int)<r.2.1-1) from fun k=>k.1 h0)]
   .have ho:=uZ r.1[i];have hvi:=oO r.1[i];have jN:=yI r.1[i];have hc:=uX (qh r.1[i]);have nZ:q9 r.1[i]=3+r.1[i]:=by omega
    have EC:fR r.1[i]=13+r.1[i]:=by omega
    have g9:iS (qh r.1[i])=10+qh r.1[i]:=by omega
    have qD:wrap .i64 (r.2.1-1)=r.2.1-1:=qs (by omega) (by omega);have hmr:=Mi (qh r.1[i]) (r.1.take i);rw[eR]at hmr;have t_:(ws.set (3+r.1[i]).toNat ((i:Int)+1)).getD (10+qh r.1[i]).toNat 0=many (qh r.1[i]) (r.1.take i):=by rw[pI _ _ _ _ (by omega),af (by omega),hw _ (by omega)];unfold qK;rw[af (by omega),aj (by omega),show(((10+qh r.1[i]).toNat:Nat):Int)-10=qh r.1[i] by omega]
    have KJ:∀c,cls c r.1[i]=if qh r.1[i]=c then 1 else 0:=fun c=>by
     unfold cls;rw[lp.2 (by omega),zH];by_cases e:qh r.1[i]=c
     .rw[bw e,aj e];rfl
     .rw[b7 e,af e];rfl
    rw[qg h0,Du hX (by omega),qc];dsimp only;rw[nZ,fJ (by omega) (by omega),aG,IL hX (by omega),qc];dsimp only;rw[Dt hX (by omega),qc];dsimp only;have hw1:wrap .i64 ((i:Int)+1)=(i:Int)+1:=qs (by omega) (by omega);rw[g9,hw1,fJ (by omega) (by rw[b8,mU];omega),aG,aG,t_,qs (x:=many (qh r.1[i]) (r.1.take i)+1) (by omega) (by omega),qD];have kO:∀p<20,p<4\/¬ (p<4):=fun p _=>by omega
    by_cases hs:(i:Int)<r.2.1-1
    .rw[qf hs,Co hX (by omega),qc];dsimp only;rw[EC,fJ (by omega) (by rw[b8,b8,mU];omega),aG];refine Ba N n hN K hr m (i+1) _ (by omega) (by omega) (by rw[b8,b8,b8];exact mU) (fun p hp=>?_);rw[pI _ _ _ _ (by rw[b8,b8,mU];omega),pI _ _ _ _ (by rw[b8,mU];omega),pI _ _ _ _ (by omega),hw p hp];unfold qK;by_cases a1:p<4
     .rw[af (by omega),af (by omega),af (by omega),aj a1,aj a1]
     rw[af a1,af a1];by_cases a2:10<=p/\p<13
     .rw[af (show ¬ p=(13+r.1[i]).toNat by omega),af (show ¬ p=(3+r.1[i]).toNat by omega),aj a2,aj a2,w4,KJ];by_cases e:p=(10+qh r.1[i]).toNat
      .rw[aj e,aj (by omega),show(p:Int)-10=qh r.1[i] by omega]
      .rw[af e,af (by omega)];omega
     rw[af a2,af a2,hps p hp,af a1];by_cases e3:p=(13+r.1[i]).toNat
     .rw[aj e3,af (by omega),aj ⟨h0,by omega,hs⟩]
     rw[af e3,af (show ¬ p=(10+qh r.1[i]).toNat by omega)];by_cases e2:p=(3+r.1[i]).toNat
     .rw[aj e2,aj ⟨h0,by omega⟩]
     rw[af e2,af (show ¬ (r.1[i]≠0/\(p:Int)=3+r.1[i]) by omega),af (show ¬ (r.1[i]≠0/\(p:Int)=13+r.1[i]/\(i:Int)<r.2.1-1) by omega)]
    .rw[qg hs];refine Ba N n hN K hr m (i+1) _ (by omega) (by omega) (by rw[b8,b8];exact mU) (fun p hp=>?_);rw[pI _ _ _ _ (by rw[b8,mU];omega),pI _ _ _ _ (by omega),hw p hp];unfold qK;by_cases a1:p<4
     .rw[af (by omega),af (by omega),aj a1,aj a1]
     rw[af a1,af a1];by_cases a2:10<=p/\p<13
     .rw[af (show ¬ p=(3+r.1[i]).toNat by omega),aj a2,aj a2,w4,KJ];by_cases e:p=(10+qh r.1[i]).toNat
      .rw[aj e,aj (by omega),show(p:Int)-10=qh r.1[i] by omega]
      .rw[af e,af (by omega)];omega
     rw[af a2,af a2,hps p hp,af a1];rw[af (show ¬ p=(10+qh r.1[i]).toNat by omega),af (show ¬ (r.1[i]≠0/\(p:Int)=13+r.1[i]/\(i:Int)<r.2.1-1) from fun k=>hs k.2.2)];by_cases e2:p=(3+r.1[i]).toNat
     .rw[aj e2,aj ⟨h0,by omega⟩]
     rw[af e2,af (show ¬ (r.1[i]≠0/\(p:Int)=3+r.1[i]) by omega)]
  .rw[qg (by omega)];have:i=4:=by omega
   subst this;exact⟨ws,mU,hw,rfl⟩
theorem acL(hn:W+6<=n){r:qp}(hr:aW r):∃ws:List Int,ws.length=20/\(∀p<20,ws.getD p 0=jX r p)/\TE (DD X n) r=some ((ws,()),()):=by
 obtain⟨n,rfl⟩:∃k,n=k+1:=⟨n-1,by omega⟩
 have hW:=d7;have hst:=hr.st;have hl:=hr.len;rw[ahT hX];simp only[Ys,Zn];rw[q8n hX (by omega) hr,qc];dsimp only;rw[cJ,aL];simp only[qwe];have KM:(decide (0<r.1.length)&&decide (0<(List.replicate (Int.toNat 20) (0:Int)).length))=true:=by rw[bw (by omega),om];rfl
 obtain⟨w1,l1,h1,e1⟩:=Ba hX n n (by omega) (fun bR dY=>qup (DD X n) n bR dY) hr n 0 (v9 (Ty.int IntKind.i64) (List.replicate (Int.toNat 20) 0) r.1) (by omega) (by omega)
  (by rw[Qv];rfl) (fun p hp=>by
  have e0:(List.replicate (Int.toNat 20) (0:Int)).getD p 0=0:=by simp only[List.getD,vF];split<;>rfl
  have e1:=Qu (t:=Ty.int IntKind.i64) (xs:=List.replicate (Int.toNat 20) 0) (ys:=r.1) p (by rw[om];exact hp);rw[om,hl]at e1;refine cZ e1 ?_;unfold qK;by_cases a1:p<4
  .rw[aj (by omega),aj a1];rfl
  .rw[af (by omega),af a1];refine cZ e0 ?_;by_cases a2:10<=p/\p<13
   .rw[aj a2,List.take_zero];rfl
   rw[af a2];unfold wm qH lD;rw[af a1];split
   .rw[af (by omega)]
   .split
    .rfl
    .rw[af (by omega)])
 rw[show((0:Nat):Int)=0 from rfl]at e1;refine⟨w1.set 13 r.2.1,by rw[b8];exact l1,fun p hp=>?_,(ew (fun c=>br c _ _) KM).trans (e1.trans ?_)⟩
 .rw[pI _ _ _ _ (by omega),h1 p hp];unfold jX qK wm;by_cases e:p=13
  .rw[aj e,af (by omega),af (by omega),af (by omega),aj e]
  rw[af e];by_cases a1:p<4
  .rw[aj a1,aj a1]
  by_cases a2:p<10
  .rw[af a1,af (by omega),af a1,aj a2,af a1,aj a2];rfl
  by_cases a3:p<13
  .rw[af a1,aj (by omega),af a1,af a2,aj a3,jT (by omega)]
  .rw[af a1,af (by omega),af a1,af a2,af (by omega),af a1,af a2,af a3,af e];rfl
 simp only[qup];rw[yE hX (by omega),qc];dsimp only;rw[fJ (by omega) (by rw[l1];omega),aG];rfl
end
theorem HK(c:Int):∀(l:List Int)(k:Nat)(V:Int),k<l.length->many c (l.set k V)=many c l+cls c V-cls c (l.getD k 0)
 | [],k,V,h=>by simp at h
 | x::l,0,V,_=>by
  simp only[B9,many,uG,cls];omega
 | x::l,k+1,V,h=>by
  simp only[FL,many,FI];rw[HK c l k V (by simpa using h)];omega
theorem Qn{r:qp}(hr:aW r){v:Int}(hv:v≠0){k:Nat}(h:r.1[k]? = some v):a_ v r.1 0=k:=by rw[Ff v r.1 0 k h (fun j hj hc=>hv (hr.once j k hj v hc h))];congr 1;omega
theorem Sv{r:qp}(hr:aW r){K:Nat}(hK:K<4){V:Int}(hV:V=0\/a_ V r.1 0<0){v:Int}(hv:1<=v) :
  a_ v (r.1.set K V) 0=if v=V then (K:Int) else if v=r.1.getD K 0 then -1 else a_ v r.1 0:=by
 have hl:=hr.len;have iU:∀j,j≠K->(r.1.set K V)[j]? = r.1[j]?:=fun j hj=>by rw[jV,af (fun e=>hj e.symm)]
 have Er:(r.1.set K V)[K]? = some V:=by rw[jV,aj rfl,aj (by omega)]
 have UL:r.1[K]? = some (r.1.getD K 0):=by rw[gz (by omega),qv (by omega)]
 by_cases e:v=V
 .rw[aj e];subst e;have hno:v∉r.1:=Mh v r.1 0 (by omega);rw[Ff v _ 0 K Er (fun j hj hc=>by
   rw[iU j (by omega)]at hc;exact hno (mT.2 ⟨j,hc⟩))]
  congr 1;omega
 rw[af e];by_cases e2:v=r.1.getD K 0
 .rw[aj e2];refine AQ v _ 0 (fun hm=>?_);obtain⟨j,hj⟩:=mT.1 hm;by_cases q:j=K
  .subst q;rw[Er]at hj;exact e (gU hj).symm
  .rw[iU j q]at hj;rw[<-e2]at UL;by_cases lt:j<K
   .have:=hr.once j K lt v hj UL;omega
   .have:=hr.once K j (by omega) v UL hj;omega
 rw[af e2];by_cases h0:a_ v r.1 0<0
 .have hno:v∉r.1:=Mh _ _ _ h0;have:=yO v r.1 0;rw[AQ v _ 0 (fun hm=>by
   obtain⟨j,hj⟩:=mT.1 hm;by_cases q:j=K
   .subst q;rw[Er]at hj;exact e (gU hj).symm
   .rw[iU j q]at hj;exact hno (mT.2 ⟨j,hj⟩))]
  omega
 .obtain⟨k,hk⟩:∃k:Nat,a_ v r.1 0=k:=⟨(a_ v r.1 0).toNat,by omega⟩
  obtain⟨_,h2⟩:=Mg v r.1 0 k hk;rw[BU]at h2;have hkK:k≠K:=fun q=>by subst q;rw[UL]at h2;exact e2 (gU h2).symm
  rw[hk,Ff v _ 0 k (by rw[iU k hkK];exact h2) (fun j hj hc=>by
   by_cases q:j=K
   .subst q;rw[Er]at hc;exact e (gU hc).symm
   .rw[iU j q]at hc;have:=hr.once j k hj v hc h2;omega)]
  congr 1;omega
theorem acp{r:qp}(hr:aW r){K:Nat}(hK:K<4){V:Int}(hV:V=0\/a_ V r.1 0<0)(hV6:0<=V/\V<=6):aW (r.1.set K V,r.2):=by
 have hl:=hr.len;have iU:∀j,j≠K->(r.1.set K V)[j]? = r.1[j]?:=fun j hj=>by rw[jV,af (fun e=>hj e.symm)]
 have Er:(r.1.set K V)[K]? = some V:=by rw[jV,aj rfl,aj (by omega)]
 have hno:V≠0->V∉r.1:=fun h=>Mh V r.1 0 (by omega);refine⟨by show(r.1.set K V).length=4;rw[b8];exact hl,fun x hx=>?_,fun i j hij v g1 g2=>?_,hr.st⟩
 .rcases FZ hx with q | rfl
  .exact hr.dS x q
  .exact hV6
 .show v=0;have h1:(r.1.set K V)[i]? = some v:=g1;have h2:(r.1.set K V)[j]? = some v:=g2;clear g1 g2;by_cases q:i=K
  .subst q;rw[Er]at h1;rw[iU j (by omega)]at h2;have:=gU h1;subst this;by_cases z:V=0
   .exact z
   .exact absurd (mT.2 ⟨j,h2⟩) (hno z)
  .rw[iU i q]at h1;by_cases q2:j=K
   .subst q2;rw[Er]at h2;have:=gU h2;subst this;by_cases z:V=0
    .exact z
    .exact absurd (show V∈r.1 from mT.2 ⟨i,h1⟩) (hno z)
   .rw[iU j q2]at h2;exact hr.once i j hij v h1 h2
theorem MB{r:qp}(hr:aW r){K:Nat}(hK:K<4){V:Int}(hV:V=0\/a_ V r.1 0<0){p:Nat}(hp:p<20) :
  jX (r.1.set K V,r.2) p=if p<4 then (if p=K then V else jX r p)
   else if p<10 then (if (p:Int)-3=V then (K:Int)+1 else if (p:Int)-3=r.1.getD K 0 then 0 else jX r p)
   else if p<13 then jX r p+cls ((p:Int)-10) V-cls ((p:Int)-10) (r.1.getD K 0)
   else if p=13 then jX r p
   else (if (p:Int)-13=V then (if (K:Int)<r.2.1-1 then (K:Int)+1 else 0) else if (p:Int)-13=r.1.getD K 0 then 0 else jX r p):=by
 have hl:=hr.len;unfold jX;by_cases a1:p<4
 .simp only[aj a1];rw[pI _ _ _ _ (by omega)]
 simp only[af a1];by_cases a2:p<10
 .simp only[aj a2];unfold qH;rw[Sv hr hK hV (by omega)];by_cases e:(p:Int)-3=V
  .simp only[aj e];rw[aj (by omega)]
  simp only[af e];by_cases e2:(p:Int)-3=r.1.getD K 0
  .simp only[aj e2];rw[af (by omega)]
  simp only[af e2]
 simp only[af a2];by_cases a3:p<13
 .simp only[aj a3];exact HK _ _ _ _ (by omega)
 simp only[af a3];by_cases a4:p=13
 .simp only[aj a4]
 simp only[af a4];unfold lD;rw[Sv hr hK hV (by omega)];by_cases e:(p:Int)-13=V
 .simp only[aj e];by_cases q:(K:Int)<r.2.1-1
  .rw[aj ⟨by omega,by omega,q⟩,aj q]
  .rw[af (fun z=>q z.2.2),af q]
 simp only[af e];by_cases e2:(p:Int)-13=r.1.getD K 0
 .simp only[aj e2];rw[af (by omega)]
 simp only[af e2]
theorem Fo{v:Int}(hv:1<=v/\v<=6)(c:Int):cls c v=if qh v=c then 1 else 0:=by
 unfold cls;rw[lp.2 hv,zH];by_cases e:qh v=c
 .rw[bw e,aj e];rfl
 .rw[b7 e,af e];rfl
structure DR (r:qp) (K V:Int) (l:List Int):Prop where
 k:K∈l
 s:13∈l
 o:∀v,v=r.1.getD K.toNat 0\/v=V->1<=v->3+v∈l
 c:qh (r.1.getD K.toNat 0)≠qh V->∀v,v=r.1.getD K.toNat 0\/v=V->1<=v->10+qh v∈l
 v:K+1<r.2.1->∀v,v=r.1.getD K.toNat 0\/v=V->1<=v->13+v∈l
 x:∀p∈l,14<=p->K+1<r.2.1
structure Kl (r:qp) (K V:Int):Prop where
 k:0<=K/\K<=3
 v:0<=V/\V<=6
 h:0<=r.1.getD K.toNat 0/\r.1.getD K.toNat 0<=6
 z:V=0\/a_ V r.1 0<0
 n:r.1.getD K.toNat 0≠V
theorem acN{r:qp}(hr:aW r){K V:Int}{l:List Int}(hc:Kl r K V)(hm:DR r K V l){p:Nat}(hp:p<20)(hn:(p:Int)∉l) :
  jX (r.1.set K.toNat V,r.2) p=jX r p:=by
 have hK:=hc.k;have hV:=hc.v;have hh:=hc.h;have hz:=hc.z;have hne:=hc.n;have hl:=hr.len;have W8:K.toNat<4:=by omega
 have hcV:=yI V;have hcH:=yI (r.1.getD K.toNat 0);rw[MB hr W8 hc.z hp];have hno:∀q,q∈l->(p:Int)≠q:=fun q hq e=>hn (e ▸ hq);by_cases a1:p<4
 .rw[aj a1,af (by have:=hno K hm.k;omega)]
 rw[af a1];by_cases a2:p<10
 .rw[aj a2,af (fun e=>by have:=hno _ (hm.o V (.inr rfl) (by omega));omega),af (fun e=>by have:=hno _ (hm.o _ (.inl rfl) (by omega));omega)]
 rw[af a2];by_cases a3:p<13
 .rw[aj a3];by_cases e:qh (r.1.getD K.toNat 0)=qh V
  .have h1:1<=V:=by omega
   have h2:1<=r.1.getD K.toNat 0:=by omega
   rw[Fo (by omega),Fo (by omega),e];omega
  .have q:=hm.c e;have f1:cls ((p:Int)-10) V=0:=by
    by_cases z:1<=V
    .rw[Fo (by omega),af (fun e=>by have:=hno _ (q V (.inr rfl) z);omega)]
    .rw[show V=0 by omega];rfl
   have f2:cls ((p:Int)-10) (r.1.getD K.toNat 0)=0:=by
    by_cases z:1<=r.1.getD K.toNat 0
    .rw[Fo (by omega),af (fun e=>by have:=hno _ (q _ (.inl rfl) z);omega)]
    .rw[show r.1.getD K.toNat 0=0 by omega];rfl
   rw[f1,f2];omega
 rw[af a3];by_cases a4:p=13
 .rw[aj a4]
 rw[af a4];have hw:jX r p=lD ((p:Int)-13) r.1 4 r.2.1:=by unfold jX;rw[af a1,af a2,af a3,af a4]
 by_cases e:(p:Int)-13=V
 .have hk:¬ K+1<r.2.1:=fun q=>by have:=hno _ (hm.v q V (.inr rfl) (by omega));omega
  rw[aj e,af (by omega),hw,e];unfold lD;rw[af (by omega)]
 rw[af e];by_cases e2:(p:Int)-13=r.1.getD K.toNat 0
 .have hk:¬ K+1<r.2.1:=fun q=>by have:=hno _ (hm.v q _ (.inl rfl) (by omega));omega
  have hkey:a_ (r.1.getD K.toNat 0) r.1 0=K.toNat:=Qn hr (by omega) (by rw[gz (by omega),qv (by omega)]);rw[aj e2,hw,e2];unfold lD;rw[hkey,af (by omega)]
 rw[af e2]
theorem akr{k:Int}(h:0<=qw k):qw k=k:=by have:=vg k;omega
theorem Ru{v:Int}(h:0<=q9 v):(1<=v/\v<=6)/\q9 v=3+v:=by have:=uZ v;omega
theorem Ns{v:Int}(h:0<=fR v):(1<=v/\v<=6)/\fR v=13+v:=by have:=oO v;omega
theorem QO{v:Int}(h:0<=iS (qh v)):(1<=v/\v<=6)/\(0<=qh v/\qh v<=2)/\iS (qh v)=10+qh v:=by have:=uX (qh v);have:=yI v;omega
theorem MY{c V:Int}(hV:0<=V/\V<=6)(h:qh V≠c):cls c V=0:=by
 by_cases z:1<=V
 .rw[Fo (by omega),af h]
 .rw[show V=0 by omega];rfl
theorem QE(r:qp){c:Int}(hc:0<=c/\c<=2):jX r (10+c).toNat=many c r.1:=by unfold jX;rw[af (by omega),af (by omega),aj (by omega),show(((10+c).toNat:Nat):Int)-10=c by omega]
theorem ako{r:qp}(hr:aW r){K V:Int}{l:List Int}(hc:Kl r K V)(hm:DR r K V l){q:Want}(hq:q∈e_ K V (r.1.getD K.toNat 0) r.2.1)(hl:q.1∈l)(h0:0<=q.1) :
  q.1<20/\q.2 (b_ r q.1)=b_ (r.1.set K.toNat V,r.2) q.1:=by
 have hb:=i_;have hK:=hc.k;have hV:=hc.v;have hh:=hc.h;have hne:=hc.n;have hlen:=hr.len;have hst:=hr.st;have W8:K.toNat<4:=by omega
 have hlt:=MX K V (r.1.getD K.toNat 0) r.2.1 q hq;have qD:=MB hr W8 hc.z (p:=q.1.toNat) (by omega);refine⟨by omega,?_⟩;have hx:=fun h=>hm.x _ hl h;have hlK:K.toNat<r.1.length:=by omega
 have hms:=fun c=>HK c r.1 K.toNat V hlK;have Xf:=fun c=>Mi c (r.1.set K.toNat V);unfold b_;rw[qD];clear qD hlt hl hm;unfold e_ at hq;generalize s_:r.1.getD K.toNat 0=H at *;rcases bN.1 hq with hq | hq
 .simp only[bh,dg,dj]at hq;rcases hq with rfl | rfl | rfl | rfl | rfl | rfl<;>dsimp only at *
  .rw[akr h0,aj (by omega),aj rfl]
  .rw[af (by decide),af (by decide),af (by decide),aj (by decide)];rfl
  .obtain⟨e1,e⟩:=Ru h0;rw[e,af (by omega),aj (by omega),af (by omega),aj (by omega)]
  .obtain⟨e1,e⟩:=Ns h0;rw[e,af (by omega),af (by omega),af (by omega),af (by omega),af (by omega),aj (by omega)]
  .obtain⟨e1,e⟩:=Ru h0;rw[e,af (by omega),aj (by omega),aj (by omega),qs (by omega) (by omega)];omega
  .obtain⟨e1,e⟩:=Ns h0;have hx:=hx (by omega);rw[e,af (by omega),af (by omega),af (by omega),af (by omega),aj (by omega),aj (by omega),qs (by omega) (by omega)];omega
 .cases mj:qh H != qh V
  .rw[mj]at hq;simp at hq
  rw[mj,bA]at hq;have KK:qh H≠qh V:=by simpa using mj
  simp only[bh,dg,dj]at hq;rcases hq with rfl | rfl<;>dsimp only at *
  .obtain⟨hH,ec,e⟩:=QO h0;have a1:=Mi (qh H) r.1;have a2:=hms (qh H);have a3:=Xf (qh H);have f1:cls (qh H) H=1:=by rw[Fo hH,aj rfl]
   have f2:cls (qh H) V=0:=MY hV (fun q=>KK q.symm);rw[f1,f2]at a2;rw[e,af (by omega),af (by omega),aj (by omega),QE r ec,show(((10+qh H).toNat:Nat):Int)-10=qh H by omega,f1,f2];unfold less;rw[qs (by omega) (by omega)];split<;>omega
  .obtain⟨hH,ec,e⟩:=QO h0;have a1:=Mi (qh V) r.1;have f1:cls (qh V) V=1:=by rw[Fo hH,aj rfl]
   have f2:cls (qh V) H=0:=MY hh KK;rw[e,af (by omega),af (by omega),aj (by omega),QE r ec,show(((10+qh V).toNat:Nat):Int)-10=qh V by omega,f1,f2];unfold one;rw[qs (by omega) (by omega)];omega
theorem alp{r:qp}(hr:aW r){o:cL}(ho:di o=true)(eK:o.1=1\/o.1=2\/o.1=3)(hne:1<=r.1.getD o.2.1.toNat 0/\r.1.getD o.2.1.toNat 0<=6->r.1.getD o.2.1.toNat 0≠o.2.2.1){c:Int}{L:List Int}(hc:c=0)(h:Out r o c L) :
  Kl r o.2.1 o.2.2.1/\(o.1=1->r.1.getD o.2.1.toNat 0=0)/\(o.1≠1->r.1.getD o.2.1.toNat 0≠0):=by
 have hk:=tL ho;have hl:=hr.len;have hK:0<=o.2.1/\o.2.1<=3:=by omega
 have hh:0<=r.1.getD o.2.1.toNat 0/\r.1.getD o.2.1.toNat 0<=6:=by rw[qv (by omega)];exact hr.dS _ (eB _)
 have mk:(o.2.2.1=0\/a_ o.2.2.1 r.1 0<0)->r.1.getD o.2.1.toNat 0≠o.2.2.1->Kl r o.2.1 o.2.2.1:=fun a b=>⟨hK,by omega,hh,a,b⟩
 cases h with
 | ES k h1 h2=>exact⟨mk (.inr h2) (by omega),fun _=>h1,fun q=>absurd k q⟩
 | I4 k h1 h2 h3=>exact⟨mk (.inr h3) h2,fun q=>by omega,fun _=>h1⟩
 | DU k h1=>exact⟨mk (.inl (by omega)) (by omega),fun q=>by omega,fun _=>h1⟩
 | CI k h1 h2=>exact absurd h2 (hne (by omega))
 | _=>omega
theorem akR{r:qp}(hr:aW r){o:cL}(ho:di o=true)(eK:o.1=1\/o.1=2\/o.1=3)(hc:Kl r o.2.1 o.2.2.1)(h1:o.1=1->r.1.getD o.2.1.toNat 0=0)(h2:o.1≠1->r.1.getD o.2.1.toNat 0≠0) :
  DR r o.2.1 o.2.2.1 (path (b_ r) (prog o)):=by
 have hk:=tL ho;have hb:=i_;have hh:=hc.h;have hz:=hc.z;have hne:=hc.n;have hst:=hr.st;have hK:0<=o.2.1/\o.2.1<=3:=hc.k;have hrow:qw o.2.1=o.2.1:=by have:=vg o.2.1;omega
 have UQ:=(u_ hr hK).1;have hwo:1<=o.2.2.1->b_ r (q9 o.2.2.1)=0:=fun z=>by
  rw[IV hr (by have:=hc.v;omega)];have:=yO o.2.2.1 r.1 0;omega
 have qD:=DB r;have EG:wrap .i64 (o.2.1+1)=o.2.1+1:=qs (by omega) (by omega);have hown:∀v,1<=v/\v<=6->q9 v=3+v:=fun v hv=>by have:=uZ v;omega
 have nj:∀v,1<=v/\v<=6->fR v=13+v:=fun v hv=>by have:=oO v;omega
 have t_:∀v,1<=v/\v<=6->iS (qh v)=10+qh v:=fun v hv=>by have:=uX (qh v);have:=yI v;omega
 have Ae:∀v,1<=v/\v<=6->0<=qh v/\qh v<=2:=fun v hv=>by have:=yI v;omega
 have hV:=hc.v;generalize s_:r.1.getD o.2.1.toNat 0=H at *;unfold prog;rcases eK with k | k | k
 .rw[aj k];have hH:=h1 k;have tZ:1<=o.2.2.1/\o.2.2.1<=6:=by omega
  have e:path (b_ r) (sI o)=o.2.1::(3+o.2.2.1)::(10+qh o.2.2.1)::13::(if r.2.1<=o.2.1+1 then [] else [13+o.2.2.1]):=by unfold sI;simp only[path];rw[hrow,UQ,hH];simp only[bH,AK,cJ,bf,path];rw[hwo tZ.1];simp only[AK,cJ,bf,path,Cv,cv,f6];rw[qD,EG,hown _ tZ,nj _ tZ,t_ _ tZ]
  rw[e];have g9:=Ae _ tZ;refine⟨by simp,by simp,fun v hv z=>?_,fun _ v hv z=>?_,fun q v hv z=>?_,fun p hp Kw=>?_⟩
  .have:v=o.2.2.1:=by omega
   subst this;simp
  .have:v=o.2.2.1:=by omega
   subst this;simp
  .have:v=o.2.2.1:=by omega
   subst this;rw[af (by omega)];simp
  .by_cases q:r.2.1<=o.2.1+1
   .rw[aj q]at hp;simp only[bh,dg,dj]at hp;omega
   .omega
 .have hH:=h2 (by omega);rw[af (by omega),aj k];have tZ:1<=o.2.2.1/\o.2.2.1<=6:=by omega
  have tY:1<=H/\H<=6:=by omega
  have e:path (b_ r) (sJ o)=o.2.1::(3+o.2.2.1)::(3+H)::((bif qh H != qh o.2.2.1 then [10+qh H,10+qh o.2.2.1] else [])++13::(if r.2.1<=o.2.1+1 then [] else [13+H,13+o.2.2.1])):=by
   unfold sJ;simp only[path];rw[hrow,UQ,b7 hH,b7 hne];simp only[bf,path];rw[hwo tZ.1];simp only[bH,AK,cJ,bf,path];cases decide (qh H=qh o.2.2.1)
   .simp only[i6,bA,path,Cv,cv,f6,fI,gA];rw[qD,EG,hown _ tZ,nj _ tZ,t_ _ tZ,hown _ tY,nj _ tY,t_ _ tY]
   .simp only[cJ,bf,path,Cv,cv,f6,fI,gA];rw[qD,EG,hown _ tZ,nj _ tZ,hown _ tY,nj _ tY]
  rw[e];have g9:=Ae _ tZ;have rL:=Ae _ tY;refine⟨by simp,by simp,fun v hv z=>?_,fun q v hv z=>?_,fun q v hv z=>?_,fun p hp Kw=>?_⟩
  .rw[s_]at hv;rcases hv with rfl | rfl<;>simp
  .rw[s_]at hv q;rw[bH,b7 q];rcases hv with rfl | rfl<;>simp
  .rw[s_]at hv;rw[af (by omega)];rcases hv with rfl | rfl<;>simp
  .by_cases q:r.2.1<=o.2.1+1
   .rw[aj q]at hp;cases hq:qh H != qh o.2.2.1
    .rw[hq]at hp;simp only[bf,gA,bh,dg,dj]at hp;omega
    .rw[hq]at hp;simp only[bA,fI,gA,bh,dg,dj]at hp;omega
   .omega
 .have hH:=h2 (by omega);rw[af (by omega),af (by omega),aj k];have tY:1<=H/\H<=6:=by omega
  have e:path (b_ r) (u7 o)=o.2.1::(3+H)::(10+qh H)::13::(if r.2.1<=o.2.1+1 then [] else [13+H]):=by unfold u7;simp only[path];rw[hrow,UQ,b7 hH];simp only[bf,path,Cv,cv,f6];rw[qD,EG,hown _ tY,nj _ tY,t_ _ tY]
  rw[e];have rL:=Ae _ tY;refine⟨by simp,by simp,fun v hv z=>?_,fun q v hv z=>?_,fun q v hv z=>?_,fun p hp Kw=>?_⟩
  .have:v=H:=by omega
   subst this;simp
  .have:v=H:=by omega
   subst this;simp
  .have:v=H:=by omega
   subst this;rw[af (by omega)];simp
  .by_cases q:r.2.1<=o.2.1+1
   .rw[aj q]at hp;simp only[bh,dg,dj]at hp;omega
   .omega
theorem Be{r:qp}(hr:aW r){p:Nat}(hp:p<20)(zp:p≠13)(hk:14<=p->a_ ((p:Int)-13) r.1 0≠r.2.1-1\/r.2.1=0):jX (r.1,r.2.1+1,()) p=jX r p:=by
 have hst:=hr.st;unfold jX;by_cases a1:p<4
 .rw[aj a1,aj a1]
 rw[af a1,af a1];by_cases a2:p<10
 .rw[aj a2,aj a2]
 rw[af a2,af a2];by_cases a3:p<13
 .rw[aj a3,aj a3]
 rw[af a3,af a3,af zp,af zp];have hk:=hk (by omega);unfold lD;dsimp only;by_cases e:0<=a_ ((p:Int)-13) r.1 0/\a_ ((p:Int)-13) r.1 0<4/\a_ ((p:Int)-13) r.1 0<r.2.1-1
 .rw[aj e,aj (by omega)]
 .rw[af e,af (by omega)]
theorem T5{r:qp}{o:cL}(c:Int)(h:¬ (o.1=1\/o.1=2)/\¬ o.1=3/\¬ (o.1=8\/o.1=9)):jj r o c=r:=by unfold jj;rw[af h.1,af h.2.1,af h.2.2];split<;>rfl
structure sW (w w':Int->Int) (E:List ez):Prop where
 z7:lM E
 old:∀e∈E,0<=e.1/\e.1<20/\e.2.1=w e.1/\e.2.2.1=w' e.1
 rest:∀p:Nat,p<20->(∀e∈E,e.1≠(p:Int))->w p=w' p
theorem abi{r:qp}(hr:aW r){o:cL}(ho:di o=true)(dF:mM o (fz r o)=none) :
  sW (b_ r) (b_ (jj r o (eH o (fz r o)).1)) (dJ o (fz r o))/\aW (jj r o (eH o (fz r o)).1):=by
 have hb:=i_;have hw:=fun k hk=>(u_ hr (k:=k) hk).2;have hpk:=JK ho (b_ r) hw;have hrun:=G8 hr ho;have hkn:=Gp r o;have ue:=tL ho;have hst:=hr.st;have hl:=hr.len;have gq:di o=true/\(run (fz r o) (prog o)).2<0:=⟨ho,by rw[hrun];show(-1:Int)<0;omega⟩
 have hrd:∀p,p∈path (b_ r) (prog o)->(eX (fz r o) p).1=b_ r p:=fun p hp=>by rw[hkn p,aj hp]
 have Aj:∀p,0<=p->(hit (fz r o) p=true↔p∈path (b_ r) (prog o)):=fun p hp=>by rw[AR hkn hp,gS]
 have hout:=Nk hr ho;have uh:gj o (fz r o)=((false,eH o (fz r o),dJ o (fz r o),()),true,()):=by unfold gj;rw[aj gq,dF]
 rw[uh]at hout;dsimp only at hout;obtain⟨hA,hB⟩:=MZ ho hw hkn hrun dF;by_cases eK:o.1=1\/o.1=2\/o.1=3
 .obtain⟨hv,hsub⟩:=Sl ho hw hkn dF eK;have hne:=xO ho dF eK;have EG:=(u_ hr (k:=o.2.1) (by omega)).1;rw[hv,EG]at hne;have hres:eH o (fz r o)=(0,[],()):=by unfold eH;rw[af (by omega),af (by omega)]
  rw[hres]at hout⊢;obtain⟨hc,h1,h2⟩:=alp hr ho eK hne rfl hout;have hm:=akR hr ho eK hc h1 h2;have Ac:jj r o 0=(r.1.set o.2.1.toNat o.2.2.1,r.2):=by
   unfold jj;rw[af (by omega)];by_cases Jp:o.1=1\/o.1=2
   .rw[aj Jp]
   .rw[af Jp,aj (by omega),show o.2.2.1=0 by omega]
  show sW _ (b_ (jj r o 0)) _/\aW (jj r o 0);rw[Ac];have zp:val (fz r o) 13=r.2.1:=hrd 13 hm.s;have hE:dJ o (fz r o)=(iu (fz r o) (e_ o.2.1 o.2.2.1 (r.1.getD o.2.1.toNat 0) r.2.1)).foldl g_ []:=by unfold dJ;rw[aj eK,hv,EG,zp]
  obtain⟨_,r2,r3,r4⟩:=L_ (got:=fz r o) (K:=o.2.1) (V:=o.2.2.1) (held:=r.1.getD o.2.1.toNat 0) (st:=r.2.1) hne;refine⟨⟨by rw[hE];exact r2,fun e he=>?_,fun p hp hno=>?_⟩,acp hr (by have:=hc.k;omega) hc.z hc.v⟩
  .rw[hE]at he;obtain⟨q,hq,hh,rfl⟩:=(Jx _ _ _).1 ((r3 e).1 he);have Lh:=Bl hh;have hqm:=(Aj q.1 Lh).1 hh;have hn:=ako hr hc hm hq hqm Lh;have:=hrd q.1 hqm;refine⟨Lh,hn.1,this,?_⟩;show q.2 (eX (fz r o) q.1).1=_;rw[this];exact hn.2
  .have hnp:(p:Int)∉path (b_ r) (prog o):=fun hm=>by
    obtain⟨e,he,e1,_⟩:=hA _ hm;exact hno e he e1
   exact(acN hr hc hm hp hnp).symm
 .obtain⟨_,pl⟩:=Hl ho dF gq.2 eK;have Ji:(run (fz r o) (prog o)).1=path (b_ r) (prog o):=by rw[hrun]
  rw[Ji]at pl;have hmem:∀L:List Int,(path (b_ r) (prog o)).foldl (j4 fG) []=L->∀p∈L,p∈path (b_ r) (prog o):=by
   intro L hL p hp;rw[<-hL,G5]at hp;rcases hp with h | h
   .simp at h
   .exact h
  have hsame:∀p,p∈path (b_ r) (prog o)->val (fz r o) p=b_ r p:=hrd;rcases pl with⟨k,hp⟩ | ⟨k,hz,hp⟩ | ⟨k,hz,hp⟩ | ⟨k,hp⟩
  .have m:=hmem _ hp;have Ac:∀c,jj r o c=r:=fun c=>T5 c (by omega);rw[Ac];refine⟨?_,hr⟩;have hE:dJ o (fz r o)=[same (fz r o) 0,same (fz r o) 1,same (fz r o) 2,same (fz r o) 3]:=by unfold dJ;rw[af eK,aj k]
   rw[hE];refine⟨by simp[lM,same],fun e he=>?_,fun p _ _=>rfl⟩;simp only[bh,dg,dj]at he;rcases he with rfl | rfl | rfl | rfl<;>exact⟨by simp[same],by simp[same],hsame _ (m _ (by simp)),hsame _ (m _ (by simp))⟩
  .have m:=hmem _ hp;have zp:=hsame 13 (m _ (by simp));have qD:=DB r;have EB:r.2.1=0:=by omega
   have hres:eH o (fz r o)=(0,[],()):=by unfold eH;rw[af (by omega),af (by omega)]
   have Ac:jj r o 0=(r.1,r.2.1+1,()):=by unfold jj;rw[af (by omega),af (by omega),af (by omega),aj (.inl k),qs (by omega) (by omega)]
   rw[hres];show sW _ (b_ (jj r o 0)) _/\aW (jj r o 0);rw[Ac];refine⟨?_,⟨hl,hr.dS,hr.once,by show 0<=r.2.1+1/\r.2.1+1<=5;omega⟩⟩;have hE:dJ o (fz r o)=[(13,val (fz r o) 13,1,())]:=by unfold dJ;rw[af eK,af (by omega),aj k]
   rw[hE];refine⟨List.pairwise_singleton _ _,fun e he=>?_,fun p hp hno=>?_⟩
   .simp only[bh,dg,dj]at he;subst he;refine⟨by simp[same],by simp[same],zp,?_⟩;show(1:Int)=r.2.1+1;omega
   .have h1:=hno _ (d9.2 rfl);dsimp only at h1;exact(Be hr hp (by omega) (fun _=>.inr EB)).symm
  .have m:=hmem _ hp;have zp:=hsame 13 (m _ (by simp));have qD:=DB r;have hres:eH o (fz r o)=(0,[],()):=by unfold eH;rw[af (by omega),af (by omega)]
   have Ac:jj r o 0=(r.1,r.2.1+1,()):=by unfold jj;rw[af (by omega),af (by omega),af (by omega),aj (.inr k),qs (by omega) (by omega)]
   rw[hres];show sW _ (b_ (jj r o 0)) _/\aW (jj r o 0);rw[Ac];refine⟨?_,⟨hl,hr.dS,hr.once,by show 0<=r.2.1+1/\r.2.1+1<=5;omega⟩⟩;have Lz:val (fz r o) 13=r.2.1:=zp;have hrow:qw (wrap .i64 (val (fz r o) 13-1))=r.2.1-1:=by rw[Lz,qs (by omega) (by omega)];have:=vg (r.2.1-1);omega
   have hE:dJ o (fz r o)=same (fz r o) (qw (wrap .i64 (val (fz r o) 13-1)))::(13,val (fz r o) 13,wrap .i64 (val (fz r o) 13+1),())::
     (bif bu (val (fz r o) (qw (wrap .i64 (val (fz r o) 13-1)))) 1 6 then [(fR (val (fz r o) (qw (wrap .i64 (val (fz r o) 13-1)))),val (fz r o) (fR (val (fz r o) (qw (wrap .i64 (val (fz r o) 13-1))))),val (fz r o) 13,())] else []):=by
    unfold dJ;rw[af eK,af (by omega),af (by omega),aj k]
   rw[hE];rw[hrow]at m⊢;have ED:=hsame (r.2.1-1) (m _ (by simp));have xw:=u_ hr (k:=r.2.1-1) (by omega);rw[ED,xw.1]at m⊢;rw[Lz,qs (by omega) (by omega)];have iU:r.1[(r.2.1-1).toNat]? = some (r.1.getD (r.2.1-1).toNat 0):=by rw[gz (by omega),qv (by omega)]
   have XC:=xw.2;rw[xw.1]at XC;generalize r.1.getD (r.2.1-1).toNat 0=v at *;have hx:jX (r.1,r.2.1+1,()) (r.2.1-1).toNat=jX r (r.2.1-1).toNat:=Be hr (by omega) (by omega) (fun q=>by omega);by_cases hv1:1<=v
   .have hin:bu v 1 6=true:=lp.2 (by omega);rw[hin,bA]at m⊢;have nj:fR v=13+v:=by have:=oO v;omega
    have hkey:a_ v r.1 0=r.2.1-1:=by rw[Qn hr (by omega) iU];omega
    have As:=hsame (fR v) (m _ (by simp));rw[nj]at As⊢;have hnew:jX (r.1,r.2.1+1,()) (13+v).toNat=r.2.1:=by unfold jX;rw[af (by omega),af (by omega),af (by omega),af (by omega),show(((13+v).toNat:Nat):Int)-13=v by omega];unfold lD;dsimp only;rw[hkey,aj (by omega)];omega
    refine⟨?_,fun e he=>?_,fun p hp hno=>?_⟩
    .simp only[lM,same,me,bh,dg,dj,uJ,uP,List.Pairwise.nil,iQ,Ce,uO,BT];omega
    .simp only[bh,dg,dj]at he;rcases he with rfl | rfl | rfl
     .refine⟨by show 0<=r.2.1-1;omega,by show r.2.1-1<20;omega,ED,?_⟩;show val (fz r o) (r.2.1-1)=jX (r.1,r.2.1+1,()) (r.2.1-1).toNat
      rw[hx];exact ED
     .exact⟨by simp[same],by simp[same],by show r.2.1=b_ r 13;omega,rfl⟩
     .exact⟨by show 0<=13+v;omega,by show 13+v<20;omega,As,hnew.symm⟩
    .have h1:=hno _ (cF _ e8);have h2:=hno _ (cF _ (cF _ e8));dsimp only at h1 h2;refine(Be hr hp (by omega) (fun _=>.inl (fun q=>?_))).symm;obtain⟨_,g⟩:=Mg _ r.1 0 (r.2.1-1).toNat (q.trans (by omega))
     rw[BU,iU]at g;have:=gU g;omega
   .have hin:bu v 1 6=false:=IW (by omega);rw[hin,bf]at m⊢;refine⟨?_,fun e he=>?_,fun p hp hno=>?_⟩
    .simp only[lM,same,me,bh,dg,dj,uJ,uP,List.Pairwise.nil,iQ,Ce,uO,BT];omega
    .simp only[bh,dg,dj]at he;rcases he with rfl | rfl
     .refine⟨by show 0<=r.2.1-1;omega,by show r.2.1-1<20;omega,ED,?_⟩;show val (fz r o) (r.2.1-1)=jX (r.1,r.2.1+1,()) (r.2.1-1).toNat
      rw[hx];exact ED
     .exact⟨by simp[same],by simp[same],by show r.2.1=b_ r 13;omega,rfl⟩
    .have h1:=hno _ (cF _ e8);dsimp only at h1;refine(Be hr hp (by omega) (fun _=>.inl (fun q=>?_))).symm;obtain⟨_,g⟩:=Mg _ r.1 0 (r.2.1-1).toNat (q.trans (by omega))
     rw[BU,iU]at g;have:=gU g;omega
  .have m:=hmem _ hp;have Ac:∀c,jj r o c=r:=fun c=>T5 c (by omega);rw[Ac];refine⟨?_,hr⟩;have hE:dJ o (fz r o)=[same (fz r o) 13,same (fz r o) (fR o.2.2.1)]:=by unfold dJ;rw[af eK,af (by omega),af (by omega),af (by omega),aj k]
   have hv:fR o.2.2.1=13+o.2.2.1:=by have:=oO o.2.2.1;omega
   rw[hE];rw[hv]at m⊢;refine⟨by simp[lM,same];omega,fun e he=>?_,fun p _ _=>rfl⟩;simp only[bh,dg,dj]at he;rcases he with rfl | rfl
   .exact⟨by simp[same],by simp[same],hsame _ (m _ (by simp)),hsame _ (m _ (by simp))⟩
   .exact⟨by show 0<=13+o.2.2.1;omega,by show 13+o.2.2.1<20;omega,hsame _ (m _ (by simp)),hsame _ (m _ (by simp))⟩
end Go.G

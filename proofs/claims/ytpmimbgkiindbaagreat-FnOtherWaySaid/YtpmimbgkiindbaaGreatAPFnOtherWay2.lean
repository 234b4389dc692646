import Derived.Test.YtpmimbgkiindbaaGreatAPFnOtherWay1
set_option maxRecDepth 100000
set_option linter.unusedVariables false
set_option linter.unusedSimpArgs false
set_option linter.unusedSectionVars false
open Go.IntKind (wrap)
namespace Go.G
open Go Go.V
theorem aJ{R:Type}{a b:Option R}:br true a b=a:=rfl
theorem aN{R:Type}{a b:Option R}:br false a b=b:=rfl
theorem qf{R:Type}{a b:Option R}{p:Prop}[Decidable p](h:p):br (decide p) a b=a:=by simp[br,h]
theorem qg{R:Type}{a b:Option R}{p:Prop}[Decidable p](h:¬ p):br (decide p) a b=b:=by simp[br,h]
theorem qc{α R:Type}{a:α}{f:α->Option R}:qd (some a) f=f a:=rfl
theorem ajq{R:Type}{c:Bool}{a:Option R}:br c a a=a:=by cases c<;>rfl
theorem ux{R:Type}{c:Bool}{a b:Option R}:br c a b=if c=true then a else b:=by cases c<;>rfl
theorem acs(x:Int):wrap .i64 x=if x % 18446744073709551616>=9223372036854775808 then x % 18446744073709551616-18446744073709551616 else x % 18446744073709551616:=by by_cases h:x % 18446744073709551616>=9223372036854775808<;>simp[IntKind.wrap,IntKind.signed,IntKind.bits,h]
theorem qs{x:Int}(h1 : -9223372036854775808<=x)(h2:x<=9223372036854775807):wrap .i64 x=x:=by rw[acs];split<;>omega
def W:Nat:=9223372036854775808
theorem ez:W=9223372036854775808:=rfl
theorem i7:f_=274877906944:=rfl
theorem ix{α:Type}{l:List α}{i:Nat}(h:i<l.length):(decide (0<=(i:Int))&&decide ((i:Int)<(l.length:Int)))=true:=by simp only[bH,gQ];omega
theorem fU{α:Type}{l:List α}{i:Int}(h0:0<=i)(h:i<l.length):(decide (0<=i)&&decide (i<(l.length:Int)))=true:=by simp only[bH,gQ];omega
theorem qu{i:Nat}(h:i<9223372036854775807):wrap .i64 ((i:Int)+1)=((i+1:Nat):Int):=by rw[qs]<;>omega
theorem qv{α:Type}{l:List α}{i:Nat}{d:α}(h:i<l.length):l.getD i d=l[i]:=by simp[List.getD,h]
theorem uS{α:Type}{l:List α}{i:Nat}(h:i<l.length):l.drop i=l[i]::l.drop (i+1):=Sn h
theorem uX{α:Type}{l:List α}{i:Nat}(h:¬ i<l.length):l.drop i=[]:=vD (by omega)
def tot:(t:Ty)->t.den->Nat
 | .unit,_=>0
 | .int _,_=>0
 | .bool,_=>0
 | .str,s=>s.size
 | .sl t,xs=>xs.length+(xs.map (tot t)).sum
 | .pair a b,x=>tot a x.1+tot b x.2
def left(t:Ty)(a:t.den)(k:Int):Int:=if (tot t a:Int)<=k then k-tot t a else -1
open Go.Proofs
abbrev Kg:=Int×Int×Unit
abbrev dK:=List Kg
abbrev cH:=Int×Int×Int×Unit
abbrev sN:=dK×List Int×Int×Bool×Unit
abbrev V3:=dK×Int×Bool×Unit
def bt(x a b:Int):Bool:=bif decide (x>=a) then decide (x<=b) else false
theorem lq{x a b:Int}:bt x a b=true↔a<=x/\x<=b:=by
 unfold bt;by_cases h:x>=a
 .rw[bC h];simp only[bz,gQ];omega
 .rw[b8 h];simp only[bg];constructor
  .intro k;cases k
  .intro k;omega
theorem ID{x a b:Int}(h:¬ (a<=x/\x<=b)):bt x a b=false:=by
 cases k:bt x a b
 .rfl
 .exact absurd (lq.1 k) h
def qw(k:Int):Int:=bif bt k 0 3 then k else -1
def q9(v:Int):Int:=bif bt v 1 6 then wrap .i64 (3+v) else -1
def iR(c:Int):Int:=bif bt c 0 2 then wrap .i64 (10+c) else -1
def fG(v:Int):Int:=bif bt v 1 6 then wrap .i64 (13+v) else -1
def qh(v:Int):Int:=bif bt v 1 6 then Int.tmod v 3 else -1
section
variable {X:Ext} (hX:fI X) {n:Nat}
include hX
theorem lD(hn:1<=n)(x a b:Int):kZ (DD X n) x a b=some ((bt x a b,()),()):=by
 obtain⟨n,rfl⟩:∃k,n=k+1:=⟨n-1,by omega⟩
 rw[aaw hX];rfl
theorem yF(hn:1<=n)(x a b:Int):lU (DD X n) x a b=some ((bt x a b,()),()):=by
 obtain⟨n,rfl⟩:∃k,n=k+1:=⟨n-1,by omega⟩
 rw[aaz hX];rfl
theorem AK(hn:1<=n)(b:Bool)(x:Int):JT (DD X n) b x=some ((bif b then x else -1,()),()):=by
 obtain⟨n,rfl⟩:∃k,n=k+1:=⟨n-1,by omega⟩
 rw[aif hX];cases b<;>rfl
theorem QT(hn:2<=n)(x:Int):Tz (DD X n) x=some ((bt x 0 3,()),()):=by
 obtain⟨n,rfl⟩:∃k,n=k+1:=⟨n-1,by omega⟩
 rw[aiU hX];simp only[ZT,O_];rw[lD hX (by omega),qc]
theorem J0(hn:2<=n)(x:Int):BT (DD X n) x=some ((bt x 1 6,()),()):=by
 obtain⟨n,rfl⟩:∃k,n=k+1:=⟨n-1,by omega⟩
 rw[aiX hX];simp only[ZW,Pb];rw[lD hX (by omega),qc]
theorem RL(hn:2<=n)(x:Int):VC (DD X n) x=some ((bt x 0 2,()),()):=by
 obtain⟨n,rfl⟩:∃k,n=k+1:=⟨n-1,by omega⟩
 rw[ahn hX];simp only[Yq,OO];rw[lD hX (by omega),qc]
theorem QU(hn:2<=n)(x:Int):VR (DD X n) x=some ((bt x 0 3,()),()):=by
 obtain⟨n,rfl⟩:∃k,n=k+1:=⟨n-1,by omega⟩
 rw[aiv hX];simp only[Z7,Po];rw[yF hX (by omega),qc]
theorem J6(hn:2<=n)(x:Int):C5 (DD X n) x=some ((bt x 1 6,()),()):=by
 obtain⟨n,rfl⟩:∃k,n=k+1:=⟨n-1,by omega⟩
 rw[aiy hX];simp only[Z_,Pg];rw[yF hX (by omega),qc]
theorem MF(hn:2<=n)(x:Int):VS (DD X n) x=some ((bt x 1 4,()),()):=by
 obtain⟨n,rfl⟩:∃k,n=k+1:=⟨n-1,by omega⟩
 rw[ai0 hX];simp only[q8j,Pj];rw[yF hX (by omega),qc]
theorem yA(hn:1<=n)(x:Int):BU (DD X n) x=some ((bif bif bif decide (x=1) then true else decide (x=2) then true else decide (x=5) then true else decide (x=10),()),()):=by
 obtain⟨n,rfl⟩:∃k,n=k+1:=⟨n-1,by omega⟩
 rw[ai1 hX];rfl
theorem yo(hn:1<=n):sH (DD X n)=some ((13,()),()):=by
 obtain⟨n,rfl⟩:∃k,n=k+1:=⟨n-1,by omega⟩
 rw[Qu hX];rfl
theorem Px(hn:1<=n):VE (DD X n)=some ((13,()),()):=by
 obtain⟨n,rfl⟩:∃k,n=k+1:=⟨n-1,by omega⟩
 rw[ag1 hX];rfl
theorem yt(hn:3<=n)(x:Int):ym (DD X n) x=some ((qw x,()),()):=by
 obtain⟨n,rfl⟩:∃k,n=k+1:=⟨n-1,by omega⟩
 rw[aiW hX];simp only[ZV,Pa];rw[QT hX (by omega),qc,AK hX (by omega),qc];rfl
theorem BZ(hn:3<=n)(x:Int):vN (DD X n) x=some ((q9 x,()),()):=by
 obtain⟨n,rfl⟩:∃k,n=k+1:=⟨n-1,by omega⟩
 rw[ahg hX];simp only[X0,Oy];rw[J0 hX (by omega),qc,AK hX (by omega),qc];rfl
theorem C7(hn:3<=n)(x:Int):yl (DD X n) x=some ((iR x,()),()):=by
 obtain⟨n,rfl⟩:∃k,n=k+1:=⟨n-1,by omega⟩
 rw[ahc hX];simp only[XW,OL];rw[RL hX (by omega),qc,AK hX (by omega),qc];rfl
theorem yu(hn:3<=n)(x:Int):sI (DD X n) x=some ((fG x,()),()):=by
 obtain⟨n,rfl⟩:∃k,n=k+1:=⟨n-1,by omega⟩
 rw[ais hX];simp only[Z4,Pc];rw[J0 hX (by omega),qc,yo hX (by omega),qc,AK hX (by omega),qc];rfl
theorem JV(hn:3<=n)(x:Int):uQ (DD X n) x=some ((qh x,()),()):=by
 obtain⟨n,rfl⟩:∃k,n=k+1:=⟨n-1,by omega⟩
 rw[ahb hX];simp only[XV,OK];rw[J0 hX (by omega),qc];unfold qh;cases bt x 1 6<;>rfl
theorem abu(hn:3<=n)(x:Int):ZX (DD X n) x=some ((qw x,()),()):=by
 obtain⟨n,rfl⟩:∃k,n=k+1:=⟨n-1,by omega⟩
 rw[aix hX];simp only[Z9,Pp];rw[QU hX (by omega),qc];unfold qw;cases bt x 0 3<;>rfl
theorem aaF(hn:3<=n)(x:Int):X_ (DD X n) x=some ((q9 x,()),()):=by
 obtain⟨n,rfl⟩:∃k,n=k+1:=⟨n-1,by omega⟩
 rw[agZ hX];simp only[Yx,OT];rw[J6 hX (by omega),qc];unfold q9;cases bt x 1 6<;>rfl
theorem aaE(hn:3<=n)(x:Int):X8 (DD X n) x=some ((iR x,()),()):=by
 obtain⟨n,rfl⟩:∃k,n=k+1:=⟨n-1,by omega⟩
 rw[agX hX];simp only[Yu,OR];rw[yF hX (by omega),qc];unfold iR;cases bt x 0 2<;>rfl
theorem abv(hn:3<=n)(x:Int):ZY (DD X n) x=some ((fG x,()),()):=by
 obtain⟨n,rfl⟩:∃k,n=k+1:=⟨n-1,by omega⟩
 rw[aiz hX];simp only[q8h,Ph];rw[J6 hX (by omega),qc,Px hX (by omega),qc];unfold fG;cases bt x 1 6<;>rfl
theorem aaD(hn:3<=n)(x:Int):X7 (DD X n) x=some ((qh x,()),()):=by
 obtain⟨n,rfl⟩:∃k,n=k+1:=⟨n-1,by omega⟩
 rw[agW hX];simp only[Yt,OQ];rw[J6 hX (by omega),qc];unfold qh;cases bt x 1 6<;>rfl
end
def rd(m5:Int):dK->Int->Bool->Int×Bool
 | [],n,ok=>(n,ok)
 | p::l,n,ok=>if p.1=m5 then rd m5 l p.2.1 true else rd m5 l n ok
theorem HB(m5:Int)(p:Kg):∀(l:dK)(n:Int)(ok:Bool),rd m5 (l++[p]) n ok=if p.1=m5 then (p.2.1,true) else rd m5 l n ok
 | [],n,ok=>by simp only[gx,rd]
 | q::l,n,ok=>by
  simp only[fE,rd];by_cases h:q.1=m5
  .rw[aj h,aj h];exact HB m5 p l _ _
  .rw[af h,af h];exact HB m5 p l _ _
def eP(got:dK)(m5:Int):Int×Bool:=rd m5 got 0 false
theorem Qe(D:Den ctx)(n:Nat)(K0:Int->Bool->Option ((Int×Bool×Unit)×Unit))(K1:Option ((Int×Bool×Unit)×Unit))(hK:K0 0 false=K1)(got:dK)(hg:got.length<=1048576)(m5:Int):∀(m k:Nat),k<=got.length->k<m->
  TD D n K0 K1 m got m5 ((k:Int)-1)=K0 (eP (got.take k) m5).1 (eP (got.take k) m5).2
 | 0,_,_,h=>by omega
 | m+1,k,hk,hf=>by
  simp only[TD,Z3];cases k with
  | zero=>rw[qg (by omega),List.take_zero];exact hK.symm
  | succ j=>
   have hj:j<got.length:=by omega
   have e1:(((j+1:Nat):Int)-1)=(j:Int):=by omega
   have e2:wrap .i64 ((j:Int)-1)=(j:Int)-1:=qs (by omega) (by omega);rw[e1,qf (by omega),ix hj,aJ,aJ,eB,e2,qv hj,nG hj];unfold eP;rw[HB];by_cases e:got[j].1=m5
   .rw[qf e,aj e]
   .rw[qg e,af e];exact Qe D n K0 K1 hK got hg m5 m j (by omega) (by omega)
theorem yp{X:Ext}(hX:fI X){n:Nat}(hn:W+1<=n)(got:dK)(hg:got.length<=1048576)(m5:Int):uR (DD X n) got m5=some (((eP got m5).1,(eP got m5).2,()),()):=by
 obtain⟨n,rfl⟩:∃k,n=k+1:=⟨n-1,by omega⟩
 have hW:=ez;rw[aau hX];simp only[F6,F_,ZC];rw[qs (by omega) (by omega),Qe (DD X n) n (fun bT dU=>OC (DD X n) n bT dU) (OD (DD X n) n) rfl got hg m5 n got.length (ck _) (by omega),ye];rfl
structure alo (got:dK) (a:sN) (w:V3) (k:Nat):Prop where
 g1:a.1=got
 g2:w.1=got
 alz:a.2.2.1=w.2.1
 alA:a.2.2.2.1=w.2.2.1
 pl:a.2.1.length<=k
section
variable {X:Ext} (hX:fI X) {n:Nat} (hn:W+6<=n) {got:dK} (hg:got.length<=1048576)
include hX hn hg
end
theorem RD{X:Ext}(hX:fI X){n:Nat}(hn:1<=n){a:sN}(h:a.2.2.2.1=true)(p:Int):qy (DD X n) a p=some ((0,()),(a,())):=by
 obtain⟨n,rfl⟩:∃k,n=k+1:=⟨n-1,by omega⟩
 rw[qv5 hX];simp only[SX,Vq];rw[h,aJ]
theorem Me{X:Ext}(hX:fI X)(N n:Nat)(hN:3<=N)(K:sN->Option (Unit×sN×Unit))(l:List Int)(hl:l.length<=2){a:sN}(h:a.2.2.2.1=true):∀(m i:Nat),l.length-i<m->
  Is (DD X N) n K m l (l.length:Int) (i:Int) a=K a
 | 0,_,h=>by omega
 | m+1,i,hf=>by
  simp only[Is,Vk];by_cases hi:i<l.length
  .rw[qf (by exact_mod_cast hi),ix hi,aJ,eB,yu hX (by omega),qc];dsimp only;rw[RD hX (by omega) h,qc,qu (by omega)];exact Me hX N n hN K l hl h m (i+1) (by omega)
  .rw[qg (by exact_mod_cast hi)]
section
variable {X:Ext} (hX:fI X) {n:Nat} {got:dK} (hg:got.length<=1048576)
include hX hg
end
section
variable {X:Ext} (hX:fI X) {n:Nat} {got:dK} (hg:got.length<=1048576)
include hX hg
end
def hit(got:dK)(p:Int):Bool:=decide (0<=p)&&(eP got p).2
inductive PR where
 | done
 | ask (p:Int) (k:Int->PR)
def run(got:dK):PR->List Int×Int
 | .done=>([],-1)
 | .ask p k=>bif hit got p then (p::(run got (k (eP got p).1)).1,(run got (k (eP got p).1)).2) else ([],p)
theorem nO{got:dK}{p:Int}{k:Int->PR}(h:hit got p=false):run got (.ask p k)=([],p):=by simp only[run];rw[h];rfl
theorem nQ{got:dK}{p:Int}{k:Int->PR}(h:hit got p=true):run got (.ask p k)=(p::(run got (k (eP got p).1)).1,(run got (k (eP got p).1)).2):=by simp only[run];rw[h];rfl
def sG:List Int->PR
 | []=>.done
 | v::l=>.ask (fG v) fun _=>sG l
def tG(k:Int)(l:List Int):PR:=.ask 13 fun st=>bif decide (st<=wrap .i64 (k+1)) then .done else sG l
def sL(o:cH):PR:=.ask (qw o.2.1) fun r=>bif r != 0 then .done else .ask (q9 o.2.2.1) fun w=>bif w != 0 then .done else .ask (iR (qh o.2.2.1)) fun _=>tG o.2.1 [o.2.2.1]
def sM(o:cH):PR:=.ask (qw o.2.1) fun r=>bif (bif decide (r=0) then true else decide (r=o.2.2.1)) then .done else .ask (q9 o.2.2.1) fun w=>bif w != 0 then .done else .ask (q9 r) fun _=>
 bif qh r != qh o.2.2.1 then .ask (iR (qh r)) fun _=>.ask (iR (qh o.2.2.1)) fun _=>tG o.2.1 [r,o.2.2.1] else tG o.2.1 [r,o.2.2.1]
def u5(o:cH):PR:=.ask (qw o.2.1) fun r=>bif decide (r=0) then .done else .ask (q9 r) fun _=>.ask (iR (qh r)) fun _=>tG o.2.1 [r]
def yx:PR:=.ask 13 fun st=>bif (bif decide (st<1) then true else decide (st>4)) then .done else .ask (qw (wrap .i64 (st-1))) fun r=>bif !bt r 1 6 then .done else .ask (fG r) fun _=>.done
def vX(o:cH):PR:=.ask 13 fun st=>bif st != 5 then .done else .ask (fG o.2.2.1) fun _=>.done
def B6:PR:=.ask 0 fun _=>.ask 1 fun _=>.ask 2 fun _=>.ask 3 fun _=>.done
def prog(o:cH):PR:=
 if o.1=1 then sL o else if o.1=2 then sM o else if o.1=3 then u5 o else
 if o.1=4 then .ask (qw o.2.1) fun _=>.done else if o.1=5 then .ask (q9 o.2.2.1) fun _=>.done else if o.1=6 then .ask (iR o.2.1) fun _=>.done else
 if o.1=7 then B6 else if o.1=8 then .ask 13 fun _=>.done else if o.1=9 then yx else if o.1=10 then vX o else .done
section
variable {X:Ext} (hX:fI X) {n:Nat} {got:dK}
include hX
theorem Ep(hn:1<=n)(pl:List Int)(m p:Int):qy (DD X n) (got,pl,m,true,()) p=some ((0,()),((got,pl,m,true,()),())):=RD hX hn rfl p
theorem CW(hn:1<=n)(pl:List Int)(m:Int)(o b:Bool):tD (DD X n) (got,pl,m,o,()) b=some ((),((got,pl,m,bif o then true else b,()),())):=by
 obtain⟨n,rfl⟩:∃k,n=k+1:=⟨n-1,by omega⟩
 rw[aeZ hX];rfl
theorem oK(hn:W+2<=n)(hg:got.length<=1048576){pl:List Int}(hl:pl.length<=1000)(m:Int){p:Int}(h:hit got p=true) :
  qy (DD X n) (got,pl,m,false,()) p=some (((eP got p).1,()),((got,pl++[p],m,false,()),())):=by
 obtain⟨n,rfl⟩:∃k,n=k+1:=⟨n-1,by omega⟩
 have hb:=i7;unfold hit at h;simp only[bH,gQ]at h;rw[qv5 hX];simp only[SX,Vq];rw[aN,yp hX (by omega) got hg,qc];dsimp only;rw[b8 (by omega:¬ p<0),h.2,cQ,bg,aN,qf (by omega)]
theorem oJ(hn:W+2<=n)(hg:got.length<=1048576)(pl:List Int)(m:Int){p:Int}(h:hit got p=false) :
  qy (DD X n) (got,pl,m,false,()) p=some ((0,()),((got,pl,p,true,()),())):=by
 obtain⟨n,rfl⟩:∃k,n=k+1:=⟨n-1,by omega⟩
 unfold hit at h;rw[qv5 hX];simp only[SX,Vq];rw[aN,yp hX (by omega) got hg,qc];dsimp only;have:(bif decide (p<0) then true else !(eP got p).2)=true:=by
  by_cases h0:p<0
  .rw[bC h0];rfl
  .rw[b8 h0];rw[bC (by omega:0<=p),qW]at h;rw[h];rfl
 rw[this,aJ]
theorem NV(N m0:Nat)(hN:W+4<=N)(hg:got.length<=1048576)(K:sN->Option (Unit×sN×Unit))(l:List Int)(hl:l.length<=2):∀(m i:Nat)(pl:List Int),l.length-i<m->i<=l.length->pl.length<=20+i->
  ∃b,Is (DD X N) n K m l (l.length:Int) (i:Int) (got,pl,-1,false,())=K (got,pl++(run got (sG (l.drop i))).1,(run got (sG (l.drop i))).2,b,())
 | 0,_,_,h,_,_=>by omega
 | m+1,i,pl,hf,hi,hp=>by
  simp only[Is,Vk];by_cases h:i<l.length
  .rw[qf (by exact_mod_cast h),ix h,aJ,eB,yu hX (by omega),qc,qv h];dsimp only;rw[uS h];simp only[sG];rw[qu (by omega)];cases hh:hit got (fG l[i])
   .rw[oJ hX (by omega) hg _ _ hh,qc,nO hh];dsimp only;rw[Me hX N n (by omega) K l hl (by rfl) m (i+1) (by omega)];exact⟨true,by rw[gR]⟩
   .rw[oK hX (by omega) hg (by omega) _ hh,qc,nQ hh];dsimp only;obtain⟨b,e⟩:=NV N m0 hN hg K l hl m (i+1) (pl++[fG l[i]]) (by omega) (by omega) (by rw[cI];simp only[cq,gy];omega);rw[e];exact⟨b,by rw[eG];rfl⟩
  .rw[qg (by exact_mod_cast h),uX h];exact⟨false,by simp only[sG,run];rw[gR]⟩
theorem Bs(hn:W+6<=n)(hg:got.length<=1048576){pl:List Int}(hp:pl.length<=10)(c:Int)(l:List Int)(hl:l.length<=2) :
  ∃b,Ir (DD X n) (got,pl,-1,false,()) c l=some ((),((got,pl++(run got (tG c l)).1,(run got (tG c l)).2,b,()),())):=by
 obtain⟨n,rfl⟩:∃k,n=k+1:=⟨n-1,by omega⟩
 have hW:=ez;rw[q8k hX];simp only[Vp,Vr,Vj];rw[yo hX (by omega),qc];dsimp only;unfold tG;cases h:hit got 13
 .rw[oJ hX (by omega) hg _ _ h,qc,nO h];dsimp only;rw[CW hX (by omega),qc];dsimp only;rw[bz];have e:=Me hX n n (by omega) (fun bT=>SN (DD X n) n bT) l hl (a:=(got,pl,13,true,())) rfl n 0 (by omega);rw[show((0:Nat):Int)=0 from rfl]at e;rw[e];exact⟨true,by rw[gR];rfl⟩
 .rw[oK hX (by omega) hg (by omega) _ h,qc,nQ h];dsimp only;rw[CW hX (by omega),qc];dsimp only;rw[bg];cases hs:decide ((eP got 13).1<=wrap .i64 (c+1))
  .rw[bg];obtain⟨b,e⟩:=NV hX n 0 (by omega) hg (fun bT=>SN (DD X n) n bT) l hl n 0 (pl++[13]) (by omega) (by omega) (by rw[cI];simp only[cq,gy];omega);rw[show((0:Nat):Int)=0 from rfl,jV]at e;rw[e];exact⟨b,by rw[eG];rfl⟩
  .rw[bz];have e:=Me hX n n (by omega) (fun bT=>SN (DD X n) n bT) l hl (a:=(got,pl++[13],-1,true,())) rfl n 0 (by omega);rw[show((0:Nat):Int)=0 from rfl]at e;rw[e];exact⟨true,rfl⟩
theorem GX(hn:5<=n)(pl:List Int)(m c:Int)(l:List Int)(hl:l.length<=2)(hW2:W+6<=n):Ir (DD X n) (got,pl,m,true,()) c l=some ((),((got,pl,m,true,()),())):=by
 obtain⟨n,rfl⟩:∃k,n=k+1:=⟨n-1,by omega⟩
 have hW:=ez;rw[q8k hX];simp only[Vp,Vr,Vj];rw[yo hX (by omega),qc];dsimp only;rw[Ep hX (by omega),qc];dsimp only;rw[CW hX (by omega),qc];dsimp only;rw[bz];have e:=Me hX n n (by omega) (fun bT=>SN (DD X n) n bT) l hl (a:=(got,pl,m,true,())) rfl n 0 (by omega);rw[show((0:Nat):Int)=0 from rfl]at e;rw[e];rfl
end
section
variable {X:Ext} (hX:fI X) {n:Nat} {got:dK}
include hX
theorem acH(hn:W+8<=n)(hg:got.length<=1048576)(K V:Int) :
  ∃b,SL (DD X n) (got,[],-1,false,()) (1,K,V,())=some ((),((got,(run got (sL (1,K,V,()))).1,(run got (sL (1,K,V,()))).2,b,()),())):=by
 obtain⟨n,rfl⟩:∃k,n=k+1:=⟨n-1,by omega⟩
 have hW:=ez;have he:=fun pl m p=>Ep hX (n:=n) (got:=got) (by omega) pl m p;have hs:=fun pl m o b=>CW hX (n:=n) (got:=got) (by omega) pl m o b;have hr:=fun x=>yt hX (n:=n) (by omega) x;have ho:=fun x=>BZ hX (n:=n) (by omega) x;have hc:=fun x=>C7 hX (n:=n) (by omega) x;have hk:=fun x=>JV hX (n:=n) (by omega) x;have mW:=fun pl m c l hl=>GX hX (n:=n) (got:=got) (by omega) pl m c l hl (by omega);rw[qqi hX];simp only[SM,Vf];rw[hr,qc];dsimp only;unfold sL;dsimp only;cases h1:hit got (qw K)
 .rw[oJ hX (by omega) hg _ _ h1,qc,nO h1];dsimp only;rw[qf trivial];simp only[he,hs,ho,hc,hk,qc,bz,mW _ _ _ [V] (by simp)];exact⟨true,rfl⟩
 .rw[oK hX (by omega) hg (by simp) _ h1,qc,nQ h1];dsimp only;rw[qf trivial,hs,qc];dsimp only;rw[bg];cases h2:((eP got (qw K)).1 != 0)
  .rw[bg,ho,qc];dsimp only;cases h3:hit got (q9 V)
   .rw[oJ hX (by omega) hg _ _ h3,qc,nO h3];simp only[he,hs,ho,hc,hk,qc,bz,mW _ _ _ [V] (by simp)];exact⟨true,rfl⟩
   .rw[oK hX (by omega) hg (by simp) _ h3,qc,nQ h3];dsimp only;rw[hs,qc];dsimp only;rw[bg];cases h4:((eP got (q9 V)).1 != 0)
    .rw[bg,hk,qc];dsimp only;rw[hc,qc];dsimp only;cases h5:hit got (iR (qh V))
     .rw[oJ hX (by omega) hg _ _ h5,qc,nO h5];simp only[qc,mW _ _ _ [V] (by simp)];exact⟨true,rfl⟩
     .rw[oK hX (by omega) hg (by simp) _ h5,qc,nQ h5];dsimp only;obtain⟨b,e⟩:=Bs hX (n:=n) (by omega) hg (pl:=[]++[qw K]++[q9 V]++[iR (qh V)]) (by simp) K [V] (by simp);rw[e,qc];exact⟨b,rfl⟩
    .simp only[he,hs,ho,hc,hk,qc,bz,mW _ _ _ [V] (by simp),run];exact⟨true,rfl⟩
  .simp only[he,hs,ho,hc,hk,qc,bz,mW _ _ _ [V] (by simp),run];exact⟨true,rfl⟩
theorem acI(hn:W+8<=n)(hg:got.length<=1048576)(K V:Int) :
  ∃b,SL (DD X n) (got,[],-1,false,()) (2,K,V,())=some ((),((got,(run got (sM (2,K,V,()))).1,(run got (sM (2,K,V,()))).2,b,()),())):=by
 obtain⟨n,rfl⟩:∃k,n=k+1:=⟨n-1,by omega⟩
 have hW:=ez;have he:=fun pl m p=>Ep hX (n:=n) (got:=got) (by omega) pl m p;have hs:=fun pl m o b=>CW hX (n:=n) (got:=got) (by omega) pl m o b;have hr:=fun x=>yt hX (n:=n) (by omega) x;have ho:=fun x=>BZ hX (n:=n) (by omega) x;have hc:=fun x=>C7 hX (n:=n) (by omega) x;have hk:=fun x=>JV hX (n:=n) (by omega) x;have mW:=fun pl m c a b=>GX hX (n:=n) (got:=got) (by omega) pl m c [a,b] (by simp) (by omega);have hsame:∀(c:Bool)(x:Option (Unit×sN×Unit)),br c x x=x:=by intro c x;cases c<;>rfl
 rw[qqi hX];simp only[SM,Vf];rw[hr,qc];dsimp only;unfold sM;dsimp only;cases h1:hit got (qw K)
 .rw[oJ hX (by omega) hg _ _ h1,qc,nO h1];dsimp only;rw[qg (by decide),qf trivial];simp only[he,hs,ho,hc,hk,qc,bz,mW,hsame];exact⟨true,rfl⟩
 .rw[oK hX (by omega) hg (by simp) _ h1,qc,nQ h1];dsimp only;generalize hv:(eP got (qw K)).1=v;rw[qg (by decide),qf trivial,hs,qc];dsimp only;rw[bg];cases h2:(bif decide (v=0) then true else decide (v=V))
  .rw[bg,ho,qc];dsimp only;cases h3:hit got (q9 V)
   .rw[oJ hX (by omega) hg _ _ h3,qc,nO h3];simp only[he,hs,ho,hc,hk,qc,bz,mW,hsame];exact⟨true,rfl⟩
   .rw[oK hX (by omega) hg (by simp) _ h3,qc,nQ h3];dsimp only;rw[hs,qc];dsimp only;rw[bg];cases h4:((eP got (q9 V)).1 != 0)
    .rw[bg,ho,qc];dsimp only;cases h5:hit got (q9 v)
     .rw[oJ hX (by omega) hg _ _ h5,qc,nO h5];simp only[he,hs,ho,hc,hk,qc,bz,mW,hsame];exact⟨true,rfl⟩
     .rw[oK hX (by omega) hg (by simp) _ h5,qc,nQ h5,hk,qc,hk,qc];dsimp only;cases h6:(qh v != qh V)
      .rw[aN,bg];obtain⟨b,e⟩:=Bs hX (n:=n) (by omega) hg (pl:=[]++[qw K]++[q9 V]++[q9 v]) (by simp) K [v,V] (by simp);rw[e,qc];exact⟨b,rfl⟩
      .rw[aJ,bz];simp only[qc];rw[hc,qc];dsimp only;cases h7:hit got (iR (qh v))
       .rw[oJ hX (by omega) hg _ _ h7,qc,nO h7];simp only[he,hs,ho,hc,hk,qc,bz,mW,hsame];exact⟨true,rfl⟩
       .rw[oK hX (by omega) hg (by simp) _ h7,qc,nQ h7];simp only[qc];rw[hc,qc];dsimp only;cases h8:hit got (iR (qh V))
        .rw[oJ hX (by omega) hg _ _ h8,qc,nO h8];simp only[he,hs,ho,hc,hk,qc,bz,mW,hsame];exact⟨true,rfl⟩
        .rw[oK hX (by omega) hg (by simp) _ h8,qc,nQ h8];dsimp only;obtain⟨b,e⟩:=Bs hX (n:=n) (by omega) hg (pl:=[]++[qw K]++[q9 V]++[q9 v]++[iR (qh v)]++[iR (qh V)]) (by simp) K [v,V] (by simp);rw[e,qc];exact⟨b,rfl⟩
    .simp only[he,hs,ho,hc,hk,qc,bz,mW,run,hsame];exact⟨true,rfl⟩
  .simp only[he,hs,ho,hc,hk,qc,bz,mW,run,hsame];exact⟨true,rfl⟩
theorem ach(hn:W+8<=n)(hg:got.length<=1048576)(K V:Int) :
  ∃b,SL (DD X n) (got,[],-1,false,()) (3,K,V,())=some ((),((got,(run got (u5 (3,K,V,()))).1,(run got (u5 (3,K,V,()))).2,b,()),())):=by
 obtain⟨n,rfl⟩:∃k,n=k+1:=⟨n-1,by omega⟩
 have hW:=ez;have he:=fun pl m p=>Ep hX (n:=n) (got:=got) (by omega) pl m p;have hs:=fun pl m o b=>CW hX (n:=n) (got:=got) (by omega) pl m o b;have hr:=fun x=>yt hX (n:=n) (by omega) x;have ho:=fun x=>BZ hX (n:=n) (by omega) x;have hc:=fun x=>C7 hX (n:=n) (by omega) x;have hk:=fun x=>JV hX (n:=n) (by omega) x;have mW:=fun pl m c a=>GX hX (n:=n) (got:=got) (by omega) pl m c [a] (by simp) (by omega);rw[qqi hX];simp only[SM,Vf];rw[hr,qc];dsimp only;unfold u5;dsimp only;cases h1:hit got (qw K)
 .rw[oJ hX (by omega) hg _ _ h1,qc,nO h1];dsimp only;rw[qg (by decide),qg (by decide)];simp only[he,hs,ho,hc,hk,qc,bz,mW];exact⟨true,rfl⟩
 .rw[oK hX (by omega) hg (by simp) _ h1,qc,nQ h1];dsimp only;generalize hv:(eP got (qw K)).1=v;rw[qg (by decide),qg (by decide),hs,qc];dsimp only;rw[bg];cases h2:decide (v=0)
  .rw[bg,ho,qc];dsimp only;cases h3:hit got (q9 v)
   .rw[oJ hX (by omega) hg _ _ h3,qc,nO h3];simp only[he,hs,ho,hc,hk,qc,bz,mW];exact⟨true,rfl⟩
   .rw[oK hX (by omega) hg (by simp) _ h3,qc,nQ h3,hk,qc];dsimp only;rw[hc,qc];dsimp only;cases h5:hit got (iR (qh v))
    .rw[oJ hX (by omega) hg _ _ h5,qc,nO h5];simp only[he,hs,ho,hc,hk,qc,bz,mW];exact⟨true,rfl⟩
    .rw[oK hX (by omega) hg (by simp) _ h5,qc,nQ h5];dsimp only;obtain⟨b,e⟩:=Bs hX (n:=n) (by omega) hg (pl:=[]++[qw K]++[q9 v]++[iR (qh v)]) (by simp) K [v] (by simp);rw[e,qc];exact⟨b,rfl⟩
  .simp only[he,hs,ho,hc,hk,qc,bz,mW,run];exact⟨true,rfl⟩
end
section
variable {X:Ext} (hX:fI X) {n:Nat} {got:dK}
include hX
theorem Bb(hn:W+2<=n)(hg:got.length<=1048576)(p:Int):∃b,qd (qy (DD X n) (got,[],-1,false,()) p) (fun b=>some ((b.2.1,()),())) =
  (some (((got,(run got (.ask p fun _=>.done)).1,(run got (.ask p fun _=>.done)).2,b,()),()),()):Option ((sN×Unit)×Unit)):=by
 cases h:hit got p
 .rw[oJ hX hn hg _ _ h,qc,nO h];exact⟨true,rfl⟩
 .rw[oK hX hn hg (by simp) _ h,qc,nQ h];exact⟨false,rfl⟩
theorem abp(hn:W+2<=n)(WW:3<=n)(hg:got.length<=1048576):∃b,
  qd (sH (DD X n)) (fun b=>
          qd (qy (DD X n) (got,[],-1,false,()) (Prod.fst (Prod.fst b))) fun b=>
           qd
            (tD (DD X n) (Prod.fst (Prod.snd b))
             (bif decide (Prod.fst (Prod.fst b)<1) then true else decide (Prod.fst (Prod.fst b)>4)))
            fun b_1=>
            qd (ym (DD X n) (wrap .i64 (Prod.fst (Prod.fst b)-1))) fun b=>
             qd (qy (DD X n) (Prod.fst (Prod.snd b_1)) (Prod.fst (Prod.fst b))) fun b=>
              qd (BT (DD X n) (Prod.fst (Prod.fst b))) fun b_2=>
               qd (tD (DD X n) (Prod.fst (Prod.snd b)) !Prod.fst (Prod.fst b_2)) fun T7=>
                qd (sI (DD X n) (Prod.fst (Prod.fst b))) fun b=>
                 qd (qy (DD X n) (Prod.fst (Prod.snd T7)) (Prod.fst (Prod.fst b))) fun b=>
                  some ((Prod.fst (Prod.snd b),()),()))=(some (((got,(run got yx).1,(run got yx).2,b,()),()),()):Option ((sN×Unit)×Unit)):=by
 have he:=fun pl m p=>Ep hX (n:=n) (got:=got) (by omega) pl m p;have hs:=fun pl m o b=>CW hX (n:=n) (got:=got) (by omega) pl m o b;have hr:=fun x=>yt hX (n:=n) (by omega) x;have hv:=fun x=>J0 hX (n:=n) (by omega) x;have hi:=fun x=>yu hX (n:=n) (by omega) x;rw[yo hX (by omega),qc];dsimp only;unfold yx;cases h:hit got 13
 .rw[oJ hX hn hg _ _ h,qc,nO h];simp only[he,hs,hr,hv,hi,qc,bz];exact⟨true,rfl⟩
 .rw[oK hX hn hg (by simp) _ h,qc,nQ h];dsimp only;generalize (eP got 13).1=st;rw[hs,qc];dsimp only;rw[bg];cases h2:(bif decide (st<1) then true else decide (st>4))
  .rw[bg,hr,qc];dsimp only;cases h3:hit got (qw (wrap .i64 (st-1)))
   .rw[oJ hX hn hg _ _ h3,qc,nO h3];simp only[he,hs,hr,hv,hi,qc,bz];exact⟨true,rfl⟩
   .rw[oK hX hn hg (by simp) _ h3,qc,nQ h3];dsimp only;generalize (eP got (qw (wrap .i64 (st-1)))).1=r;rw[hv,qc];dsimp only;rw[hs,qc];dsimp only;rw[bg];cases h4:bt r 1 6
    .simp only[he,hs,hr,hv,hi,qc,iN,bz,run];exact⟨true,rfl⟩
    .rw[cQ,bg,hi,qc];dsimp only;cases h5:hit got (fG r)
     .rw[oJ hX hn hg _ _ h5,qc,nO h5];exact⟨true,rfl⟩
     .rw[oK hX hn hg (by simp) _ h5,qc,nQ h5];exact⟨false,rfl⟩
  .simp only[he,hs,hr,hv,hi,qc,bz,run];exact⟨true,rfl⟩
theorem acJ(hn:W+2<=n)(WW:3<=n)(hg:got.length<=1048576)(o:cH):∃b,
  qd (sH (DD X n)) (fun b=>
           qd (qy (DD X n) (got,[],-1,false,()) (Prod.fst (Prod.fst b))) fun b=>
            qd (tD (DD X n) (Prod.fst (Prod.snd b)) (Prod.fst (Prod.fst b) != 5)) fun b=>
             qd (sI (DD X n) o.2.2.1) fun b_1=>
              qd (qy (DD X n) (Prod.fst (Prod.snd b)) (Prod.fst (Prod.fst b_1))) fun b=>some ((Prod.fst (Prod.snd b),()),())) =
  (some (((got,(run got (vX o)).1,(run got (vX o)).2,b,()),()),()):Option ((sN×Unit)×Unit)):=by
 have he:=fun pl m p=>Ep hX (n:=n) (got:=got) (by omega) pl m p;have hs:=fun pl m o b=>CW hX (n:=n) (got:=got) (by omega) pl m o b;have hi:=fun x=>yu hX (n:=n) (by omega) x;rw[yo hX (by omega),qc];dsimp only;unfold vX;cases h:hit got 13
 .rw[oJ hX hn hg _ _ h,qc,nO h];simp only[he,hs,hi,qc,bz];exact⟨true,rfl⟩
 .rw[oK hX hn hg (by simp) _ h,qc,nQ h];dsimp only;generalize (eP got 13).1=st;rw[hs,qc];dsimp only;rw[bg];cases h2:(st != 5)
  .rw[bg,hi,qc];dsimp only;cases h5:hit got (fG o.2.2.1)
   .rw[oJ hX hn hg _ _ h5,qc,nO h5];exact⟨true,rfl⟩
   .rw[oK hX hn hg (by simp) _ h5,qc,nQ h5];exact⟨false,rfl⟩
  .simp only[he,hs,hi,qc,bz,run];exact⟨true,rfl⟩
def Ml:Nat->Nat->PR
 | _,0=>.done
 | i,d+1=>.ask (i:Int) fun _=>Ml (i+1) d
theorem Mp(N n:Nat)(hN:3<=N)(K:sN->Option ((sN×Unit)×Unit))(pl:List Int)(m0:Int):∀(m i:Nat),i<=4->4-i<m->C4 (DD X N) n K m (i:Int) (got,pl,m0,true,())=K (got,pl,m0,true,())
 | 0,_,_,h=>by omega
 | m+1,i,hi,hf=>by
  simp only[C4,Ts];by_cases h:(i:Int)<4
  .rw[qf h,yt hX (by omega),qc];dsimp only;rw[Ep hX (by omega),qc,qu (by omega)];exact Mp N n hN K pl m0 m (i+1) (by omega) (by omega)
  .rw[qg h]
theorem NJ(N n:Nat)(hN:W+6<=N)(hN3:3<=N)(hg:got.length<=1048576)(K:sN->Option ((sN×Unit)×Unit)):∀(m d i:Nat)(pl:List Int),i+d=4->d<m->pl.length<=i->
  ∃b,C4 (DD X N) n K m (i:Int) (got,pl,-1,false,())=K (got,pl++(run got (Ml i d)).1,(run got (Ml i d)).2,b,())
 | 0,_,_,_,_,h,_=>by omega
 | m+1,0,i,pl,hi,hf,hp=>by
  simp only[C4,Ts];rw[qg (by omega)];exact⟨false,by simp only[Ml,run];rw[gR]⟩
 | m+1,d+1,i,pl,hi,hf,hp=>by
  simp only[C4,Ts];have hr:qw (i:Int)=i:=by unfold qw;rw[lq.2 (by omega)];rfl
  rw[qf (by omega),yt hX (by omega),qc,hr];dsimp only;simp only[Ml];rw[qu (by omega)];cases h:hit got (i:Int)
  .rw[oJ hX (by omega) hg _ _ h,qc,nO h];dsimp only;rw[Mp hX N n hN3 K pl (i:Int) m (i+1) (by omega) (by omega)];exact⟨true,by rw[gR]⟩
  .rw[oK hX (by omega) hg (by omega) _ h,qc,nQ h];dsimp only;obtain⟨b,e⟩:=NJ N n hN hN3 hg K m d (i+1) (pl++[(i:Int)]) (by omega) (by omega) (by rw[cI];simp only[cq,gy];omega);rw[e];exact⟨b,by rw[eG];rfl⟩
theorem RJ(hn:W+10<=n)(hg:got.length<=1048576)(o:cH) :
  ∃b,VP (DD X n) o got=some (((got,(run got (prog o)).1,(run got (prog o)).2,b,()),()),()):=by
 obtain⟨n,rfl⟩:∃k,n=k+1:=⟨n-1,by omega⟩
 have hW:=ez;obtain⟨k,K,V,⟨⟩⟩:=o;rw[ait hX];simp only[Z5,q9a];unfold prog;dsimp only;by_cases k1:k=1
 .subst k1;obtain⟨b,e⟩:=acH hX (n:=n) (by omega) hg K V;rw[qf rfl,qf rfl,e,qc,aj rfl];exact⟨b,rfl⟩
 rw[qg k1,af k1];by_cases k2:k=2
 .subst k2;obtain⟨b,e⟩:=acI hX (n:=n) (by omega) hg K V;rw[qf rfl,qf rfl,e,qc,aj rfl];exact⟨b,rfl⟩
 rw[qg k2,af k2];by_cases k3:k=3
 .subst k3;obtain⟨b,e⟩:=ach hX (n:=n) (by omega) hg K V;rw[qf rfl,e,qc,aj rfl];exact⟨b,rfl⟩
 rw[qg k3,af k3];by_cases k4:k=4
 .rw[qf k4,aj k4,yt hX (by omega),qc];exact Bb hX (by omega) hg _
 rw[qg k4,af k4];by_cases k5:k=5
 .rw[qf k5,aj k5,BZ hX (by omega),qc];exact Bb hX (by omega) hg _
 rw[qg k5,af k5];by_cases k6:k=6
 .rw[qf k6,aj k6,C7 hX (by omega),qc];exact Bb hX (by omega) hg _
 rw[qg k6,af k6];by_cases k7:k=7
 .rw[qf k7,aj k7];simp only[YQ];obtain⟨b,e⟩:=NJ hX n n (by omega) (by omega) hg (fun bT=>On (DD X n) n bT) n 4 0 [] rfl (by omega) (by simp);rw[show((0:Nat):Int)=0 from rfl]at e;rw[e];exact⟨b,rfl⟩
 rw[qg k7,af k7];by_cases k8:k=8
 .rw[qf k8,aj k8,yo hX (by omega),qc];exact Bb hX (by omega) hg _
 rw[qg k8,af k8];by_cases k9:k=9
 .rw[qf k9,aj k9];exact abp hX (by omega) (by omega) hg
 rw[qg k9,af k9];by_cases jn:k=10
 .rw[qf jn,aj jn];exact acJ hX (by omega) (by omega) hg (k,K,V,())
 rw[qg jn,af jn];exact⟨false,rfl⟩
end
abbrev eu:=Int×Int×Int×Unit
def iG{α:Type}(key:α->Int):List α->α->List α
 | [],x=>[x]
 | y::rs,x=>if key x<key y then y::iG key rs x else x::y::rs
def jZ{α:Type}(key:α->Int)(s:List α)(x:α):List α:=(iG key s.reverse x).reverse
theorem RF{α:Type}(key:α->Int):∀(rs:List α)(x:α),(iG key rs x).length=rs.length+1
 | [],x=>rfl
 | y::rs,x=>by
  simp only[iG];split
  .simp only[cq,RF key rs x]
  .simp only[cq]
theorem xC{α:Type}(key:α->Int)(s:List α)(x:α):(jZ key s x).length=s.length+1:=by unfold jZ;rw[jT,RF,jT]
theorem RG{α:Type}(key:α->Int):∀(rs:List α)(x z:α),z∈iG key rs x↔z=x\/z∈rs
 | [],x,z=>by simp[iG]
 | y::rs,x,z=>by
  simp only[iG];split
  .simp only[bk,RG key rs x z];constructor
   .rintro(h | h | h)
    .exact .inr (.inl h)
    .exact .inl h
    .exact .inr (.inr h)
   .rintro(h | h | h)
    .exact .inr (.inl h)
    .exact .inl h
    .exact .inr (.inr h)
  .simp only[bk]
theorem HG{α:Type}(key:α->Int)(s:List α)(x z:α):z∈jZ key s x↔z=x\/z∈s:=by unfold jZ;rw[uG,RG,uG]
theorem Nr{α:Type}(key:α->Int)(e:α)(l1:List α)(h1:∀y∈l1,key y<=key e):∀(l2:List α),(∀y∈l2,key e<key y)->jZ key (l1++l2.reverse) e=l1++e::l2.reverse
 | [],_=>by
  unfold jZ;rw[yf,gR];cases h:l1.reverse with
  | nil=>have:l1=[]:=List.reverse_eq_nil_iff.1 h;subst this;rfl
  | cons y rs=>
   have hy:y∈l1:=by rw[<-uG,h];exact eW
   simp only[iG];rw[af (by have:=h1 y hy;omega)];have:l1=rs.reverse++[y]:=by rw[<-Aq l1,h,oq]
   rw[this];simp
 | y::l2,h2=>by
  have ih:=Nr key e l1 h1 l2 (fun z hz=>h2 z (cB _ hz));unfold jZ at ih⊢;rw[oq,<-eG,List.reverse_append];show(iG key (y::(l1++l2.reverse).reverse) e).reverse=_;simp only[iG];rw[aj (h2 y eW),oq,ih];simp
theorem A6{α:Type}(l:List α)(x:α)(t:List α)(d:α):(l++x::t).getD l.length d=x:=by simp[List.getD]
theorem Be{α:Type}(l:List α)(x y:α)(t:List α):(l++x::t).set l.length y=l++y::t:=by simp
abbrev tS:Ty:=Ty.pair (Ty.int IntKind.i64) (Ty.pair (Ty.int IntKind.i64) (Ty.pair (Ty.int IntKind.i64) Ty.unit))
def rq(k:Int):Prop:=-1000<=k/\k<=1000
def j3(e:eu):Int:=e.1
section
variable {X:Ext} (hX:fI X) {n:Nat}
include hX
theorem ajy(hn:1<=n)(a b:eu)(ha:rq a.1)(hb:rq b.1):gZ ctx (DD X n) (bf.mk 183 []) [bD.val tS a,bD.val tS b] (Ty.int IntKind.i64)=some (a.1-b.1):=by
 obtain⟨n,rfl⟩:∃k,n=k+1:=⟨n-1,by omega⟩
 have h:∀D:Den ctx,gZ ctx D (bf.mk 183 []) [bD.val tS a,bD.val tS b] (Ty.int IntKind.i64)=(q7v D a b).bind fun r=>some r.1.1:=fun D=>by kernel_rfl
 unfold rq at ha hb;rw[h,afn hX];simp only[qvz,q9b,dw];rw[qs (by omega) (by omega)]
theorem acN(hn:1<=n){a b x y:eu}(ha:a=x)(hb:b=y)(hx:rq x.1)(hy:rq y.1):gZ ctx (DD X n) (bf.mk 183 []) [bD.val tS a,bD.val tS b] (Ty.int IntKind.i64)=some (x.1-y.1):=by subst ha;subst hb;exact ajy hX hn a b hx hy
theorem Mr(N n:Nat)(hN:1<=N)(K0:Int->Int->Int->List eu->Option (Unit×List eu×Unit))(b i:Int)(x:eu)(hx:rq x.1):∀(m:Nat)(rs t:List eu),rs.length<m->rs.length+t.length<=1000->(∀e∈rs,rq e.1)->
  JC (DD X N) n (bf.mk 183 []) K0 m 0 b i (rs.length:Int) (rs.reverse++x::t)=K0 0 b i ((iG j3 rs x).reverse++t)
 | 0,_,_,h,_,_=>by omega
 | m+1,[],t,_,_,_=>by
  simp only[JC,UT];rw[qg (by simp)];simp[iG]
 | m+1,y::rs,t,hf,hl,hs=>by
  have hy:=hs y eW;have hlen:((y::rs).reverse++x::t).length=rs.length+t.length+2:=by simp;omega
  simp only[cq]at hf hl;have e1:((y::rs).length:Int)=((rs.length+1:Nat):Int):=by simp
  have e2:wrap .i64 (((rs.length+1:Nat):Int)-1)=((rs.length:Nat):Int):=by rw[qs (by omega) (by omega)];omega
  have g1:((y::rs).reverse++x::t).getD (rs.length+1) (0,0,0,())=x:=by have:=A6 (y::rs).reverse x t (0,0,0,());rw[jT,cq]at this;exact this
  have g2:((y::rs).reverse++x::t).getD rs.length (0,0,0,())=y:=by have:=A6 rs.reverse y (x::t) (0,0,0,());rw[jT]at this;rw[oq,eG];exact this
  have s1:((y::rs).reverse++x::t).set (rs.length+1) y=rs.reverse++y::(y::t):=by have:=Be (y::rs).reverse x y t;rw[jT,cq]at this;rw[this,oq,eG];rfl
  have s2:(rs.reverse++y::(y::t)).set rs.length x=rs.reverse++x::(y::t):=by have:=Be rs.reverse y x (y::t);rw[jT]at this;exact this
  simp only[JC,UT];rw[e1,e2,qf (by omega),fU (by omega) (by rw[hlen];omega),aJ,fU (by omega) (by rw[hlen];omega),aJ];simp only[eB,b6];rw[acN hX hN g1 g2 hx hy,qc,g1,g2,aJ,aJ,aJ,s1,s2];have iI:(rs.reverse++y::(y::t)).length=rs.length+t.length+2:=by simp;omega
  simp only[iG];by_cases hlt:x.1<y.1
  .rw[qf (show x.1-y.1<0 by omega),fU (by omega) (by rw[hlen];omega),aJ,aj (show j3 x<j3 y from hlt)];rw[Mr N n hN K0 b i x hx m rs (y::t) (by omega) (by simp only[cq];omega) (fun e he=>hs e (cB _ he))];rw[oq,eG];rfl
  .rw[qg (show ¬ x.1-y.1<0 by omega),af (show ¬ j3 x<j3 y from hlt)];simp
theorem Rl(N:Nat)(hN:1<=N)(hW:2000<=N)(K0:List eu->Option (Unit×List eu×Unit)):∀(rest s:List eu)(m:Nat),rest.length<m->s.length+rest.length<=1000->(∀e∈s,rq e.1)->(∀e∈rest,rq e.1)->
  zo (DD X N) N (bf.mk 183 []) K0 m 0 ((s.length+rest.length:Nat):Int) (s.length:Int) (s++rest)=K0 (rest.foldl (jZ j3) s)
 | [],s,0,h,_,_,_=>by omega
 | _::_,s,0,h,_,_,_=>by omega
 | [],s,m+1,_,_,_,_=>by
  simp only[zo,SG];rw[qg (by simp),gR];rfl
 | x::rest,s,m+1,hf,hl,hs,hr=>by
  simp only[cq]at hf hl;simp only[zo,SG,qd1];rw[qf (by simp only[cq];omega)];have e:=Mr hX N N hN (fun bT dU iX jw=>qdp (DD X N) N (bf.mk 183 []) (zo (DD X N) N (bf.mk 183 []) K0 m) K0 bT dU iX jw)
   ((s.length+(x::rest).length:Nat):Int) (s.length:Int) x (hr x eW) N s.reverse rest (by rw[jT];omega) (by rw[jT];omega) (fun e he=>hs e (uG.1 he))
  rw[jT,Aq]at e;rw[e];simp only[qdp];rw[qu (by omega)];have e2:=Rl N hN hW K0 rest (jZ j3 s x) m (by omega) (by rw[xC];omega) (fun z hz=>by
   rcases(HG j3 s x z).1 hz with h | h
   .subst h;exact hr _ eW
   .exact hs z h) (fun z hz=>hr z (cB _ hz))
  rw[xC]at e2;rw[show s.length+(x::rest).length=s.length+1+rest.length by simp only[cq];omega];exact e2
end
def fC(e:Int):Int:=e
theorem ajL(D:Den ctx)(n:Nat):rS D n 0=some ((0,()),()):=by kernel_rfl
theorem ajM(D:Den ctx)(n:Nat):rS D n 1=some ((1,()),()):=by kernel_rfl
theorem ajN(D:Den ctx)(n:Nat):rS D n 2=some ((2,()),()):=by kernel_rfl
theorem ajO(D:Den ctx)(n:Nat):rS D n 3=some ((2,()),()):=by kernel_rfl
theorem ajP(D:Den ctx)(n:Nat):rS D n 4=some ((3,()),()):=by kernel_rfl
theorem ajQ(D:Den ctx)(n:Nat):rS D n 5=some ((3,()),()):=by kernel_rfl
theorem ajR(D:Den ctx)(n:Nat):rS D n 6=some ((3,()),()):=by kernel_rfl
theorem ajS(D:Den ctx)(n:Nat):rS D n 7=some ((3,()),()):=by kernel_rfl
theorem ajT(D:Den ctx)(n:Nat):rS D n 8=some ((4,()),()):=by kernel_rfl
theorem ajU(D:Den ctx)(n:Nat):rS D n 9=some ((4,()),()):=by kernel_rfl
theorem acZ(D:Den ctx)(n:Nat):rS D n 10=some ((4,()),()):=by kernel_rfl
theorem ac0(D:Den ctx)(n:Nat):rS D n 11=some ((4,()),()):=by kernel_rfl
theorem ac1(D:Den ctx)(n:Nat):rS D n 12=some ((4,()),()):=by kernel_rfl
section
variable {X:Ext} (hX:fI X) {n:Nat}
include hX
theorem akp(hn:2<=n)(a b:Int):yj (DD X n) a b=some ((decide (a<b),()),()):=by
 obtain⟨n,rfl⟩:∃k,n=k+2:=⟨n-2,by omega⟩
 rw[ag_ hX];simp only[Yd,OI];rw[agd hX];simp only[qxv,Og,qc];rw[show(a != a)=false by simp,aN];rfl
theorem Ms(N n:Nat)(hN:2<=N)(K0:Int->Int->Int->List Int->Option (Unit×List Int×Unit))(b i:Int)(x:Int)(hx:rq x):∀(m:Nat)(rs t:List Int),rs.length<m->rs.length+t.length<=1000->(∀e∈rs,rq e)->
  JI (DD X N) n K0 m 0 b i (rs.length:Int) (rs.reverse++x::t)=K0 0 b i ((iG fC rs x).reverse++t)
 | 0,_,_,h,_,_=>by omega
 | m+1,[],t,_,_,_=>by
  simp only[JI,U4];rw[qg (by simp)];simp[iG]
 | m+1,y::rs,t,hf,hl,hs=>by
  have hy:=hs y eW;have hlen:((y::rs).reverse++x::t).length=rs.length+t.length+2:=by simp;omega
  simp only[cq]at hf hl;have e1:((y::rs).length:Int)=((rs.length+1:Nat):Int):=by simp
  have e2:wrap .i64 (((rs.length+1:Nat):Int)-1)=((rs.length:Nat):Int):=by rw[qs (by omega) (by omega)];omega
  have g1:((y::rs).reverse++x::t).getD (rs.length+1) 0=x:=by have:=A6 (y::rs).reverse x t 0;rw[jT,cq]at this;exact this
  have g2:((y::rs).reverse++x::t).getD rs.length 0=y:=by have:=A6 rs.reverse y (x::t) 0;rw[jT]at this;rw[oq,eG];exact this
  have s1:((y::rs).reverse++x::t).set (rs.length+1) y=rs.reverse++y::(y::t):=by have:=Be (y::rs).reverse x y t;rw[jT,cq]at this;rw[this,oq,eG];rfl
  have s2:(rs.reverse++y::(y::t)).set rs.length x=rs.reverse++x::(y::t):=by have:=Be rs.reverse y x (y::t);rw[jT]at this;exact this
  simp only[JI,U4];rw[e1,e2,qf (by omega),fU (by omega) (by rw[hlen];omega),aJ,fU (by omega) (by rw[hlen];omega),aJ];simp only[eB,b6];rw[g1,g2,akp hX hN,qc];dsimp only;rw[aJ,aJ,aJ,s1,s2];have iI:(rs.reverse++y::(y::t)).length=rs.length+t.length+2:=by simp;omega
  simp only[iG];by_cases hlt:x<y
  .rw[qf (show x<y from hlt),fU (by omega) (by rw[hlen];omega),aJ,aj (show fC x<fC y from hlt)];rw[Ms N n hN K0 b i x hx m rs (y::t) (by omega) (by simp only[cq];omega) (fun e he=>hs e (cB _ he))];rw[oq,eG];rfl
  .rw[qg (show ¬ x<y from hlt),af (show ¬ fC x<fC y from hlt)];simp
theorem Rn(N:Nat)(hN:2<=N)(hW:2000<=N)(K0:List Int->Option (Unit×List Int×Unit)):∀(rest s:List Int)(m:Nat),rest.length<m->s.length+rest.length<=1000->(∀e∈s,rq e)->(∀e∈rest,rq e)->
  zp (DD X N) N K0 m 0 ((s.length+rest.length:Nat):Int) (s.length:Int) (s++rest)=K0 (rest.foldl (jZ fC) s)
 | [],s,0,h,_,_,_=>by omega
 | _::_,s,0,h,_,_,_=>by omega
 | [],s,m+1,_,_,_,_=>by
  simp only[zp,Sk];rw[qg (by simp),gR];rfl
 | x::rest,s,m+1,hf,hl,hs,hr=>by
  simp only[cq]at hf hl;simp only[zp,Sk,qf9];rw[qf (by simp only[cq];omega)];have e:=Ms hX N N hN (fun bT dU iX jw=>qf0 (DD X N) N (zp (DD X N) N K0 m) K0 bT dU iX jw)
   ((s.length+(x::rest).length:Nat):Int) (s.length:Int) x (hr x eW) N s.reverse rest (by rw[jT];omega) (by rw[jT];omega) (fun e he=>hs e (uG.1 he))
  rw[jT,Aq]at e;rw[e];simp only[qf0];rw[qu (by omega)];have e2:=Rn N hN hW K0 rest (jZ fC s x) m (by omega) (by rw[xC];omega) (fun z hz=>by
   rcases(HG fC s x z).1 hz with h | h
   .subst h;exact hr _ eW
   .exact hs z h) (fun z hz=>hr z (cB _ hz))
  rw[xC]at e2;rw[show s.length+(x::rest).length=s.length+1+rest.length by simp only[cq];omega];exact e2
theorem N4(hn:2<=n)(k:Nat)(hk:k<=12):∃v,Vx (DD X n) (IntKind.wrap IntKind.u64 (k:Int))=some ((v,()),()):=by
 obtain⟨n,rfl⟩:∃k,n=k+2:=⟨n-2,by omega⟩
 have hw:IntKind.wrap IntKind.u64 (k:Int)=(k:Int):=by
  have:∀j:Fin 13,IntKind.wrap IntKind.u64 ((j:Nat):Int)=((j:Nat):Int):=by decide +kernel
  exact this ⟨k,by omega⟩
 rw[hw,afU hX];simp only[qxz,Oq];rw[ae1 hX];have key:∃v,rS (DD X n) n (k:Int)=some ((v,()),()):=by
  match k,hk with
  | 0,_=>exact⟨_,ajL _ _⟩
  | 1,_=>exact⟨_,ajM _ _⟩
  | 2,_=>exact⟨_,ajN _ _⟩
  | 3,_=>exact⟨_,ajO _ _⟩
  | 4,_=>exact⟨_,ajP _ _⟩
  | 5,_=>exact⟨_,ajQ _ _⟩
  | 6,_=>exact⟨_,ajR _ _⟩
  | 7,_=>exact⟨_,ajS _ _⟩
  | 8,_=>exact⟨_,ajT _ _⟩
  | 9,_=>exact⟨_,ajU _ _⟩
  | 10,_=>exact⟨_,acZ _ _⟩
  | 11,_=>exact⟨_,ac0 _ _⟩
  | 12,_=>exact⟨_,ac1 _ _⟩
  | k+13,h=>omega
 obtain⟨v,e⟩:=key;rw[e,qc];exact⟨v,rfl⟩
theorem ajv(hn:W+6<=n)(l:List Int)(hl:l.length<=12)(hs:∀e∈l,rq e):Va (DD X n) l=some ((),l.foldl (jZ fC) [],()):=by
 obtain⟨n,rfl⟩:∃k,n=k+3:=⟨n-3,by omega⟩
 have hW:=ez;rw[adD hX];simp only[qnj,qxd];obtain⟨v,e⟩:=N4 hX (n:=n+2) (by omega) l.length hl;rw[e,qc];dsimp only;rw[q3r hX];simp only[qjo,qjy,qij];rw[show n+1=n+1 from rfl];simp only[U6,qi7];rw[qs (by omega) (by omega),qf (by omega),qvd hX];simp only[qgy,qg3,qf8];rw[show wrap .i64 (0+1)=((1:Nat):Int) by decide +kernel];cases l with
 | nil=>
  obtain⟨n,rfl⟩:∃k,n=k+1:=⟨n-1,by omega⟩
  simp only[zp,Sk];rw[qg (by simp)];rfl
 | cons x l=>have:=Rn hX n (by omega) (by omega) (fun bT=>qjx (DD X n) n bT) l [x] n (by simp only[cq]at hl;omega) (by simp only[cq,gy]at hl⊢;omega) (fun e he=>hs e (by simp only[d6]at he;subst he;exact eW)) (fun e he=>hs e (cB _ he));simp only[cq,gy,kz,Sw]at this⊢;rw[show l.length+1=1+l.length by omega,this];rfl
theorem aju(hn:W+6<=n)(l:List eu)(hl:l.length<=12)(hs:∀e∈l,rq e.1):UY (DD X n) l (bf.mk 183 [])=some ((),l.foldl (jZ j3) [],()):=by
 obtain⟨n,rfl⟩:∃k,n=k+3:=⟨n-3,by omega⟩
 have hW:=ez;rw[qpm hX];simp only[qex,qii];obtain⟨v,e⟩:=N4 hX (n:=n+2) (by omega) l.length hl;rw[e,qc];dsimp only;rw[qug hX];simp only[qgn,qgr,qf1];simp only[U3,qgb];rw[qs (by omega) (by omega),qf (by omega),qos hX];simp only[qem,qet,qd0];rw[show wrap .i64 (0+1)=((1:Nat):Int) by decide +kernel];cases l with
 | nil=>
  obtain⟨n,rfl⟩:∃k,n=k+1:=⟨n-1,by omega⟩
  simp only[zo,SG];rw[qg (by simp)];rfl
 | cons x l=>have:=Rl hX n (by omega) (by omega) (fun bT=>qg7 (DD X n) n (bf.mk 183 []) bT) l [x] n (by simp only[cq]at hl;omega) (by simp only[cq,gy]at hl⊢;omega) (fun e he=>hs e (by simp only[d6]at he;subst he;exact eW)) (fun e he=>hs e (cB _ he));simp only[cq,gy,kz,Sw]at this⊢;rw[show l.length+1=1+l.length by omega,this];rfl
end
def gU(got:dK)(p:Int)(f:Int->Int):List eu:=bif hit got p then [(p,(eP got p).1,f (eP got p).1,())] else []
theorem xF{got:dK}{p:Int}(h:hit got p=true)(f:Int->Int):gU got p f=[(p,(eP got p).1,f (eP got p).1,())]:=by unfold gU;rw[h];rfl
theorem AO{got:dK}{p:Int}(h:hit got p=false)(f:Int->Int):gU got p f=[]:=by unfold gU;rw[h];rfl
theorem B_(got:dK)(p:Int)(f:Int->Int):(gU got p f).length<=1:=by unfold gU;cases hit got p<;>simp
def one(v:Int):Int:=wrap .i64 (v+1)
def less(v:Int):Int:=if wrap .i64 (v-1)>0 then wrap .i64 (v-1) else 0
def g9(l:List eu)(e:eu):List eu:=l.takeWhile (fun y=>decide (y.1<e.1))++e::l.dropWhile (fun y=>decide (y.1<e.1))
theorem R7(l:List eu)(e:eu):(g9 l e).length=l.length+1:=by unfold g9;have:=ew List.length (Fm (p:=fun y:eu=>decide (y.1<e.1)) (l:=l));rw[cI]at this⊢;rw[cq];omega
theorem HN(got:dK)(p:Int):(bif decide (p<0) then true else !(eP got p).2)=!hit got p:=by
 unfold hit;by_cases h:p<0
 .rw[bC h,b8 (by omega:¬ 0<=p)];rfl
 .rw[b8 h,bC (by omega:0<=p)];rfl
section
variable {X:Ext} (hX:fI X) {n:Nat} {got:dK}
include hX
theorem uy(hn:W+2<=n)(hg:got.length<=1048576){out:List eu}(ho:out.length<=100)(p to:Int):vL (DD X n) p to 0 got out=some ((),(out++gU got p (fun _=>to)),()):=by
 obtain⟨n,rfl⟩:∃k,n=k+1:=⟨n-1,by omega⟩
 have hb:=i7;rw[qv6 hX];simp only[SY,Vs];rw[yp hX (by omega) got hg,qc];dsimp only;rw[HN];cases h:hit got p
 .rw[iN,aJ,AO h,gR]
 .rw[cQ,aN,qg (by decide),qg (by decide),qf (by omega),xF h]
theorem aks(hn:W+2<=n)(hg:got.length<=1048576){out:List eu}(ho:out.length<=100)(p to:Int):vL (DD X n) p to 1 got out=some ((),(out++gU got p one),()):=by
 obtain⟨n,rfl⟩:∃k,n=k+1:=⟨n-1,by omega⟩
 have hb:=i7;rw[qv6 hX];simp only[SY,Vs];rw[yp hX (by omega) got hg,qc];dsimp only;rw[HN];cases h:hit got p
 .rw[iN,aJ,AO h,gR]
 .rw[cQ,aN,qf trivial,qf (by omega),xF h];rfl
theorem akt(hn:W+2<=n)(hg:got.length<=1048576){out:List eu}(ho:out.length<=100)(p to:Int):vL (DD X n) p to (-1) got out=some ((),(out++gU got p less),()):=by
 obtain⟨n,rfl⟩:∃k,n=k+1:=⟨n-1,by omega⟩
 have hb:=i7;rw[qv6 hX];simp only[SY,Vs];rw[yp hX (by omega) got hg,qc];dsimp only;rw[HN];cases h:hit got p
 .rw[iN,aJ,AO h,gR]
 .rw[cQ,aN,qg (by decide),qf trivial,qf (by omega),xF h];rfl
end
theorem vc(k:Int):((0<=k/\k<=3)/\qw k=k)\/(¬ (0<=k/\k<=3)/\qw k = -1):=by
 unfold qw;by_cases h:0<=k/\k<=3
 .rw[lq.2 h];exact .inl ⟨h,rfl⟩
 .rw[ID h];exact .inr ⟨h,rfl⟩
theorem tE(v:Int):((1<=v/\v<=6)/\q9 v=3+v)\/(¬ (1<=v/\v<=6)/\q9 v = -1):=by
 unfold q9;by_cases h:1<=v/\v<=6
 .rw[lq.2 h,bz,qs (by omega) (by omega)];exact .inl ⟨h,rfl⟩
 .rw[ID h];exact .inr ⟨h,rfl⟩
theorem nS(v:Int):((1<=v/\v<=6)/\fG v=13+v)\/(¬ (1<=v/\v<=6)/\fG v = -1):=by
 unfold fG;by_cases h:1<=v/\v<=6
 .rw[lq.2 h,bz,qs (by omega) (by omega)];exact .inl ⟨h,rfl⟩
 .rw[ID h];exact .inr ⟨h,rfl⟩
theorem uW(c:Int):((0<=c/\c<=2)/\iR c=10+c)\/(¬ (0<=c/\c<=2)/\iR c = -1):=by
 unfold iR;by_cases h:0<=c/\c<=2
 .rw[lq.2 h,bz,qs (by omega) (by omega)];exact .inl ⟨h,rfl⟩
 .rw[ID h];exact .inr ⟨h,rfl⟩
theorem yw(v:Int):((1<=v/\v<=6)/\0<=qh v/\qh v<=2)\/(¬ (1<=v/\v<=6)/\qh v = -1):=by
 unfold qh;by_cases h:1<=v/\v<=6
 .rw[lq.2 h,bz,H6 (by omega)];exact .inl ⟨h,FB _ (by omega),by have:=Fc v (show(0:Int)<3 by omega);omega⟩
 .rw[ID h];exact .inr ⟨h,rfl⟩
def lI(l:List eu):Prop:=l.Pairwise fun a b=>a.1<b.1
theorem HJ(p:Int):∀(l:List eu),lI l->∀y∈l.dropWhile (fun y=>decide (y.1<p)),p<=y.1
 | [],_,y,h=>by simp at h
 | x::l,hs,y,h=>by
  have lN:=l_.1 hs;by_cases hx:x.1<p
  .rw[List.dropWhile_cons_of_pos (by exact bC hx)]at h;exact HJ p l lN.2 y h
  .rw[List.dropWhile_cons_of_neg (by simpa using hx)]at h;rcases bk.1 h with h | h
   .subst h;omega
   .have:=lN.1 y h;omega
theorem HT(p:Int):∀(l:List eu),∀y∈l.takeWhile (fun y=>decide (y.1<p)),y.1<p
 | [],y,h=>by simp at h
 | x::l,y,h=>by
  by_cases hx:x.1<p
  .rw[List.takeWhile_cons_of_pos (by exact bC hx)]at h;rcases bk.1 h with h | h
   .subst h;exact hx
   .exact HT p l y h
  .rw[List.takeWhile_cons_of_neg (by simpa using hx)]at h;simp at h
theorem R8(l:List eu)(e z:eu):z∈g9 l e↔z=e\/z∈l:=by
 unfold g9;have h:z∈l↔z∈l.takeWhile (fun y=>decide (y.1<e.1))\/z∈l.dropWhile (fun y=>decide (y.1<e.1)):=by rw[<-bL,Fm]
 rw[bL,bk,h];constructor
 .rintro(h | h | h)
  .exact .inr (.inl h)
  .exact .inl h
  .exact .inr (.inr h)
 .rintro(h | h | h)
  .exact .inr (.inl h)
  .exact .inl h
  .exact .inr (.inr h)
theorem acX{l:List eu}(hs:lI l){e:eu}(he:∀y∈l,y.1≠e.1):lI (g9 l e):=by
 unfold g9;have hd:∀y∈l.dropWhile (fun y=>decide (y.1<e.1)),e.1<y.1:=fun y hy=>by
  have h1:=HJ e.1 l hs y hy;have h2:=he y (FM _ |>.mem hy);omega
 have ht:=HT e.1 l;refine L7.2 ⟨hs.sublist (List.takeWhile_sublist _),l_.2 ⟨hd,hs.sublist (FM _)⟩,fun a ha b hb=>?_⟩;have h1:=ht a ha;rcases bk.1 hb with h | h
 .subst h;exact h1
 .have:=hd b h;omega
theorem ajr{l:List eu}(hs:lI l){e:eu}(he:∀y∈l,y.1≠e.1):jZ j3 l e=g9 l e:=by
 have hd:∀y∈l.dropWhile (fun y=>decide (y.1<e.1)),e.1<y.1:=fun y hy=>by
  have h1:=HJ e.1 l hs y hy;have h2:=he y (FM _ |>.mem hy);omega
 have ht:=HT e.1 l;have:=Nr j3 e (l.takeWhile (fun y=>decide (y.1<e.1))) (fun y hy=>by have:=ht y hy;unfold j3;omega) (l.dropWhile (fun y=>decide (y.1<e.1))).reverse (fun y hy=>hd y (uG.1 hy));rw[Aq,Fm]at this;rw[this];rfl
def EW(l:List eu):Prop:=l.Pairwise fun a b=>a.1≠b.1
theorem RB:∀(L acc:List eu),lI acc->EW L->(∀a∈acc,∀e∈L,a.1≠e.1)->L.foldl (jZ j3) acc=L.foldl g9 acc/\lI (L.foldl g9 acc)/\(∀z,z∈L.foldl g9 acc↔z∈acc\/z∈L)/\(L.foldl g9 acc).length=acc.length+L.length
 | [],acc,h,_,_=>⟨rfl,h,fun z=>by simp,rfl⟩
 | e::L,acc,h,hL,hx=>by
  have hL2:=l_.1 hL;have he:∀y∈acc,y.1≠e.1:=fun y hy=>hx y hy e eW;simp only[nJ];rw[ajr h he];obtain⟨r1,r2,r3,r4⟩:=RB L (g9 acc e) (acX h he) hL2.2 (fun a ha b hb=>by
   rcases(R8 acc e a).1 ha with q | q
   .subst q;exact hL2.1 b hb
   .exact hx a q b (cB _ hb))
  refine⟨r1,r2,fun z=>?_,by rw[r4,R7,cq];omega⟩;rw[r3 z,R8,bk];constructor
  .rintro((h | h) | h)
   .exact .inr (.inl h)
   .exact .inl h
   .exact .inr (.inr h)
  .rintro(h | h | h)
   .exact .inl (.inr h)
   .exact .inl (.inl h)
   .exact .inr h
theorem QC:∀(L acc:List eu),(L.foldl g9 acc).length=acc.length+L.length
 | [],acc=>rfl
 | e::L,acc=>by rw[nJ,QC L,R7,cq];omega
abbrev Want:=Int×(Int->Int)
def iu(got:dK)(L:List Want):List eu:=L.flatMap fun p=>gU got p.1 p.2
theorem Hg(got:dK):∀(L:List Want),(iu got L).length<=L.length
 | []=>ck _
 | p::L=>by
  have h1:=B_ got p.1 p.2;have h2:=Hg got L;show((p::L).flatMap _).length<=_;rw[At,cI,cq];have:(L.flatMap fun p=>gU got p.1 p.2).length<=L.length:=h2;omega
theorem Ji(got:dK)(L:List Want)(e:eu):e∈iu got L↔∃p∈L,hit got p.1=true/\e=(p.1,(eP got p.1).1,p.2 (eP got p.1).1,()):=by
 unfold iu;rw[List.mem_flatMap];constructor
 .rintro⟨p,hp,he⟩;refine⟨p,hp,?_⟩;unfold gU at he;cases h:hit got p.1
  .rw[h]at he;simp at he
  .rw[h]at he;simp only[bz,d6]at he;exact⟨rfl,he⟩
 .rintro⟨p,hp,h,rfl⟩;exact⟨p,hp,by rw[xF h];exact d6.2 rfl⟩
theorem A7{got:dK}{p:Int}(h:hit got p=true):0<=p:=by unfold hit at h;simp only[bH,gQ]at h;exact h.1
theorem Qa(got:dK):∀(L:List Want),(L.Pairwise fun p q=>0<=p.1->p.1≠q.1)->EW (iu got L)
 | [],_=>List.Pairwise.nil
 | p::L,h=>by
  have h2:=l_.1 h;have ih:=Qa got L h2.2;show EW ((p::L).flatMap _);rw[At];cases hh:hit got p.1
  .rw[AO hh];exact ih
  .rw[xF hh];refine l_.2 ⟨fun e he=>?_,ih⟩;obtain⟨q,hq,_,rfl⟩:=(Ji got L e).1 he;exact h2.1 q hq (A7 hh)
theorem aaX(got:dK)(L:List Want)(h:∀p∈L,p.1<=19):∀e∈iu got L,rq e.1:=by intro e he;obtain⟨p,hp,hh,rfl⟩:=(Ji got L e).1 he;have h1:=A7 hh;have h2:=h p hp;exact⟨by show -1000<=p.1;omega,by show p.1<=1000;omega⟩
def eY(K V held st:Int):List Want:=
 [(qw K,fun _=>V),(13,fun _=>st),(q9 held,fun _=>0),(fG held,fun _=>0),(q9 V,fun _=>wrap .i64 (K+1)),(fG V,fun _=>wrap .i64 (K+1))]++
  (bif qh held != qh V then [(iR (qh held),less),(iR (qh V),one)] else [])
theorem RP(K V held st:Int):(eY K V held st).length<=8:=by unfold eY;cases qh held != qh V<;>simp
theorem MT(K V held st:Int):∀p∈eY K V held st,p.1<=19:=by
 have h1:=vc K;have h2:=tE held;have h3:=tE V;have h4:=nS held;have h5:=nS V;have h6:=uW (qh held);have h7:=uW (qh V);unfold eY;cases qh held != qh V
 .intro p hp;simp only[bg,gR,bk,c_,dg]at hp;rcases hp with rfl | rfl | rfl | rfl | rfl | rfl<;>dsimp only<;>omega
 .intro p hp;simp only[bz,fE,gx,bk,c_,dg]at hp;rcases hp with rfl | rfl | rfl | rfl | rfl | rfl | rfl | rfl<;>dsimp only<;>omega
theorem aaT{K V held st:Int}(hv:1<=held/\held<=6->held≠V):(eY K V held st).Pairwise fun p q=>0<=p.1->p.1≠q.1:=by
 have h1:=vc K;have h2:=tE held;have h3:=tE V;have h4:=nS held;have h5:=nS V;have h6:=uW (qh held);have h7:=uW (qh V);unfold eY;cases hc:qh held != qh V
 .simp only[bg,gR,l_,bk,c_,dg,uH,uM,List.Pairwise.nil,iO,BP,uO,BG];refine⟨⟨?_,?_,?_,?_,?_⟩,⟨?_,?_,?_,?_⟩,⟨?_,?_,?_⟩,⟨?_,?_⟩,?_⟩<;>omega
 .have hne:qh held≠qh V:=by simpa using hc
  simp only[bz,fE,gx,l_,bk,c_,dg,uH,uM,List.Pairwise.nil,iO,BP,uO,BG];refine⟨⟨?_,?_,?_,?_,?_,?_,?_⟩,⟨?_,?_,?_,?_,?_,?_⟩,⟨?_,?_,?_,?_,?_⟩,⟨?_,?_,?_,?_⟩,⟨?_,?_,?_⟩,⟨?_,?_⟩,?_⟩<;>omega
section
variable {X:Ext} (hX:fI X) {n:Nat} {got:dK}
include hX
theorem abG(hn:W+9<=n)(hg:got.length<=1048576)(k K V held st:Int) :
  VB (DD X n) (k,K,V,()) got held st=some (((iu got (eY K V held st)).foldl (jZ j3) [],()),()):=by
 obtain⟨n,rfl⟩:∃k,n=k+1:=⟨n-1,by omega⟩
 have hW:=ez;obtain⟨E1,h1⟩:∃E,E=gU got (qw K) (fun _=>V):=⟨_,rfl⟩
 obtain⟨E2,h2⟩:∃E,E=gU got 13 (fun _=>st):=⟨_,rfl⟩
 obtain⟨E3,h3⟩:∃E,E=gU got (q9 held) (fun _=>0):=⟨_,rfl⟩
 obtain⟨E4,h4⟩:∃E,E=gU got (fG held) (fun _=>0):=⟨_,rfl⟩
 obtain⟨E5,h5⟩:∃E,E=gU got (q9 V) (fun _=>wrap .i64 (K+1)):=⟨_,rfl⟩
 obtain⟨E6,h6⟩:∃E,E=gU got (fG V) (fun _=>wrap .i64 (K+1)):=⟨_,rfl⟩
 obtain⟨E7,h7⟩:∃E,E=gU got (iR (qh held)) less:=⟨_,rfl⟩
 obtain⟨E8,h8⟩:∃E,E=gU got (iR (qh V)) one:=⟨_,rfl⟩
 have l1:E1.length<=1:=by rw[h1];exact B_ ..
 have l2:E2.length<=1:=by rw[h2];exact B_ ..
 have l3:E3.length<=1:=by rw[h3];exact B_ ..
 have l4:E4.length<=1:=by rw[h4];exact B_ ..
 have l5:E5.length<=1:=by rw[h5];exact B_ ..
 have l6:E6.length<=1:=by rw[h6];exact B_ ..
 have l7:E7.length<=1:=by rw[h7];exact B_ ..
 have l8:E8.length<=1:=by rw[h8];exact B_ ..
 have hs:=fun l hl hk=>aju hX (n:=n) (by omega) l hl hk;have hlen:=nK (Hg got (eY K V held st)) (RP K V held st);have iJ:=aaX got (eY K V held st) (MT K V held st);have heq:iu got (eY K V held st)=bif qh held != qh V then []++E1++E2++E3++E4++E5++E6++E7++E8 else []++E1++E2++E3++E4++E5++E6:=by
  unfold iu eY;cases qh held != qh V
  .simp only[bg,gR,At,List.flatMap_nil,gx,eG,<-h1,<-h2,<-h3,<-h4,<-h5,<-h6]
  .simp only[bz,fE,gx,gR,At,List.flatMap_nil,eG,<-h1,<-h2,<-h3,<-h4,<-h5,<-h6,<-h7,<-h8]
 rw[ahk hX];simp only[Yn,OM];rw[yt hX (by omega),qc];dsimp only;rw[uy hX (by omega) hg (by simp),<-h1,qc];dsimp only;rw[yo hX (by omega),qc];dsimp only;rw[uy hX (by omega) hg (by simp only[cI,gy];omega),<-h2,qc];dsimp only;rw[BZ hX (by omega),qc];dsimp only;rw[uy hX (by omega) hg (by simp only[cI,gy];omega),<-h3,qc];dsimp only;rw[yu hX (by omega),qc];dsimp only;rw[uy hX (by omega) hg (by simp only[cI,gy];omega),<-h4,qc];dsimp only;rw[BZ hX (by omega),qc];dsimp only;rw[uy hX (by omega) hg (by simp only[cI,gy];omega),<-h5,qc];dsimp only;rw[yu hX (by omega),qc];dsimp only;rw[uy hX (by omega) hg (by simp only[cI,gy];omega),<-h6,qc];dsimp only;rw[JV hX (by omega),qc,JV hX (by omega),qc];dsimp only;cases hc:qh held != qh V
 .rw[hc,bg]at heq;rw[aN,<-heq,hs _ (by omega) iJ,qc]
 .rw[hc,bz]at heq;rw[aJ];simp only[qc];rw[C7 hX (by omega),qc];dsimp only;rw[akt hX (by omega) hg (by simp only[cI,gy];omega),<-h7,qc];dsimp only;rw[C7 hX (by omega),qc];dsimp only;rw[aks hX (by omega) hg (by simp only[cI,gy];omega),<-h8,qc];dsimp only;rw[<-heq,hs _ (by omega) iJ,qc]
end
def dF(o:cH):Bool:=
 bif decide (o.1=1)||decide (o.1=2) then bt o.2.1 0 3&&bt o.2.2.1 1 6
 else bif decide (o.1=3)||decide (o.1=4) then bt o.2.1 0 3&&decide (o.2.2.1=0)
 else bif decide (o.1=5)||decide (o.1=10) then decide (o.2.1=0)&&bt o.2.2.1 1 6
 else bif decide (o.1=6) then bt o.2.1 0 2&&decide (o.2.2.1=0)
 else bif decide (o.1=7)||(decide (o.1=8)||decide (o.1=9)) then decide (o.2.1=0)&&decide (o.2.2.1=0) else false
def jM(k V row owner st cnt:Int):Option (Int×List Int):=
 if k=1/\row≠0 then some (1,[]) else
 if k=1/\owner≠0 then some (2,[]) else
 if (k=2\/k=3\/k=4)/\row=0 then some (3,[]) else
 if k=2/\row=V then some (0,[]) else
 if k=2/\owner≠0 then some (2,[]) else
 if k=4 then some (0,[row]) else
 if k=5/\owner=0 then some (3,[]) else
 if k=5 then some (0,[wrap .i64 (owner-1)]) else
 if k=6 then some (0,[cnt]) else
 if k=8/\st≠0 then some (4,[]) else
 if k=9/\(st<1\/st>4) then some (4,[]) else
 if k=10/\st≠5 then some (4,[]) else none
def sO:Option (Int×List Int)->(Int×List Int×Unit)×Bool×Unit
 | some x=>((x.1,x.2,()),true,())
 | none=>((0,[],()),false,())
abbrev pS:=Bool×(Int×List Int×Unit)×List eu×Unit
def mK(o:cH)(got:dK):Option (Int×List Int):=
 jM o.1 o.2.2.1 (eP got (qw o.2.1)).1 (eP got (q9 o.2.2.1)).1 (eP got 13).1 (eP got (iR o.2.1)).1
theorem cM(a b:Int):(a != b)=!decide (a=b):=by by_cases h:a=b<;>simp[h]
section
variable {X:Ext} (hX:fI X) {n:Nat} {got:dK}
include hX
theorem abc(hn:4<=n)(k K V:Int):UF (DD X n) (k,K,V,())=some ((dF (k,K,V,()),()),()):=by
 obtain⟨n,rfl⟩:∃k,n=k+1:=⟨n-1,by omega⟩
 rw[aay hX];simp only[F8,PW];simp only[QU hX (n:=n) (by omega),J6 hX (n:=n) (by omega),yF hX (n:=n) (by omega),MF hX (n:=n) (by omega),yA hX (n:=n) (by omega),qc];unfold dF;dsimp only;generalize hA:bt K 0 3=A;generalize hB:bt V 1 6=B;generalize hC:bt K 0 2=C;generalize hD:decide (K=0)=D;generalize hE:decide (V=0)=E;by_cases h:1<=k/\k<=10
 .have:k=1\/k=2\/k=3\/k=4\/k=5\/k=6\/k=7\/k=8\/k=9\/k=10:=by omega
  rcases this with rfl | rfl | rfl | rfl | rfl | rfl | rfl | rfl | rfl | rfl<;>cases A<;>cases B<;>cases C<;>cases D<;>cases E<;>rfl
 .rw[ID h,iN,aJ];simp only[b8 (by omega:¬ k=1),b8 (by omega:¬ k=2),b8 (by omega:¬ k=3),b8 (by omega:¬ k=4),b8 (by omega:¬ k=5),b8 (by omega:¬ k=6),b8 (by omega:¬ k=7),b8 (by omega:¬ k=8),b8 (by omega:¬ k=9),b8 (by omega:¬ k=10),Bool.or_false,bg]
theorem VN(hn:5<=n)(k K V:Int):Iy (DD X n) (k,K,V,())=some ((dF (k,K,V,()),()),()):=by
 obtain⟨n,rfl⟩:∃k,n=k+1:=⟨n-1,by omega⟩
 rw[aar hX];simp only[FZ,PF];simp only[QT hX (n:=n) (by omega),J0 hX (n:=n) (by omega),RL hX (n:=n) (by omega),qc];unfold dF;dsimp only;generalize hA:bt K 0 3=A;generalize hB:bt V 1 6=B;generalize hC:bt K 0 2=C;generalize hD:decide (K=0)=D;generalize hE:decide (V=0)=E;by_cases h:1<=k/\k<=10
 .have:k=1\/k=2\/k=3\/k=4\/k=5\/k=6\/k=7\/k=8\/k=9\/k=10:=by omega
  rcases this with rfl | rfl | rfl | rfl | rfl | rfl | rfl | rfl | rfl | rfl<;>cases A<;>cases B<;>cases C<;>cases D<;>cases E<;>rfl
 .simp only[b8 (by omega:¬ k=1),b8 (by omega:¬ k=2),b8 (by omega:¬ k=3),b8 (by omega:¬ k=4),b8 (by omega:¬ k=5),b8 (by omega:¬ k=6),b8 (by omega:¬ k=7),b8 (by omega:¬ k=8),b8 (by omega:¬ k=9),b8 (by omega:¬ k=10),Bool.or_false,bg,aN]
theorem acf(hn:W+5<=n)(hg:got.length<=1048576)(o:cH):Zf (DD X n) o got=some (sO (mK o got),()):=by
 obtain⟨n,rfl⟩:∃k,n=k+1:=⟨n-1,by omega⟩
 have hW:=ez;obtain⟨k,K,V,⟨⟩⟩:=o;rw[aid hX];simp only[Y2,O0];simp only[yt hX (n:=n) (by omega),BZ hX (n:=n) (by omega),C7 hX (n:=n) (by omega),yo hX (n:=n) (by omega),yp hX (n:=n) (by omega) got hg,qc];unfold mK;dsimp only;generalize (eP got (qw K)).1=row;generalize (eP got (q9 V)).1=owner;generalize (eP got 13).1=st;generalize (eP got (iR K)).1=cnt;unfold jM;by_cases h:1<=k/\k<=10
 .have:k=1\/k=2\/k=3\/k=4\/k=5\/k=6\/k=7\/k=8\/k=9\/k=10:=by omega
  rcases this with rfl | rfl | rfl | rfl | rfl | rfl | rfl | rfl | rfl | rfl
  .by_cases r0:row=0<;>by_cases w0:owner=0<;>simp[r0,w0,br,sO,cM]
  .by_cases rV:row=V
   .subst rV;by_cases r0:row=0<;>simp[r0,br,sO,cM]
   .by_cases r0:row=0<;>by_cases w0:owner=0<;>simp[r0,rV,w0,br,sO,cM]
  .by_cases r0:row=0<;>simp[r0,br,sO,cM]
  .by_cases r0:row=0<;>simp[r0,br,sO,cM]
  .by_cases w0:owner=0<;>simp[w0,br,sO,cM]
  .simp[br,sO,cM]
  .simp[br,sO,cM]
  .by_cases s0:st=0<;>simp[s0,br,sO,cM]
  .by_cases s1:st<1<;>by_cases s4:4<st<;>simp[s1,s4,br,sO,cM]
  .by_cases s5:st=5<;>simp[s5,br,sO,cM]
 .simp only[b8 (by omega:¬ k=1),b8 (by omega:¬ k=2),b8 (by omega:¬ k=3),b8 (by omega:¬ k=4),b8 (by omega:¬ k=5),b8 (by omega:¬ k=6),b8 (by omega:¬ k=7),b8 (by omega:¬ k=8),b8 (by omega:¬ k=9),b8 (by omega:¬ k=10),bg,aN];have k1:¬ k=1:=by omega
  have k2:¬ k=2:=by omega
  have k3:¬ k=3:=by omega
  have k4:¬ k=4:=by omega
  have k5:¬ k=5:=by omega
  have k6:¬ k=6:=by omega
  have k8:¬ k=8:=by omega
  have k9:¬ k=9:=by omega
  have jn:¬ k=10:=by omega
  simp[k1,k2,k3,k4,k5,k6,k8,k9,jn,sO]
end
def val(got:dK)(p:Int):Int:=(eP got p).1
def mE(k row st p old:Int):Int:=if k=8 then wrap .i64 (old+1) else if k=9 then (if p=13 then wrap .i64 (old+1) else if p=fG row then st else old) else old
def same(got:dK)(p:Int):eu:=(p,val got p,val got p,())
def dz(o:cH)(got:dK):List eu:=
 if o.1=1\/o.1=2\/o.1=3 then (iu got (eY o.2.1 o.2.2.1 (val got (qw o.2.1)) (val got 13))).foldl g9 [] else
 if o.1=7 then [same got 0,same got 1,same got 2,same got 3] else
 if o.1=8 then [(13,val got 13,1,())] else
 if o.1=9 then same got (qw (wrap .i64 (val got 13-1)))::(13,val got 13,wrap .i64 (val got 13+1),())::
  (bif bt (val got (qw (wrap .i64 (val got 13-1)))) 1 6 then [(fG (val got (qw (wrap .i64 (val got 13-1)))),val got (fG (val got (qw (wrap .i64 (val got 13-1))))),val got 13,())] else []) else
 if o.1=10 then [same got 13,same got (fG o.2.2.1)] else []
def eE(o:cH)(got:dK):Int×List Int×Unit:=
 if o.1=7 then (0,[val got 0,val got 1,val got 2,val got 3],()) else
 if o.1=10 then (if val got (fG o.2.2.1)=0 then (3,[],()) else (0,[wrap .i64 (val got (fG o.2.2.1)-1)],())) else (0,[],())
def NA:pS:=(false,(0,[],()),[],())
def gh(o:cH)(got:dK):pS×Bool×Unit:=
 if dF o=true/\(run got (prog o)).2<0 then
  match mK o got with
  | some x=>((true,(x.1,x.2,()),[],()),true,())
  | none=>((false,eE o got,dz o got,()),true,())
 else (NA,false,())
theorem zI{got:dK}{p:Int}{k:Int->PR}(hp:0<=p)(h:(run got (.ask p k)).2<0):hit got p=true/\(run got (k (val got p))).2<0/\(run got (.ask p k)).1=p::(run got (k (val got p))).1:=by
 cases hh:hit got p
 .rw[nO hh]at h;dsimp only at h;omega
 .rw[nQ hh]at h⊢;exact⟨rfl,h,rfl⟩
theorem v8{o:cH}(h:dF o=true):((o.1=1\/o.1=2)/\(0<=o.2.1/\o.2.1<=3)/\(1<=o.2.2.1/\o.2.2.1<=6))\/((o.1=3\/o.1=4)/\(0<=o.2.1/\o.2.1<=3)/\o.2.2.1=0)\/
  ((o.1=5\/o.1=10)/\o.2.1=0/\(1<=o.2.2.1/\o.2.2.1<=6))\/(o.1=6/\(0<=o.2.1/\o.2.1<=2)/\o.2.2.1=0)\/((o.1=7\/o.1=8\/o.1=9)/\o.2.1=0/\o.2.2.1=0):=by
 unfold dF at h;by_cases Ja:o.1=1\/o.1=2
 .rw[show(decide (o.1=1)||decide (o.1=2))=true by simpa using Ja,bz,bH]at h;exact .inl ⟨Ja,lq.1 h.1,lq.1 h.2⟩
 rw[show(decide (o.1=1)||decide (o.1=2))=false by simpa using Ja,bg]at h;by_cases CO:o.1=3\/o.1=4
 .rw[show(decide (o.1=3)||decide (o.1=4))=true by simpa using CO,bz,bH,gQ]at h;exact .inr (.inl ⟨CO,lq.1 h.1,h.2⟩)
 rw[show(decide (o.1=3)||decide (o.1=4))=false by simpa using CO,bg]at h;by_cases k5:o.1=5\/o.1=10
 .rw[show(decide (o.1=5)||decide (o.1=10))=true by simpa using k5,bz,bH,gQ]at h;exact .inr (.inr (.inl ⟨k5,h.1,lq.1 h.2⟩))
 rw[show(decide (o.1=5)||decide (o.1=10))=false by simpa using k5,bg]at h;by_cases k6:o.1=6
 .rw[bC k6,bz,bH,gQ]at h;exact .inr (.inr (.inr (.inl ⟨k6,lq.1 h.1,h.2⟩)))
 rw[b8 k6,bg]at h;by_cases k7:o.1=7\/o.1=8\/o.1=9
 .rw[show(decide (o.1=7)||(decide (o.1=8)||decide (o.1=9)))=true by simpa using k7,bz,bH,gQ,gQ]at h;exact .inr (.inr (.inr (.inr ⟨k7,h.1,h.2⟩)))
 .rw[show(decide (o.1=7)||(decide (o.1=8)||decide (o.1=9)))=false by simpa using k7,bg]at h;exact absurd h (by simp)
theorem Ma{got:dK}{K V held st:Int}(hv:1<=held/\held<=6->held≠V):(iu got (eY K V held st)).foldl (jZ j3) []=(iu got (eY K V held st)).foldl g9 []/\lI ((iu got (eY K V held st)).foldl g9 [])/\
  (∀z,z∈(iu got (eY K V held st)).foldl g9 []↔z∈iu got (eY K V held st))/\((iu got (eY K V held st)).foldl g9 []).length=(iu got (eY K V held st)).length:=by
 obtain⟨r1,r2,r3,r4⟩:=RB (iu got (eY K V held st)) [] List.Pairwise.nil (Qa got _ (aaT hv)) (fun a ha=>by simp at ha);exact⟨r1,r2,fun z=>by rw[r3];simp,by rw[r4];simp⟩
theorem xH{o:cH}{got:dK}(ho:dF o=true)(hn:mK o got=none)(hk:o.1=1\/o.1=2\/o.1=3):1<=val got (qw o.2.1)/\val got (qw o.2.1)<=6->val got (qw o.2.1)≠o.2.2.1:=by
 intro h;have:=v8 ho;unfold mK jM at hn;rcases hk with k | k | k
 .rw[k]at hn;by_cases h0:(eP got (qw o.2.1)).1=0
  .unfold val at h;omega
  .rw[aj ⟨rfl,h0⟩]at hn;cases hn
 .rw[k]at hn;rw[af (by omega),af (by omega)]at hn;by_cases h0:(eP got (qw o.2.1)).1=0
  .unfold val at h;omega
  .rw[af (by omega)]at hn;by_cases h1:(eP got (qw o.2.1)).1=o.2.2.1
   .rw[aj ⟨rfl,h1⟩]at hn;cases hn
   .exact h1
 .omega
section
variable {X:Ext} (hX:fI X) {n:Nat} {got:dK}
include hX
theorem acg(hn:4<=n)(o:cH)(p old row st:Int):Zg (DD X n) o p old row st=some ((mE o.1 row st p old,()),()):=by
 obtain⟨n,rfl⟩:∃k,n=k+1:=⟨n-1,by omega⟩
 rw[aie hX];simp only[Y3,O1];rw[yo hX (by omega),qc,yu hX (by omega),qc];unfold mE;by_cases h8:o.1=8
 .rw[qf h8,aj h8]
 rw[qg h8,af h8];by_cases h9:o.1=9
 .rw[qf h9,aj h9];by_cases h1:p=13
  .rw[qf h1,aj h1]
  rw[qg h1,af h1];by_cases h2:p=fG row
  .rw[qf h2,aj h2]
  .rw[qg h2,af h2]
 .rw[qg h9,af h9]
theorem EM(N n:Nat)(hN:W+2<=N)(hg:got.length<=1048576)(K:dK->cH->pS->pS->Option ((pS×Bool×Unit)×Unit))(st row:Int)(o:cH)(x6:pS)(g:dK)(P:List Int)(mo:Int×Bool×Unit)(hP:P.length<=20) :
  ∀(m i:Nat)(rl:List Int)(el:List eu),i<=P.length->P.length-i<m->rl.length<=i->el.length<=i->
  JS (DD X N) n K m got st row (P.length:Int) (i:Int) o x6 (false,(0,rl,()),el,()) (g,P,mo) =
   K got o x6 (false,(0,rl++(if o.1=7 then (P.drop i).map (val got) else []),()),el++(P.drop i).map (fun p=>(p,val got p,mE o.1 row st p (val got p),())),())
 | 0,_,_,_,_,h,_,_=>by omega
 | m+1,i,rl,el,hi,hf,h1,h2=>by
  have hb:=i7;have hW:=ez;simp only[JS,YM];by_cases h:i<P.length
  .rw[qf (by omega),ix h,aJ,yp hX (by omega) got hg,qc,eB,qv h];dsimp only;rw[acg hX (by omega),qc];dsimp only;rw[qf (by omega),uS h];simp only[cr];by_cases h7:o.1=7
   .rw[qf h7,qf (by omega),qu (by omega)];rw[EM N n hN hg K st row o x6 g P mo hP m (i+1) _ _ (by omega) (by omega) (by rw[cI,l9];omega) (by rw[cI,l9];omega)];rw[aj h7,aj h7,eG,eG];rfl
   .rw[qg h7,qu (by omega)];rw[EM N n hN hg K st row o x6 g P mo hP m (i+1) _ _ (by omega) (by omega) (by omega) (by rw[cI,l9];omega)];rw[af h7,af h7,eG];rfl
  .rw[qg (by omega),uX h];simp
end
theorem GK{o:cH}{got:dK}(ho:dF o=true)(hn:mK o got=none)(hr:(run got (prog o)).2<0)(hk:¬ (o.1=1\/o.1=2\/o.1=3)) :
    ((run got (prog o)).1.length<=12/\∀e∈(run got (prog o)).1,rq e)/\
    ((o.1=7/\(run got (prog o)).1.foldl (jZ fC) []=[0,1,2,3])\/
     (o.1=8/\val got 13=0/\(run got (prog o)).1.foldl (jZ fC) []=[13])\/
     (o.1=9/\(1<=val got 13/\val got 13<=4)/\(run got (prog o)).1.foldl (jZ fC) []=qw (wrap .i64 (val got 13-1))::13::(bif bt (val got (qw (wrap .i64 (val got 13-1)))) 1 6 then [fG (val got (qw (wrap .i64 (val got 13-1))))] else []))\/
     (o.1=10/\(run got (prog o)).1.foldl (jZ fC) []=[13,fG o.2.2.1])):=by
  have z5:=v8 ho;unfold mK jM at hn;rw[af (by omega),af (by omega)]at hn;by_cases k4:o.1=4
  . exfalso
    by_cases h0:(eP got (qw o.2.1)).1=0
    . rw[aj ⟨.inr (.inr k4),h0⟩]at hn;cases hn
    . rw[af (by omega),af (by omega),af (by omega),aj k4]at hn;cases hn
  rw[af (by omega),af (by omega),af (by omega),af k4]at hn;by_cases k5:o.1=5
  . exfalso
    by_cases h0:(eP got (q9 o.2.2.1)).1=0
    . rw[aj ⟨k5,h0⟩]at hn;cases hn
    . rw[af (by omega),aj k5]at hn;cases hn
  rw[af (by omega),af k5]at hn;by_cases k6:o.1=6
  . exfalso;rw[aj k6]at hn;cases hn
  rw[af k6]at hn;have kk:o.1=7\/o.1=8\/o.1=9\/o.1=10:=by omega
  have Lg:prog o=if o.1=7 then B6 else if o.1=8 then .ask 13 (fun _=>.done) else if o.1=9 then yx else if o.1=10 then vX o else .done:=by unfold prog;rw[af (by omega),af (by omega),af (by omega),af k4,af k5,af k6]
  rw[Lg]at hr⊢;rcases kk with k | k | k | k
  . rw[aj k]at hr⊢
    unfold B6 at hr⊢;obtain⟨_,r1,e1⟩:=zI (by omega) hr;obtain⟨_,r2,e2⟩:=zI (by omega) r1;obtain⟨_,r3,e3⟩:=zI (by omega) r2;obtain⟨_,_,e4⟩:=zI (by omega) r3;rw[e1,e2,e3,e4];refine⟨⟨by simp[run],fun e he=>?_⟩,.inl ⟨k,rfl⟩⟩;simp only[run,bk,c_,dg]at he;rcases he with rfl | rfl | rfl | rfl<;>exact⟨by omega,by omega⟩
  . rw[af (by omega),aj k]at hr⊢
    obtain⟨_,_,e1⟩:=zI (by omega) hr;rw[e1];refine⟨⟨by simp[run],fun e he=>?_⟩,.inr (.inl ⟨k,?_,rfl⟩)⟩
    . simp only[run,bk,c_,dg]at he
      subst he;exact⟨by omega,by omega⟩
    . by_cases s0:(eP got 13).1=0
      . exact s0
      . rw[aj ⟨k,s0⟩]at hn;cases hn
  . rw[af (by omega),af (by omega),aj k]at hr⊢
    rw[af (by omega)]at hn;have hst:1<=val got 13/\val got 13<=4:=by
      by_cases s0:(eP got 13).1<1\/(eP got 13).1>4
      . rw[aj ⟨k,s0⟩]at hn;cases hn
      . unfold val;omega
    unfold yx at hr⊢;obtain⟨_,r1,e1⟩:=zI (by omega) hr;rw[e1];have hb:(bif decide (val got 13<1) then true else decide (val got 13>4))=false:=by rw[b8 (by omega),b8 (by omega)];rfl
    rw[hb,bg]at r1⊢;have hw:wrap .i64 (val got 13-1)=val got 13-1:=qs (by omega) (by omega);have hrow:=vc (wrap .i64 (val got 13-1));rw[hw]at hrow;rw[hw]at r1⊢;obtain⟨_,r2,e2⟩:=zI (by omega) r1;rw[e2];generalize Xf:qw (val got 13-1)=p at *;have hp:0<=p/\p<=3:=by omega
    cases hv:bt (val got p) 1 6
    . rw[iN,bz,bg]
      have es:[(13:Int),p].foldl (jZ fC) []=[p,13]:=by simp only[nJ,FE,jZ,yf,iG,H9];rw[aj (show fC p<fC 13 by unfold fC;omega)];rfl
      refine⟨⟨by simp[run],fun e he=>?_⟩,.inr (.inr (.inl ⟨k,hst,es⟩))⟩;simp only[run,bk,c_,dg]at he;rcases he with rfl | rfl<;>exact⟨by omega,by omega⟩
    . rw[hv,cQ,bg]at r2
      rw[cQ,bg,bz];have nj:=nS (val got p);have D9:=lq.1 hv;obtain⟨_,_,e3⟩:=zI (by omega) r2;rw[e3];have es:[(13:Int),p,fG (val got p)].foldl (jZ fC) []=[p,13,fG (val got p)]:=by simp only[nJ,FE,jZ,yf,iG,H9];rw[aj (show fC p<fC 13 by unfold fC;omega)];simp only[oq,yf,gx,fE,iG];rw[af (show ¬ fC (fG (val got p))<fC 13 by unfold fC;omega)];rfl
      refine⟨⟨by simp[run],fun e he=>?_⟩,.inr (.inr (.inl ⟨k,hst,es⟩))⟩;simp only[run,bk,c_,dg]at he;rcases he with rfl | rfl | rfl<;>exact⟨by omega,by omega⟩
  . rw[af (by omega),af (by omega),af (by omega),aj k]at hr⊢
    rw[af (by omega),af (by omega)]at hn;have hst:val got 13=5:=by
      by_cases s0:(eP got 13).1=5
      . exact s0
      . rw[aj ⟨k,s0⟩]at hn;cases hn
    unfold vX at hr⊢;obtain⟨_,r1,e1⟩:=zI (by omega) hr;rw[e1];rw[hst]at r1⊢;rw[show((5:Int) != 5)=false by decide,bg]at r1⊢;have nj:=nS o.2.2.1;obtain⟨_,_,e3⟩:=zI (by omega) r1;rw[e3];have es:[(13:Int),fG o.2.2.1].foldl (jZ fC) []=[13,fG o.2.2.1]:=by simp only[nJ,FE,jZ,yf,iG,H9];rw[af (show ¬ fC (fG o.2.2.1)<fC 13 by unfold fC;omega)];rfl
    refine⟨⟨by simp[run],fun e he=>?_⟩,.inr (.inr (.inr ⟨k,es⟩))⟩;simp only[run,bk,c_,dg]at he;rcases he with rfl | rfl<;>exact⟨by omega,by omega⟩
section
variable {X:Ext} (hX:fI X) {n:Nat} {got:dK}
include hX
theorem abJ(hn:W+3<=n)(hg:got.length<=1048576)(o:cH)(x6:pS)(rl:List Int)(el:List eu):S7 (DD X n) n got o x6 (false,(0,rl,()),el,()) =
  some (((false,(if o.1=10 then (if val got (fG o.2.2.1)=0 then (3,rl,()) else (0,[wrap .i64 (val got (fG o.2.2.1)-1)],())) else (0,rl,())),el,()),true,()),()):=by
 have hW:=ez;simp only[S7];by_cases k:o.1=10
 .rw[qf k,aj k,yu hX (by omega),qc];dsimp only;rw[yp hX (by omega) got hg,qc];dsimp only;unfold val;by_cases h:(eP got (fG o.2.2.1)).1=0
  .rw[cM,bC h,cQ,aN,aj h]
  .rw[cM,b8 h,iN,aJ,af h]
 .rw[qg k,af k]
theorem ai3(hn:W+14<=n)(hg:got.length<=1048576)(o:cH):VG (DD X n) o got=some (gh o got,()):=by
 obtain⟨n,rfl⟩:∃k,n=k+1:=⟨n-1,by omega⟩
 have hW:=ez;obtain⟨k,K,V,⟨⟩⟩:=o;rw[aia hX];simp only[Zp,ZA,qyq];rw[VN hX (by omega),qc];dsimp only;unfold gh;cases ho:dF (k,K,V,())
 .rw[iN,aJ,af (by simp)];rfl
 obtain⟨b,e⟩:=RJ hX (n:=n) (by omega) hg (k,K,V,());rw[cQ,aN,e,qc];dsimp only;by_cases hr:(run got (prog (k,K,V,()))).2<0
 .rw[qg (by omega),aj ⟨rfl,hr⟩,acf hX (by omega) hg,qc];cases dn:mK (k,K,V,()) got with
  | some x=>simp only[sO];rw[aJ]
  | none=>
   simp only[sO];rw[aN,yo hX (by omega),qc];dsimp only;rw[yp hX (by omega) got hg,qc];dsimp only;rw[yt hX (by omega),qc];dsimp only;rw[yp hX (by omega) got hg,qc];dsimp only;by_cases hk:k=1\/k=2\/k=3
   .have hne:=xH ho dn hk;obtain⟨c1,_,_,_⟩:=Ma (got:=got) (K:=K) (V:=V) (held:=val got (qw K)) (st:=val got 13) hne;have eJ:(bif bif decide (k=1) then true else decide (k=2) then true else decide (k=3))=true:=by rcases hk with h | h | h<;>subst h<;>rfl
    rw[qg (by omega),eJ,aJ,abG hX (by omega) hg,qc];dsimp only;unfold eE dz;rw[aj hk,af (show ¬ k=7 by omega),af (show ¬ k=10 by omega)];have yZ:=c1;unfold val at yZ⊢;rw[yZ]
   .obtain⟨⟨p1,p2⟩,pl⟩:=GK ho dn hr hk;have eJ:(bif bif decide (k=1) then true else decide (k=2) then true else decide (k=3))=false:=by rw[b8 (show ¬ k=1 by omega),b8 (show ¬ k=2 by omega),b8 (show ¬ k=3 by omega)];rfl
    rw[eJ];simp only[aN];have tw:=ajv hX (n:=n) (by omega) _ p1 p2;have tn:∀(row:Int)(P:List Int)(x6:pS),P.length<=20->JS (DD X n) n (fun bT dU iX jw=>S7 (DD X n) n bT dU iX jw) n got (eP got 13).1 row (P.length:Int) 0 (k,K,V,()) x6 (false,(0,[],()),[],()) (got,P,(run got (prog (k,K,V,()))).2,b,()) =
      some (((false,(if k=10 then (if val got (fG V)=0 then (3,(if k=7 then P.map (val got) else []),()) else (0,[wrap .i64 (val got (fG V)-1)],())) else (0,(if k=7 then P.map (val got) else []),())),P.map (fun p=>(p,val got p,mE k row (eP got 13).1 p (val got p),())),()),true,()),()):=by
     intro row P x6 hP;have:=EM hX n n (by omega) hg (fun bT dU iX jw=>S7 (DD X n) n bT dU iX jw) (eP got 13).1 row (k,K,V,()) x6 got P ((run got (prog (k,K,V,()))).2,b,()) hP n 0 [] [] (by omega) (by omega) (by simp) (by simp);rw[show((0:Nat):Int)=0 from rfl,jV]at this;rw[this];rw[abJ hX (by omega) hg];simp only[gx]
    unfold eE dz;dsimp only;rw[af hk];rcases pl with⟨h7,hp⟩ | ⟨h8,hz,hp⟩ | ⟨h9,hz,hp⟩ | ⟨DC,hp⟩
    .dsimp only at h7;subst h7;rw[qg (by decide),tw,qc,hp];dsimp only;rw[tn _ [0,1,2,3] _ (by simp)];rfl
    .dsimp only at h8;subst h8;rw[qg (by decide),tw,qc,hp];dsimp only;rw[tn _ [13] _ (by simp),af (by decide),af (by decide),af (by decide),af (by decide),aj rfl,af (by decide)];simp only[cr,fY,mE,aY];rw[hz];rfl
    .dsimp only at h9;subst h9;rw[qf rfl,yt hX (by omega),qc];dsimp only;rw[yp hX (by omega) got hg,qc];dsimp only;rw[tw,qc,hp];dsimp only;rw[tn _ _ _ (by cases bt (val got (qw (wrap .i64 (val got 13-1)))) 1 6<;>simp)];have hw:wrap .i64 (val got 13-1)=val got 13-1:=qs (by omega) (by omega);have hrow:=vc (wrap .i64 (val got 13-1));rw[hw]at hrow;rw[af (by decide),af (by decide),af (by decide),af (by decide),aj rfl,af (by decide),af (by decide)];have Ab:(eP got 13).1=val got 13:=rfl;rw[Ab,hw];have hv2:(eP got (qw (val got 13-1))).1=val got (qw (val got 13-1)):=rfl;rw[hv2];generalize qw (val got 13-1)=p at *;have gW:0<=p/\p<=3:=by omega
     have nj:=nS (val got p);have b1:∀x,mE 9 (val got p) (val got 13) p x=x:=fun x=>by
      unfold mE;rw[af (by decide),aj rfl,af (by omega),af (by omega)]
     have b2:∀x,mE 9 (val got p) (val got 13) 13 x=wrap .i64 (x+1):=fun x=>by
      unfold mE;rw[af (by decide),aj rfl,aj rfl]
     cases hin:bt (val got p) 1 6
     .simp only[bg,cr,fY,b1,b2];rfl
     .have D9:=lq.1 hin;have b3:∀x,mE 9 (val got p) (val got 13) (fG (val got p)) x=val got 13:=fun x=>by
       unfold mE;rw[af (by decide),aj rfl,af (by omega),aj rfl]
      simp only[bz,cr,fY,b1,b2,b3];rfl
    .dsimp only at DC;subst DC;rw[qg (by decide),tw,qc,hp];dsimp only;rw[tn _ [13,fG V] _ (by simp)];simp[mE,same]
 .rw[qf (by omega),af (fun h=>hr h.2)];rfl
end
theorem Gy{α:Type}(key:α->Int):∀(L acc:List α)(z:α),z∈L.foldl (jZ key) acc↔z∈acc\/z∈L
 | [],acc,z=>by simp
 | e::L,acc,z=>by
  rw[nJ,Gy key L,HG,bk];constructor
  .rintro((h | h) | h)
   .exact .inr (.inl h)
   .exact .inl h
   .exact .inr (.inr h)
  .rintro(h | h | h)
   .exact .inl (.inr h)
   .exact .inl (.inl h)
   .exact .inr h
def BL(o:cH)(got:dK):Int:=if dF o=true then (run got (prog o)).2 else -1
section
variable {X:Ext} (hX:fI X) {n:Nat} {got:dK}
include hX
theorem aaC(hn:W+13<=n)(hg:got.length<=1048576)(o:cH):FW (DD X n) o got=some ((BL o got,()),()):=by
 obtain⟨n,rfl⟩:∃k,n=k+1:=⟨n-1,by omega⟩
 have hW:=ez;rw[aaq hX];simp only[FY,PE];obtain⟨b,e⟩:=RJ hX (n:=n) (by omega) hg o;obtain⟨k,K,V,⟨⟩⟩:=o;rw[VN hX (by omega),qc];dsimp only;unfold BL;cases ho:dF (k,K,V,())
 .rw[iN,aJ];rfl
 .rw[cQ,aN,e,qc,aj rfl]
end
end Go.G
namespace Go.G
open Go Go.V
abbrev jY:=List Int×Int×Int×Unit
def nv(c:jY):Prop:=c.1.length<=1048576/\0<=c.2.1/\c.2.1<=c.1.length
theorem A0(x:BitVec (IntKind.bits IntKind.i64)):0<=wrap .i64 ((BitVec.toNat (BitVec.and x (BitVec.ofInt (IntKind.bits IntKind.i64) 255)):Nat):Int)/\wrap .i64 ((BitVec.toNat (BitVec.and x (BitVec.ofInt (IntKind.bits IntKind.i64) 255)):Nat):Int)<=255:=by
 have h:BitVec.toNat (BitVec.and x (BitVec.ofInt (IntKind.bits IntKind.i64) 255))<=255:=by show BitVec.toNat (x &&&BitVec.ofInt (IntKind.bits IntKind.i64) 255)<=255;rw[BitVec.toNat_and];exact nK Nat.and_le_right (by decide)
 rw[qs (by omega) (by omega)];omega
theorem L_{X:Ext}(hX:fI X){n:Nat}(hn:1<=n){c:jY}(hc:nv c):∃(x:Int)(c':jY),0<=x/\x<=255/\nv c'/\Iw (DD X n) c=some ((x,()),(c',())):=by
 obtain⟨n,rfl⟩:∃k,n=k+1:=⟨n-1,by omega⟩
 obtain⟨h1,h2,h3⟩:=hc;rw[ahO hX];simp only[Y8,O4];by_cases h:c.2.1<(c.1.length:Int)
 .rw[qf h,fU h2 h,aJ,qs (x:=c.2.1+1) (by omega) (by omega)];refine⟨_,(c.1,c.2.1+1,_,()),(A0 _).1,(A0 _).2,⟨h1,?_,?_⟩,rfl⟩
  .show 0<=c.2.1+1;omega
  .show c.2.1+1<=(c.1.length:Int);omega
 .rw[qg h];have k:∀h u,nv (c.1,c.2.1,h,u):=fun _ _=>⟨h1,h2,h3⟩
  exact⟨_,_,(A0 _).1,(A0 _).2,k _ _,rfl⟩
theorem zw{X:Ext}(hX:fI X){n:Nat}(hn:2<=n){c:jY}(hc:nv c)(k:Int):∃(x:Int)(c':jY),(0<k->0<=x/\x<k)/\(k<=0->x=0)/\nv c'/\rT (DD X n) c k=some ((x,()),(c',())):=by
 obtain⟨n,rfl⟩:∃k,n=k+1:=⟨n-1,by omega⟩
 rw[ahs hX];simp only[Yz,OU];by_cases h:k<=0
 .rw[qf h];exact⟨0,c,fun h2=>by omega,fun _=>rfl,hc,rfl⟩
 .rw[qg h];by_cases h2:k<=256
  .obtain⟨x,c',x0,x1,KD,e⟩:=L_ hX (n:=n) (by omega) hc;rw[qf h2,e,qc];dsimp only;rw[qg (by omega)];refine⟨_,_,fun _=>?_,fun h3=>by omega,KD,rfl⟩;rw[H6 x0];exact⟨FB _ (by omega),Fc _ (by omega)⟩
  .obtain⟨x,c1,x0,x1,jJ,e1⟩:=L_ hX (n:=n) (by omega) hc;obtain⟨y,c2,y0,y1,g8,e2⟩:=L_ hX (n:=n) (by omega) jJ;obtain⟨z,c3,z0,z1,rO,e3⟩:=L_ hX (n:=n) (by omega) g8;obtain⟨w,c4,w0,w1,Wt,e4⟩:=L_ hX (n:=n) (by omega) rO;rw[qg h2,e1,qc];dsimp only;rw[e2,qc];dsimp only;rw[e3,qc];dsimp only;rw[e4,qc];dsimp only;rw[qg (by omega),qs (x:=x * 16777216) (by omega) (by omega),qs (x:=y * 65536) (by omega) (by omega),qs (x:=x * 16777216+y * 65536) (by omega) (by omega),
    qs (x:=z * 256) (by omega) (by omega),qs (x:=x * 16777216+y * 65536+z * 256) (by omega) (by omega),qs (x:=x * 16777216+y * 65536+z * 256+w) (by omega) (by omega)]
   refine⟨_,_,fun _=>?_,fun h3=>by omega,Wt,rfl⟩;rw[H6 (by omega)];exact⟨FB _ (by omega),Fc _ (by omega)⟩
theorem Pv{X:Ext}(hX:fI X){n:Nat}(hn:3<=n){c:jY}(hc:nv c)(l:List Int)(hl:0<l.length):∃(x:Int)(c':jY),x∈l/\nv c'/\Vo (DD X n) c l=some ((x,()),(c',())):=by
 obtain⟨n,rfl⟩:∃k,n=k+1:=⟨n-1,by omega⟩
 rw[afr hX];simp only[qv3,q93];obtain⟨x,c',h1,_,KD,e⟩:=zw hX (n:=n) (by omega) hc (l.length:Int);obtain⟨x0,x1⟩:=h1 (by omega);rw[e,qc];dsimp only;rw[fU x0 x1,aJ,qv (by omega)];exact⟨_,_,er _,KD,rfl⟩
theorem M_(D:Den ctx)(n:Nat){K0:List Int->Int->Option ((jY×Unit)×Unit)}(a:List Int)(ha:a.length<=1048576):∀(m i:Nat)(h:Int),i<=a.length->a.length-i<m->∃h':Int,Tn D n K0 m a h i=K0 a h'
 | 0,_,_,_,h=>by omega
 | m+1,i,h,hi,hf=>by
  simp only[Tn,Zu];by_cases h1:i<a.length
  .by_cases h2:(i:Int)<4000
   .rw[bC (by omega:(i:Int)<(a.length:Int)),bz,qf h2,bC (by omega:(0:Int)<=(i:Int)),FJ,aJ,qu (by omega)];exact M_ D n a ha m (i+1) _ (by omega) (by omega)
   .rw[bC (by omega:(i:Int)<(a.length:Int)),bz,qg h2];exact⟨h,rfl⟩
  .rw[b8 (by omega:¬ (i:Int)<(a.length:Int)),bg,aN];exact⟨h,rfl⟩
theorem ajt{X:Ext}(hX:fI X){n:Nat}(hn:W+1<=n)(a:List Int)(ha:a.length<=1048576):∃c:jY,nv c/\ZZ (DD X n) a=some ((c,()),()):=by
 obtain⟨n,rfl⟩:∃k,n=k+1:=⟨n-1,by omega⟩
 have hW:=ez;rw[aiB hX];simp only[q8i,q92,YW];obtain⟨h',e⟩:=M_ (DD X n) n (K0:=fun v w=>Ov (DD X n) n v w) a ha n 0 (wrap .i64 (27323+(a.length:Int))) (by omega) (by omega);rw[show((0:Nat):Int)=0 from rfl]at e;exact⟨(a,0,h',()),⟨ha,by show(0:Int)<=0;omega,by show(0:Int)<=(a.length:Int);omega⟩,e⟩
theorem akf{X:Ext}(hX:fI X){n:Nat}(hn:1<=n)(a:List Int):Gd (DD X n) a=some ((decide ((a.length:Int)>1048576),()),()):=by
 obtain⟨n,rfl⟩:∃k,n=k+1:=⟨n-1,by omega⟩
 rw[aa5 hX];rfl
open Go.Proofs
abbrev qp:=List Int×Int×Unit
def aU(v:Int):List Int->Nat->Int
 | [],_=>-1
 | x::l,i=>if x=v then (i:Int) else aU v l (i+1)
theorem Mj(v:Int):∀(l:List Int)(i:Nat),aU v l i<0->v∉l
 | [],i,_=>by simp
 | x::l,i,h=>by
  simp only[aU]at h;by_cases e:x=v
  .rw[aj e]at h;omega
  .rw[af e]at h;have:=Mj v l (i+1) h;intro hm;rcases bk.1 hm with k | k
   .exact e k.symm
   .exact this k
theorem Jk(v:Int):∀(l:List Int)(i k:Nat),l[k]? = some v->(∀j<k,l[j]?≠some v)->aU v l i=((i+k:Nat):Int)
 | [],i,k,h,_=>by simp at h
 | x::l,i,0,h,_=>by
  simp only[Ft,aK]at h;simp only[aU];rw[aj h];rfl
 | x::l,i,k+1,h,hj=>by
  simp only[List.getElem?_cons_succ]at h;simp only[aU];rw[af (by have:=hj 0 (by omega);simp only[Ft,ne_eq,aK]at this;exact this),Jk v l (i+1) k h (fun j h2=>by have:=hj (j+1) (by omega);simpa using this)];congr 1;omega
structure aS (r:qp):Prop where
 len:r.1.length=4
 dM:∀x∈r.1,0<=x/\x<=6
 once:∀i j:Nat,i<j->∀v,r.1[i]? = some v->r.1[j]? = some v->v=0
 st:0<=r.2.1/\r.2.1<=5
section
variable {X:Ext} (hX:fI X) {n:Nat}
include hX
theorem M8(D:Den ctx)(n:Nat)(K0:Int->Option ((Int×Unit)×Unit))(K1:Option ((Int×Unit)×Unit))(hK:K0 (-1)=K1)(r:qp)(hr:r.1.length<=1000)(v:Int):∀(m i:Nat),i<=r.1.length->r.1.length-i<m->
  Tu D n K0 K1 m v (i:Int) r=K0 (aU v (r.1.drop i) i)
 | 0,_,_,h=>by omega
 | m+1,i,hi,hf=>by
  simp only[Tu,ZK];by_cases h:i<r.1.length
  .rw[qf (by omega),ix h,aJ,eB,qv h,uS h];simp only[aU];by_cases e:r.1[i]=v
   .rw[qf e,aj e]
   .rw[qg e,af e,qu (by omega)];exact M8 D n K0 K1 hK r hr v m (i+1) (by omega) (by omega)
  .rw[qg (by omega),uX h];exact hK.symm
theorem Pw(hn:W+1<=n)(r:qp)(hr:r.1.length<=1000)(v:Int):VQ (DD X n) r v=some ((aU v r.1 0,()),()):=by
 obtain⟨n,rfl⟩:∃k,n=k+1:=⟨n-1,by omega⟩
 have hW:=ez;rw[aiu hX];simp only[Z6,q9u,YE];have e:=M8 hX (DD X n) n (fun bT=>N_ (DD X n) n bT) (Oc (DD X n) n) rfl r hr v n 0 (by omega) (by omega);rw[show((0:Nat):Int)=0 from rfl]at e;rw[e];rfl
theorem G7(N n:Nat)(hN:W+2<=N)(K0:Bool->qp->Option ((Bool×Unit)×Unit))(K1:qp->Option ((Bool×Unit)×Unit)){r:qp}(hr:aS r):∀(m i:Nat),i<=r.1.length->r.1.length-i<m->
  Ti (DD X N) n K0 K1 m (i:Int) r=K1 r
 | 0,_,_,h=>by omega
 | m+1,i,hi,hf=>by
  have hl:=hr.len;have hW:=ez;simp only[Ti,YK];by_cases h:i<r.1.length
  .rw[qf (by omega),ix h,aJ,eB,qv h];by_cases e:r.1[i]=0
   .rw[cM,bC e,cQ,aN,qu (by omega)];exact G7 N n hN K0 K1 hr m (i+1) (by omega) (by omega)
   .have hv:=hr.dM r.1[i] (er h);rw[cM,b8 e,iN,aJ,aJ,J6 hX (by omega),qc];dsimp only;rw[lq.2 (by omega),cQ,aN,aJ,Pw hX (by omega) r (by omega),qc];dsimp only;have hk:aU r.1[i] r.1 0=(i:Int):=by rw[Jk r.1[i] r.1 0 i (gP h) (fun j hj hc=>e (hr.once j i hj _ hc (gP h)))];congr 1;omega
    rw[hk,cM,bC rfl,cQ,aN,qu (by omega)];exact G7 N n hN K0 K1 hr m (i+1) (by omega) (by omega)
  .rw[qg (by omega)]
theorem Pf(hn:W+3<=n){r:qp}(hr:aS r):VH (DD X n) r=some ((true,()),()):=by
 obtain⟨n,rfl⟩:∃k,n=k+1:=⟨n-1,by omega⟩
 have hW:=ez;have hl:=hr.len;rw[ahM hX];simp only[Y6,Zs,qzo];have e:=G7 hX n n (by omega) (fun bT dU=>q90 (DD X n) n bT dU) (fun sV=>qwq (DD X n) n sV) hr n 0 (by omega) (by omega);rw[show((0:Nat):Int)=0 from rfl]at e;rw[e];simp only[qwq];rw[qf (by omega),yF hX (by omega),qc,lq.2 hr.st]
theorem Gx(N n:Nat)(hN:W+2<=N)(K0:jY->qp->qp->Option ((qp×Unit)×(jY×Unit)))(z:qp):∀(m i:Nat)(c:jY)(r:qp),nv c->aS r->i<=4->4-i<m->
  ∃(c':jY)(r':qp),nv c'/\aS r'/\SQ (DD X N) n K0 m (i:Int) c z r=K0 c' z r'
 | 0,_,_,_,_,_,_,h=>by omega
 | m+1,i,c,r,hc,hr,hi,hf=>by
  have hl:=hr.len;have hW:=ez;simp only[SQ,qq1];by_cases h:i<4
  .obtain⟨x,c1,h1,_,jJ,e1⟩:=zw hX (n:=N) (by omega) hc 7;obtain⟨x0,x1⟩:=h1 (by omega);rw[qf (by omega),e1,qc];dsimp only;rw[show(r.1,r.2)=r from rfl,Pw hX (by omega) r (by omega),qc];dsimp only;by_cases hk:aU x r.1 0<0
   .have hnot:=Mj x r.1 0 hk;rw[qf hk,fU (by omega) (by omega),aJ,qu (by omega),eB];have zi:aS (r.1.set i x,r.2):=by
     refine⟨by show(r.1.set i x).length=4;rw[b6];exact hl,fun y hy=>?_,fun a b hab v ha hb=>?_,hr.st⟩
     .rcases H7 hy with hy | rfl
      .exact hr.dM y hy
      .omega
     .simp only[jU]at ha hb;by_cases ea:i=a
      .rw[aj ea]at ha;rw[af (by omega)]at hb;split at ha
       .simp only[aK]at ha;subst ha;exact absurd (mS.2 ⟨b,hb⟩) hnot
       .simp at ha
      .rw[af ea]at ha;by_cases eb:i=b
       .rw[aj eb]at hb;split at hb
        .simp only[aK]at hb;subst hb;exact absurd (mS.2 ⟨a,ha⟩) hnot
        .simp at hb
       .rw[af eb]at hb;exact hr.once a b hab v ha hb
    exact Gx N n hN K0 z m (i+1) c1 (r.1.set i x,r.2) jJ zi (by omega) (by omega)
   .rw[qg hk,qu (by omega)];exact Gx N n hN K0 z m (i+1) c1 r jJ hr (by omega) (by omega)
  .rw[qg (by omega)];exact⟨c,r,hc,hr,rfl⟩
theorem ahU(hn:W+3<=n){c:jY}(hc:nv c):∃(r:qp)(c':jY),aS r/\(r.2.1=0\/r.2.1=1\/r.2.1=3\/r.2.1=5)/\nv c'/\qrr (DD X n) c=some ((r,()),(c',())):=by
 obtain⟨n,rfl⟩:∃k,n=k+1:=⟨n-1,by omega⟩
 have hW:=ez;have hnew:Ya (DD X n)=some ((((List.replicate (Int.toNat 4) 0,0,()):qp),()),()):=by
  obtain⟨n,rfl⟩:∃k,n=k+1:=⟨n-1,by omega⟩
  rw[ag0 hX];rfl
 rw[ael hX];simp only[qrx,qs2,qpe];rw[hnew,qc];dsimp only;have h0:aS ((List.replicate (Int.toNat 4) 0,0,()):qp):=by
  refine⟨rfl,fun x hx=>?_,fun i j hij v hi hj=>?_,by show(0:Int)<=0/\(0:Int)<=5;omega⟩
  .have:=(List.mem_replicate.1 hx).2;omega
  .simp only[vC]at hi;split at hi
   .simp only[aK]at hi;exact hi.symm
   .simp at hi
 obtain⟨c',r',h1,h2,e⟩:=Gx hX n n (by omega) (fun bT dU iX=>qn7 (DD X n) n bT dU iX) ([],0,()) n 0 c _ hc h0 (by omega) (by omega);rw[show((0:Nat):Int)=0 from rfl]at e;rw[e];simp only[qn7];obtain⟨s,c2,hs,g8,e2⟩:=Pv hX (n:=n) (by omega) h1 [0,0,1,3,5] (by simp);rw[e2,qc];have lN:s=0\/s=1\/s=3\/s=5:=by simp only[bk,c_,dg]at hs;omega
 exact⟨(r'.1,s,()),c2,⟨h2.len,h2.dM,h2.once,by show 0<=s/\s<=5;omega⟩,lN,g8,rfl⟩
end
def HE(ws:List Int):Prop:=ws.length=20/\∀x∈ws,0<=x/\x<=1000
theorem HE.set{ws:List Int}(h:HE ws)(i:Nat){x:Int}(hx:0<=x/\x<=1000):HE (ws.set i x):=
 ⟨by rw[b6];exact h.1,fun y hy=>by
  rcases H7 hy with q | rfl
  .exact h.2 y q
  .exact hx⟩
def many(c:Int):List Int->Int
 | []=>0
 | x::l=>(bif bt x 1 6&&decide (qh x=c) then 1 else 0)+many c l
theorem JB(c:Int):∀l,0<=many c l/\many c l<=(l.length:Int)
 | []=>⟨by simp[many],by simp[many]⟩
 | x::l=>by
  have:=JB c l;simp only[many,cq];cases bt x 1 6&&decide (qh x=c)<;>simp only[bz,bg]<;>omega
section
variable {X:Ext} (hX:fI X) {n:Nat}
include hX
theorem ME(hn:1<=n)(b:Bool):TB (DD X n) b=some ((bif b then 1 else 0,()),()):=by
 obtain⟨n,rfl⟩:∃k,n=k+1:=⟨n-1,by omega⟩
 rw[aiA hX];cases b<;>rfl
theorem Ih(N n:Nat)(hN:4<=N)(K:Int->Option ((Int×Unit)×Unit))(r:qp)(hr:r.1.length<=1000)(c:Int):∀(m i:Nat)(a:Int),i<=r.1.length->r.1.length-i<m->0<=a/\a<=i->
  Td (DD X N) n K m c a (i:Int) r=K (a+many c (r.1.drop i))
 | 0,_,_,_,h,_=>by omega
 | m+1,i,a,hi,hf,ha=>by
  simp only[Td,qzh];by_cases h:i<r.1.length
  .rw[qf (by omega),ix h,aJ,eB,qv h,J6 hX (by omega),qc,uS h];simp only[many];cases hv:bt r.1[i] 1 6
   .rw[aN,ME hX (by omega),qc];dsimp only;rw[bg,qs (by omega) (by omega),qu (by omega),Ih N n hN K r hr c m (i+1) _ (by omega) (by omega) (by omega)];congr 1;simp only[Bool.false_and,bg];omega
   .rw[aJ,aJ,aaD hX (by omega),qc];dsimp only;rw[ME hX (by omega),qc];dsimp only;have hb:0<=(bif decide (qh r.1[i]=c) then (1:Int) else 0)/\(bif decide (qh r.1[i]=c) then (1:Int) else 0)<=1:=by cases decide (qh r.1[i]=c)<;>simp
    rw[qs (by omega) (by omega),qu (by omega),Ih N n hN K r hr c m (i+1) _ (by omega) (by omega) (by omega)];congr 1;simp only[qW];omega
  .rw[qg (by omega),uX h];congr 1;simp[many]
theorem aim(hn:W+1<=n)(r:qp)(hr:r.1.length<=1000)(c:Int):X9 (DD X n) r c=some ((many c r.1,()),()):=by
 obtain⟨n,rfl⟩:∃k,n=k+1:=⟨n-1,by omega⟩
 have hW:=ez;rw[agY hX];simp only[Yw,YD,qwo];have e:=Ih hX n n (by omega) (fun bT=>q6w (DD X n) n bT) r hr c n 0 0 (by omega) (by omega) (by omega);rw[show((0:Nat):Int)=0 from rfl,jV,Int.zero_add]at e;rw[e];rfl
end
section
variable {X:Ext} (hX:fI X) {n:Nat}
include hX
theorem ail(hn:6<=n){c:jY}(hc:nv c):∃(o:cH)(c':jY),nv c'/\dF o=true/\qrs (DD X n) c=some ((o,()),(c',())):=by
 obtain⟨n,rfl⟩:∃k,n=k+1:=⟨n-1,by omega⟩
 rw[aem hX];simp only[qry,q4a];obtain⟨k,c1,hk,jJ,e1⟩:=Pv hX (n:=n) (by omega) hc [1,1,1,2,2,3,4,5,6,7,8,9,9,10] (by simp);have hk2:k=1\/k=2\/k=3\/k=4\/k=5\/k=6\/k=7\/k=8\/k=9\/k=10:=by simp only[bk,c_,dg]at hk;omega
 obtain⟨x,c2,h2,_,g8,e2⟩:=zw hX (n:=n) (by omega) jJ 4;obtain⟨y,c3,h3,_,rO,e3⟩:=zw hX (n:=n) (by omega) g8 4;obtain⟨z,c4,h4,_,Wt,e4⟩:=zw hX (n:=n) (by omega) jJ 3;obtain⟨x0,x1⟩:=h2 (by omega);obtain⟨y0,y1⟩:=h3 (by omega);obtain⟨z0,z1⟩:=h4 (by omega);have UB:bt x 0 3=true:=lq.2 (by omega);have iz:bt z 0 2=true:=lq.2 (by omega);have wy:wrap .i64 (1+y)=1+y:=qs (by omega) (by omega);have wx:wrap .i64 (1+x)=1+x:=qs (by omega) (by omega);have iy:bt (1+y) 1 6=true:=lq.2 (by omega);have ix6:bt (1+x) 1 6=true:=lq.2 (by omega);simp only[show(List.set (List.set (List.set (List.set (List.set (List.set (List.set (List.set (List.set (List.set (List.set (List.set (List.set (List.set (List.replicate 14 (0:Int)) 0 1) 1 1) 2 1) 3 2) 4 2) 5 3) 6 4) 7 5) 8 6) 9 7) 10 8) 11 9) 12 9) 13 10)=[1,1,1,2,2,3,4,5,6,7,8,9,9,10] from rfl];rw[e1,qc];dsimp only;rw[MF hX (by omega),qc];dsimp only;rcases hk2 with rfl | rfl | rfl | rfl | rfl | rfl | rfl | rfl | rfl | rfl
 .rw[show bt 1 1 4=true from rfl,aJ,e2,qc];dsimp only;rw[qg (by decide),yA hX (by omega),qc];dsimp only;rw[show(bif bif bif decide ((1:Int)=1) then true else decide ((1:Int)=2) then true else decide ((1:Int)=5) then true else decide ((1:Int)=10))=true from rfl,aJ,e3,qc,wy];exact⟨_,_,rO,by show(bt x 0 3&&bt (1+y) 1 6)=true;rw[UB,iy];rfl,rfl⟩
 .rw[show bt 2 1 4=true from rfl,aJ,e2,qc];dsimp only;rw[qg (by decide),yA hX (by omega),qc];dsimp only;rw[show(bif bif bif decide ((2:Int)=1) then true else decide ((2:Int)=2) then true else decide ((2:Int)=5) then true else decide ((2:Int)=10))=true from rfl,aJ,e3,qc,wy];exact⟨_,_,rO,by show(bt x 0 3&&bt (1+y) 1 6)=true;rw[UB,iy];rfl,rfl⟩
 .rw[show bt 3 1 4=true from rfl,aJ,e2,qc];dsimp only;rw[qg (by decide),yA hX (by omega),qc];dsimp only;rw[show(bif bif bif decide ((3:Int)=1) then true else decide ((3:Int)=2) then true else decide ((3:Int)=5) then true else decide ((3:Int)=10))=false from rfl,aN];exact⟨_,_,g8,by show(bt x 0 3&&true)=true;rw[UB];rfl,rfl⟩
 .rw[show bt 4 1 4=true from rfl,aJ,e2,qc];dsimp only;rw[qg (by decide),yA hX (by omega),qc];dsimp only;rw[show(bif bif bif decide ((4:Int)=1) then true else decide ((4:Int)=2) then true else decide ((4:Int)=5) then true else decide ((4:Int)=10))=false from rfl,aN];exact⟨_,_,g8,by show(bt x 0 3&&true)=true;rw[UB];rfl,rfl⟩
 .rw[show bt 5 1 4=false from rfl,aN,qg (by decide),yA hX (by omega),qc];dsimp only;rw[show(bif bif bif decide ((5:Int)=1) then true else decide ((5:Int)=2) then true else decide ((5:Int)=5) then true else decide ((5:Int)=10))=true from rfl,aJ,e2,qc,wx];exact⟨_,_,g8,by show(true&&bt (1+x) 1 6)=true;rw[ix6];rfl,rfl⟩
 .rw[show bt 6 1 4=false from rfl,aN,qf rfl,e4,qc];dsimp only;rw[yA hX (by omega),qc];dsimp only;rw[show(bif bif bif decide ((6:Int)=1) then true else decide ((6:Int)=2) then true else decide ((6:Int)=5) then true else decide ((6:Int)=10))=false from rfl,aN];exact⟨_,_,Wt,by show(bt z 0 2&&true)=true;rw[iz];rfl,rfl⟩
 .rw[show bt 7 1 4=false from rfl,aN,qg (by decide),yA hX (by omega),qc];exact⟨_,_,jJ,rfl,rfl⟩
 .rw[show bt 8 1 4=false from rfl,aN,qg (by decide),yA hX (by omega),qc];exact⟨_,_,jJ,rfl,rfl⟩
 .rw[show bt 9 1 4=false from rfl,aN,qg (by decide),yA hX (by omega),qc];exact⟨_,_,jJ,rfl,rfl⟩
 .rw[show bt 10 1 4=false from rfl,aN,qg (by decide),yA hX (by omega),qc];dsimp only;rw[show(bif bif bif decide ((10:Int)=1) then true else decide ((10:Int)=2) then true else decide ((10:Int)=5) then true else decide ((10:Int)=10))=true from rfl,aJ,e2,qc,wx];exact⟨_,_,g8,by show(true&&bt (1+x) 1 6)=true;rw[ix6];rfl,rfl⟩
end
theorem ac6{k V row owner st cnt:Int}{x:Int×List Int}(h:jM k V row owner st cnt=some x):x.2.length<=1:=by
 unfold jM at h;by_cases c0:k=1/\row≠0
 .rw[aj c0]at h;cases h;simp
 rw[af c0]at h;by_cases c1:k=1/\owner≠0
 .rw[aj c1]at h;cases h;simp
 rw[af c1]at h;by_cases c2:(k=2\/k=3\/k=4)/\row=0
 .rw[aj c2]at h;cases h;simp
 rw[af c2]at h;by_cases c3:k=2/\row=V
 .rw[aj c3]at h;cases h;simp
 rw[af c3]at h;by_cases c4:k=2/\owner≠0
 .rw[aj c4]at h;cases h;simp
 rw[af c4]at h;by_cases c5:k=4
 .rw[aj c5]at h;cases h;simp
 rw[af c5]at h;by_cases c6:k=5/\owner=0
 .rw[aj c6]at h;cases h;simp
 rw[af c6]at h;by_cases c7:k=5
 .rw[aj c7]at h;cases h;simp
 rw[af c7]at h;by_cases c8:k=6
 .rw[aj c8]at h;cases h;simp
 rw[af c8]at h;by_cases c9:k=8/\st≠0
 .rw[aj c9]at h;cases h;simp
 rw[af c9]at h;by_cases c10:k=9/\(st<1\/st>4)
 .rw[aj c10]at h;cases h;simp
 rw[af c10]at h;by_cases c11:k=10/\st≠5
 .rw[aj c11]at h;cases h;simp
 rw[af c11]at h;cases h
theorem abI(o:cH)(got:dK):(gh o got).1.2.1.2.1.length<=20/\(gh o got).1.2.2.1.length<=20:=by
 unfold gh;split
 .cases hn:mK o got with
  | some x=>have:=ac6 hn;exact⟨by show x.2.length<=20;omega,by show(0:Nat)<=20;omega⟩
  | none=>
   refine⟨?_,?_⟩
   .show(eE o got).2.1.length<=20;unfold eE
    repeat' split
    all_goals simp
   .show(dz o got).length<=20;unfold dz;split
    .rw[QC];have:=nK (Hg got (eY o.2.1 o.2.2.1 (val got (qw o.2.1)) (val got 13))) (RP _ _ _ _);simp only[gy];omega
    .repeat' split
     .simp
     .simp
     .cases bt (val got (qw (wrap .i64 (val got 13-1)))) 1 6<;>simp
     .simp
     .simp
 .exact⟨by show(0:Nat)<=20;omega,by show(0:Nat)<=20;omega⟩
section
variable {X:Ext} (hX:fI X) {n:Nat}
include hX
end
theorem pK(l:List Int)(i j:Nat)(x:Int)(h:i<l.length):(l.set i x).getD j 0=if j=i then x else l.getD j 0:=by
 simp only[List.getD,jU];by_cases e:i=j
 .subst e;rw[aj rfl,aj h,aj rfl];rfl
 .rw[af e,af (fun k=>e k.symm)]
theorem Mi(v:Int):∀(l:List Int)(i k:Nat),aU v l i=(k:Int)->i<=k/\l[k-i]? = some v
 | [],i,k,h=>by simp only[aU]at h;omega
 | x::l,i,k,h=>by
  simp only[aU]at h;by_cases e:x=v
  .rw[aj e]at h;have:i=k:=by omega
   subst this;refine⟨ck _,?_⟩;rw[Nat.sub_self,e];rfl
  .rw[af e]at h;obtain⟨h1,h2⟩:=Mi v l (i+1) k h;refine⟨by omega,?_⟩;rw[show k-i=(k-(i+1))+1 by omega];exact h2
theorem rZ(v:Int):∀(l:List Int)(i:Nat),-1<=aU v l i/\aU v l i<(i+l.length:Nat)
 | [],i=>by simp only[aU,gy];omega
 | x::l,i=>by
  have:=rZ v l (i+1);simp only[aU,cq];split<;>omega
def jx(v:Int)(h:List Int)(i:Int)(st:Int):Int:=if 0<=aU v h 0/\aU v h 0<i/\aU v h 0<st-1 then aU v h 0+1 else 0
def o4(v:Int)(h:List Int)(i:Int):Int:=if 0<=aU v h 0/\aU v h 0<i then aU v h 0+1 else 0
def wg(r:qp)(i p:Nat):Int:=
 if p<4 then (if p<i then r.1.getD p 0 else 0) else if p<10 then o4 ((p:Int)-3) r.1 i else if p<14 then 0 else jx ((p:Int)-13) r.1 i r.2.1
def jQ(r:qp)(p:Nat):Int:=
 if p<4 then r.1.getD p 0 else if p<10 then o4 ((p:Int)-3) r.1 4 else if p<13 then many ((p:Int)-10) r.1 else if p=13 then r.2.1 else jx ((p:Int)-13) r.1 4 r.2.1
section
variable {X:Ext} (hX:fI X) {n:Nat}
include hX
theorem Rb{r:qp}(hr:aS r){i:Nat}(hi:i<4)(hi2:i<r.1.length)(p:Nat)(hp:p<20) :
  wg r (i+1) p=if p<4 then (if p=i then r.1[i] else wg r i p) else if r.1[i]≠0/\(p:Int)=3+r.1[i] then (i:Int)+1 else
   if r.1[i]≠0/\(p:Int)=13+r.1[i]/\(i:Int)<r.2.1-1 then (i:Int)+1 else wg r i p:=by
 have hx:=hr.dM r.1[i] (er hi2);have hkey:r.1[i]≠0->aU r.1[i] r.1 0=(i:Int):=fun e=>by
  rw[Jk r.1[i] r.1 0 i (gP hi2) (fun j hj hc=>e (hr.once j i hj _ hc (gP hi2)))];congr 1;omega
 have cX:∀v:Int,v≠r.1[i]->aU v r.1 0≠(i:Int):=fun v hv hc=>by
  obtain⟨_,h2⟩:=Mi v r.1 0 i hc;rw[BH,gP hi2]at h2;exact hv (gS h2).symm
 unfold wg;by_cases h4:p<4
 .simp only[aj h4];by_cases e:p=i
  .subst e;simp only[aj (show p<p+1 by omega),aY,qv hi2]
  .simp only[af e];by_cases e2:p<i
   .simp only[aj e2,aj (show p<i+1 by omega)]
   .simp only[af e2,af (show ¬ p<i+1 by omega)]
 simp only[af h4];by_cases DC:p<10
 .have XB:¬ (r.1[i]≠0/\(p:Int)=13+r.1[i]/\(i:Int)<r.2.1-1):=by omega
  simp only[aj DC,af XB];unfold o4;by_cases e:r.1[i]≠0/\(p:Int)=3+r.1[i]
  .simp only[aj e];rw[show(p:Int)-3=r.1[i] by omega,hkey e.1,aj (by omega)]
  .simp only[af e];have hk:aU ((p:Int)-3) r.1 0≠(i:Int):=by
    by_cases q:(p:Int)-3=r.1[i]
    .exact absurd ⟨by omega,by omega⟩ e
    .exact cX _ q
   by_cases c:0<=aU ((p:Int)-3) r.1 0/\aU ((p:Int)-3) r.1 0<(i:Int)
   .simp only[aj c,aj (show 0<=aU ((p:Int)-3) r.1 0/\aU ((p:Int)-3) r.1 0<((i+1:Nat):Int) by omega)]
   .simp only[af c,af (show ¬ (0<=aU ((p:Int)-3) r.1 0/\aU ((p:Int)-3) r.1 0<((i+1:Nat):Int)) by omega)]
 have n3:¬ (r.1[i]≠0/\(p:Int)=3+r.1[i]):=by omega
 simp only[af DC,af n3];by_cases Kt:p<14
 .have XB:¬ (r.1[i]≠0/\(p:Int)=13+r.1[i]/\(i:Int)<r.2.1-1):=by omega
  simp only[aj Kt,af XB]
 simp only[af Kt];unfold jx;by_cases e:r.1[i]≠0/\(p:Int)=13+r.1[i]
 .rw[show(p:Int)-13=r.1[i] by omega,hkey e.1];by_cases c:(i:Int)<r.2.1-1
  .simp only[aj (show 0<=(i:Int)/\(i:Int)<((i+1:Nat):Int)/\(i:Int)<r.2.1-1 by omega),aj (show r.1[i]≠0/\(p:Int)=13+r.1[i]/\(i:Int)<r.2.1-1 from⟨e.1,e.2,c⟩)]
  .simp only[af (show ¬ (0<=(i:Int)/\(i:Int)<((i+1:Nat):Int)/\(i:Int)<r.2.1-1) by omega),af (show ¬ (r.1[i]≠0/\(p:Int)=13+r.1[i]/\(i:Int)<r.2.1-1) from fun k=>c k.2.2),af (show ¬ (0<=(i:Int)/\(i:Int)<(i:Int)/\(i:Int)<r.2.1-1) by omega)]
 .simp only[af (show ¬ (r.1[i]≠0/\(p:Int)=13+r.1[i]/\(i:Int)<r.2.1-1) from fun k=>e ⟨k.1,k.2.1⟩)];have hk:aU ((p:Int)-13) r.1 0≠(i:Int)\/(p:Int)-13=0:=by
   by_cases q:(p:Int)-13=r.1[i]
   .by_cases z:r.1[i]=0
    .exact .inr (by omega)
    .exact absurd ⟨z,by omega⟩ e
   .exact .inl (cX _ q)
  by_cases c:0<=aU ((p:Int)-13) r.1 0/\aU ((p:Int)-13) r.1 0<(i:Int)/\aU ((p:Int)-13) r.1 0<r.2.1-1
  .simp only[aj c,aj (show 0<=aU ((p:Int)-13) r.1 0/\aU ((p:Int)-13) r.1 0<((i+1:Nat):Int)/\aU ((p:Int)-13) r.1 0<r.2.1-1 by omega)]
  .simp only[af c,af (show ¬ (0<=aU ((p:Int)-13) r.1 0/\aU ((p:Int)-13) r.1 0<((i+1:Nat):Int)/\aU ((p:Int)-13) r.1 0<r.2.1-1) by omega)]
theorem AG(N n:Nat)(hN:4<=N)(K:qp->List Int->Option ((List Int×Unit)×Unit)){r:qp}(hr:aS r):∀(m i:Nat)(ws:List Int),i<=4->4-i<m->ws.length=20->(∀p<20,ws.getD p 0=wg r i p)->
  ∃yU,yU.length=20/\(∀p<20,yU.getD p 0=wg r 4 p)/\Te (DD X N) n K m (i:Int) r ws=K r yU
 | 0,_,_,_,h,_,_=>by omega
 | m+1,i,ws,hi,hf,mU,hw=>by
  have hl:=hr.len;have hst:=hr.st;simp only[Te,qzs];by_cases h:i<4
  .have hi2:i<r.1.length:=by omega
   have hv:=hr.dM r.1[i] (er hi2);have hrow:qw (i:Int)=i:=by unfold qw;rw[lq.2 (by omega)];rfl
   have hps:=Rb hX hr h hi2;rw[qf (by omega),ix hi2,aJ,eB,qv hi2,abu hX (by omega),qc,hrow];dsimp only;rw[fU (by omega) (by rw[mU];omega),aJ,eB];by_cases h0:r.1[i]=0
   .rw[qf h0,qu (by omega)];refine AG N n hN K hr m (i+1) _ (by omega) (by omega) (by rw[b6];exact mU) (fun p hp=>?_);rw[hps p hp,pK _ _ _ _ (by omega)];by_cases e:p=i
    .rw[aj e,aj (by omega),aj e]
    .rw[af e,hw p hp,af e];rw[af (show ¬ (r.1[i]≠0/\(p:Int)=3+r.1[i]) from fun k=>k.1 h0),af (show ¬ (r.1[i]≠0/\(p:Int)=13+r.1[i]/\(i:Int)<r.2.1-1) from fun k=>k.1 h0)];split<;>rfl
   .rw[qg h0,aaF hX (by omega),qc];dsimp only;have ho:=tE r.1[i];have hvi:=nS r.1[i];have nY:q9 r.1[i]=3+r.1[i]:=by omega
    have D8:fG r.1[i]=13+r.1[i]:=by omega
    have qF:wrap .i64 (r.2.1-1)=r.2.1-1:=qs (by omega) (by omega);rw[fU (by omega) (by rw[b6,mU];omega),aJ,qu (by omega),qF,nY];by_cases hs:(i:Int)<r.2.1-1
    .rw[qf hs,abv hX (by omega),qc];dsimp only;rw[fU (by omega) (by rw[b6,b6,mU];omega),aJ,D8];refine AG N n hN K hr m (i+1) _ (by omega) (by omega) (by rw[b6,b6,b6];exact mU) (fun p hp=>?_);rw[hps p hp,pK _ _ _ _ (by rw[b6,b6,mU];omega),pK _ _ _ _ (by rw[b6,mU];omega),pK _ _ _ _ (by omega),hw p hp];by_cases e3:p=(13+r.1[i]).toNat
     .rw[aj e3,af (by omega),af (by omega),aj ⟨h0,by omega,hs⟩];omega
     rw[af e3];by_cases e2:p=(3+r.1[i]).toNat
     .rw[aj e2,af (by omega),aj ⟨h0,by omega⟩];omega
     rw[af e2];by_cases e:p=i
     .simp only[aj e,aj (show p<4 by omega)]
     .simp only[af e];rw[af (show ¬ (r.1[i]≠0/\(p:Int)=3+r.1[i]) by omega),af (show ¬ (r.1[i]≠0/\(p:Int)=13+r.1[i]/\(i:Int)<r.2.1-1) by omega)];split<;>rfl
    .rw[qg hs];refine AG N n hN K hr m (i+1) _ (by omega) (by omega) (by rw[b6,b6];exact mU) (fun p hp=>?_);rw[hps p hp,pK _ _ _ _ (by rw[b6,mU];omega),pK _ _ _ _ (by omega),hw p hp];rw[af (show ¬ (r.1[i]≠0/\(p:Int)=13+r.1[i]/\(i:Int)<r.2.1-1) by omega)];by_cases e2:p=(3+r.1[i]).toNat
     .rw[aj e2,af (by omega),aj ⟨h0,by omega⟩];omega
     rw[af e2];by_cases e:p=i
     .simp only[aj e,aj (show p<4 by omega)]
     .simp only[af e];rw[af (show ¬ (r.1[i]≠0/\(p:Int)=3+r.1[i]) by omega)];split<;>rfl
  .rw[qg (by omega)];have:i=4:=by omega
   subst this;exact⟨ws,mU,hw,rfl⟩
def wB(r:qp)(i p:Nat):Int:=if 10<=p/\p<10+i then many ((p:Int)-10) r.1 else wg r 4 p
theorem Q0(N n:Nat)(hN:W+4<=N)(K:qp->List Int->Option ((List Int×Unit)×Unit)){r:qp}(hr:aS r):∀(m i:Nat)(ws:List Int),i<=3->3-i<m->ws.length=20->(∀p<20,ws.getD p 0=wB r i p)->
  ∃yU,yU.length=20/\(∀p<20,yU.getD p 0=wB r 3 p)/\Tf (DD X N) n K m (i:Int) r ws=K r yU
 | 0,_,_,_,h,_,_=>by omega
 | m+1,i,ws,hi,hf,mU,hw=>by
  have hl:=hr.len;have hW:=ez;simp only[Tf,qzt];by_cases h:i<3
  .have hc:=uW (i:Int);have g8:iR (i:Int)=10+i:=by omega
   rw[qf (by omega),aaE hX (by omega),qc];dsimp only;rw[aim hX (by omega) r (by omega),qc];dsimp only;rw[fU (by omega) (by rw[mU];omega),aJ,qu (by omega),g8];refine Q0 N n hN K hr m (i+1) _ (by omega) (by omega) (by rw[b6];exact mU) (fun p hp=>?_);rw[pK _ _ _ _ (by omega),hw p hp];unfold wB;by_cases e:p=(10+(i:Int)).toNat
   .rw[aj e,aj (by omega),show(p:Int)-10=i by omega]
   .rw[af e];by_cases c:10<=p/\p<10+i
    .rw[aj c,aj (by omega)]
    .rw[af c,af (by omega)]
  .rw[qg (by omega)];have:i=3:=by omega
   subst this;exact⟨ws,mU,hw,rfl⟩
theorem acL(hn:W+6<=n){r:qp}(hr:aS r):∃ws:List Int,ws.length=20/\(∀p<20,ws.getD p 0=jQ r p)/\Yb (DD X n) r=some ((ws,()),()):=by
 obtain⟨n,rfl⟩:∃k,n=k+1:=⟨n-1,by omega⟩
 have hW:=ez;have hst:=hr.st;rw[ag2 hX];simp only[Yy,YV];rw[Pf hX (by omega) hr,qc];dsimp only;rw[cQ,aN];simp only[qwx];obtain⟨w1,l1,h1,e1⟩:=AG hX n n (by omega) (fun bT dU=>Vl (DD X n) n (Vv (DD X n) n) bT dU) hr n 0 (List.replicate (Int.toNat 20) 0) (by omega) (by omega) rfl (fun p hp=>by
  have e0:(List.replicate (Int.toNat 20) (0:Int)).getD p 0=0:=by simp only[List.getD,vC];split<;>rfl
  rw[e0];unfold wg o4 jx;split
  .rfl
  .split
   .rw[af (by omega)]
   .split
    .rfl
    .rw[af (by omega)])
 rw[show((0:Nat):Int)=0 from rfl]at e1;obtain⟨w2,l2,h2,e2⟩:=Q0 hX n n (by omega) (fun bT dU=>qu1 (DD X n) n bT dU) hr n 0 w1 (by omega) (by omega) l1 (fun p hp=>by
  rw[h1 p hp];unfold wB;rw[af (by omega)])
 rw[show((0:Nat):Int)=0 from rfl]at e2;refine⟨w2.set 13 r.2.1,by rw[b6];exact l2,fun p hp=>?_,e1.trans ?_⟩
 .rw[pK _ _ _ _ (by omega),h2 p hp];unfold jQ wB wg;have hlen:=hr.len;by_cases e:p=13
  .rw[aj e,af (by omega),af (by omega),af (by omega),aj e]
  rw[af e];by_cases a1:p<4
  .rw[af (by omega),aj a1,aj a1,aj a1]
  by_cases a2:p<10
  .rw[af (by omega),af a1,aj a2,af a1,aj a2];rfl
  by_cases a3:p<13
  .rw[aj (by omega),af a1,af a2,aj a3]
  .rw[af (by omega),af a1,af a2,af (by omega),af a1,af a2,af a3,af e];rfl
 simp only[Vl,Vv];rw[e2];simp only[qu1];rw[Px hX (by omega),qc];dsimp only;rw[fU (by omega) (by rw[l2];omega),aJ];rfl
end
def path(w:Int->Int):PR->List Int
 | .done=>[]
 | .ask p k=>p::path w (k (w p))
def Ao(got:dK)(w:Int->Int)(L:List Int):Prop:=∀q,eP got q=if q∈L then (w q,true) else (0,false)
theorem abY(w:Int->Int):∀(L:List Int),Ao (L.map fun p=>(p,w p,())) w L:=by
 intro L q;unfold eP;have key:∀(L:List Int)(v:Int)(ok:Bool),rd q (L.map fun p=>(p,w p,())) v ok=if q∈L then (w q,true) else (v,ok):=by
  intro L
  induction L with
  | nil=>intro v ok;simp[rd]
  | cons a L ih=>
   intro v ok;simp only[cr,rd];by_cases e:a=q
   .rw[aj e,ih];by_cases m:q∈L
    .rw[aj m,aj (cB _ m)]
    .rw[af m,aj (by rw[e];exact eW),e]
   .rw[af e,ih];by_cases m:q∈L
    .rw[aj m,aj (cB _ m)]
    .rw[af m,af (by
      intro k;rcases bk.1 k with k | k
      .exact e k.symm
      .exact m k)]
 exact key L 0 false
theorem AB{got:dK}{w:Int->Int}{L:List Int}(h:Ao got w L){p:Int}(hp:0<=p):hit got p=decide (p∈L):=by
 unfold hit;rw[bC hp,qW,h p];by_cases m:p∈L
 .rw[aj m,bC m]
 .rw[af m,b8 m]
theorem G8{got:dK}{w:Int->Int}{L:List Int}(h:Ao got w L):∀(A B:List Int)(P:PR),path w P=A++B->(∀a∈A,a∈L)->(∀a∈A++B,0<=a)->(∀b B',B=b::B'->b∉L)->run got P=(A,B.headD (-1))
 | [],B,P,hp,_,hz,hB=>by
  cases P with
  | done=>simp only[path,gx]at hp;subst hp;rfl
  | ask p k=>
   simp only[path,gx]at hp;subst hp;have hm:hit got p=false:=by rw[AB h (hz p (by simp)),b8 (hB p _ rfl)]
   rw[nO hm];rfl
 | a::A,B,P,hp,hA,hz,hB=>by
  cases P with
  | done=>simp[path]at hp
  | ask p k=>
   simp only[path,fE,eS]at hp;obtain⟨rfl,hp⟩:=hp;have hm:hit got p=true:=by rw[AB h (hz p (by simp)),bC (hA p eW)]
   have hv:(eP got p).1=w p:=by rw[h p,aj (hA p eW)]
   rw[nQ hm,hv,G8 h A B (k (w p)) hp (fun a ha=>hA a (cB _ ha)) (fun a ha=>hz a (cB _ ha)) hB]
structure Dv (w:Int->Int) (l:List Int):Prop where
 once:l.Nodup
 dM:∀p∈l,0<=p/\p<20
 len:l.length<=8
theorem B9(w:Int->Int)(K:Int)(l:List Int):path w (tG K l)=13::(if w 13<=wrap .i64 (K+1) then [] else l.map fG):=by
 unfold tG;simp only[path];by_cases h:w 13<=wrap .i64 (K+1)
 .rw[bC h,aj h];rfl
 .rw[b8 h,af h,bg];congr 1
  induction l with
  | nil=>rfl
  | cons a l ih=>simp only[sG,path,cr,ih]
theorem Jw{o:cH}(ho:dF o=true)(w:Int->Int)(hw:∀k,0<=k/\k<=3->0<=w k/\w k<=6):Dv w (path w (prog o)):=by
 have hk:=v8 ho;have hr:=vc o.2.1;have hoV:=tE o.2.2.1;have hvV:=nS o.2.2.1;have jK:=yw o.2.2.1;have hcV:=uW (qh o.2.2.1);unfold prog;by_cases k1:o.1=1
 .rw[aj k1];unfold sL;simp only[path];cases w (qw o.2.1) != 0
  .simp only[bg,path];cases w (q9 o.2.2.1) != 0
   .simp only[bg,path,B9,cr,fY];split
    .exact⟨by simp;omega,by simp;omega,by simp⟩
    .exact⟨by simp;omega,by simp;omega,by simp⟩
   .exact⟨by simp[path];omega,by simp[path];omega,by simp[path]⟩
  .exact⟨by simp[path],by simp[path];omega,by simp[path]⟩
 rw[af k1];by_cases k2:o.1=2
 .rw[aj k2];have hK:0<=o.2.1/\o.2.1<=3:=by omega
  have hrow:qw o.2.1=o.2.1:=by omega
  have hwv:=hw o.2.1 hK;unfold sM;simp only[path];rw[hrow];generalize w o.2.1=v at *;have hov:=tE v;have Ab:=nS v;have hcv:=yw v;have Wv:=uW (qh v);by_cases hb:v=0\/v=o.2.2.1
  .rw[show(bif decide (v=0) then true else decide (v=o.2.2.1))=true by
    rcases hb with h | h
    .rw[bC h];rfl
    .rw[bC h];cases decide (v=0)<;>rfl]
   exact⟨by simp[path],by simp[path];omega,by simp[path]⟩
  .rw[show(bif decide (v=0) then true else decide (v=o.2.2.1))=false by
    rw[b8 (by omega),b8 (by omega)];rfl]
   simp only[bg,path];cases w (q9 o.2.2.1) != 0
   .simp only[bg,path];cases hc:qh v != qh o.2.2.1
    .simp only[bg,path,B9,cr,fY];split
     .exact⟨by simp;omega,by simp;omega,by simp⟩
     .exact⟨by simp;omega,by simp;omega,by simp⟩
    .have hne:qh v≠qh o.2.2.1:=by simpa using hc
     simp only[bz,path,B9,cr,fY];split
     .exact⟨by simp;omega,by simp;omega,by simp⟩
     .exact⟨by simp;omega,by simp;omega,by simp⟩
   .exact⟨by simp[path];omega,by simp[path];omega,by simp[path]⟩
 rw[af k2];by_cases k3:o.1=3
 .rw[aj k3];have hK:0<=o.2.1/\o.2.1<=3:=by omega
  have hrow:qw o.2.1=o.2.1:=by omega
  have hwv:=hw o.2.1 hK;unfold u5;simp only[path];rw[hrow];generalize w o.2.1=v at *;have hov:=tE v;have Ab:=nS v;have hcv:=yw v;have Wv:=uW (qh v);by_cases hb:v=0
  .rw[bC hb];exact⟨by simp[path],by simp[path];omega,by simp[path]⟩
  .rw[b8 hb];simp only[bg,path,B9,cr,fY];split
   .exact⟨by simp;omega,by simp;omega,by simp⟩
   .exact⟨by simp;omega,by simp;omega,by simp⟩
 rw[af k3];by_cases k4:o.1=4
 .rw[aj k4];exact⟨by simp[path],by simp[path];omega,by simp[path]⟩
 rw[af k4];by_cases k5:o.1=5
 .rw[aj k5];exact⟨by simp[path],by simp[path];omega,by simp[path]⟩
 rw[af k5];by_cases k6:o.1=6
 .rw[aj k6];have:=uW o.2.1;exact⟨by simp[path],by simp[path];omega,by simp[path]⟩
 rw[af k6];by_cases k7:o.1=7
 .rw[aj k7];exact⟨by simp[path,B6],by simp[path,B6],by simp[path,B6]⟩
 rw[af k7];by_cases k8:o.1=8
 .rw[aj k8];exact⟨by simp[path],by simp[path],by simp[path]⟩
 rw[af k8];by_cases k9:o.1=9
 .rw[aj k9];unfold yx;simp only[path];generalize w 13=st;by_cases hs:st<1\/st>4
  .rw[show(bif decide (st<1) then true else decide (st>4))=true by
    rcases hs with h | h
    .rw[bC h];rfl
    .rw[bC h];cases decide (st<1)<;>rfl]
   exact⟨by simp[path],by simp[path],by simp[path]⟩
  .rw[show(bif decide (st<1) then true else decide (st>4))=false by
    rw[b8 (by omega),b8 (by omega)];rfl]
   have qF:wrap .i64 (st-1)=st-1:=qs (by omega) (by omega);have Xf:=vc (st-1);simp only[bg,path];rw[qF];have hp:qw (st-1)=st-1:=by omega
   rw[hp];cases hin:bt (w (st-1)) 1 6
   .exact⟨by simp[path];omega,by simp[path];omega,by simp[path]⟩
   .have hi:=lq.1 hin;have Ab:=nS (w (st-1));simp only[cQ,bg,path];exact⟨by simp;omega,by simp;omega,by simp⟩
 rw[af k9];have jn:o.1=10:=by omega
 rw[aj jn];unfold vX;simp only[path];cases w 13 != 5
 .simp only[bg,path];exact⟨by simp;omega,by simp;omega,by simp⟩
 .exact⟨by simp[path],by simp[path],by simp[path]⟩
theorem QE{α:Type}(key:α->Int):∀(L acc:List α),(L.foldl (jZ key) acc).length=acc.length+L.length
 | [],acc=>rfl
 | e::L,acc=>by rw[nJ,QE key L,xC,cq];omega
theorem AY(w:Int->Int)(K:Int)(l:List Int):∀p∈path w (tG K l),p=13\/p∈l.map fG:=by
 intro p hp;rw[B9]at hp;rcases bk.1 hp with h | h
 .exact .inl h
 .split at h
  .simp at h
  .exact .inr h
theorem RZ{o:cH}(ho:dF o=true){got:dK}{w:Int->Int}(hw:∀k,0<=k/\k<=3->0<=w k/\w k<=6)(hk:Ao got w (path w (prog o)))(hn:mK o got=none)(eJ:o.1=1\/o.1=2\/o.1=3) :
  val got (qw o.2.1)=w o.2.1/\∀p∈path w (prog o),p∈(eY o.2.1 o.2.2.1 (w o.2.1) (val got 13)).map (·.1):=by
 have z5:=v8 ho;have hr:=vc o.2.1;have hrow:qw o.2.1=o.2.1:=by omega
 have jK:=yw o.2.2.1;have Uy:=hw o.2.1 (by omega);have WH:∃P,path w (prog o)=qw o.2.1::P:=by
  unfold prog;rcases eJ with k | k | k
  .rw[aj k];exact⟨_,rfl⟩
  .rw[af (by omega),aj k];exact⟨_,rfl⟩
  .rw[af (by omega),af (by omega),aj k];exact⟨_,rfl⟩
 obtain⟨P,hP⟩:=WH;have hval:val got (qw o.2.1)=w o.2.1:=by unfold val;rw[hk (qw o.2.1),aj (by rw[hP];exact eW),hrow]
 refine⟨hval,?_⟩;have hrd:(eP got (qw o.2.1)).1=w o.2.1:=hval;unfold mK at hn;rw[hrd]at hn;unfold jM at hn;unfold prog at hk⊢;rcases eJ with k | k | k
 .rw[aj k]at hk⊢;by_cases c1:w o.2.1≠0
  .rw[aj ⟨k,c1⟩]at hn;cases hn
  have yZ:w o.2.1=0:=by omega
  rw[af (fun q=>c1 q.2)]at hn;have ia:path w (sL o)=qw o.2.1::q9 o.2.2.1::(bif w (q9 o.2.2.1) != 0 then [] else iR (qh o.2.2.1)::path w (tG o.2.1 [o.2.2.1])):=by unfold sL;simp only[path];rw[hrow,yZ];simp only[cM,qT,cQ,bg,path];cases decide (w (q9 o.2.2.1)=0)<;>rfl
  rw[ia]at hk⊢;have hown:(eP got (q9 o.2.2.1)).1=w (q9 o.2.2.1):=by rw[hk,aj (by simp)]
  rw[hown]at hn;by_cases c2:w (q9 o.2.2.1)≠0
  .rw[aj ⟨k,c2⟩]at hn;cases hn
  have V4:w (q9 o.2.2.1)=0:=by omega
  rw[V4,show((0:Int) != 0)=false by decide,bg];have hz:qh 0 = -1:=by decide
  have me:(qh (w o.2.1) != qh o.2.2.1)=true:=by rw[yZ,hz,cM,b8 (by omega)];rfl
  intro p hp;unfold eY;rw[me,bz];simp only[fE,gx,cr,fY,bk,c_,dg];simp only[bk]at hp;rcases hp with h | h | h | h
  .exact .inl h
  .exact .inr (.inr (.inr (.inr (.inl h))))
  .exact .inr (.inr (.inr (.inr (.inr (.inr (.inr h))))))
  .rcases AY w _ _ p h with h | h
   .exact .inr (.inl h)
   .simp only[cr,fY,bk,c_,dg]at h;exact .inr (.inr (.inr (.inr (.inr (.inl h)))))
 .rw[af (by omega),aj k]at hk⊢;rw[af (by omega),af (by omega)]at hn;by_cases c1:w o.2.1=0
  .rw[aj ⟨.inl k,c1⟩]at hn;cases hn
  rw[af (fun q=>c1 q.2)]at hn;by_cases c3:w o.2.1=o.2.2.1
  .rw[aj ⟨k,c3⟩]at hn;cases hn
  rw[af (fun q=>c3 q.2)]at hn;have ia:path w (sM o)=qw o.2.1::q9 o.2.2.1::(bif w (q9 o.2.2.1) != 0 then [] else q9 (w o.2.1)::(bif qh (w o.2.1) != qh o.2.2.1 then iR (qh (w o.2.1))::iR (qh o.2.2.1)::path w (tG o.2.1 [w o.2.1,o.2.2.1]) else path w (tG o.2.1 [w o.2.1,o.2.2.1]))):=by
   unfold sM;simp only[path];rw[hrow,b8 c1,b8 c3];simp only[bg,path];cases w (q9 o.2.2.1) != 0
   .simp only[bg,path];cases qh (w o.2.1) != qh o.2.2.1<;>rfl
   .rfl
  rw[ia]at hk⊢;have hown:(eP got (q9 o.2.2.1)).1=w (q9 o.2.2.1):=by rw[hk,aj (by simp)]
  rw[hown]at hn;by_cases c2:w (q9 o.2.2.1)≠0
  .rw[aj ⟨k,c2⟩]at hn;cases hn
  have V4:w (q9 o.2.2.1)=0:=by omega
  rw[V4,show((0:Int) != 0)=false by decide,bg];intro p hp;unfold eY;cases me:qh (w o.2.1) != qh o.2.2.1
  .rw[me,bg]at hp;rw[bg];simp only[gR,cr,fY,bk,c_,dg];simp only[bk]at hp;rcases hp with h | h | h | h
   .exact .inl h
   .exact .inr (.inr (.inr (.inr (.inl h))))
   .exact .inr (.inr (.inl h))
   .rcases AY w _ _ p h with h | h
    .exact .inr (.inl h)
    .simp only[cr,fY,bk,c_,dg]at h;rcases h with h | h
     .exact .inr (.inr (.inr (.inl h)))
     .exact .inr (.inr (.inr (.inr (.inr h))))
  .rw[me,bz]at hp;rw[bz];simp only[fE,gx,cr,fY,bk,c_,dg];simp only[bk]at hp;rcases hp with h | h | h | h | h | h
   .exact .inl h
   .exact .inr (.inr (.inr (.inr (.inl h))))
   .exact .inr (.inr (.inl h))
   .exact .inr (.inr (.inr (.inr (.inr (.inr (.inl h))))))
   .exact .inr (.inr (.inr (.inr (.inr (.inr (.inr h))))))
   .rcases AY w _ _ p h with h | h
    .exact .inr (.inl h)
    .simp only[cr,fY,bk,c_,dg]at h;rcases h with h | h
     .exact .inr (.inr (.inr (.inl h)))
     .exact .inr (.inr (.inr (.inr (.inr (.inl h)))))
 .rw[af (by omega),af (by omega),aj k]at hk⊢;rw[af (by omega),af (by omega)]at hn;by_cases c1:w o.2.1=0
  .rw[aj ⟨.inr (.inl k),c1⟩]at hn;cases hn
  have ia:path w (u5 o)=qw o.2.1::q9 (w o.2.1)::iR (qh (w o.2.1))::path w (tG o.2.1 [w o.2.1]):=by unfold u5;simp only[path];rw[hrow,b8 c1];simp only[bg,path]
  rw[ia];have hV:o.2.2.1=0:=by omega
  have hz:qh 0 = -1:=by decide
  have hck:=yw (w o.2.1);have me:(qh (w o.2.1) != qh o.2.2.1)=true:=by rw[hV,hz,cM,b8 (by omega)];rfl
  intro p hp;unfold eY;rw[me,bz];simp only[fE,gx,cr,fY,bk,c_,dg];simp only[bk]at hp;rcases hp with h | h | h | h
  .exact .inl h
  .exact .inr (.inr (.inl h))
  .exact .inr (.inr (.inr (.inr (.inr (.inr (.inl h))))))
  .rcases AY w _ _ p h with h | h
   .exact .inr (.inl h)
   .simp only[cr,fY,bk,c_,dg]at h;exact .inr (.inr (.inr (.inl h)))
theorem QK{l:List eu}(h:lI l):(l.map (·.1)).Nodup:=by rw[List.Nodup,List.pairwise_map];exact h.imp fun {a b} hab=>by omega
theorem MV{o:cH}(ho:dF o=true){got:dK}{w:Int->Int}(hw:∀k,0<=k/\k<=3->0<=w k/\w k<=6)(hk:Ao got w (path w (prog o)))(hrun:run got (prog o)=(path w (prog o),-1))(hn:mK o got=none) :
  (∀p∈path w (prog o),∃e∈dz o got,e.1=p/\e.2.1=w p)/\(dz o got).length=(path w (prog o)).length:=by
 have hpk:=Jw ho w hw;have I8:∀p∈path w (prog o),val got p=w p:=fun p hp=>by unfold val;rw[hk p,aj hp]
 have zZ:∀p,0<=p->(hit got p=true↔p∈path w (prog o)):=fun p hp=>by rw[AB hk hp,gQ]
 by_cases eJ:o.1=1\/o.1=2\/o.1=3
 .obtain⟨hv,hsub⟩:=RZ ho hw hk hn eJ;have hne:=xH ho hn eJ;have hE:dz o got=(iu got (eY o.2.1 o.2.2.1 (w o.2.1) (val got 13))).foldl g9 []:=by unfold dz;rw[aj eJ,hv]
  rw[hv]at hne;obtain⟨_,r2,r3,r4⟩:=Ma (got:=got) (K:=o.2.1) (V:=o.2.2.1) (held:=w o.2.1) (st:=val got 13) hne;rw[hE];have hA:∀p∈path w (prog o),∃e∈(iu got (eY o.2.1 o.2.2.1 (w o.2.1) (val got 13))).foldl g9 [],e.1=p/\e.2.1=w p:=by intro p hp;obtain⟨q,hq,rfl⟩:=eH.1 (hsub p hp);have hh:=(zZ q.1 (hpk.dM q.1 hp).1).2 hp;exact⟨_,(r3 _).2 ((Ji got _ _).2 ⟨q,hq,hh,rfl⟩),rfl,I8 q.1 hp⟩
  refine⟨hA,?_⟩;have Lf:(((iu got (eY o.2.1 o.2.2.1 (w o.2.1) (val got 13))).foldl g9 []).map (·.1)).Perm (path w (prog o)):=by
   rw[NY (QK r2) hpk.once];intro p;constructor
   .intro hp;obtain⟨e,he,rfl⟩:=eH.1 hp;obtain⟨q,_,hh,rfl⟩:=(Ji got _ _).1 ((r3 _).1 he);exact(zZ q.1 (A7 hh)).1 hh
   .intro hp;obtain⟨e,he,h1,_⟩:=hA p hp;exact eH.2 ⟨e,he,h1⟩
  have:=Lf.length_eq;rw[jz]at this;exact this
 .have hneg:(run got (prog o)).2<0:=by rw[hrun];show(-1:Int)<0;omega
  obtain⟨_,pl⟩:=GK ho hn hneg eJ;have I4:(run got (prog o)).1=path w (prog o):=by rw[hrun]
  rw[I4]at pl;have hmem:∀L:List Int,(path w (prog o)).foldl (jZ fC) []=L->(∀p∈path w (prog o),p∈L)/\L.length=(path w (prog o)).length:=by
   intro L hL;refine⟨fun p hp=>?_,?_⟩
   .rw[<-hL,Gy];exact .inr hp
   .rw[<-hL,QE];simp
  unfold dz;rw[af eJ];rcases pl with⟨k,hp⟩ | ⟨k,hz,hp⟩ | ⟨k,hz,hp⟩ | ⟨k,hp⟩
  .obtain⟨m1,m2⟩:=hmem _ hp;rw[aj k];refine⟨fun p w5=>?_,by rw[<-m2];rfl⟩;have h2:=m1 p w5;have hv:=I8 p w5;simp only[bk,c_,dg]at h2;rcases h2 with rfl | rfl | rfl | rfl
   .exact⟨same got 0,by simp,rfl,hv⟩
   .exact⟨same got 1,by simp,rfl,hv⟩
   .exact⟨same got 2,by simp,rfl,hv⟩
   .exact⟨same got 3,by simp,rfl,hv⟩
  .obtain⟨m1,m2⟩:=hmem _ hp;rw[af (by omega),aj k];refine⟨fun p w5=>?_,by rw[<-m2];rfl⟩;have h2:=m1 p w5;have hv:=I8 p w5;simp only[bk,c_,dg]at h2;subst h2;exact⟨_,d6.2 rfl,rfl,hv⟩
  .obtain⟨m1,m2⟩:=hmem _ hp;rw[af (by omega),af (by omega),aj k];generalize qw (wrap .i64 (val got 13-1))=q at *;refine⟨fun p w5=>?_,by rw[<-m2];cases bt (val got q) 1 6<;>rfl⟩;have h2:=m1 p w5;have hv:=I8 p w5;simp only[bk]at h2;rcases h2 with rfl | rfl | h2
   .exact⟨same got p,eW,rfl,hv⟩
   .exact⟨_,cB _ eW,rfl,hv⟩
   .cases hin:bt (val got q) 1 6
    .rw[hin]at h2;simp at h2
    .rw[hin,bz,d6]at h2;subst h2;exact⟨_,cB _ (cB _ (by rw[bz];exact d6.2 rfl)),rfl,hv⟩
  .obtain⟨m1,m2⟩:=hmem _ hp;rw[af (by omega),af (by omega),af (by omega),aj k];refine⟨fun p w5=>?_,by rw[<-m2];rfl⟩;have h2:=m1 p w5;have hv:=I8 p w5;simp only[bk,c_,dg]at h2;rcases h2 with rfl | rfl
   .exact⟨same got 13,by simp,rfl,hv⟩
   .exact⟨same got (fG o.2.2.1),by simp,rfl,hv⟩
def bV(r:qp)(p:Int):Int:=jQ r p.toNat
theorem tH{r:qp}(hr:aS r){k:Int}(hk:0<=k/\k<=3):bV r k=r.1.getD k.toNat 0/\0<=bV r k/\bV r k<=6:=by
 have hl:=hr.len;have e:bV r k=r.1.getD k.toNat 0:=by unfold bV jQ;rw[aj (by omega)]
 refine⟨e,?_⟩;rw[e,qv (by omega)];exact hr.dM _ (er _)
theorem q6f{r:qp}(hr:aS r)(p:Int)(hp:0<=p/\p<20):0<=bV r p/\bV r p<=1000:=by
 have hl:=hr.len;have hst:=hr.st;unfold bV jQ;split
 .rw[qv (by omega)];have:=hr.dM _ (er (l:=r.1) (show p.toNat<r.1.length by omega));omega
 .split
  .unfold o4;have:=rZ ((p.toNat:Int)-3) r.1 0;split<;>omega
  .split
   .have:=JB ((p.toNat:Int)-10) r.1;omega
   .split
    .omega
    .unfold jx;have:=rZ ((p.toNat:Int)-13) r.1 0;split<;>omega
def fo(r:qp)(o:cH):dK:=(path (bV r) (prog o)).map fun p=>(p,bV r p,())
theorem FQ(r:qp)(o:cH):Ao (fo r o) (bV r) (path (bV r) (prog o)):=abY _ _
theorem GB{r:qp}(hr:aS r){o:cH}(ho:dF o=true):run (fo r o) (prog o)=(path (bV r) (prog o),-1):=by have hpk:=Jw ho (bV r) (fun k hk=>(tH hr hk).2);exact G8 (FQ r o) (path (bV r) (prog o)) [] (prog o) (by rw[gR]) (fun a ha=>ha) (fun a ha=>(hpk.dM a (by simpa using ha)).1) (fun b B' h=>by cases h)
section
variable {X:Ext} (hX:fI X) {n:Nat}
include hX
end
inductive Out (r:qp) (o:cH):Int->List Int->Prop
 | LU:o.1=1->r.1.getD o.2.1.toNat 0≠0->Out r o 1 []
 | LV:o.1=1->0<=aU o.2.2.1 r.1 0->Out r o 2 []
 | LS:o.1=1->r.1.getD o.2.1.toNat 0=0->aU o.2.2.1 r.1 0<0->Out r o 0 []
 | TR:o.1=2->r.1.getD o.2.1.toNat 0=0->Out r o 3 []
 | IL:o.1=2->r.1.getD o.2.1.toNat 0≠0->r.1.getD o.2.1.toNat 0=o.2.2.1->Out r o 0 []
 | TQ:o.1=2->0<=aU o.2.2.1 r.1 0->Out r o 2 []
 | TP:o.1=2->r.1.getD o.2.1.toNat 0≠0->r.1.getD o.2.1.toNat 0≠o.2.2.1->aU o.2.2.1 r.1 0<0->Out r o 0 []
 | Kl:o.1=3->r.1.getD o.2.1.toNat 0=0->Out r o 3 []
 | Kk:o.1=3->r.1.getD o.2.1.toNat 0≠0->Out r o 0 []
 | Ks:o.1=4->r.1.getD o.2.1.toNat 0=0->Out r o 3 []
 | Kr:o.1=4->r.1.getD o.2.1.toNat 0≠0->Out r o 0 [r.1.getD o.2.1.toNat 0]
 | Cu:o.1=5->aU o.2.2.1 r.1 0<0->Out r o 3 []
 | Ct:o.1=5->0<=aU o.2.2.1 r.1 0->Out r o 0 [aU o.2.2.1 r.1 0]
 | Kj:o.1=6->Out r o 0 [many o.2.1 r.1]
 | TO:o.1=7->Out r o 0 r.1
 | CS:o.1=8->r.2.1≠0->Out r o 4 []
 | LB:o.1=8->r.2.1=0->Out r o 0 []
 | CR:o.1=9->r.2.1=0\/r.2.1=5->Out r o 4 []
 | Lz:o.1=9->1<=r.2.1/\r.2.1<=4->Out r o 0 []
 | TV:o.1=10->r.2.1≠5->Out r o 4 []
 | alh:o.1=10->r.2.1=5->aU o.2.2.1 r.1 0<0->Out r o 3 []
 | alg:o.1=10->r.2.1=5->0<=aU o.2.2.1 r.1 0->Out r o 0 [aU o.2.2.1 r.1 0]
theorem Dh{r:qp}(hr:aS r){v:Int}(hv:1<=v/\v<=6):bV r (q9 v)=aU v r.1 0+1:=by
 have ho:=tE v;have hl:=hr.len;have hk:=rZ v r.1 0;have e:q9 v=3+v:=by omega
 unfold bV jQ;rw[e,af (by omega),aj (by omega)];unfold o4;rw[show(((3+v).toNat:Nat):Int)-3=v by omega];by_cases h:0<=aU v r.1 0/\aU v r.1 0<4
 .rw[aj h]
 .rw[af h];omega
theorem Dc(r:qp):bV r 13=r.2.1:=rfl
theorem QY{r:qp}{c:Int}(hc:0<=c/\c<=2):bV r (iR c)=many c r.1:=by
 have ho:=uW c;have e:iR c=10+c:=by omega
 unfold bV jQ;rw[e,af (by omega),af (by omega),aj (by omega),show(((10+c).toNat:Nat):Int)-10=c by omega]
theorem Ij{r:qp}{v:Int}(hv:1<=v/\v<=6):bV r (fG v)=jx v r.1 4 r.2.1:=by
 have ho:=nS v;have e:fG v=13+v:=by omega
 unfold bV jQ;rw[e,af (by omega),af (by omega),af (by omega),af (by omega),show(((13+v).toNat:Nat):Int)-13=v by omega]
theorem akQ{l:List Int}(h:l.length=4):l=[l.getD 0 0,l.getD 1 0,l.getD 2 0,l.getD 3 0]:=by
 match l,h with
 | [a,b,c,d],_=>rfl
theorem Ng{r:qp}(hr:aS r){o:cH}(ho:dF o=true):Out r o (gh o (fo r o)).1.2.1.1 (gh o (fo r o)).1.2.1.2.1:=by
 have z5:=v8 ho;have hrun:=GB hr ho;have hkn:=FQ r o;have gm:dF o=true/\(run (fo r o) (prog o)).2<0:=⟨ho,by rw[hrun];show(-1:Int)<0;omega⟩
 have hst:=hr.st;have hl:=hr.len;have hrd:∀p,p∈path (bV r) (prog o)->(eP (fo r o) p).1=bV r p:=fun p hp=>by rw[hkn p,aj hp]
 have hrow:=vc o.2.1;unfold gh;rw[aj gm];by_cases k1:o.1=1
 .have hK:qw o.2.1=o.2.1:=by omega
  have hw:=tH hr (k:=o.2.1) (by omega);have hp:prog o=sL o:=by unfold prog;rw[aj k1]
  have m1:qw o.2.1∈path (bV r) (prog o):=by rw[hp];unfold sL;simp only[path];exact eW
  have r1:=hrd _ m1;rw[hK,hw.1]at r1;unfold mK;rw[hK,r1];unfold jM;by_cases c1:r.1.getD o.2.1.toNat 0≠0
  .rw[aj ⟨k1,c1⟩];exact .LU k1 c1
  have yZ:r.1.getD o.2.1.toNat 0=0:=by omega
  rw[af (fun q=>c1 q.2)];have m2:q9 o.2.2.1∈path (bV r) (prog o):=by rw[hp];unfold sL;simp only[path];rw[hK,hw.1,yZ];simp only[cM,qT,cQ,bg,path];simp
  rw[hrd _ m2,Dh hr (by omega)];by_cases c2:aU o.2.2.1 r.1 0+1≠0
  .rw[aj ⟨k1,c2⟩];exact .LV k1 (by have:=rZ o.2.2.1 r.1 0;omega)
  rw[af (fun q=>c2 q.2),af (by omega),af (by omega),af (by omega),af (by omega),af (by omega),af (by omega),af (by omega),af (by omega),af (by omega),af (by omega)];dsimp only;unfold eE;rw[af (by omega),af (by omega)];exact .LS k1 yZ (by omega)
 by_cases k2:o.1=2
 .have hK:qw o.2.1=o.2.1:=by omega
  have hw:=tH hr (k:=o.2.1) (by omega);have hp:prog o=sM o:=by unfold prog;rw[af k1,aj k2]
  have m1:qw o.2.1∈path (bV r) (prog o):=by rw[hp];unfold sM;simp only[path];exact eW
  have r1:=hrd _ m1;rw[hK,hw.1]at r1;unfold mK;rw[hK,r1];unfold jM;rw[af (by omega),af (by omega)];by_cases c1:r.1.getD o.2.1.toNat 0=0
  .rw[aj ⟨.inl k2,c1⟩];exact .TR k2 c1
  rw[af (fun q=>c1 q.2)];by_cases c3:r.1.getD o.2.1.toNat 0=o.2.2.1
  .rw[aj ⟨k2,c3⟩];exact .IL k2 c1 c3
  rw[af (fun q=>c3 q.2)];have m2:q9 o.2.2.1∈path (bV r) (prog o):=by rw[hp];unfold sM;simp only[path];rw[hK,hw.1,b8 c1,b8 c3];simp only[bg,path];simp
  rw[hrd _ m2,Dh hr (by omega)];by_cases c2:aU o.2.2.1 r.1 0+1≠0
  .rw[aj ⟨k2,c2⟩];exact .TQ k2 (by have:=rZ o.2.2.1 r.1 0;omega)
  rw[af (fun q=>c2 q.2),af (by omega),af (by omega),af (by omega),af (by omega),af (by omega),af (by omega),af (by omega)];dsimp only;unfold eE;rw[af (by omega),af (by omega)];exact .TP k2 c1 c3 (by omega)
 by_cases CO:o.1=3\/o.1=4
 .have hK:qw o.2.1=o.2.1:=by omega
  have hw:=tH hr (k:=o.2.1) (by omega);have m1:qw o.2.1∈path (bV r) (prog o):=by
   unfold prog;rw[af k1,af k2];rcases CO with k | k
   .rw[aj k];unfold u5;simp only[path];exact eW
   .rw[af (by omega),aj k];simp only[path];exact eW
  have r1:=hrd _ m1;rw[hK,hw.1]at r1;unfold mK;rw[hK,r1];unfold jM;rw[af (by omega),af (by omega)];by_cases c1:r.1.getD o.2.1.toNat 0=0
  .rw[aj ⟨.inr CO,c1⟩];rcases CO with k | k
   .exact .Kl k c1
   .exact .Ks k c1
  rw[af (fun q=>c1 q.2),af (by omega),af (by omega)];rcases CO with k | k
  .rw[af (by omega),af (by omega),af (by omega),af (by omega),af (by omega),af (by omega),af (by omega)];dsimp only;unfold eE;rw[af (by omega),af (by omega)];exact .Kk k c1
  .rw[aj k];exact .Kr k c1
 by_cases k5:o.1=5
 .have m1:q9 o.2.2.1∈path (bV r) (prog o):=by unfold prog;rw[af k1,af k2,af (by omega),af (by omega),aj k5];simp only[path];exact eW
  have hk:=rZ o.2.2.1 r.1 0;unfold mK;rw[hrd _ m1,Dh hr (by omega)];unfold jM;rw[af (by omega),af (by omega),af (by omega),af (by omega),af (by omega),af (by omega)];by_cases c:aU o.2.2.1 r.1 0+1=0
  .rw[aj ⟨k5,c⟩];exact .Cu k5 (by omega)
  .rw[af (fun q=>c q.2),aj k5];dsimp only;rw[show aU o.2.2.1 r.1 0+1-1=aU o.2.2.1 r.1 0 by omega,qs (by omega) (by omega)];exact .Ct k5 (by omega)
 by_cases k6:o.1=6
 .have m1:iR o.2.1∈path (bV r) (prog o):=by unfold prog;rw[af k1,af k2,af (by omega),af (by omega),af k5,aj k6];simp only[path];exact eW
  unfold mK;rw[hrd _ m1,QY (by omega)];unfold jM;rw[af (by omega),af (by omega),af (by omega),af (by omega),af (by omega),af (by omega),af (by omega),af k5,aj k6];exact .Kj k6
 by_cases k7:o.1=7
 .have hp:prog o=B6:=by unfold prog;rw[af k1,af k2,af (by omega),af (by omega),af k5,af k6,aj k7]
  unfold mK jM;rw[af (by omega),af (by omega),af (by omega),af (by omega),af (by omega),af (by omega),af (by omega),af k5,af k6,af (by omega),af (by omega),af (by omega)];dsimp only;unfold eE;rw[aj k7];have hv:∀p:Int,0<=p/\p<=3->val (fo r o) p=r.1.getD p.toNat 0:=fun p Le=>by
   unfold val;rw[hrd p (by rw[hp];unfold B6;simp only[path,bk,c_,dg];omega)];exact(tH hr Le).1
  dsimp only;rw[hv 0 (by omega),hv 1 (by omega),hv 2 (by omega),hv 3 (by omega)];have:=akQ hl;have e:[r.1.getD (0:Int).toNat 0,r.1.getD (1:Int).toNat 0,r.1.getD (2:Int).toNat 0,r.1.getD (3:Int).toNat 0]=r.1:=this.symm;rw[e];exact .TO k7
 have m13:(13:Int)∈path (bV r) (prog o):=by
  unfold prog;rw[af k1,af k2,af (by omega),af (by omega),af k5,af k6,af k7];by_cases k8:o.1=8
  .rw[aj k8];simp only[path];exact eW
  by_cases k9:o.1=9
  .rw[af k8,aj k9];unfold yx;simp only[path];exact eW
  .rw[af k8,af k9,aj (by omega)];unfold vX;simp only[path];exact eW
 unfold mK;rw[hrd _ m13,Dc];unfold jM;rw[af (by omega),af (by omega),af (by omega),af (by omega),af (by omega),af (by omega),af (by omega),af k5,af k6];by_cases k8:o.1=8
 .by_cases c:r.2.1≠0
  .rw[aj ⟨k8,c⟩];exact .CS k8 c
  .rw[af (fun q=>c q.2),af (by omega),af (by omega)];dsimp only;unfold eE;rw[af (by omega),af (by omega)];exact .LB k8 (by omega)
 rw[af (by omega)];by_cases k9:o.1=9
 .by_cases c:r.2.1<1\/r.2.1>4
  .rw[aj ⟨k9,c⟩];exact .CR k9 (by omega)
  .rw[af (fun q=>c q.2),af (by omega)];dsimp only;unfold eE;rw[af (by omega),af (by omega)];exact .Lz k9 (by omega)
 rw[af (by omega)];have jn:o.1=10:=by omega
 by_cases c:r.2.1≠5
 .rw[aj ⟨jn,c⟩];exact .TV jn c
 rw[af (fun q=>c q.2)];have c5:r.2.1=5:=by omega
 have mv:fG o.2.2.1∈path (bV r) (prog o):=by unfold prog;rw[af k1,af k2,af (by omega),af (by omega),af k5,af k6,af k7,af k8,af k9,aj jn];unfold vX;simp only[path];rw[Dc,c5];simp only[show((5:Int) != 5)=false by decide,bg,path];simp
 have hk:=rZ o.2.2.1 r.1 0;have Ab:val (fo r o) (fG o.2.2.1)=aU o.2.2.1 r.1 0+1:=by
  unfold val;rw[hrd _ mv,Ij (by omega)];unfold jx;by_cases q:0<=aU o.2.2.1 r.1 0/\aU o.2.2.1 r.1 0<4/\aU o.2.2.1 r.1 0<r.2.1-1
  .rw[aj q]
  .rw[af q];omega
 dsimp only;unfold eE;rw[af k7,aj jn,Ab];by_cases q:aU o.2.2.1 r.1 0+1=0
 .rw[aj q];exact .alh jn c5 (by omega)
 .rw[af q];dsimp only;rw[show aU o.2.2.1 r.1 0+1-1=aU o.2.2.1 r.1 0 by omega,qs (by omega) (by omega)];exact .alg jn c5 (by omega)
theorem Az(v:Int):∀(l:List Int)(i:Nat),v∉l->aU v l i = -1
 | [],i,_=>rfl
 | x::l,i,h=>by
  simp only[aU];rw[af (fun e=>h (by rw[e];exact eW)),Az v l (i+1) (fun m=>h (cB _ m))]
section
variable {X:Ext} (hX:fI X) {n:Nat}
include hX
theorem M5(D:Den ctx)(n:Nat)(K0:Int->Option ((Int×Unit)×Unit))(K1:Option ((Int×Unit)×Unit))(hK:K0 (-1)=K1)(l:List Int)(hl:l.length<=1000)(v:Int):∀(m i:Nat),i<=l.length->l.length-i<m->
  SJ D n K0 K1 m l v (l.length:Int) (i:Int)=K0 (aU v (l.drop i) i)
 | 0,_,_,h=>by omega
 | m+1,i,hi,hf=>by
  simp only[SJ,qlr];by_cases h:i<l.length
  .rw[qf (by omega),ix h,aJ,eB,qv h,uS h];simp only[aU];by_cases e:l[i]=v
   .rw[qf e.symm,aj e]
   .rw[qg (fun k=>e k.symm),af e,qu (by omega)];exact M5 D n K0 K1 hK l hl v m (i+1) (by omega) (by omega)
  .rw[qg (by omega),uX h];exact hK.symm
theorem MD(hn:W+1<=n)(l:List Int)(hl:l.length<=1000)(v:Int):Vb (DD X n) l v=some ((aU v l 0,()),()):=by
 obtain⟨n,rfl⟩:∃k,n=k+1:=⟨n-1,by omega⟩
 have hW:=ez;rw[ady hX];simp only[qmt,qm0,qlf];have e:=M5 hX (DD X n) n (fun bT=>qrf (DD X n) n bT) (qrg (DD X n) n) rfl l hl v n 0 (by omega) (by omega);rw[show((0:Nat):Int)=0 from rfl]at e;rw[e];rfl
theorem aaB(hn:W+2<=n)(r:qp)(hr:r.1.length<=1000)(v:Int):qxm (DD X n) r v=some ((aU v r.1 0,()),()):=by
 obtain⟨n,rfl⟩:∃k,n=k+1:=⟨n-1,by omega⟩
 rw[aiT hX];simp only[ZS,O9];rw[MD hX (by omega) r.1 hr,qc]
theorem PY(hn:W+2<=n)(l:List Int)(hl:l.length<=1000)(v:Int)(h:v∉l):U8 (DD X n) l v=some ((false,()),()):=by
 obtain⟨n,rfl⟩:∃k,n=k+1:=⟨n-1,by omega⟩
 rw[q65 hX];simp only[qkg,qq8];rw[MD hX (by omega) l hl,qc,Az v l 0 h];rfl
theorem Gr(N n:Nat)(hN:W+3<=N)(K0:Bool->qp->Option ((Bool×Unit)×Unit))(K1:qp->Option ((Bool×Unit)×Unit)){r:qp}(hr:aS r):∀(m i:Nat),i<=r.1.length->r.1.length-i<m->
  Tm (DD X N) n K0 K1 m r.1 (r.1.length:Int) (i:Int) r=K1 r
 | 0,_,_,h=>by omega
 | m+1,i,hi,hf=>by
  have hl:=hr.len;have hW:=ez;simp only[Tm,YO];by_cases h:i<r.1.length
  .rw[qf (by omega),ix h,aJ,eB,qv h];by_cases e:r.1[i]=0
   .rw[cM,bC e,cQ,aN,qu (by omega)];exact Gr N n hN K0 K1 hr m (i+1) (by omega) (by omega)
   .have hv:=hr.dM r.1[i] (er h);rw[cM,b8 e,iN,aJ,J0 hX (by omega),qc];dsimp only;rw[lq.2 (by omega),cQ,aN];rw[show(decide ((0:Nat)<=0)&&decide ((0:Int)<=(i:Int))&&decide ((i:Int)<=(r.1.length:Int)))=true by
     rw[bC (by omega:(0:Int)<=(i:Int)),bC (by omega:(i:Int)<=(r.1.length:Int))];rfl]
    rw[aJ,Int.toNat_zero,jV];have hnot:r.1[i]∉r.1.take i:=fun hm=>by
     obtain⟨j,hj⟩:=mS.1 hm;rw[gj]at hj;split at hj
     .exact e (hr.once j i (by assumption) _ hj (gP h))
     .simp at hj
    rw[PY hX (by omega) _ (by rw[e9];omega) _ hnot,qc];dsimp only;rw[aN,qu (by omega)];exact Gr N n hN K0 K1 hr m (i+1) (by omega) (by omega)
  .rw[qg (by omega)]
theorem q8n(hn:W+4<=n){r:qp}(hr:aS r):To (DD X n) r=some ((true,()),()):=by
 obtain⟨n,rfl⟩:∃k,n=k+1:=⟨n-1,by omega⟩
 have hW:=ez;have hl:=hr.len;rw[aib hX];simp only[Zq,ZD,qys];have e:=Gr hX n n (by omega) (fun bT dU=>q88 (DD X n) n bT dU) (fun sV=>qwd (DD X n) n sV) hr n 0 (by omega) (by omega);rw[show((0:Nat):Int)=0 from rfl]at e;rw[e];simp only[qwd];rw[qf (by omega),lD hX (by omega),qc,lq.2 hr.st]
theorem akq(hn:1<=n)(r:qp):qp3 (DD X n) r=some ((decide (r.2.1=5),()),()):=by
 obtain⟨n,rfl⟩:∃k,n=k+1:=⟨n-1,by omega⟩
 rw[aax hX];rfl
theorem MY(D:Den ctx)(n:Nat)(K0:Bool->Option ((Bool×Unit)×Unit))(K1:Option ((Bool×Unit)×Unit))(l:List Int)(hl:l.length<=1000):∀(m i:Nat),i<=l.length->l.length-i<m->
  SI D n K0 K1 m l l (l.length:Int) (i:Int)=K1
 | 0,_,_,h=>by omega
 | m+1,i,hi,hf=>by
  simp only[SI,qlp];by_cases h:i<l.length
  .rw[qf (by omega),ix h,aJ,aJ,cM,bC rfl,cQ,aN,qu (by omega)];exact MY D n K0 K1 l hl m (i+1) (by omega) (by omega)
  .rw[qg (by omega)]
theorem aap(hn:W+1<=n)(l:List Int)(hl:l.length<=1000):qjc (DD X n) l l=some ((true,()),()):=by
 obtain⟨n,rfl⟩:∃k,n=k+1:=⟨n-1,by omega⟩
 have hW:=ez;rw[adx hX];simp only[qms,qmz,qle];have e:=MY hX (DD X n) n (fun bT=>qrb (DD X n) n bT) (qrc (DD X n) n) l hl n 0 (by omega) (by omega);rw[show((0:Nat):Int)=0 from rfl]at e;rw[show((l.length:Int) != (l.length:Int))=false by simp,aN,e];rfl
theorem q66(hn:2<=n){r:qp}(hr:aS r):U_ (DD X n) r=some ((r,()),()):=by
 obtain⟨n,rfl⟩:∃k,n=k+2:=⟨n-2,by omega⟩
 have hl:=hr.len;have hb:=i7;rw[afT hX];simp only[qxy,Oo];rw[qvc hX];simp only[Vc,qmy];rw[qg (by rw[eB];omega),qf (by omega),qc];rfl
end
def jg(r:qp)(o:cH)(code:Int):qp:=
 if code≠0 then r else if o.1=1\/o.1=2 then (r.1.set o.2.1.toNat o.2.2.1,r.2) else if o.1=3 then (r.1.set o.2.1.toNat 0,r.2) else
 if o.1=8\/o.1=9 then (r.1,wrap .i64 (r.2.1+1),()) else r
section
variable {X:Ext} (hX:fI X) {n:Nat}
include hX
end
def cls(c v:Int):Int:=bif bt v 1 6&&decide (qh v=c) then 1 else 0
theorem Sh(c:Int):∀(l k:List Int),many c (l++k)=many c l+many c k
 | [],k=>by simp[many]
 | x::l,k=>by
  rw[fE];simp only[many];rw[Sh c l k];omega
theorem ab4(c:Int)(l:List Int){i:Nat}(h:i<l.length):many c (l.take (i+1))=many c (l.take i)+cls c l[i]:=by rw[nG h,Sh];simp only[many,cls];omega
def qL(r:qp)(i p:Nat):Int:=if p<4 then r.1.getD p 0 else if 10<=p/\p<13 then many ((p:Int)-10) (r.1.take i) else wg r i p
section
variable {X:Ext} (hX:fI X) {n:Nat}
include hX
theorem AT(N n:Nat)(hN:W+4<=N)(K:qp->List Int->Option ((List Int×Unit)×Unit)){r:qp}(hr:aS r):∀(m i:Nat)(ws:List Int),i<=4->4-i<m->ws.length=20->(∀p<20,ws.getD p 0=qL r i p)->
  ∃yU,yU.length=20/\(∀p<20,yU.getD p 0=qL r 4 p)/\S9 (DD X N) n K m r.1 (r.1.length:Int) (i:Int) r ws=K r yU
 | 0,_,_,_,h,_,_=>by omega
 | m+1,i,ws,hi,hf,mU,hw=>by
  have hl:=hr.len;have hst:=hr.st;have hW:=ez;simp only[S9,qyu];by_cases h:i<4
  .have hi2:i<r.1.length:=by omega
   have hv:=hr.dM r.1[i] (er hi2);have hps:=Rb hX hr h hi2;have wS:=fun c=>ab4 c r.1 hi2;rw[qf (by omega),ix hi2,aJ,eB,qv hi2];by_cases h0:r.1[i]=0
   .rw[qf h0,qu (by omega)];refine AT N n hN K hr m (i+1) ws (by omega) (by omega) mU (fun p hp=>?_);rw[hw p hp];unfold qL;by_cases a1:p<4
    .rw[aj a1,aj a1]
    rw[af a1,af a1];by_cases a2:10<=p/\p<13
    .rw[aj a2,aj a2,wS,h0];have:cls ((p:Int)-10) 0=0:=rfl;rw[this];omega
    rw[af a2,af a2,hps p hp,af a1];rw[af (show ¬ (r.1[i]≠0/\(p:Int)=3+r.1[i]) from fun k=>k.1 h0),af (show ¬ (r.1[i]≠0/\(p:Int)=13+r.1[i]/\(i:Int)<r.2.1-1) from fun k=>k.1 h0)]
   .have ho:=tE r.1[i];have hvi:=nS r.1[i];have jK:=yw r.1[i];have hc:=uW (qh r.1[i]);have nY:q9 r.1[i]=3+r.1[i]:=by omega
    have D8:fG r.1[i]=13+r.1[i]:=by omega
    have g8:iR (qh r.1[i])=10+qh r.1[i]:=by omega
    have qF:wrap .i64 (r.2.1-1)=r.2.1-1:=qs (by omega) (by omega);have hmr:=JB (qh r.1[i]) (r.1.take i);rw[e9]at hmr;have ua:(ws.set (3+r.1[i]).toNat ((i:Int)+1)).getD (10+qh r.1[i]).toNat 0=many (qh r.1[i]) (r.1.take i):=by rw[pK _ _ _ _ (by omega),af (by omega),hw _ (by omega)];unfold qL;rw[af (by omega),aj (by omega),show(((10+qh r.1[i]).toNat:Nat):Int)-10=qh r.1[i] by omega]
    have KG:∀c,cls c r.1[i]=if qh r.1[i]=c then 1 else 0:=fun c=>by
     unfold cls;rw[lq.2 (by omega),qW];by_cases e:qh r.1[i]=c
     .rw[bC e,aj e];rfl
     .rw[b8 e,af e];rfl
    rw[qg h0,BZ hX (by omega),qc];dsimp only;rw[nY,fU (by omega) (by omega),aJ,JV hX (by omega),qc];dsimp only;rw[C7 hX (by omega),qc];dsimp only;have hw1:wrap .i64 ((i:Int)+1)=(i:Int)+1:=qs (by omega) (by omega);rw[g8,hw1,fU (by omega) (by rw[b6,mU];omega),aJ,aJ,ua,qs (x:=many (qh r.1[i]) (r.1.take i)+1) (by omega) (by omega),qF];have kN:∀p<20,p<4\/¬ (p<4):=fun p _=>by omega
    by_cases hs:(i:Int)<r.2.1-1
    .rw[qf hs,yu hX (by omega),qc];dsimp only;rw[D8,fU (by omega) (by rw[b6,b6,mU];omega),aJ];refine AT N n hN K hr m (i+1) _ (by omega) (by omega) (by rw[b6,b6,b6];exact mU) (fun p hp=>?_);rw[pK _ _ _ _ (by rw[b6,b6,mU];omega),pK _ _ _ _ (by rw[b6,mU];omega),pK _ _ _ _ (by omega),hw p hp];unfold qL;by_cases a1:p<4
     .rw[af (by omega),af (by omega),af (by omega),aj a1,aj a1]
     rw[af a1,af a1];by_cases a2:10<=p/\p<13
     .rw[af (show ¬ p=(13+r.1[i]).toNat by omega),af (show ¬ p=(3+r.1[i]).toNat by omega),aj a2,aj a2,wS,KG];by_cases e:p=(10+qh r.1[i]).toNat
      .rw[aj e,aj (by omega),show(p:Int)-10=qh r.1[i] by omega]
      .rw[af e,af (by omega)];omega
     rw[af a2,af a2,hps p hp,af a1];by_cases e3:p=(13+r.1[i]).toNat
     .rw[aj e3,af (by omega),aj ⟨h0,by omega,hs⟩]
     rw[af e3,af (show ¬ p=(10+qh r.1[i]).toNat by omega)];by_cases e2:p=(3+r.1[i]).toNat
     .rw[aj e2,aj ⟨h0,by omega⟩]
     rw[af e2,af (show ¬ (r.1[i]≠0/\(p:Int)=3+r.1[i]) by omega),af (show ¬ (r.1[i]≠0/\(p:Int)=13+r.1[i]/\(i:Int)<r.2.1-1) by omega)]
    .rw[qg hs];refine AT N n hN K hr m (i+1) _ (by omega) (by omega) (by rw[b6,b6];exact mU) (fun p hp=>?_);rw[pK _ _ _ _ (by rw[b6,mU];omega),pK _ _ _ _ (by omega),hw p hp];unfold qL;by_cases a1:p<4
     .rw[af (by omega),af (by omega),aj a1,aj a1]
     rw[af a1,af a1];by_cases a2:10<=p/\p<13
     .rw[af (show ¬ p=(3+r.1[i]).toNat by omega),aj a2,aj a2,wS,KG];by_cases e:p=(10+qh r.1[i]).toNat
      .rw[aj e,aj (by omega),show(p:Int)-10=qh r.1[i] by omega]
      .rw[af e,af (by omega)];omega
     rw[af a2,af a2,hps p hp,af a1];rw[af (show ¬ p=(10+qh r.1[i]).toNat by omega),af (show ¬ (r.1[i]≠0/\(p:Int)=13+r.1[i]/\(i:Int)<r.2.1-1) from fun k=>hs k.2.2)];by_cases e2:p=(3+r.1[i]).toNat
     .rw[aj e2,aj ⟨h0,by omega⟩]
     rw[af e2,af (show ¬ (r.1[i]≠0/\(p:Int)=3+r.1[i]) by omega)]
  .rw[qg (by omega)];have:i=4:=by omega
   subst this;exact⟨ws,mU,hw,rfl⟩
theorem acK(hn:W+6<=n){r:qp}(hr:aS r):∃ws:List Int,ws.length=20/\(∀p<20,ws.getD p 0=jQ r p)/\Tj (DD X n) r=some ((ws,()),()):=by
 obtain⟨n,rfl⟩:∃k,n=k+1:=⟨n-1,by omega⟩
 have hW:=ez;have hst:=hr.st;have hl:=hr.len;rw[ahi hX];simp only[X2,YP];rw[q8n hX (by omega) hr,qc];dsimp only;rw[cQ,aN];simp only[qwe];have Ww:(decide (0<r.1.length)&&decide (0<(List.replicate (Int.toNat 20) (0:Int)).length))=true:=by rw[bC (by omega),om];rfl
 obtain⟨w1,l1,h1,e1⟩:=AT hX n n (by omega) (fun bT dU=>qup (DD X n) n bT dU) hr n 0 (vZ (Ty.int IntKind.i64) (List.replicate (Int.toNat 20) 0) r.1) (by omega) (by omega)
  (by rw[P_];rfl) (fun p hp=>by
  have e0:(List.replicate (Int.toNat 20) (0:Int)).getD p 0=0:=by simp only[List.getD,vC];split<;>rfl
  have e1:=P9 (t:=Ty.int IntKind.i64) (xs:=List.replicate (Int.toNat 20) 0) (ys:=r.1) p (by rw[om];exact hp);rw[om,hl]at e1;refine dI e1 ?_;unfold qL;by_cases a1:p<4
  .rw[aj (by omega),aj a1];rfl
  .rw[af (by omega),af a1];refine dI e0 ?_;by_cases a2:10<=p/\p<13
   .rw[aj a2,List.take_zero];rfl
   rw[af a2];unfold wg o4 jx;rw[af a1];split
   .rw[af (by omega)]
   .split
    .rfl
    .rw[af (by omega)])
 rw[show((0:Nat):Int)=0 from rfl]at e1;refine⟨w1.set 13 r.2.1,by rw[b6];exact l1,fun p hp=>?_,(ew (fun c=>br c _ _) Ww).trans (e1.trans ?_)⟩
 .rw[pK _ _ _ _ (by omega),h1 p hp];unfold jQ qL wg;by_cases e:p=13
  .rw[aj e,af (by omega),af (by omega),af (by omega),aj e]
  rw[af e];by_cases a1:p<4
  .rw[aj a1,aj a1]
  by_cases a2:p<10
  .rw[af a1,af (by omega),af a1,aj a2,af a1,aj a2];rfl
  by_cases a3:p<13
  .rw[af a1,aj (by omega),af a1,af a2,aj a3,kq (by omega)]
  .rw[af a1,af (by omega),af a1,af a2,af (by omega),af a1,af a2,af a3,af e];rfl
 simp only[qup];rw[yo hX (by omega),qc];dsimp only;rw[fU (by omega) (by rw[l1];omega),aJ];rfl
end
theorem Hq(c:Int):∀(l:List Int)(k:Nat)(V:Int),k<l.length->many c (l.set k V)=many c l+cls c V-cls c (l.getD k 0)
 | [],k,V,h=>by simp at h
 | x::l,0,V,_=>by
  simp only[As,many,uP,cls];omega
 | x::l,k+1,V,h=>by
  simp only[Fe,many,E9];rw[Hq c l k V (by simpa using h)];omega
theorem P2{r:qp}(hr:aS r){v:Int}(hv:v≠0){k:Nat}(h:r.1[k]? = some v):aU v r.1 0=k:=by rw[Jk v r.1 0 k h (fun j hj hc=>hv (hr.once j k hj v hc h))];congr 1;omega
theorem Sa{r:qp}(hr:aS r){K:Nat}(hK:K<4){V:Int}(hV:V=0\/aU V r.1 0<0){v:Int}(hv:1<=v) :
  aU v (r.1.set K V) 0=if v=V then (K:Int) else if v=r.1.getD K 0 then -1 else aU v r.1 0:=by
 have hl:=hr.len;have jL:∀j,j≠K->(r.1.set K V)[j]? = r.1[j]?:=fun j hj=>by rw[jU,af (fun e=>hj e.symm)]
 have DS:(r.1.set K V)[K]? = some V:=by rw[jU,aj rfl,aj (by omega)]
 have Ut:r.1[K]? = some (r.1.getD K 0):=by rw[gP (by omega),qv (by omega)]
 by_cases e:v=V
 .rw[aj e];subst e;have hno:v∉r.1:=Mj v r.1 0 (by omega);rw[Jk v _ 0 K DS (fun j hj hc=>by
   rw[jL j (by omega)]at hc;exact hno (mS.2 ⟨j,hc⟩))]
  congr 1;omega
 rw[af e];by_cases e2:v=r.1.getD K 0
 .rw[aj e2];refine Az v _ 0 (fun hm=>?_);obtain⟨j,hj⟩:=mS.1 hm;by_cases q:j=K
  .subst q;rw[DS]at hj;exact e (gS hj).symm
  .rw[jL j q]at hj;rw[<-e2]at Ut;by_cases lt:j<K
   .have:=hr.once j K lt v hj Ut;omega
   .have:=hr.once K j (by omega) v Ut hj;omega
 rw[af e2];by_cases h0:aU v r.1 0<0
 .have hno:v∉r.1:=Mj _ _ _ h0;have:=rZ v r.1 0;rw[Az v _ 0 (fun hm=>by
   obtain⟨j,hj⟩:=mS.1 hm;by_cases q:j=K
   .subst q;rw[DS]at hj;exact e (gS hj).symm
   .rw[jL j q]at hj;exact hno (mS.2 ⟨j,hj⟩))]
  omega
 .obtain⟨k,hk⟩:∃k:Nat,aU v r.1 0=k:=⟨(aU v r.1 0).toNat,by omega⟩
  obtain⟨_,h2⟩:=Mi v r.1 0 k hk;rw[BH]at h2;have hkK:k≠K:=fun q=>by subst q;rw[Ut]at h2;exact e2 (gS h2).symm
  rw[hk,Jk v _ 0 k (by rw[jL k hkK];exact h2) (fun j hj hc=>by
   by_cases q:j=K
   .subst q;rw[DS]at hc;exact e (gS hc).symm
   .rw[jL j q]at hc;have:=hr.once j k hj v hc h2;omega)]
  congr 1;omega
theorem aco{r:qp}(hr:aS r){K:Nat}(hK:K<4){V:Int}(hV:V=0\/aU V r.1 0<0)(hV6:0<=V/\V<=6):aS (r.1.set K V,r.2):=by
 have hl:=hr.len;have jL:∀j,j≠K->(r.1.set K V)[j]? = r.1[j]?:=fun j hj=>by rw[jU,af (fun e=>hj e.symm)]
 have DS:(r.1.set K V)[K]? = some V:=by rw[jU,aj rfl,aj (by omega)]
 have hno:V≠0->V∉r.1:=fun h=>Mj V r.1 0 (by omega);refine⟨by show(r.1.set K V).length=4;rw[b6];exact hl,fun x hx=>?_,fun i j hij v g1 g2=>?_,hr.st⟩
 .rcases H7 hx with q | rfl
  .exact hr.dM x q
  .exact hV6
 .show v=0;have h1:(r.1.set K V)[i]? = some v:=g1;have h2:(r.1.set K V)[j]? = some v:=g2;clear g1 g2;by_cases q:i=K
  .subst q;rw[DS]at h1;rw[jL j (by omega)]at h2;have:=gS h1;subst this;by_cases z:V=0
   .exact z
   .exact absurd (mS.2 ⟨j,h2⟩) (hno z)
  .rw[jL i q]at h1;by_cases q2:j=K
   .subst q2;rw[DS]at h2;have:=gS h2;subst this;by_cases z:V=0
    .exact z
    .exact absurd (show V∈r.1 from mS.2 ⟨i,h1⟩) (hno z)
   .rw[jL j q2]at h2;exact hr.once i j hij v h1 h2
theorem Mz{r:qp}(hr:aS r){K:Nat}(hK:K<4){V:Int}(hV:V=0\/aU V r.1 0<0){p:Nat}(hp:p<20) :
  jQ (r.1.set K V,r.2) p=if p<4 then (if p=K then V else jQ r p)
   else if p<10 then (if (p:Int)-3=V then (K:Int)+1 else if (p:Int)-3=r.1.getD K 0 then 0 else jQ r p)
   else if p<13 then jQ r p+cls ((p:Int)-10) V-cls ((p:Int)-10) (r.1.getD K 0)
   else if p=13 then jQ r p
   else (if (p:Int)-13=V then (if (K:Int)<r.2.1-1 then (K:Int)+1 else 0) else if (p:Int)-13=r.1.getD K 0 then 0 else jQ r p):=by
 have hl:=hr.len;unfold jQ;by_cases a1:p<4
 .simp only[aj a1];rw[pK _ _ _ _ (by omega)]
 simp only[af a1];by_cases a2:p<10
 .simp only[aj a2];unfold o4;rw[Sa hr hK hV (by omega)];by_cases e:(p:Int)-3=V
  .simp only[aj e];rw[aj (by omega)]
  simp only[af e];by_cases e2:(p:Int)-3=r.1.getD K 0
  .simp only[aj e2];rw[af (by omega)]
  simp only[af e2]
 simp only[af a2];by_cases a3:p<13
 .simp only[aj a3];exact Hq _ _ _ _ (by omega)
 simp only[af a3];by_cases a4:p=13
 .simp only[aj a4]
 simp only[af a4];unfold jx;rw[Sa hr hK hV (by omega)];by_cases e:(p:Int)-13=V
 .simp only[aj e];by_cases q:(K:Int)<r.2.1-1
  .rw[aj ⟨by omega,by omega,q⟩,aj q]
  .rw[af (fun z=>q z.2.2),af q]
 simp only[af e];by_cases e2:(p:Int)-13=r.1.getD K 0
 .simp only[aj e2];rw[af (by omega)]
 simp only[af e2]
theorem EJ{v:Int}(hv:1<=v/\v<=6)(c:Int):cls c v=if qh v=c then 1 else 0:=by
 unfold cls;rw[lq.2 hv,qW];by_cases e:qh v=c
 .rw[bC e,aj e];rfl
 .rw[b8 e,af e];rfl
structure Du (r:qp) (K V:Int) (l:List Int):Prop where
 k:K∈l
 s:13∈l
 o:∀v,v=r.1.getD K.toNat 0\/v=V->1<=v->3+v∈l
 c:qh (r.1.getD K.toNat 0)≠qh V->∀v,v=r.1.getD K.toNat 0\/v=V->1<=v->10+qh v∈l
 v:K+1<r.2.1->∀v,v=r.1.getD K.toNat 0\/v=V->1<=v->13+v∈l
 x:∀p∈l,14<=p->K+1<r.2.1
structure Kd (r:qp) (K V:Int):Prop where
 k:0<=K/\K<=3
 v:0<=V/\V<=6
 h:0<=r.1.getD K.toNat 0/\r.1.getD K.toNat 0<=6
 z:V=0\/aU V r.1 0<0
 n:r.1.getD K.toNat 0≠V
theorem acM{r:qp}(hr:aS r){K V:Int}{l:List Int}(hc:Kd r K V)(hm:Du r K V l){p:Nat}(hp:p<20)(hn:(p:Int)∉l) :
  jQ (r.1.set K.toNat V,r.2) p=jQ r p:=by
 have hK:=hc.k;have hV:=hc.v;have hh:=hc.h;have hz:=hc.z;have hne:=hc.n;have hl:=hr.len;have Ul:K.toNat<4:=by omega
 have hcV:=yw V;have hcH:=yw (r.1.getD K.toNat 0);rw[Mz hr Ul hc.z hp];have hno:∀q,q∈l->(p:Int)≠q:=fun q hq e=>hn (e ▸ hq);by_cases a1:p<4
 .rw[aj a1,af (by have:=hno K hm.k;omega)]
 rw[af a1];by_cases a2:p<10
 .rw[aj a2,af (fun e=>by have:=hno _ (hm.o V (.inr rfl) (by omega));omega),af (fun e=>by have:=hno _ (hm.o _ (.inl rfl) (by omega));omega)]
 rw[af a2];by_cases a3:p<13
 .rw[aj a3];by_cases e:qh (r.1.getD K.toNat 0)=qh V
  .have h1:1<=V:=by omega
   have h2:1<=r.1.getD K.toNat 0:=by omega
   rw[EJ (by omega),EJ (by omega),e];omega
  .have q:=hm.c e;have f1:cls ((p:Int)-10) V=0:=by
    by_cases z:1<=V
    .rw[EJ (by omega),af (fun e=>by have:=hno _ (q V (.inr rfl) z);omega)]
    .rw[show V=0 by omega];rfl
   have f2:cls ((p:Int)-10) (r.1.getD K.toNat 0)=0:=by
    by_cases z:1<=r.1.getD K.toNat 0
    .rw[EJ (by omega),af (fun e=>by have:=hno _ (q _ (.inl rfl) z);omega)]
    .rw[show r.1.getD K.toNat 0=0 by omega];rfl
   rw[f1,f2];omega
 rw[af a3];by_cases a4:p=13
 .rw[aj a4]
 rw[af a4];have hw:jQ r p=jx ((p:Int)-13) r.1 4 r.2.1:=by unfold jQ;rw[af a1,af a2,af a3,af a4]
 by_cases e:(p:Int)-13=V
 .have hk:¬ K+1<r.2.1:=fun q=>by have:=hno _ (hm.v q V (.inr rfl) (by omega));omega
  rw[aj e,af (by omega),hw,e];unfold jx;rw[af (by omega)]
 rw[af e];by_cases e2:(p:Int)-13=r.1.getD K.toNat 0
 .have hk:¬ K+1<r.2.1:=fun q=>by have:=hno _ (hm.v q _ (.inl rfl) (by omega));omega
  have hkey:aU (r.1.getD K.toNat 0) r.1 0=K.toNat:=P2 hr (by omega) (by rw[gP (by omega),qv (by omega)]);rw[aj e2,hw,e2];unfold jx;rw[hkey,af (by omega)]
 rw[af e2]
theorem ajA{k:Int}(h:0<=qw k):qw k=k:=by have:=vc k;omega
theorem Ra{v:Int}(h:0<=q9 v):(1<=v/\v<=6)/\q9 v=3+v:=by have:=tE v;omega
theorem Nn{v:Int}(h:0<=fG v):(1<=v/\v<=6)/\fG v=13+v:=by have:=nS v;omega
theorem Qx{v:Int}(h:0<=iR (qh v)):(1<=v/\v<=6)/\(0<=qh v/\qh v<=2)/\iR (qh v)=10+qh v:=by have:=uW (qh v);have:=yw v;omega
theorem MU{c V:Int}(hV:0<=V/\V<=6)(h:qh V≠c):cls c V=0:=by
 by_cases z:1<=V
 .rw[EJ (by omega),af h]
 .rw[show V=0 by omega];rfl
theorem Qj(r:qp){c:Int}(hc:0<=c/\c<=2):jQ r (10+c).toNat=many c r.1:=by unfold jQ;rw[af (by omega),af (by omega),aj (by omega),show(((10+c).toNat:Nat):Int)-10=c by omega]
theorem ajx{r:qp}(hr:aS r){K V:Int}{l:List Int}(hc:Kd r K V)(hm:Du r K V l){q:Want}(hq:q∈eY K V (r.1.getD K.toNat 0) r.2.1)(hl:q.1∈l)(h0:0<=q.1) :
  q.1<20/\q.2 (bV r q.1)=bV (r.1.set K.toNat V,r.2) q.1:=by
 have hb:=i7;have hK:=hc.k;have hV:=hc.v;have hh:=hc.h;have hne:=hc.n;have hlen:=hr.len;have hst:=hr.st;have Ul:K.toNat<4:=by omega
 have hlt:=MT K V (r.1.getD K.toNat 0) r.2.1 q hq;have qF:=Mz hr Ul hc.z (p:=q.1.toNat) (by omega);refine⟨by omega,?_⟩;have hx:=fun h=>hm.x _ hl h;have hlK:K.toNat<r.1.length:=by omega
 have hms:=fun c=>Hq c r.1 K.toNat V hlK;have WT:=fun c=>JB c (r.1.set K.toNat V);unfold bV;rw[qF];clear qF hlt hl hm;unfold eY at hq;generalize tj:r.1.getD K.toNat 0=H at *;rcases bL.1 hq with hq | hq
 .simp only[bk,c_,dg]at hq;rcases hq with rfl | rfl | rfl | rfl | rfl | rfl<;>dsimp only at *
  .rw[ajA h0,aj (by omega),aj rfl]
  .rw[af (by decide),af (by decide),af (by decide),aj (by decide)];rfl
  .obtain⟨e1,e⟩:=Ra h0;rw[e,af (by omega),aj (by omega),af (by omega),aj (by omega)]
  .obtain⟨e1,e⟩:=Nn h0;rw[e,af (by omega),af (by omega),af (by omega),af (by omega),af (by omega),aj (by omega)]
  .obtain⟨e1,e⟩:=Ra h0;rw[e,af (by omega),aj (by omega),aj (by omega),qs (by omega) (by omega)];omega
  .obtain⟨e1,e⟩:=Nn h0;have hx:=hx (by omega);rw[e,af (by omega),af (by omega),af (by omega),af (by omega),aj (by omega),aj (by omega),qs (by omega) (by omega)];omega
 .cases me:qh H != qh V
  .rw[me]at hq;simp at hq
  rw[me,bz]at hq;have KH:qh H≠qh V:=by simpa using me
  simp only[bk,c_,dg]at hq;rcases hq with rfl | rfl<;>dsimp only at *
  .obtain⟨hH,ec,e⟩:=Qx h0;have a1:=JB (qh H) r.1;have a2:=hms (qh H);have a3:=WT (qh H);have f1:cls (qh H) H=1:=by rw[EJ hH,aj rfl]
   have f2:cls (qh H) V=0:=MU hV (fun q=>KH q.symm);rw[f1,f2]at a2;rw[e,af (by omega),af (by omega),aj (by omega),Qj r ec,show(((10+qh H).toNat:Nat):Int)-10=qh H by omega,f1,f2];unfold less;rw[qs (by omega) (by omega)];split<;>omega
  .obtain⟨hH,ec,e⟩:=Qx h0;have a1:=JB (qh V) r.1;have f1:cls (qh V) V=1:=by rw[EJ hH,aj rfl]
   have f2:cls (qh V) H=0:=MU hh KH;rw[e,af (by omega),af (by omega),aj (by omega),Qj r ec,show(((10+qh V).toNat:Nat):Int)-10=qh V by omega,f1,f2];unfold one;rw[qs (by omega) (by omega)];omega
theorem akx{r:qp}(hr:aS r){o:cH}(ho:dF o=true)(eJ:o.1=1\/o.1=2\/o.1=3)(hne:1<=r.1.getD o.2.1.toNat 0/\r.1.getD o.2.1.toNat 0<=6->r.1.getD o.2.1.toNat 0≠o.2.2.1){c:Int}{L:List Int}(hc:c=0)(h:Out r o c L) :
  Kd r o.2.1 o.2.2.1/\(o.1=1->r.1.getD o.2.1.toNat 0=0)/\(o.1≠1->r.1.getD o.2.1.toNat 0≠0):=by
 have hk:=v8 ho;have hl:=hr.len;have hK:0<=o.2.1/\o.2.1<=3:=by omega
 have hh:0<=r.1.getD o.2.1.toNat 0/\r.1.getD o.2.1.toNat 0<=6:=by rw[qv (by omega)];exact hr.dM _ (er _)
 have mk:(o.2.2.1=0\/aU o.2.2.1 r.1 0<0)->r.1.getD o.2.1.toNat 0≠o.2.2.1->Kd r o.2.1 o.2.2.1:=fun a b=>⟨hK,by omega,hh,a,b⟩
 cases h with
 | LS k h1 h2=>exact⟨mk (.inr h2) (by omega),fun _=>h1,fun q=>absurd k q⟩
 | TP k h1 h2 h3=>exact⟨mk (.inr h3) h2,fun q=>by omega,fun _=>h1⟩
 | Kk k h1=>exact⟨mk (.inl (by omega)) (by omega),fun q=>by omega,fun _=>h1⟩
 | IL k h1 h2=>exact absurd h2 (hne (by omega))
 | _=>omega
theorem ajZ{r:qp}(hr:aS r){o:cH}(ho:dF o=true)(eJ:o.1=1\/o.1=2\/o.1=3)(hc:Kd r o.2.1 o.2.2.1)(h1:o.1=1->r.1.getD o.2.1.toNat 0=0)(h2:o.1≠1->r.1.getD o.2.1.toNat 0≠0) :
  Du r o.2.1 o.2.2.1 (path (bV r) (prog o)):=by
 have hk:=v8 ho;have hb:=i7;have hh:=hc.h;have hz:=hc.z;have hne:=hc.n;have hst:=hr.st;have hK:0<=o.2.1/\o.2.1<=3:=hc.k;have hrow:qw o.2.1=o.2.1:=by have:=vc o.2.1;omega
 have Uy:=(tH hr hK).1;have hwo:1<=o.2.2.1->bV r (q9 o.2.2.1)=0:=fun z=>by
  rw[Dh hr (by have:=hc.v;omega)];have:=rZ o.2.2.1 r.1 0;omega
 have qF:=Dc r;have Ed:wrap .i64 (o.2.1+1)=o.2.1+1:=qs (by omega) (by omega);have hown:∀v,1<=v/\v<=6->q9 v=3+v:=fun v hv=>by have:=tE v;omega
 have nj:∀v,1<=v/\v<=6->fG v=13+v:=fun v hv=>by have:=nS v;omega
 have ua:∀v,1<=v/\v<=6->iR (qh v)=10+qh v:=fun v hv=>by have:=uW (qh v);have:=yw v;omega
 have zU:∀v,1<=v/\v<=6->0<=qh v/\qh v<=2:=fun v hv=>by have:=yw v;omega
 have hV:=hc.v;generalize tj:r.1.getD o.2.1.toNat 0=H at *;unfold prog;rcases eJ with k | k | k
 .rw[aj k];have hH:=h1 k;have t9:1<=o.2.2.1/\o.2.2.1<=6:=by omega
  have e:path (bV r) (sL o)=o.2.1::(3+o.2.2.1)::(10+qh o.2.2.1)::13::(if r.2.1<=o.2.1+1 then [] else [13+o.2.2.1]):=by unfold sL;simp only[path];rw[hrow,Uy,hH];simp only[cM,qT,cQ,bg,path];rw[hwo t9.1];simp only[qT,cQ,bg,path,B9,cr,fY];rw[qF,Ed,hown _ t9,nj _ t9,ua _ t9]
  rw[e];have g8:=zU _ t9;refine⟨by simp,by simp,fun v hv z=>?_,fun _ v hv z=>?_,fun q v hv z=>?_,fun p hp Kt=>?_⟩
  .have:v=o.2.2.1:=by omega
   subst this;simp
  .have:v=o.2.2.1:=by omega
   subst this;simp
  .have:v=o.2.2.1:=by omega
   subst this;rw[af (by omega)];simp
  .by_cases q:r.2.1<=o.2.1+1
   .rw[aj q]at hp;simp only[bk,c_,dg]at hp;omega
   .omega
 .have hH:=h2 (by omega);rw[af (by omega),aj k];have t9:1<=o.2.2.1/\o.2.2.1<=6:=by omega
  have tZ:1<=H/\H<=6:=by omega
  have e:path (bV r) (sM o)=o.2.1::(3+o.2.2.1)::(3+H)::((bif qh H != qh o.2.2.1 then [10+qh H,10+qh o.2.2.1] else [])++13::(if r.2.1<=o.2.1+1 then [] else [13+H,13+o.2.2.1])):=by
   unfold sM;simp only[path];rw[hrow,Uy,b8 hH,b8 hne];simp only[bg,path];rw[hwo t9.1];simp only[cM,qT,cQ,bg,path];cases decide (qh H=qh o.2.2.1)
   .simp only[iN,bz,path,B9,cr,fY,fE,gx];rw[qF,Ed,hown _ t9,nj _ t9,ua _ t9,hown _ tZ,nj _ tZ,ua _ tZ]
   .simp only[cQ,bg,path,B9,cr,fY,fE,gx];rw[qF,Ed,hown _ t9,nj _ t9,hown _ tZ,nj _ tZ]
  rw[e];have g8:=zU _ t9;have rO:=zU _ tZ;refine⟨by simp,by simp,fun v hv z=>?_,fun q v hv z=>?_,fun q v hv z=>?_,fun p hp Kt=>?_⟩
  .rw[tj]at hv;rcases hv with rfl | rfl<;>simp
  .rw[tj]at hv q;rw[cM,b8 q];rcases hv with rfl | rfl<;>simp
  .rw[tj]at hv;rw[af (by omega)];rcases hv with rfl | rfl<;>simp
  .by_cases q:r.2.1<=o.2.1+1
   .rw[aj q]at hp;cases hq:qh H != qh o.2.2.1
    .rw[hq]at hp;simp only[bg,gx,bk,c_,dg]at hp;omega
    .rw[hq]at hp;simp only[bz,fE,gx,bk,c_,dg]at hp;omega
   .omega
 .have hH:=h2 (by omega);rw[af (by omega),af (by omega),aj k];have tZ:1<=H/\H<=6:=by omega
  have e:path (bV r) (u5 o)=o.2.1::(3+H)::(10+qh H)::13::(if r.2.1<=o.2.1+1 then [] else [13+H]):=by unfold u5;simp only[path];rw[hrow,Uy,b8 hH];simp only[bg,path,B9,cr,fY];rw[qF,Ed,hown _ tZ,nj _ tZ,ua _ tZ]
  rw[e];have rO:=zU _ tZ;refine⟨by simp,by simp,fun v hv z=>?_,fun q v hv z=>?_,fun q v hv z=>?_,fun p hp Kt=>?_⟩
  .have:v=H:=by omega
   subst this;simp
  .have:v=H:=by omega
   subst this;simp
  .have:v=H:=by omega
   subst this;rw[af (by omega)];simp
  .by_cases q:r.2.1<=o.2.1+1
   .rw[aj q]at hp;simp only[bk,c_,dg]at hp;omega
   .omega
theorem AZ{r:qp}(hr:aS r){p:Nat}(hp:p<20)(zb:p≠13)(hk:14<=p->aU ((p:Int)-13) r.1 0≠r.2.1-1\/r.2.1=0):jQ (r.1,r.2.1+1,()) p=jQ r p:=by
 have hst:=hr.st;unfold jQ;by_cases a1:p<4
 .rw[aj a1,aj a1]
 rw[af a1,af a1];by_cases a2:p<10
 .rw[aj a2,aj a2]
 rw[af a2,af a2];by_cases a3:p<13
 .rw[aj a3,aj a3]
 rw[af a3,af a3,af zb,af zb];have hk:=hk (by omega);unfold jx;dsimp only;by_cases e:0<=aU ((p:Int)-13) r.1 0/\aU ((p:Int)-13) r.1 0<4/\aU ((p:Int)-13) r.1 0<r.2.1-1
 .rw[aj e,aj (by omega)]
 .rw[af e,af (by omega)]
theorem TG{r:qp}{o:cH}(c:Int)(h:¬ (o.1=1\/o.1=2)/\¬ o.1=3/\¬ (o.1=8\/o.1=9)):jg r o c=r:=by unfold jg;rw[af h.1,af h.2.1,af h.2.2];split<;>rfl
structure sZ (w w':Int->Int) (E:List eu):Prop where
 zL:lI E
 old:∀e∈E,0<=e.1/\e.1<20/\e.2.1=w e.1/\e.2.2.1=w' e.1
 rest:∀p:Nat,p<20->(∀e∈E,e.1≠(p:Int))->w p=w' p
theorem abh{r:qp}(hr:aS r){o:cH}(ho:dF o=true)(dn:mK o (fo r o)=none) :
  sZ (bV r) (bV (jg r o (eE o (fo r o)).1)) (dz o (fo r o))/\aS (jg r o (eE o (fo r o)).1):=by
 have hb:=i7;have hw:=fun k hk=>(tH hr (k:=k) hk).2;have hpk:=Jw ho (bV r) hw;have hrun:=GB hr ho;have hkn:=FQ r o;have z5:=v8 ho;have hst:=hr.st;have hl:=hr.len;have gm:dF o=true/\(run (fo r o) (prog o)).2<0:=⟨ho,by rw[hrun];show(-1:Int)<0;omega⟩
 have hrd:∀p,p∈path (bV r) (prog o)->(eP (fo r o) p).1=bV r p:=fun p hp=>by rw[hkn p,aj hp]
 have zZ:∀p,0<=p->(hit (fo r o) p=true↔p∈path (bV r) (prog o)):=fun p hp=>by rw[AB hkn hp,gQ]
 have hout:=Ng hr ho;have uh:gh o (fo r o)=((false,eE o (fo r o),dz o (fo r o),()),true,()):=by unfold gh;rw[aj gm,dn]
 rw[uh]at hout;dsimp only at hout;obtain⟨hA,hB⟩:=MV ho hw hkn hrun dn;by_cases eJ:o.1=1\/o.1=2\/o.1=3
 .obtain⟨hv,hsub⟩:=RZ ho hw hkn dn eJ;have hne:=xH ho dn eJ;have Ed:=(tH hr (k:=o.2.1) (by omega)).1;rw[hv,Ed]at hne;have hres:eE o (fo r o)=(0,[],()):=by unfold eE;rw[af (by omega),af (by omega)]
  rw[hres]at hout⊢;obtain⟨hc,h1,h2⟩:=akx hr ho eJ hne rfl hout;have hm:=ajZ hr ho eJ hc h1 h2;have zR:jg r o 0=(r.1.set o.2.1.toNat o.2.2.1,r.2):=by
   unfold jg;rw[af (by omega)];by_cases Ja:o.1=1\/o.1=2
   .rw[aj Ja]
   .rw[af Ja,aj (by omega),show o.2.2.1=0 by omega]
  show sZ _ (bV (jg r o 0)) _/\aS (jg r o 0);rw[zR];have zb:val (fo r o) 13=r.2.1:=hrd 13 hm.s;have hE:dz o (fo r o)=(iu (fo r o) (eY o.2.1 o.2.2.1 (r.1.getD o.2.1.toNat 0) r.2.1)).foldl g9 []:=by unfold dz;rw[aj eJ,hv,Ed,zb]
  obtain⟨_,r2,r3,r4⟩:=Ma (got:=fo r o) (K:=o.2.1) (V:=o.2.2.1) (held:=r.1.getD o.2.1.toNat 0) (st:=r.2.1) hne;refine⟨⟨by rw[hE];exact r2,fun e he=>?_,fun p hp hno=>?_⟩,aco hr (by have:=hc.k;omega) hc.z hc.v⟩
  .rw[hE]at he;obtain⟨q,hq,hh,rfl⟩:=(Ji _ _ _).1 ((r3 e).1 he);have Ld:=A7 hh;have hqm:=(zZ q.1 Ld).1 hh;have hn:=ajx hr hc hm hq hqm Ld;have:=hrd q.1 hqm;refine⟨Ld,hn.1,this,?_⟩;show q.2 (eP (fo r o) q.1).1=_;rw[this];exact hn.2
  .have hnp:(p:Int)∉path (bV r) (prog o):=fun hm=>by
    obtain⟨e,he,e1,_⟩:=hA _ hm;exact hno e he e1
   exact(acM hr hc hm hp hnp).symm
 .obtain⟨_,pl⟩:=GK ho dn gm.2 eJ;have I4:(run (fo r o) (prog o)).1=path (bV r) (prog o):=by rw[hrun]
  rw[I4]at pl;have hmem:∀L:List Int,(path (bV r) (prog o)).foldl (jZ fC) []=L->∀p∈L,p∈path (bV r) (prog o):=by
   intro L hL p hp;rw[<-hL,Gy]at hp;rcases hp with h | h
   .simp at h
   .exact h
  have hsame:∀p,p∈path (bV r) (prog o)->val (fo r o) p=bV r p:=hrd;rcases pl with⟨k,hp⟩ | ⟨k,hz,hp⟩ | ⟨k,hz,hp⟩ | ⟨k,hp⟩
  .have m:=hmem _ hp;have zR:∀c,jg r o c=r:=fun c=>TG c (by omega);rw[zR];refine⟨?_,hr⟩;have hE:dz o (fo r o)=[same (fo r o) 0,same (fo r o) 1,same (fo r o) 2,same (fo r o) 3]:=by unfold dz;rw[af eJ,aj k]
   rw[hE];refine⟨by simp[lI,same],fun e he=>?_,fun p _ _=>rfl⟩;simp only[bk,c_,dg]at he;rcases he with rfl | rfl | rfl | rfl<;>exact⟨by simp[same],by simp[same],hsame _ (m _ (by simp)),hsame _ (m _ (by simp))⟩
  .have m:=hmem _ hp;have zb:=hsame 13 (m _ (by simp));have qF:=Dc r;have D7:r.2.1=0:=by omega
   have hres:eE o (fo r o)=(0,[],()):=by unfold eE;rw[af (by omega),af (by omega)]
   have zR:jg r o 0=(r.1,r.2.1+1,()):=by unfold jg;rw[af (by omega),af (by omega),af (by omega),aj (.inl k),qs (by omega) (by omega)]
   rw[hres];show sZ _ (bV (jg r o 0)) _/\aS (jg r o 0);rw[zR];refine⟨?_,⟨hl,hr.dM,hr.once,by show 0<=r.2.1+1/\r.2.1+1<=5;omega⟩⟩;have hE:dz o (fo r o)=[(13,val (fo r o) 13,1,())]:=by unfold dz;rw[af eJ,af (by omega),aj k]
   rw[hE];refine⟨List.pairwise_singleton _ _,fun e he=>?_,fun p hp hno=>?_⟩
   .simp only[bk,c_,dg]at he;subst he;refine⟨by simp[same],by simp[same],zb,?_⟩;show(1:Int)=r.2.1+1;omega
   .have h1:=hno _ (d6.2 rfl);dsimp only at h1;exact(AZ hr hp (by omega) (fun _=>.inr D7)).symm
  .have m:=hmem _ hp;have zb:=hsame 13 (m _ (by simp));have qF:=Dc r;have hres:eE o (fo r o)=(0,[],()):=by unfold eE;rw[af (by omega),af (by omega)]
   have zR:jg r o 0=(r.1,r.2.1+1,()):=by unfold jg;rw[af (by omega),af (by omega),af (by omega),aj (.inr k),qs (by omega) (by omega)]
   rw[hres];show sZ _ (bV (jg r o 0)) _/\aS (jg r o 0);rw[zR];refine⟨?_,⟨hl,hr.dM,hr.once,by show 0<=r.2.1+1/\r.2.1+1<=5;omega⟩⟩;have Lv:val (fo r o) 13=r.2.1:=zb;have hrow:qw (wrap .i64 (val (fo r o) 13-1))=r.2.1-1:=by rw[Lv,qs (by omega) (by omega)];have:=vc (r.2.1-1);omega
   have hE:dz o (fo r o)=same (fo r o) (qw (wrap .i64 (val (fo r o) 13-1)))::(13,val (fo r o) 13,wrap .i64 (val (fo r o) 13+1),())::
     (bif bt (val (fo r o) (qw (wrap .i64 (val (fo r o) 13-1)))) 1 6 then [(fG (val (fo r o) (qw (wrap .i64 (val (fo r o) 13-1)))),val (fo r o) (fG (val (fo r o) (qw (wrap .i64 (val (fo r o) 13-1))))),val (fo r o) 13,())] else []):=by
    unfold dz;rw[af eJ,af (by omega),af (by omega),aj k]
   rw[hE];rw[hrow]at m⊢;have D9:=hsame (r.2.1-1) (m _ (by simp));have xj:=tH hr (k:=r.2.1-1) (by omega);rw[D9,xj.1]at m⊢;rw[Lv,qs (by omega) (by omega)];have jL:r.1[(r.2.1-1).toNat]? = some (r.1.getD (r.2.1-1).toNat 0):=by rw[gP (by omega),qv (by omega)]
   have Xe:=xj.2;rw[xj.1]at Xe;generalize r.1.getD (r.2.1-1).toNat 0=v at *;have hx:jQ (r.1,r.2.1+1,()) (r.2.1-1).toNat=jQ r (r.2.1-1).toNat:=AZ hr (by omega) (by omega) (fun q=>by omega);by_cases hv1:1<=v
   .have hin:bt v 1 6=true:=lq.2 (by omega);rw[hin,bz]at m⊢;have nj:fG v=13+v:=by have:=nS v;omega
    have hkey:aU v r.1 0=r.2.1-1:=by rw[P2 hr (by omega) jL];omega
    have Ab:=hsame (fG v) (m _ (by simp));rw[nj]at Ab⊢;have hnew:jQ (r.1,r.2.1+1,()) (13+v).toNat=r.2.1:=by unfold jQ;rw[af (by omega),af (by omega),af (by omega),af (by omega),show(((13+v).toNat:Nat):Int)-13=v by omega];unfold jx;dsimp only;rw[hkey,aj (by omega)];omega
    refine⟨?_,fun e he=>?_,fun p hp hno=>?_⟩
    .simp only[lI,same,l_,bk,c_,dg,uH,uM,List.Pairwise.nil,iO,BP,uO,BG];omega
    .simp only[bk,c_,dg]at he;rcases he with rfl | rfl | rfl
     .refine⟨by show 0<=r.2.1-1;omega,by show r.2.1-1<20;omega,D9,?_⟩;show val (fo r o) (r.2.1-1)=jQ (r.1,r.2.1+1,()) (r.2.1-1).toNat
      rw[hx];exact D9
     .exact⟨by simp[same],by simp[same],by show r.2.1=bV r 13;omega,rfl⟩
     .exact⟨by show 0<=13+v;omega,by show 13+v<20;omega,Ab,hnew.symm⟩
    .have h1:=hno _ (cB _ eW);have h2:=hno _ (cB _ (cB _ eW));dsimp only at h1 h2;refine(AZ hr hp (by omega) (fun _=>.inl (fun q=>?_))).symm;obtain⟨_,g⟩:=Mi _ r.1 0 (r.2.1-1).toNat (q.trans (by omega))
     rw[BH,jL]at g;have:=gS g;omega
   .have hin:bt v 1 6=false:=ID (by omega);rw[hin,bg]at m⊢;refine⟨?_,fun e he=>?_,fun p hp hno=>?_⟩
    .simp only[lI,same,l_,bk,c_,dg,uH,uM,List.Pairwise.nil,iO,BP,uO,BG];omega
    .simp only[bk,c_,dg]at he;rcases he with rfl | rfl
     .refine⟨by show 0<=r.2.1-1;omega,by show r.2.1-1<20;omega,D9,?_⟩;show val (fo r o) (r.2.1-1)=jQ (r.1,r.2.1+1,()) (r.2.1-1).toNat
      rw[hx];exact D9
     .exact⟨by simp[same],by simp[same],by show r.2.1=bV r 13;omega,rfl⟩
    .have h1:=hno _ (cB _ eW);dsimp only at h1;refine(AZ hr hp (by omega) (fun _=>.inl (fun q=>?_))).symm;obtain⟨_,g⟩:=Mi _ r.1 0 (r.2.1-1).toNat (q.trans (by omega))
     rw[BH,jL]at g;have:=gS g;omega
  .have m:=hmem _ hp;have zR:∀c,jg r o c=r:=fun c=>TG c (by omega);rw[zR];refine⟨?_,hr⟩;have hE:dz o (fo r o)=[same (fo r o) 13,same (fo r o) (fG o.2.2.1)]:=by unfold dz;rw[af eJ,af (by omega),af (by omega),af (by omega),aj k]
   have hv:fG o.2.2.1=13+o.2.2.1:=by have:=nS o.2.2.1;omega
   rw[hE];rw[hv]at m⊢;refine⟨by simp[lI,same];omega,fun e he=>?_,fun p _ _=>rfl⟩;simp only[bk,c_,dg]at he;rcases he with rfl | rfl
   .exact⟨by simp[same],by simp[same],hsame _ (m _ (by simp)),hsame _ (m _ (by simp))⟩
   .exact⟨by show 0<=13+o.2.2.1;omega,by show 13+o.2.2.1<20;omega,hsame _ (m _ (by simp)),hsame _ (m _ (by simp))⟩
def dG(got:dK)(p:Int):Int:=(eP got p).1
def gY(got:dK):List Int:=got.map (·.1)
def qN(got:dK)(o:cH):Prop:=∃B,path (dG got) (prog o)=gY got++B
def sC(got:dK):Prop:=∀g∈got,0<=g.2.1/\g.2.1<=6
theorem NB(q:Int):∀(a b:dK)(v:Int)(ok:Bool),rd q (a++b) v ok=rd q b (rd q a v ok).1 (rd q a v ok).2
 | [],b,v,ok=>rfl
 | (p,x,_)::a,b,v,ok=>by
  simp only[fE,rd];split<;>exact NB q a b _ _
theorem Ql(got:dK)(p v q:Int):eP (got++[(p,v,())]) q=if p=q then (v,true) else eP got q:=by unfold eP;rw[NB];simp only[rd]
theorem Br(q:Int):∀(a:dK)(v:Int)(ok:Bool),q∉gY a->rd q a v ok=(v,ok)
 | [],v,ok,_=>rfl
 | (p,x,_)::a,v,ok,h=>by
  simp only[gY,cr,bk,n6]at h;simp only[rd];rw[af (fun e=>h.1 e.symm)];exact Br q a v ok h.2
theorem qM(q:Int):∀(a:dK)(v:Int)(ok:Bool),q∈gY a->(rd q a v ok).2=true/\∃g∈a,g.1=q/\(rd q a v ok).1=g.2.1
 | [],v,ok,h=>by simp[gY]at h
 | (p,x,u)::a,v,ok,h=>by
  simp only[rd];by_cases hq:q∈gY a
  .obtain⟨h1,g,hg,h2⟩:=qM q a (if p=q then x else v) (if p=q then true else ok) hq;have e:(if p=q then rd q a x true else rd q a v ok)=rd q a (if p=q then x else v) (if p=q then true else ok):=by split<;>rfl
   rw[e];exact⟨h1,g,cB _ hg,h2⟩
  .have hp:q=p:=by simp only[gY,cr,bk]at h;exact h.resolve_right hq
   rw[aj hp.symm,Br q a x true hq];exact⟨rfl,(p,x,u),eW,hp.symm,rfl⟩
theorem Gz(got:dK):Ao got (dG got) (gY got):=by
 intro q;by_cases h:q∈gY got
 .rw[aj h];exact Prod.ext rfl (qM q got 0 false h).1
 .rw[af h];exact Br q got 0 false h
theorem M3:∀{got:dK},(gY got).Nodup->∀{g g':Int×Int×Unit},g∈got->g'∈got->g'.1=g.1->g=g'
 | [],_,g,g',hg,_,_=>by simp at hg
 | a::l,h,g,g',hg,hg',h1=>by
  rw[gY,cr,FC]at h;rcases bk.1 hg with rfl | hg2
  .rcases bk.1 hg' with rfl | WI
   .rfl
   .exact absurd (eH.2 ⟨g',WI,h1⟩) h.1
  .rcases bk.1 hg' with rfl | WI
   .exact absurd (eH.2 ⟨g,hg2,h1.symm⟩) h.1
   .exact M3 h.2 hg2 WI h1
theorem My{got:dK}(h:(gY got).Nodup){g:Int×Int×Unit}(hg:g∈got):dG got g.1=g.2.1:=by have hm:g.1∈gY got:=eH.2 ⟨g,hg,rfl⟩;obtain⟨_,g',hg',h1,h2⟩:=qM g.1 got 0 false hm;have e:=M3 h hg hg' h1;have e2:dG got g.1=g'.2.1:=h2;rw[e2,e]
theorem Md{got:dK}(hg:sC got)(p:Int):0<=dG got p/\dG got p<=6:=by
 by_cases h:p∈gY got
 .obtain⟨_,g,hm,_,e⟩:=qM p got 0 false h;have:=hg g hm;unfold dG eP;rw[e];exact this
 .have:=Br p got 0 false h;unfold dG eP;rw[this];dsimp only;omega
theorem Gt{w w':Int->Int}:∀(A:List Int)(P:PR)(B:List Int),path w P=A++B->(∀a∈A,w' a=w a)->∃B',path w' P=A++B'/\B'.head? = B.head?
 | [],.done,B,h,_=>⟨[],rfl,by simp only[path,gx]at h;rw[<-h]⟩
 | [],.ask p k,B,h,_=>⟨p::path w' (k (w' p)),rfl,by simp only[path,gx]at h;rw[<-h];rfl⟩
 | a::A,.done,B,h,_=>by simp[path]at h
 | a::A,.ask p k,B,h,hw=>by
  simp only[path,fE,eS]at h;obtain⟨rfl,h⟩:=h;obtain⟨B',h1,h2⟩:=Gt A (k (w p)) B h fun b hb=>hw b (cB _ hb);exact⟨B',by simp only[path,fE];rw[hw p eW,h1],h2⟩
section
variable {o:cH} (ho:dF o=true) {got:dK} (hg:sC got)
include ho hg
theorem J2(h:qN got o):(gY got).Nodup/\(∀p∈gY got,0<=p/\p<20)/\got.length<=8:=by obtain⟨B,hB⟩:=h;have hp:=Jw ho (dG got) (fun k _=>Md hg k);rw[hB]at hp;refine⟨(Fv.1 hp.once).1,fun p h=>hp.dM p (Ar _ h),?_⟩;have:=hp.len;rw[cI,gY,jz]at this;omega
theorem J4(h:qN got o):(run got (prog o)).1=gY got/\
  ((path (dG got) (prog o)=gY got/\(run got (prog o)).2 = -1)\/∃q B,path (dG got) (prog o)=gY got++q::B/\(run got (prog o)).2=q/\(0<=q/\q<20)/\q∉gY got/\got.length<8):=by
 obtain⟨B,hB⟩:=h;have hp:=Jw ho (dG got) (fun k _=>Md hg k);rw[hB]at hp;have hn:=Fv.1 hp.once;have hr:=G8 (Gz got) (gY got) B (prog o) hB (fun a h=>h) (fun a h=>(hp.dM a h).1) (fun b B' e hb=>hn.2.2 b hb b (by rw[e];exact eW) rfl);rw[hr];refine⟨rfl,?_⟩;cases B with
 | nil=>exact .inl ⟨by rw[hB,gR],rfl⟩
 | cons q B=>refine .inr ⟨q,B,hB,rfl,hp.dM q (by simp),fun h=>hn.2.2 q h q eW rfl,?_⟩;have:=hp.len;rw[cI,gY,jz,cq]at this;omega
theorem aa7(h:qN got o){q:Int}{B:List Int}(hq:path (dG got) (prog o)=gY got++q::B)(hn:q∉gY got)(v:Int):qN (got++[(q,v,())]) o:=by
 have hw:∀a∈gY got,dG (got++[(q,v,())]) a=dG got a:=by intro a ha;unfold dG;rw[Ql,af (fun e:q=a=>hn (by rw[e];exact ha))]
 obtain⟨B',h1,h2⟩:=Gt (gY got) (prog o) (q::B) hq hw;cases B' with
 | nil=>simp at h2
 | cons b B'=>simp only[List.head?_cons,aK]at h2;subst h2;exact⟨B',by rw[h1];simp[gY]⟩
end
theorem QI(o:cH):qN [] o:=⟨path (dG []) (prog o),rfl⟩
theorem abU{o:cH}{got:dK}{r:qp}(hn:(gY got).Nodup)(hp:path (dG got) (prog o)=gY got)(h:∀g∈got,g.2.1=bV r g.1):got=fo r o:=by
 have hw:∀a∈gY got,bV r a=dG got a:=by intro a ha;obtain⟨g,hg,rfl⟩:=eH.1 ha;rw[My hn hg,h g hg]
 obtain⟨B',h1,h2⟩:=Gt (w':=bV r) (gY got) (prog o) [] (by rw[hp,gR]) hw;have hB:B'=[]:=by cases B' with | nil=>rfl | cons b B'=>simp at h2
 rw[hB,gR]at h1;unfold fo;rw[h1,gY,BF];have:got.map ((fun p=>(p,bV r p,())) ∘ fun(x:Int×Int×Unit)=>x.1)=got.map id:=by apply rK;intro g hg;show(g.1,bV r g.1,())=g;rw[<-h g hg]
 rw[this,List.map_id]
theorem Mu:∀(a b:List Int),a.Nodup->(∀x∈a,x∈b)->b.length<=a.length->∀x∈b,x∈a
 | [],b,_,_,hl,x,hx=>by
  have:b=[]:=lB.1 (by simpa using hl);rw[this]at hx;exact hx
 | a::l,b,hn,hs,hl,x,hx=>by
  rw[FC]at hn;have hab:=hs a eW;have hlen:=List.length_erase_of_mem hab;have hpos:0<b.length:=List.length_pos_of_mem hab;have:=Mu l (b.erase a) hn.2 (fun y hy=>(List.mem_erase_of_ne (fun e=>hn.1 (by rw[<-e];exact hy))).2 (hs y (cB _ hy))) (by simp only[cq]at hl;omega);by_cases h:x=a
  .rw[h];exact eW
  .exact cB _ (this x ((List.mem_erase_of_ne h).2 hx))
section
variable {o:cH} (ho:dF o=true) {got:dK} (hg:sC got) (oy:qN got o) (hp:path (dG got) (prog o)=gY got) (dn:mK o got=none)
include ho hg oy hp dn
theorem MW:lI (dz o got):=by
 have hpk:=Jw ho (dG got) (fun k _=>Md hg k);have hk:Ao got (dG got) (path (dG got) (prog o)):=by rw[hp];exact Gz got
 have hrun:(run got (prog o)).2 = -1:=by
  rcases(J4 ho hg oy).2 with h | ⟨q,B,h,_⟩
  .exact h.2
  .rw[hp]at h;have:=ew List.length h;simp at this
 have I8:∀p∈path (dG got) (prog o),val got p=dG got p:=fun p hp=>rfl;unfold dz;by_cases eJ:o.1=1\/o.1=2\/o.1=3
 .rw[aj eJ];obtain⟨_,r2,_,_⟩:=Ma (got:=got) (K:=o.2.1) (V:=o.2.2.1) (held:=val got (qw o.2.1)) (st:=val got 13) (xH ho dn eJ);exact r2
 rw[af eJ];by_cases k7:o.1=7
 .rw[aj k7];simp[lI,same]
 rw[af k7];by_cases k8:o.1=8
 .rw[aj k8];simp[lI]
 rw[af k8];by_cases k9:o.1=9
 .rw[aj k9];have h1:=vc (wrap .i64 (val got 13-1));generalize qw (wrap .i64 (val got 13-1))=q at *;have h2:=nS (val got q);cases hin:bt (val got q) 1 6
  .simp[lI,same,cond];omega
  .have:=lq.1 hin;simp only[bz,lI,same,l_,bk,c_,dg,uH,uM,List.Pairwise.nil,iO,false_imp_iff,uO];omega
 rw[af k9];by_cases jn:o.1=10
 .rw[aj jn];have z5:=v8 ho;have h2:=nS o.2.2.1;simp only[lI,same,l_,bk,c_,dg,uH,uM,List.Pairwise.nil,iO,false_imp_iff,uO];omega
 rw[af jn];exact List.Pairwise.nil
theorem A4:(∀g∈got,∃e∈dz o got,e.1=g.1/\e.2.1=g.2.1)/\(∀e∈dz o got,∃g∈got,g.1=e.1/\g.2.1=e.2.1)/\(dz o got).length=got.length:=by
 have hk:Ao got (dG got) (path (dG got) (prog o)):=by rw[hp];exact Gz got
 have hn:=(J2 ho hg oy).1;have hrun:run got (prog o)=(path (dG got) (prog o),-1):=by
  obtain⟨h1,h2⟩:=J4 ho hg oy;rcases h2 with h | ⟨q,B,h,_⟩
  .exact Prod.ext (by rw[h1,hp]) h.2
  .rw[hp]at h;have:=ew List.length h;simp at this
 obtain⟨hA,hB⟩:=MV ho (fun k _=>Md hg k) hk hrun dn;rw[hp]at hA hB;have hlen:(dz o got).length=got.length:=by rw[hB,gY,jz]
 have oR:=MW ho hg oy hp dn;have h1:∀g∈got,∃e∈dz o got,e.1=g.1/\e.2.1=g.2.1:=by intro g zf;obtain⟨e,he,a,b⟩:=hA g.1 (eH.2 ⟨g,zf,rfl⟩);exact⟨e,he,a,by rw[b,My hn zf]⟩
 refine⟨h1,?_,hlen⟩;intro e he;have hm:e.1∈gY got:=by refine Mu (gY got) ((dz o got).map (·.1)) hn (fun x hx=>?_) (by rw[jz,hlen,gY,jz];exact ck _) e.1 (eH.2 ⟨e,he,rfl⟩);obtain⟨g,zf,rfl⟩:=eH.1 hx;obtain⟨e',he',a,_⟩:=h1 g zf;exact eH.2 ⟨e',he',a⟩
 obtain⟨g,zf,hge⟩:=eH.1 hm;obtain⟨e',he',a,b⟩:=h1 g zf;have:e'=e:=by
  have Up:=QK oR;have hinj:∀(l:List eu),(l.map (·.1)).Nodup->∀x∈l,∀y∈l,x.1=y.1->x=y:=by
   intro l
   induction l with
   | nil=>intro _ x hx;simp at hx
   | cons c l ih=>
    intro hd x hx y hy hxy;rw[cr,FC]at hd;rcases bk.1 hx with hx | hx
    .rcases bk.1 hy with hy | hy
     .rw[hx,hy]
     .exact absurd (eH.2 ⟨y,hy,by rw[<-hxy,hx]⟩) hd.1
    .rcases bk.1 hy with hy | hy
     .exact absurd (eH.2 ⟨x,hx,by rw[hxy,hy]⟩) hd.1
     .exact ih hd.2 x hx y hy hxy
  exact hinj _ Up e' he' e he (by rw[a];exact hge)
 rw[this]at b;exact⟨g,zf,hge,b.symm⟩
theorem MX:∀e∈dz o got,(0<=e.1/\e.1<20)/\(0<=e.2.1/\e.2.1<=1000)/\(0<=e.2.2.1/\e.2.2.1<=1000):=by
 intro e he;obtain⟨g,zf,h1,h2⟩:=(A4 ho hg oy hp dn).2.1 e he;have hr:=(J2 ho hg oy).2.1 g.1 (eH.2 ⟨g,zf,rfl⟩);have hv:=hg g zf;refine⟨by omega,by omega,?_⟩;have hval:∀p,0<=val got p/\val got p<=6:=fun p=>Md hg p;have z5:=v8 ho;unfold dz at he;by_cases eJ:o.1=1\/o.1=2\/o.1=3
 .rw[aj eJ]at he;obtain⟨_,_,r3,_⟩:=Ma (got:=got) (K:=o.2.1) (V:=o.2.2.1) (held:=val got (qw o.2.1)) (st:=val got 13) (xH ho dn eJ);rw[r3,Ji]at he;obtain⟨q,hq,hh,rfl⟩:=he;dsimp only;have hold:=hval q.1;unfold val at hold;generalize (eP got q.1).1=old at *;have zb:=hval 13;unfold eY at hq;have z9:0<=one old/\one old<=1000:=by unfold one;rw[qs (by omega) (by omega)];omega
  have nY:0<=less old/\less old<=1000:=by unfold less;rw[qs (by omega) (by omega)];split<;>omega
  have Uk:wrap .i64 (o.2.1+1)=o.2.1+1:=qs (by omega) (by omega);have als:=z5;have hc:q=(qw o.2.1,fun _=>o.2.2.1)\/q=(13,fun _=>val got 13)\/q.2=(fun _=>0)\/q.2=(fun _=>wrap .i64 (o.2.1+1))\/q.2=less\/q.2=one:=by
   cases me:qh (val got (qw o.2.1)) != qh o.2.2.1
   .rw[me]at hq;simp only[bg,gR,bk,c_,dg]at hq;rcases hq with rfl | rfl | rfl | rfl | rfl | rfl<;>simp
   .rw[me]at hq;simp only[bz,fE,gx,bk,c_,dg]at hq;rcases hq with rfl | rfl | rfl | rfl | rfl | rfl | rfl | rfl<;>simp
  rcases hc with e | e | e | e | e | e
  .rw[e];show 0<=o.2.2.1/\o.2.2.1<=1000;omega
  .rw[e];show 0<=val got 13/\val got 13<=1000;omega
  .rw[e];show(0:Int)<=0/\(0:Int)<=1000;omega
  .rw[e];show 0<=wrap .i64 (o.2.1+1)/\wrap .i64 (o.2.1+1)<=1000;rw[Uk];omega
  .rw[e];exact nY
  .rw[e];exact z9
 have hsame:∀p,0<=(same got p).2.2.1/\(same got p).2.2.1<=1000:=fun p=>by have:=hval p;unfold same;dsimp only;omega
 have zb:=hval 13;rw[af eJ]at he;by_cases k7:o.1=7
 .rw[aj k7]at he;simp only[bk,c_,dg]at he;rcases he with rfl | rfl | rfl | rfl<;>exact hsame _
 rw[af k7]at he;by_cases k8:o.1=8
 .rw[aj k8]at he;simp only[bk,c_,dg]at he;subst he;dsimp only;omega
 rw[af k8]at he;by_cases k9:o.1=9
 .rw[aj k9]at he;simp only[bk]at he;rcases he with rfl | rfl | he
  .exact hsame _
  .dsimp only;rw[qs (by omega) (by omega)];omega
  .cases hin:bt (val got (qw (wrap .i64 (val got 13-1)))) 1 6
   .rw[hin]at he;simp at he
   .rw[hin,bz,d6]at he;subst he;dsimp only;omega
 rw[af k9]at he;by_cases jn:o.1=10
 .rw[aj jn]at he;simp only[bk,c_,dg]at he;rcases he with rfl | rfl<;>exact hsame _
 rw[af jn]at he;simp at he
end
end Go.G

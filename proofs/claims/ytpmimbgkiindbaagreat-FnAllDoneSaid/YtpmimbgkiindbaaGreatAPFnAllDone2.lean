import Derived.Test.YtpmimbgkiindbaaGreatAPFnAllDone1
set_option maxRecDepth 100000
set_option linter.unusedVariables false
set_option linter.unusedSimpArgs false
set_option linter.unusedSectionVars false
open Go.IntKind (wrap)
namespace Go.G
open Go Go.V
theorem aG{R:Type}{a b:Option R}:br true a b=a:=rfl
theorem aM{R:Type}{a b:Option R}:br false a b=b:=rfl
theorem qf{R:Type}{a b:Option R}{p:Prop}[Decidable p](h:p):br (decide p) a b=a:=by simp[br,h]
theorem qg{R:Type}{a b:Option R}{p:Prop}[Decidable p](h:¬ p):br (decide p) a b=b:=by simp[br,h]
theorem qc{α R:Type}{a:α}{f:α->Option R}:qd (some a) f=f a:=rfl
theorem ajY{R:Type}{c:Bool}{a:Option R}:br c a a=a:=by cases c<;>rfl
theorem uJ{R:Type}{c:Bool}{a b:Option R}:br c a b=if c=true then a else b:=by cases c<;>rfl
theorem acs(x:Int):wrap .i64 x=if x % 18446744073709551616>=9223372036854775808 then x % 18446744073709551616-18446744073709551616 else x % 18446744073709551616:=by by_cases h:x % 18446744073709551616>=9223372036854775808<;>simp[IntKind.wrap,IntKind.signed,IntKind.bits,h]
theorem qs{x:Int}(h1 : -9223372036854775808<=x)(h2:x<=9223372036854775807):wrap .i64 x=x:=by rw[acs];split<;>omega
def W:Nat:=9223372036854775808
theorem dZ:W=9223372036854775808:=rfl
theorem i9:f_=274877906944:=rfl
theorem ix{α:Type}{l:List α}{i:Nat}(h:i<l.length):(decide (0<=(i:Int))&&decide ((i:Int)<(l.length:Int)))=true:=by simp only[bI,gT];omega
theorem fP{α:Type}{l:List α}{i:Int}(h0:0<=i)(h:i<l.length):(decide (0<=i)&&decide (i<(l.length:Int)))=true:=by simp only[bI,gT];omega
theorem qu{i:Nat}(h:i<9223372036854775807):wrap .i64 ((i:Int)+1)=((i+1:Nat):Int):=by rw[qs]<;>omega
theorem qv{α:Type}{l:List α}{i:Nat}{d:α}(h:i<l.length):l.getD i d=l[i]:=by simp[List.getD,h]
theorem tG{α:Type}{l:List α}{i:Nat}(h:i<l.length):l.drop i=l[i]::l.drop (i+1):=N0 h
theorem tH{α:Type}{l:List α}{i:Nat}(h:¬ i<l.length):l.drop i=[]:=vN (by omega)
def tot:(t:Ty)->t.den->Nat
 | .unit,_=>0
 | .int _,_=>0
 | .bool,_=>0
 | .str,s=>s.size
 | .sl t,xs=>xs.length+(xs.map (tot t)).sum
 | .pair a b,x=>tot a x.1+tot b x.2
def left(t:Ty)(a:t.den)(k:Int):Int:=if (tot t a:Int)<=k then k-tot t a else -1
open Go.Proofs
abbrev KV:=Int×Int×Unit
abbrev dL:=List KV
abbrev cL:=Int×Int×Int×Unit
abbrev sN:=dL×List Int×Int×Bool×Unit
abbrev W3:=dL×Int×Bool×Unit
def bw(x a b:Int):Bool:=bif decide (x>=a) then decide (x<=b) else false
theorem lq{x a b:Int}:bw x a b=true↔a<=x/\x<=b:=by
 unfold bw;by_cases h:x>=a
 .rw[bG h];simp only[bA,gT];omega
 .rw[b_ h];simp only[bg];constructor
  .intro k;cases k
  .intro k;omega
theorem Jj{x a b:Int}(h:¬ (a<=x/\x<=b)):bw x a b=false:=by
 cases k:bw x a b
 .rfl
 .exact absurd (lq.1 k) h
def qw(k:Int):Int:=bif bw k 0 3 then k else -1
def q9(v:Int):Int:=bif bw v 1 6 then wrap .i64 (3+v) else -1
def iT(c:Int):Int:=bif bw c 0 2 then wrap .i64 (10+c) else -1
def fR(v:Int):Int:=bif bw v 1 6 then wrap .i64 (13+v) else -1
def qh(v:Int):Int:=bif bw v 1 6 then Int.tmod v 3 else -1
section
variable {X:Ext} (hX:fO X) {n:Nat}
include hX
theorem lI(hn:1<=n)(x a b:Int):k_ (DD X n) x a b=some ((bw x a b,()),()):=by
 obtain⟨n,rfl⟩:∃k,n=k+1:=⟨n-1,by omega⟩
 rw[aav hX];rfl
theorem yU(hn:1<=n)(x a b:Int):lZ (DD X n) x a b=some ((bw x a b,()),()):=by
 obtain⟨n,rfl⟩:∃k,n=k+1:=⟨n-1,by omega⟩
 rw[aay hX];rfl
theorem A7(hn:1<=n)(b:Bool)(x:Int):Kx (DD X n) b x=some ((bif b then x else -1,()),()):=by
 obtain⟨n,rfl⟩:∃k,n=k+1:=⟨n-1,by omega⟩
 rw[aiI hX];cases b<;>rfl
theorem RJ(hn:2<=n)(x:Int):Uu (DD X n) x=some ((bw x 0 3,()),()):=by
 obtain⟨n,rfl⟩:∃k,n=k+1:=⟨n-1,by omega⟩
 rw[ajp hX];simp only[q76,P2];rw[lI hX (by omega),qc]
theorem Jh(hn:2<=n)(x:Int):zN (DD X n) x=some ((bw x 1 6,()),()):=by
 obtain⟨n,rfl⟩:∃k,n=k+1:=⟨n-1,by omega⟩
 rw[ajs hX];simp only[q79,P4];rw[lI hX (by omega),qc]
theorem SE(hn:2<=n)(x:Int):Wx (DD X n) x=some ((bw x 0 2,()),()):=by
 obtain⟨n,rfl⟩:∃k,n=k+1:=⟨n-1,by omega⟩
 rw[ahN hX];simp only[Zv,Pz];rw[lI hX (by omega),qc]
theorem RL(hn:2<=n)(x:Int):WQ (DD X n) x=some ((bw x 0 3,()),()):=by
 obtain⟨n,rfl⟩:∃k,n=k+1:=⟨n-1,by omega⟩
 rw[aiZ hX];simp only[q8d,Qh];rw[yU hX (by omega),qc]
theorem KK(hn:2<=n)(x:Int):Dl (DD X n) x=some ((bw x 1 6,()),()):=by
 obtain⟨n,rfl⟩:∃k,n=k+1:=⟨n-1,by omega⟩
 rw[ai2 hX];simp only[q8g,Qb];rw[yU hX (by omega),qc]
theorem Nd(hn:2<=n)(x:Int):WR (DD X n) x=some ((bw x 1 4,()),()):=by
 obtain⟨n,rfl⟩:∃k,n=k+1:=⟨n-1,by omega⟩
 rw[ajv hX];simp only[q8j,Qd];rw[yU hX (by omega),qc]
theorem yO(hn:1<=n)(x:Int):Cf (DD X n) x=some ((bif bif bif decide (x=1) then true else decide (x=2) then true else decide (x=5) then true else decide (x=10),()),()):=by
 obtain⟨n,rfl⟩:∃k,n=k+1:=⟨n-1,by omega⟩
 rw[ajw hX];rfl
theorem yH(hn:1<=n):sH (DD X n)=some ((13,()),()):=by
 obtain⟨n,rfl⟩:∃k,n=k+1:=⟨n-1,by omega⟩
 rw[Rh hX];rfl
theorem Qo(hn:1<=n):Wz (DD X n)=some ((13,()),()):=by
 obtain⟨n,rfl⟩:∃k,n=k+1:=⟨n-1,by omega⟩
 rw[ahn hX];rfl
theorem yK(hn:3<=n)(x:Int):yG (DD X n) x=some ((qw x,()),()):=by
 obtain⟨n,rfl⟩:∃k,n=k+1:=⟨n-1,by omega⟩
 rw[ajr hX];simp only[q78,P3];rw[RJ hX (by omega),qc,A7 hX (by omega),qc];rfl
theorem Ds(hn:3<=n)(x:Int):yD (DD X n) x=some ((q9 x,()),()):=by
 obtain⟨n,rfl⟩:∃k,n=k+1:=⟨n-1,by omega⟩
 rw[ahG hX];simp only[Y2,Pc];rw[Jh hX (by omega),qc,A7 hX (by omega),qc];rfl
theorem Dr(hn:3<=n)(x:Int):yC (DD X n) x=some ((iT x,()),()):=by
 obtain⟨n,rfl⟩:∃k,n=k+1:=⟨n-1,by omega⟩
 rw[ahA hX];simp only[YW,Pw];rw[SE hX (by omega),qc,A7 hX (by omega),qc];rfl
theorem Cl(hn:3<=n)(x:Int):v5 (DD X n) x=some ((fR x,()),()):=by
 obtain⟨n,rfl⟩:∃k,n=k+1:=⟨n-1,by omega⟩
 rw[aiW hX];simp only[q8a,P5];rw[Jh hX (by omega),qc,yH hX (by omega),qc,A7 hX (by omega),qc];rfl
theorem Jb(hn:3<=n)(x:Int):tE (DD X n) x=some ((qh x,()),()):=by
 obtain⟨n,rfl⟩:∃k,n=k+1:=⟨n-1,by omega⟩
 rw[ahz hX];simp only[YV,Pv];rw[Jh hX (by omega),qc];unfold qh;cases bw x 1 6<;>rfl
theorem abu(hn:3<=n)(x:Int):q7w (DD X n) x=some ((qw x,()),()):=by
 obtain⟨n,rfl⟩:∃k,n=k+1:=⟨n-1,by omega⟩
 rw[ai1 hX];simp only[q8f,Qi];rw[RL hX (by omega),qc];unfold qw;cases bw x 0 3<;>rfl
theorem aaE(hn:3<=n)(x:Int):Zc (DD X n) x=some ((q9 x,()),()):=by
 obtain⟨n,rfl⟩:∃k,n=k+1:=⟨n-1,by omega⟩
 rw[ahl hX];simp only[ZB,PE];rw[KK hX (by omega),qc];unfold q9;cases bw x 1 6<;>rfl
theorem aaD(hn:3<=n)(x:Int):Za (DD X n) x=some ((iT x,()),()):=by
 obtain⟨n,rfl⟩:∃k,n=k+1:=⟨n-1,by omega⟩
 rw[ahj hX];simp only[Zz,PC];rw[yU hX (by omega),qc];unfold iT;cases bw x 0 2<;>rfl
theorem abv(hn:3<=n)(x:Int):q7y (DD X n) x=some ((fR x,()),()):=by
 obtain⟨n,rfl⟩:∃k,n=k+1:=⟨n-1,by omega⟩
 rw[ai3 hX];simp only[q8h,Qc];rw[KK hX (by omega),qc,Qo hX (by omega),qc];unfold fR;cases bw x 1 6<;>rfl
theorem aaC(hn:3<=n)(x:Int):Y_ (DD X n) x=some ((qh x,()),()):=by
 obtain⟨n,rfl⟩:∃k,n=k+1:=⟨n-1,by omega⟩
 rw[ahi hX];simp only[Zy,PB];rw[KK hX (by omega),qc];unfold qh;cases bw x 1 6<;>rfl
end
def rd(m7:Int):dL->Int->Bool->Int×Bool
 | [],n,ok=>(n,ok)
 | p::l,n,ok=>if p.1=m7 then rd m7 l p.2.1 true else rd m7 l n ok
theorem H8(m7:Int)(p:KV):∀(l:dL)(n:Int)(ok:Bool),rd m7 (l++[p]) n ok=if p.1=m7 then (p.2.1,true) else rd m7 l n ok
 | [],n,ok=>by simp only[gA,rd]
 | q::l,n,ok=>by
  simp only[fH,rd];by_cases h:q.1=m7
  .rw[ak h,ak h];exact H8 m7 p l _ _
  .rw[af h,af h];exact H8 m7 p l _ _
def eX(got:dL)(m7:Int):Int×Bool:=rd m7 got 0 false
theorem Q2(D:Den ctx)(n:Nat)(K0:Int->Bool->Option ((Int×Bool×Unit)×Unit))(K1:Option ((Int×Bool×Unit)×Unit))(hK:K0 0 false=K1)(got:dL)(hg:got.length<=1048576)(m7:Int):∀(m k:Nat),k<=got.length->k<m->
  Uy D n K0 K1 m got m7 ((k:Int)-1)=K0 (eX (got.take k) m7).1 (eX (got.take k) m7).2
 | 0,_,_,h=>by omega
 | m+1,k,hk,hf=>by
  simp only[Uy,q84];cases k with
  | zero=>rw[qg (by omega),List.take_zero];exact hK.symm
  | succ j=>
   have hj:j<got.length:=by omega
   have e1:(((j+1:Nat):Int)-1)=(j:Int):=by omega
   have e2:wrap .i64 ((j:Int)-1)=(j:Int)-1:=qs (by omega) (by omega);rw[e1,qf (by omega),ix hj,aG,aG,d5,e2,qv hj,mR hj];unfold eX;rw[H8];by_cases e:got[j].1=m7
   .rw[qf e,ak e]
   .rw[qg e,af e];exact Q2 D n K0 K1 hK got hg m7 m j (by omega) (by omega)
theorem yI{X:Ext}(hX:fO X){n:Nat}(hn:W+1<=n)(got:dL)(hg:got.length<=1048576)(m7:Int):u_ (DD X n) got m7=some (((eX got m7).1,(eX got m7).2,()),()):=by
 obtain⟨n,rfl⟩:∃k,n=k+1:=⟨n-1,by omega⟩
 have hW:=dZ;rw[aat hX];simp only[Gn,Gt,q5l];rw[qs (by omega) (by omega),Q2 (DD X n) n (fun bS dV=>Pg (DD X n) n bS dV) (Ph (DD X n) n) rfl got hg m7 n got.length (ct _) (by omega),AO];rfl
structure ama (got:dL) (a:sN) (w:W3) (k:Nat):Prop where
 g1:a.1=got
 g2:w.1=got
 amk:a.2.2.1=w.2.1
 aml:a.2.2.2.1=w.2.2.1
 pl:a.2.1.length<=k
section
variable {X:Ext} (hX:fO X) {n:Nat} (hn:W+6<=n) {got:dL} (hg:got.length<=1048576)
include hX hn hg
end
theorem Sy{X:Ext}(hX:fO X){n:Nat}(hn:1<=n){a:sN}(h:a.2.2.2.1=true)(p:Int):qy (DD X n) a p=some ((0,()),(a,())):=by
 obtain⟨n,rfl⟩:∃k,n=k+1:=⟨n-1,by omega⟩
 rw[qv5 hX];simp only[TT,Wl];rw[h,aG]
theorem MJ{X:Ext}(hX:fO X)(N n:Nat)(hN:3<=N)(K:sN->Option (Unit×sN×Unit))(l:List Int)(hl:l.length<=2){a:sN}(h:a.2.2.2.1=true):∀(m i:Nat),l.length-i<m->
  I7 (DD X N) n K m l (l.length:Int) (i:Int) a=K a
 | 0,_,h=>by omega
 | m+1,i,hf=>by
  simp only[I7,We];by_cases hi:i<l.length
  .rw[qf (by exact_mod_cast hi),ix hi,aG,d5,Cl hX (by omega),qc];dsimp only;rw[Sy hX (by omega) h,qc,qu (by omega)];exact MJ hX N n hN K l hl h m (i+1) (by omega)
  .rw[qg (by exact_mod_cast hi)]
section
variable {X:Ext} (hX:fO X) {n:Nat} {got:dL} (hg:got.length<=1048576)
include hX hg
end
section
variable {X:Ext} (hX:fO X) {n:Nat} {got:dL} (hg:got.length<=1048576)
include hX hg
end
def hit(got:dL)(p:Int):Bool:=decide (0<=p)&&(eX got p).2
inductive PR where
 | done
 | ask (p:Int) (k:Int->PR)
def run(got:dL):PR->List Int×Int
 | .done=>([],-1)
 | .ask p k=>bif hit got p then (p::(run got (k (eX got p).1)).1,(run got (k (eX got p).1)).2) else ([],p)
theorem nS{got:dL}{p:Int}{k:Int->PR}(h:hit got p=false):run got (.ask p k)=([],p):=by simp only[run];rw[h];rfl
theorem nU{got:dL}{p:Int}{k:Int->PR}(h:hit got p=true):run got (.ask p k)=(p::(run got (k (eX got p).1)).1,(run got (k (eX got p).1)).2):=by simp only[run];rw[h];rfl
def sE:List Int->PR
 | []=>.done
 | v::l=>.ask (fR v) fun _=>sE l
def tJ(k:Int)(l:List Int):PR:=.ask 13 fun st=>bif decide (st<=wrap .i64 (k+1)) then .done else sE l
def sL(o:cL):PR:=.ask (qw o.2.1) fun r=>bif r != 0 then .done else .ask (q9 o.2.2.1) fun w=>bif w != 0 then .done else .ask (iT (qh o.2.2.1)) fun _=>tJ o.2.1 [o.2.2.1]
def sM(o:cL):PR:=.ask (qw o.2.1) fun r=>bif (bif decide (r=0) then true else decide (r=o.2.2.1)) then .done else .ask (q9 o.2.2.1) fun w=>bif w != 0 then .done else .ask (q9 r) fun _=>
 bif qh r != qh o.2.2.1 then .ask (iT (qh r)) fun _=>.ask (iT (qh o.2.2.1)) fun _=>tJ o.2.1 [r,o.2.2.1] else tJ o.2.1 [r,o.2.2.1]
def vj(o:cL):PR:=.ask (qw o.2.1) fun r=>bif decide (r=0) then .done else .ask (q9 r) fun _=>.ask (iT (qh r)) fun _=>tJ o.2.1 [r]
def yM:PR:=.ask 13 fun st=>bif (bif decide (st<1) then true else decide (st>4)) then .done else .ask (qw (wrap .i64 (st-1))) fun r=>bif !bw r 1 6 then .done else .ask (fR r) fun _=>.done
def wk(o:cL):PR:=.ask 13 fun st=>bif st != 5 then .done else .ask (fR o.2.2.1) fun _=>.done
def Cp:PR:=.ask 0 fun _=>.ask 1 fun _=>.ask 2 fun _=>.ask 3 fun _=>.done
def prog(o:cL):PR:=
 if o.1=1 then sL o else if o.1=2 then sM o else if o.1=3 then vj o else
 if o.1=4 then .ask (qw o.2.1) fun _=>.done else if o.1=5 then .ask (q9 o.2.2.1) fun _=>.done else if o.1=6 then .ask (iT o.2.1) fun _=>.done else
 if o.1=7 then Cp else if o.1=8 then .ask 13 fun _=>.done else if o.1=9 then yM else if o.1=10 then wk o else .done
section
variable {X:Ext} (hX:fO X) {n:Nat} {got:dL}
include hX
theorem ES(hn:1<=n)(pl:List Int)(m p:Int):qy (DD X n) (got,pl,m,true,()) p=some ((0,()),((got,pl,m,true,()),())):=Sy hX hn rfl p
theorem Dc(hn:1<=n)(pl:List Int)(m:Int)(o b:Bool):tD (DD X n) (got,pl,m,o,()) b=some ((),((got,pl,m,bif o then true else b,()),())):=by
 obtain⟨n,rfl⟩:∃k,n=k+1:=⟨n-1,by omega⟩
 rw[afa hX];rfl
theorem oN(hn:W+2<=n)(hg:got.length<=1048576){pl:List Int}(hl:pl.length<=1000)(m:Int){p:Int}(h:hit got p=true) :
  qy (DD X n) (got,pl,m,false,()) p=some (((eX got p).1,()),((got,pl++[p],m,false,()),())):=by
 obtain⟨n,rfl⟩:∃k,n=k+1:=⟨n-1,by omega⟩
 have hb:=i9;unfold hit at h;simp only[bI,gT]at h;rw[qv5 hX];simp only[TT,Wl];rw[aM,yI hX (by omega) got hg,qc];dsimp only;rw[b_ (by omega:¬ p<0),h.2,cK,bg,aM,qf (by omega)]
theorem oM(hn:W+2<=n)(hg:got.length<=1048576)(pl:List Int)(m:Int){p:Int}(h:hit got p=false) :
  qy (DD X n) (got,pl,m,false,()) p=some ((0,()),((got,pl,p,true,()),())):=by
 obtain⟨n,rfl⟩:∃k,n=k+1:=⟨n-1,by omega⟩
 unfold hit at h;rw[qv5 hX];simp only[TT,Wl];rw[aM,yI hX (by omega) got hg,qc];dsimp only;have:(bif decide (p<0) then true else !(eX got p).2)=true:=by
  by_cases h0:p<0
  .rw[bG h0];rfl
  .rw[b_ h0];rw[bG (by omega:0<=p),zK]at h;rw[h];rfl
 rw[this,aG]
theorem OE(N m0:Nat)(hN:W+4<=N)(hg:got.length<=1048576)(K:sN->Option (Unit×sN×Unit))(l:List Int)(hl:l.length<=2):∀(m i:Nat)(pl:List Int),l.length-i<m->i<=l.length->pl.length<=20+i->
  ∃b,I7 (DD X N) n K m l (l.length:Int) (i:Int) (got,pl,-1,false,())=K (got,pl++(run got (sE (l.drop i))).1,(run got (sE (l.drop i))).2,b,())
 | 0,_,_,h,_,_=>by omega
 | m+1,i,pl,hf,hi,hp=>by
  simp only[I7,We];by_cases h:i<l.length
  .rw[qf (by exact_mod_cast h),ix h,aG,d5,Cl hX (by omega),qc,qv h];dsimp only;rw[tG h];simp only[sE];rw[qu (by omega)];cases hh:hit got (fR l[i])
   .rw[oM hX (by omega) hg _ _ hh,qc,nS hh];dsimp only;rw[MJ hX N n (by omega) K l hl (by rfl) m (i+1) (by omega)];exact⟨true,by rw[gU]⟩
   .rw[oN hX (by omega) hg (by omega) _ hh,qc,nU hh];dsimp only;obtain⟨b,e⟩:=OE N m0 hN hg K l hl m (i+1) (pl++[fR l[i]]) (by omega) (by omega) (by rw[cV];simp only[cw,gB];omega);rw[e];exact⟨b,by rw[eG];rfl⟩
  .rw[qg (by exact_mod_cast h),tH h];exact⟨false,by simp only[sE,run];rw[gU]⟩
theorem BM(hn:W+6<=n)(hg:got.length<=1048576){pl:List Int}(hp:pl.length<=10)(c:Int)(l:List Int)(hl:l.length<=2) :
  ∃b,I6 (DD X n) (got,pl,-1,false,()) c l=some ((),((got,pl++(run got (tJ c l)).1,(run got (tJ c l)).2,b,()),())):=by
 obtain⟨n,rfl⟩:∃k,n=k+1:=⟨n-1,by omega⟩
 have hW:=dZ;rw[q8k hX];simp only[Wk,Wm,Wd];rw[yH hX (by omega),qc];dsimp only;unfold tJ;cases h:hit got 13
 .rw[oM hX (by omega) hg _ _ h,qc,nS h];dsimp only;rw[Dc hX (by omega),qc];dsimp only;rw[bA];have e:=MJ hX n n (by omega) (fun bS=>TI (DD X n) n bS) l hl (a:=(got,pl,13,true,())) rfl n 0 (by omega);rw[show((0:Nat):Int)=0 from rfl]at e;rw[e];exact⟨true,by rw[gU];rfl⟩
 .rw[oN hX (by omega) hg (by omega) _ h,qc,nU h];dsimp only;rw[Dc hX (by omega),qc];dsimp only;rw[bg];cases hs:decide ((eX got 13).1<=wrap .i64 (c+1))
  .rw[bg];obtain⟨b,e⟩:=OE hX n 0 (by omega) hg (fun bS=>TI (DD X n) n bS) l hl n 0 (pl++[13]) (by omega) (by omega) (by rw[cV];simp only[cw,gB];omega);rw[show((0:Nat):Int)=0 from rfl,jo]at e;rw[e];exact⟨b,by rw[eG];rfl⟩
  .rw[bA];have e:=MJ hX n n (by omega) (fun bS=>TI (DD X n) n bS) l hl (a:=(got,pl++[13],-1,true,())) rfl n 0 (by omega);rw[show((0:Nat):Int)=0 from rfl]at e;rw[e];exact⟨true,rfl⟩
theorem Hw(hn:5<=n)(pl:List Int)(m c:Int)(l:List Int)(hl:l.length<=2)(hW2:W+6<=n):I6 (DD X n) (got,pl,m,true,()) c l=some ((),((got,pl,m,true,()),())):=by
 obtain⟨n,rfl⟩:∃k,n=k+1:=⟨n-1,by omega⟩
 have hW:=dZ;rw[q8k hX];simp only[Wk,Wm,Wd];rw[yH hX (by omega),qc];dsimp only;rw[ES hX (by omega),qc];dsimp only;rw[Dc hX (by omega),qc];dsimp only;rw[bA];have e:=MJ hX n n (by omega) (fun bS=>TI (DD X n) n bS) l hl (a:=(got,pl,m,true,())) rfl n 0 (by omega);rw[show((0:Nat):Int)=0 from rfl]at e;rw[e];rfl
end
section
variable {X:Ext} (hX:fO X) {n:Nat} {got:dL}
include hX
theorem acH(hn:W+8<=n)(hg:got.length<=1048576)(K V:Int) :
  ∃b,TG (DD X n) (got,[],-1,false,()) (1,K,V,())=some ((),((got,(run got (sL (1,K,V,()))).1,(run got (sL (1,K,V,()))).2,b,()),())):=by
 obtain⟨n,rfl⟩:∃k,n=k+1:=⟨n-1,by omega⟩
 have hW:=dZ;have he:=fun pl m p=>ES hX (n:=n) (got:=got) (by omega) pl m p;have hs:=fun pl m o b=>Dc hX (n:=n) (got:=got) (by omega) pl m o b;have hr:=fun x=>yK hX (n:=n) (by omega) x;have ho:=fun x=>Ds hX (n:=n) (by omega) x;have hc:=fun x=>Dr hX (n:=n) (by omega) x;have hk:=fun x=>Jb hX (n:=n) (by omega) x;have mX:=fun pl m c l hl=>Hw hX (n:=n) (got:=got) (by omega) pl m c l hl (by omega);rw[qqi hX];simp only[TH,V_];rw[hr,qc];dsimp only;unfold sL;dsimp only;cases h1:hit got (qw K)
 .rw[oM hX (by omega) hg _ _ h1,qc,nS h1];dsimp only;rw[qf trivial];simp only[he,hs,ho,hc,hk,qc,bA,mX _ _ _ [V] (by simp)];exact⟨true,rfl⟩
 .rw[oN hX (by omega) hg (by simp) _ h1,qc,nU h1];dsimp only;rw[qf trivial,hs,qc];dsimp only;rw[bg];cases h2:((eX got (qw K)).1 != 0)
  .rw[bg,ho,qc];dsimp only;cases h3:hit got (q9 V)
   .rw[oM hX (by omega) hg _ _ h3,qc,nS h3];simp only[he,hs,ho,hc,hk,qc,bA,mX _ _ _ [V] (by simp)];exact⟨true,rfl⟩
   .rw[oN hX (by omega) hg (by simp) _ h3,qc,nU h3];dsimp only;rw[hs,qc];dsimp only;rw[bg];cases h4:((eX got (q9 V)).1 != 0)
    .rw[bg,hk,qc];dsimp only;rw[hc,qc];dsimp only;cases h5:hit got (iT (qh V))
     .rw[oM hX (by omega) hg _ _ h5,qc,nS h5];simp only[qc,mX _ _ _ [V] (by simp)];exact⟨true,rfl⟩
     .rw[oN hX (by omega) hg (by simp) _ h5,qc,nU h5];dsimp only;obtain⟨b,e⟩:=BM hX (n:=n) (by omega) hg (pl:=[]++[qw K]++[q9 V]++[iT (qh V)]) (by simp) K [V] (by simp);rw[e,qc];exact⟨b,rfl⟩
    .simp only[he,hs,ho,hc,hk,qc,bA,mX _ _ _ [V] (by simp),run];exact⟨true,rfl⟩
  .simp only[he,hs,ho,hc,hk,qc,bA,mX _ _ _ [V] (by simp),run];exact⟨true,rfl⟩
theorem acI(hn:W+8<=n)(hg:got.length<=1048576)(K V:Int) :
  ∃b,TG (DD X n) (got,[],-1,false,()) (2,K,V,())=some ((),((got,(run got (sM (2,K,V,()))).1,(run got (sM (2,K,V,()))).2,b,()),())):=by
 obtain⟨n,rfl⟩:∃k,n=k+1:=⟨n-1,by omega⟩
 have hW:=dZ;have he:=fun pl m p=>ES hX (n:=n) (got:=got) (by omega) pl m p;have hs:=fun pl m o b=>Dc hX (n:=n) (got:=got) (by omega) pl m o b;have hr:=fun x=>yK hX (n:=n) (by omega) x;have ho:=fun x=>Ds hX (n:=n) (by omega) x;have hc:=fun x=>Dr hX (n:=n) (by omega) x;have hk:=fun x=>Jb hX (n:=n) (by omega) x;have mX:=fun pl m c a b=>Hw hX (n:=n) (got:=got) (by omega) pl m c [a,b] (by simp) (by omega);have hsame:∀(c:Bool)(x:Option (Unit×sN×Unit)),br c x x=x:=by intro c x;cases c<;>rfl
 rw[qqi hX];simp only[TH,V_];rw[hr,qc];dsimp only;unfold sM;dsimp only;cases h1:hit got (qw K)
 .rw[oM hX (by omega) hg _ _ h1,qc,nS h1];dsimp only;rw[qg (by decide),qf trivial];simp only[he,hs,ho,hc,hk,qc,bA,mX,hsame];exact⟨true,rfl⟩
 .rw[oN hX (by omega) hg (by simp) _ h1,qc,nU h1];dsimp only;generalize hv:(eX got (qw K)).1=v;rw[qg (by decide),qf trivial,hs,qc];dsimp only;rw[bg];cases h2:(bif decide (v=0) then true else decide (v=V))
  .rw[bg,ho,qc];dsimp only;cases h3:hit got (q9 V)
   .rw[oM hX (by omega) hg _ _ h3,qc,nS h3];simp only[he,hs,ho,hc,hk,qc,bA,mX,hsame];exact⟨true,rfl⟩
   .rw[oN hX (by omega) hg (by simp) _ h3,qc,nU h3];dsimp only;rw[hs,qc];dsimp only;rw[bg];cases h4:((eX got (q9 V)).1 != 0)
    .rw[bg,ho,qc];dsimp only;cases h5:hit got (q9 v)
     .rw[oM hX (by omega) hg _ _ h5,qc,nS h5];simp only[he,hs,ho,hc,hk,qc,bA,mX,hsame];exact⟨true,rfl⟩
     .rw[oN hX (by omega) hg (by simp) _ h5,qc,nU h5,hk,qc,hk,qc];dsimp only;cases h6:(qh v != qh V)
      .rw[aM,bg];obtain⟨b,e⟩:=BM hX (n:=n) (by omega) hg (pl:=[]++[qw K]++[q9 V]++[q9 v]) (by simp) K [v,V] (by simp);rw[e,qc];exact⟨b,rfl⟩
      .rw[aG,bA];simp only[qc];rw[hc,qc];dsimp only;cases h7:hit got (iT (qh v))
       .rw[oM hX (by omega) hg _ _ h7,qc,nS h7];simp only[he,hs,ho,hc,hk,qc,bA,mX,hsame];exact⟨true,rfl⟩
       .rw[oN hX (by omega) hg (by simp) _ h7,qc,nU h7];simp only[qc];rw[hc,qc];dsimp only;cases h8:hit got (iT (qh V))
        .rw[oM hX (by omega) hg _ _ h8,qc,nS h8];simp only[he,hs,ho,hc,hk,qc,bA,mX,hsame];exact⟨true,rfl⟩
        .rw[oN hX (by omega) hg (by simp) _ h8,qc,nU h8];dsimp only;obtain⟨b,e⟩:=BM hX (n:=n) (by omega) hg (pl:=[]++[qw K]++[q9 V]++[q9 v]++[iT (qh v)]++[iT (qh V)]) (by simp) K [v,V] (by simp);rw[e,qc];exact⟨b,rfl⟩
    .simp only[he,hs,ho,hc,hk,qc,bA,mX,run,hsame];exact⟨true,rfl⟩
  .simp only[he,hs,ho,hc,hk,qc,bA,mX,run,hsame];exact⟨true,rfl⟩
theorem ach(hn:W+8<=n)(hg:got.length<=1048576)(K V:Int) :
  ∃b,TG (DD X n) (got,[],-1,false,()) (3,K,V,())=some ((),((got,(run got (vj (3,K,V,()))).1,(run got (vj (3,K,V,()))).2,b,()),())):=by
 obtain⟨n,rfl⟩:∃k,n=k+1:=⟨n-1,by omega⟩
 have hW:=dZ;have he:=fun pl m p=>ES hX (n:=n) (got:=got) (by omega) pl m p;have hs:=fun pl m o b=>Dc hX (n:=n) (got:=got) (by omega) pl m o b;have hr:=fun x=>yK hX (n:=n) (by omega) x;have ho:=fun x=>Ds hX (n:=n) (by omega) x;have hc:=fun x=>Dr hX (n:=n) (by omega) x;have hk:=fun x=>Jb hX (n:=n) (by omega) x;have mX:=fun pl m c a=>Hw hX (n:=n) (got:=got) (by omega) pl m c [a] (by simp) (by omega);rw[qqi hX];simp only[TH,V_];rw[hr,qc];dsimp only;unfold vj;dsimp only;cases h1:hit got (qw K)
 .rw[oM hX (by omega) hg _ _ h1,qc,nS h1];dsimp only;rw[qg (by decide),qg (by decide)];simp only[he,hs,ho,hc,hk,qc,bA,mX];exact⟨true,rfl⟩
 .rw[oN hX (by omega) hg (by simp) _ h1,qc,nU h1];dsimp only;generalize hv:(eX got (qw K)).1=v;rw[qg (by decide),qg (by decide),hs,qc];dsimp only;rw[bg];cases h2:decide (v=0)
  .rw[bg,ho,qc];dsimp only;cases h3:hit got (q9 v)
   .rw[oM hX (by omega) hg _ _ h3,qc,nS h3];simp only[he,hs,ho,hc,hk,qc,bA,mX];exact⟨true,rfl⟩
   .rw[oN hX (by omega) hg (by simp) _ h3,qc,nU h3,hk,qc];dsimp only;rw[hc,qc];dsimp only;cases h5:hit got (iT (qh v))
    .rw[oM hX (by omega) hg _ _ h5,qc,nS h5];simp only[he,hs,ho,hc,hk,qc,bA,mX];exact⟨true,rfl⟩
    .rw[oN hX (by omega) hg (by simp) _ h5,qc,nU h5];dsimp only;obtain⟨b,e⟩:=BM hX (n:=n) (by omega) hg (pl:=[]++[qw K]++[q9 v]++[iT (qh v)]) (by simp) K [v] (by simp);rw[e,qc];exact⟨b,rfl⟩
  .simp only[he,hs,ho,hc,hk,qc,bA,mX,run];exact⟨true,rfl⟩
end
section
variable {X:Ext} (hX:fO X) {n:Nat} {got:dL}
include hX
theorem Bw(hn:W+2<=n)(hg:got.length<=1048576)(p:Int):∃b,qd (qy (DD X n) (got,[],-1,false,()) p) (fun b=>some ((b.2.1,()),())) =
  (some (((got,(run got (.ask p fun _=>.done)).1,(run got (.ask p fun _=>.done)).2,b,()),()),()):Option ((sN×Unit)×Unit)):=by
 cases h:hit got p
 .rw[oM hX hn hg _ _ h,qc,nS h];exact⟨true,rfl⟩
 .rw[oN hX hn hg (by simp) _ h,qc,nU h];exact⟨false,rfl⟩
theorem abq(hn:W+2<=n)(XU:3<=n)(hg:got.length<=1048576):∃b,
  qd (sH (DD X n)) (fun b=>
          qd (qy (DD X n) (got,[],-1,false,()) (Prod.fst (Prod.fst b))) fun b=>
           qd
            (tD (DD X n) (Prod.fst (Prod.snd b))
             (bif decide (Prod.fst (Prod.fst b)<1) then true else decide (Prod.fst (Prod.fst b)>4)))
            fun b_1=>
            qd (yG (DD X n) (wrap .i64 (Prod.fst (Prod.fst b)-1))) fun b=>
             qd (qy (DD X n) (Prod.fst (Prod.snd b_1)) (Prod.fst (Prod.fst b))) fun b=>
              qd (zN (DD X n) (Prod.fst (Prod.fst b))) fun b_2=>
               qd (tD (DD X n) (Prod.fst (Prod.snd b)) !Prod.fst (Prod.fst b_2)) fun UW=>
                qd (v5 (DD X n) (Prod.fst (Prod.fst b))) fun b=>
                 qd (qy (DD X n) (Prod.fst (Prod.snd UW)) (Prod.fst (Prod.fst b))) fun b=>
                  some ((Prod.fst (Prod.snd b),()),()))=(some (((got,(run got yM).1,(run got yM).2,b,()),()),()):Option ((sN×Unit)×Unit)):=by
 have he:=fun pl m p=>ES hX (n:=n) (got:=got) (by omega) pl m p;have hs:=fun pl m o b=>Dc hX (n:=n) (got:=got) (by omega) pl m o b;have hr:=fun x=>yK hX (n:=n) (by omega) x;have hv:=fun x=>Jh hX (n:=n) (by omega) x;have hi:=fun x=>Cl hX (n:=n) (by omega) x;rw[yH hX (by omega),qc];dsimp only;unfold yM;cases h:hit got 13
 .rw[oM hX hn hg _ _ h,qc,nS h];simp only[he,hs,hr,hv,hi,qc,bA];exact⟨true,rfl⟩
 .rw[oN hX hn hg (by simp) _ h,qc,nU h];dsimp only;generalize (eX got 13).1=st;rw[hs,qc];dsimp only;rw[bg];cases h2:(bif decide (st<1) then true else decide (st>4))
  .rw[bg,hr,qc];dsimp only;cases h3:hit got (qw (wrap .i64 (st-1)))
   .rw[oM hX hn hg _ _ h3,qc,nS h3];simp only[he,hs,hr,hv,hi,qc,bA];exact⟨true,rfl⟩
   .rw[oN hX hn hg (by simp) _ h3,qc,nU h3];dsimp only;generalize (eX got (qw (wrap .i64 (st-1)))).1=r;rw[hv,qc];dsimp only;rw[hs,qc];dsimp only;rw[bg];cases h4:bw r 1 6
    .simp only[he,hs,hr,hv,hi,qc,iP,bA,run];exact⟨true,rfl⟩
    .rw[cK,bg,hi,qc];dsimp only;cases h5:hit got (fR r)
     .rw[oM hX hn hg _ _ h5,qc,nS h5];exact⟨true,rfl⟩
     .rw[oN hX hn hg (by simp) _ h5,qc,nU h5];exact⟨false,rfl⟩
  .simp only[he,hs,hr,hv,hi,qc,bA,run];exact⟨true,rfl⟩
theorem acJ(hn:W+2<=n)(XU:3<=n)(hg:got.length<=1048576)(o:cL):∃b,
  qd (sH (DD X n)) (fun b=>
           qd (qy (DD X n) (got,[],-1,false,()) (Prod.fst (Prod.fst b))) fun b=>
            qd (tD (DD X n) (Prod.fst (Prod.snd b)) (Prod.fst (Prod.fst b) != 5)) fun b=>
             qd (v5 (DD X n) o.2.2.1) fun b_1=>
              qd (qy (DD X n) (Prod.fst (Prod.snd b)) (Prod.fst (Prod.fst b_1))) fun b=>some ((Prod.fst (Prod.snd b),()),())) =
  (some (((got,(run got (wk o)).1,(run got (wk o)).2,b,()),()),()):Option ((sN×Unit)×Unit)):=by
 have he:=fun pl m p=>ES hX (n:=n) (got:=got) (by omega) pl m p;have hs:=fun pl m o b=>Dc hX (n:=n) (got:=got) (by omega) pl m o b;have hi:=fun x=>Cl hX (n:=n) (by omega) x;rw[yH hX (by omega),qc];dsimp only;unfold wk;cases h:hit got 13
 .rw[oM hX hn hg _ _ h,qc,nS h];simp only[he,hs,hi,qc,bA];exact⟨true,rfl⟩
 .rw[oN hX hn hg (by simp) _ h,qc,nU h];dsimp only;generalize (eX got 13).1=st;rw[hs,qc];dsimp only;rw[bg];cases h2:(st != 5)
  .rw[bg,hi,qc];dsimp only;cases h5:hit got (fR o.2.2.1)
   .rw[oM hX hn hg _ _ h5,qc,nS h5];exact⟨true,rfl⟩
   .rw[oN hX hn hg (by simp) _ h5,qc,nU h5];exact⟨false,rfl⟩
  .simp only[he,hs,hi,qc,bA,run];exact⟨true,rfl⟩
def MQ:Nat->Nat->PR
 | _,0=>.done
 | i,d+1=>.ask (i:Int) fun _=>MQ (i+1) d
theorem MV(N n:Nat)(hN:3<=N)(K:sN->Option ((sN×Unit)×Unit))(pl:List Int)(m0:Int):∀(m i:Nat),i<=4->4-i<m->Dk (DD X N) n K m (i:Int) (got,pl,m0,true,())=K (got,pl,m0,true,())
 | 0,_,_,h=>by omega
 | m+1,i,hi,hf=>by
  simp only[Dk,Uo];by_cases h:(i:Int)<4
  .rw[qf h,yK hX (by omega),qc];dsimp only;rw[ES hX (by omega),qc,qu (by omega)];exact MV N n hN K pl m0 m (i+1) (by omega) (by omega)
  .rw[qg h]
theorem Oq(N n:Nat)(hN:W+6<=N)(hN3:3<=N)(hg:got.length<=1048576)(K:sN->Option ((sN×Unit)×Unit)):∀(m d i:Nat)(pl:List Int),i+d=4->d<m->pl.length<=i->
  ∃b,Dk (DD X N) n K m (i:Int) (got,pl,-1,false,())=K (got,pl++(run got (MQ i d)).1,(run got (MQ i d)).2,b,())
 | 0,_,_,_,_,h,_=>by omega
 | m+1,0,i,pl,hi,hf,hp=>by
  simp only[Dk,Uo];rw[qg (by omega)];exact⟨false,by simp only[MQ,run];rw[gU]⟩
 | m+1,d+1,i,pl,hi,hf,hp=>by
  simp only[Dk,Uo];have hr:qw (i:Int)=i:=by unfold qw;rw[lq.2 (by omega)];rfl
  rw[qf (by omega),yK hX (by omega),qc,hr];dsimp only;simp only[MQ];rw[qu (by omega)];cases h:hit got (i:Int)
  .rw[oM hX (by omega) hg _ _ h,qc,nS h];dsimp only;rw[MV hX N n hN3 K pl (i:Int) m (i+1) (by omega) (by omega)];exact⟨true,by rw[gU]⟩
  .rw[oN hX (by omega) hg (by omega) _ h,qc,nU h];dsimp only;obtain⟨b,e⟩:=Oq N n hN hN3 hg K m d (i+1) (pl++[(i:Int)]) (by omega) (by omega) (by rw[cV];simp only[cw,gB];omega);rw[e];exact⟨b,by rw[eG];rfl⟩
theorem SD(hn:W+10<=n)(hg:got.length<=1048576)(o:cL) :
  ∃b,WN (DD X n) o got=some (((got,(run got (prog o)).1,(run got (prog o)).2,b,()),()),()):=by
 obtain⟨n,rfl⟩:∃k,n=k+1:=⟨n-1,by omega⟩
 have hW:=dZ;obtain⟨k,K,V,⟨⟩⟩:=o;rw[aiX hX];simp only[q8b,q9a];unfold prog;dsimp only;by_cases k1:k=1
 .subst k1;obtain⟨b,e⟩:=acH hX (n:=n) (by omega) hg K V;rw[qf rfl,qf rfl,e,qc,ak rfl];exact⟨b,rfl⟩
 rw[qg k1,af k1];by_cases k2:k=2
 .subst k2;obtain⟨b,e⟩:=acI hX (n:=n) (by omega) hg K V;rw[qf rfl,qf rfl,e,qc,ak rfl];exact⟨b,rfl⟩
 rw[qg k2,af k2];by_cases k3:k=3
 .subst k3;obtain⟨b,e⟩:=ach hX (n:=n) (by omega) hg K V;rw[qf rfl,e,qc,ak rfl];exact⟨b,rfl⟩
 rw[qg k3,af k3];by_cases k4:k=4
 .rw[qf k4,ak k4,yK hX (by omega),qc];exact Bw hX (by omega) hg _
 rw[qg k4,af k4];by_cases k5:k=5
 .rw[qf k5,ak k5,Ds hX (by omega),qc];exact Bw hX (by omega) hg _
 rw[qg k5,af k5];by_cases k6:k=6
 .rw[qf k6,ak k6,Dr hX (by omega),qc];exact Bw hX (by omega) hg _
 rw[qg k6,af k6];by_cases k7:k=7
 .rw[qf k7,ak k7];simp only[ZW];obtain⟨b,e⟩:=Oq hX n n (by omega) (by omega) hg (fun bS=>O4 (DD X n) n bS) n 4 0 [] rfl (by omega) (by simp);rw[show((0:Nat):Int)=0 from rfl]at e;rw[e];exact⟨b,rfl⟩
 rw[qg k7,af k7];by_cases k8:k=8
 .rw[qf k8,ak k8,yH hX (by omega),qc];exact Bw hX (by omega) hg _
 rw[qg k8,af k8];by_cases k9:k=9
 .rw[qf k9,ak k9];exact abq hX (by omega) (by omega) hg
 rw[qg k9,af k9];by_cases jq:k=10
 .rw[qf jq,ak jq];exact acJ hX (by omega) (by omega) hg (k,K,V,())
 rw[qg jq,af jq];exact⟨false,rfl⟩
end
abbrev eB:=Int×Int×Int×Unit
def iI{α:Type}(key:α->Int):List α->α->List α
 | [],x=>[x]
 | y::rs,x=>if key x<key y then y::iI key rs x else x::y::rs
def j7{α:Type}(key:α->Int)(s:List α)(x:α):List α:=(iI key s.reverse x).reverse
theorem SA{α:Type}(key:α->Int):∀(rs:List α)(x:α),(iI key rs x).length=rs.length+1
 | [],x=>rfl
 | y::rs,x=>by
  simp only[iI];split
  .simp only[cw,SA key rs x]
  .simp only[cw]
theorem xR{α:Type}(key:α->Int)(s:List α)(x:α):(j7 key s x).length=s.length+1:=by unfold j7;rw[jY,SA,jY]
theorem SB{α:Type}(key:α->Int):∀(rs:List α)(x z:α),z∈iI key rs x↔z=x\/z∈rs
 | [],x,z=>by simp[iI]
 | y::rs,x,z=>by
  simp only[iI];split
  .simp only[bk,SB key rs x z];constructor
   .rintro(h | h | h)
    .exact .inr (.inl h)
    .exact .inl h
    .exact .inr (.inr h)
   .rintro(h | h | h)
    .exact .inr (.inl h)
    .exact .inl h
    .exact .inr (.inr h)
  .simp only[bk]
theorem Ic{α:Type}(key:α->Int)(s:List α)(x z:α):z∈j7 key s x↔z=x\/z∈s:=by unfold j7;rw[uU,SB,uU]
theorem N7{α:Type}(key:α->Int)(e:α)(l1:List α)(h1:∀y∈l1,key y<=key e):∀(l2:List α),(∀y∈l2,key e<key y)->j7 key (l1++l2.reverse) e=l1++e::l2.reverse
 | [],_=>by
  unfold j7;rw[yx,gU];cases h:l1.reverse with
  | nil=>have:l1=[]:=List.reverse_eq_nil_iff.1 h;subst this;rfl
  | cons y rs=>
   have hy:y∈l1:=by rw[<-uU,h];exact e8
   simp only[iI];rw[af (by have:=h1 y hy;omega)];have:l1=rs.reverse++[y]:=by rw[<-Cc l1,h,ov]
   rw[this];simp
 | y::l2,h2=>by
  have ih:=N7 key e l1 h1 l2 (fun z hz=>h2 z (cG _ hz));unfold j7 at ih⊢;rw[ov,<-eG,List.reverse_append];show(iI key (y::(l1++l2.reverse).reverse) e).reverse=_;simp only[iI];rw[ak (h2 y e8),ov,ih];simp
theorem Bq{α:Type}(l:List α)(x:α)(t:List α)(d:α):(l++x::t).getD l.length d=x:=by simp[List.getD]
theorem Bz{α:Type}(l:List α)(x y:α)(t:List α):(l++x::t).set l.length y=l++y::t:=by simp
abbrev tW:Ty:=Ty.pair (Ty.int IntKind.i64) (Ty.pair (Ty.int IntKind.i64) (Ty.pair (Ty.int IntKind.i64) Ty.unit))
def rm(k:Int):Prop:=-1000<=k/\k<=1000
def j8(e:eB):Int:=e.1
section
variable {X:Ext} (hX:fO X) {n:Nat}
include hX
theorem aj7(hn:1<=n)(a b:eB)(ha:rm a.1)(hb:rm b.1):gF ctx (DD X n) (a_.mk 183 []) [bC.val tW a,bC.val tW b] (Ty.int IntKind.i64)=some (a.1-b.1):=by
 obtain⟨n,rfl⟩:∃k,n=k+1:=⟨n-1,by omega⟩
 have h:∀D:Den ctx,gF ctx D (a_.mk 183 []) [bC.val tW a,bC.val tW b] (Ty.int IntKind.i64)=(q7v D a b).bind fun r=>some r.1.1:=fun D=>by kernel_rfl
 unfold rm at ha hb;rw[h,afz hX];simp only[qvz,q9b,dF];rw[qs (by omega) (by omega)]
theorem acN(hn:1<=n){a b x y:eB}(ha:a=x)(hb:b=y)(hx:rm x.1)(hy:rm y.1):gF ctx (DD X n) (a_.mk 183 []) [bC.val tW a,bC.val tW b] (Ty.int IntKind.i64)=some (x.1-y.1):=by subst ha;subst hb;exact aj7 hX hn a b hx hy
theorem MX(N n:Nat)(hN:1<=N)(K0:Int->Int->Int->List eB->Option (Unit×List eB×Unit))(b i:Int)(x:eB)(hx:rm x.1):∀(m:Nat)(rs t:List eB),rs.length<m->rs.length+t.length<=1000->(∀e∈rs,rm e.1)->
  Ke (DD X N) n (a_.mk 183 []) K0 m 0 b i (rs.length:Int) (rs.reverse++x::t)=K0 0 b i ((iI j8 rs x).reverse++t)
 | 0,_,_,h,_,_=>by omega
 | m+1,[],t,_,_,_=>by
  simp only[Ke,VO];rw[qg (by simp)];simp[iI]
 | m+1,y::rs,t,hf,hl,hs=>by
  have hy:=hs y e8;have hlen:((y::rs).reverse++x::t).length=rs.length+t.length+2:=by simp;omega
  simp only[cw]at hf hl;have e1:((y::rs).length:Int)=((rs.length+1:Nat):Int):=by simp
  have e2:wrap .i64 (((rs.length+1:Nat):Int)-1)=((rs.length:Nat):Int):=by rw[qs (by omega) (by omega)];omega
  have g1:((y::rs).reverse++x::t).getD (rs.length+1) (0,0,0,())=x:=by have:=Bq (y::rs).reverse x t (0,0,0,());rw[jY,cw]at this;exact this
  have g2:((y::rs).reverse++x::t).getD rs.length (0,0,0,())=y:=by have:=Bq rs.reverse y (x::t) (0,0,0,());rw[jY]at this;rw[ov,eG];exact this
  have s1:((y::rs).reverse++x::t).set (rs.length+1) y=rs.reverse++y::(y::t):=by have:=Bz (y::rs).reverse x y t;rw[jY,cw]at this;rw[this,ov,eG];rfl
  have s2:(rs.reverse++y::(y::t)).set rs.length x=rs.reverse++x::(y::t):=by have:=Bz rs.reverse y x (y::t);rw[jY]at this;exact this
  simp only[Ke,VO];rw[e1,e2,qf (by omega),fP (by omega) (by rw[hlen];omega),aG,fP (by omega) (by rw[hlen];omega),aG];simp only[d5,b9];rw[acN hX hN g1 g2 hx hy,qc,g1,g2,aG,aG,aG,s1,s2];have iK:(rs.reverse++y::(y::t)).length=rs.length+t.length+2:=by simp;omega
  simp only[iI];by_cases hlt:x.1<y.1
  .rw[qf (show x.1-y.1<0 by omega),fP (by omega) (by rw[hlen];omega),aG,ak (show j8 x<j8 y from hlt)];rw[MX N n hN K0 b i x hx m rs (y::t) (by omega) (by simp only[cw];omega) (fun e he=>hs e (cG _ he))];rw[ov,eG];rfl
  .rw[qg (show ¬ x.1-y.1<0 by omega),af (show ¬ j8 x<j8 y from hlt)];simp
theorem Sf(N:Nat)(hN:1<=N)(hW:2000<=N)(K0:List eB->Option (Unit×List eB×Unit)):∀(rest s:List eB)(m:Nat),rest.length<m->s.length+rest.length<=1000->(∀e∈s,rm e.1)->(∀e∈rest,rm e.1)->
  zL (DD X N) N (a_.mk 183 []) K0 m 0 ((s.length+rest.length:Nat):Int) (s.length:Int) (s++rest)=K0 (rest.foldl (j7 j8) s)
 | [],s,0,h,_,_,_=>by omega
 | _::_,s,0,h,_,_,_=>by omega
 | [],s,m+1,_,_,_,_=>by
  simp only[zL,TC];rw[qg (by simp),gU];rfl
 | x::rest,s,m+1,hf,hl,hs,hr=>by
  simp only[cw]at hf hl;simp only[zL,TC,qd1];rw[qf (by simp only[cw];omega)];have e:=MX hX N N hN (fun bS dV iY jB=>qdp (DD X N) N (a_.mk 183 []) (zL (DD X N) N (a_.mk 183 []) K0 m) K0 bS dV iY jB)
   ((s.length+(x::rest).length:Nat):Int) (s.length:Int) x (hr x e8) N s.reverse rest (by rw[jY];omega) (by rw[jY];omega) (fun e he=>hs e (uU.1 he))
  rw[jY,Cc]at e;rw[e];simp only[qdp];rw[qu (by omega)];have e2:=Sf N hN hW K0 rest (j7 j8 s x) m (by omega) (by rw[xR];omega) (fun z hz=>by
   rcases(Ic j8 s x z).1 hz with h | h
   .subst h;exact hr _ e8
   .exact hs z h) (fun z hz=>hr z (cG _ hz))
  rw[xR]at e2;rw[show s.length+(x::rest).length=s.length+1+rest.length by simp only[cw];omega];exact e2
end
def fF(e:Int):Int:=e
theorem akk(D:Den ctx)(n:Nat):rS D n 0=some ((0,()),()):=by kernel_rfl
theorem akl(D:Den ctx)(n:Nat):rS D n 1=some ((1,()),()):=by kernel_rfl
theorem akm(D:Den ctx)(n:Nat):rS D n 2=some ((2,()),()):=by kernel_rfl
theorem akn(D:Den ctx)(n:Nat):rS D n 3=some ((2,()),()):=by kernel_rfl
theorem ako(D:Den ctx)(n:Nat):rS D n 4=some ((3,()),()):=by kernel_rfl
theorem akp(D:Den ctx)(n:Nat):rS D n 5=some ((3,()),()):=by kernel_rfl
theorem akq(D:Den ctx)(n:Nat):rS D n 6=some ((3,()),()):=by kernel_rfl
theorem akr(D:Den ctx)(n:Nat):rS D n 7=some ((3,()),()):=by kernel_rfl
theorem aks(D:Den ctx)(n:Nat):rS D n 8=some ((4,()),()):=by kernel_rfl
theorem akt(D:Den ctx)(n:Nat):rS D n 9=some ((4,()),()):=by kernel_rfl
theorem acZ(D:Den ctx)(n:Nat):rS D n 10=some ((4,()),()):=by kernel_rfl
theorem ac0(D:Den ctx)(n:Nat):rS D n 11=some ((4,()),()):=by kernel_rfl
theorem ac1(D:Den ctx)(n:Nat):rS D n 12=some ((4,()),()):=by kernel_rfl
section
variable {X:Ext} (hX:fO X) {n:Nat}
include hX
theorem akZ(hn:2<=n)(a b:Int):yB (DD X n) a b=some ((decide (a<b),()),()):=by
 obtain⟨n,rfl⟩:∃k,n=k+2:=⟨n-2,by omega⟩
 rw[ahw hX];simp only[Zg,Pq];rw[agu hX];simp only[qxv,OW,qc];rw[show(a != a)=false by simp,aM];rfl
theorem MY(N n:Nat)(hN:2<=N)(K0:Int->Int->Int->List Int->Option (Unit×List Int×Unit))(b i:Int)(x:Int)(hx:rm x):∀(m:Nat)(rs t:List Int),rs.length<m->rs.length+t.length<=1000->(∀e∈rs,rm e)->
  Kk (DD X N) n K0 m 0 b i (rs.length:Int) (rs.reverse++x::t)=K0 0 b i ((iI fF rs x).reverse++t)
 | 0,_,_,h,_,_=>by omega
 | m+1,[],t,_,_,_=>by
  simp only[Kk,VX];rw[qg (by simp)];simp[iI]
 | m+1,y::rs,t,hf,hl,hs=>by
  have hy:=hs y e8;have hlen:((y::rs).reverse++x::t).length=rs.length+t.length+2:=by simp;omega
  simp only[cw]at hf hl;have e1:((y::rs).length:Int)=((rs.length+1:Nat):Int):=by simp
  have e2:wrap .i64 (((rs.length+1:Nat):Int)-1)=((rs.length:Nat):Int):=by rw[qs (by omega) (by omega)];omega
  have g1:((y::rs).reverse++x::t).getD (rs.length+1) 0=x:=by have:=Bq (y::rs).reverse x t 0;rw[jY,cw]at this;exact this
  have g2:((y::rs).reverse++x::t).getD rs.length 0=y:=by have:=Bq rs.reverse y (x::t) 0;rw[jY]at this;rw[ov,eG];exact this
  have s1:((y::rs).reverse++x::t).set (rs.length+1) y=rs.reverse++y::(y::t):=by have:=Bz (y::rs).reverse x y t;rw[jY,cw]at this;rw[this,ov,eG];rfl
  have s2:(rs.reverse++y::(y::t)).set rs.length x=rs.reverse++x::(y::t):=by have:=Bz rs.reverse y x (y::t);rw[jY]at this;exact this
  simp only[Kk,VX];rw[e1,e2,qf (by omega),fP (by omega) (by rw[hlen];omega),aG,fP (by omega) (by rw[hlen];omega),aG];simp only[d5,b9];rw[g1,g2,akZ hX hN,qc];dsimp only;rw[aG,aG,aG,s1,s2];have iK:(rs.reverse++y::(y::t)).length=rs.length+t.length+2:=by simp;omega
  simp only[iI];by_cases hlt:x<y
  .rw[qf (show x<y from hlt),fP (by omega) (by rw[hlen];omega),aG,ak (show fF x<fF y from hlt)];rw[MY N n hN K0 b i x hx m rs (y::t) (by omega) (by simp only[cw];omega) (fun e he=>hs e (cG _ he))];rw[ov,eG];rfl
  .rw[qg (show ¬ x<y from hlt),af (show ¬ fF x<fF y from hlt)];simp
theorem Sg(N:Nat)(hN:2<=N)(hW:2000<=N)(K0:List Int->Option (Unit×List Int×Unit)):∀(rest s:List Int)(m:Nat),rest.length<m->s.length+rest.length<=1000->(∀e∈s,rm e)->(∀e∈rest,rm e)->
  zM (DD X N) N K0 m 0 ((s.length+rest.length:Nat):Int) (s.length:Int) (s++rest)=K0 (rest.foldl (j7 fF) s)
 | [],s,0,h,_,_,_=>by omega
 | _::_,s,0,h,_,_,_=>by omega
 | [],s,m+1,_,_,_,_=>by
  simp only[zM,Te];rw[qg (by simp),gU];rfl
 | x::rest,s,m+1,hf,hl,hs,hr=>by
  simp only[cw]at hf hl;simp only[zM,Te,qf9];rw[qf (by simp only[cw];omega)];have e:=MY hX N N hN (fun bS dV iY jB=>qf0 (DD X N) N (zM (DD X N) N K0 m) K0 bS dV iY jB)
   ((s.length+(x::rest).length:Nat):Int) (s.length:Int) x (hr x e8) N s.reverse rest (by rw[jY];omega) (by rw[jY];omega) (fun e he=>hs e (uU.1 he))
  rw[jY,Cc]at e;rw[e];simp only[qf0];rw[qu (by omega)];have e2:=Sg N hN hW K0 rest (j7 fF s x) m (by omega) (by rw[xR];omega) (fun z hz=>by
   rcases(Ic fF s x z).1 hz with h | h
   .subst h;exact hr _ e8
   .exact hs z h) (fun z hz=>hr z (cG _ hz))
  rw[xR]at e2;rw[show s.length+(x::rest).length=s.length+1+rest.length by simp only[cw];omega];exact e2
theorem OL(hn:2<=n)(k:Nat)(hk:k<=12):∃v,Ws (DD X n) (IntKind.wrap IntKind.u64 (k:Int))=some ((v,()),()):=by
 obtain⟨n,rfl⟩:∃k,n=k+2:=⟨n-2,by omega⟩
 have hw:IntKind.wrap IntKind.u64 (k:Int)=(k:Int):=by
  have:∀j:Fin 13,IntKind.wrap IntKind.u64 ((j:Nat):Int)=((j:Nat):Int):=by decide +kernel
  exact this ⟨k,by omega⟩
 rw[hw,af9 hX];simp only[qxz,O6];rw[afc hX];have key:∃v,rS (DD X n) n (k:Int)=some ((v,()),()):=by
  match k,hk with
  | 0,_=>exact⟨_,akk _ _⟩
  | 1,_=>exact⟨_,akl _ _⟩
  | 2,_=>exact⟨_,akm _ _⟩
  | 3,_=>exact⟨_,akn _ _⟩
  | 4,_=>exact⟨_,ako _ _⟩
  | 5,_=>exact⟨_,akp _ _⟩
  | 6,_=>exact⟨_,akq _ _⟩
  | 7,_=>exact⟨_,akr _ _⟩
  | 8,_=>exact⟨_,aks _ _⟩
  | 9,_=>exact⟨_,akt _ _⟩
  | 10,_=>exact⟨_,acZ _ _⟩
  | 11,_=>exact⟨_,ac0 _ _⟩
  | 12,_=>exact⟨_,ac1 _ _⟩
  | k+13,h=>omega
 obtain⟨v,e⟩:=key;rw[e,qc];exact⟨v,rfl⟩
theorem aj4(hn:W+6<=n)(l:List Int)(hl:l.length<=12)(hs:∀e∈l,rm e):V3 (DD X n) l=some ((),l.foldl (j7 fF) [],()):=by
 obtain⟨n,rfl⟩:∃k,n=k+3:=⟨n-3,by omega⟩
 have hW:=dZ;rw[adD hX];simp only[qnj,qxd];obtain⟨v,e⟩:=OL hX (n:=n+2) (by omega) l.length hl;rw[e,qc];dsimp only;rw[q3r hX];simp only[qjo,qjy,qij];rw[show n+1=n+1 from rfl];simp only[VZ,qi7];rw[qs (by omega) (by omega),qf (by omega),qvd hX];simp only[qgy,qg3,qf8];rw[show wrap .i64 (0+1)=((1:Nat):Int) by decide +kernel];cases l with
 | nil=>
  obtain⟨n,rfl⟩:∃k,n=k+1:=⟨n-1,by omega⟩
  simp only[zM,Te];rw[qg (by simp)];rfl
 | cons x l=>have:=Sg hX n (by omega) (by omega) (fun bS=>qjx (DD X n) n bS) l [x] n (by simp only[cw]at hl;omega) (by simp only[cw,gB]at hl⊢;omega) (fun e he=>hs e (by simp only[d9]at he;subst he;exact e8)) (fun e he=>hs e (cG _ he));simp only[cw,gB,kC,N4]at this⊢;rw[show l.length+1=1+l.length by omega,this];rfl
theorem aj3(hn:W+6<=n)(l:List eB)(hl:l.length<=12)(hs:∀e∈l,rm e.1):VT (DD X n) l (a_.mk 183 [])=some ((),l.foldl (j7 j8) [],()):=by
 obtain⟨n,rfl⟩:∃k,n=k+3:=⟨n-3,by omega⟩
 have hW:=dZ;rw[qpm hX];simp only[qex,qii];obtain⟨v,e⟩:=OL hX (n:=n+2) (by omega) l.length hl;rw[e,qc];dsimp only;rw[qug hX];simp only[qgn,qgr,qf1];simp only[VW,qgb];rw[qs (by omega) (by omega),qf (by omega),qos hX];simp only[qem,qet,qd0];rw[show wrap .i64 (0+1)=((1:Nat):Int) by decide +kernel];cases l with
 | nil=>
  obtain⟨n,rfl⟩:∃k,n=k+1:=⟨n-1,by omega⟩
  simp only[zL,TC];rw[qg (by simp)];rfl
 | cons x l=>have:=Sf hX n (by omega) (by omega) (fun bS=>qg7 (DD X n) n (a_.mk 183 []) bS) l [x] n (by simp only[cw]at hl;omega) (by simp only[cw,gB]at hl⊢;omega) (fun e he=>hs e (by simp only[d9]at he;subst he;exact e8)) (fun e he=>hs e (cG _ he));simp only[cw,gB,kC,N4]at this⊢;rw[show l.length+1=1+l.length by omega,this];rfl
end
def gX(got:dL)(p:Int)(f:Int->Int):List eB:=bif hit got p then [(p,(eX got p).1,f (eX got p).1,())] else []
theorem xT{got:dL}{p:Int}(h:hit got p=true)(f:Int->Int):gX got p f=[(p,(eX got p).1,f (eX got p).1,())]:=by unfold gX;rw[h];rfl
theorem Ba{got:dL}{p:Int}(h:hit got p=false)(f:Int->Int):gX got p f=[]:=by unfold gX;rw[h];rfl
theorem Ct(got:dL)(p:Int)(f:Int->Int):(gX got p f).length<=1:=by unfold gX;cases hit got p<;>simp
def one(v:Int):Int:=wrap .i64 (v+1)
def less(v:Int):Int:=if wrap .i64 (v-1)>0 then wrap .i64 (v-1) else 0
def hJ(l:List eB)(e:eB):List eB:=l.takeWhile (fun y=>decide (y.1<e.1))++e::l.dropWhile (fun y=>decide (y.1<e.1))
theorem SZ(l:List eB)(e:eB):(hJ l e).length=l.length+1:=by unfold hJ;have:=eg List.length (GO (p:=fun y:eB=>decide (y.1<e.1)) (l:=l));rw[cV]at this⊢;rw[cw];omega
theorem Il(got:dL)(p:Int):(bif decide (p<0) then true else !(eX got p).2)=!hit got p:=by
 unfold hit;by_cases h:p<0
 .rw[bG h,b_ (by omega:¬ 0<=p)];rfl
 .rw[b_ h,bG (by omega:0<=p)];rfl
section
variable {X:Ext} (hX:fO X) {n:Nat} {got:dL}
include hX
theorem uL(hn:W+2<=n)(hg:got.length<=1048576){out:List eB}(ho:out.length<=100)(p to:Int):vW (DD X n) p to 0 got out=some ((),(out++gX got p (fun _=>to)),()):=by
 obtain⟨n,rfl⟩:∃k,n=k+1:=⟨n-1,by omega⟩
 have hb:=i9;rw[qv6 hX];simp only[TU,Wn];rw[yI hX (by omega) got hg,qc];dsimp only;rw[Il];cases h:hit got p
 .rw[iP,aG,Ba h,gU]
 .rw[cK,aM,qg (by decide),qg (by decide),qf (by omega),xT h]
theorem ak2(hn:W+2<=n)(hg:got.length<=1048576){out:List eB}(ho:out.length<=100)(p to:Int):vW (DD X n) p to 1 got out=some ((),(out++gX got p one),()):=by
 obtain⟨n,rfl⟩:∃k,n=k+1:=⟨n-1,by omega⟩
 have hb:=i9;rw[qv6 hX];simp only[TU,Wn];rw[yI hX (by omega) got hg,qc];dsimp only;rw[Il];cases h:hit got p
 .rw[iP,aG,Ba h,gU]
 .rw[cK,aM,qf trivial,qf (by omega),xT h];rfl
theorem ak3(hn:W+2<=n)(hg:got.length<=1048576){out:List eB}(ho:out.length<=100)(p to:Int):vW (DD X n) p to (-1) got out=some ((),(out++gX got p less),()):=by
 obtain⟨n,rfl⟩:∃k,n=k+1:=⟨n-1,by omega⟩
 have hb:=i9;rw[qv6 hX];simp only[TU,Wn];rw[yI hX (by omega) got hg,qc];dsimp only;rw[Il];cases h:hit got p
 .rw[iP,aG,Ba h,gU]
 .rw[cK,aM,qg (by decide),qf trivial,qf (by omega),xT h];rfl
end
theorem vr(k:Int):((0<=k/\k<=3)/\qw k=k)\/(¬ (0<=k/\k<=3)/\qw k = -1):=by
 unfold qw;by_cases h:0<=k/\k<=3
 .rw[lq.2 h];exact .inl ⟨h,rfl⟩
 .rw[Jj h];exact .inr ⟨h,rfl⟩
theorem vf(v:Int):((1<=v/\v<=6)/\q9 v=3+v)\/(¬ (1<=v/\v<=6)/\q9 v = -1):=by
 unfold q9;by_cases h:1<=v/\v<=6
 .rw[lq.2 h,bA,qs (by omega) (by omega)];exact .inl ⟨h,rfl⟩
 .rw[Jj h];exact .inr ⟨h,rfl⟩
theorem oR(v:Int):((1<=v/\v<=6)/\fR v=13+v)\/(¬ (1<=v/\v<=6)/\fR v = -1):=by
 unfold fR;by_cases h:1<=v/\v<=6
 .rw[lq.2 h,bA,qs (by omega) (by omega)];exact .inl ⟨h,rfl⟩
 .rw[Jj h];exact .inr ⟨h,rfl⟩
theorem ve(c:Int):((0<=c/\c<=2)/\iT c=10+c)\/(¬ (0<=c/\c<=2)/\iT c = -1):=by
 unfold iT;by_cases h:0<=c/\c<=2
 .rw[lq.2 h,bA,qs (by omega) (by omega)];exact .inl ⟨h,rfl⟩
 .rw[Jj h];exact .inr ⟨h,rfl⟩
theorem yL(v:Int):((1<=v/\v<=6)/\0<=qh v/\qh v<=2)\/(¬ (1<=v/\v<=6)/\qh v = -1):=by
 unfold qh;by_cases h:1<=v/\v<=6
 .rw[lq.2 h,bA,FQ (by omega)];exact .inl ⟨h,IV _ (by omega),by have:=Hp v (show(0:Int)<3 by omega);omega⟩
 .rw[Jj h];exact .inr ⟨h,rfl⟩
def lO(l:List eB):Prop:=l.Pairwise fun a b=>a.1<b.1
theorem Ih(p:Int):∀(l:List eB),lO l->∀y∈l.dropWhile (fun y=>decide (y.1<p)),p<=y.1
 | [],_,y,h=>by simp at h
 | x::l,hs,y,h=>by
  have lU:=me.1 hs;by_cases hx:x.1<p
  .rw[List.dropWhile_cons_of_pos (by exact bG hx)]at h;exact Ih p l lU.2 y h
  .rw[List.dropWhile_cons_of_neg (by simpa using hx)]at h;rcases bk.1 h with h | h
   .subst h;omega
   .have:=lU.1 y h;omega
theorem It(p:Int):∀(l:List eB),∀y∈l.takeWhile (fun y=>decide (y.1<p)),y.1<p
 | [],y,h=>by simp at h
 | x::l,y,h=>by
  by_cases hx:x.1<p
  .rw[List.takeWhile_cons_of_pos (by exact bG hx)]at h;rcases bk.1 h with h | h
   .subst h;exact hx
   .exact It p l y h
  .rw[List.takeWhile_cons_of_neg (by simpa using hx)]at h;simp at h
theorem S0(l:List eB)(e z:eB):z∈hJ l e↔z=e\/z∈l:=by
 unfold hJ;have h:z∈l↔z∈l.takeWhile (fun y=>decide (y.1<e.1))\/z∈l.dropWhile (fun y=>decide (y.1<e.1)):=by rw[<-bN,GO]
 rw[bN,bk,h];constructor
 .rintro(h | h | h)
  .exact .inr (.inl h)
  .exact .inl h
  .exact .inr (.inr h)
 .rintro(h | h | h)
  .exact .inr (.inl h)
  .exact .inl h
  .exact .inr (.inr h)
theorem acX{l:List eB}(hs:lO l){e:eB}(he:∀y∈l,y.1≠e.1):lO (hJ l e):=by
 unfold hJ;have hd:∀y∈l.dropWhile (fun y=>decide (y.1<e.1)),e.1<y.1:=fun y hy=>by
  have h1:=Ih e.1 l hs y hy;have h2:=he y (F8 _ |>.mem hy);omega
 have ht:=It e.1 l;refine MB.2 ⟨hs.sublist (List.takeWhile_sublist _),me.2 ⟨hd,hs.sublist (F8 _)⟩,fun a ha b hb=>?_⟩;have h1:=ht a ha;rcases bk.1 hb with h | h
 .subst h;exact h1
 .have:=hd b h;omega
theorem ajZ{l:List eB}(hs:lO l){e:eB}(he:∀y∈l,y.1≠e.1):j7 j8 l e=hJ l e:=by
 have hd:∀y∈l.dropWhile (fun y=>decide (y.1<e.1)),e.1<y.1:=fun y hy=>by
  have h1:=Ih e.1 l hs y hy;have h2:=he y (F8 _ |>.mem hy);omega
 have ht:=It e.1 l;have:=N7 j8 e (l.takeWhile (fun y=>decide (y.1<e.1))) (fun y hy=>by have:=ht y hy;unfold j8;omega) (l.dropWhile (fun y=>decide (y.1<e.1))).reverse (fun y hy=>hd y (uU.1 hy));rw[Cc,GO]at this;rw[this];rfl
def FA(l:List eB):Prop:=l.Pairwise fun a b=>a.1≠b.1
theorem Sw:∀(L acc:List eB),lO acc->FA L->(∀a∈acc,∀e∈L,a.1≠e.1)->L.foldl (j7 j8) acc=L.foldl hJ acc/\lO (L.foldl hJ acc)/\(∀z,z∈L.foldl hJ acc↔z∈acc\/z∈L)/\(L.foldl hJ acc).length=acc.length+L.length
 | [],acc,h,_,_=>⟨rfl,h,fun z=>by simp,rfl⟩
 | e::L,acc,h,hL,hx=>by
  have hL2:=me.1 hL;have he:∀y∈acc,y.1≠e.1:=fun y hy=>hx y hy e e8;simp only[nM];rw[ajZ h he];obtain⟨r1,r2,r3,r4⟩:=Sw L (hJ acc e) (acX h he) hL2.2 (fun a ha b hb=>by
   rcases(S0 acc e a).1 ha with q | q
   .subst q;exact hL2.1 b hb
   .exact hx a q b (cG _ hb))
  refine⟨r1,r2,fun z=>?_,by rw[r4,SZ,cw];omega⟩;rw[r3 z,S0,bk];constructor
  .rintro((h | h) | h)
   .exact .inr (.inl h)
   .exact .inl h
   .exact .inr (.inr h)
  .rintro(h | h | h)
   .exact .inl (.inr h)
   .exact .inl (.inl h)
   .exact .inr h
theorem Rr:∀(L acc:List eB),(L.foldl hJ acc).length=acc.length+L.length
 | [],acc=>rfl
 | e::L,acc=>by rw[nM,Rr L,SZ,cw];omega
abbrev Want:=Int×(Int->Int)
def iw(got:dL)(L:List Want):List eB:=L.flatMap fun p=>gX got p.1 p.2
theorem HH(got:dL):∀(L:List Want),(iw got L).length<=L.length
 | []=>ct _
 | p::L=>by
  have h1:=Ct got p.1 p.2;have h2:=HH got L;show((p::L).flatMap _).length<=_;rw[AM,cV,cw];have:(L.flatMap fun p=>gX got p.1 p.2).length<=L.length:=h2;omega
theorem JX(got:dL)(L:List Want)(e:eB):e∈iw got L↔∃p∈L,hit got p.1=true/\e=(p.1,(eX got p.1).1,p.2 (eX got p.1).1,()):=by
 unfold iw;rw[List.mem_flatMap];constructor
 .rintro⟨p,hp,he⟩;refine⟨p,hp,?_⟩;unfold gX at he;cases h:hit got p.1
  .rw[h]at he;simp at he
  .rw[h]at he;simp only[bA,d9]at he;exact⟨rfl,he⟩
 .rintro⟨p,hp,h,rfl⟩;exact⟨p,hp,by rw[xT h];exact d9.2 rfl⟩
theorem Br{got:dL}{p:Int}(h:hit got p=true):0<=p:=by unfold hit at h;simp only[bI,gT]at h;exact h.1
theorem QY(got:dL):∀(L:List Want),(L.Pairwise fun p q=>0<=p.1->p.1≠q.1)->FA (iw got L)
 | [],_=>List.Pairwise.nil
 | p::L,h=>by
  have h2:=me.1 h;have ih:=QY got L h2.2;show FA ((p::L).flatMap _);rw[AM];cases hh:hit got p.1
  .rw[Ba hh];exact ih
  .rw[xT hh];refine me.2 ⟨fun e he=>?_,ih⟩;obtain⟨q,hq,_,rfl⟩:=(JX got L e).1 he;exact h2.1 q hq (Br hh)
theorem aaW(got:dL)(L:List Want)(h:∀p∈L,p.1<=19):∀e∈iw got L,rm e.1:=by intro e he;obtain⟨p,hp,hh,rfl⟩:=(JX got L e).1 he;have h1:=Br hh;have h2:=h p hp;exact⟨by show -1000<=p.1;omega,by show p.1<=1000;omega⟩
def e_(K V held st:Int):List Want:=
 [(qw K,fun _=>V),(13,fun _=>st),(q9 held,fun _=>0),(fR held,fun _=>0),(q9 V,fun _=>wrap .i64 (K+1)),(fR V,fun _=>wrap .i64 (K+1))]++
  (bif qh held != qh V then [(iT (qh held),less),(iT (qh V),one)] else [])
theorem SJ(K V held st:Int):(e_ K V held st).length<=8:=by unfold e_;cases qh held != qh V<;>simp
theorem Nt(K V held st:Int):∀p∈e_ K V held st,p.1<=19:=by
 have h1:=vr K;have h2:=vf held;have h3:=vf V;have h4:=oR held;have h5:=oR V;have h6:=ve (qh held);have h7:=ve (qh V);unfold e_;cases qh held != qh V
 .intro p hp;simp only[bg,gU,bk,dc,di]at hp;rcases hp with rfl | rfl | rfl | rfl | rfl | rfl<;>dsimp only<;>omega
 .intro p hp;simp only[bA,fH,gA,bk,dc,di]at hp;rcases hp with rfl | rfl | rfl | rfl | rfl | rfl | rfl | rfl<;>dsimp only<;>omega
theorem aaS{K V held st:Int}(hv:1<=held/\held<=6->held≠V):(e_ K V held st).Pairwise fun p q=>0<=p.1->p.1≠q.1:=by
 have h1:=vr K;have h2:=vf held;have h3:=vf V;have h4:=oR held;have h5:=oR V;have h6:=ve (qh held);have h7:=ve (qh V);unfold e_;cases hc:qh held != qh V
 .simp only[bg,gU,me,bk,dc,di,uE,uD,List.Pairwise.nil,iQ,AP,u5,B4];refine⟨⟨?_,?_,?_,?_,?_⟩,⟨?_,?_,?_,?_⟩,⟨?_,?_,?_⟩,⟨?_,?_⟩,?_⟩<;>omega
 .have hne:qh held≠qh V:=by simpa using hc
  simp only[bA,fH,gA,me,bk,dc,di,uE,uD,List.Pairwise.nil,iQ,AP,u5,B4];refine⟨⟨?_,?_,?_,?_,?_,?_,?_⟩,⟨?_,?_,?_,?_,?_,?_⟩,⟨?_,?_,?_,?_,?_⟩,⟨?_,?_,?_,?_⟩,⟨?_,?_,?_⟩,⟨?_,?_⟩,?_⟩<;>omega
section
variable {X:Ext} (hX:fO X) {n:Nat} {got:dL}
include hX
theorem abG(hn:W+9<=n)(hg:got.length<=1048576)(k K V held st:Int) :
  Ww (DD X n) (k,K,V,()) got held st=some (((iw got (e_ K V held st)).foldl (j7 j8) [],()),()):=by
 obtain⟨n,rfl⟩:∃k,n=k+1:=⟨n-1,by omega⟩
 have hW:=dZ;obtain⟨E1,h1⟩:∃E,E=gX got (qw K) (fun _=>V):=⟨_,rfl⟩
 obtain⟨E2,h2⟩:∃E,E=gX got 13 (fun _=>st):=⟨_,rfl⟩
 obtain⟨E3,h3⟩:∃E,E=gX got (q9 held) (fun _=>0):=⟨_,rfl⟩
 obtain⟨E4,h4⟩:∃E,E=gX got (fR held) (fun _=>0):=⟨_,rfl⟩
 obtain⟨E5,h5⟩:∃E,E=gX got (q9 V) (fun _=>wrap .i64 (K+1)):=⟨_,rfl⟩
 obtain⟨E6,h6⟩:∃E,E=gX got (fR V) (fun _=>wrap .i64 (K+1)):=⟨_,rfl⟩
 obtain⟨E7,h7⟩:∃E,E=gX got (iT (qh held)) less:=⟨_,rfl⟩
 obtain⟨E8,h8⟩:∃E,E=gX got (iT (qh V)) one:=⟨_,rfl⟩
 have l1:E1.length<=1:=by rw[h1];exact Ct ..
 have l2:E2.length<=1:=by rw[h2];exact Ct ..
 have l3:E3.length<=1:=by rw[h3];exact Ct ..
 have l4:E4.length<=1:=by rw[h4];exact Ct ..
 have l5:E5.length<=1:=by rw[h5];exact Ct ..
 have l6:E6.length<=1:=by rw[h6];exact Ct ..
 have l7:E7.length<=1:=by rw[h7];exact Ct ..
 have l8:E8.length<=1:=by rw[h8];exact Ct ..
 have hs:=fun l hl hk=>aj3 hX (n:=n) (by omega) l hl hk;have hlen:=nN (HH got (e_ K V held st)) (SJ K V held st);have iL:=aaW got (e_ K V held st) (Nt K V held st);have heq:iw got (e_ K V held st)=bif qh held != qh V then []++E1++E2++E3++E4++E5++E6++E7++E8 else []++E1++E2++E3++E4++E5++E6:=by
  unfold iw e_;cases qh held != qh V
  .simp only[bg,gU,AM,List.flatMap_nil,gA,eG,<-h1,<-h2,<-h3,<-h4,<-h5,<-h6]
  .simp only[bA,fH,gA,gU,AM,List.flatMap_nil,eG,<-h1,<-h2,<-h3,<-h4,<-h5,<-h6,<-h7,<-h8]
 rw[ahK hX];simp only[Zs,Px];rw[yK hX (by omega),qc];dsimp only;rw[uL hX (by omega) hg (by simp),<-h1,qc];dsimp only;rw[yH hX (by omega),qc];dsimp only;rw[uL hX (by omega) hg (by simp only[cV,gB];omega),<-h2,qc];dsimp only;rw[Ds hX (by omega),qc];dsimp only;rw[uL hX (by omega) hg (by simp only[cV,gB];omega),<-h3,qc];dsimp only;rw[Cl hX (by omega),qc];dsimp only;rw[uL hX (by omega) hg (by simp only[cV,gB];omega),<-h4,qc];dsimp only;rw[Ds hX (by omega),qc];dsimp only;rw[uL hX (by omega) hg (by simp only[cV,gB];omega),<-h5,qc];dsimp only;rw[Cl hX (by omega),qc];dsimp only;rw[uL hX (by omega) hg (by simp only[cV,gB];omega),<-h6,qc];dsimp only;rw[Jb hX (by omega),qc,Jb hX (by omega),qc];dsimp only;cases hc:qh held != qh V
 .rw[hc,bg]at heq;rw[aM,<-heq,hs _ (by omega) iL,qc]
 .rw[hc,bA]at heq;rw[aG];simp only[qc];rw[Dr hX (by omega),qc];dsimp only;rw[ak3 hX (by omega) hg (by simp only[cV,gB];omega),<-h7,qc];dsimp only;rw[Dr hX (by omega),qc];dsimp only;rw[ak2 hX (by omega) hg (by simp only[cV,gB];omega),<-h8,qc];dsimp only;rw[<-heq,hs _ (by omega) iL,qc]
end
def dh(o:cL):Bool:=
 bif decide (o.1=1)||decide (o.1=2) then bw o.2.1 0 3&&bw o.2.2.1 1 6
 else bif decide (o.1=3)||decide (o.1=4) then bw o.2.1 0 3&&decide (o.2.2.1=0)
 else bif decide (o.1=5)||decide (o.1=10) then decide (o.2.1=0)&&bw o.2.2.1 1 6
 else bif decide (o.1=6) then bw o.2.1 0 2&&decide (o.2.2.1=0)
 else bif decide (o.1=7)||(decide (o.1=8)||decide (o.1=9)) then decide (o.2.1=0)&&decide (o.2.2.1=0) else false
def jP(k V row owner st cnt:Int):Option (Int×List Int):=
 if k=1/\row≠0 then some (1,[]) else
 if k=1/\owner≠0 then some (2,[]) else
 if (k=2\/k=3\/k=4)/\row=0 then some (3,[]) else
 if k=2/\row=V then some (0,[]) else
 if k=2/\owner≠0 then some (2,[]) else
 if k=4 then some (0,[row]) else
 if k=5/\owner=0 then some (3,[]) else
 if k=5 then some (0,[wrap .i64 (owner-1)]) else
 if k=6 then some (0,[cnt]) else
 if k=8/\st≠0 then some (4,[]) else
 if k=9/\(st<1\/st>4) then some (4,[]) else
 if k=10/\st≠5 then some (4,[]) else none
def sO:Option (Int×List Int)->(Int×List Int×Unit)×Bool×Unit
 | some x=>((x.1,x.2,()),true,())
 | none=>((0,[],()),false,())
abbrev pS:=Bool×(Int×List Int×Unit)×List eB×Unit
def mM(o:cL)(got:dL):Option (Int×List Int):=
 jP o.1 o.2.2.1 (eX got (qw o.2.1)).1 (eX got (q9 o.2.2.1)).1 (eX got 13).1 (eX got (iT o.2.1)).1
theorem bL(a b:Int):(a != b)=!decide (a=b):=by by_cases h:a=b<;>simp[h]
section
variable {X:Ext} (hX:fO X) {n:Nat} {got:dL}
include hX
theorem abc(hn:4<=n)(k K V:Int):Vw (DD X n) (k,K,V,())=some ((dh (k,K,V,()),()),()):=by
 obtain⟨n,rfl⟩:∃k,n=k+1:=⟨n-1,by omega⟩
 rw[aax hX];simp only[Gq,QH];simp only[RL hX (n:=n) (by omega),KK hX (n:=n) (by omega),yU hX (n:=n) (by omega),Nd hX (n:=n) (by omega),yO hX (n:=n) (by omega),qc];unfold dh;dsimp only;generalize hA:bw K 0 3=A;generalize hB:bw V 1 6=B;generalize hC:bw K 0 2=C;generalize hD:decide (K=0)=D;generalize hE:decide (V=0)=E;by_cases h:1<=k/\k<=10
 .have:k=1\/k=2\/k=3\/k=4\/k=5\/k=6\/k=7\/k=8\/k=9\/k=10:=by omega
  rcases this with rfl | rfl | rfl | rfl | rfl | rfl | rfl | rfl | rfl | rfl<;>cases A<;>cases B<;>cases C<;>cases D<;>cases E<;>rfl
 .rw[Jj h,iP,aG];simp only[b_ (by omega:¬ k=1),b_ (by omega:¬ k=2),b_ (by omega:¬ k=3),b_ (by omega:¬ k=4),b_ (by omega:¬ k=5),b_ (by omega:¬ k=6),b_ (by omega:¬ k=7),b_ (by omega:¬ k=8),b_ (by omega:¬ k=9),b_ (by omega:¬ k=10),Bool.or_false,bg]
theorem UE(hn:5<=n)(k K V:Int):Dq (DD X n) (k,K,V,())=some ((dh (k,K,V,()),()),()):=by
 obtain⟨n,rfl⟩:∃k,n=k+1:=⟨n-1,by omega⟩
 rw[aaq hX];simp only[Gk,Qw];simp only[RJ hX (n:=n) (by omega),Jh hX (n:=n) (by omega),SE hX (n:=n) (by omega),qc];unfold dh;dsimp only;generalize hA:bw K 0 3=A;generalize hB:bw V 1 6=B;generalize hC:bw K 0 2=C;generalize hD:decide (K=0)=D;generalize hE:decide (V=0)=E;by_cases h:1<=k/\k<=10
 .have:k=1\/k=2\/k=3\/k=4\/k=5\/k=6\/k=7\/k=8\/k=9\/k=10:=by omega
  rcases this with rfl | rfl | rfl | rfl | rfl | rfl | rfl | rfl | rfl | rfl<;>cases A<;>cases B<;>cases C<;>cases D<;>cases E<;>rfl
 .simp only[b_ (by omega:¬ k=1),b_ (by omega:¬ k=2),b_ (by omega:¬ k=3),b_ (by omega:¬ k=4),b_ (by omega:¬ k=5),b_ (by omega:¬ k=6),b_ (by omega:¬ k=7),b_ (by omega:¬ k=8),b_ (by omega:¬ k=9),b_ (by omega:¬ k=10),Bool.or_false,bg,aM]
theorem acf(hn:W+5<=n)(hg:got.length<=1048576)(o:cL):q4m (DD X n) o got=some (sO (mM o got),()):=by
 obtain⟨n,rfl⟩:∃k,n=k+1:=⟨n-1,by omega⟩
 have hW:=dZ;obtain⟨k,K,V,⟨⟩⟩:=o;rw[aiG hX];simp only[Z8,PO];simp only[yK hX (n:=n) (by omega),Ds hX (n:=n) (by omega),Dr hX (n:=n) (by omega),yH hX (n:=n) (by omega),yI hX (n:=n) (by omega) got hg,qc];unfold mM;dsimp only;generalize (eX got (qw K)).1=row;generalize (eX got (q9 V)).1=owner;generalize (eX got 13).1=st;generalize (eX got (iT K)).1=cnt;unfold jP;by_cases h:1<=k/\k<=10
 .have:k=1\/k=2\/k=3\/k=4\/k=5\/k=6\/k=7\/k=8\/k=9\/k=10:=by omega
  rcases this with rfl | rfl | rfl | rfl | rfl | rfl | rfl | rfl | rfl | rfl
  .by_cases r0:row=0<;>by_cases w0:owner=0<;>simp[r0,w0,br,sO,bL]
  .by_cases rV:row=V
   .subst rV;by_cases r0:row=0<;>simp[r0,br,sO,bL]
   .by_cases r0:row=0<;>by_cases w0:owner=0<;>simp[r0,rV,w0,br,sO,bL]
  .by_cases r0:row=0<;>simp[r0,br,sO,bL]
  .by_cases r0:row=0<;>simp[r0,br,sO,bL]
  .by_cases w0:owner=0<;>simp[w0,br,sO,bL]
  .simp[br,sO,bL]
  .simp[br,sO,bL]
  .by_cases s0:st=0<;>simp[s0,br,sO,bL]
  .by_cases s1:st<1<;>by_cases s4:4<st<;>simp[s1,s4,br,sO,bL]
  .by_cases s5:st=5<;>simp[s5,br,sO,bL]
 .simp only[b_ (by omega:¬ k=1),b_ (by omega:¬ k=2),b_ (by omega:¬ k=3),b_ (by omega:¬ k=4),b_ (by omega:¬ k=5),b_ (by omega:¬ k=6),b_ (by omega:¬ k=7),b_ (by omega:¬ k=8),b_ (by omega:¬ k=9),b_ (by omega:¬ k=10),bg,aM];have k1:¬ k=1:=by omega
  have k2:¬ k=2:=by omega
  have k3:¬ k=3:=by omega
  have k4:¬ k=4:=by omega
  have k5:¬ k=5:=by omega
  have k6:¬ k=6:=by omega
  have k8:¬ k=8:=by omega
  have k9:¬ k=9:=by omega
  have jq:¬ k=10:=by omega
  simp[k1,k2,k3,k4,k5,k6,k8,k9,jq,sO]
end
def val(got:dL)(p:Int):Int:=(eX got p).1
def mG(k row st p old:Int):Int:=if k=8 then wrap .i64 (old+1) else if k=9 then (if p=13 then wrap .i64 (old+1) else if p=fR row then st else old) else old
def same(got:dL)(p:Int):eB:=(p,val got p,val got p,())
def dI(o:cL)(got:dL):List eB:=
 if o.1=1\/o.1=2\/o.1=3 then (iw got (e_ o.2.1 o.2.2.1 (val got (qw o.2.1)) (val got 13))).foldl hJ [] else
 if o.1=7 then [same got 0,same got 1,same got 2,same got 3] else
 if o.1=8 then [(13,val got 13,1,())] else
 if o.1=9 then same got (qw (wrap .i64 (val got 13-1)))::(13,val got 13,wrap .i64 (val got 13+1),())::
  (bif bw (val got (qw (wrap .i64 (val got 13-1)))) 1 6 then [(fR (val got (qw (wrap .i64 (val got 13-1)))),val got (fR (val got (qw (wrap .i64 (val got 13-1))))),val got 13,())] else []) else
 if o.1=10 then [same got 13,same got (fR o.2.2.1)] else []
def eF(o:cL)(got:dL):Int×List Int×Unit:=
 if o.1=7 then (0,[val got 0,val got 1,val got 2,val got 3],()) else
 if o.1=10 then (if val got (fR o.2.2.1)=0 then (3,[],()) else (0,[wrap .i64 (val got (fR o.2.2.1)-1)],())) else (0,[],())
def Oh:pS:=(false,(0,[],()),[],())
def gj(o:cL)(got:dL):pS×Bool×Unit:=
 if dh o=true/\(run got (prog o)).2<0 then
  match mM o got with
  | some x=>((true,(x.1,x.2,()),[],()),true,())
  | none=>((false,eF o got,dI o got,()),true,())
 else (Oh,false,())
theorem z4{got:dL}{p:Int}{k:Int->PR}(hp:0<=p)(h:(run got (.ask p k)).2<0):hit got p=true/\(run got (k (val got p))).2<0/\(run got (.ask p k)).1=p::(run got (k (val got p))).1:=by
 cases hh:hit got p
 .rw[nS hh]at h;dsimp only at h;omega
 .rw[nU hh]at h⊢;exact⟨rfl,h,rfl⟩
theorem tP{o:cL}(h:dh o=true):((o.1=1\/o.1=2)/\(0<=o.2.1/\o.2.1<=3)/\(1<=o.2.2.1/\o.2.2.1<=6))\/((o.1=3\/o.1=4)/\(0<=o.2.1/\o.2.1<=3)/\o.2.2.1=0)\/
  ((o.1=5\/o.1=10)/\o.2.1=0/\(1<=o.2.2.1/\o.2.2.1<=6))\/(o.1=6/\(0<=o.2.1/\o.2.1<=2)/\o.2.2.1=0)\/((o.1=7\/o.1=8\/o.1=9)/\o.2.1=0/\o.2.2.1=0):=by
 unfold dh at h;by_cases JP:o.1=1\/o.1=2
 .rw[show(decide (o.1=1)||decide (o.1=2))=true by simpa using JP,bA,bI]at h;exact .inl ⟨JP,lq.1 h.1,lq.1 h.2⟩
 rw[show(decide (o.1=1)||decide (o.1=2))=false by simpa using JP,bg]at h;by_cases C7:o.1=3\/o.1=4
 .rw[show(decide (o.1=3)||decide (o.1=4))=true by simpa using C7,bA,bI,gT]at h;exact .inr (.inl ⟨C7,lq.1 h.1,h.2⟩)
 rw[show(decide (o.1=3)||decide (o.1=4))=false by simpa using C7,bg]at h;by_cases k5:o.1=5\/o.1=10
 .rw[show(decide (o.1=5)||decide (o.1=10))=true by simpa using k5,bA,bI,gT]at h;exact .inr (.inr (.inl ⟨k5,h.1,lq.1 h.2⟩))
 rw[show(decide (o.1=5)||decide (o.1=10))=false by simpa using k5,bg]at h;by_cases k6:o.1=6
 .rw[bG k6,bA,bI,gT]at h;exact .inr (.inr (.inr (.inl ⟨k6,lq.1 h.1,h.2⟩)))
 rw[b_ k6,bg]at h;by_cases k7:o.1=7\/o.1=8\/o.1=9
 .rw[show(decide (o.1=7)||(decide (o.1=8)||decide (o.1=9)))=true by simpa using k7,bA,bI,gT,gT]at h;exact .inr (.inr (.inr (.inr ⟨k7,h.1,h.2⟩)))
 .rw[show(decide (o.1=7)||(decide (o.1=8)||decide (o.1=9)))=false by simpa using k7,bg]at h;exact absurd h (by simp)
theorem MF{got:dL}{K V held st:Int}(hv:1<=held/\held<=6->held≠V):(iw got (e_ K V held st)).foldl (j7 j8) []=(iw got (e_ K V held st)).foldl hJ []/\lO ((iw got (e_ K V held st)).foldl hJ [])/\
  (∀z,z∈(iw got (e_ K V held st)).foldl hJ []↔z∈iw got (e_ K V held st))/\((iw got (e_ K V held st)).foldl hJ []).length=(iw got (e_ K V held st)).length:=by
 obtain⟨r1,r2,r3,r4⟩:=Sw (iw got (e_ K V held st)) [] List.Pairwise.nil (QY got _ (aaS hv)) (fun a ha=>by simp at ha);exact⟨r1,r2,fun z=>by rw[r3];simp,by rw[r4];simp⟩
theorem xV{o:cL}{got:dL}(ho:dh o=true)(hn:mM o got=none)(hk:o.1=1\/o.1=2\/o.1=3):1<=val got (qw o.2.1)/\val got (qw o.2.1)<=6->val got (qw o.2.1)≠o.2.2.1:=by
 intro h;have:=tP ho;unfold mM jP at hn;rcases hk with k | k | k
 .rw[k]at hn;by_cases h0:(eX got (qw o.2.1)).1=0
  .unfold val at h;omega
  .rw[ak ⟨rfl,h0⟩]at hn;cases hn
 .rw[k]at hn;rw[af (by omega),af (by omega)]at hn;by_cases h0:(eX got (qw o.2.1)).1=0
  .unfold val at h;omega
  .rw[af (by omega)]at hn;by_cases h1:(eX got (qw o.2.1)).1=o.2.2.1
   .rw[ak ⟨rfl,h1⟩]at hn;cases hn
   .exact h1
 .omega
section
variable {X:Ext} (hX:fO X) {n:Nat} {got:dL}
include hX
theorem acg(hn:4<=n)(o:cL)(p old row st:Int):q4n (DD X n) o p old row st=some ((mG o.1 row st p old,()),()):=by
 obtain⟨n,rfl⟩:∃k,n=k+1:=⟨n-1,by omega⟩
 rw[aiH hX];simp only[Z9,PS];rw[yH hX (by omega),qc,Cl hX (by omega),qc];unfold mG;by_cases h8:o.1=8
 .rw[qf h8,ak h8]
 rw[qg h8,af h8];by_cases h9:o.1=9
 .rw[qf h9,ak h9];by_cases h1:p=13
  .rw[qf h1,ak h1]
  rw[qg h1,af h1];by_cases h2:p=fR row
  .rw[qf h2,ak h2]
  .rw[qg h2,af h2]
 .rw[qg h9,af h9]
theorem Fo(N n:Nat)(hN:W+2<=N)(hg:got.length<=1048576)(K:dL->cL->pS->pS->Option ((pS×Bool×Unit)×Unit))(st row:Int)(o:cL)(x6:pS)(g:dL)(P:List Int)(mo:Int×Bool×Unit)(hP:P.length<=20) :
  ∀(m i:Nat)(rl:List Int)(el:List eB),i<=P.length->P.length-i<m->rl.length<=i->el.length<=i->
  Kw (DD X N) n K m got st row (P.length:Int) (i:Int) o x6 (false,(0,rl,()),el,()) (g,P,mo) =
   K got o x6 (false,(0,rl++(if o.1=7 then (P.drop i).map (val got) else []),()),el++(P.drop i).map (fun p=>(p,val got p,mG o.1 row st p (val got p),())),())
 | 0,_,_,_,_,h,_,_=>by omega
 | m+1,i,rl,el,hi,hf,h1,h2=>by
  have hb:=i9;have hW:=dZ;simp only[Kw,ZQ];by_cases h:i<P.length
  .rw[qf (by omega),ix h,aG,yI hX (by omega) got hg,qc,d5,qv h];dsimp only;rw[acg hX (by omega),qc];dsimp only;rw[qf (by omega),tG h];simp only[cA];by_cases h7:o.1=7
   .rw[qf h7,qf (by omega),qu (by omega)];rw[Fo N n hN hg K st row o x6 g P mo hP m (i+1) _ _ (by omega) (by omega) (by rw[cV,nL];omega) (by rw[cV,nL];omega)];rw[ak h7,ak h7,eG,eG];rfl
   .rw[qg h7,qu (by omega)];rw[Fo N n hN hg K st row o x6 g P mo hP m (i+1) _ _ (by omega) (by omega) (by omega) (by rw[cV,nL];omega)];rw[af h7,af h7,eG];rfl
  .rw[qg (by omega),tH h];simp
end
theorem G_{o:cL}{got:dL}(ho:dh o=true)(hn:mM o got=none)(hr:(run got (prog o)).2<0)(hk:¬ (o.1=1\/o.1=2\/o.1=3)) :
    ((run got (prog o)).1.length<=12/\∀e∈(run got (prog o)).1,rm e)/\
    ((o.1=7/\(run got (prog o)).1.foldl (j7 fF) []=[0,1,2,3])\/
     (o.1=8/\val got 13=0/\(run got (prog o)).1.foldl (j7 fF) []=[13])\/
     (o.1=9/\(1<=val got 13/\val got 13<=4)/\(run got (prog o)).1.foldl (j7 fF) []=qw (wrap .i64 (val got 13-1))::13::(bif bw (val got (qw (wrap .i64 (val got 13-1)))) 1 6 then [fR (val got (qw (wrap .i64 (val got 13-1))))] else []))\/
     (o.1=10/\(run got (prog o)).1.foldl (j7 fF) []=[13,fR o.2.2.1])):=by
  have um:=tP ho;unfold mM jP at hn;rw[af (by omega),af (by omega)]at hn;by_cases k4:o.1=4
  . exfalso
    by_cases h0:(eX got (qw o.2.1)).1=0
    . rw[ak ⟨.inr (.inr k4),h0⟩]at hn;cases hn
    . rw[af (by omega),af (by omega),af (by omega),ak k4]at hn;cases hn
  rw[af (by omega),af (by omega),af (by omega),af k4]at hn;by_cases k5:o.1=5
  . exfalso
    by_cases h0:(eX got (q9 o.2.2.1)).1=0
    . rw[ak ⟨k5,h0⟩]at hn;cases hn
    . rw[af (by omega),ak k5]at hn;cases hn
  rw[af (by omega),af k5]at hn;by_cases k6:o.1=6
  . exfalso;rw[ak k6]at hn;cases hn
  rw[af k6]at hn;have kk:o.1=7\/o.1=8\/o.1=9\/o.1=10:=by omega
  have LW:prog o=if o.1=7 then Cp else if o.1=8 then .ask 13 (fun _=>.done) else if o.1=9 then yM else if o.1=10 then wk o else .done:=by unfold prog;rw[af (by omega),af (by omega),af (by omega),af k4,af k5,af k6]
  rw[LW]at hr⊢;rcases kk with k | k | k | k
  . rw[ak k]at hr⊢
    unfold Cp at hr⊢;obtain⟨_,r1,e1⟩:=z4 (by omega) hr;obtain⟨_,r2,e2⟩:=z4 (by omega) r1;obtain⟨_,r3,e3⟩:=z4 (by omega) r2;obtain⟨_,_,e4⟩:=z4 (by omega) r3;rw[e1,e2,e3,e4];refine⟨⟨by simp[run],fun e he=>?_⟩,.inl ⟨k,rfl⟩⟩;simp only[run,bk,dc,di]at he;rcases he with rfl | rfl | rfl | rfl<;>exact⟨by omega,by omega⟩
  . rw[af (by omega),ak k]at hr⊢
    obtain⟨_,_,e1⟩:=z4 (by omega) hr;rw[e1];refine⟨⟨by simp[run],fun e he=>?_⟩,.inr (.inl ⟨k,?_,rfl⟩)⟩
    . simp only[run,bk,dc,di]at he
      subst he;exact⟨by omega,by omega⟩
    . by_cases s0:(eX got 13).1=0
      . exact s0
      . rw[ak ⟨k,s0⟩]at hn;cases hn
  . rw[af (by omega),af (by omega),ak k]at hr⊢
    rw[af (by omega)]at hn;have hst:1<=val got 13/\val got 13<=4:=by
      by_cases s0:(eX got 13).1<1\/(eX got 13).1>4
      . rw[ak ⟨k,s0⟩]at hn;cases hn
      . unfold val;omega
    unfold yM at hr⊢;obtain⟨_,r1,e1⟩:=z4 (by omega) hr;rw[e1];have hb:(bif decide (val got 13<1) then true else decide (val got 13>4))=false:=by rw[b_ (by omega),b_ (by omega)];rfl
    rw[hb,bg]at r1⊢;have hw:wrap .i64 (val got 13-1)=val got 13-1:=qs (by omega) (by omega);have hrow:=vr (wrap .i64 (val got 13-1));rw[hw]at hrow;rw[hw]at r1⊢;obtain⟨_,r2,e2⟩:=z4 (by omega) r1;rw[e2];generalize Yc:qw (val got 13-1)=p at *;have hp:0<=p/\p<=3:=by omega
    cases hv:bw (val got p) 1 6
    . rw[iP,bA,bg]
      have es:[(13:Int),p].foldl (j7 fF) []=[p,13]:=by simp only[nM,FZ,j7,yx,iI,ID];rw[ak (show fF p<fF 13 by unfold fF;omega)];rfl
      refine⟨⟨by simp[run],fun e he=>?_⟩,.inr (.inr (.inl ⟨k,hst,es⟩))⟩;simp only[run,bk,dc,di]at he;rcases he with rfl | rfl<;>exact⟨by omega,by omega⟩
    . rw[hv,cK,bg]at r2
      rw[cK,bg,bA];have nq:=oR (val got p);have EB:=lq.1 hv;obtain⟨_,_,e3⟩:=z4 (by omega) r2;rw[e3];have es:[(13:Int),p,fR (val got p)].foldl (j7 fF) []=[p,13,fR (val got p)]:=by simp only[nM,FZ,j7,yx,iI,ID];rw[ak (show fF p<fF 13 by unfold fF;omega)];simp only[ov,yx,gA,fH,iI];rw[af (show ¬ fF (fR (val got p))<fF 13 by unfold fF;omega)];rfl
      refine⟨⟨by simp[run],fun e he=>?_⟩,.inr (.inr (.inl ⟨k,hst,es⟩))⟩;simp only[run,bk,dc,di]at he;rcases he with rfl | rfl | rfl<;>exact⟨by omega,by omega⟩
  . rw[af (by omega),af (by omega),af (by omega),ak k]at hr⊢
    rw[af (by omega),af (by omega)]at hn;have hst:val got 13=5:=by
      by_cases s0:(eX got 13).1=5
      . exact s0
      . rw[ak ⟨k,s0⟩]at hn;cases hn
    unfold wk at hr⊢;obtain⟨_,r1,e1⟩:=z4 (by omega) hr;rw[e1];rw[hst]at r1⊢;rw[show((5:Int) != 5)=false by decide,bg]at r1⊢;have nq:=oR o.2.2.1;obtain⟨_,_,e3⟩:=z4 (by omega) r1;rw[e3];have es:[(13:Int),fR o.2.2.1].foldl (j7 fF) []=[13,fR o.2.2.1]:=by simp only[nM,FZ,j7,yx,iI,ID];rw[af (show ¬ fF (fR o.2.2.1)<fF 13 by unfold fF;omega)];rfl
    refine⟨⟨by simp[run],fun e he=>?_⟩,.inr (.inr (.inr ⟨k,es⟩))⟩;simp only[run,bk,dc,di]at he;rcases he with rfl | rfl<;>exact⟨by omega,by omega⟩
section
variable {X:Ext} (hX:fO X) {n:Nat} {got:dL}
include hX
theorem abJ(hn:W+3<=n)(hg:got.length<=1048576)(o:cL)(x6:pS)(rl:List Int)(el:List eB):T5 (DD X n) n got o x6 (false,(0,rl,()),el,()) =
  some (((false,(if o.1=10 then (if val got (fR o.2.2.1)=0 then (3,rl,()) else (0,[wrap .i64 (val got (fR o.2.2.1)-1)],())) else (0,rl,())),el,()),true,()),()):=by
 have hW:=dZ;simp only[T5];by_cases k:o.1=10
 .rw[qf k,ak k,Cl hX (by omega),qc];dsimp only;rw[yI hX (by omega) got hg,qc];dsimp only;unfold val;by_cases h:(eX got (fR o.2.2.1)).1=0
  .rw[bL,bG h,cK,aM,ak h]
  .rw[bL,b_ h,iP,aG,af h]
 .rw[qg k,af k]
theorem ajy(hn:W+14<=n)(hg:got.length<=1048576)(o:cL):WB (DD X n) o got=some (gj o got,()):=by
 obtain⟨n,rfl⟩:∃k,n=k+1:=⟨n-1,by omega⟩
 have hW:=dZ;obtain⟨k,K,V,⟨⟩⟩:=o;rw[aiC hX];simp only[q4w,q5j,qyq];rw[UE hX (by omega),qc];dsimp only;unfold gj;cases ho:dh (k,K,V,())
 .rw[iP,aG,af (by simp)];rfl
 obtain⟨b,e⟩:=SD hX (n:=n) (by omega) hg (k,K,V,());rw[cK,aM,e,qc];dsimp only;by_cases hr:(run got (prog (k,K,V,()))).2<0
 .rw[qg (by omega),ak ⟨rfl,hr⟩,acf hX (by omega) hg,qc];cases dz:mM (k,K,V,()) got with
  | some x=>simp only[sO];rw[aG]
  | none=>
   simp only[sO];rw[aM,yH hX (by omega),qc];dsimp only;rw[yI hX (by omega) got hg,qc];dsimp only;rw[yK hX (by omega),qc];dsimp only;rw[yI hX (by omega) got hg,qc];dsimp only;by_cases hk:k=1\/k=2\/k=3
   .have hne:=xV ho dz hk;obtain⟨c1,_,_,_⟩:=MF (got:=got) (K:=K) (V:=V) (held:=val got (qw K)) (st:=val got 13) hne;have eK:(bif bif decide (k=1) then true else decide (k=2) then true else decide (k=3))=true:=by rcases hk with h | h | h<;>subst h<;>rfl
    rw[qg (by omega),eK,aG,abG hX (by omega) hg,qc];dsimp only;unfold eF dI;rw[ak hk,af (show ¬ k=7 by omega),af (show ¬ k=10 by omega)];have zq:=c1;unfold val at zq⊢;rw[zq]
   .obtain⟨⟨p1,p2⟩,pl⟩:=G_ ho dz hr hk;have eK:(bif bif decide (k=1) then true else decide (k=2) then true else decide (k=3))=false:=by rw[b_ (show ¬ k=1 by omega),b_ (show ¬ k=2 by omega),b_ (show ¬ k=3 by omega)];rfl
    rw[eK];simp only[aM];have tw:=aj4 hX (n:=n) (by omega) _ p1 p2;have tn:∀(row:Int)(P:List Int)(x6:pS),P.length<=20->Kw (DD X n) n (fun bS dV iY jB=>T5 (DD X n) n bS dV iY jB) n got (eX got 13).1 row (P.length:Int) 0 (k,K,V,()) x6 (false,(0,[],()),[],()) (got,P,(run got (prog (k,K,V,()))).2,b,()) =
      some (((false,(if k=10 then (if val got (fR V)=0 then (3,(if k=7 then P.map (val got) else []),()) else (0,[wrap .i64 (val got (fR V)-1)],())) else (0,(if k=7 then P.map (val got) else []),())),P.map (fun p=>(p,val got p,mG k row (eX got 13).1 p (val got p),())),()),true,()),()):=by
     intro row P x6 hP;have:=Fo hX n n (by omega) hg (fun bS dV iY jB=>T5 (DD X n) n bS dV iY jB) (eX got 13).1 row (k,K,V,()) x6 got P ((run got (prog (k,K,V,()))).2,b,()) hP n 0 [] [] (by omega) (by omega) (by simp) (by simp);rw[show((0:Nat):Int)=0 from rfl,jo]at this;rw[this];rw[abJ hX (by omega) hg];simp only[gA]
    unfold eF dI;dsimp only;rw[af hk];rcases pl with⟨h7,hp⟩ | ⟨h8,hz,hp⟩ | ⟨h9,hz,hp⟩ | ⟨D7,hp⟩
    .dsimp only at h7;subst h7;rw[qg (by decide),tw,qc,hp];dsimp only;rw[tn _ [0,1,2,3] _ (by simp)];rfl
    .dsimp only at h8;subst h8;rw[qg (by decide),tw,qc,hp];dsimp only;rw[tn _ [13] _ (by simp),af (by decide),af (by decide),af (by decide),af (by decide),ak rfl,af (by decide)];simp only[cA,f4,mG,aX];rw[hz];rfl
    .dsimp only at h9;subst h9;rw[qf rfl,yK hX (by omega),qc];dsimp only;rw[yI hX (by omega) got hg,qc];dsimp only;rw[tw,qc,hp];dsimp only;rw[tn _ _ _ (by cases bw (val got (qw (wrap .i64 (val got 13-1)))) 1 6<;>simp)];have hw:wrap .i64 (val got 13-1)=val got 13-1:=qs (by omega) (by omega);have hrow:=vr (wrap .i64 (val got 13-1));rw[hw]at hrow;rw[af (by decide),af (by decide),af (by decide),af (by decide),ak rfl,af (by decide),af (by decide)];have At:(eX got 13).1=val got 13:=rfl;rw[At,hw];have hv2:(eX got (qw (val got 13-1))).1=val got (qw (val got 13-1)):=rfl;rw[hv2];generalize qw (val got 13-1)=p at *;have gZ:0<=p/\p<=3:=by omega
     have nq:=oR (val got p);have b1:∀x,mG 9 (val got p) (val got 13) p x=x:=fun x=>by
      unfold mG;rw[af (by decide),ak rfl,af (by omega),af (by omega)]
     have b2:∀x,mG 9 (val got p) (val got 13) 13 x=wrap .i64 (x+1):=fun x=>by
      unfold mG;rw[af (by decide),ak rfl,ak rfl]
     cases hin:bw (val got p) 1 6
     .simp only[bg,cA,f4,b1,b2];rfl
     .have EB:=lq.1 hin;have b3:∀x,mG 9 (val got p) (val got 13) (fR (val got p)) x=val got 13:=fun x=>by
       unfold mG;rw[af (by decide),ak rfl,af (by omega),ak rfl]
      simp only[bA,cA,f4,b1,b2,b3];rfl
    .dsimp only at D7;subst D7;rw[qg (by decide),tw,qc,hp];dsimp only;rw[tn _ [13,fR V] _ (by simp)];simp[mG,same]
 .rw[qf (by omega),af (fun h=>hr h.2)];rfl
end
theorem GU{α:Type}(key:α->Int):∀(L acc:List α)(z:α),z∈L.foldl (j7 key) acc↔z∈acc\/z∈L
 | [],acc,z=>by simp
 | e::L,acc,z=>by
  rw[nM,GU key L,Ic,bk];constructor
  .rintro((h | h) | h)
   .exact .inr (.inl h)
   .exact .inl h
   .exact .inr (.inr h)
  .rintro(h | h | h)
   .exact .inl (.inr h)
   .exact .inl (.inl h)
   .exact .inr h
def B8(o:cL)(got:dL):Int:=if dh o=true then (run got (prog o)).2 else -1
section
variable {X:Ext} (hX:fO X) {n:Nat} {got:dL}
include hX
theorem aaB(hn:W+13<=n)(hg:got.length<=1048576)(o:cL):Gh (DD X n) o got=some ((B8 o got,()),()):=by
 obtain⟨n,rfl⟩:∃k,n=k+1:=⟨n-1,by omega⟩
 have hW:=dZ;rw[aap hX];simp only[Gj,Qv];obtain⟨b,e⟩:=SD hX (n:=n) (by omega) hg o;obtain⟨k,K,V,⟨⟩⟩:=o;rw[UE hX (by omega),qc];dsimp only;unfold B8;cases ho:dh (k,K,V,())
 .rw[iP,aG];rfl
 .rw[cK,aM,e,qc,ak rfl]
end
end Go.G
namespace Go.G
open Go Go.V
abbrev j6:=List Int×Int×Int×Unit
def nx(c:j6):Prop:=c.1.length<=1048576/\0<=c.2.1/\c.2.1<=c.1.length
theorem Bm(x:BitVec (IntKind.bits IntKind.i64)):0<=wrap .i64 ((BitVec.toNat (BitVec.and x (BitVec.ofInt (IntKind.bits IntKind.i64) 255)):Nat):Int)/\wrap .i64 ((BitVec.toNat (BitVec.and x (BitVec.ofInt (IntKind.bits IntKind.i64) 255)):Nat):Int)<=255:=by
 have h:BitVec.toNat (BitVec.and x (BitVec.ofInt (IntKind.bits IntKind.i64) 255))<=255:=by show BitVec.toNat (x &&&BitVec.ofInt (IntKind.bits IntKind.i64) 255)<=255;rw[BitVec.toNat_and];exact nN Nat.and_le_right (by decide)
 rw[qs (by omega) (by omega)];omega
theorem ME{X:Ext}(hX:fO X){n:Nat}(hn:1<=n){c:j6}(hc:nx c):∃(x:Int)(c':j6),0<=x/\x<=255/\nx c'/\Ja (DD X n) c=some ((x,()),(c',())):=by
 obtain⟨n,rfl⟩:∃k,n=k+1:=⟨n-1,by omega⟩
 obtain⟨h1,h2,h3⟩:=hc;rw[aic hX];simp only[q46,PV];by_cases h:c.2.1<(c.1.length:Int)
 .rw[qf h,fP h2 h,aG,qs (x:=c.2.1+1) (by omega) (by omega)];refine⟨_,(c.1,c.2.1+1,_,()),(Bm _).1,(Bm _).2,⟨h1,?_,?_⟩,rfl⟩
  .show 0<=c.2.1+1;omega
  .show c.2.1+1<=(c.1.length:Int);omega
 .rw[qg h];have k:∀h u,nx (c.1,c.2.1,h,u):=fun _ _=>⟨h1,h2,h3⟩
  exact⟨_,_,(Bm _).1,(Bm _).2,k _ _,rfl⟩
theorem zQ{X:Ext}(hX:fO X){n:Nat}(hn:2<=n){c:j6}(hc:nx c)(k:Int):∃(x:Int)(c':j6),(0<k->0<=x/\x<k)/\(k<=0->x=0)/\nx c'/\rT (DD X n) c k=some ((x,()),(c',())):=by
 obtain⟨n,rfl⟩:∃k,n=k+1:=⟨n-1,by omega⟩
 rw[ahS hX];simp only[ZD,PF];by_cases h:k<=0
 .rw[qf h];exact⟨0,c,fun h2=>by omega,fun _=>rfl,hc,rfl⟩
 .rw[qg h];by_cases h2:k<=256
  .obtain⟨x,c',x0,x1,Lm,e⟩:=ME hX (n:=n) (by omega) hc;rw[qf h2,e,qc];dsimp only;rw[qg (by omega)];refine⟨_,_,fun _=>?_,fun h3=>by omega,Lm,rfl⟩;rw[FQ x0];exact⟨IV _ (by omega),Hp _ (by omega)⟩
  .obtain⟨x,c1,x0,x1,jN,e1⟩:=ME hX (n:=n) (by omega) hc;obtain⟨y,c2,y0,y1,g_,e2⟩:=ME hX (n:=n) (by omega) jN;obtain⟨z,c3,z0,z1,rO,e3⟩:=ME hX (n:=n) (by omega) g_;obtain⟨w,c4,w0,w1,Xt,e4⟩:=ME hX (n:=n) (by omega) rO;rw[qg h2,e1,qc];dsimp only;rw[e2,qc];dsimp only;rw[e3,qc];dsimp only;rw[e4,qc];dsimp only;rw[qg (by omega),qs (x:=x * 16777216) (by omega) (by omega),qs (x:=y * 65536) (by omega) (by omega),qs (x:=x * 16777216+y * 65536) (by omega) (by omega),
    qs (x:=z * 256) (by omega) (by omega),qs (x:=x * 16777216+y * 65536+z * 256) (by omega) (by omega),qs (x:=x * 16777216+y * 65536+z * 256+w) (by omega) (by omega)]
   refine⟨_,_,fun _=>?_,fun h3=>by omega,Xt,rfl⟩;rw[FQ (by omega)];exact⟨IV _ (by omega),Hp _ (by omega)⟩
theorem Qm{X:Ext}(hX:fO X){n:Nat}(hn:3<=n){c:j6}(hc:nx c)(l:List Int)(hl:0<l.length):∃(x:Int)(c':j6),x∈l/\nx c'/\Wj (DD X n) c l=some ((x,()),(c',())):=by
 obtain⟨n,rfl⟩:∃k,n=k+1:=⟨n-1,by omega⟩
 rw[afD hX];simp only[qv3,q93];obtain⟨x,c',h1,_,Lm,e⟩:=zQ hX (n:=n) (by omega) hc (l.length:Int);obtain⟨x0,x1⟩:=h1 (by omega);rw[e,qc];dsimp only;rw[fP x0 x1,aG,qv (by omega)];exact⟨_,_,d_ _,Lm,rfl⟩
theorem NK(D:Den ctx)(n:Nat){K0:List Int->Int->Option ((j6×Unit)×Unit)}(a:List Int)(ha:a.length<=1048576):∀(m i:Nat)(h:Int),i<=a.length->a.length-i<m->∃h':Int,Uk D n K0 m a h i=K0 a h'
 | 0,_,_,_,h=>by omega
 | m+1,i,h,hi,hf=>by
  simp only[Uk,q52];by_cases h1:i<a.length
  .by_cases h2:(i:Int)<4000
   .rw[bG (by omega:(i:Int)<(a.length:Int)),bA,qf h2,bG (by omega:(0:Int)<=(i:Int)),I2,aG,qu (by omega)];exact NK D n a ha m (i+1) _ (by omega) (by omega)
   .rw[bG (by omega:(i:Int)<(a.length:Int)),bA,qg h2];exact⟨h,rfl⟩
  .rw[b_ (by omega:¬ (i:Int)<(a.length:Int)),bg,aM];exact⟨h,rfl⟩
theorem aj2{X:Ext}(hX:fO X){n:Nat}(hn:W+1<=n)(a:List Int)(ha:a.length<=1048576):∃c:j6,nx c/\q7z (DD X n) a=some ((c,()),()):=by
 obtain⟨n,rfl⟩:∃k,n=k+1:=⟨n-1,by omega⟩
 have hW:=dZ;rw[ai5 hX];simp only[q8i,q92,Z2];obtain⟨h',e⟩:=NK (DD X n) n (K0:=fun v w=>O9 (DD X n) n v w) a ha n 0 (wrap .i64 (27323+(a.length:Int))) (by omega) (by omega);rw[show((0:Nat):Int)=0 from rfl]at e;exact⟨(a,0,h',()),⟨ha,by show(0:Int)<=0;omega,by show(0:Int)<=(a.length:Int);omega⟩,e⟩
theorem akP{X:Ext}(hX:fO X){n:Nat}(hn:1<=n)(a:List Int):Gx (DD X n) a=some ((decide ((a.length:Int)>1048576),()),()):=by
 obtain⟨n,rfl⟩:∃k,n=k+1:=⟨n-1,by omega⟩
 rw[aa4 hX];rfl
open Go.Proofs
abbrev qp:=List Int×Int×Unit
def bf(v:Int):List Int->Nat->Int
 | [],_=>-1
 | x::l,i=>if x=v then (i:Int) else bf v l (i+1)
theorem MO(v:Int):∀(l:List Int)(i:Nat),bf v l i<0->v∉l
 | [],i,_=>by simp
 | x::l,i,h=>by
  simp only[bf]at h;by_cases e:x=v
  .rw[ak e]at h;omega
  .rw[af e]at h;have:=MO v l (i+1) h;intro hm;rcases bk.1 hm with k | k
   .exact e k.symm
   .exact this k
theorem E9(v:Int):∀(l:List Int)(i k:Nat),l[k]? = some v->(∀j<k,l[j]?≠some v)->bf v l i=((i+k:Nat):Int)
 | [],i,k,h,_=>by simp at h
 | x::l,i,0,h,_=>by
  simp only[IB,aK]at h;simp only[bf];rw[ak h];rfl
 | x::l,i,k+1,h,hj=>by
  simp only[List.getElem?_cons_succ]at h;simp only[bf];rw[af (by have:=hj 0 (by omega);simp only[IB,ne_eq,aK]at this;exact this),E9 v l (i+1) k h (fun j h2=>by have:=hj (j+1) (by omega);simpa using this)];congr 1;omega
structure aS (r:qp):Prop where
 len:r.1.length=4
 dQ:∀x∈r.1,0<=x/\x<=6
 once:∀i j:Nat,i<j->∀v,r.1[i]? = some v->r.1[j]? = some v->v=0
 st:0<=r.2.1/\r.2.1<=5
section
variable {X:Ext} (hX:fO X) {n:Nat}
include hX
theorem NI(D:Den ctx)(n:Nat)(K0:Int->Option ((Int×Unit)×Unit))(K1:Option ((Int×Unit)×Unit))(hK:K0 (-1)=K1)(r:qp)(hr:r.1.length<=1000)(v:Int):∀(m i:Nat),i<=r.1.length->r.1.length-i<m->
  Uq D n K0 K1 m v (i:Int) r=K0 (bf v (r.1.drop i) i)
 | 0,_,_,h=>by omega
 | m+1,i,hi,hf=>by
  simp only[Uq,q5u];by_cases h:i<r.1.length
  .rw[qf (by omega),ix h,aG,d5,qv h,tG h];simp only[bf];by_cases e:r.1[i]=v
   .rw[qf e,ak e]
   .rw[qg e,af e,qu (by omega)];exact NI D n K0 K1 hK r hr v m (i+1) (by omega) (by omega)
  .rw[qg (by omega),tH h];exact hK.symm
theorem Qn(hn:W+1<=n)(r:qp)(hr:r.1.length<=1000)(v:Int):WO (DD X n) r v=some ((bf v r.1 0,()),()):=by
 obtain⟨n,rfl⟩:∃k,n=k+1:=⟨n-1,by omega⟩
 have hW:=dZ;rw[aiY hX];simp only[q8c,q9u,ZI];have e:=NI hX (DD X n) n (fun bS=>OR (DD X n) n bS) (OS (DD X n) n) rfl r hr v n 0 (by omega) (by omega);rw[show((0:Nat):Int)=0 from rfl]at e;rw[e];rfl
theorem HB(N n:Nat)(hN:W+2<=N)(K0:Bool->qp->Option ((Bool×Unit)×Unit))(K1:qp->Option ((Bool×Unit)×Unit)){r:qp}(hr:aS r):∀(m i:Nat),i<=r.1.length->r.1.length-i<m->
  Uf (DD X N) n K0 K1 m (i:Int) r=K1 r
 | 0,_,_,h=>by omega
 | m+1,i,hi,hf=>by
  have hl:=hr.len;have hW:=dZ;simp only[Uf,ZO];by_cases h:i<r.1.length
  .rw[qf (by omega),ix h,aG,d5,qv h];by_cases e:r.1[i]=0
   .rw[bL,bG e,cK,aM,qu (by omega)];exact HB N n hN K0 K1 hr m (i+1) (by omega) (by omega)
   .have hv:=hr.dQ r.1[i] (d_ h);rw[bL,b_ e,iP,aG,aG,KK hX (by omega),qc];dsimp only;rw[lq.2 (by omega),cK,aM,aG,Qn hX (by omega) r (by omega),qc];dsimp only;have hk:bf r.1[i] r.1 0=(i:Int):=by rw[E9 r.1[i] r.1 0 i (gz h) (fun j hj hc=>e (hr.once j i hj _ hc (gz h)))];congr 1;omega
    rw[hk,bL,bG rfl,cK,aM,qu (by omega)];exact HB N n hN K0 K1 hr m (i+1) (by omega) (by omega)
  .rw[qg (by omega)]
theorem P9(hn:W+3<=n){r:qp}(hr:aS r):WD (DD X n) r=some ((true,()),()):=by
 obtain⟨n,rfl⟩:∃k,n=k+1:=⟨n-1,by omega⟩
 have hW:=dZ;have hl:=hr.len;rw[aia hX];simp only[q44,q50,qzo];have e:=HB hX n n (by omega) (fun bS dV=>q90 (DD X n) n bS dV) (fun sV=>qwq (DD X n) n sV) hr n 0 (by omega) (by omega);rw[show((0:Nat):Int)=0 from rfl]at e;rw[e];simp only[qwq];rw[qf (by omega),yU hX (by omega),qc,lq.2 hr.st]
theorem GS(N n:Nat)(hN:W+2<=N)(K0:j6->qp->qp->Option ((qp×Unit)×(j6×Unit)))(z:qp):∀(m i:Nat)(c:j6)(r:qp),nx c->aS r->i<=4->4-i<m->
  ∃(c':j6)(r':qp),nx c'/\aS r'/\TL (DD X N) n K0 m (i:Int) c z r=K0 c' z r'
 | 0,_,_,_,_,_,_,h=>by omega
 | m+1,i,c,r,hc,hr,hi,hf=>by
  have hl:=hr.len;have hW:=dZ;simp only[TL,qq1];by_cases h:i<4
  .obtain⟨x,c1,h1,_,jN,e1⟩:=zQ hX (n:=N) (by omega) hc 7;obtain⟨x0,x1⟩:=h1 (by omega);rw[qf (by omega),e1,qc];dsimp only;rw[show(r.1,r.2)=r from rfl,Qn hX (by omega) r (by omega),qc];dsimp only;by_cases hk:bf x r.1 0<0
   .have hnot:=MO x r.1 0 hk;rw[qf hk,fP (by omega) (by omega),aG,qu (by omega),d5];have zE:aS (r.1.set i x,r.2):=by
     refine⟨by show(r.1.set i x).length=4;rw[b9];exact hl,fun y hy=>?_,fun a b hab v ha hb=>?_,hr.st⟩
     .rcases Ho hy with hy | rfl
      .exact hr.dQ y hy
      .omega
     .simp only[jZ]at ha hb;by_cases ea:i=a
      .rw[ak ea]at ha;rw[af (by omega)]at hb;split at ha
       .simp only[aK]at ha;subst ha;exact absurd (mT.2 ⟨b,hb⟩) hnot
       .simp at ha
      .rw[af ea]at ha;by_cases eb:i=b
       .rw[ak eb]at hb;split at hb
        .simp only[aK]at hb;subst hb;exact absurd (mT.2 ⟨a,ha⟩) hnot
        .simp at hb
       .rw[af eb]at hb;exact hr.once a b hab v ha hb
    exact GS N n hN K0 z m (i+1) c1 (r.1.set i x,r.2) jN zE (by omega) (by omega)
   .rw[qg hk,qu (by omega)];exact GS N n hN K0 z m (i+1) c1 r jN hr (by omega) (by omega)
  .rw[qg (by omega)];exact⟨c,r,hc,hr,rfl⟩
theorem aik(hn:W+3<=n){c:j6}(hc:nx c):∃(r:qp)(c':j6),aS r/\(r.2.1=0\/r.2.1=1\/r.2.1=3\/r.2.1=5)/\nx c'/\qrr (DD X n) c=some ((r,()),(c',())):=by
 obtain⟨n,rfl⟩:∃k,n=k+1:=⟨n-1,by omega⟩
 have hW:=dZ;have hnew:Zd (DD X n)=some ((((List.replicate (Int.toNat 4) 0,0,()):qp),()),()):=by
  obtain⟨n,rfl⟩:∃k,n=k+1:=⟨n-1,by omega⟩
  rw[ahm hX];rfl
 rw[aes hX];simp only[qrx,qs2,qpe];rw[hnew,qc];dsimp only;have h0:aS ((List.replicate (Int.toNat 4) 0,0,()):qp):=by
  refine⟨rfl,fun x hx=>?_,fun i j hij v hi hj=>?_,by show(0:Int)<=0/\(0:Int)<=5;omega⟩
  .have:=(List.mem_replicate.1 hx).2;omega
  .simp only[vM]at hi;split at hi
   .simp only[aK]at hi;exact hi.symm
   .simp at hi
 obtain⟨c',r',h1,h2,e⟩:=GS hX n n (by omega) (fun bS dV iY=>qn7 (DD X n) n bS dV iY) ([],0,()) n 0 c _ hc h0 (by omega) (by omega);rw[show((0:Nat):Int)=0 from rfl]at e;rw[e];simp only[qn7];obtain⟨s,c2,hs,g_,e2⟩:=Qm hX (n:=n) (by omega) h1 [0,0,1,3,5] (by simp);rw[e2,qc];have lU:s=0\/s=1\/s=3\/s=5:=by simp only[bk,dc,di]at hs;omega
 exact⟨(r'.1,s,()),c2,⟨h2.len,h2.dQ,h2.once,by show 0<=s/\s<=5;omega⟩,lU,g_,rfl⟩
end
def Ia(ws:List Int):Prop:=ws.length=20/\∀x∈ws,0<=x/\x<=1000
theorem Ia.set{ws:List Int}(h:Ia ws)(i:Nat){x:Int}(hx:0<=x/\x<=1000):Ia (ws.set i x):=
 ⟨by rw[b9];exact h.1,fun y hy=>by
  rcases Ho hy with q | rfl
  .exact h.2 y q
  .exact hx⟩
def many(c:Int):List Int->Int
 | []=>0
 | x::l=>(bif bw x 1 6&&decide (qh x=c) then 1 else 0)+many c l
theorem MP(c:Int):∀l,0<=many c l/\many c l<=(l.length:Int)
 | []=>⟨by simp[many],by simp[many]⟩
 | x::l=>by
  have:=MP c l;simp only[many,cw];cases bw x 1 6&&decide (qh x=c)<;>simp only[bA,bg]<;>omega
section
variable {X:Ext} (hX:fO X) {n:Nat}
include hX
theorem Nc(hn:1<=n)(b:Bool):Uw (DD X n) b=some ((bif b then 1 else 0,()),()):=by
 obtain⟨n,rfl⟩:∃k,n=k+1:=⟨n-1,by omega⟩
 rw[ai4 hX];cases b<;>rfl
theorem IN(N n:Nat)(hN:4<=N)(K:Int->Option ((Int×Unit)×Unit))(r:qp)(hr:r.1.length<=1000)(c:Int):∀(m i:Nat)(a:Int),i<=r.1.length->r.1.length-i<m->0<=a/\a<=i->
  Ub (DD X N) n K m c a (i:Int) r=K (a+many c (r.1.drop i))
 | 0,_,_,_,h,_=>by omega
 | m+1,i,a,hi,hf,ha=>by
  simp only[Ub,qzh];by_cases h:i<r.1.length
  .rw[qf (by omega),ix h,aG,d5,qv h,KK hX (by omega),qc,tG h];simp only[many];cases hv:bw r.1[i] 1 6
   .rw[aM,Nc hX (by omega),qc];dsimp only;rw[bg,qs (by omega) (by omega),qu (by omega),IN N n hN K r hr c m (i+1) _ (by omega) (by omega) (by omega)];congr 1;simp only[Bool.false_and,bg];omega
   .rw[aG,aG,aaC hX (by omega),qc];dsimp only;rw[Nc hX (by omega),qc];dsimp only;have hb:0<=(bif decide (qh r.1[i]=c) then (1:Int) else 0)/\(bif decide (qh r.1[i]=c) then (1:Int) else 0)<=1:=by cases decide (qh r.1[i]=c)<;>simp
    rw[qs (by omega) (by omega),qu (by omega),IN N n hN K r hr c m (i+1) _ (by omega) (by omega) (by omega)];congr 1;simp only[zK];omega
  .rw[qg (by omega),tH h];congr 1;simp[many]
theorem aiQ(hn:W+1<=n)(r:qp)(hr:r.1.length<=1000)(c:Int):Zb (DD X n) r c=some ((many c r.1,()),()):=by
 obtain⟨n,rfl⟩:∃k,n=k+1:=⟨n-1,by omega⟩
 have hW:=dZ;rw[ahk hX];simp only[ZA,ZH,qwo];have e:=IN hX n n (by omega) (fun bS=>q6w (DD X n) n bS) r hr c n 0 0 (by omega) (by omega) (by omega);rw[show((0:Nat):Int)=0 from rfl,jo,Int.zero_add]at e;rw[e];rfl
end
section
variable {X:Ext} (hX:fO X) {n:Nat}
include hX
theorem aiP(hn:6<=n){c:j6}(hc:nx c):∃(o:cL)(c':j6),nx c'/\dh o=true/\qrs (DD X n) c=some ((o,()),(c',())):=by
 obtain⟨n,rfl⟩:∃k,n=k+1:=⟨n-1,by omega⟩
 rw[aet hX];simp only[qry,q4a];obtain⟨k,c1,hk,jN,e1⟩:=Qm hX (n:=n) (by omega) hc [1,1,1,2,2,3,4,5,6,7,8,9,9,10] (by simp);have hk2:k=1\/k=2\/k=3\/k=4\/k=5\/k=6\/k=7\/k=8\/k=9\/k=10:=by simp only[bk,dc,di]at hk;omega
 obtain⟨x,c2,h2,_,g_,e2⟩:=zQ hX (n:=n) (by omega) jN 4;obtain⟨y,c3,h3,_,rO,e3⟩:=zQ hX (n:=n) (by omega) g_ 4;obtain⟨z,c4,h4,_,Xt,e4⟩:=zQ hX (n:=n) (by omega) jN 3;obtain⟨x0,x1⟩:=h2 (by omega);obtain⟨y0,y1⟩:=h3 (by omega);obtain⟨z0,z1⟩:=h4 (by omega);have Vr:bw x 0 3=true:=lq.2 (by omega);have iz:bw z 0 2=true:=lq.2 (by omega);have wy:wrap .i64 (1+y)=1+y:=qs (by omega) (by omega);have wx:wrap .i64 (1+x)=1+x:=qs (by omega) (by omega);have iy:bw (1+y) 1 6=true:=lq.2 (by omega);have ix6:bw (1+x) 1 6=true:=lq.2 (by omega);simp only[show(List.set (List.set (List.set (List.set (List.set (List.set (List.set (List.set (List.set (List.set (List.set (List.set (List.set (List.set (List.replicate 14 (0:Int)) 0 1) 1 1) 2 1) 3 2) 4 2) 5 3) 6 4) 7 5) 8 6) 9 7) 10 8) 11 9) 12 9) 13 10)=[1,1,1,2,2,3,4,5,6,7,8,9,9,10] from rfl];rw[e1,qc];dsimp only;rw[Nd hX (by omega),qc];dsimp only;rcases hk2 with rfl | rfl | rfl | rfl | rfl | rfl | rfl | rfl | rfl | rfl
 .rw[show bw 1 1 4=true from rfl,aG,e2,qc];dsimp only;rw[qg (by decide),yO hX (by omega),qc];dsimp only;rw[show(bif bif bif decide ((1:Int)=1) then true else decide ((1:Int)=2) then true else decide ((1:Int)=5) then true else decide ((1:Int)=10))=true from rfl,aG,e3,qc,wy];exact⟨_,_,rO,by show(bw x 0 3&&bw (1+y) 1 6)=true;rw[Vr,iy];rfl,rfl⟩
 .rw[show bw 2 1 4=true from rfl,aG,e2,qc];dsimp only;rw[qg (by decide),yO hX (by omega),qc];dsimp only;rw[show(bif bif bif decide ((2:Int)=1) then true else decide ((2:Int)=2) then true else decide ((2:Int)=5) then true else decide ((2:Int)=10))=true from rfl,aG,e3,qc,wy];exact⟨_,_,rO,by show(bw x 0 3&&bw (1+y) 1 6)=true;rw[Vr,iy];rfl,rfl⟩
 .rw[show bw 3 1 4=true from rfl,aG,e2,qc];dsimp only;rw[qg (by decide),yO hX (by omega),qc];dsimp only;rw[show(bif bif bif decide ((3:Int)=1) then true else decide ((3:Int)=2) then true else decide ((3:Int)=5) then true else decide ((3:Int)=10))=false from rfl,aM];exact⟨_,_,g_,by show(bw x 0 3&&true)=true;rw[Vr];rfl,rfl⟩
 .rw[show bw 4 1 4=true from rfl,aG,e2,qc];dsimp only;rw[qg (by decide),yO hX (by omega),qc];dsimp only;rw[show(bif bif bif decide ((4:Int)=1) then true else decide ((4:Int)=2) then true else decide ((4:Int)=5) then true else decide ((4:Int)=10))=false from rfl,aM];exact⟨_,_,g_,by show(bw x 0 3&&true)=true;rw[Vr];rfl,rfl⟩
 .rw[show bw 5 1 4=false from rfl,aM,qg (by decide),yO hX (by omega),qc];dsimp only;rw[show(bif bif bif decide ((5:Int)=1) then true else decide ((5:Int)=2) then true else decide ((5:Int)=5) then true else decide ((5:Int)=10))=true from rfl,aG,e2,qc,wx];exact⟨_,_,g_,by show(true&&bw (1+x) 1 6)=true;rw[ix6];rfl,rfl⟩
 .rw[show bw 6 1 4=false from rfl,aM,qf rfl,e4,qc];dsimp only;rw[yO hX (by omega),qc];dsimp only;rw[show(bif bif bif decide ((6:Int)=1) then true else decide ((6:Int)=2) then true else decide ((6:Int)=5) then true else decide ((6:Int)=10))=false from rfl,aM];exact⟨_,_,Xt,by show(bw z 0 2&&true)=true;rw[iz];rfl,rfl⟩
 .rw[show bw 7 1 4=false from rfl,aM,qg (by decide),yO hX (by omega),qc];exact⟨_,_,jN,rfl,rfl⟩
 .rw[show bw 8 1 4=false from rfl,aM,qg (by decide),yO hX (by omega),qc];exact⟨_,_,jN,rfl,rfl⟩
 .rw[show bw 9 1 4=false from rfl,aM,qg (by decide),yO hX (by omega),qc];exact⟨_,_,jN,rfl,rfl⟩
 .rw[show bw 10 1 4=false from rfl,aM,qg (by decide),yO hX (by omega),qc];dsimp only;rw[show(bif bif bif decide ((10:Int)=1) then true else decide ((10:Int)=2) then true else decide ((10:Int)=5) then true else decide ((10:Int)=10))=true from rfl,aG,e2,qc,wx];exact⟨_,_,g_,by show(true&&bw (1+x) 1 6)=true;rw[ix6];rfl,rfl⟩
end
theorem ac6{k V row owner st cnt:Int}{x:Int×List Int}(h:jP k V row owner st cnt=some x):x.2.length<=1:=by
 unfold jP at h;by_cases c0:k=1/\row≠0
 .rw[ak c0]at h;cases h;simp
 rw[af c0]at h;by_cases c1:k=1/\owner≠0
 .rw[ak c1]at h;cases h;simp
 rw[af c1]at h;by_cases c2:(k=2\/k=3\/k=4)/\row=0
 .rw[ak c2]at h;cases h;simp
 rw[af c2]at h;by_cases c3:k=2/\row=V
 .rw[ak c3]at h;cases h;simp
 rw[af c3]at h;by_cases c4:k=2/\owner≠0
 .rw[ak c4]at h;cases h;simp
 rw[af c4]at h;by_cases c5:k=4
 .rw[ak c5]at h;cases h;simp
 rw[af c5]at h;by_cases c6:k=5/\owner=0
 .rw[ak c6]at h;cases h;simp
 rw[af c6]at h;by_cases c7:k=5
 .rw[ak c7]at h;cases h;simp
 rw[af c7]at h;by_cases c8:k=6
 .rw[ak c8]at h;cases h;simp
 rw[af c8]at h;by_cases c9:k=8/\st≠0
 .rw[ak c9]at h;cases h;simp
 rw[af c9]at h;by_cases c10:k=9/\(st<1\/st>4)
 .rw[ak c10]at h;cases h;simp
 rw[af c10]at h;by_cases c11:k=10/\st≠5
 .rw[ak c11]at h;cases h;simp
 rw[af c11]at h;cases h
theorem abI(o:cL)(got:dL):(gj o got).1.2.1.2.1.length<=20/\(gj o got).1.2.2.1.length<=20:=by
 unfold gj;split
 .cases hn:mM o got with
  | some x=>have:=ac6 hn;exact⟨by show x.2.length<=20;omega,by show(0:Nat)<=20;omega⟩
  | none=>
   refine⟨?_,?_⟩
   .show(eF o got).2.1.length<=20;unfold eF
    repeat' split
    all_goals simp
   .show(dI o got).length<=20;unfold dI;split
    .rw[Rr];have:=nN (HH got (e_ o.2.1 o.2.2.1 (val got (qw o.2.1)) (val got 13))) (SJ _ _ _ _);simp only[gB];omega
    .repeat' split
     .simp
     .simp
     .cases bw (val got (qw (wrap .i64 (val got 13-1)))) 1 6<;>simp
     .simp
     .simp
 .exact⟨by show(0:Nat)<=20;omega,by show(0:Nat)<=20;omega⟩
section
variable {X:Ext} (hX:fO X) {n:Nat}
include hX
end
theorem pK(l:List Int)(i j:Nat)(x:Int)(h:i<l.length):(l.set i x).getD j 0=if j=i then x else l.getD j 0:=by
 simp only[List.getD,jZ];by_cases e:i=j
 .subst e;rw[ak rfl,ak h,ak rfl];rfl
 .rw[af e,af (fun k=>e k.symm)]
theorem MN(v:Int):∀(l:List Int)(i k:Nat),bf v l i=(k:Int)->i<=k/\l[k-i]? = some v
 | [],i,k,h=>by simp only[bf]at h;omega
 | x::l,i,k,h=>by
  simp only[bf]at h;by_cases e:x=v
  .rw[ak e]at h;have:i=k:=by omega
   subst this;refine⟨ct _,?_⟩;rw[Nat.sub_self,e];rfl
  .rw[af e]at h;obtain⟨h1,h2⟩:=MN v l (i+1) k h;refine⟨by omega,?_⟩;rw[show k-i=(k-(i+1))+1 by omega];exact h2
theorem yR(v:Int):∀(l:List Int)(i:Nat),-1<=bf v l i/\bf v l i<(i+l.length:Nat)
 | [],i=>by simp only[bf,gB];omega
 | x::l,i=>by
  have:=yR v l (i+1);simp only[bf,cw];split<;>omega
def lC(v:Int)(h:List Int)(i:Int)(st:Int):Int:=if 0<=bf v h 0/\bf v h 0<i/\bf v h 0<st-1 then bf v h 0+1 else 0
def qJ(v:Int)(h:List Int)(i:Int):Int:=if 0<=bf v h 0/\bf v h 0<i then bf v h 0+1 else 0
def wC(r:qp)(i p:Nat):Int:=
 if p<4 then (if p<i then r.1.getD p 0 else 0) else if p<10 then qJ ((p:Int)-3) r.1 i else if p<14 then 0 else lC ((p:Int)-13) r.1 i r.2.1
def j5(r:qp)(p:Nat):Int:=
 if p<4 then r.1.getD p 0 else if p<10 then qJ ((p:Int)-3) r.1 4 else if p<13 then many ((p:Int)-10) r.1 else if p=13 then r.2.1 else lC ((p:Int)-13) r.1 4 r.2.1
section
variable {X:Ext} (hX:fO X) {n:Nat}
include hX
theorem R5{r:qp}(hr:aS r){i:Nat}(hi:i<4)(hi2:i<r.1.length)(p:Nat)(hp:p<20) :
  wC r (i+1) p=if p<4 then (if p=i then r.1[i] else wC r i p) else if r.1[i]≠0/\(p:Int)=3+r.1[i] then (i:Int)+1 else
   if r.1[i]≠0/\(p:Int)=13+r.1[i]/\(i:Int)<r.2.1-1 then (i:Int)+1 else wC r i p:=by
 have hx:=hr.dQ r.1[i] (d_ hi2);have hkey:r.1[i]≠0->bf r.1[i] r.1 0=(i:Int):=fun e=>by
  rw[E9 r.1[i] r.1 0 i (gz hi2) (fun j hj hc=>e (hr.once j i hj _ hc (gz hi2)))];congr 1;omega
 have cZ:∀v:Int,v≠r.1[i]->bf v r.1 0≠(i:Int):=fun v hv hc=>by
  obtain⟨_,h2⟩:=MN v r.1 0 i hc;rw[Cd,gz hi2]at h2;exact hv (gV h2).symm
 unfold wC;by_cases h4:p<4
 .simp only[ak h4];by_cases e:p=i
  .subst e;simp only[ak (show p<p+1 by omega),aX,qv hi2]
  .simp only[af e];by_cases e2:p<i
   .simp only[ak e2,ak (show p<i+1 by omega)]
   .simp only[af e2,af (show ¬ p<i+1 by omega)]
 simp only[af h4];by_cases D7:p<10
 .have YA:¬ (r.1[i]≠0/\(p:Int)=13+r.1[i]/\(i:Int)<r.2.1-1):=by omega
  simp only[ak D7,af YA];unfold qJ;by_cases e:r.1[i]≠0/\(p:Int)=3+r.1[i]
  .simp only[ak e];rw[show(p:Int)-3=r.1[i] by omega,hkey e.1,ak (by omega)]
  .simp only[af e];have hk:bf ((p:Int)-3) r.1 0≠(i:Int):=by
    by_cases q:(p:Int)-3=r.1[i]
    .exact absurd ⟨by omega,by omega⟩ e
    .exact cZ _ q
   by_cases c:0<=bf ((p:Int)-3) r.1 0/\bf ((p:Int)-3) r.1 0<(i:Int)
   .simp only[ak c,ak (show 0<=bf ((p:Int)-3) r.1 0/\bf ((p:Int)-3) r.1 0<((i+1:Nat):Int) by omega)]
   .simp only[af c,af (show ¬ (0<=bf ((p:Int)-3) r.1 0/\bf ((p:Int)-3) r.1 0<((i+1:Nat):Int)) by omega)]
 have n3:¬ (r.1[i]≠0/\(p:Int)=3+r.1[i]):=by omega
 simp only[af D7,af n3];by_cases Lb:p<14
 .have YA:¬ (r.1[i]≠0/\(p:Int)=13+r.1[i]/\(i:Int)<r.2.1-1):=by omega
  simp only[ak Lb,af YA]
 simp only[af Lb];unfold lC;by_cases e:r.1[i]≠0/\(p:Int)=13+r.1[i]
 .rw[show(p:Int)-13=r.1[i] by omega,hkey e.1];by_cases c:(i:Int)<r.2.1-1
  .simp only[ak (show 0<=(i:Int)/\(i:Int)<((i+1:Nat):Int)/\(i:Int)<r.2.1-1 by omega),ak (show r.1[i]≠0/\(p:Int)=13+r.1[i]/\(i:Int)<r.2.1-1 from⟨e.1,e.2,c⟩)]
  .simp only[af (show ¬ (0<=(i:Int)/\(i:Int)<((i+1:Nat):Int)/\(i:Int)<r.2.1-1) by omega),af (show ¬ (r.1[i]≠0/\(p:Int)=13+r.1[i]/\(i:Int)<r.2.1-1) from fun k=>c k.2.2),af (show ¬ (0<=(i:Int)/\(i:Int)<(i:Int)/\(i:Int)<r.2.1-1) by omega)]
 .simp only[af (show ¬ (r.1[i]≠0/\(p:Int)=13+r.1[i]/\(i:Int)<r.2.1-1) from fun k=>e ⟨k.1,k.2.1⟩)];have hk:bf ((p:Int)-13) r.1 0≠(i:Int)\/(p:Int)-13=0:=by
   by_cases q:(p:Int)-13=r.1[i]
   .by_cases z:r.1[i]=0
    .exact .inr (by omega)
    .exact absurd ⟨z,by omega⟩ e
   .exact .inl (cZ _ q)
  by_cases c:0<=bf ((p:Int)-13) r.1 0/\bf ((p:Int)-13) r.1 0<(i:Int)/\bf ((p:Int)-13) r.1 0<r.2.1-1
  .simp only[ak c,ak (show 0<=bf ((p:Int)-13) r.1 0/\bf ((p:Int)-13) r.1 0<((i+1:Nat):Int)/\bf ((p:Int)-13) r.1 0<r.2.1-1 by omega)]
  .simp only[af c,af (show ¬ (0<=bf ((p:Int)-13) r.1 0/\bf ((p:Int)-13) r.1 0<((i+1:Nat):Int)/\bf ((p:Int)-13) r.1 0<r.2.1-1) by omega)]
theorem A0(N n:Nat)(hN:4<=N)(K:qp->List Int->Option ((List Int×Unit)×Unit)){r:qp}(hr:aS r):∀(m i:Nat)(ws:List Int),i<=4->4-i<m->ws.length=20->(∀p<20,ws.getD p 0=wC r i p)->
  ∃zk,zk.length=20/\(∀p<20,zk.getD p 0=wC r 4 p)/\Uc (DD X N) n K m (i:Int) r ws=K r zk
 | 0,_,_,_,h,_,_=>by omega
 | m+1,i,ws,hi,hf,mV,hw=>by
  have hl:=hr.len;have hst:=hr.st;simp only[Uc,qzs];by_cases h:i<4
  .have hi2:i<r.1.length:=by omega
   have hv:=hr.dQ r.1[i] (d_ hi2);have hrow:qw (i:Int)=i:=by unfold qw;rw[lq.2 (by omega)];rfl
   have hps:=R5 hX hr h hi2;rw[qf (by omega),ix hi2,aG,d5,qv hi2,abu hX (by omega),qc,hrow];dsimp only;rw[fP (by omega) (by rw[mV];omega),aG,d5];by_cases h0:r.1[i]=0
   .rw[qf h0,qu (by omega)];refine A0 N n hN K hr m (i+1) _ (by omega) (by omega) (by rw[b9];exact mV) (fun p hp=>?_);rw[hps p hp,pK _ _ _ _ (by omega)];by_cases e:p=i
    .rw[ak e,ak (by omega),ak e]
    .rw[af e,hw p hp,af e];rw[af (show ¬ (r.1[i]≠0/\(p:Int)=3+r.1[i]) from fun k=>k.1 h0),af (show ¬ (r.1[i]≠0/\(p:Int)=13+r.1[i]/\(i:Int)<r.2.1-1) from fun k=>k.1 h0)];split<;>rfl
   .rw[qg h0,aaE hX (by omega),qc];dsimp only;have ho:=vf r.1[i];have hvi:=oR r.1[i];have n5:q9 r.1[i]=3+r.1[i]:=by omega
    have EA:fR r.1[i]=13+r.1[i]:=by omega
    have qF:wrap .i64 (r.2.1-1)=r.2.1-1:=qs (by omega) (by omega);rw[fP (by omega) (by rw[b9,mV];omega),aG,qu (by omega),qF,n5];by_cases hs:(i:Int)<r.2.1-1
    .rw[qf hs,abv hX (by omega),qc];dsimp only;rw[fP (by omega) (by rw[b9,b9,mV];omega),aG,EA];refine A0 N n hN K hr m (i+1) _ (by omega) (by omega) (by rw[b9,b9,b9];exact mV) (fun p hp=>?_);rw[hps p hp,pK _ _ _ _ (by rw[b9,b9,mV];omega),pK _ _ _ _ (by rw[b9,mV];omega),pK _ _ _ _ (by omega),hw p hp];by_cases e3:p=(13+r.1[i]).toNat
     .rw[ak e3,af (by omega),af (by omega),ak ⟨h0,by omega,hs⟩];omega
     rw[af e3];by_cases e2:p=(3+r.1[i]).toNat
     .rw[ak e2,af (by omega),ak ⟨h0,by omega⟩];omega
     rw[af e2];by_cases e:p=i
     .simp only[ak e,ak (show p<4 by omega)]
     .simp only[af e];rw[af (show ¬ (r.1[i]≠0/\(p:Int)=3+r.1[i]) by omega),af (show ¬ (r.1[i]≠0/\(p:Int)=13+r.1[i]/\(i:Int)<r.2.1-1) by omega)];split<;>rfl
    .rw[qg hs];refine A0 N n hN K hr m (i+1) _ (by omega) (by omega) (by rw[b9,b9];exact mV) (fun p hp=>?_);rw[hps p hp,pK _ _ _ _ (by rw[b9,mV];omega),pK _ _ _ _ (by omega),hw p hp];rw[af (show ¬ (r.1[i]≠0/\(p:Int)=13+r.1[i]/\(i:Int)<r.2.1-1) by omega)];by_cases e2:p=(3+r.1[i]).toNat
     .rw[ak e2,af (by omega),ak ⟨h0,by omega⟩];omega
     rw[af e2];by_cases e:p=i
     .simp only[ak e,ak (show p<4 by omega)]
     .simp only[af e];rw[af (show ¬ (r.1[i]≠0/\(p:Int)=3+r.1[i]) by omega)];split<;>rfl
  .rw[qg (by omega)];have:i=4:=by omega
   subst this;exact⟨ws,mV,hw,rfl⟩
def wL(r:qp)(i p:Nat):Int:=if 10<=p/\p<10+i then many ((p:Int)-10) r.1 else wC r 4 p
theorem RQ(N n:Nat)(hN:W+4<=N)(K:qp->List Int->Option ((List Int×Unit)×Unit)){r:qp}(hr:aS r):∀(m i:Nat)(ws:List Int),i<=3->3-i<m->ws.length=20->(∀p<20,ws.getD p 0=wL r i p)->
  ∃zk,zk.length=20/\(∀p<20,zk.getD p 0=wL r 3 p)/\Ud (DD X N) n K m (i:Int) r ws=K r zk
 | 0,_,_,_,h,_,_=>by omega
 | m+1,i,ws,hi,hf,mV,hw=>by
  have hl:=hr.len;have hW:=dZ;simp only[Ud,qzt];by_cases h:i<3
  .have hc:=ve (i:Int);have g_:iT (i:Int)=10+i:=by omega
   rw[qf (by omega),aaD hX (by omega),qc];dsimp only;rw[aiQ hX (by omega) r (by omega),qc];dsimp only;rw[fP (by omega) (by rw[mV];omega),aG,qu (by omega),g_];refine RQ N n hN K hr m (i+1) _ (by omega) (by omega) (by rw[b9];exact mV) (fun p hp=>?_);rw[pK _ _ _ _ (by omega),hw p hp];unfold wL;by_cases e:p=(10+(i:Int)).toNat
   .rw[ak e,ak (by omega),show(p:Int)-10=i by omega]
   .rw[af e];by_cases c:10<=p/\p<10+i
    .rw[ak c,ak (by omega)]
    .rw[af c,af (by omega)]
  .rw[qg (by omega)];have:i=3:=by omega
   subst this;exact⟨ws,mV,hw,rfl⟩
theorem acL(hn:W+6<=n){r:qp}(hr:aS r):∃ws:List Int,ws.length=20/\(∀p<20,ws.getD p 0=j5 r p)/\Ze (DD X n) r=some ((ws,()),()):=by
 obtain⟨n,rfl⟩:∃k,n=k+1:=⟨n-1,by omega⟩
 have hW:=dZ;have hst:=hr.st;rw[aho hX];simp only[ZC,Z1];rw[P9 hX (by omega) hr,qc];dsimp only;rw[cK,aM];simp only[qwx];obtain⟨w1,l1,h1,e1⟩:=A0 hX n n (by omega) (fun bS dV=>Wg (DD X n) n (Wq (DD X n) n) bS dV) hr n 0 (List.replicate (Int.toNat 20) 0) (by omega) (by omega) rfl (fun p hp=>by
  have e0:(List.replicate (Int.toNat 20) (0:Int)).getD p 0=0:=by simp only[List.getD,vM];split<;>rfl
  rw[e0];unfold wC qJ lC;split
  .rfl
  .split
   .rw[af (by omega)]
   .split
    .rfl
    .rw[af (by omega)])
 rw[show((0:Nat):Int)=0 from rfl]at e1;obtain⟨w2,l2,h2,e2⟩:=RQ hX n n (by omega) (fun bS dV=>qu1 (DD X n) n bS dV) hr n 0 w1 (by omega) (by omega) l1 (fun p hp=>by
  rw[h1 p hp];unfold wL;rw[af (by omega)])
 rw[show((0:Nat):Int)=0 from rfl]at e2;refine⟨w2.set 13 r.2.1,by rw[b9];exact l2,fun p hp=>?_,e1.trans ?_⟩
 .rw[pK _ _ _ _ (by omega),h2 p hp];unfold j5 wL wC;have hlen:=hr.len;by_cases e:p=13
  .rw[ak e,af (by omega),af (by omega),af (by omega),ak e]
  rw[af e];by_cases a1:p<4
  .rw[af (by omega),ak a1,ak a1,ak a1]
  by_cases a2:p<10
  .rw[af (by omega),af a1,ak a2,af a1,ak a2];rfl
  by_cases a3:p<13
  .rw[ak (by omega),af a1,af a2,ak a3]
  .rw[af (by omega),af a1,af a2,af (by omega),af a1,af a2,af a3,af e];rfl
 simp only[Wg,Wq];rw[e2];simp only[qu1];rw[Qo hX (by omega),qc];dsimp only;rw[fP (by omega) (by rw[l2];omega),aG];rfl
end
def path(w:Int->Int):PR->List Int
 | .done=>[]
 | .ask p k=>p::path w (k (w p))
def AH(got:dL)(w:Int->Int)(L:List Int):Prop:=∀q,eX got q=if q∈L then (w q,true) else (0,false)
theorem abY(w:Int->Int):∀(L:List Int),AH (L.map fun p=>(p,w p,())) w L:=by
 intro L q;unfold eX;have key:∀(L:List Int)(v:Int)(ok:Bool),rd q (L.map fun p=>(p,w p,())) v ok=if q∈L then (w q,true) else (v,ok):=by
  intro L
  induction L with
  | nil=>intro v ok;simp[rd]
  | cons a L ih=>
   intro v ok;simp only[cA,rd];by_cases e:a=q
   .rw[ak e,ih];by_cases m:q∈L
    .rw[ak m,ak (cG _ m)]
    .rw[af m,ak (by rw[e];exact e8),e]
   .rw[af e,ih];by_cases m:q∈L
    .rw[ak m,ak (cG _ m)]
    .rw[af m,af (by
      intro k;rcases bk.1 k with k | k
      .exact e k.symm
      .exact m k)]
 exact key L 0 false
theorem AW{got:dL}{w:Int->Int}{L:List Int}(h:AH got w L){p:Int}(hp:0<=p):hit got p=decide (p∈L):=by
 unfold hit;rw[bG hp,zK,h p];by_cases m:p∈L
 .rw[ak m,bG m]
 .rw[af m,b_ m]
theorem HC{got:dL}{w:Int->Int}{L:List Int}(h:AH got w L):∀(A B:List Int)(P:PR),path w P=A++B->(∀a∈A,a∈L)->(∀a∈A++B,0<=a)->(∀b B',B=b::B'->b∉L)->run got P=(A,B.headD (-1))
 | [],B,P,hp,_,hz,hB=>by
  cases P with
  | done=>simp only[path,gA]at hp;subst hp;rfl
  | ask p k=>
   simp only[path,gA]at hp;subst hp;have hm:hit got p=false:=by rw[AW h (hz p (by simp)),b_ (hB p _ rfl)]
   rw[nS hm];rfl
 | a::A,B,P,hp,hA,hz,hB=>by
  cases P with
  | done=>simp[path]at hp
  | ask p k=>
   simp only[path,fH,eZ]at hp;obtain⟨rfl,hp⟩:=hp;have hm:hit got p=true:=by rw[AW h (hz p (by simp)),bG (hA p e8)]
   have hv:(eX got p).1=w p:=by rw[h p,ak (hA p e8)]
   rw[nU hm,hv,HC h A B (k (w p)) hp (fun a ha=>hA a (cG _ ha)) (fun a ha=>hz a (cG _ ha)) hB]
structure DR (w:Int->Int) (l:List Int):Prop where
 once:l.Nodup
 dQ:∀p∈l,0<=p/\p<20
 len:l.length<=8
theorem Cs(w:Int->Int)(K:Int)(l:List Int):path w (tJ K l)=13::(if w 13<=wrap .i64 (K+1) then [] else l.map fR):=by
 unfold tJ;simp only[path];by_cases h:w 13<=wrap .i64 (K+1)
 .rw[bG h,ak h];rfl
 .rw[b_ h,af h,bg];congr 1
  induction l with
  | nil=>rfl
  | cons a l ih=>simp only[sE,path,cA,ih]
theorem J_{o:cL}(ho:dh o=true)(w:Int->Int)(hw:∀k,0<=k/\k<=3->0<=w k/\w k<=6):DR w (path w (prog o)):=by
 have hk:=tP ho;have hr:=vr o.2.1;have hoV:=vf o.2.2.1;have hvV:=oR o.2.2.1;have jO:=yL o.2.2.1;have hcV:=ve (qh o.2.2.1);unfold prog;by_cases k1:o.1=1
 .rw[ak k1];unfold sL;simp only[path];cases w (qw o.2.1) != 0
  .simp only[bg,path];cases w (q9 o.2.2.1) != 0
   .simp only[bg,path,Cs,cA,f4];split
    .exact⟨by simp;omega,by simp;omega,by simp⟩
    .exact⟨by simp;omega,by simp;omega,by simp⟩
   .exact⟨by simp[path];omega,by simp[path];omega,by simp[path]⟩
  .exact⟨by simp[path],by simp[path];omega,by simp[path]⟩
 rw[af k1];by_cases k2:o.1=2
 .rw[ak k2];have hK:0<=o.2.1/\o.2.1<=3:=by omega
  have hrow:qw o.2.1=o.2.1:=by omega
  have hwv:=hw o.2.1 hK;unfold sM;simp only[path];rw[hrow];generalize w o.2.1=v at *;have hov:=vf v;have At:=oR v;have hcv:=yL v;have Xv:=ve (qh v);by_cases hb:v=0\/v=o.2.2.1
  .rw[show(bif decide (v=0) then true else decide (v=o.2.2.1))=true by
    rcases hb with h | h
    .rw[bG h];rfl
    .rw[bG h];cases decide (v=0)<;>rfl]
   exact⟨by simp[path],by simp[path];omega,by simp[path]⟩
  .rw[show(bif decide (v=0) then true else decide (v=o.2.2.1))=false by
    rw[b_ (by omega),b_ (by omega)];rfl]
   simp only[bg,path];cases w (q9 o.2.2.1) != 0
   .simp only[bg,path];cases hc:qh v != qh o.2.2.1
    .simp only[bg,path,Cs,cA,f4];split
     .exact⟨by simp;omega,by simp;omega,by simp⟩
     .exact⟨by simp;omega,by simp;omega,by simp⟩
    .have hne:qh v≠qh o.2.2.1:=by simpa using hc
     simp only[bA,path,Cs,cA,f4];split
     .exact⟨by simp;omega,by simp;omega,by simp⟩
     .exact⟨by simp;omega,by simp;omega,by simp⟩
   .exact⟨by simp[path];omega,by simp[path];omega,by simp[path]⟩
 rw[af k2];by_cases k3:o.1=3
 .rw[ak k3];have hK:0<=o.2.1/\o.2.1<=3:=by omega
  have hrow:qw o.2.1=o.2.1:=by omega
  have hwv:=hw o.2.1 hK;unfold vj;simp only[path];rw[hrow];generalize w o.2.1=v at *;have hov:=vf v;have At:=oR v;have hcv:=yL v;have Xv:=ve (qh v);by_cases hb:v=0
  .rw[bG hb];exact⟨by simp[path],by simp[path];omega,by simp[path]⟩
  .rw[b_ hb];simp only[bg,path,Cs,cA,f4];split
   .exact⟨by simp;omega,by simp;omega,by simp⟩
   .exact⟨by simp;omega,by simp;omega,by simp⟩
 rw[af k3];by_cases k4:o.1=4
 .rw[ak k4];exact⟨by simp[path],by simp[path];omega,by simp[path]⟩
 rw[af k4];by_cases k5:o.1=5
 .rw[ak k5];exact⟨by simp[path],by simp[path];omega,by simp[path]⟩
 rw[af k5];by_cases k6:o.1=6
 .rw[ak k6];have:=ve o.2.1;exact⟨by simp[path],by simp[path];omega,by simp[path]⟩
 rw[af k6];by_cases k7:o.1=7
 .rw[ak k7];exact⟨by simp[path,Cp],by simp[path,Cp],by simp[path,Cp]⟩
 rw[af k7];by_cases k8:o.1=8
 .rw[ak k8];exact⟨by simp[path],by simp[path],by simp[path]⟩
 rw[af k8];by_cases k9:o.1=9
 .rw[ak k9];unfold yM;simp only[path];generalize w 13=st;by_cases hs:st<1\/st>4
  .rw[show(bif decide (st<1) then true else decide (st>4))=true by
    rcases hs with h | h
    .rw[bG h];rfl
    .rw[bG h];cases decide (st<1)<;>rfl]
   exact⟨by simp[path],by simp[path],by simp[path]⟩
  .rw[show(bif decide (st<1) then true else decide (st>4))=false by
    rw[b_ (by omega),b_ (by omega)];rfl]
   have qF:wrap .i64 (st-1)=st-1:=qs (by omega) (by omega);have Yc:=vr (st-1);simp only[bg,path];rw[qF];have hp:qw (st-1)=st-1:=by omega
   rw[hp];cases hin:bw (w (st-1)) 1 6
   .exact⟨by simp[path];omega,by simp[path];omega,by simp[path]⟩
   .have hi:=lq.1 hin;have At:=oR (w (st-1));simp only[cK,bg,path];exact⟨by simp;omega,by simp;omega,by simp⟩
 rw[af k9];have jq:o.1=10:=by omega
 rw[ak jq];unfold wk;simp only[path];cases w 13 != 5
 .simp only[bg,path];exact⟨by simp;omega,by simp;omega,by simp⟩
 .exact⟨by simp[path],by simp[path],by simp[path]⟩
theorem Ru{α:Type}(key:α->Int):∀(L acc:List α),(L.foldl (j7 key) acc).length=acc.length+L.length
 | [],acc=>rfl
 | e::L,acc=>by rw[nM,Ru key L,xR,cw];omega
theorem Bj(w:Int->Int)(K:Int)(l:List Int):∀p∈path w (tJ K l),p=13\/p∈l.map fR:=by
 intro p hp;rw[Cs]at hp;rcases bk.1 hp with h | h
 .exact .inl h
 .split at h
  .simp at h
  .exact .inr h
theorem SU{o:cL}(ho:dh o=true){got:dL}{w:Int->Int}(hw:∀k,0<=k/\k<=3->0<=w k/\w k<=6)(hk:AH got w (path w (prog o)))(hn:mM o got=none)(eK:o.1=1\/o.1=2\/o.1=3) :
  val got (qw o.2.1)=w o.2.1/\∀p∈path w (prog o),p∈(e_ o.2.1 o.2.2.1 (w o.2.1) (val got 13)).map (·.1):=by
 have um:=tP ho;have hr:=vr o.2.1;have hrow:qw o.2.1=o.2.1:=by omega
 have jO:=yL o.2.2.1;have Vo:=hw o.2.1 (by omega);have XF:∃P,path w (prog o)=qw o.2.1::P:=by
  unfold prog;rcases eK with k | k | k
  .rw[ak k];exact⟨_,rfl⟩
  .rw[af (by omega),ak k];exact⟨_,rfl⟩
  .rw[af (by omega),af (by omega),ak k];exact⟨_,rfl⟩
 obtain⟨P,hP⟩:=XF;have hval:val got (qw o.2.1)=w o.2.1:=by unfold val;rw[hk (qw o.2.1),ak (by rw[hP];exact e8),hrow]
 refine⟨hval,?_⟩;have hrd:(eX got (qw o.2.1)).1=w o.2.1:=hval;unfold mM at hn;rw[hrd]at hn;unfold jP at hn;unfold prog at hk⊢;rcases eK with k | k | k
 .rw[ak k]at hk⊢;by_cases c1:w o.2.1≠0
  .rw[ak ⟨k,c1⟩]at hn;cases hn
  have zq:w o.2.1=0:=by omega
  rw[af (fun q=>c1 q.2)]at hn;have ic:path w (sL o)=qw o.2.1::q9 o.2.2.1::(bif w (q9 o.2.2.1) != 0 then [] else iT (qh o.2.2.1)::path w (tJ o.2.1 [o.2.2.1])):=by unfold sL;simp only[path];rw[hrow,zq];simp only[bL,o6,cK,bg,path];cases decide (w (q9 o.2.2.1)=0)<;>rfl
  rw[ic]at hk⊢;have hown:(eX got (q9 o.2.2.1)).1=w (q9 o.2.2.1):=by rw[hk,ak (by simp)]
  rw[hown]at hn;by_cases c2:w (q9 o.2.2.1)≠0
  .rw[ak ⟨k,c2⟩]at hn;cases hn
  have W4:w (q9 o.2.2.1)=0:=by omega
  rw[W4,show((0:Int) != 0)=false by decide,bg];have hz:qh 0 = -1:=by decide
  have mj:(qh (w o.2.1) != qh o.2.2.1)=true:=by rw[zq,hz,bL,b_ (by omega)];rfl
  intro p hp;unfold e_;rw[mj,bA];simp only[fH,gA,cA,f4,bk,dc,di];simp only[bk]at hp;rcases hp with h | h | h | h
  .exact .inl h
  .exact .inr (.inr (.inr (.inr (.inl h))))
  .exact .inr (.inr (.inr (.inr (.inr (.inr (.inr h))))))
  .rcases Bj w _ _ p h with h | h
   .exact .inr (.inl h)
   .simp only[cA,f4,bk,dc,di]at h;exact .inr (.inr (.inr (.inr (.inr (.inl h)))))
 .rw[af (by omega),ak k]at hk⊢;rw[af (by omega),af (by omega)]at hn;by_cases c1:w o.2.1=0
  .rw[ak ⟨.inl k,c1⟩]at hn;cases hn
  rw[af (fun q=>c1 q.2)]at hn;by_cases c3:w o.2.1=o.2.2.1
  .rw[ak ⟨k,c3⟩]at hn;cases hn
  rw[af (fun q=>c3 q.2)]at hn;have ic:path w (sM o)=qw o.2.1::q9 o.2.2.1::(bif w (q9 o.2.2.1) != 0 then [] else q9 (w o.2.1)::(bif qh (w o.2.1) != qh o.2.2.1 then iT (qh (w o.2.1))::iT (qh o.2.2.1)::path w (tJ o.2.1 [w o.2.1,o.2.2.1]) else path w (tJ o.2.1 [w o.2.1,o.2.2.1]))):=by
   unfold sM;simp only[path];rw[hrow,b_ c1,b_ c3];simp only[bg,path];cases w (q9 o.2.2.1) != 0
   .simp only[bg,path];cases qh (w o.2.1) != qh o.2.2.1<;>rfl
   .rfl
  rw[ic]at hk⊢;have hown:(eX got (q9 o.2.2.1)).1=w (q9 o.2.2.1):=by rw[hk,ak (by simp)]
  rw[hown]at hn;by_cases c2:w (q9 o.2.2.1)≠0
  .rw[ak ⟨k,c2⟩]at hn;cases hn
  have W4:w (q9 o.2.2.1)=0:=by omega
  rw[W4,show((0:Int) != 0)=false by decide,bg];intro p hp;unfold e_;cases mj:qh (w o.2.1) != qh o.2.2.1
  .rw[mj,bg]at hp;rw[bg];simp only[gU,cA,f4,bk,dc,di];simp only[bk]at hp;rcases hp with h | h | h | h
   .exact .inl h
   .exact .inr (.inr (.inr (.inr (.inl h))))
   .exact .inr (.inr (.inl h))
   .rcases Bj w _ _ p h with h | h
    .exact .inr (.inl h)
    .simp only[cA,f4,bk,dc,di]at h;rcases h with h | h
     .exact .inr (.inr (.inr (.inl h)))
     .exact .inr (.inr (.inr (.inr (.inr h))))
  .rw[mj,bA]at hp;rw[bA];simp only[fH,gA,cA,f4,bk,dc,di];simp only[bk]at hp;rcases hp with h | h | h | h | h | h
   .exact .inl h
   .exact .inr (.inr (.inr (.inr (.inl h))))
   .exact .inr (.inr (.inl h))
   .exact .inr (.inr (.inr (.inr (.inr (.inr (.inl h))))))
   .exact .inr (.inr (.inr (.inr (.inr (.inr (.inr h))))))
   .rcases Bj w _ _ p h with h | h
    .exact .inr (.inl h)
    .simp only[cA,f4,bk,dc,di]at h;rcases h with h | h
     .exact .inr (.inr (.inr (.inl h)))
     .exact .inr (.inr (.inr (.inr (.inr (.inl h)))))
 .rw[af (by omega),af (by omega),ak k]at hk⊢;rw[af (by omega),af (by omega)]at hn;by_cases c1:w o.2.1=0
  .rw[ak ⟨.inr (.inl k),c1⟩]at hn;cases hn
  have ic:path w (vj o)=qw o.2.1::q9 (w o.2.1)::iT (qh (w o.2.1))::path w (tJ o.2.1 [w o.2.1]):=by unfold vj;simp only[path];rw[hrow,b_ c1];simp only[bg,path]
  rw[ic];have hV:o.2.2.1=0:=by omega
  have hz:qh 0 = -1:=by decide
  have hck:=yL (w o.2.1);have mj:(qh (w o.2.1) != qh o.2.2.1)=true:=by rw[hV,hz,bL,b_ (by omega)];rfl
  intro p hp;unfold e_;rw[mj,bA];simp only[fH,gA,cA,f4,bk,dc,di];simp only[bk]at hp;rcases hp with h | h | h | h
  .exact .inl h
  .exact .inr (.inr (.inl h))
  .exact .inr (.inr (.inr (.inr (.inr (.inr (.inl h))))))
  .rcases Bj w _ _ p h with h | h
   .exact .inr (.inl h)
   .simp only[cA,f4,bk,dc,di]at h;exact .inr (.inr (.inr (.inl h)))
theorem RB{l:List eB}(h:lO l):(l.map (·.1)).Nodup:=by rw[List.Nodup,List.pairwise_map];exact h.imp fun {a b} hab=>by omega
theorem Nv{o:cL}(ho:dh o=true){got:dL}{w:Int->Int}(hw:∀k,0<=k/\k<=3->0<=w k/\w k<=6)(hk:AH got w (path w (prog o)))(hrun:run got (prog o)=(path w (prog o),-1))(hn:mM o got=none) :
  (∀p∈path w (prog o),∃e∈dI o got,e.1=p/\e.2.1=w p)/\(dI o got).length=(path w (prog o)).length:=by
 have hpk:=J_ ho w hw;have JM:∀p∈path w (prog o),val got p=w p:=fun p hp=>by unfold val;rw[hk p,ak hp]
 have Ak:∀p,0<=p->(hit got p=true↔p∈path w (prog o)):=fun p hp=>by rw[AW hk hp,gT]
 by_cases eK:o.1=1\/o.1=2\/o.1=3
 .obtain⟨hv,hsub⟩:=SU ho hw hk hn eK;have hne:=xV ho hn eK;have hE:dI o got=(iw got (e_ o.2.1 o.2.2.1 (w o.2.1) (val got 13))).foldl hJ []:=by unfold dI;rw[ak eK,hv]
  rw[hv]at hne;obtain⟨_,r2,r3,r4⟩:=MF (got:=got) (K:=o.2.1) (V:=o.2.2.1) (held:=w o.2.1) (st:=val got 13) hne;rw[hE];have hA:∀p∈path w (prog o),∃e∈(iw got (e_ o.2.1 o.2.2.1 (w o.2.1) (val got 13))).foldl hJ [],e.1=p/\e.2.1=w p:=by intro p hp;obtain⟨q,hq,rfl⟩:=eI.1 (hsub p hp);have hh:=(Ak q.1 (hpk.dQ q.1 hp).1).2 hp;exact⟨_,(r3 _).2 ((JX got _ _).2 ⟨q,hq,hh,rfl⟩),rfl,JM q.1 hp⟩
  refine⟨hA,?_⟩;have LV:(((iw got (e_ o.2.1 o.2.2.1 (w o.2.1) (val got 13))).foldl hJ []).map (·.1)).Perm (path w (prog o)):=by
   rw[NY (RB r2) hpk.once];intro p;constructor
   .intro hp;obtain⟨e,he,rfl⟩:=eI.1 hp;obtain⟨q,_,hh,rfl⟩:=(JX got _ _).1 ((r3 _).1 he);exact(Ak q.1 (Br hh)).1 hh
   .intro hp;obtain⟨e,he,h1,_⟩:=hA p hp;exact eI.2 ⟨e,he,h1⟩
  have:=LV.length_eq;rw[jD]at this;exact this
 .have hneg:(run got (prog o)).2<0:=by rw[hrun];show(-1:Int)<0;omega
  obtain⟨_,pl⟩:=G_ ho hn hneg eK;have JI:(run got (prog o)).1=path w (prog o):=by rw[hrun]
  rw[JI]at pl;have hmem:∀L:List Int,(path w (prog o)).foldl (j7 fF) []=L->(∀p∈path w (prog o),p∈L)/\L.length=(path w (prog o)).length:=by
   intro L hL;refine⟨fun p hp=>?_,?_⟩
   .rw[<-hL,GU];exact .inr hp
   .rw[<-hL,Ru];simp
  unfold dI;rw[af eK];rcases pl with⟨k,hp⟩ | ⟨k,hz,hp⟩ | ⟨k,hz,hp⟩ | ⟨k,hp⟩
  .obtain⟨m1,m2⟩:=hmem _ hp;rw[ak k];refine⟨fun p xm=>?_,by rw[<-m2];rfl⟩;have h2:=m1 p xm;have hv:=JM p xm;simp only[bk,dc,di]at h2;rcases h2 with rfl | rfl | rfl | rfl
   .exact⟨same got 0,by simp,rfl,hv⟩
   .exact⟨same got 1,by simp,rfl,hv⟩
   .exact⟨same got 2,by simp,rfl,hv⟩
   .exact⟨same got 3,by simp,rfl,hv⟩
  .obtain⟨m1,m2⟩:=hmem _ hp;rw[af (by omega),ak k];refine⟨fun p xm=>?_,by rw[<-m2];rfl⟩;have h2:=m1 p xm;have hv:=JM p xm;simp only[bk,dc,di]at h2;subst h2;exact⟨_,d9.2 rfl,rfl,hv⟩
  .obtain⟨m1,m2⟩:=hmem _ hp;rw[af (by omega),af (by omega),ak k];generalize qw (wrap .i64 (val got 13-1))=q at *;refine⟨fun p xm=>?_,by rw[<-m2];cases bw (val got q) 1 6<;>rfl⟩;have h2:=m1 p xm;have hv:=JM p xm;simp only[bk]at h2;rcases h2 with rfl | rfl | h2
   .exact⟨same got p,e8,rfl,hv⟩
   .exact⟨_,cG _ e8,rfl,hv⟩
   .cases hin:bw (val got q) 1 6
    .rw[hin]at h2;simp at h2
    .rw[hin,bA,d9]at h2;subst h2;exact⟨_,cG _ (cG _ (by rw[bA];exact d9.2 rfl)),rfl,hv⟩
  .obtain⟨m1,m2⟩:=hmem _ hp;rw[af (by omega),af (by omega),af (by omega),ak k];refine⟨fun p xm=>?_,by rw[<-m2];rfl⟩;have h2:=m1 p xm;have hv:=JM p xm;simp only[bk,dc,di]at h2;rcases h2 with rfl | rfl
   .exact⟨same got 13,by simp,rfl,hv⟩
   .exact⟨same got (fR o.2.2.1),by simp,rfl,hv⟩
def cg(r:qp)(p:Int):Int:=j5 r p.toNat
theorem tK{r:qp}(hr:aS r){k:Int}(hk:0<=k/\k<=3):cg r k=r.1.getD k.toNat 0/\0<=cg r k/\cg r k<=6:=by
 have hl:=hr.len;have e:cg r k=r.1.getD k.toNat 0:=by unfold cg j5;rw[ak (by omega)]
 refine⟨e,?_⟩;rw[e,qv (by omega)];exact hr.dQ _ (d_ _)
def fy(r:qp)(o:cL):dL:=(path (cg r) (prog o)).map fun p=>(p,cg r p,())
theorem Gc(r:qp)(o:cL):AH (fy r o) (cg r) (path (cg r) (prog o)):=abY _ _
theorem GX{r:qp}(hr:aS r){o:cL}(ho:dh o=true):run (fy r o) (prog o)=(path (cg r) (prog o),-1):=by have hpk:=J_ ho (cg r) (fun k hk=>(tK hr hk).2);exact HC (Gc r o) (path (cg r) (prog o)) [] (prog o) (by rw[gU]) (fun a ha=>ha) (fun a ha=>(hpk.dQ a (by simpa using ha)).1) (fun b B' h=>by cases h)
section
variable {X:Ext} (hX:fO X) {n:Nat}
include hX
end
inductive Out (r:qp) (o:cL):Int->List Int->Prop
 | EO:o.1=1->r.1.getD o.2.1.toNat 0≠0->Out r o 1 []
 | EP:o.1=1->0<=bf o.2.2.1 r.1 0->Out r o 2 []
 | EN:o.1=1->r.1.getD o.2.1.toNat 0=0->bf o.2.2.1 r.1 0<0->Out r o 0 []
 | Jt:o.1=2->r.1.getD o.2.1.toNat 0=0->Out r o 3 []
 | CE:o.1=2->r.1.getD o.2.1.toNat 0≠0->r.1.getD o.2.1.toNat 0=o.2.2.1->Out r o 0 []
 | Js:o.1=2->0<=bf o.2.2.1 r.1 0->Out r o 2 []
 | Jr:o.1=2->r.1.getD o.2.1.toNat 0≠0->r.1.getD o.2.1.toNat 0≠o.2.2.1->bf o.2.2.1 r.1 0<0->Out r o 0 []
 | DU:o.1=3->r.1.getD o.2.1.toNat 0=0->Out r o 3 []
 | DT:o.1=3->r.1.getD o.2.1.toNat 0≠0->Out r o 0 []
 | D6:o.1=4->r.1.getD o.2.1.toNat 0=0->Out r o 3 []
 | D5:o.1=4->r.1.getD o.2.1.toNat 0≠0->Out r o 0 [r.1.getD o.2.1.toNat 0]
 | wO:o.1=5->bf o.2.2.1 r.1 0<0->Out r o 3 []
 | wN:o.1=5->0<=bf o.2.2.1 r.1 0->Out r o 0 [bf o.2.2.1 r.1 0]
 | DS:o.1=6->Out r o 0 [many o.2.1 r.1]
 | DK:o.1=7->Out r o 0 r.1
 | xH:o.1=8->r.2.1≠0->Out r o 4 []
 | C_:o.1=8->r.2.1=0->Out r o 0 []
 | xF:o.1=9->r.2.1=0\/r.2.1=5->Out r o 4 []
 | C9:o.1=9->1<=r.2.1/\r.2.1<=4->Out r o 0 []
 | Jw:o.1=10->r.2.1≠5->Out r o 4 []
 | UO:o.1=10->r.2.1=5->bf o.2.2.1 r.1 0<0->Out r o 3 []
 | UN:o.1=10->r.2.1=5->0<=bf o.2.2.1 r.1 0->Out r o 0 [bf o.2.2.1 r.1 0]
theorem Ji{r:qp}(hr:aS r){v:Int}(hv:1<=v/\v<=6):cg r (q9 v)=bf v r.1 0+1:=by
 have ho:=vf v;have hl:=hr.len;have hk:=yR v r.1 0;have e:q9 v=3+v:=by omega
 unfold cg j5;rw[e,af (by omega),ak (by omega)];unfold qJ;rw[show(((3+v).toNat:Nat):Int)-3=v by omega];by_cases h:0<=bf v r.1 0/\bf v r.1 0<4
 .rw[ak h]
 .rw[af h];omega
theorem DA(r:qp):cg r 13=r.2.1:=rfl
theorem RP{r:qp}{c:Int}(hc:0<=c/\c<=2):cg r (iT c)=many c r.1:=by
 have ho:=ve c;have e:iT c=10+c:=by omega
 unfold cg j5;rw[e,af (by omega),af (by omega),ak (by omega),show(((10+c).toNat:Nat):Int)-10=c by omega]
theorem akf{r:qp}{v:Int}(hv:1<=v/\v<=6):cg r (fR v)=lC v r.1 4 r.2.1:=by
 have ho:=oR v;have e:fR v=13+v:=by omega
 unfold cg j5;rw[e,af (by omega),af (by omega),af (by omega),af (by omega),show(((13+v).toNat:Nat):Int)-13=v by omega]
theorem als{l:List Int}(h:l.length=4):l=[l.getD 0 0,l.getD 1 0,l.getD 2 0,l.getD 3 0]:=by
 match l,h with
 | [a,b,c,d],_=>rfl
theorem NQ{r:qp}(hr:aS r){o:cL}(ho:dh o=true):Out r o (gj o (fy r o)).1.2.1.1 (gj o (fy r o)).1.2.1.2.1:=by
 have um:=tP ho;have hrun:=GX hr ho;have hkn:=Gc r o;have gq:dh o=true/\(run (fy r o) (prog o)).2<0:=⟨ho,by rw[hrun];show(-1:Int)<0;omega⟩
 have hst:=hr.st;have hl:=hr.len;have hrd:∀p,p∈path (cg r) (prog o)->(eX (fy r o) p).1=cg r p:=fun p hp=>by rw[hkn p,ak hp]
 have hrow:=vr o.2.1;unfold gj;rw[ak gq];by_cases k1:o.1=1
 .have hK:qw o.2.1=o.2.1:=by omega
  have hw:=tK hr (k:=o.2.1) (by omega);have hp:prog o=sL o:=by unfold prog;rw[ak k1]
  have m1:qw o.2.1∈path (cg r) (prog o):=by rw[hp];unfold sL;simp only[path];exact e8
  have r1:=hrd _ m1;rw[hK,hw.1]at r1;unfold mM;rw[hK,r1];unfold jP;by_cases c1:r.1.getD o.2.1.toNat 0≠0
  .rw[ak ⟨k1,c1⟩];exact .EO k1 c1
  have zq:r.1.getD o.2.1.toNat 0=0:=by omega
  rw[af (fun q=>c1 q.2)];have m2:q9 o.2.2.1∈path (cg r) (prog o):=by rw[hp];unfold sL;simp only[path];rw[hK,hw.1,zq];simp only[bL,o6,cK,bg,path];simp
  rw[hrd _ m2,Ji hr (by omega)];by_cases c2:bf o.2.2.1 r.1 0+1≠0
  .rw[ak ⟨k1,c2⟩];exact .EP k1 (by have:=yR o.2.2.1 r.1 0;omega)
  rw[af (fun q=>c2 q.2),af (by omega),af (by omega),af (by omega),af (by omega),af (by omega),af (by omega),af (by omega),af (by omega),af (by omega),af (by omega)];dsimp only;unfold eF;rw[af (by omega),af (by omega)];exact .EN k1 zq (by omega)
 by_cases k2:o.1=2
 .have hK:qw o.2.1=o.2.1:=by omega
  have hw:=tK hr (k:=o.2.1) (by omega);have hp:prog o=sM o:=by unfold prog;rw[af k1,ak k2]
  have m1:qw o.2.1∈path (cg r) (prog o):=by rw[hp];unfold sM;simp only[path];exact e8
  have r1:=hrd _ m1;rw[hK,hw.1]at r1;unfold mM;rw[hK,r1];unfold jP;rw[af (by omega),af (by omega)];by_cases c1:r.1.getD o.2.1.toNat 0=0
  .rw[ak ⟨.inl k2,c1⟩];exact .Jt k2 c1
  rw[af (fun q=>c1 q.2)];by_cases c3:r.1.getD o.2.1.toNat 0=o.2.2.1
  .rw[ak ⟨k2,c3⟩];exact .CE k2 c1 c3
  rw[af (fun q=>c3 q.2)];have m2:q9 o.2.2.1∈path (cg r) (prog o):=by rw[hp];unfold sM;simp only[path];rw[hK,hw.1,b_ c1,b_ c3];simp only[bg,path];simp
  rw[hrd _ m2,Ji hr (by omega)];by_cases c2:bf o.2.2.1 r.1 0+1≠0
  .rw[ak ⟨k2,c2⟩];exact .Js k2 (by have:=yR o.2.2.1 r.1 0;omega)
  rw[af (fun q=>c2 q.2),af (by omega),af (by omega),af (by omega),af (by omega),af (by omega),af (by omega),af (by omega)];dsimp only;unfold eF;rw[af (by omega),af (by omega)];exact .Jr k2 c1 c3 (by omega)
 by_cases C7:o.1=3\/o.1=4
 .have hK:qw o.2.1=o.2.1:=by omega
  have hw:=tK hr (k:=o.2.1) (by omega);have m1:qw o.2.1∈path (cg r) (prog o):=by
   unfold prog;rw[af k1,af k2];rcases C7 with k | k
   .rw[ak k];unfold vj;simp only[path];exact e8
   .rw[af (by omega),ak k];simp only[path];exact e8
  have r1:=hrd _ m1;rw[hK,hw.1]at r1;unfold mM;rw[hK,r1];unfold jP;rw[af (by omega),af (by omega)];by_cases c1:r.1.getD o.2.1.toNat 0=0
  .rw[ak ⟨.inr C7,c1⟩];rcases C7 with k | k
   .exact .DU k c1
   .exact .D6 k c1
  rw[af (fun q=>c1 q.2),af (by omega),af (by omega)];rcases C7 with k | k
  .rw[af (by omega),af (by omega),af (by omega),af (by omega),af (by omega),af (by omega),af (by omega)];dsimp only;unfold eF;rw[af (by omega),af (by omega)];exact .DT k c1
  .rw[ak k];exact .D5 k c1
 by_cases k5:o.1=5
 .have m1:q9 o.2.2.1∈path (cg r) (prog o):=by unfold prog;rw[af k1,af k2,af (by omega),af (by omega),ak k5];simp only[path];exact e8
  have hk:=yR o.2.2.1 r.1 0;unfold mM;rw[hrd _ m1,Ji hr (by omega)];unfold jP;rw[af (by omega),af (by omega),af (by omega),af (by omega),af (by omega),af (by omega)];by_cases c:bf o.2.2.1 r.1 0+1=0
  .rw[ak ⟨k5,c⟩];exact .wO k5 (by omega)
  .rw[af (fun q=>c q.2),ak k5];dsimp only;rw[show bf o.2.2.1 r.1 0+1-1=bf o.2.2.1 r.1 0 by omega,qs (by omega) (by omega)];exact .wN k5 (by omega)
 by_cases k6:o.1=6
 .have m1:iT o.2.1∈path (cg r) (prog o):=by unfold prog;rw[af k1,af k2,af (by omega),af (by omega),af k5,ak k6];simp only[path];exact e8
  unfold mM;rw[hrd _ m1,RP (by omega)];unfold jP;rw[af (by omega),af (by omega),af (by omega),af (by omega),af (by omega),af (by omega),af (by omega),af k5,ak k6];exact .DS k6
 by_cases k7:o.1=7
 .have hp:prog o=Cp:=by unfold prog;rw[af k1,af k2,af (by omega),af (by omega),af k5,af k6,ak k7]
  unfold mM jP;rw[af (by omega),af (by omega),af (by omega),af (by omega),af (by omega),af (by omega),af (by omega),af k5,af k6,af (by omega),af (by omega),af (by omega)];dsimp only;unfold eF;rw[ak k7];have hv:∀p:Int,0<=p/\p<=3->val (fy r o) p=r.1.getD p.toNat 0:=fun p LU=>by
   unfold val;rw[hrd p (by rw[hp];unfold Cp;simp only[path,bk,dc,di];omega)];exact(tK hr LU).1
  dsimp only;rw[hv 0 (by omega),hv 1 (by omega),hv 2 (by omega),hv 3 (by omega)];have:=als hl;have e:[r.1.getD (0:Int).toNat 0,r.1.getD (1:Int).toNat 0,r.1.getD (2:Int).toNat 0,r.1.getD (3:Int).toNat 0]=r.1:=this.symm;rw[e];exact .DK k7
 have m13:(13:Int)∈path (cg r) (prog o):=by
  unfold prog;rw[af k1,af k2,af (by omega),af (by omega),af k5,af k6,af k7];by_cases k8:o.1=8
  .rw[ak k8];simp only[path];exact e8
  by_cases k9:o.1=9
  .rw[af k8,ak k9];unfold yM;simp only[path];exact e8
  .rw[af k8,af k9,ak (by omega)];unfold wk;simp only[path];exact e8
 unfold mM;rw[hrd _ m13,DA];unfold jP;rw[af (by omega),af (by omega),af (by omega),af (by omega),af (by omega),af (by omega),af (by omega),af k5,af k6];by_cases k8:o.1=8
 .by_cases c:r.2.1≠0
  .rw[ak ⟨k8,c⟩];exact .xH k8 c
  .rw[af (fun q=>c q.2),af (by omega),af (by omega)];dsimp only;unfold eF;rw[af (by omega),af (by omega)];exact .C_ k8 (by omega)
 rw[af (by omega)];by_cases k9:o.1=9
 .by_cases c:r.2.1<1\/r.2.1>4
  .rw[ak ⟨k9,c⟩];exact .xF k9 (by omega)
  .rw[af (fun q=>c q.2),af (by omega)];dsimp only;unfold eF;rw[af (by omega),af (by omega)];exact .C9 k9 (by omega)
 rw[af (by omega)];have jq:o.1=10:=by omega
 by_cases c:r.2.1≠5
 .rw[ak ⟨jq,c⟩];exact .Jw jq c
 rw[af (fun q=>c q.2)];have c5:r.2.1=5:=by omega
 have mv:fR o.2.2.1∈path (cg r) (prog o):=by unfold prog;rw[af k1,af k2,af (by omega),af (by omega),af k5,af k6,af k7,af k8,af k9,ak jq];unfold wk;simp only[path];rw[DA,c5];simp only[show((5:Int) != 5)=false by decide,bg,path];simp
 have hk:=yR o.2.2.1 r.1 0;have At:val (fy r o) (fR o.2.2.1)=bf o.2.2.1 r.1 0+1:=by
  unfold val;rw[hrd _ mv,akf (by omega)];unfold lC;by_cases q:0<=bf o.2.2.1 r.1 0/\bf o.2.2.1 r.1 0<4/\bf o.2.2.1 r.1 0<r.2.1-1
  .rw[ak q]
  .rw[af q];omega
 dsimp only;unfold eF;rw[af k7,ak jq,At];by_cases q:bf o.2.2.1 r.1 0+1=0
 .rw[ak q];exact .UO jq c5 (by omega)
 .rw[af q];dsimp only;rw[show bf o.2.2.1 r.1 0+1-1=bf o.2.2.1 r.1 0 by omega,qs (by omega) (by omega)];exact .UN jq c5 (by omega)
theorem AU(v:Int):∀(l:List Int)(i:Nat),v∉l->bf v l i = -1
 | [],i,_=>rfl
 | x::l,i,h=>by
  simp only[bf];rw[af (fun e=>h (by rw[e];exact e8)),AU v l (i+1) (fun m=>h (cG _ m))]
section
variable {X:Ext} (hX:fO X) {n:Nat}
include hX
theorem NF(D:Den ctx)(n:Nat)(K0:Int->Option ((Int×Unit)×Unit))(K1:Option ((Int×Unit)×Unit))(hK:K0 (-1)=K1)(l:List Int)(hl:l.length<=1000)(v:Int):∀(m i:Nat),i<=l.length->l.length-i<m->
  TE D n K0 K1 m l v (l.length:Int) (i:Int)=K0 (bf v (l.drop i) i)
 | 0,_,_,h=>by omega
 | m+1,i,hi,hf=>by
  simp only[TE,qlr];by_cases h:i<l.length
  .rw[qf (by omega),ix h,aG,d5,qv h,tG h];simp only[bf];by_cases e:l[i]=v
   .rw[qf e.symm,ak e]
   .rw[qg (fun k=>e k.symm),af e,qu (by omega)];exact NF D n K0 K1 hK l hl v m (i+1) (by omega) (by omega)
  .rw[qg (by omega),tH h];exact hK.symm
theorem Nb(hn:W+1<=n)(l:List Int)(hl:l.length<=1000)(v:Int):V4 (DD X n) l v=some ((bf v l 0,()),()):=by
 obtain⟨n,rfl⟩:∃k,n=k+1:=⟨n-1,by omega⟩
 have hW:=dZ;rw[ady hX];simp only[qmt,qm0,qlf];have e:=NF hX (DD X n) n (fun bS=>qrf (DD X n) n bS) (qrg (DD X n) n) rfl l hl v n 0 (by omega) (by omega);rw[show((0:Nat):Int)=0 from rfl]at e;rw[e];rfl
theorem aaA(hn:W+2<=n)(r:qp)(hr:r.1.length<=1000)(v:Int):WM (DD X n) r v=some ((bf v r.1 0,()),()):=by
 obtain⟨n,rfl⟩:∃k,n=k+1:=⟨n-1,by omega⟩
 rw[ajo hX];simp only[q75,P1];rw[Nb hX (by omega) r.1 hr,qc]
theorem QJ(hn:W+2<=n)(l:List Int)(hl:l.length<=1000)(v:Int)(h:v∉l):V1 (DD X n) l v=some ((false,()),()):=by
 obtain⟨n,rfl⟩:∃k,n=k+1:=⟨n-1,by omega⟩
 rw[q65 hX];simp only[qkg,qq8];rw[Nb hX (by omega) l hl,qc,AU v l 0 h];rfl
theorem GL(N n:Nat)(hN:W+3<=N)(K0:Bool->qp->Option ((Bool×Unit)×Unit))(K1:qp->Option ((Bool×Unit)×Unit)){r:qp}(hr:aS r):∀(m i:Nat),i<=r.1.length->r.1.length-i<m->
  Uj (DD X N) n K0 K1 m r.1 (r.1.length:Int) (i:Int) r=K1 r
 | 0,_,_,h=>by omega
 | m+1,i,hi,hf=>by
  have hl:=hr.len;have hW:=dZ;simp only[Uj,ZU];by_cases h:i<r.1.length
  .rw[qf (by omega),ix h,aG,d5,qv h];by_cases e:r.1[i]=0
   .rw[bL,bG e,cK,aM,qu (by omega)];exact GL N n hN K0 K1 hr m (i+1) (by omega) (by omega)
   .have hv:=hr.dQ r.1[i] (d_ h);rw[bL,b_ e,iP,aG,Jh hX (by omega),qc];dsimp only;rw[lq.2 (by omega),cK,aM];rw[show(decide ((0:Nat)<=0)&&decide ((0:Int)<=(i:Int))&&decide ((i:Int)<=(r.1.length:Int)))=true by
     rw[bG (by omega:(0:Int)<=(i:Int)),bG (by omega:(i:Int)<=(r.1.length:Int))];rfl]
    rw[aG,Int.toNat_zero,jo];have hnot:r.1[i]∉r.1.take i:=fun hm=>by
     obtain⟨j,hj⟩:=mT.1 hm;rw[gm]at hj;split at hj
     .exact e (hr.once j i (by assumption) _ hj (gz h))
     .simp at hj
    rw[QJ hX (by omega) _ (by rw[eH];omega) _ hnot,qc];dsimp only;rw[aM,qu (by omega)];exact GL N n hN K0 K1 hr m (i+1) (by omega) (by omega)
  .rw[qg (by omega)]
theorem VK(hn:W+4<=n){r:qp}(hr:aS r):KE (DD X n) r=some ((true,()),()):=by
 obtain⟨n,rfl⟩:∃k,n=k+1:=⟨n-1,by omega⟩
 have hW:=dZ;have hl:=hr.len;rw[aiE hX];simp only[q4y,q5n,qys];have e:=GL hX n n (by omega) (fun bS dV=>q88 (DD X n) n bS dV) (fun sV=>qwd (DD X n) n sV) hr n 0 (by omega) (by omega);rw[show((0:Nat):Int)=0 from rfl]at e;rw[e];simp only[qwd];rw[qf (by omega),lI hX (by omega),qc,lq.2 hr.st]
theorem VG(N n:Nat)(hN:4<=N)(K:Int->Option ((Int×Unit)×Unit))(l:List Int)(hr:l.length<=1000)(c:Int):∀(m i:Nat)(a:Int),i<=l.length->l.length-i<m->0<=a/\a<=i->
  TZ (DD X N) n K m c a l (l.length:Int) (i:Int)=K (a+many c (l.drop i))
 | 0,_,_,_,h,_=>by omega
 | m+1,i,a,hi,hf,ha=>by
  simp only[TZ,qyg];by_cases h:i<l.length
  .rw[qf (by omega),ix h,aG,d5,qv h,Jh hX (by omega),qc,tG h];simp only[many];cases hv:bw l[i] 1 6
   .rw[aM,qu (by omega),VG N n hN K l hr c m (i+1) _ (by omega) (by omega) (by omega)];congr 1;simp only[Bool.false_and,bg];omega
   .rw[aG,Jb hX (by omega),qc];dsimp only;by_cases e:qh l[i]=c
    .rw[qf e,qs (by omega) (by omega),qu (by omega),VG N n hN K l hr c m (i+1) _ (by omega) (by omega) (by omega)];congr 1;simp only[e,zK,o6,bA];omega
    .rw[qg e,qu (by omega),VG N n hN K l hr c m (i+1) _ (by omega) (by omega) (by omega)];congr 1;simp only[b_ e,zK,bg];omega
  .rw[qg (by omega),tH h];congr 1;simp[many]
theorem aij(hn:W+1<=n)(r:qp)(hr:r.1.length<=1000)(c:Int):Y5 (DD X n) r c=some ((many c r.1,()),()):=by
 obtain⟨n,rfl⟩:∃k,n=k+1:=⟨n-1,by omega⟩
 have hW:=dZ;rw[ahC hX];simp only[YY,Zm,qwa];have e:=VG hX n n (by omega) (fun bS=>q6e (DD X n) n bS) r.1 hr c n 0 0 (by omega) (by omega) (by omega);rw[show((0:Nat):Int)=0 from rfl,jo,Int.zero_add]at e;rw[e];rfl
theorem ak0(hn:1<=n)(r:qp):KC (DD X n) r=some ((decide (r.2.1=5),()),()):=by
 obtain⟨n,rfl⟩:∃k,n=k+1:=⟨n-1,by omega⟩
 rw[aaw hX];rfl
theorem Ny(D:Den ctx)(n:Nat)(K0:Bool->Option ((Bool×Unit)×Unit))(K1:Option ((Bool×Unit)×Unit))(l:List Int)(hl:l.length<=1000):∀(m i:Nat),i<=l.length->l.length-i<m->
  TD D n K0 K1 m l l (l.length:Int) (i:Int)=K1
 | 0,_,_,h=>by omega
 | m+1,i,hi,hf=>by
  simp only[TD,qlp];by_cases h:i<l.length
  .rw[qf (by omega),ix h,aG,aG,bL,bG rfl,cK,aM,qu (by omega)];exact Ny D n K0 K1 l hl m (i+1) (by omega) (by omega)
  .rw[qg (by omega)]
theorem Fx(hn:W+1<=n)(l:List Int)(hl:l.length<=1000):TO (DD X n) l l=some ((true,()),()):=by
 obtain⟨n,rfl⟩:∃k,n=k+1:=⟨n-1,by omega⟩
 have hW:=dZ;rw[adx hX];simp only[qms,qmz,qle];have e:=Ny hX (DD X n) n (fun bS=>qrb (DD X n) n bS) (qrc (DD X n) n) l hl n 0 (by omega) (by omega);rw[show((0:Nat):Int)=0 from rfl]at e;rw[show((l.length:Int) != (l.length:Int))=false by simp,aM,e];rfl
theorem VD(hn:2<=n){r:qp}(hr:aS r):Ks (DD X n) r=some ((r,()),()):=by
 obtain⟨n,rfl⟩:∃k,n=k+2:=⟨n-2,by omega⟩
 have hl:=hr.len;have hb:=i9;rw[af8 hX];simp only[qxy,O5];rw[qvc hX];simp only[V5,qmy];rw[qg (by rw[d5];omega),qf (by omega),qc];rfl
end
def jh(r:qp)(o:cL)(code:Int):qp:=
 if code≠0 then r else if o.1=1\/o.1=2 then (r.1.set o.2.1.toNat o.2.2.1,r.2) else if o.1=3 then (r.1.set o.2.1.toNat 0,r.2) else
 if o.1=8\/o.1=9 then (r.1,wrap .i64 (r.2.1+1),()) else r
section
variable {X:Ext} (hX:fO X) {n:Nat}
include hX
theorem RG(hn:W+6<=n){r:qp}(hr:aS r){o:cL}(ho:dh o=true){code:Int}{list:List Int}(h:Out r o code list):Wu (DD X n) r o (code,list,())=some ((true,()),()):=by
 obtain⟨n,rfl⟩:∃k,n=k+2:=⟨n-2,by omega⟩
 have hW:=dZ;have hl:=hr.len;have um:=tP ho;have hkey:=fun v=>aaA hX (n:=n) (by omega) r (by omega) v;have eW:=ak0 hX (n:=n) (by omega) r;have ju:=fun c=>aij hX (n:=n) (by omega) r (by omega) c;have heq:=fun l hl=>Fx hX (n:=n+1) (by omega) l hl;obtain⟨k,K,V,⟨⟩⟩:=o;dsimp only at um;rw[ahx hX];simp only[Zh,Pt];rw[VK hX (by omega) hr,qc];dsimp only;rw[cK,aM,UE hX (by omega),ho,qc];dsimp only;rw[cK,aM];have w8:k=1\/k=2\/k=3\/k=4->(decide (0<=K)&&decide (K<(r.1.length:Int)))=true:=fun q=>fP (by omega) (by omega);have hkk:=yR V r.1 0;have hkV:r.1.getD K.toNat 0=V->(0<=K/\K<=3)->V≠0->bf V r.1 0=K:=fun e hK hV=>by
  have iV:r.1[K.toNat]? = some V:=by rw[<-e,gz (by omega),qv (by omega)]
  rw[E9 V r.1 0 K.toNat iV (fun j hj hc=>hV (hr.once j K.toNat hj V hc iV))];omega
 cases h with
 | EO hk h1=>dsimp only at hk h1;subst hk;have hI:=w8 (by omega);rw[show((1:Int) != 0)=true by decide,aG,qf (by simp),yE hX];simp only[u7,vX];rw[hkey V,qc];generalize r.1.getD K.toNat 0=x at *;simp only[eW];simp[br,bL,qd,hI,h1]
 | EP hk h2=>dsimp only at hk h2;subst hk;have hI:=w8 (by omega);rw[show((2:Int) != 0)=true by decide,aG,qf (by simp),yE hX];simp only[u7,vX];rw[hkey V,qc];generalize r.1.getD K.toNat 0=x at *;simp only[eW];simp[br,bL,qd,hI,h2]
 | EN hk h1 h2=>dsimp only at hk h1 h2;subst hk;have hI:=w8 (by omega);rw[show((0:Int) != 0)=false by decide,aM,yF hX];simp only[u9,vY];rw[hkey V,qc];generalize r.1.getD K.toNat 0=x at *;simp only[eW,ju];have hq:=heq ([]:List Int) (by simp);simp[br,bL,qd,hq,hI,h1,h2]
 | Jt hk h1=>dsimp only at hk h1;subst hk;have hI:=w8 (by omega);rw[show((3:Int) != 0)=true by decide,aG,qf (by simp),yE hX];simp only[u7,vX];rw[hkey V,qc];generalize r.1.getD K.toNat 0=x at *;simp only[eW];simp[br,bL,qd,hI,h1]
 | CE hk h1 h2=>dsimp only at hk h1 h2;subst hk;have hI:=w8 (by omega);have hkv:=hkV h2 (by omega) (by omega);rw[show((0:Int) != 0)=false by decide,aM,yF hX];simp only[u9,vY];rw[hkey V,qc];generalize r.1.getD K.toNat 0=x at *;simp only[eW,ju];have hq:=heq ([]:List Int) (by simp);simp[br,bL,qd,hq,hI,h1,h2,hkv,(show ¬ V=0 from fun e=>h1 (h2.trans e))]
 | Js hk h3=>dsimp only at hk h3;subst hk;have hI:=w8 (by omega);rw[show((2:Int) != 0)=true by decide,aG,qf (by simp),yE hX];simp only[u7,vX];rw[hkey V,qc];generalize r.1.getD K.toNat 0=x at *;simp only[eW];simp[br,bL,qd,hI,h3]
 | Jr hk h1 h2 h3=>dsimp only at hk h1 h2 h3;subst hk;have hI:=w8 (by omega);rw[show((0:Int) != 0)=false by decide,aM,yF hX];simp only[u9,vY];rw[hkey V,qc];generalize r.1.getD K.toNat 0=x at *;simp only[eW,ju];have hq:=heq ([]:List Int) (by simp);simp[br,bL,qd,hq,hI,h1,h2,h3]
 | DU hk h1=>dsimp only at hk h1;subst hk;have hI:=w8 (by omega);rw[show((3:Int) != 0)=true by decide,aG,qf (by simp),yE hX];simp only[u7,vX];rw[hkey V,qc];generalize r.1.getD K.toNat 0=x at *;simp only[eW];simp[br,bL,qd,hI,h1]
 | DT hk h1=>dsimp only at hk h1;subst hk;have hI:=w8 (by omega);rw[show((0:Int) != 0)=false by decide,aM,yF hX];simp only[u9,vY];rw[hkey V,qc];generalize r.1.getD K.toNat 0=x at *;simp only[eW,ju];have hq:=heq ([]:List Int) (by simp);simp[br,bL,qd,hq,hI,h1]
 | D6 hk h1=>dsimp only at hk h1;subst hk;have hI:=w8 (by omega);rw[show((3:Int) != 0)=true by decide,aG,qf (by simp),yE hX];simp only[u7,vX];rw[hkey V,qc];generalize r.1.getD K.toNat 0=x at *;simp only[eW];simp[br,bL,qd,hI,h1]
 | D5 hk h1=>dsimp only at hk h1;subst hk;have hI:=w8 (by omega);rw[show((0:Int) != 0)=false by decide,aM,yF hX];simp only[u9,vY];rw[hkey V,qc];generalize r.1.getD K.toNat 0=x at *;simp only[eW,ju];have hq:=heq [x] (by simp);simp[br,bL,qd,hq,hI,h1]
 | wO hk h1=>dsimp only at hk h1;subst hk;rw[show((3:Int) != 0)=true by decide,aG,qf (by simp),yE hX];simp only[u7,vX];rw[hkey V,qc];simp only[eW];simp[br,bL,qd,h1]
 | wN hk h1=>dsimp only at hk h1;subst hk;rw[show((0:Int) != 0)=false by decide,aM,yF hX];simp only[u9,vY];rw[hkey V,qc];simp only[eW,ju];have hq:=heq [bf V r.1 0] (by simp);simp[br,bL,qd,hq,h1]
 | DS hk=>dsimp only at hk;subst hk;rw[show((0:Int) != 0)=false by decide,aM,yF hX];simp only[u9,vY];rw[hkey V,qc];simp only[eW,ju];have hq:=heq [many K r.1] (by simp);simp[br,bL,qd,hq]
 | DK hk=>dsimp only at hk;subst hk;rw[show((0:Int) != 0)=false by decide,aM,yF hX];simp only[u9,vY];rw[hkey V,qc];simp only[eW,ju];have hq:=heq r.1 (by omega);simp[br,bL,qd,hq]
 | xH hk h1=>dsimp only at hk h1;subst hk;rw[show((4:Int) != 0)=true by decide,aG,qf (by simp),yE hX];simp only[u7,vX];rw[hkey V,qc];simp only[eW];simp[br,bL,qd,h1]
 | C_ hk h1=>dsimp only at hk h1;subst hk;rw[show((0:Int) != 0)=false by decide,aM,yF hX];simp only[u9,vY];rw[hkey V,qc];simp only[eW,ju];have hq:=heq ([]:List Int) (by simp);simp[br,bL,qd,hq,h1]
 | xF hk h1=>dsimp only at hk h1;subst hk;rw[show((4:Int) != 0)=true by decide,aG,qf (by simp),yE hX];simp only[u7,vX];rw[hkey V,qc];simp only[eW];rcases h1 with h1 | h1<;>simp[br,bL,qd,h1]
 | C9 hk h1=>dsimp only at hk h1;subst hk;rw[show((0:Int) != 0)=false by decide,aM,yF hX];simp only[u9,vY];rw[hkey V,qc];simp only[eW,ju];have hq:=heq ([]:List Int) (by simp);simp[br,bL,qd,hq,show ¬ r.2.1=0 by omega,show ¬ r.2.1=5 by omega]
 | Jw hk h1=>dsimp only at hk h1;subst hk;rw[show((4:Int) != 0)=true by decide,aG,qf (by simp),yE hX];simp only[u7,vX];rw[hkey V,qc];simp only[eW];simp[br,bL,qd,h1]
 | UO hk h1 h2=>dsimp only at hk h1 h2;subst hk;rw[show((3:Int) != 0)=true by decide,aG,qf (by simp),yE hX];simp only[u7,vX];rw[hkey V,qc];simp only[eW];simp[br,bL,qd,h1,h2]
 | UN hk h1 h2=>dsimp only at hk h1 h2;subst hk;rw[show((0:Int) != 0)=false by decide,aM,yF hX];simp only[u9,vY];rw[hkey V,qc];simp only[eW,ju];have hq:=heq [bf V r.1 0] (by simp);simp[br,bL,qd,hq,h1,h2]
theorem aj0(hn:W+7<=n){r:qp}(hr:aS r){o:cL}(ho:dh o=true){code:Int}{list:List Int}(h:Out r o code list):WK (DD X n) r o (code,list,())=some ((jh r o code,()),()):=by
 obtain⟨n,rfl⟩:∃k,n=k+1:=⟨n-1,by omega⟩
 have hW:=dZ;have hl:=hr.len;have um:=tP ho;have nP:=RG hX (n:=n) (by omega) hr ho h;have Lr:=VD hX (n:=n) (by omega) hr;obtain⟨k,K,V,⟨⟩⟩:=o;dsimp only at um;rw[ajl hX];simp only[q70,P_];rw[Lr,qc,nP,qc];dsimp only;rw[cK,bg];unfold jh;by_cases hc:code=0
 .subst hc;rw[show((0:Int) != 0)=false by decide,aM,af (by omega)];dsimp only;by_cases k1:k=1
  .rw[qf k1,qf k1,fP (by omega) (by omega),aG,ak (.inl k1)]
  rw[qg k1];by_cases k2:k=2
  .rw[qf k2,fP (by omega) (by omega),aG,ak (.inr k2)]
  rw[qg k2,af (by omega)];by_cases k3:k=3
  .rw[qf k3,fP (by omega) (by omega),aG,ak k3]
  rw[qg k3,af k3];by_cases k8:k=8
  .rw[qf k8,qf k8,ak (.inl k8)]
  rw[qg k8];by_cases k9:k=9
  .rw[qf k9,ak (.inr k9)]
  rw[qg k9,af (by omega)]
 .rw[show(code != 0)=true by rw[bL,b_ hc];rfl,aG,ak hc]
end
def cls(c v:Int):Int:=bif bw v 1 6&&decide (qh v=c) then 1 else 0
theorem Tb(c:Int):∀(l k:List Int),many c (l++k)=many c l+many c k
 | [],k=>by simp[many]
 | x::l,k=>by
  rw[fH];simp only[many];rw[Tb c l k];omega
theorem ab4(c:Int)(l:List Int){i:Nat}(h:i<l.length):many c (l.take (i+1))=many c (l.take i)+cls c l[i]:=by rw[mR h,Tb];simp only[many,cls];omega
def qM(r:qp)(i p:Nat):Int:=if p<4 then r.1.getD p 0 else if 10<=p/\p<13 then many ((p:Int)-10) (r.1.take i) else wC r i p
section
variable {X:Ext} (hX:fO X) {n:Nat}
include hX
theorem Bf(N n:Nat)(hN:W+4<=N)(K:qp->List Int->Option ((List Int×Unit)×Unit)){r:qp}(hr:aS r):∀(m i:Nat)(ws:List Int),i<=4->4-i<m->ws.length=20->(∀p<20,ws.getD p 0=qM r i p)->
  ∃zk,zk.length=20/\(∀p<20,zk.getD p 0=qM r 4 p)/\T7 (DD X N) n K m r.1 (r.1.length:Int) (i:Int) r ws=K r zk
 | 0,_,_,_,h,_,_=>by omega
 | m+1,i,ws,hi,hf,mV,hw=>by
  have hl:=hr.len;have hst:=hr.st;have hW:=dZ;simp only[T7,qyu];by_cases h:i<4
  .have hi2:i<r.1.length:=by omega
   have hv:=hr.dQ r.1[i] (d_ hi2);have hps:=R5 hX hr h hi2;have w9:=fun c=>ab4 c r.1 hi2;rw[qf (by omega),ix hi2,aG,d5,qv hi2];by_cases h0:r.1[i]=0
   .rw[qf h0,qu (by omega)];refine Bf N n hN K hr m (i+1) ws (by omega) (by omega) mV (fun p hp=>?_);rw[hw p hp];unfold qM;by_cases a1:p<4
    .rw[ak a1,ak a1]
    rw[af a1,af a1];by_cases a2:10<=p/\p<13
    .rw[ak a2,ak a2,w9,h0];have:cls ((p:Int)-10) 0=0:=rfl;rw[this];omega
    rw[af a2,af a2,hps p hp,af a1];rw[af (show ¬ (r.1[i]≠0/\(p:Int)=3+r.1[i]) from fun k=>k.1 h0),af (show ¬ (r.1[i]≠0/\(p:Int)=13+r.1[i]/\(i:Int)<r.2.1-1) from fun k=>k.1 h0)]
   .have ho:=vf r.1[i];have hvi:=oR r.1[i];have jO:=yL r.1[i];have hc:=ve (qh r.1[i]);have n5:q9 r.1[i]=3+r.1[i]:=by omega
    have EA:fR r.1[i]=13+r.1[i]:=by omega
    have g_:iT (qh r.1[i])=10+qh r.1[i]:=by omega
    have qF:wrap .i64 (r.2.1-1)=r.2.1-1:=qs (by omega) (by omega);have hmr:=MP (qh r.1[i]) (r.1.take i);rw[eH]at hmr;have ug:(ws.set (3+r.1[i]).toNat ((i:Int)+1)).getD (10+qh r.1[i]).toNat 0=many (qh r.1[i]) (r.1.take i):=by rw[pK _ _ _ _ (by omega),af (by omega),hw _ (by omega)];unfold qM;rw[af (by omega),ak (by omega),show(((10+qh r.1[i]).toNat:Nat):Int)-10=qh r.1[i] by omega]
    have Lo:∀c,cls c r.1[i]=if qh r.1[i]=c then 1 else 0:=fun c=>by
     unfold cls;rw[lq.2 (by omega),zK];by_cases e:qh r.1[i]=c
     .rw[bG e,ak e];rfl
     .rw[b_ e,af e];rfl
    rw[qg h0,Ds hX (by omega),qc];dsimp only;rw[n5,fP (by omega) (by omega),aG,Jb hX (by omega),qc];dsimp only;rw[Dr hX (by omega),qc];dsimp only;have hw1:wrap .i64 ((i:Int)+1)=(i:Int)+1:=qs (by omega) (by omega);rw[g_,hw1,fP (by omega) (by rw[b9,mV];omega),aG,aG,ug,qs (x:=many (qh r.1[i]) (r.1.take i)+1) (by omega) (by omega),qF];have kO:∀p<20,p<4\/¬ (p<4):=fun p _=>by omega
    by_cases hs:(i:Int)<r.2.1-1
    .rw[qf hs,Cl hX (by omega),qc];dsimp only;rw[EA,fP (by omega) (by rw[b9,b9,mV];omega),aG];refine Bf N n hN K hr m (i+1) _ (by omega) (by omega) (by rw[b9,b9,b9];exact mV) (fun p hp=>?_);rw[pK _ _ _ _ (by rw[b9,b9,mV];omega),pK _ _ _ _ (by rw[b9,mV];omega),pK _ _ _ _ (by omega),hw p hp];unfold qM;by_cases a1:p<4
     .rw[af (by omega),af (by omega),af (by omega),ak a1,ak a1]
     rw[af a1,af a1];by_cases a2:10<=p/\p<13
     .rw[af (show ¬ p=(13+r.1[i]).toNat by omega),af (show ¬ p=(3+r.1[i]).toNat by omega),ak a2,ak a2,w9,Lo];by_cases e:p=(10+qh r.1[i]).toNat
      .rw[ak e,ak (by omega),show(p:Int)-10=qh r.1[i] by omega]
      .rw[af e,af (by omega)];omega
     rw[af a2,af a2,hps p hp,af a1];by_cases e3:p=(13+r.1[i]).toNat
     .rw[ak e3,af (by omega),ak ⟨h0,by omega,hs⟩]
     rw[af e3,af (show ¬ p=(10+qh r.1[i]).toNat by omega)];by_cases e2:p=(3+r.1[i]).toNat
     .rw[ak e2,ak ⟨h0,by omega⟩]
     rw[af e2,af (show ¬ (r.1[i]≠0/\(p:Int)=3+r.1[i]) by omega),af (show ¬ (r.1[i]≠0/\(p:Int)=13+r.1[i]/\(i:Int)<r.2.1-1) by omega)]
    .rw[qg hs];refine Bf N n hN K hr m (i+1) _ (by omega) (by omega) (by rw[b9,b9];exact mV) (fun p hp=>?_);rw[pK _ _ _ _ (by rw[b9,mV];omega),pK _ _ _ _ (by omega),hw p hp];unfold qM;by_cases a1:p<4
     .rw[af (by omega),af (by omega),ak a1,ak a1]
     rw[af a1,af a1];by_cases a2:10<=p/\p<13
     .rw[af (show ¬ p=(3+r.1[i]).toNat by omega),ak a2,ak a2,w9,Lo];by_cases e:p=(10+qh r.1[i]).toNat
      .rw[ak e,ak (by omega),show(p:Int)-10=qh r.1[i] by omega]
      .rw[af e,af (by omega)];omega
     rw[af a2,af a2,hps p hp,af a1];rw[af (show ¬ p=(10+qh r.1[i]).toNat by omega),af (show ¬ (r.1[i]≠0/\(p:Int)=13+r.1[i]/\(i:Int)<r.2.1-1) from fun k=>hs k.2.2)];by_cases e2:p=(3+r.1[i]).toNat
     .rw[ak e2,ak ⟨h0,by omega⟩]
     rw[af e2,af (show ¬ (r.1[i]≠0/\(p:Int)=3+r.1[i]) by omega)]
  .rw[qg (by omega)];have:i=4:=by omega
   subst this;exact⟨ws,mV,hw,rfl⟩
theorem acK(hn:W+6<=n){r:qp}(hr:aS r):∃ws:List Int,ws.length=20/\(∀p<20,ws.getD p 0=j5 r p)/\Jc (DD X n) r=some ((ws,()),()):=by
 obtain⟨n,rfl⟩:∃k,n=k+1:=⟨n-1,by omega⟩
 have hW:=dZ;have hst:=hr.st;have hl:=hr.len;rw[ahI hX];simp only[Y4,ZV];rw[VK hX (by omega) hr,qc];dsimp only;rw[cK,aM];simp only[qwe];have Lr:(decide (0<r.1.length)&&decide (0<(List.replicate (Int.toNat 20) (0:Int)).length))=true:=by rw[bG (by omega),ot];rfl
 obtain⟨w1,l1,h1,e1⟩:=Bf hX n n (by omega) (fun bS dV=>qup (DD X n) n bS dV) hr n 0 (wo (Ty.int IntKind.i64) (List.replicate (Int.toNat 20) 0) r.1) (by omega) (by omega)
  (by rw[QX];rfl) (fun p hp=>by
  have e0:(List.replicate (Int.toNat 20) (0:Int)).getD p 0=0:=by simp only[List.getD,vM];split<;>rfl
  have e1:=QW (t:=Ty.int IntKind.i64) (xs:=List.replicate (Int.toNat 20) 0) (ys:=r.1) p (by rw[ot];exact hp);rw[ot,hl]at e1;refine dj e1 ?_;unfold qM;by_cases a1:p<4
  .rw[ak (by omega),ak a1];rfl
  .rw[af (by omega),af a1];refine dj e0 ?_;by_cases a2:10<=p/\p<13
   .rw[ak a2,List.take_zero];rfl
   rw[af a2];unfold wC qJ lC;rw[af a1];split
   .rw[af (by omega)]
   .split
    .rfl
    .rw[af (by omega)])
 rw[show((0:Nat):Int)=0 from rfl]at e1;refine⟨w1.set 13 r.2.1,by rw[b9];exact l1,fun p hp=>?_,(eg (fun c=>br c _ _) Lr).trans (e1.trans ?_)⟩
 .rw[pK _ _ _ _ (by omega),h1 p hp];unfold j5 qM wC;by_cases e:p=13
  .rw[ak e,af (by omega),af (by omega),af (by omega),ak e]
  rw[af e];by_cases a1:p<4
  .rw[ak a1,ak a1]
  by_cases a2:p<10
  .rw[af a1,af (by omega),af a1,ak a2,af a1,ak a2];rfl
  by_cases a3:p<13
  .rw[af a1,ak (by omega),af a1,af a2,ak a3,jX (by omega)]
  .rw[af a1,af (by omega),af a1,af a2,af (by omega),af a1,af a2,af a3,af e];rfl
 simp only[qup];rw[yH hX (by omega),qc];dsimp only;rw[fP (by omega) (by rw[l1];omega),aG];rfl
end
theorem HO(c:Int):∀(l:List Int)(k:Nat)(V:Int),k<l.length->many c (l.set k V)=many c l+cls c V-cls c (l.getD k 0)
 | [],k,V,h=>by simp at h
 | x::l,0,V,_=>by
  simp only[BX,many,uS,cls];omega
 | x::l,k+1,V,h=>by
  simp only[F9,many,HX];rw[HO c l k V (by simpa using h)];omega
theorem QM{r:qp}(hr:aS r){v:Int}(hv:v≠0){k:Nat}(h:r.1[k]? = some v):bf v r.1 0=k:=by rw[E9 v r.1 0 k h (fun j hj hc=>hv (hr.once j k hj v hc h))];congr 1;omega
theorem S6{r:qp}(hr:aS r){K:Nat}(hK:K<4){V:Int}(hV:V=0\/bf V r.1 0<0){v:Int}(hv:1<=v) :
  bf v (r.1.set K V) 0=if v=V then (K:Int) else if v=r.1.getD K 0 then -1 else bf v r.1 0:=by
 have hl:=hr.len;have iV:∀j,j≠K->(r.1.set K V)[j]? = r.1[j]?:=fun j hj=>by rw[jZ,af (fun e=>hj e.symm)]
 have Eo:(r.1.set K V)[K]? = some V:=by rw[jZ,ak rfl,ak (by omega)]
 have Vj:r.1[K]? = some (r.1.getD K 0):=by rw[gz (by omega),qv (by omega)]
 by_cases e:v=V
 .rw[ak e];subst e;have hno:v∉r.1:=MO v r.1 0 (by omega);rw[E9 v _ 0 K Eo (fun j hj hc=>by
   rw[iV j (by omega)]at hc;exact hno (mT.2 ⟨j,hc⟩))]
  congr 1;omega
 rw[af e];by_cases e2:v=r.1.getD K 0
 .rw[ak e2];refine AU v _ 0 (fun hm=>?_);obtain⟨j,hj⟩:=mT.1 hm;by_cases q:j=K
  .subst q;rw[Eo]at hj;exact e (gV hj).symm
  .rw[iV j q]at hj;rw[<-e2]at Vj;by_cases lt:j<K
   .have:=hr.once j K lt v hj Vj;omega
   .have:=hr.once K j (by omega) v Vj hj;omega
 rw[af e2];by_cases h0:bf v r.1 0<0
 .have hno:v∉r.1:=MO _ _ _ h0;have:=yR v r.1 0;rw[AU v _ 0 (fun hm=>by
   obtain⟨j,hj⟩:=mT.1 hm;by_cases q:j=K
   .subst q;rw[Eo]at hj;exact e (gV hj).symm
   .rw[iV j q]at hj;exact hno (mT.2 ⟨j,hj⟩))]
  omega
 .obtain⟨k,hk⟩:∃k:Nat,bf v r.1 0=k:=⟨(bf v r.1 0).toNat,by omega⟩
  obtain⟨_,h2⟩:=MN v r.1 0 k hk;rw[Cd]at h2;have hkK:k≠K:=fun q=>by subst q;rw[Vj]at h2;exact e2 (gV h2).symm
  rw[hk,E9 v _ 0 k (by rw[iV k hkK];exact h2) (fun j hj hc=>by
   by_cases q:j=K
   .subst q;rw[Eo]at hc;exact e (gV hc).symm
   .rw[iV j q]at hc;have:=hr.once j k hj v hc h2;omega)]
  congr 1;omega
theorem aco{r:qp}(hr:aS r){K:Nat}(hK:K<4){V:Int}(hV:V=0\/bf V r.1 0<0)(hV6:0<=V/\V<=6):aS (r.1.set K V,r.2):=by
 have hl:=hr.len;have iV:∀j,j≠K->(r.1.set K V)[j]? = r.1[j]?:=fun j hj=>by rw[jZ,af (fun e=>hj e.symm)]
 have Eo:(r.1.set K V)[K]? = some V:=by rw[jZ,ak rfl,ak (by omega)]
 have hno:V≠0->V∉r.1:=fun h=>MO V r.1 0 (by omega);refine⟨by show(r.1.set K V).length=4;rw[b9];exact hl,fun x hx=>?_,fun i j hij v g1 g2=>?_,hr.st⟩
 .rcases Ho hx with q | rfl
  .exact hr.dQ x q
  .exact hV6
 .show v=0;have h1:(r.1.set K V)[i]? = some v:=g1;have h2:(r.1.set K V)[j]? = some v:=g2;clear g1 g2;by_cases q:i=K
  .subst q;rw[Eo]at h1;rw[iV j (by omega)]at h2;have:=gV h1;subst this;by_cases z:V=0
   .exact z
   .exact absurd (mT.2 ⟨j,h2⟩) (hno z)
  .rw[iV i q]at h1;by_cases q2:j=K
   .subst q2;rw[Eo]at h2;have:=gV h2;subst this;by_cases z:V=0
    .exact z
    .exact absurd (show V∈r.1 from mT.2 ⟨i,h1⟩) (hno z)
   .rw[iV j q2]at h2;exact hr.once i j hij v h1 h2
theorem M8{r:qp}(hr:aS r){K:Nat}(hK:K<4){V:Int}(hV:V=0\/bf V r.1 0<0){p:Nat}(hp:p<20) :
  j5 (r.1.set K V,r.2) p=if p<4 then (if p=K then V else j5 r p)
   else if p<10 then (if (p:Int)-3=V then (K:Int)+1 else if (p:Int)-3=r.1.getD K 0 then 0 else j5 r p)
   else if p<13 then j5 r p+cls ((p:Int)-10) V-cls ((p:Int)-10) (r.1.getD K 0)
   else if p=13 then j5 r p
   else (if (p:Int)-13=V then (if (K:Int)<r.2.1-1 then (K:Int)+1 else 0) else if (p:Int)-13=r.1.getD K 0 then 0 else j5 r p):=by
 have hl:=hr.len;unfold j5;by_cases a1:p<4
 .simp only[ak a1];rw[pK _ _ _ _ (by omega)]
 simp only[af a1];by_cases a2:p<10
 .simp only[ak a2];unfold qJ;rw[S6 hr hK hV (by omega)];by_cases e:(p:Int)-3=V
  .simp only[ak e];rw[ak (by omega)]
  simp only[af e];by_cases e2:(p:Int)-3=r.1.getD K 0
  .simp only[ak e2];rw[af (by omega)]
  simp only[af e2]
 simp only[af a2];by_cases a3:p<13
 .simp only[ak a3];exact HO _ _ _ _ (by omega)
 simp only[af a3];by_cases a4:p=13
 .simp only[ak a4]
 simp only[af a4];unfold lC;rw[S6 hr hK hV (by omega)];by_cases e:(p:Int)-13=V
 .simp only[ak e];by_cases q:(K:Int)<r.2.1-1
  .rw[ak ⟨by omega,by omega,q⟩,ak q]
  .rw[af (fun z=>q z.2.2),af q]
 simp only[af e];by_cases e2:(p:Int)-13=r.1.getD K 0
 .simp only[ak e2];rw[af (by omega)]
 simp only[af e2]
theorem Fk{v:Int}(hv:1<=v/\v<=6)(c:Int):cls c v=if qh v=c then 1 else 0:=by
 unfold cls;rw[lq.2 hv,zK];by_cases e:qh v=c
 .rw[bG e,ak e];rfl
 .rw[b_ e,af e];rfl
structure DQ (r:qp) (K V:Int) (l:List Int):Prop where
 k:K∈l
 s:13∈l
 o:∀v,v=r.1.getD K.toNat 0\/v=V->1<=v->3+v∈l
 c:qh (r.1.getD K.toNat 0)≠qh V->∀v,v=r.1.getD K.toNat 0\/v=V->1<=v->10+qh v∈l
 v:K+1<r.2.1->∀v,v=r.1.getD K.toNat 0\/v=V->1<=v->13+v∈l
 x:∀p∈l,14<=p->K+1<r.2.1
structure KR (r:qp) (K V:Int):Prop where
 k:0<=K/\K<=3
 v:0<=V/\V<=6
 h:0<=r.1.getD K.toNat 0/\r.1.getD K.toNat 0<=6
 z:V=0\/bf V r.1 0<0
 n:r.1.getD K.toNat 0≠V
theorem acM{r:qp}(hr:aS r){K V:Int}{l:List Int}(hc:KR r K V)(hm:DQ r K V l){p:Nat}(hp:p<20)(hn:(p:Int)∉l) :
  j5 (r.1.set K.toNat V,r.2) p=j5 r p:=by
 have hK:=hc.k;have hV:=hc.v;have hh:=hc.h;have hz:=hc.z;have hne:=hc.n;have hl:=hr.len;have XJ:K.toNat<4:=by omega
 have hcV:=yL V;have hcH:=yL (r.1.getD K.toNat 0);rw[M8 hr XJ hc.z hp];have hno:∀q,q∈l->(p:Int)≠q:=fun q hq e=>hn (e ▸ hq);by_cases a1:p<4
 .rw[ak a1,af (by have:=hno K hm.k;omega)]
 rw[af a1];by_cases a2:p<10
 .rw[ak a2,af (fun e=>by have:=hno _ (hm.o V (.inr rfl) (by omega));omega),af (fun e=>by have:=hno _ (hm.o _ (.inl rfl) (by omega));omega)]
 rw[af a2];by_cases a3:p<13
 .rw[ak a3];by_cases e:qh (r.1.getD K.toNat 0)=qh V
  .have h1:1<=V:=by omega
   have h2:1<=r.1.getD K.toNat 0:=by omega
   rw[Fk (by omega),Fk (by omega),e];omega
  .have q:=hm.c e;have f1:cls ((p:Int)-10) V=0:=by
    by_cases z:1<=V
    .rw[Fk (by omega),af (fun e=>by have:=hno _ (q V (.inr rfl) z);omega)]
    .rw[show V=0 by omega];rfl
   have f2:cls ((p:Int)-10) (r.1.getD K.toNat 0)=0:=by
    by_cases z:1<=r.1.getD K.toNat 0
    .rw[Fk (by omega),af (fun e=>by have:=hno _ (q _ (.inl rfl) z);omega)]
    .rw[show r.1.getD K.toNat 0=0 by omega];rfl
   rw[f1,f2];omega
 rw[af a3];by_cases a4:p=13
 .rw[ak a4]
 rw[af a4];have hw:j5 r p=lC ((p:Int)-13) r.1 4 r.2.1:=by unfold j5;rw[af a1,af a2,af a3,af a4]
 by_cases e:(p:Int)-13=V
 .have hk:¬ K+1<r.2.1:=fun q=>by have:=hno _ (hm.v q V (.inr rfl) (by omega));omega
  rw[ak e,af (by omega),hw,e];unfold lC;rw[af (by omega)]
 rw[af e];by_cases e2:(p:Int)-13=r.1.getD K.toNat 0
 .have hk:¬ K+1<r.2.1:=fun q=>by have:=hno _ (hm.v q _ (.inl rfl) (by omega));omega
  have hkey:bf (r.1.getD K.toNat 0) r.1 0=K.toNat:=QM hr (by omega) (by rw[gz (by omega),qv (by omega)]);rw[ak e2,hw,e2];unfold lC;rw[hkey,af (by omega)]
 rw[af e2]
theorem aj9{k:Int}(h:0<=qw k):qw k=k:=by have:=vr k;omega
theorem R4{v:Int}(h:0<=q9 v):(1<=v/\v<=6)/\q9 v=3+v:=by have:=vf v;omega
theorem NX{v:Int}(h:0<=fR v):(1<=v/\v<=6)/\fR v=13+v:=by have:=oR v;omega
theorem Rl{v:Int}(h:0<=iT (qh v)):(1<=v/\v<=6)/\(0<=qh v/\qh v<=2)/\iT (qh v)=10+qh v:=by have:=ve (qh v);have:=yL v;omega
theorem Nu{c V:Int}(hV:0<=V/\V<=6)(h:qh V≠c):cls c V=0:=by
 by_cases z:1<=V
 .rw[Fk (by omega),af h]
 .rw[show V=0 by omega];rfl
theorem Q7(r:qp){c:Int}(hc:0<=c/\c<=2):j5 r (10+c).toNat=many c r.1:=by unfold j5;rw[af (by omega),af (by omega),ak (by omega),show(((10+c).toNat:Nat):Int)-10=c by omega]
theorem aj6{r:qp}(hr:aS r){K V:Int}{l:List Int}(hc:KR r K V)(hm:DQ r K V l){q:Want}(hq:q∈e_ K V (r.1.getD K.toNat 0) r.2.1)(hl:q.1∈l)(h0:0<=q.1) :
  q.1<20/\q.2 (cg r q.1)=cg (r.1.set K.toNat V,r.2) q.1:=by
 have hb:=i9;have hK:=hc.k;have hV:=hc.v;have hh:=hc.h;have hne:=hc.n;have hlen:=hr.len;have hst:=hr.st;have XJ:K.toNat<4:=by omega
 have hlt:=Nt K V (r.1.getD K.toNat 0) r.2.1 q hq;have qF:=M8 hr XJ hc.z (p:=q.1.toNat) (by omega);refine⟨by omega,?_⟩;have hx:=fun h=>hm.x _ hl h;have hlK:K.toNat<r.1.length:=by omega
 have hms:=fun c=>HO c r.1 K.toNat V hlK;have XR:=fun c=>MP c (r.1.set K.toNat V);unfold cg;rw[qF];clear qF hlt hl hm;unfold e_ at hq;generalize tj:r.1.getD K.toNat 0=H at *;rcases bN.1 hq with hq | hq
 .simp only[bk,dc,di]at hq;rcases hq with rfl | rfl | rfl | rfl | rfl | rfl<;>dsimp only at *
  .rw[aj9 h0,ak (by omega),ak rfl]
  .rw[af (by decide),af (by decide),af (by decide),ak (by decide)];rfl
  .obtain⟨e1,e⟩:=R4 h0;rw[e,af (by omega),ak (by omega),af (by omega),ak (by omega)]
  .obtain⟨e1,e⟩:=NX h0;rw[e,af (by omega),af (by omega),af (by omega),af (by omega),af (by omega),ak (by omega)]
  .obtain⟨e1,e⟩:=R4 h0;rw[e,af (by omega),ak (by omega),ak (by omega),qs (by omega) (by omega)];omega
  .obtain⟨e1,e⟩:=NX h0;have hx:=hx (by omega);rw[e,af (by omega),af (by omega),af (by omega),af (by omega),ak (by omega),ak (by omega),qs (by omega) (by omega)];omega
 .cases mj:qh H != qh V
  .rw[mj]at hq;simp at hq
  rw[mj,bA]at hq;have Lp:qh H≠qh V:=by simpa using mj
  simp only[bk,dc,di]at hq;rcases hq with rfl | rfl<;>dsimp only at *
  .obtain⟨hH,ec,e⟩:=Rl h0;have a1:=MP (qh H) r.1;have a2:=hms (qh H);have a3:=XR (qh H);have f1:cls (qh H) H=1:=by rw[Fk hH,ak rfl]
   have f2:cls (qh H) V=0:=Nu hV (fun q=>Lp q.symm);rw[f1,f2]at a2;rw[e,af (by omega),af (by omega),ak (by omega),Q7 r ec,show(((10+qh H).toNat:Nat):Int)-10=qh H by omega,f1,f2];unfold less;rw[qs (by omega) (by omega)];split<;>omega
  .obtain⟨hH,ec,e⟩:=Rl h0;have a1:=MP (qh V) r.1;have f1:cls (qh V) V=1:=by rw[Fk hH,ak rfl]
   have f2:cls (qh V) H=0:=Nu hh Lp;rw[e,af (by omega),af (by omega),ak (by omega),Q7 r ec,show(((10+qh V).toNat:Nat):Int)-10=qh V by omega,f1,f2];unfold one;rw[qs (by omega) (by omega)];omega
theorem ak7{r:qp}(hr:aS r){o:cL}(ho:dh o=true)(eK:o.1=1\/o.1=2\/o.1=3)(hne:1<=r.1.getD o.2.1.toNat 0/\r.1.getD o.2.1.toNat 0<=6->r.1.getD o.2.1.toNat 0≠o.2.2.1){c:Int}{L:List Int}(hc:c=0)(h:Out r o c L) :
  KR r o.2.1 o.2.2.1/\(o.1=1->r.1.getD o.2.1.toNat 0=0)/\(o.1≠1->r.1.getD o.2.1.toNat 0≠0):=by
 have hk:=tP ho;have hl:=hr.len;have hK:0<=o.2.1/\o.2.1<=3:=by omega
 have hh:0<=r.1.getD o.2.1.toNat 0/\r.1.getD o.2.1.toNat 0<=6:=by rw[qv (by omega)];exact hr.dQ _ (d_ _)
 have mk:(o.2.2.1=0\/bf o.2.2.1 r.1 0<0)->r.1.getD o.2.1.toNat 0≠o.2.2.1->KR r o.2.1 o.2.2.1:=fun a b=>⟨hK,by omega,hh,a,b⟩
 cases h with
 | EN k h1 h2=>exact⟨mk (.inr h2) (by omega),fun _=>h1,fun q=>absurd k q⟩
 | Jr k h1 h2 h3=>exact⟨mk (.inr h3) h2,fun q=>by omega,fun _=>h1⟩
 | DT k h1=>exact⟨mk (.inl (by omega)) (by omega),fun q=>by omega,fun _=>h1⟩
 | CE k h1 h2=>exact absurd h2 (hne (by omega))
 | _=>omega
theorem aky{r:qp}(hr:aS r){o:cL}(ho:dh o=true)(eK:o.1=1\/o.1=2\/o.1=3)(hc:KR r o.2.1 o.2.2.1)(h1:o.1=1->r.1.getD o.2.1.toNat 0=0)(h2:o.1≠1->r.1.getD o.2.1.toNat 0≠0) :
  DQ r o.2.1 o.2.2.1 (path (cg r) (prog o)):=by
 have hk:=tP ho;have hb:=i9;have hh:=hc.h;have hz:=hc.z;have hne:=hc.n;have hst:=hr.st;have hK:0<=o.2.1/\o.2.1<=3:=hc.k;have hrow:qw o.2.1=o.2.1:=by have:=vr o.2.1;omega
 have Vo:=(tK hr hK).1;have hwo:1<=o.2.2.1->cg r (q9 o.2.2.1)=0:=fun z=>by
  rw[Ji hr (by have:=hc.v;omega)];have:=yR o.2.2.1 r.1 0;omega
 have qF:=DA r;have EE:wrap .i64 (o.2.1+1)=o.2.1+1:=qs (by omega) (by omega);have hown:∀v,1<=v/\v<=6->q9 v=3+v:=fun v hv=>by have:=vf v;omega
 have nq:∀v,1<=v/\v<=6->fR v=13+v:=fun v hv=>by have:=oR v;omega
 have ug:∀v,1<=v/\v<=6->iT (qh v)=10+qh v:=fun v hv=>by have:=ve (qh v);have:=yL v;omega
 have Af:∀v,1<=v/\v<=6->0<=qh v/\qh v<=2:=fun v hv=>by have:=yL v;omega
 have hV:=hc.v;generalize tj:r.1.getD o.2.1.toNat 0=H at *;unfold prog;rcases eK with k | k | k
 .rw[ak k];have hH:=h1 k;have ud:1<=o.2.2.1/\o.2.2.1<=6:=by omega
  have e:path (cg r) (sL o)=o.2.1::(3+o.2.2.1)::(10+qh o.2.2.1)::13::(if r.2.1<=o.2.1+1 then [] else [13+o.2.2.1]):=by unfold sL;simp only[path];rw[hrow,Vo,hH];simp only[bL,o6,cK,bg,path];rw[hwo ud.1];simp only[o6,cK,bg,path,Cs,cA,f4];rw[qF,EE,hown _ ud,nq _ ud,ug _ ud]
  rw[e];have g_:=Af _ ud;refine⟨by simp,by simp,fun v hv z=>?_,fun _ v hv z=>?_,fun q v hv z=>?_,fun p hp Lb=>?_⟩
  .have:v=o.2.2.1:=by omega
   subst this;simp
  .have:v=o.2.2.1:=by omega
   subst this;simp
  .have:v=o.2.2.1:=by omega
   subst this;rw[af (by omega)];simp
  .by_cases q:r.2.1<=o.2.1+1
   .rw[ak q]at hp;simp only[bk,dc,di]at hp;omega
   .omega
 .have hH:=h2 (by omega);rw[af (by omega),ak k];have ud:1<=o.2.2.1/\o.2.2.1<=6:=by omega
  have uc:1<=H/\H<=6:=by omega
  have e:path (cg r) (sM o)=o.2.1::(3+o.2.2.1)::(3+H)::((bif qh H != qh o.2.2.1 then [10+qh H,10+qh o.2.2.1] else [])++13::(if r.2.1<=o.2.1+1 then [] else [13+H,13+o.2.2.1])):=by
   unfold sM;simp only[path];rw[hrow,Vo,b_ hH,b_ hne];simp only[bg,path];rw[hwo ud.1];simp only[bL,o6,cK,bg,path];cases decide (qh H=qh o.2.2.1)
   .simp only[iP,bA,path,Cs,cA,f4,fH,gA];rw[qF,EE,hown _ ud,nq _ ud,ug _ ud,hown _ uc,nq _ uc,ug _ uc]
   .simp only[cK,bg,path,Cs,cA,f4,fH,gA];rw[qF,EE,hown _ ud,nq _ ud,hown _ uc,nq _ uc]
  rw[e];have g_:=Af _ ud;have rO:=Af _ uc;refine⟨by simp,by simp,fun v hv z=>?_,fun q v hv z=>?_,fun q v hv z=>?_,fun p hp Lb=>?_⟩
  .rw[tj]at hv;rcases hv with rfl | rfl<;>simp
  .rw[tj]at hv q;rw[bL,b_ q];rcases hv with rfl | rfl<;>simp
  .rw[tj]at hv;rw[af (by omega)];rcases hv with rfl | rfl<;>simp
  .by_cases q:r.2.1<=o.2.1+1
   .rw[ak q]at hp;cases hq:qh H != qh o.2.2.1
    .rw[hq]at hp;simp only[bg,gA,bk,dc,di]at hp;omega
    .rw[hq]at hp;simp only[bA,fH,gA,bk,dc,di]at hp;omega
   .omega
 .have hH:=h2 (by omega);rw[af (by omega),af (by omega),ak k];have uc:1<=H/\H<=6:=by omega
  have e:path (cg r) (vj o)=o.2.1::(3+H)::(10+qh H)::13::(if r.2.1<=o.2.1+1 then [] else [13+H]):=by unfold vj;simp only[path];rw[hrow,Vo,b_ hH];simp only[bg,path,Cs,cA,f4];rw[qF,EE,hown _ uc,nq _ uc,ug _ uc]
  rw[e];have rO:=Af _ uc;refine⟨by simp,by simp,fun v hv z=>?_,fun q v hv z=>?_,fun q v hv z=>?_,fun p hp Lb=>?_⟩
  .have:v=H:=by omega
   subst this;simp
  .have:v=H:=by omega
   subst this;simp
  .have:v=H:=by omega
   subst this;rw[af (by omega)];simp
  .by_cases q:r.2.1<=o.2.1+1
   .rw[ak q]at hp;simp only[bk,dc,di]at hp;omega
   .omega
theorem Bk{r:qp}(hr:aS r){p:Nat}(hp:p<20)(zw:p≠13)(hk:14<=p->bf ((p:Int)-13) r.1 0≠r.2.1-1\/r.2.1=0):j5 (r.1,r.2.1+1,()) p=j5 r p:=by
 have hst:=hr.st;unfold j5;by_cases a1:p<4
 .rw[ak a1,ak a1]
 rw[af a1,af a1];by_cases a2:p<10
 .rw[ak a2,ak a2]
 rw[af a2,af a2];by_cases a3:p<13
 .rw[ak a3,ak a3]
 rw[af a3,af a3,af zw,af zw];have hk:=hk (by omega);unfold lC;dsimp only;by_cases e:0<=bf ((p:Int)-13) r.1 0/\bf ((p:Int)-13) r.1 0<4/\bf ((p:Int)-13) r.1 0<r.2.1-1
 .rw[ak e,ak (by omega)]
 .rw[af e,af (by omega)]
theorem UB{r:qp}{o:cL}(c:Int)(h:¬ (o.1=1\/o.1=2)/\¬ o.1=3/\¬ (o.1=8\/o.1=9)):jh r o c=r:=by unfold jh;rw[af h.1,af h.2.1,af h.2.2];split<;>rfl
structure sZ (w w':Int->Int) (E:List eB):Prop where
 z7:lO E
 old:∀e∈E,0<=e.1/\e.1<20/\e.2.1=w e.1/\e.2.2.1=w' e.1
 rest:∀p:Nat,p<20->(∀e∈E,e.1≠(p:Int))->w p=w' p
theorem abh{r:qp}(hr:aS r){o:cL}(ho:dh o=true)(dz:mM o (fy r o)=none) :
  sZ (cg r) (cg (jh r o (eF o (fy r o)).1)) (dI o (fy r o))/\aS (jh r o (eF o (fy r o)).1):=by
 have hb:=i9;have hw:=fun k hk=>(tK hr (k:=k) hk).2;have hpk:=J_ ho (cg r) hw;have hrun:=GX hr ho;have hkn:=Gc r o;have um:=tP ho;have hst:=hr.st;have hl:=hr.len;have gq:dh o=true/\(run (fy r o) (prog o)).2<0:=⟨ho,by rw[hrun];show(-1:Int)<0;omega⟩
 have hrd:∀p,p∈path (cg r) (prog o)->(eX (fy r o) p).1=cg r p:=fun p hp=>by rw[hkn p,ak hp]
 have Ak:∀p,0<=p->(hit (fy r o) p=true↔p∈path (cg r) (prog o)):=fun p hp=>by rw[AW hkn hp,gT]
 have hout:=NQ hr ho;have uu:gj o (fy r o)=((false,eF o (fy r o),dI o (fy r o),()),true,()):=by unfold gj;rw[ak gq,dz]
 rw[uu]at hout;dsimp only at hout;obtain⟨hA,hB⟩:=Nv ho hw hkn hrun dz;by_cases eK:o.1=1\/o.1=2\/o.1=3
 .obtain⟨hv,hsub⟩:=SU ho hw hkn dz eK;have hne:=xV ho dz eK;have EE:=(tK hr (k:=o.2.1) (by omega)).1;rw[hv,EE]at hne;have hres:eF o (fy r o)=(0,[],()):=by unfold eF;rw[af (by omega),af (by omega)]
  rw[hres]at hout⊢;obtain⟨hc,h1,h2⟩:=ak7 hr ho eK hne rfl hout;have hm:=aky hr ho eK hc h1 h2;have Ad:jh r o 0=(r.1.set o.2.1.toNat o.2.2.1,r.2):=by
   unfold jh;rw[af (by omega)];by_cases JP:o.1=1\/o.1=2
   .rw[ak JP]
   .rw[af JP,ak (by omega),show o.2.2.1=0 by omega]
  show sZ _ (cg (jh r o 0)) _/\aS (jh r o 0);rw[Ad];have zw:val (fy r o) 13=r.2.1:=hrd 13 hm.s;have hE:dI o (fy r o)=(iw (fy r o) (e_ o.2.1 o.2.2.1 (r.1.getD o.2.1.toNat 0) r.2.1)).foldl hJ []:=by unfold dI;rw[ak eK,hv,EE,zw]
  obtain⟨_,r2,r3,r4⟩:=MF (got:=fy r o) (K:=o.2.1) (V:=o.2.2.1) (held:=r.1.getD o.2.1.toNat 0) (st:=r.2.1) hne;refine⟨⟨by rw[hE];exact r2,fun e he=>?_,fun p hp hno=>?_⟩,aco hr (by have:=hc.k;omega) hc.z hc.v⟩
  .rw[hE]at he;obtain⟨q,hq,hh,rfl⟩:=(JX _ _ _).1 ((r3 e).1 he);have LS:=Br hh;have hqm:=(Ak q.1 LS).1 hh;have hn:=aj6 hr hc hm hq hqm LS;have:=hrd q.1 hqm;refine⟨LS,hn.1,this,?_⟩;show q.2 (eX (fy r o) q.1).1=_;rw[this];exact hn.2
  .have hnp:(p:Int)∉path (cg r) (prog o):=fun hm=>by
    obtain⟨e,he,e1,_⟩:=hA _ hm;exact hno e he e1
   exact(acM hr hc hm hp hnp).symm
 .obtain⟨_,pl⟩:=G_ ho dz gq.2 eK;have JI:(run (fy r o) (prog o)).1=path (cg r) (prog o):=by rw[hrun]
  rw[JI]at pl;have hmem:∀L:List Int,(path (cg r) (prog o)).foldl (j7 fF) []=L->∀p∈L,p∈path (cg r) (prog o):=by
   intro L hL p hp;rw[<-hL,GU]at hp;rcases hp with h | h
   .simp at h
   .exact h
  have hsame:∀p,p∈path (cg r) (prog o)->val (fy r o) p=cg r p:=hrd;rcases pl with⟨k,hp⟩ | ⟨k,hz,hp⟩ | ⟨k,hz,hp⟩ | ⟨k,hp⟩
  .have m:=hmem _ hp;have Ad:∀c,jh r o c=r:=fun c=>UB c (by omega);rw[Ad];refine⟨?_,hr⟩;have hE:dI o (fy r o)=[same (fy r o) 0,same (fy r o) 1,same (fy r o) 2,same (fy r o) 3]:=by unfold dI;rw[af eK,ak k]
   rw[hE];refine⟨by simp[lO,same],fun e he=>?_,fun p _ _=>rfl⟩;simp only[bk,dc,di]at he;rcases he with rfl | rfl | rfl | rfl<;>exact⟨by simp[same],by simp[same],hsame _ (m _ (by simp)),hsame _ (m _ (by simp))⟩
  .have m:=hmem _ hp;have zw:=hsame 13 (m _ (by simp));have qF:=DA r;have Ez:r.2.1=0:=by omega
   have hres:eF o (fy r o)=(0,[],()):=by unfold eF;rw[af (by omega),af (by omega)]
   have Ad:jh r o 0=(r.1,r.2.1+1,()):=by unfold jh;rw[af (by omega),af (by omega),af (by omega),ak (.inl k),qs (by omega) (by omega)]
   rw[hres];show sZ _ (cg (jh r o 0)) _/\aS (jh r o 0);rw[Ad];refine⟨?_,⟨hl,hr.dQ,hr.once,by show 0<=r.2.1+1/\r.2.1+1<=5;omega⟩⟩;have hE:dI o (fy r o)=[(13,val (fy r o) 13,1,())]:=by unfold dI;rw[af eK,af (by omega),ak k]
   rw[hE];refine⟨List.pairwise_singleton _ _,fun e he=>?_,fun p hp hno=>?_⟩
   .simp only[bk,dc,di]at he;subst he;refine⟨by simp[same],by simp[same],zw,?_⟩;show(1:Int)=r.2.1+1;omega
   .have h1:=hno _ (d9.2 rfl);dsimp only at h1;exact(Bk hr hp (by omega) (fun _=>.inr Ez)).symm
  .have m:=hmem _ hp;have zw:=hsame 13 (m _ (by simp));have qF:=DA r;have hres:eF o (fy r o)=(0,[],()):=by unfold eF;rw[af (by omega),af (by omega)]
   have Ad:jh r o 0=(r.1,r.2.1+1,()):=by unfold jh;rw[af (by omega),af (by omega),af (by omega),ak (.inr k),qs (by omega) (by omega)]
   rw[hres];show sZ _ (cg (jh r o 0)) _/\aS (jh r o 0);rw[Ad];refine⟨?_,⟨hl,hr.dQ,hr.once,by show 0<=r.2.1+1/\r.2.1+1<=5;omega⟩⟩;have L_:val (fy r o) 13=r.2.1:=zw;have hrow:qw (wrap .i64 (val (fy r o) 13-1))=r.2.1-1:=by rw[L_,qs (by omega) (by omega)];have:=vr (r.2.1-1);omega
   have hE:dI o (fy r o)=same (fy r o) (qw (wrap .i64 (val (fy r o) 13-1)))::(13,val (fy r o) 13,wrap .i64 (val (fy r o) 13+1),())::
     (bif bw (val (fy r o) (qw (wrap .i64 (val (fy r o) 13-1)))) 1 6 then [(fR (val (fy r o) (qw (wrap .i64 (val (fy r o) 13-1)))),val (fy r o) (fR (val (fy r o) (qw (wrap .i64 (val (fy r o) 13-1))))),val (fy r o) 13,())] else []):=by
    unfold dI;rw[af eK,af (by omega),af (by omega),ak k]
   rw[hE];rw[hrow]at m⊢;have EB:=hsame (r.2.1-1) (m _ (by simp));have xB:=tK hr (k:=r.2.1-1) (by omega);rw[EB,xB.1]at m⊢;rw[L_,qs (by omega) (by omega)];have iV:r.1[(r.2.1-1).toNat]? = some (r.1.getD (r.2.1-1).toNat 0):=by rw[gz (by omega),qv (by omega)]
   have Yb:=xB.2;rw[xB.1]at Yb;generalize r.1.getD (r.2.1-1).toNat 0=v at *;have hx:j5 (r.1,r.2.1+1,()) (r.2.1-1).toNat=j5 r (r.2.1-1).toNat:=Bk hr (by omega) (by omega) (fun q=>by omega);by_cases hv1:1<=v
   .have hin:bw v 1 6=true:=lq.2 (by omega);rw[hin,bA]at m⊢;have nq:fR v=13+v:=by have:=oR v;omega
    have hkey:bf v r.1 0=r.2.1-1:=by rw[QM hr (by omega) iV];omega
    have At:=hsame (fR v) (m _ (by simp));rw[nq]at At⊢;have hnew:j5 (r.1,r.2.1+1,()) (13+v).toNat=r.2.1:=by unfold j5;rw[af (by omega),af (by omega),af (by omega),af (by omega),show(((13+v).toNat:Nat):Int)-13=v by omega];unfold lC;dsimp only;rw[hkey,ak (by omega)];omega
    refine⟨?_,fun e he=>?_,fun p hp hno=>?_⟩
    .simp only[lO,same,me,bk,dc,di,uE,uD,List.Pairwise.nil,iQ,AP,u5,B4];omega
    .simp only[bk,dc,di]at he;rcases he with rfl | rfl | rfl
     .refine⟨by show 0<=r.2.1-1;omega,by show r.2.1-1<20;omega,EB,?_⟩;show val (fy r o) (r.2.1-1)=j5 (r.1,r.2.1+1,()) (r.2.1-1).toNat
      rw[hx];exact EB
     .exact⟨by simp[same],by simp[same],by show r.2.1=cg r 13;omega,rfl⟩
     .exact⟨by show 0<=13+v;omega,by show 13+v<20;omega,At,hnew.symm⟩
    .have h1:=hno _ (cG _ e8);have h2:=hno _ (cG _ (cG _ e8));dsimp only at h1 h2;refine(Bk hr hp (by omega) (fun _=>.inl (fun q=>?_))).symm;obtain⟨_,g⟩:=MN _ r.1 0 (r.2.1-1).toNat (q.trans (by omega))
     rw[Cd,iV]at g;have:=gV g;omega
   .have hin:bw v 1 6=false:=Jj (by omega);rw[hin,bg]at m⊢;refine⟨?_,fun e he=>?_,fun p hp hno=>?_⟩
    .simp only[lO,same,me,bk,dc,di,uE,uD,List.Pairwise.nil,iQ,AP,u5,B4];omega
    .simp only[bk,dc,di]at he;rcases he with rfl | rfl
     .refine⟨by show 0<=r.2.1-1;omega,by show r.2.1-1<20;omega,EB,?_⟩;show val (fy r o) (r.2.1-1)=j5 (r.1,r.2.1+1,()) (r.2.1-1).toNat
      rw[hx];exact EB
     .exact⟨by simp[same],by simp[same],by show r.2.1=cg r 13;omega,rfl⟩
    .have h1:=hno _ (cG _ e8);dsimp only at h1;refine(Bk hr hp (by omega) (fun _=>.inl (fun q=>?_))).symm;obtain⟨_,g⟩:=MN _ r.1 0 (r.2.1-1).toNat (q.trans (by omega))
     rw[Cd,iV]at g;have:=gV g;omega
  .have m:=hmem _ hp;have Ad:∀c,jh r o c=r:=fun c=>UB c (by omega);rw[Ad];refine⟨?_,hr⟩;have hE:dI o (fy r o)=[same (fy r o) 13,same (fy r o) (fR o.2.2.1)]:=by unfold dI;rw[af eK,af (by omega),af (by omega),af (by omega),ak k]
   have hv:fR o.2.2.1=13+o.2.2.1:=by have:=oR o.2.2.1;omega
   rw[hE];rw[hv]at m⊢;refine⟨by simp[lO,same];omega,fun e he=>?_,fun p _ _=>rfl⟩;simp only[bk,dc,di]at he;rcases he with rfl | rfl
   .exact⟨by simp[same],by simp[same],hsame _ (m _ (by simp)),hsame _ (m _ (by simp))⟩
   .exact⟨by show 0<=13+o.2.2.1;omega,by show 13+o.2.2.1<20;omega,hsame _ (m _ (by simp)),hsame _ (m _ (by simp))⟩
end Go.G

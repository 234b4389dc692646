/- FnSkips holds: what is put into a drawn list with lanes is in it, what is taken is not; all else is as it was. No condition beyond the given statement's. -/
import Derived.Test.YtcaghlpjdpeelaaAPFnSkips0
set_option maxRecDepth 100000
set_option linter.unusedVariables false
set_option linter.unusedSimpArgs false
set_option linter.unusedSectionVars false
open Go.IntKind (wrap)
namespace Go.G
open Go Go.V
theorem aF{R:Type}{a b:Option R}:br true a b=a:=rfl
theorem bW{R:Type}{a b:Option R}:br false a b=b:=rfl
theorem qf{R:Type}{a b:Option R}{p:Prop}[Decidable p](h:p):br (decide p) a b=a:=by simp[br,h]
theorem qg{R:Type}{a b:Option R}{p:Prop}[Decidable p](h:¬ p):br (decide p) a b=b:=by simp[br,h]
theorem qc{α R:Type}{a:α}{f:α->Option R}:qd (some a) f=f a:=rfl
theorem sw{R:Type}{c:Bool}{a b:Option R}:br c a b=if c=true then a else b:=by cases c<;>rfl
theorem I1(x:Int):wrap .i64 x=if x % 18446744073709551616>=9223372036854775808 then x % 18446744073709551616-18446744073709551616 else x % 18446744073709551616:=by by_cases h:x % 18446744073709551616>=9223372036854775808<;>simp[IntKind.wrap,IntKind.signed,IntKind.bits,h]
theorem qs{x:Int}(h1 : -9223372036854775808<=x)(h2:x<=9223372036854775807):wrap .i64 x=x:=by rw[I1];split<;>omega
def W:Nat:=9223372036854775808
theorem gS:W=9223372036854775808:=rfl
theorem yh:maxLen=9223372036854775807:=rfl
theorem nM:gj=274877906944:=rfl
theorem ix{α:Type}{l:List α}{i:Nat}(h:i<l.length):(decide (0<=(i:Int))&&decide ((i:Int)<(l.length:Int)))=true:=by simp only[aO,fu];omega
theorem gy{α:Type}{l:List α}{i:Int}(h0:0<=i)(h:i<l.length):(decide (0<=i)&&decide (i<(l.length:Int)))=true:=by simp only[aO,fu];omega
theorem qu{i:Nat}(h:i<9223372036854775807):wrap .i64 ((i:Int)+1)=((i+1:Nat):Int):=by rw[qs]<;>omega
theorem qv{α:Type}{l:List α}{i:Nat}{d:α}(h:i<l.length):l.getD i d=l[i]:=by simp[List.getD,h]
theorem oq{α:Type}{l:List α}{i:Nat}(h:i<l.length):l.drop i=l[i]::l.drop (i+1):=C2 h
theorem rH{α:Type}{l:List α}{i:Nat}(h:¬ i<l.length):l.drop i=[]:=lH (by omega)
def tot:(t:Ty)->t.den->Nat
 | .unit,_=>0
 | .int _,_=>0
 | .bool,_=>0
 | .str,s=>s.size
 | .sl t,xs=>xs.length+(xs.map (tot t)).sum
 | .pair a b,x=>tot a x.1+tot b x.2
def left(t:Ty)(a:t.den)(k:Int):Int:=if (tot t a:Int)<=k then k-tot t a else -1
theorem DP{a b:ByteArray}:List.beq a.toList b.toList=decide (a=b):=by
 have h1:List.beq a.toList b.toList=decide (a.toList=b.toList):=by
  have:(a.toList == b.toList)=decide (a.toList=b.toList):=by by_cases h:a.toList=b.toList<;>simp[h]
  exact this
 rw[h1];by_cases h:a=b
 .simp[h]
 .have:a.toList≠b.toList:=fun e=>h (by
   have h2:a.data.toList=b.data.toList:=by have:=e;simpa [ByteArray.toList_eq] using this
   cases a;cases b;simp only[ByteArray.mk.injEq];exact xY.1 h2)
  simp[h,this]
theorem Rd{a:Nat}(h:a<=gj):(decide (0<=(a:Int))&&decide ((a:Int)<=(a:Int))&&decide ((a:Int)<=((gj:Nat):Int)))=true:=by simp only[aO,fu];omega
theorem Vg{α:Type}{l:List α}{i:Nat}{x d:α}(h:i<l.length):(l.set i x).getD i d=x:=by simp[List.getD,h]
abbrev l7:=ByteArray×List Int×Unit
abbrev ah:=List Int×List l7×Unit
def iK(b:Nat)(a:ah):Prop:=a.1.length<=b/\a.2.1.length<=b/\∀x∈a.2.1,x.2.1.length<=b
theorem iK.mono{b c:Nat}{a:ah}(h:iK b a)(hb:b<=c):iK c a:=⟨by have:=h.1;omega,by have:=h.2.1;omega,fun x hx=>by have:=h.2.2 x hx;omega⟩
theorem DT:∀(x y:List UInt8),Op.bytesLess x y=decide (x<y)
 | [],[]=>by simp[Op.bytesLess]
 | _::_,[]=>by simp[Op.bytesLess]
 | [],_::_=>by simp[Op.bytesLess]
 | a::x,b::y=>by
  rw[Op.bytesLess,DT x y];simp only[List.cons_lt_cons_iff];by_cases h1:a<b<;>by_cases h2:a=b<;>by_cases h3:x<y<;>simp[h1,h2,h3]
def eJ(a b:ByteArray):Prop:=Op.bytesLess a.toList b.toList=true
theorem tG(a:ByteArray):¬ eJ a a:=by unfold eJ;rw[DT];simp[List.lt_irrefl]
theorem yl{a b c:ByteArray}(h:eJ a b)(k:eJ b c):eJ a c:=by unfold eJ at *;rw[DT] at *;simp only[fu] at *;exact List.lt_trans h k
theorem VP{a b:ByteArray}(h:a.toList=b.toList):a=b:=by
 have h2:a.data.toList=b.data.toList:=by simpa [ByteArray.toList_eq] using h
 cases a;cases b;simp only[ByteArray.mk.injEq];exact xY.1 h2
theorem VF(a b:ByteArray):eJ a b\/a=b\/eJ b a:=by
 unfold eJ;rw[DT,DT];simp only[fu];by_cases h1:a.toList<b.toList
 .exact .inl h1
 .by_cases h2:b.toList<a.toList
  .exact .inr (.inr h2)
  .exact .inr (.inl (VP (List.le_antisymm (List.not_lt.1 h2) (List.not_lt.1 h1))))
theorem VV{a b:ByteArray}(h:eJ a b):¬ eJ b a:=fun k=>tG a (yl h k)
theorem Wa{a b:ByteArray}(h:eJ a b):Op.bytesLess a.toList b.toList=true:=h
theorem FA{a b:ByteArray}(h:¬ eJ a b):Op.bytesLess a.toList b.toList=false:=by simpa [eJ] using h
def hstep(x:Int)(b:UInt8):Int:=Int.tmod (wrap .i64 (wrap .i64 (31 * x)+wrap .i64 (b.toNat:Int))) 16
def hval(s:ByteArray):Int:=s.data.toList.foldl hstep 7
def qi(s:ByteArray):Nat:=if hval s % 8=0 then 4 else if hval s % 4=0 then 3 else if hval s % 2=0 then 2 else 1
theorem VB{x:Int}{b:UInt8}(h:0<=x/\x<16):0<=hstep x b/\hstep x b<16:=by unfold hstep;have hb:b.toNat<256:=b.toNat_lt;rw[qs (x:=31 * x) (by omega) (by omega),qs (x:=(b.toNat:Int)) (by omega) (by omega),qs (by omega) (by omega),lD (by omega)];omega
theorem Qa:∀(l:List UInt8)(x:Int),0<=x/\x<16->0<=l.foldl hstep x/\l.foldl hstep x<16
 | [],_,h=>h
 | b::l,x,h=>Qa l _ (VB h)
theorem Qf(s:ByteArray):0<=hval s/\hval s<16:=Qa _ _ (by omega)
theorem qn(s:ByteArray):1<=qi s/\qi s<=4:=by
 unfold qi;split
 .omega
 .split
  .omega
  .split<;>omega
theorem QF{s:ByteArray}{i:Nat}(h:i<s.size):(Array.getD s.data i (UInt8.ofNat 0))=s.data.toList[i]'(show i<s.data.toList.length from h):=by have h':i<s.data.size:=h;unfold Array.getD;rw[dif_pos h'];rfl
theorem Ro{s:ByteArray}:s.data.toList.length=s.size:=rfl
theorem PZ(D:Den ctx)(n:Nat)(K:Int->Option ((Int×Unit)×Unit)):∀(m i:Nat)(s:ByteArray)(x:Int),s.size<=maxLen->i<=s.size->s.size-i<m->
  Ds D n K m s x s.size i=K ((s.data.toList.drop i).foldl hstep x)
 | 0,_,_,_,_,_,h=>by omega
 | m+1,i,s,x,hm,hi,hf=>by
  simp only[Ds,Lx];have hd:=yh;by_cases h:i<s.size
  .have hl:i<s.data.toList.length:=h;have hc:(decide (0<=(i:Int))&&decide ((i:Int)<(s.size:Int)))=true:=by simp only[aO,fu];omega
   rw[qf (by exact_mod_cast h),hc,aF,qu (i:=i) (by omega),dR,QF h,oq hl,n9];exact PZ D n K m (i+1) s _ hm (by omega) (by omega)
  .rw[qg (by exact_mod_cast h),lH (by rw[Ro];omega)];rfl
theorem Nk{X:Ext}(hX:cY X){n:Nat}(hn:W+1<=n)(s:ByteArray)(hs:s.size<=maxLen):ze (DD X n) s=some (((qi s:Int),()),()):=by
 obtain⟨n,rfl⟩:∃k,n=k+1:=⟨n-1,by omega⟩
 have hd:=yh;rw[Uv hX];simp only[LX,LB,KV];have:=PZ (DD X n) n (fun v=>K_ (DD X n) n v) n 0 s 7 hs (by omega) (by have:=gS;omega);rw[show((0:Nat):Int)=0 from rfl,iF]at this;rw[this];have hr:=Qf s;simp only[K_];show br (decide (Int.tmod (hval s) 8=0)) _ _=_;rw[lD hr.1,show List.foldl hstep 7 s.data.toList=hval s from rfl,lD hr.1,lD hr.1];unfold qi;simp only[sw,fu];split
 .rfl
 .split
  .rfl
  .split<;>rfl
theorem P1(D:Den ctx)(n:Nat)(K:Int->Option ((Int×Unit)×Unit)):∀(m i:Nat)(s:ByteArray)(x:Int),s.size<=maxLen->i<=s.size->s.size-i<m->
  DA D n K m s x i=K ((s.data.toList.drop i).foldl hstep x)
 | 0,_,_,_,_,_,h=>by omega
 | m+1,i,s,x,hm,hi,hf=>by
  simp only[DA,LL];have hd:=yh;by_cases h:i<s.size
  .have hl:i<s.data.toList.length:=h;have hc:(decide (0<=(i:Int))&&decide ((i:Int)<(s.size:Int)))=true:=by simp only[aO,fu];omega
   rw[qf (by exact_mod_cast h),hc,aF,qu (i:=i) (by omega),dR,QF h,oq hl,n9];exact P1 D n K m (i+1) s _ hm (by omega) (by omega)
  .rw[qg (by exact_mod_cast h),lH (by rw[Ro];omega)];rfl
theorem zp{X:Ext}(hX:cY X){n:Nat}(hn:W+1<=n)(s:ByteArray)(hs:s.size<=maxLen):zf (DD X n) s=some (((qi s:Int),()),()):=by
 obtain⟨n,rfl⟩:∃k,n=k+1:=⟨n-1,by omega⟩
 have hd:=yh;rw[Uz hX];simp only[LA,Mi,K4];have:=P1 (DD X n) n (fun v=>Lb (DD X n) n v) n 0 s 7 hs (by omega) (by have:=gS;omega);rw[show((0:Nat):Int)=0 from rfl,iF]at this;rw[this];have hr:=Qf s;simp only[Lb];rw[show List.foldl hstep 7 s.data.toList=hval s from rfl,lD hr.1,lD hr.1];unfold qi;simp only[sw,fu];by_cases h1:hval s=0\/hval s=8
 .rw[aE,aE]
  .rfl
  .omega
  .rcases h1 with h1 | h1<;>simp[h1]
 .rw[ax,ax (c:=hval s % 8=0)]
  .split
   .rfl
   .split<;>rfl
  .omega
  .simp only[jw]at h1;simp[h1.1,h1.2]
open Classical
theorem Qr:∀(N:Nat)(l:List Int),l.Nodup->(∀x∈l,0<=x/\x<N)->l.length<=N
 | 0,l,_,h=>by
  cases l with
  | nil=>simp
  | cons x l=>have:=h x (ef ..);omega
 | N+1,l,hn,h=>by
  have h1:=Qr N (l.erase (N:Int)) (hn.erase _) (fun x hx=>by
   have hm:=xg hx;have hne:x≠(N:Int):=fun e=>by subst e;exact(hn.not_mem_erase hx).elim
   have:=h x hm;omega)
  by_cases hm:(N:Int)∈l
  .rw[CA hm]at h1;omega
  .rw[C3 hm]at h1;omega
abbrev dl:l7:=(ByteArray.empty,[],())
def qh(s:ah)(p:Int):l7:=s.2.1.getD p.toNat dl
def lY(out:List Int):Int:=out.getD (out.length-1) 0
def bad(s:ah)(lane:Nat)(p:Int)(out:List Int):Prop:=
 ¬ (0<=p/\p<s.2.1.length)\/(qh s p).2.1.length<=lane\/(0<out.length/\¬ eJ (qh s (lY out)).1 (qh s p).1)
theorem uK{s:ah}{lane:Nat}{p:Int}{out:List Int}:¬ bad s lane p out↔(0<=p/\p<s.2.1.length)/\lane<(qh s p).2.1.length/\(0<out.length->eJ (qh s (lY out)).1 (qh s p).1):=by
 unfold bad;constructor
 .intro h;refine⟨qQ fun h1=>h (.inl h1),?_,fun h1=>qQ fun h2=>h (.inr (.inr ⟨h1,h2⟩))⟩;exact Nat.lt_of_not_le fun h1=>h (.inr (.inl h1))
 .rintro⟨h1,h2,h3⟩ (h | h | ⟨h,k⟩)
  .exact h h1
  .omega
  .exact k (h3 h)
noncomputable def iL(s:ah)(lane:Nat):Nat->Int->List Int->Option (List Int)
 | 0,_,_=>none
 | f+1,p,out=>if p = -1 then some out else if bad s lane p out then none else iL s lane f ((qh s p).2.1.getD lane 0) (out++[p])
structure iH (s:ah) (out:List Int):Prop where
 e7:∀x∈out,0<=x/\x<s.2.1.length
 pw:out.Pairwise fun a b=>eJ (qh s a).1 (qh s b).1
theorem iH.nil(s:ah):iH s []:=⟨fun x h=>by simp at h,List.Pairwise.nil⟩
theorem NL{out:List Int}(h:0<out.length):lY out∈out:=by unfold lY;rw[qv (by omega)];exact fy _
theorem iH.last{s:ah}{out:List Int}(h:iH s out)(hp:0<out.length):∀x∈out,x=lY out\/eJ (qh s x).1 (qh s (lY out)).1:=by
 intro x hx;obtain⟨i,hi,rfl⟩:=jg.1 hx;by_cases e:i=out.length-1
 .left;unfold lY;rw[qv (by omega)];simp only[e]
 .right;unfold lY;rw[qv (by omega)];exact wZ.1 h.pw i (out.length-1) hi (by omega) (by omega)
theorem iH.snoc{s:ah}{lane:Nat}{out:List Int}{p:Int}(h:iH s out)(hb:¬ bad s lane p out):iH s (out++[p]):=by
 obtain⟨b1,b2,b3⟩:=uK.1 hb;refine⟨fun x hx=>?_,qR.2 ⟨h.pw,by simp,fun a ha b Ol=>?_⟩⟩
 .rcases dw.1 hx with hx | hx
  .exact h.e7 x hx
  .simp only[gk]at hx;subst hx;exact b1
 .simp only[gk]at Ol;subst Ol;have hp:0<out.length:=by cases out with | nil=>simp at ha | cons=>simp
  rcases h.last hp a ha with rfl | h1
  .exact b3 hp
  .exact yl h1 (b3 hp)
theorem iH.nodup{s:ah}{out:List Int}(h:iH s out):out.Nodup:=
 List.Pairwise.imp (fun hab e=>by subst e;exact tG _ hab) h.pw
theorem iH.len{s:ah}{out:List Int}(h:iH s out):out.length<=s.2.1.length:=Qr _ _ h.nodup h.e7
theorem Qx{s:ah}{lane:Nat}:∀(f:Nat){p:Int}{out l:List Int},iH s out->iL s lane f p out=some l->iH s l
 | 0,_,_,_,_,h=>by simp[iL]at h
 | f+1,p,out,l,hi,h=>by
  simp only[iL]at h;split at h
  .simp only[ay]at h;subst h;exact hi
  .split at h
   .simp at h
   .rename_i hb;exact Qx f (hi.snoc hb) h
theorem Ns{s:ah}{lane:Nat}:∀(f g:Nat){p:Int}{out:List Int},iH s out->s.2.1.length-out.length<f->s.2.1.length-out.length<g->iL s lane f p out=iL s lane g p out
 | 0,_,_,_,_,h,_=>by omega
 | _,0,_,_,_,_,h=>by omega
 | f+1,g+1,p,out,hi,hf,hg=>by
  simp only[iL];split
  .rfl
  .split
   .rfl
   .rename_i hb;have h1:=(hi.snoc hb).len;simp only[cS,mO]at h1;exact Ns f g (hi.snoc hb) (by simp;omega) (by simp;omega)
noncomputable def lane(s:ah)(j:Nat):Option (List Int):=iL s j (s.2.1.length+1) (s.1.getD j 0) []
theorem S9{X:Ext}(hX:cY X){n:Nat}(hn:1<=n)(a b c:Int):Jq (DD X n) a b c=some ((decide (b<=a/\a<=c),()),()):=by
 obtain⟨n,rfl⟩:∃k,n=k+1:=⟨n-1,by omega⟩
 rw[H8 hX];simp only[xl,Bf];by_cases h1:a>=b<;>by_cases h2:a<=c<;>simp[h1,h2]
theorem UB{X:Ext}(hX:cY X){n:Nat}(hn:1<=n)(a b c:Int):JD (DD X n) a b c=some ((decide (b<=a/\a<=c),()),()):=by
 obtain⟨n,rfl⟩:∃k,n=k+1:=⟨n-1,by omega⟩
 rw[H9 hX];simp only[xk,Bc];by_cases h1:a>=b<;>by_cases h2:a<=c<;>simp[h1,h2]
theorem QX{out:List Int}(h:0<out.length):List.getD out (Int.toNat ((out.length:Int)-1)) 0=lY out:=by unfold lY;congr 1;omega
theorem Nw{X:Ext}(hX:cY X)(N n:Nat)(hN:1<=N){K0:Bool->List Int->Option ((List Int×Bool×Unit)×Unit)}{K1:List Int->Option ((List Int×Bool×Unit)×Unit)}{R0:Option ((List Int×Bool×Unit)×Unit)}(hK:∀x,K0 false x=R0)
  (s:ah) (hs:s.2.1.length<=1048576) (j:Nat):∀(m:Nat)(p:Int)(out:List Int),iH s out->s.2.1.length-out.length<m->
  DE (DD X N) n K0 K1 m j p s out=match iL s j m p out with | some l=>K1 l | none=>R0
 | 0,_,_,_,h=>by omega
 | m+1,p,out,hi,hf=>by
  simp only[DE,MR,iL];have hb':=nM;by_cases h0:p = -1
  .subst h0;rfl
  .have e0:(p != -1)=true:=by simp[h0]
   rw[e0,aF,S9 hX hN,qc,ax h0,qs (x:=(s.2.1.length:Int)-1) (by omega) (by omega)];dsimp only;by_cases h1:0<=p/\p<=(s.2.1.length:Int)-1
   .have hlt:p<s.2.1.length:=by omega
    rw[bJ h1,cT,bW,gy h1.1 hlt,aF];by_cases h2:(qh s p).2.1.length<=j
    .rw[aE (.inr (.inl h2)),qf (by exact_mod_cast h2),hK]
    .have kN:j<(qh s p).2.1.length:=by omega
     have ej:(decide (0<=(j:Int))&&decide ((j:Int)<((List.getD s.2.1 (Int.toNat p) (ByteArray.empty,[],())).2.1.length:Int)))=true:=ix kN;rw[qg (by show ¬ ((j:Int)>=((qh s p).2.1.length:Int));omega)];have Su:=hi.len;by_cases h3:0<out.length
     .have Ai:=hi.e7 _ (NL h3);rw[qf (by omega),qs (x:=(out.length:Int)-1) (by omega) (by omega),gy (by omega) (by omega),aF,QX h3,gy Ai.1 Ai.2,aF,aF];by_cases h4:eJ (qh s (lY out)).1 (qh s p).1
      .have hnb:¬ bad s j p out:=uK.2 ⟨⟨h1.1,hlt⟩,kN,fun _=>h4⟩;have e4:Op.bytesLess (List.getD s.2.1 (Int.toNat (lY out)) (ByteArray.empty,[],())).1.toList (List.getD s.2.1 (Int.toNat p) (ByteArray.empty,[],())).1.toList=true:=h4;have eH:=(hi.snoc hnb).len;simp only[cS,mO]at eH;rw[ax hnb,e4,cT,bW,qf (by omega),aF,ej,aF,dR];exact Nw hX N n hN hK s hs j m _ _ (hi.snoc hnb) (by simp;omega)
      .have e4:Op.bytesLess (List.getD s.2.1 (Int.toNat (lY out)) (ByteArray.empty,[],())).1.toList (List.getD s.2.1 (Int.toNat p) (ByteArray.empty,[],())).1.toList=false:=FA h4;rw[aE (.inr (.inr ⟨h3,h4⟩)),e4,fY,aF,hK]
     .have hnb:¬ bad s j p out:=uK.2 ⟨⟨h1.1,hlt⟩,kN,fun h=>absurd h h3⟩;have eH:=(hi.snoc hnb).len;simp only[cS,mO]at eH;rw[ax hnb,qg (by omega),qf (by omega),aF,ej,aF,dR];exact Nw hX N n hN hK s hs j m _ _ (hi.snoc hnb) (by simp;omega)
   .rw[c6 h1,fY,aF,hK,aE (.inl (by omega))]
theorem QS{X:Ext}(hX:cY X){n:Nat}(hn:W+1<=n)(s:ah)(hs:s.2.1.length<=1048576)(j:Nat)(hj:j<s.1.length) :
  Fi (DD X n) s j=some (((lane s j).getD [],(lane s j).isSome,()),()):=by
 obtain⟨n,rfl⟩:∃k,n=k+1:=⟨n-1,by omega⟩
 have hd:=gS;rw[Vt hX];simp only[MV,Nb,Mc];rw[ix hj,aF,dR,Nw hX n n (by omega) (R0:=some (([],false,()),())) (fun x=>rfl) s hs j n _ [] (iH.nil s) (by omega)];rw[Ns n (s.2.1.length+1) (iH.nil s) (by omega) (by omega)];unfold lane;cases iL s j (s.2.1.length+1) (s.1.getD j 0) []<;>rfl
theorem Nq{X:Ext}(hX:cY X)(N n:Nat)(hN:1<=N){K0:Bool->List Int->List Int->Option ((List Int×Bool×Unit)×Unit)}{K1:List Int->Option ((List Int×Bool×Unit)×Unit)}{R0:Option ((List Int×Bool×Unit)×Unit)}(hK:∀x,K0 false [] x=R0)
  (s:ah) (hs:s.2.1.length<=1048576) (j:Nat):∀(m:Nat)(p:Int)(out:List Int),iH s out->s.2.1.length-out.length<m->
  Dm (DD X N) n K0 K1 m j p s out=match iL s j m p out with | some l=>K1 l | none=>R0
 | 0,_,_,_,h=>by omega
 | m+1,p,out,hi,hf=>by
  simp only[Dm,L2,iL];have hb':=nM;have Su:=hi.len;by_cases h0:p = -1
  .subst h0;rfl
  .have e0:(p != -1)=true:=by simp[h0]
   rw[e0,aF,UB hX hN,qc,ax h0,qs (x:=(s.2.1.length:Int)-1) (by omega) (by omega)];dsimp only;by_cases h1:0<=p/\p<=(s.2.1.length:Int)-1
   .have hlt:p<s.2.1.length:=by omega
    rw[bJ h1,cT,jI];by_cases hfull:out.length=s.2.1.length
    .rw[qf (by omega),hK,aE];refine qQ fun hnb=>?_;have eH:=(hi.snoc hnb).len;simp only[cS,mO]at eH;omega
    .rw[qg (by omega),gy h1.1 hlt,aF];by_cases h2:(qh s p).2.1.length<=j
     .rw[aE (.inr (.inl h2)),qf (by exact_mod_cast h2),hK]
     .have kN:j<(qh s p).2.1.length:=by omega
      have ej:(decide (0<=(j:Int))&&decide ((j:Int)<((List.getD s.2.1 (Int.toNat p) (ByteArray.empty,[],())).2.1.length:Int)))=true:=ix kN;rw[qg (by show ¬ (((qh s p).2.1.length:Int)<=(j:Int));omega)];by_cases h3:0<out.length
      .have Ai:=hi.e7 _ (NL h3);rw[qf (by omega),qs (x:=(out.length:Int)-1) (by omega) (by omega),gy (by omega) (by omega),aF,QX h3,gy Ai.1 Ai.2,aF,aF];by_cases h4:eJ (qh s (lY out)).1 (qh s p).1
       .have hnb:¬ bad s j p out:=uK.2 ⟨⟨h1.1,hlt⟩,kN,fun _=>h4⟩;have e4:Op.bytesLess (List.getD s.2.1 (Int.toNat (lY out)) (ByteArray.empty,[],())).1.toList (List.getD s.2.1 (Int.toNat p) (ByteArray.empty,[],())).1.toList=true:=h4;have eH:=(hi.snoc hnb).len;simp only[cS,mO]at eH;rw[ax hnb,e4,cT,bW,qf (by omega),aF,ej,aF,dR];exact Nq hX N n hN hK s hs j m _ _ (hi.snoc hnb) (by simp;omega)
       .have e4:Op.bytesLess (List.getD s.2.1 (Int.toNat (lY out)) (ByteArray.empty,[],())).1.toList (List.getD s.2.1 (Int.toNat p) (ByteArray.empty,[],())).1.toList=false:=FA h4;rw[aE (.inr (.inr ⟨h3,h4⟩)),e4,fY,aF,hK]
      .have hnb:¬ bad s j p out:=uK.2 ⟨⟨h1.1,hlt⟩,kN,fun h=>absurd h h3⟩;have eH:=(hi.snoc hnb).len;simp only[cS,mO]at eH;rw[ax hnb,qg (by omega),qf (by omega),aF,ej,aF,dR];exact Nq hX N n hN hK s hs j m _ _ (hi.snoc hnb) (by simp;omega)
   .rw[c6 h1,fY,ru,aF,hK,aE (.inl (by omega))]
theorem Nu{X:Ext}(hX:cY X){n:Nat}(hn:W+1<=n)(s:ah)(hs:s.2.1.length<=1048576)(j:Nat)(hj:j<s.1.length) :
  Dq (DD X n) s j=some (((lane s j).getD [],(lane s j).isSome,()),()):=by
 obtain⟨n,rfl⟩:∃k,n=k+1:=⟨n-1,by omega⟩
 have hd:=gS;rw[U4 hX];simp only[MF,M3,LW];rw[ix hj,aF,dR,Nq hX n n (by omega) (R0:=some (([],false,()),())) (fun x=>rfl) s hs j n _ [] (iH.nil s) (by omega)];rw[Ns n (s.2.1.length+1) (iH.nil s) (by omega) (by omega)];unfold lane;cases iL s j (s.2.1.length+1) (s.1.getD j 0) []<;>rfl
theorem V7{s:ah}{j:Nat}{l:List Int}(h:lane s j=some l):iH s l:=Qx _ (iH.nil s) h
theorem Qi{s:ah}{j:Nat}:∀(f:Nat){p:Int}{out l:List Int},(∀x∈out,j<(qh s x).2.1.length)->iL s j f p out=some l->∀x∈l,j<(qh s x).2.1.length
 | 0,_,_,_,_,h=>by simp[iL]at h
 | f+1,p,out,l,hi,h=>by
  simp only[iL]at h;split at h
  .simp only[ay]at h;subst h;exact hi
  .split at h
   .simp at h
   .rename_i hb;refine Qi f (fun x hx=>?_) h;rcases dw.1 hx with hx | hx
    .exact hi x hx
    .simp only[gk]at hx;subst hx;exact(uK.1 hb).2.1
theorem VG{s:ah}{j:Nat}{l:List Int}(h:lane s j=some l):∀x∈l,j<(qh s x).2.1.length:=Qi _ (fun x hx=>by simp at hx) h
theorem NR{a b:Nat}(h:a≠b):((a:Int) != (b:Int))=true:=by rw[bne_iff_ne];omega
theorem NI{a b:Nat}(h:a=b):((a:Int) != (b:Int))=false:=by rw[bne_eq_false_iff_eq];omega
abbrev OB:=Option ((Bool×Unit)×Unit)
noncomputable def L(s:ah)(j:Nat):List Int:=(lane s j).getD []
theorem ql(s:ah)(j:Nat):iH s (L s j):=by
 unfold L;cases h:lane s j with
 | none=>exact iH.nil s
 | some l=>exact V7 h
theorem rD(s:ah)(j:Nat):∀x∈L s j,j<(qh s x).2.1.length:=by
 unfold L;cases h:lane s j with
 | none=>intro x hx;simp at hx
 | some l=>exact VG h
noncomputable def cl(s:ah):Nat->Int->Nat
 | 0,_=>0
 | j+1,k=>cl s j k+if k∈L s j then 1 else 0
theorem Rk(s:ah):∀(j:Nat)(k:Int),cl s j k<=j
 | 0,_=>bN _
 | j+1,k=>by have:=Rk s j k;simp only[cl];split<;>omega
def kK(t:List Int)(l:List Int):List Int:=l.foldl (fun t p=>t.set p.toNat (t.getD p.toNat 0+1)) t
theorem QN:∀(l t:List Int),(kK t l).length=t.length
 | [],t=>rfl
 | p::l,t=>by
  show(kK (t.set p.toNat (t.getD p.toNat 0+1)) l).length=_;rw[QN l];simp
theorem yj{α:Type}{l:List α}{i j:Nat}{x d:α}(h:i<l.length):(l.set i x).getD j d=if j=i then x else l.getD j d:=by
 simp only[List.getD,jF];by_cases e:i=j
 .subst e;simp[h]
 .have:¬ j=i:=fun h=>e h.symm;simp[e,this]
theorem QM:∀(l t:List Int),l.Nodup->(∀p∈l,0<=p/\p<t.length)->∀k:Nat,(kK t l).getD k 0=t.getD k 0+if (k:Int)∈l then 1 else 0
 | [],t,_,_,k=>by simp[kK]
 | p::l,t,hn,hr,k=>by
  have hp:=hr p (ef ..);have hn':=sk.1 hn;show(kK (t.set p.toNat (t.getD p.toNat 0+1)) l).getD k 0=_;rw[QM l _ hn'.2 (fun q hq=>by have:=hr q (d_ _ hq);simpa using this) k,yj (by omega)];by_cases e:k=p.toNat
  .have e2:(k:Int)=p:=by omega
   rw[aE e,e2,ax hn'.1,aE (ef ..),e];omega
  .have e2:¬ (k:Int)=p:=by omega
   rw[ax e];simp[e2]
theorem Rc(D:Den ctx)(n:Nat)(K0:Int->ah->List Int->OB)(j:Int)(s:ah)(l:List Int):∀(m i:Nat)(t:List Int)(c:Int),l.length<=1048576->i<=l.length->l.length-i<m->(∀p∈l,0<=p/\p<t.length)->
  (∀k,0<=t.getD k 0/\t.getD k 0<=c)->0<=c->c+(l.length-i)<=1152921504606846976->
  DB D n K0 m j l.length i s t l=K0 j s (kK t (l.drop i))
 | 0,_,_,_,_,_,h,_,_,_,_=>by omega
 | m+1,i,t,c,hl,hi,hf,hr,hc,h0,hb=>by
  simp only[DB,ML];by_cases h:i<l.length
  .have hp:=hr _ (fy h);have hv:=hc (l[i].toNat);rw[qf (by exact_mod_cast h),ix h,aF,dR,qv h,gy hp.1 hp.2,aF,aF,qu (by omega),qs (x:=t.getD l[i].toNat 0+1) (by omega) (by omega)];have e:=Rc D n K0 j s l m (i+1) (t.set l[i].toNat (t.getD l[i].toNat 0+1)) (c+1) hl (by omega) (by omega) (by simpa using hr) (fun k=>by
    rw[yj (by omega)];have:=hc k;split<;>omega) (by omega) (by omega)
   refine hJ e ?_;rw[oq h];rfl
  .rw[qg (by exact_mod_cast h),rH h];rfl
theorem QK{X:Ext}(hX:cY X)(n:Nat)(hn:W+1<=n){K0:Bool->ah->List Int->OB}{K1:ah->List Int->OB}{R0:OB}(hK:∀a b,K0 false a b=R0)(s:ah)(hs:s.2.1.length<=1048576)(h4:s.1.length=4) :
  ∀(d j m:Nat)(t:List Int),j+d=4->d<m->t.length=s.2.1.length->(∀k:Nat,k<s.2.1.length->t.getD k 0=((cl s j k:Nat):Int))->
  (∃t4:List Int,t4.length=s.2.1.length/\(∀k:Nat,k<s.2.1.length->t4.getD k 0=((cl s 4 k:Nat):Int))/\(∀i,j<=i->i<4->(lane s i).isSome)/\
   qp (DD X n) n K0 K1 m j s t=K1 s t4)\/((∃i,j<=i/\i<4/\lane s i=none)/\qp (DD X n) n K0 K1 m j s t=R0)
 | d,j,0,_,_,h,_,_=>by omega
 | 0,j,m+1,t,hj,_,q_,ht=>by
  left;have e4:j=4:=by omega
  subst e4;refine⟨t,q_,ht,fun i h1 h2=>by omega,?_⟩;simp only[qp,E9];rw[qg (by omega)]
 | d+1,j,m+1,t,hj,hm,q_,ht=>by
  have e0:qp (DD X n) n K0 K1 (m+1) j s t=(if (lane s j).isSome then qp (DD X n) n K0 K1 m (j+1:Nat) s (kK t (L s j)) else R0):=by
   simp only[qp,E9];have hi:=ql s j;have hl:=hi.len;have hd:=gS;rw[qf (by omega),QS hX hn s hs j (by omega),qc];dsimp only;cases hls:(lane s j).isSome with
   | false=>rw[fY,aF,hK];simp
   | true=>
    rw[cT,bW,aE rfl];show EU (DD X n) n _ _ _ j (L s j).length 0 s t (L s j)=_;simp only[EU];have:=Rc (DD X n) n (fun cw dQ eS=>Li (DD X n) n (qp (DD X n) n K0 K1 m) K0 K1 cw dQ eS) j s (L s j) n 0 t 4 (by omega) (by omega) (by omega) (by rw[q_];exact hi.e7) (fun k=>by
     by_cases hk:k<s.2.1.length
     .rw[ht k hk];have:=Rk s j k;omega
     .have:t.getD k 0=0:=by simp[List.getD,iD (by omega:t.length<=k)]
      rw[this];omega) (by omega) (by omega)
    rw[show((0:Nat):Int)=0 from rfl]at this;rw[this,iF];simp only[Li];rw[qu (by omega)]
  rw[e0];cases hls:lane s j with
  | none=>right;exact⟨⟨j,by omega,by omega,hls⟩,by simp⟩
  | some l=>
   simp only[Option.isSome_some,aK];have hi:=ql s j;have ih:=QK hX n hn (K1:=K1) hK s hs h4 d (j+1) m (kK t (L s j)) (by omega) (by omega) (by rw[QN,q_]) (fun k hk=>by
    rw[QM _ _ hi.nodup (by rw[q_];exact hi.e7) k,ht k hk];simp only[cl]
    push_cast
    split<;>rfl)
   rcases ih with⟨t4,i1,i2,i3,i4⟩ | ⟨⟨i,i1,i2,i3⟩,i4⟩
   .left;refine⟨t4,i1,i2,fun i h1 h2=>?_,i4⟩;by_cases e:i=j
    .subst e;rw[hls];rfl
    .exact i3 i (by omega) h2
   .right;exact⟨⟨i,by omega,i2,i3⟩,i4⟩
def rE(s:ah)(k:Nat):Prop:=0<cl s 4 k->(qh s k).2.1.length=qi (qh s k).1/\cl s 4 k=(qh s k).2.1.length
theorem Q_{X:Ext}(hX:cY X)(N n:Nat)(hN:W+1<=N){K0:Bool->OB}{K1:OB}(s:ah)(hs:s.2.1.length<=1048576)(hk:∀x∈s.2.1,x.1.size<=maxLen)(t:List Int)(q_:t.length=s.2.1.length)(ht:∀k:Nat,k<s.2.1.length->t.getD k 0=((cl s 4 k:Nat):Int)) :
  ∀(m i:Nat),i<=s.2.1.length->s.2.1.length-i<m->DC (DD X N) n K0 K1 m s.2.1 s.2.1.length i t=if (∀k,i<=k->k<s.2.1.length->rE s k) then K1 else K0 false
 | 0,_,_,h=>by omega
 | m+1,i,hi,hf=>by
  simp only[DC,MM];by_cases h:i<s.2.1.length
  .have ih:=Q_ hX N n hN (K0:=K0) (K1:=K1) s hs hk t q_ ht m (i+1) (by omega) (by omega);have hx:s.2.1.getD i dl∈s.2.1:=by rw[qv h];exact fy h
   have en:qh s (i:Int)=s.2.1.getD i dl:=rfl;rw[qf (by exact_mod_cast h),ix h,aF,ix (q_ ▸ h),aF,dR,ht i h,qu (by omega),ih];have eM:(∀k,i<=k->k<s.2.1.length->rE s k)↔rE s i/\∀k,i+1<=k->k<s.2.1.length->rE s k:=
    ⟨fun h1=>⟨h1 i (by omega) h,fun k h2 h3=>h1 k (by omega) h3⟩,fun h1 k h2 h3=>by
     by_cases e:k=i
     .subst e;exact h1.1
     .exact h1.2 k (by omega) h3⟩
   by_cases hc:0<cl s 4 i
   .rw[qf (by omega),Nk hX hN _ (hk _ hx),qc];dsimp only;by_cases h1:(s.2.1.getD i dl).2.1.length=qi (s.2.1.getD i dl).1
    .have e1:(((s.2.1.getD i dl).2.1.length:Int) != (qi (s.2.1.getD i dl).1:Int))=false:=NI h1;rw[e1,bW,aF];by_cases h2:cl s 4 i=(s.2.1.getD i dl).2.1.length
     .have e2:((cl s 4 i:Int) != ((s.2.1.getD i dl).2.1.length:Int))=false:=NI h2;rw[e2,bW];have hno:rE s i:=fun _=>⟨h1,h2⟩
      by_cases h3:∀k,i+1<=k->k<s.2.1.length->rE s k
      .rw[aE h3,aE (eM.2 ⟨hno,h3⟩)]
      .rw[ax h3,ax (fun h4=>h3 (eM.1 h4).2)]
     .have e2:((cl s 4 i:Int) != ((s.2.1.getD i dl).2.1.length:Int))=true:=NR h2;rw[e2,aF,ax (fun h4=>h2 ((eM.1 h4).1 hc).2)]
    .have e1:(((s.2.1.getD i dl).2.1.length:Int) != (qi (s.2.1.getD i dl).1:Int))=true:=NR h1;rw[e1,aF,ax (fun h4=>h1 ((eM.1 h4).1 hc).1)]
   .rw[qg (by omega)];have hno:rE s i:=fun h=>absurd h hc;by_cases h3:∀k,i+1<=k->k<s.2.1.length->rE s k
    .rw[aE h3,aE (eM.2 ⟨hno,h3⟩)]
    .rw[ax h3,ax (fun h4=>h3 (eM.1 h4).2)]
  .rw[qg (by exact_mod_cast h),aE (fun k h1 h2=>by omega)]
def cK(s:ah):Prop:=s.1.length=4/\s.2.1.length<=40/\(∀j,j<4->(lane s j).isSome)/\∀k,k<s.2.1.length->rE s k
theorem yg{X:Ext}(hX:cY X){n:Nat}(hn:W+2<=n)(s:ah)(hs:s.2.1.length<=1048576)(hk:∀x∈s.2.1,x.1.size<=maxLen):qz (DD X n) s=some ((decide (cK s),()),()):=by
 obtain⟨n,rfl⟩:∃k,n=k+1:=⟨n-1,by omega⟩
 have hd:=gS;have hb:=nM;rw[Vs hX];simp only[MU,M_,L8];by_cases h4:s.1.length=4
 .have e4:((s.1.length:Int) != 4)=false:=by rw[h4];rfl
  rw[e4,jI];by_cases mb:s.2.1.length<=40
  .rw[qg (by omega),Rd (by omega),aF];rcases QK hX n (by omega) (K0:=fun cw dQ eS=>Lh (DD X n) n cw dQ eS) (K1:=fun mK mL=>EZ (DD X n) n (EV (DD X n) n) mK mL) (R0:=some ((false,()),())) (fun _ _=>rfl) s hs h4 4 0 n
     (List.replicate (Int.toNat (s.2.1.length:Int)) 0) rfl (by omega) (by simp) (fun k hk=>by simp[List.getD,cl,uk];split<;>rfl) with⟨t4,i1,i2,i3,i4⟩ | ⟨⟨i,i1,i2,i3⟩,i4⟩
   .rw[show((0:Nat):Int)=0 from rfl]at i4;rw[i4];simp only[EZ,EV];have:=Q_ hX n n (by omega) (K0:=fun cw=>Px (DD X n) n cw) (K1:=Py (DD X n) n) s hs hk t4 i1 i2 n 0 (by omega) (by omega);rw[show((0:Nat):Int)=0 from rfl]at this;rw[this];by_cases hall:∀k,0<=k->k<s.2.1.length->rE s k
    .rw[aE hall,bJ (show cK s from⟨h4,mb,fun j hj=>i3 j (by omega) hj,fun k hk=>hall k (by omega) hk⟩)];rfl
    .rw[ax hall,c6 (fun h:cK s=>hall (fun k _ hk=>h.2.2.2 k hk))];rfl
   .rw[show((0:Nat):Int)=0 from rfl]at i4;rw[i4,c6];intro h;have:=h.2.2.1 i i2;rw[i3]at this;simp at this
  .rw[qf (by omega),c6 (fun h:cK s=>mb h.2.1)]
 .have e4:((s.1.length:Int) != 4)=true:=by simp;omega
  rw[e4,ru,aF,c6 (fun h:cK s=>h4 h.1)]
end Go.G
namespace Go.G
open Go Go.V
open Classical
theorem H7{X:Ext}(hX:cY X){n:Nat}(hn:1<=n)(b:Bool):NH (DD X n) b=some (((if b=true then 1 else 0:Int),()),()):=by
 obtain⟨n,rfl⟩:∃k,n=k+1:=⟨n-1,by omega⟩
 rw[JK hX];cases b<;>rfl
theorem NK{X:Ext}(hX:cY X)(N n:Nat)(hN:1<=N)(K0:Int->Option ((Int×Unit)×Unit))(l:List Int)(x:Int)(hl:l.length<=1048576):∀(m i:Nat)(c:Int),i<=l.length->l.length-i<m->0<=c->c<=i->
  DM (DD X N) n K0 m l x c i=K0 (c+((l.drop i).count x:Nat))
 | 0,_,_,_,h,_,_=>by omega
 | m+1,i,c,hi,hf,h0,h1=>by
  simp only[DM,Nh];by_cases h:i<l.length
  .rw[qf (by exact_mod_cast h),ix h,aF,dR,qv h,H7 hX hN,qc,qu (by omega),oq h,List.count_cons];dsimp only;by_cases e:l[i]=x
   .simp only[e,sn,aK,beq_self_eq_true];rw[qs (by omega) (by omega),NK hX N n hN K0 l x hl m (i+1) _ (by omega) (by omega) (by omega) (by omega)];congr 1;push_cast;omega
   .have:(l[i] == x)=false:=by simpa using e
    simp only[e,HL,this,cL,bY];rw[qs (by omega) (by omega),NK hX N n hN K0 l x hl m (i+1) _ (by omega) (by omega) (by omega) (by omega)];congr 1;omega
  .rw[qg (by exact_mod_cast h),rH h];simp
theorem QG{X:Ext}(hX:cY X){n:Nat}(hn:W+1<=n)(l:List Int)(x:Int)(hl:l.length<=1048576):Ft (DD X n) l x=some ((((l.count x:Nat):Int),()),()):=by
 obtain⟨n,rfl⟩:∃k,n=k+1:=⟨n-1,by omega⟩
 have hd:=gS;rw[VC hX];simp only[Nj,Nn,M1];have:=NK hX n n (by omega) (fun v=>L0 (DD X n) n v) l x hl n 0 0 (by omega) (by omega) (by omega) (by omega);rw[show((0:Nat):Int)=0 from rfl]at this;rw[this,iF];simp[L0]
theorem Qo{X:Ext}(hX:cY X)(N n:Nat)(hN:W+1<=N)(K0:Bool->List Int->Int->List Int->ah->OB)(K1:List Int->Int->List Int->ah->OB)(first l:List Int)(j:Int)(s:ah)(hf:first.length<=1048576)(hl:l.length<=1048576) :
  ∀(m i:Nat),i<=l.length->l.length-i<m->DG (DD X N) n K0 K1 m first j l i s=if ∀x∈l.drop i,x∈first then K1 first j l s else K0 false first j l s
 | 0,_,_,h=>by omega
 | m+1,i,hi,hm=>by
  simp only[DG,Mv];by_cases h:i<l.length
  .rw[qf (by exact_mod_cast h),ix h,aF,dR,qv h,QG hX hN _ _ hf,qc,qu (by omega),oq h];dsimp only;by_cases e:l[i]∈first
   .have hc:=List.count_pos_iff.2 e;rw[qg (by omega),Qo hX N n hN K0 K1 first l j s hf hl m (i+1) (by omega) (by omega)];simp only[cU,forall_eq_or_imp,e,nN]
   .have hc:first.count l[i]=0:=List.count_eq_zero.2 e
    rw[hc,qf (by omega),ax];intro h2;exact e (h2 _ (ef ..))
  .rw[qg (by exact_mod_cast h),rH h,aE (by simp)]
def kJ(s:ah)(j:Nat)(l:List Int)(e:Int):Prop:=(qh s e).2.1.length=qi (qh s e).1/\(l.count e=1↔j<qi (qh s e).1)
theorem QV{X:Ext}(hX:cY X)(N n:Nat)(hN:W+1<=N)(K0:Bool->List Int->Int->ah->OB)(K1:List Int->Int->ah->OB)(first l:List Int)(j:Nat)(s:ah)(hk:∀x∈s.2.1,x.1.size<=maxLen)(hr:∀x∈first,0<=x/\x<s.2.1.length)(hf:first.length<=1048576)(hl:l.length<=1048576) :
  ∀(m i:Nat),i<=first.length->first.length-i<m->DH (DD X N) n K0 K1 m first j l i s=if ∀x∈first.drop i,kJ s j l x then K1 first j s else K0 false first j s
 | 0,_,_,h=>by omega
 | m+1,i,hi,hm=>by
  simp only[DH,Mw];by_cases h:i<first.length
  .have hp:=hr _ (fy h);have hx:qh s first[i]∈s.2.1:=by
    show s.2.1.getD first[i].toNat dl∈s.2.1
    rw[qv (by omega)];exact fy _
   rw[qf (by exact_mod_cast h),ix h,aF,dR,qv h,gy hp.1 hp.2,aF];rw[show List.getD s.2.1 (Int.toNat first[i]) (ByteArray.empty,[],())=qh s first[i] from rfl];rw[zp hX hN _ (hk _ hx),qc,aF,aF,qu (by omega),oq h];dsimp only;by_cases h1:(qh s first[i]).2.1.length=qi (qh s first[i]).1
   .rw[NI h1,bW,aF,QG hX hN _ _ hl,qc];dsimp only;by_cases h2:l.count first[i]=1↔j<qi (qh s first[i]).1
    .have e:decide (decide (((l.count first[i]:Nat):Int)=1)=decide ((j:Int)<((qi (qh s first[i]).1:Nat):Int)))=true:=by
      rw[fu];by_cases h3:j<qi (qh s first[i]).1
      .rw[bJ (by have:=h2.2 h3;omega),bJ (by omega)]
      .rw[c6 (fun h4=>h3 (h2.1 (by omega))),c6 (by omega)]
     rw[e,cT,bW,QV hX N n hN K0 K1 first l j s hk hr hf hl m (i+1) (by omega) (by omega)];have ha:kJ s j l first[i]:=⟨h1,h2⟩
     simp only[cU,forall_eq_or_imp,ha,nN]
    .have e:decide (decide (((l.count first[i]:Nat):Int)=1)=decide ((j:Int)<((qi (qh s first[i]).1:Nat):Int)))=false:=by
      rw[iB];intro h3;refine h2 ⟨fun h4=>?_,fun h4=>?_⟩
      .rw[bJ (by omega:((l.count first[i]:Nat):Int)=1)]at h3;have:=jG h3.symm;omega
      .rw[bJ (by omega:(j:Int)<((qi (qh s first[i]).1:Nat):Int))]at h3;have:=jG h3;omega
     rw[e,fY,aF,ax];intro h3;exact h2 (h3 _ (ef ..)).2
   .rw[NR h1,aF,ax];intro h3;exact h1 (h3 _ (ef ..)).1
  .rw[qg (by exact_mod_cast h),rH h,aE (by simp)]
def uN(s:ah)(j:Nat):Prop:=(lane s j).isSome/\(∀x∈L s j,x∈L s 0)/\∀e∈L s 0,kJ s j (L s j) e
theorem Qd{X:Ext}(hX:cY X)(n:Nat)(hn:W+1<=n){K0:Bool->OB}{K1:OB}(s:ah)(hs:s.2.1.length<=1048576)(hk:∀x∈s.2.1,x.1.size<=maxLen)(h4:s.1.length=4) :
  ∀(d j m:Nat)(first:List Int),j+d=4->d<m->(0<j->first=L s 0)->qm (DD X n) n K0 K1 m first j s=if ∀i,j<=i->i<4->uN s i then K1 else K0 false
 | d,j,0,_,_,h,_=>by omega
 | 0,j,m+1,first,hj,_,_=>by
  have e4:j=4:=by omega
  subst e4;simp only[qm,E_];rw[qg (by omega),aE (fun i h1 h2=>by omega)]
 | d+1,j,m+1,first,hj,hm,mh=>by
  have hd:=gS;have eM:(∀i,j<=i->i<4->uN s i)↔uN s j/\∀i,j+1<=i->i<4->uN s i:=
    ⟨fun h1=>⟨h1 j (by omega) (by omega),fun k h2 h3=>h1 k (by omega) h3⟩,fun h1 k h2 h3=>by
     by_cases e:k=j
     .subst e;exact h1.1
     .exact h1.2 k (by omega) h3⟩
  have key:xC (DD X n) n (qm (DD X n) n K0 K1 m) K0 K1 (L s 0) j (L s j) 0 s=if (∀x∈L s j,x∈L s 0)/\∀e∈L s 0,kJ s j (L s j) e then qm (DD X n) n K0 K1 m (L s 0) (j+1:Nat) s else K0 false:=by
   simp only[xC];have Af:=(ql s 0).len;have qZ:=(ql s j).len;have:=Qo hX n n hn (fun cw dQ eS je ki=>LP (DD X n) n (qm (DD X n) n K0 K1 m) K0 K1 cw dQ eS je ki) (fun mK mL qO yG=>E0 (DD X n) n (qm (DD X n) n K0 K1 m) K0 K1 (E3 (DD X n) n (qm (DD X n) n K0 K1 m) K0 K1) mK mL qO yG) (L s 0) (L s j) j s (by omega) (by omega) n 0 (by omega) (by omega);rw[show((0:Nat):Int)=0 from rfl,iF]at this;rw[this];by_cases h1:∀x∈L s j,x∈L s 0
   .rw[aE h1];simp only[E0,E3];have:=QV hX n n hn (fun cw dQ eS je=>PM (DD X n) n (qm (DD X n) n K0 K1 m) K0 K1 cw dQ eS je) (fun mK mL qO=>LR (DD X n) n (qm (DD X n) n K0 K1 m) K0 K1 mK mL qO) (L s 0) (L s j) j s hk (ql s 0).e7 (by omega) (by omega) n 0 (by omega) (by omega);rw[show((0:Nat):Int)=0 from rfl,iF]at this;rw[this];by_cases h2:∀e∈L s 0,kJ s j (L s j) e
    .rw[aE h2,aE ⟨h1,h2⟩];simp only[LR];rw[qu (by omega)]
    .rw[ax h2,ax (fun h=>h2 h.2)];rfl
   .rw[ax h1,ax (fun h=>h1 h.1)];rfl
  simp only[qm,E_];rw[qf (by omega),Nu hX hn s hs j (by omega),qc];dsimp only;have ih:=Qd hX n hn (K0:=K0) (K1:=K1) s hs hk h4 d (j+1) m (L s 0) (by omega) (by omega) (fun _=>rfl);have e1:br (decide ((j:Int)=0)) (xC (DD X n) n (qm (DD X n) n K0 K1 m) K0 K1 (L s j) j (L s j) 0 s) (xC (DD X n) n (qm (DD X n) n K0 K1 m) K0 K1 first j (L s j) 0 s) =
    xC (DD X n) n (qm (DD X n) n K0 K1 m) K0 K1 (L s 0) j (L s j) 0 s:=by
   by_cases h0:j=0
   .subst h0;rw[qf (by rfl)]
   .rw[qg (by omega),mh (by omega)]
  cases hls:(lane s j).isSome with
  | false=>rw[fY,aF,ax];intro h;have:=(eM.1 h).1.1;rw[hls]at this;simp at this
  | true=>
   rw[cT,bW];refine e1.trans ?_;rw[key,ih];by_cases h1:(∀x∈L s j,x∈L s 0)/\∀e∈L s 0,kJ s j (L s j) e
   .rw[aE h1];have hlo:uN s j:=⟨hls,h1⟩
    by_cases h2:∀i,j+1<=i->i<4->uN s i
    .rw[aE h2,aE (eM.2 ⟨hlo,h2⟩)]
    .rw[ax h2,ax (fun h=>h2 (eM.1 h).2)]
   .rw[ax h1,ax (fun h=>h1 (eM.1 h).1.2)]
theorem rz:∀{l:List Int}(h:l.Nodup)(e:Int),l.count e=if e∈l then 1 else 0
 | [],_,e=>by simp
 | x::l,h,e=>by
  have h':=sk.1 h;rw[List.count_cons,rz h'.2 e];by_cases e1:x=e
  .subst e1;rw[ax h'.1,aE (ef ..)];simp
  .have e2:(x == e)=false:=by simpa using e1
   have e3:¬ e=x:=fun h=>e1 h.symm;simp[e2,e3]
theorem uM(s:ah):cK s↔s.1.length=4/\s.2.1.length<=40/\∀i,i<4->uN s i:=by
 have N7:∀k:Int,cl s 4 k=(if k∈L s 0 then 1 else 0)+(if k∈L s 1 then 1 else 0)+(if k∈L s 2 then 1 else 0)+(if k∈L s 3 then 1 else 0):=by intro k;simp only[cl];omega
 have r7:∀{j:Nat}{e:Int},e∈L s j->∃k:Nat,(k:Int)=e/\k<s.2.1.length:=by intro j e h;have:=(ql s j).e7 e h;exact⟨e.toNat,by omega,by omega⟩
 constructor
 .rintro⟨h1,h2,h3,h4⟩
  -- a node in any lane is in SK rQ OK below SJ qi
  have key:∀e:Int,(∃j,j<4/\e∈L s j)->(qh s e).2.1.length=qi (qh s e).1/\∀i,i<4->(e∈L s i↔i<qi (qh s e).1):=by
   rintro e ⟨j,hj,he⟩;obtain⟨k,rfl,hk⟩:=r7 he;have hc:=N7 (k:Int);have hpos:0<cl s 4 k:=by
    rw[hc];have:j=0\/j=1\/j=2\/j=3:=by omega
    rcases this with rfl | rfl | rfl | rfl<;>rw[aE he]<;>omega
   obtain⟨n1,n2⟩:=h4 k hk hpos;refine⟨n1,?_⟩;have g0:=rD s 0 (k:Int);have g1:=rD s 1 (k:Int);have g2:=rD s 2 (k:Int);have g3:=rD s 3 (k:Int);rw[n1]at g0 g1 g2 g3 n2;rw[hc]at n2;intro i hi;have:i=0\/i=1\/i=2\/i=3:=by omega
   rcases this with rfl | rfl | rfl | rfl<;>by_cases m0:(k:Int)∈L s 0<;>by_cases m1:(k:Int)∈L s 1<;>by_cases m2:(k:Int)∈L s 2<;>by_cases m3:(k:Int)∈L s 3<;>
    simp only[m0,m1,m2,m3,aK,bY,true_iff,false_iff,forall_const,true_implies] at *<;>omega
  refine⟨h1,h2,fun i hi=>⟨h3 i hi,fun x hx=>?_,fun e he=>?_⟩⟩
  .have:=key x ⟨i,hi,hx⟩;exact(this.2 0 (by omega)).2 (by have:=qn (qh s x).1;omega)
  .have:=key e ⟨0,by omega,he⟩;refine⟨this.1,?_⟩;rw[rz (ql s i).nodup,<-this.2 i hi];split<;>simp_all
 .rintro⟨h1,h2,h3⟩;refine⟨h1,h2,fun j hj=>(h3 j hj).1,fun k hk hpos=>?_⟩;have hc:=N7 (k:Int);have h0:(k:Int)∈L s 0:=by refine qQ fun hn=>?_;have f0:∀j,j<4->(k:Int)∉L s j:=fun j hj hm=>hn ((h3 j hj).2.1 _ hm);rw[hc,ax (f0 0 (by omega)),ax (f0 1 (by omega)),ax (f0 2 (by omega)),ax (f0 3 (by omega))]at hpos;omega
  have hm:∀j,j<4->((k:Int)∈L s j↔j<qi (qh s k).1):=by intro j hj;rw[<-((h3 j hj).2.2 _ h0).2,rz (ql s j).nodup];split<;>simp_all
  have hl:=((h3 0 (by omega)).2.2 _ h0).1;refine⟨hl,?_⟩;rw[hc,hl];have hr:=qn (qh s k).1;have m0:=hm 0 (by omega);have m1:=hm 1 (by omega);have m2:=hm 2 (by omega);have m3:=hm 3 (by omega);simp only[m0,m1,m2,m3];generalize qi (qh s k).1=hh at hr⊢;have:hh=1\/hh=2\/hh=3\/hh=4:=by omega
  rcases this with rfl | rfl | rfl | rfl<;>rfl
theorem Fp{X:Ext}(hX:cY X){n:Nat}(hn:W+2<=n)(s:ah)(hs:s.2.1.length<=1048576)(hk:∀x∈s.2.1,x.1.size<=maxLen):zn (DD X n) s=some ((decide (cK s),()),()):=by
 obtain⟨n,rfl⟩:∃k,n=k+1:=⟨n-1,by omega⟩
 have hd:=gS;have hok:=uM s;rw[Vv hX];simp only[M5,Nd,Ml];by_cases h4:s.1.length=4
 .have e4:((s.1.length:Int) != 4)=false:=by rw[h4];rfl
  rw[e4,jI];by_cases mb:s.2.1.length<=40
  .rw[qg (by omega)];have:=Qd hX n (by omega) (K0:=fun cw=>PJ (DD X n) n cw) (K1:=PL (DD X n) n) s hs hk h4 4 0 n [] rfl (by omega) (fun h=>by omega);rw[show((0:Nat):Int)=0 from rfl]at this;rw[this];by_cases hall:∀i,0<=i->i<4->uN s i
   .rw[aE hall,bJ (hok.2 ⟨h4,mb,fun i hi=>hall i (by omega) hi⟩)];rfl
   .rw[ax hall,c6 (fun h:cK s=>hall (fun i _ hi=>(hok.1 h).2.2 i hi))];rfl
  .rw[qf (by omega),c6 (fun h:cK s=>mb h.2.1)]
 .have e4:((s.1.length:Int) != 4)=true:=by simp;omega
  rw[e4,ru,aF,c6 (fun h:cK s=>h4 h.1)]
noncomputable def keys(s:ah):List ByteArray:=if cK s then (L s 0).map fun p=>(qh s p).1 else []
theorem Qm(D:Den ctx)(n:Nat)(K:List ByteArray->Option ((List ByteArray×Unit)×Unit))(s:ah)(l:List Int)(hr:∀x∈l,0<=x/\x<s.2.1.length)(hl:l.length<=1048576):∀(m i:Nat)(o:List ByteArray),i<=l.length->l.length-i<m->o.length<=i->
  Dj D n K m l.length i s o l=K (o++(l.drop i).map fun p=>(qh s p).1)
 | 0,_,_,_,h,_=>by omega
 | m+1,i,o,hi,hf,ho=>by
  simp only[Dj,L6];have hb:=nM;by_cases h:i<l.length
  .have hp:=hr _ (fy h);rw[qf (by exact_mod_cast h),ix h,aF,dR,qv h,gy hp.1 hp.2,aF,qf (by omega),qu (by omega)];have e:=Qm D n K s l hr hl m (i+1) (o++[(qh s l[i]).1]) (by omega) (by omega) (by simp;omega);refine hJ e ?_;rw[oq h,dn,fe];rfl
  .rw[qg (by exact_mod_cast h),rH h];simp
theorem Fk{X:Ext}(hX:cY X){n:Nat}(hn:W+3<=n)(s:ah)(hs:s.2.1.length<=1048576)(hk:∀x∈s.2.1,x.1.size<=maxLen):x_ (DD X n) s=some ((keys s,()),()):=by
 obtain⟨n,rfl⟩:∃k,n=k+1:=⟨n-1,by omega⟩
 have hd:=gS;rw[UY hX];simp only[Mx,MH,Ly];rw[yg hX (by omega) s hs hk,qc];dsimp only;unfold keys;by_cases h:cK s
 .have hl:=(ql s 0).len;rw[bJ h,cT,bW,aE h];have e:=QS hX (n:=n) (by omega) s hs 0 (by rw[h.1];omega);rw[show((0:Nat):Int)=0 from rfl]at e;rw[e,qc];have:=Qm (DD X n) n (fun v=>Pc (DD X n) n v) s (L s 0) (ql s 0).e7 (by omega) n 0 [] (by omega) (by omega) (by simp);rw[show((0:Nat):Int)=0 from rfl,iF,lN]at this;exact this
 .rw[c6 h,fY,aF,ax h]
theorem V6(s:ah):(keys s).length<=s.2.1.length:=by
 unfold keys;split
 .rw[lO];exact(ql s 0).len
 .simp
def bU(s:ah)(p:Int)(j:Nat):Int:=if p = -1 then s.1.getD j 0 else (qh s p).2.1.getD j 0
def path(s:ah)(j:Nat):Int->List Int->Prop
 | p,[]=>p = -1
 | p,x::r=>p=x/\0<=x/\path s j ((qh s x).2.1.getD j 0) r
theorem Qe{s:ah}{j:Nat}:∀(f:Nat){p:Int}{out l:List Int},iL s j f p out=some l->∃r,l=out++r/\path s j p r
 | 0,_,_,_,h=>by simp[iL]at h
 | f+1,p,out,l,h=>by
  simp only[iL]at h;split at h
  .rename_i hp;simp only[ay]at h;subst h;exact⟨[],by simp,hp⟩
  .split at h
   .simp at h
   .rename_i hb;obtain⟨r,rfl,hr⟩:=Qe f h;exact⟨p::r,by simp,rfl,(uK.1 hb).1.1,hr⟩
theorem DV{s:ah}{j:Nat}(h:(lane s j).isSome):path s j (s.1.getD j 0) (L s j):=by unfold L;obtain⟨l,hl⟩:=lG.1 h;rw[hl];obtain⟨r,e,hr⟩:=Qe _ hl;rw[lN]at e;subst e;exact hr
def ni:List Int->Int->List Int
 | [],_=>[]
 | x::l,a=>if x=a then l else ni l a
def rest(l:List Int)(a:Int):List Int:=if a = -1 then l else ni l a
theorem QC:∀(l:List Int)(a:Int),(ni l a).length<=l.length
 | [],_=>bN _
 | x::l,a=>by simp only[ni];split<;>simp<;>have:=QC l a<;>omega
theorem Q2(l:List Int)(a:Int):(rest l a).length<=l.length:=by
 unfold rest;split
 .exact bN _
 .exact QC l a
theorem QD:∀(l:List Int)(a:Int),∀x∈ni l a,x∈l
 | [],_,x,h=>by simp[ni]at h
 | y::l,a,x,h=>by
  simp only[ni]at h;split at h
  .exact d_ _ h
  .exact d_ _ (QD l a x h)
theorem NF(l:List Int)(a:Int):∀x∈rest l a,x∈l:=by
 unfold rest;split
 .exact fun x h=>h
 .exact QD l a
theorem QL{s:ah}{j:Nat}:∀{l:List Int}{p a:Int},path s j p l->a∈l->path s j ((qh s a).2.1.getD j 0) (ni l a)
 | [],_,_,_,h=>by simp at h
 | x::l,p,a,hp,h=>by
  obtain⟨rfl,h0,hp⟩:=hp;simp only[ni];by_cases e:p=a
  .subst e;rw[aE rfl];exact hp
  .rw[ax e];exact QL hp (by rcases cU.1 h with h | h;exact absurd h.symm e;exact h)
theorem Qu{s:ah}{j:Nat}{a:Int}(h:(lane s j).isSome)(ha:a = -1\/a∈L s j):path s j (bU s a j) (rest (L s j) a):=by
 unfold rest bU;by_cases e:a = -1
 .rw[aE e,aE e];exact DV h
 .rw[ax e,ax e];exact QL (DV h) (ha.resolve_left e)
noncomputable def walk(s:ah)(key:ByteArray):Int->Nat->List Int->Int×Nat
 | a,c,[]=>(a,c)
 | a,c,x::r=>if eJ (qh s x).1 key then walk s key x (c+1) r else (a,c+1)
theorem Q4{s:ah}{key:ByteArray}:∀(r:List Int)(a:Int)(c:Nat),(walk s key a c r).1=a\/(walk s key a c r).1∈r
 | [],a,c=>.inl rfl
 | x::r,a,c=>by
  simp only[walk];split
  .rcases Q4 r x (c+1) with h | h
   .right;rw[h];exact ef ..
   .right;exact d_ _ h
  .exact .inl rfl
theorem Q3{s:ah}{key:ByteArray}:∀(r:List Int)(a:Int)(c:Nat),(walk s key a c r).2<=c+r.length
 | [],a,c=>bN _
 | x::r,a,c=>by
  simp only[walk,g9];split
  .have:=Q3 r x (c+1) (s:=s) (key:=key);omega
  .simp only;omega
noncomputable def fV(s:ah)(key:ByteArray):Nat->Int×Nat
 | 0=>(-1,0)
 | d+1=>walk s key (fV s key d).1 (fV s key d).2 (rest (L s (3-d)) (fV s key d).1)
theorem DU{s:ah}(h:cK s){i j:Nat}(hij:i<=j)(hj:j<4){e:Int}(he:e∈L s j):e∈L s i:=by obtain⟨h1,h2,h3⟩:=(uM s).1 h;have h0:=(h3 j hj).2.1 e he;have a1:=((h3 j hj).2.2 e h0).2;have a2:=((h3 i (by omega)).2.2 e h0).2;rw[rz (ql s j).nodup,aE he]at a1;rw[rz (ql s i).nodup]at a2;have:=a1.1 rfl;have:=a2.2 (by omega);refine qQ fun hn=>?_;rw[ax hn]at this;omega
theorem FD{s:ah}(h:cK s)(key:ByteArray):∀d,d<=4->(fV s key d).1 = -1\/∀i,i+d<=4->(fV s key d).1∈L s i
 | 0,_=>.inl rfl
 | d+1,hd=>by
  simp only[fV];rcases Q4 (s:=s) (key:=key) (rest (L s (3-d)) (fV s key d).1) (fV s key d).1 (fV s key d).2 with e | e
  .rw[e];rcases FD h key d (by omega) with h1 | h1
   .exact .inl h1
   .exact .inr fun i hi=>h1 i (by omega)
  .right;intro i hi;exact DU h (by omega:i<=3-d) (by omega) (NF _ _ _ e)
theorem Ri{s:ah}(h:cK s)(key:ByteArray){d:Nat}(hd:d<4):(fV s key d).1 = -1\/(fV s key d).1∈L s (3-d):=by
 rcases FD h key d (by omega) with h1 | h1
 .exact .inl h1
 .exact .inr (h1 _ (by omega))
theorem Rb(s:ah)(key:ByteArray):∀d,(fV s key d).2<=d * s.2.1.length
 | 0=>by simp[fV]
 | d+1=>by
  simp only[fV];have h1:=Q3 (s:=s) (key:=key) (rest (L s (3-d)) (fV s key d).1) (fV s key d).1 (fV s key d).2;have h2:=Rb s key d;have h3:=Q2 (L s (3-d)) (fV s key d).1;have h4:=(ql s (3-d)).len;rw[fl];omega
def qt(s:ah)(p:Int)(j:Nat):Prop:=p = -1\/(0<=p/\p<s.2.1.length/\j<(qh s p).2.1.length)
theorem Fz{s:ah}{p:Int}{j:Nat}(h:p = -1\/p∈L s j):qt s p j:=h.imp id fun h=>⟨((ql s j).e7 p h).1,((ql s j).e7 p h).2,rD s j p h⟩
theorem pR{X:Ext}(hX:cY X){n:Nat}(hn:1<=n)(s:ah)(p:Int)(j:Nat)(hj:j<s.1.length)(hp:qt s p j):zk (DD X n) s p j=some ((bU s p j,()),()):=by
 obtain⟨n,rfl⟩:∃k,n=k+1:=⟨n-1,by omega⟩
 rw[Tw hX];simp only[Le,O7,bU];by_cases h:p = -1
 .rw[qf h,aE h,ix hj,aF,dR]
 .obtain⟨h1,h2,h3⟩:=hp.resolve_left h;have e:(decide (0<=(j:Int))&&decide ((j:Int)<((List.getD s.2.1 (Int.toNat p) (ByteArray.empty,[],())).2.1.length:Int)))=true:=ix h3;rw[qg h,ax h,gy h1 h2,aF,e,aF,dR];rfl
theorem VQ{X:Ext}(hX:cY X){n:Nat}(hn:1<=n)(s:ah)(p:Int)(j:Nat)(hj:j<s.1.length)(hp:qt s p j):L5 (DD X n) s p j=some ((bU s p j,()),()):=by
 obtain⟨n,rfl⟩:∃k,n=k+1:=⟨n-1,by omega⟩
 rw[U5 hX];simp only[MG,P2,bU];by_cases h:p = -1
 .rw[qf (by omega),aE h,ix hj,aF,dR]
 .obtain⟨h1,h2,h3⟩:=hp.resolve_left h;have e:(decide (0<=(j:Int))&&decide ((j:Int)<((List.getD s.2.1 (Int.toNat p) (ByteArray.empty,[],())).2.1.length:Int)))=true:=ix h3;rw[qg (by omega),ax h,gy h1 h2,aF,e,aF,dR];rfl
theorem Qw{X:Ext}(hX:cY X)(N n:Nat)(hN:1<=N)(K0:ByteArray->Int->Int->Int->ah->List Int->Option ((List Int×Int×Unit)×Unit))(s:ah)(j:Nat)(hj:j<s.1.length)(key:ByteArray)(o:List Int) :
  ∀(r:List Int)(m:Nat)(p:Int)(c:Nat),r.length<m->qt s p j->path s j (bU s p j) r->(∀x∈r,0<=x/\x<s.2.1.length/\j<(qh s x).2.1.length)->c+r.length<=1099511627776->
  zo (DD X N) n K0 m key c p j s o=K0 key (walk s key p c r).2 (walk s key p c r).1 j s o
 | _,0,_,_,h,_,_,_,_=>by omega
 | [],m+1,p,c,_,hp,hpa,_,_=>by
  simp only[zo,Fo,walk];rw[pR hX hN s p j hj hp,qc];dsimp only;have G3:bU s p j = -1:=hpa;rw[qf G3]
 | x::r,m+1,p,c,hm,hp,hpa,hr,hc=>by
  simp only[zo,Fo,walk];obtain⟨e,h0,hpa⟩:=hpa;obtain⟨x0,x1,x2⟩:=hr x (ef ..);simp only[g9]at hm hc;rw[pR hX hN s p j hj hp,qc];dsimp only;rw[e,qg (by omega),gy x0 x1,aF];have ex:bU s x j=(qh s x).2.1.getD j 0:=by unfold bU;rw[ax (by omega)]
  have ew:wrap .i64 ((c:Int)+1)=((c+1:Nat):Int):=qu (by omega);by_cases hk:eJ (qh s x).1 key
  .have e4:Op.bytesLess (List.getD s.2.1 (Int.toNat x) (ByteArray.empty,[],())).1.toList key.toList=true:=hk;rw[e4,cT,bW,ew,aE hk];exact Qw hX N n hN K0 s j hj key o r m x (c+1) (by omega) (.inr ⟨x0,x1,x2⟩) (by rw[ex];exact hpa) (fun y hy=>hr y (d_ _ hy)) (by omega)
  .have e4:Op.bytesLess (List.getD s.2.1 (Int.toNat x) (ByteArray.empty,[],())).1.toList key.toList=false:=FA hk;rw[e4,fY,aF,ew,ax hk]
noncomputable def cG(s:ah)(key:ByteArray)(j:Nat):Int:=(fV s key (4-j)).1
theorem QE{X:Ext}(hX:cY X)(n:Nat)(hn:W+1<=n)(K0:Int->List Int->Option ((List Int×Int×Unit)×Unit))(s:ah)(h:cK s)(key:ByteArray) :
  ∀(d m:Nat)(o:List Int),d<=4->4-d<m->o.length=4->(∀i,i<4->4-d<=i->o.getD i 0=cG s key i)->
  ∃o',o'.length=4/\(∀i,i<4->o'.getD i 0=cG s key i)/\q7 (DD X n) n K0 m key (fV s key d).2 (fV s key d).1 (3-(d:Int)) s o=K0 (fV s key 4).2 o'
 | d,0,_,_,hm,_,_=>by omega
 | d,m+1,o,hd,hm,ho,jY=>by
  have hW:=gS;have mb:=h.2.1;have Sb:=Rb s key d;have hmul:d * s.2.1.length<=4 * 40:=x9 hd mb;by_cases e4:d=4
  .subst e4;refine⟨o,ho,fun i hi=>jY i hi (by omega),?_⟩;simp only[q7,Fm];rw[qg (by omega)]
  .have hlt:d<4:=by omega
   have cz:=Ri h key hlt;have hsome:=h.2.2.1 (3-d) (by omega);have hlen:=Q2 (L s (3-d)) (fV s key d).1;have WC:=(ql s (3-d)).len;have hj:(3-(d:Int))=((3-d:Nat):Int):=by omega
   have e1:=Qw hX n n (by omega) (fun cw dQ eS je ki qN=>Ma (DD X n) n (q7 (DD X n) n K0 m) K0 cw dQ eS je ki qN) s (3-d) (by rw[h.1];omega) key o (rest (L s (3-d)) (fV s key d).1) n (fV s key d).1 (fV s key d).2 (by omega)
    (Fz cz) (Qu hsome cz) (fun x hx=>by
     have hx':=NF _ _ _ hx;exact⟨((ql s _).e7 x hx').1,((ql s _).e7 x hx').2,rD s _ x hx'⟩) (by omega)
   obtain⟨o',i1,i2,i3⟩:=QE hX n hn K0 s h key (d+1) m (o.set (3-d) (fV s key (d+1)).1) (by omega) (by omega) (by simpa using ho) (fun i hi hge=>by
    rw[yj (by omega)];by_cases e:i=3-d
    .rw[aE e];unfold cG;congr 2;omega
    .rw[ax e];exact jY i hi (by omega))
   refine⟨o',i1,i2,?_⟩;simp only[q7,Fm];rw[qf (by omega),hj];simp only[MP];rw[e1];simp only[Ma];have ec:(decide (0<=((3-d:Nat):Int))&&decide (((3-d:Nat):Int)<(o.length:Int)))=true:=ix (by omega);rw[ec,aF,dR,qs (by omega) (by omega)];rw[show((3-d:Nat):Int)-1=3-((d+1:Nat):Int) by omega];exact i3
theorem C1{X:Ext}(hX:cY X){n:Nat}(hn:W+2<=n)(s:ah)(h:cK s)(key:ByteArray) :
  ∃o',o'.length=4/\(∀i,i<4->o'.getD i 0=cG s key i)/\Fq (DD X n) s key=some ((o',((fV s key 4).2:Int),()),()):=by
 obtain⟨n,rfl⟩:∃k,n=k+1:=⟨n-1,by omega⟩
 have hW:=gS;obtain⟨o',i1,i2,i3⟩:=QE hX n (by omega) (fun cw dQ=>PV (DD X n) n cw dQ) s h key 0 n (List.replicate (Int.toNat 4) 0) (by omega) (by omega) (by rfl) (fun i hi hge=>by omega);refine⟨o',i1,i2,?_⟩;rw[Vj hX];simp only[Ni,Nm,MO];exact i3
theorem VL{s:ah}{j:Nat}{p:Int}{l:List Int}(h:path s j p l):p = -1\/p∈l:=by
 cases l with
 | nil=>exact .inl h
 | cons x r=>right;rw[h.1];exact ef ..
theorem Q6{s:ah}(h:cK s)(key:ByteArray):bU s (cG s key 0) 0 = -1\/bU s (cG s key 0) 0∈L s 0:=by
 have hb:cG s key 0 = -1\/cG s key 0∈L s 0:=by
  rcases FD h key 4 (by omega) with h1 | h1
  .exact .inl h1
  .exact .inr (h1 0 (by omega))
 rcases VL (Qu (h.2.2.1 0 (by omega)) hb) with h1 | h1
 .exact .inl h1
 .exact .inr (NF _ _ _ h1)
theorem NQ{s:ah}(h:cK s)(key:ByteArray){j:Nat}(hj:j<4):cG s key j = -1\/cG s key j∈L s j:=by
 rcases FD h key (4-j) (by omega) with h1 | h1
 .exact .inl h1
 .exact .inr (h1 j (by omega))
theorem P9{X:Ext}(hX:cY X){n:Nat}(hn:1<=n)(a:List Int)(ha:a.length<=gj):Fu (DD X n) a=some ((a,()),()):=by
 obtain⟨n,rfl⟩:∃k,n=k+1:=⟨n-1,by omega⟩
 rw[VN hX];simp only[M0,PY];cases a with
 | nil=>simp[sw,both,nM]
 | cons x l=>simp only[g9]at ha;simp[sw,vN,V.br,ha,show ¬ (l.length+1=0) by omega]
abbrev OS:=Option ((ah×Unit)×Unit)
theorem Re{X:Ext}(hX:cY X)(N n:Nat)(hN:1<=N)(K:ah->ah->OS)(l:List l7)(hl:l.length<=1048576)(hs:∀x∈l,x.2.1.length<=gj)(z:ah):∀(m i:Nat)(o:ah),i<=l.length->l.length-i<m->o.2.1.length<=i->
  Dw (DD X N) n K m l l.length i z o=K z (o.1,o.2.1++l.drop i,o.2.2)
 | 0,_,_,_,h,_=>by omega
 | m+1,i,o,hi,hf,ho=>by
  simp only[Dw,Lm];have hb:=nM;by_cases h:i<l.length
  .rw[qf (by exact_mod_cast h),ix h,aF,dR,qv h,P9 hX hN _ (hs _ (fy h)),qc,qf (by omega),qu (by omega)];have e:=Re hX N n hN K l hl hs z m (i+1) (o.1,o.2.1++[l[i]],o.2.2) (by omega) (by omega) (by simp;omega);refine hJ e ?_;rw[oq h];simp
  .rw[qg (by exact_mod_cast h),rH h];simp
theorem Qg{X:Ext}(hX:cY X){n:Nat}(hn:W+2<=n)(s:ah)(hs:iK 1048576 s):ER (DD X n) s=some ((s,()),()):=by
 obtain⟨n,rfl⟩:∃k,n=k+1:=⟨n-1,by omega⟩
 have hW:=gS;have hb:=nM;obtain⟨h1,h2,h3⟩:=hs;rw[Uw hX];simp only[LY,Mb,KY];rw[P9 hX (by omega) _ (by omega),qc];have:=Re hX n n (by omega) (fun v w=>La (DD X n) n v w) s.2.1 h2 (fun x hx=>by have:=h3 x hx;omega) ([],[],()) n 0 (s.1,[],()) (by omega) (by omega) (by simp);rw[show((0:Nat):Int)=0 from rfl]at this;refine hJ this ?_;simp[La]
theorem QH(D:Den ctx)(n:Nat)(K:ah->ah->OS)(s:ah)(hl:s.2.1.length<=1048576)(hs:∀x∈s.2.1,x.2.1.length<=gj)(z:ah):∀(m i:Nat)(o:ah),i<=s.2.1.length->s.2.1.length-i<m->o.2.1.length<=i->
  Dl D n K m i s z o=K z (o.1,o.2.1++s.2.1.drop i,o.2.2)
 | 0,_,_,_,h,_=>by omega
 | m+1,i,o,hi,hf,ho=>by
  simp only[Dl,Mo];have hb:=nM;by_cases h:i<s.2.1.length
  .have hx:=hs _ (fy h);rw[qf (by exact_mod_cast h),ix h,aF,aF,dR,qv h,qf (by omega),qf (by omega),qu (by omega)];have e:=QH D n K s hl hs z m (i+1) (o.1,o.2.1++[s.2.1[i]],o.2.2) (by omega) (by omega) (by simp;omega);refine hJ e ?_;rw[oq h];simp
  .rw[qg (by exact_mod_cast h),rH h];simp
theorem Fw{X:Ext}(hX:cY X){n:Nat}(hn:W+2<=n)(s:ah)(hs:iK 1048576 s):zm (DD X n) s=some ((s,()),()):=by
 obtain⟨n,rfl⟩:∃k,n=k+1:=⟨n-1,by omega⟩
 have hW:=gS;have hb:=nM;obtain⟨h1,h2,h3⟩:=hs;rw[U2 hX];simp only[MD,MX,LV];rw[qf (by omega),lN];have:=QH (DD X n) n (fun v w=>Ls (DD X n) n v w) s h2 (fun x hx=>by have:=h3 x hx;omega) ([],[],()) n 0 (s.1,[],()) (by omega) (by omega) (by simp);rw[show((0:Nat):Int)=0 from rfl]at this;refine hJ this ?_;simp[Ls]
noncomputable def qy(s:ah)(key:ByteArray):List Int->Int
 | []=>-1
 | x::l=>if (qh s x).1=key then x else qy s key l
noncomputable def NT(K0:Int->Option ((Int×Unit)×Unit))(K1:Option ((Int×Unit)×Unit))(x:Int):Option ((Int×Unit)×Unit):=if x = -1 then K1 else K0 x
theorem Rn(D:Den ctx)(n:Nat)(K0:Int->Option ((Int×Unit)×Unit))(K1:Option ((Int×Unit)×Unit))(s:ah)(key:ByteArray)(l:List Int)(hr:∀x∈l,0<=x/\x<s.2.1.length)(hl:l.length<=1048576):∀(m i:Nat),i<=l.length->l.length-i<m->
  DI D n K0 K1 m key i s l=NT K0 K1 (qy s key (l.drop i))
 | 0,_,_,h=>by omega
 | m+1,i,hi,hf=>by
  simp only[DI,MZ];by_cases h:i<l.length
  .have hp:=hr _ (fy h);rw[qf (by exact_mod_cast h),ix h,aF,dR,qv h,gy hp.1 hp.2,aF,aF,DP,oq h];rw[show List.getD s.2.1 (Int.toNat l[i]) (ByteArray.empty,[],())=qh s l[i] from rfl];simp only[qy];by_cases e:(qh s l[i]).1=key
   .rw[qf e,aE e];unfold NT;rw[ax (by omega)]
   .rw[qg e,ax e,qu (by omega)];exact Rn D n K0 K1 s key l hr hl m (i+1) (by omega) (by omega)
  .rw[qg (by exact_mod_cast h),rH h];rfl
theorem QO{X:Ext}(hX:cY X){n:Nat}(hn:W+2<=n)(s:ah)(hs:s.2.1.length<=1048576)(h0:0<s.1.length)(key:ByteArray):DK (DD X n) s key=some ((qy s key (L s 0),()),()):=by
 obtain⟨n,rfl⟩:∃k,n=k+1:=⟨n-1,by omega⟩
 have hW:=gS;have hl:=(ql s 0).len;rw[Vy hX];simp only[M8,Nf,Mp];have e:=Nu hX (n:=n) (by omega) s hs 0 h0;rw[show((0:Nat):Int)=0 from rfl]at e;rw[e,qc];have:=Rn (DD X n) n (fun v=>PR (DD X n) n v) (PS (DD X n) n) s key (L s 0) (ql s 0).e7 (by omega) n 0 (by omega) (by omega);rw[show((0:Nat):Int)=0 from rfl,iF]at this;refine hJ this ?_;unfold NT;by_cases hh:qy s key (L s 0) = -1
 .rw[aE hh,hh];rfl
 .rw[ax hh];rfl
noncomputable def qo(s:ah)(key:ByteArray):Int->List Int->Int
 | a,[]=>a
 | a,x::l=>if eJ (qh s x).1 key then qo s key x l else qo s key a l
theorem Nz(D:Den ctx)(n:Nat)(K0:Int->Option ((Int×Unit)×Unit))(s:ah)(key:ByteArray)(l:List Int)(hr:∀x∈l,0<=x/\x<s.2.1.length)(hl:l.length<=1048576):∀(m i:Nat)(a:Int),i<=l.length->l.length-i<m->
  Dr D n K0 m key a i s l=K0 (qo s key a (l.drop i))
 | 0,_,_,_,h=>by omega
 | m+1,i,a,hi,hf=>by
  simp only[Dr,Lr];by_cases h:i<l.length
  .have hp:=hr _ (fy h);rw[qf (by exact_mod_cast h),ix h,aF,dR,qv h,gy hp.1 hp.2,aF,aF,oq h,qu (by omega)];rw[show List.getD s.2.1 (Int.toNat l[i]) (ByteArray.empty,[],())=qh s l[i] from rfl];simp only[qo];by_cases e:eJ (qh s l[i]).1 key
   .rw[Wa e,aF,aE e];exact Nz D n K0 s key l hr hl m (i+1) _ (by omega) (by omega)
   .rw[FA e,bW,ax e];exact Nz D n K0 s key l hr hl m (i+1) _ (by omega) (by omega)
  .rw[qg (by exact_mod_cast h),rH h];rfl
theorem P_{X:Ext}(hX:cY X){n:Nat}(hn:W+2<=n)(s:ah)(hs:s.2.1.length<=1048576)(j:Nat)(hj:j<s.1.length)(key:ByteArray):EY (DD X n) s j key=some ((qo s key (-1) (L s j),()),()):=by
 obtain⟨n,rfl⟩:∃k,n=k+1:=⟨n-1,by omega⟩
 have hW:=gS;have hl:=(ql s j).len;rw[TU hX];simp only[Lv,LU,Lc];rw[Nu hX (n:=n) (by omega) s hs j hj,qc];have:=Nz (DD X n) n (fun v=>OQ (DD X n) n v) s key (L s j) (ql s j).e7 (by omega) n 0 (-1) (by omega) (by omega);rw[show((0:Nat):Int)=0 from rfl,iF]at this;exact this
def dg(a:ah)(p:Int)(j:Nat)(to:Int):ah:=
 if p = -1 then (a.1.set j to,a.2.1,()) else (a.1,a.2.1.set p.toNat ((qh a p).1,(qh a p).2.1.set j to,()),())
theorem Wh{X:Ext}(hX:cY X){n:Nat}(hn:1<=n)(a:ah)(p:Int)(j:Nat)(to:Int)(hj:j<a.1.length)(hp:qt a p j):Lt (DD X n) a p j to=some ((),(dg a p j to,())):=by
 obtain⟨n,rfl⟩:∃k,n=k+1:=⟨n-1,by omega⟩
 rw[TT hX];simp only[Lu,Pz,dg];by_cases h:p = -1
 .rw[qf h,aE h,ix hj,aF,dR]
 .obtain⟨h1,h2,h3⟩:=hp.resolve_left h;have e:(decide (0<=(j:Int))&&decide ((j:Int)<((List.getD a.2.1 (Int.toNat p) (ByteArray.empty,[],())).2.1.length:Int)))=true:=ix h3;rw[qg h,ax h,gy h1 h2,aF,e,aF,dR];rfl
theorem NA{X:Ext}(hX:cY X){n:Nat}(hn:1<=n)(a:ah)(p:Int)(j:Nat)(to:Int)(hj:j<a.1.length)(hp:qt a p j):DL (DD X n) a p j to=some ((),(dg a p j to,())):=by
 obtain⟨n,rfl⟩:∃k,n=k+1:=⟨n-1,by omega⟩
 rw[Vz hX];simp only[M9,P8,dg];by_cases h:p = -1
 .rw[qf (by omega),aE h,ix hj,aF,dR]
 .obtain⟨h1,h2,h3⟩:=hp.resolve_left h;have e:(decide (0<=(j:Int))&&decide ((j:Int)<((List.getD a.2.1 (Int.toNat p) (ByteArray.empty,[],())).2.1.length:Int)))=true:=ix h3;rw[qg (by omega),ax h,gy h1 h2,aF,e,aF,dR];rfl
theorem Nv{s:ah}{key:ByteArray}:∀(l:List Int)(a:Int)(c:Nat),l.Pairwise (fun x y=>eJ (qh s x).1 (qh s y).1)->(walk s key a c l).1=qo s key a l
 | [],a,c,_=>rfl
 | x::l,a,c,h=>by
  obtain⟨h1,h2⟩:=jh.1 h;simp only[walk,qo];by_cases e:eJ (qh s x).1 key
  .rw[aE e,aE e];exact Nv l x (c+1) h2
  .rw[ax e,ax e];have:∀(r:List Int),(∀y∈r,¬ eJ (qh s y).1 key)->qo s key a r=a:=by
    intro r
    induction r with
    | nil=>intro _;rfl
    | cons y r ih=>intro hr;simp only[qo];rw[ax (hr y (ef ..))];exact ih fun z hz=>hr z (d_ _ hz)
   exact(this l fun y hy k=>e (yl (h1 y hy) k)).symm
theorem Fy{s:ah}{key:ByteArray}{a:Int}:∀(r:List Int),(∀y∈r,¬ eJ (qh s y).1 key)->qo s key a r=a
 | [],_=>rfl
 | y::r,hr=>by simp only[qo];rw[ax (hr y (ef ..))];exact Fy r fun z hz=>hr z (d_ _ hz)
theorem QW{s:ah}{key:ByteArray}{a:Int}(ha:eJ (qh s a).1 key):∀(l:List Int)(b:Int),l.Pairwise (fun x y=>eJ (qh s x).1 (qh s y).1)->a∈l->qo s key b l=qo s key a (ni l a)
 | [],_,_,h=>by simp at h
 | x::l,b,h,hm=>by
  obtain⟨h1,h2⟩:=jh.1 h;simp only[qo,ni];by_cases e:x=a
  .subst e;rw[aE ha,aE rfl]
  .have hml:a∈l:=(cU.1 hm).resolve_left fun k=>e k.symm;rw[ax e,aE (yl (h1 a hml) ha)];exact QW ha l x h2 hml
theorem DQ{s:ah}{key:ByteArray}:∀(l:List Int)(a:Int),qo s key a l=a\/(qo s key a l∈l/\eJ (qh s (qo s key a l)).1 key)
 | [],a=>.inl rfl
 | x::l,a=>by
  simp only[qo];by_cases e:eJ (qh s x).1 key
  .rw[aE e];rcases DQ l x with h | ⟨h,k⟩
   .right;rw[h];exact⟨ef ..,e⟩
   .right;exact⟨d_ _ h,k⟩
  .rw[ax e];rcases DQ l a with h | ⟨h,k⟩
   .exact .inl h
   .right;exact⟨d_ _ h,k⟩
theorem NP{R:Int->Int->Prop}:∀{l:List Int}{a:Int},l.Pairwise R->(ni l a).Pairwise R
 | [],_,h=>h
 | x::l,a,h=>by
  obtain⟨h1,h2⟩:=jh.1 h;simp only[ni];split
  .exact h2
  .exact NP h2
theorem NG{s:ah}(h:cK s)(key:ByteArray):∀d,d<=4->(fV s key d).1 = -1\/eJ (qh s (fV s key d).1).1 key
 | 0,_=>.inl rfl
 | d+1,hd=>by
  have hp:=(ql s (3-d)).pw;simp only[fV];rw[Nv _ _ _ (by unfold rest;split;exact hp;exact NP hp)];rcases DQ (s:=s) (key:=key) (rest (L s (3-d)) (fV s key d).1) (fV s key d).1 with e | ⟨_,e⟩
  .rw[e];exact NG h key d (by omega)
  .exact .inr e
theorem DR{s:ah}(h:cK s)(key:ByteArray){j:Nat}(hj:j<4):cG s key j=qo s key (-1) (L s j):=by
 have hp:=(ql s j).pw;unfold cG;obtain⟨d,hd⟩:∃d,4-j=d+1:=⟨3-j,by omega⟩
 have Ov:3-d=j:=by omega
 rw[hd];simp only[fV];rw[Ov,Nv _ _ _ (by unfold rest;split;exact hp;exact NP hp)];have hin:=Ri h key (d:=d) (by omega);have hl:=NG h key d (by omega);rw[Ov]at hin;unfold rest;by_cases e:(fV s key d).1 = -1
 .rw[aE e,e]
 .rw[ax e];exact(QW (hl.resolve_left e) _ _ hp (hin.resolve_left e)).symm
noncomputable def ins(s:ah)(key:ByteArray)(n:Int):List Int->List Int
 | []=>[n]
 | x::l=>if eJ (qh s x).1 key then x::ins s key n l else n::x::l
theorem pW{s:ah}{key:ByteArray}{n:Int}:∀{l:List Int}{y:Int},y∈ins s key n l↔y=n\/y∈l
 | [],y=>by simp[ins]
 | x::l,y=>by
  simp only[ins];split
  .rw[cU,pW,cU];constructor
   .rintro(h | h | h)
    .exact .inr (.inl h)
    .exact .inl h
    .exact .inr (.inr h)
   .rintro(h | h | h)
    .exact .inr (.inl h)
    .exact .inl h
    .exact .inr (.inr h)
  .simp
theorem NJ{s:ah}{key:ByteArray}{n:Int}:∀(l:List Int),(ins s key n l).length=l.length+1
 | []=>rfl
 | x::l=>by
  simp only[ins];split
  .simp[NJ l]
  .simp
theorem DO{s t:ah}{j:Nat}:∀{l:List Int}{p:Int},path s j p l->(∀y∈l,(qh t y).2.1.getD j 0=(qh s y).2.1.getD j 0)->path t j p l
 | [],_,h,_=>h
 | x::l,p,h,hs=>by
  obtain⟨h1,h2,h3⟩:=h;refine⟨h1,h2,?_⟩;rw[hs x (ef ..)];exact DO h3 fun y hy=>hs y (d_ _ hy)
structure zM (s:ah) (key:ByteArray) (t:ah):Prop where
 cO:t.1.length=4
 len:t.2.1.length=s.2.1.length+1
 keys:∀p:Int,0<=p->p<s.2.1.length->(qh t p).1=(qh s p).1/\(qh t p).2.1.length=(qh s p).2.1.length
 r8:(qh t s.2.1.length).1=key
 AN:(qh t s.2.1.length).2.1.length=qi key
 nx:∀(j:Nat)(p:Int),j<4->qt s p j->bU t p j=if j<qi key/\p=cG s key j then (s.2.1.length:Int) else bU s p j
 nn:∀j:Nat,j<qi key->bU t s.2.1.length j=bU s (cG s key j) j
theorem Q0{s t:ah}{key:ByteArray}(h:zM s key t){j:Nat}(hj:j<4)(hh:j<qi key):∀(l:List Int)(a:Int),path s j (bU s a j) l->qt s a j->(∀x∈l,qt s x j/\x≠a/\x≠-1)->l.Pairwise (fun x y=>eJ (qh s x).1 (qh s y).1)->l.Nodup->cG s key j=qo s key a l->
  path t j (bU t a j) (ins s key s.2.1.length l)
 | [],a,hp,ha,_,_,_,hb=>by
  have hb':cG s key j=a:=hb;have e1:=h.nx j a hj ha;rw[aE ⟨hh,hb'.symm⟩]at e1;have e2:=h.nn j hh;rw[hb']at e2;have e3:bU s a j = -1:=hp;have e4:bU t (s.2.1.length:Int) j=(qh t s.2.1.length).2.1.getD j 0:=by unfold bU;rw[ax (by omega)]
  simp only[ins];exact⟨e1,by omega,by rw[<-e4,e2,e3];rfl⟩
 | x::l,a,hp,ha,hl,hw,hn,hb=>by
  obtain⟨p1,p2,p3⟩:=hp;obtain⟨w1,w2⟩:=jh.1 hw;obtain⟨n1,n2⟩:=sk.1 hn;obtain⟨x1,x2,x3⟩:=hl x (ef ..);have ex:∀u:ah,bU u x j=(qh u x).2.1.getD j 0:=fun u=>by unfold bU;rw[ax x3]
  simp only[ins];simp only[qo]at hb;by_cases e:eJ (qh s x).1 key
  .rw[aE e];rw[aE e]at hb;have hba:¬ a=cG s key j:=by
    rw[hb];intro k;rcases DQ (s:=s) (key:=key) l x with m | ⟨m,_⟩
    .rw[m]at k;exact x2 k.symm
    .exact(hl _ (d_ _ m)).2.1 k.symm
   have e1:=h.nx j a hj ha;rw[ax (fun k=>hba k.2)]at e1;refine⟨e1.trans p1,p2,?_⟩;have:=Q0 h hj hh l x (by rw[ex];exact p3) x1 (fun y hy=>⟨(hl y (d_ _ hy)).1,fun k=>n1 (k ▸ hy),(hl y (d_ _ hy)).2.2⟩) w2 n2 hb
   rwa [ex]at this
  .rw[ax e];rw[ax e,Fy l (fun y hy k=>e (yl (w1 y hy) k))]at hb;have e1:=h.nx j a hj ha;rw[aE ⟨hh,hb.symm⟩]at e1;have e2:=h.nn j hh;rw[hb,p1]at e2;have e4:bU t (s.2.1.length:Int) j=(qh t s.2.1.length).2.1.getD j 0:=by unfold bU;rw[ax (by omega)]
   refine⟨e1,by omega,?_⟩;rw[<-e4,e2];refine DO (s:=s) (⟨rfl,p2,p3⟩:path s j x (x::l)) fun y hy=>?_;obtain⟨y1,y2,y3⟩:=hl y hy;have e5:=h.nx j y hj y1;rw[ax (fun k=>y2 (k.2.trans hb))]at e5;have ey:∀u:ah,bU u y j=(qh u y).2.1.getD j 0:=fun u=>by unfold bU;rw[ax y3]
   rw[ey,ey]at e5;exact e5
theorem Fl{t:ah}{j:Nat}:∀(l:List Int)(f:Nat)(p:Int)(out:List Int),l.length<f->path t j p l->(∀x∈l,0<=x/\x<t.2.1.length/\j<(qh t x).2.1.length)->(out++l).Pairwise (fun x y=>eJ (qh t x).1 (qh t y).1)->
  iL t j f p out=some (out++l)
 | _,0,_,_,h,_,_,_=>by omega
 | [],f+1,p,out,_,hp,_,_=>by
  have rZ:p = -1:=hp;simp only[iL];rw[aE rZ,wE]
 | x::l,f+1,p,out,hf,hp,hl,hw=>by
  obtain⟨p1,p2,p3⟩:=hp;subst p1;obtain⟨x1,x2,x3⟩:=hl p (ef ..);have hnb:¬ bad t j p out:=uK.2 ⟨⟨x1,x2⟩,x3,fun ho=>(qR.1 hw).2.2 _ (NL ho) _ (ef ..)⟩;simp only[iL];rw[ax (by omega),ax hnb,Fl l f _ (out++[p]) (by simp only[g9]at hf;omega) p3 (fun y hy=>hl y (d_ _ hy)) (by simpa using hw)];simp
theorem Rf{s t:ah}{key:ByteArray}(h:zM s key t)(hs:∀x:Int,0<=x->x<s.2.1.length->¬ (qh s x).1=key\/True):∀(l:List Int),(∀x∈l,(0<=x/\x<s.2.1.length)/\(qh s x).1≠key)->l.Pairwise (fun x y=>eJ (qh s x).1 (qh s y).1)->
  (ins s key s.2.1.length l).Pairwise (fun x y=>eJ (qh t x).1 (qh t y).1)
 | [],_,_=>by simp[ins]
 | x::l,hl,hw=>by
  obtain⟨w1,w2⟩:=jh.1 hw;have hk:∀y∈x::l,(qh t y).1=(qh s y).1:=fun y hy=>(h.keys y (hl y hy).1.1 (hl y hy).1.2).1;simp only[ins];by_cases e:eJ (qh s x).1 key
  .rw[aE e,jh];refine⟨fun y hy=>?_,Rf h hs l (fun y hy=>hl y (d_ _ hy)) w2⟩;rw[hk x (ef ..)];rcases pW.1 hy with rfl | hy
   .rw[h.r8];exact e
   .rw[hk y (d_ _ hy)];exact w1 y hy
  .rw[ax e,jh];have hx:eJ key (qh s x).1:=by
    rcases VF (qh s x).1 key with k | k | k
    .exact absurd k e
    .exact absurd k (hl x (ef ..)).2
    .exact k
   refine⟨fun y hy=>?_,?_⟩
   .rw[h.r8,hk y hy];rcases cU.1 hy with rfl | hy
    .exact hx
    .exact yl hx (w1 y hy)
   .refine NU ?_ hw;intro a b ha hb k;rw[hk a ha,hk b hb];exact k
theorem Nr{s:ah}{j:Nat}{l:List Int}(h:lane s j=some l):L s j=l:=by unfold L;rw[h];rfl
theorem Ny{s t:ah}{key:ByteArray}(hs:cK s)(h:zM s key t)(hnew:∀x∈L s 0,(qh s x).1≠key){j:Nat}(hj:j<4) :
  lane t j=some (if j<qi key then ins s key s.2.1.length (L s j) else L s j):=by
 have hi:=ql s j;have hsome:=hs.2.2.1 j hj;have hp:=DV hsome;have qZ:∀x∈L s j,qt s x j/\x≠-1:=fun x hx=>⟨.inr ⟨(hi.e7 x hx).1,(hi.e7 x hx).2,rD s j x hx⟩,by have:=(hi.e7 x hx).1;omega⟩
 have GH:∀x∈L s j,(qh s x).1≠key:=fun x hx=>hnew x (DU hs (ji _) hj hx);have Al:bU t (-1) j=t.1.getD j 0:=rfl;have hold:∀x∈L s j,0<=x/\x<t.2.1.length/\j<(qh t x).2.1.length:=fun x hx=>by
  have h1:=hi.e7 x hx;have h2:=h.keys x h1.1 h1.2;have h3:=rD s j x hx;exact⟨h1.1,by rw[h.len];omega,by omega⟩
 unfold lane;by_cases hh:j<qi key
 .rw[aE hh];have eI:=Q0 h hj hh (L s j) (-1) (by have e:bU s (-1) j=s.1.getD j 0:=rfl;rw[e];exact hp) (.inl rfl) (fun x hx=>⟨(qZ x hx).1,(qZ x hx).2,(qZ x hx).2⟩) hi.pw hi.nodup (DR hs key hj);rw[Al]at eI;have:=Fl (ins s key s.2.1.length (L s j)) (t.2.1.length+1) _ [] (by rw[NJ,h.len];have:=hi.len;omega) eI (fun x hx=>by
   rcases pW.1 hx with rfl | hx
   .exact⟨by omega,by rw[h.len];omega,by rw[h.AN];exact hh⟩
   .exact hold x hx) (by rw[lN];exact Rf h (fun _ _ _=>.inr trivial) _ (fun x hx=>⟨hi.e7 x hx,GH x hx⟩) hi.pw)
  simpa using this
 .rw[ax hh];have e0:=h.nx j (-1) hj (.inl rfl);rw[ax (fun k=>hh k.1),Al]at e0;have eI:path t j (t.1.getD j 0) (L s j):=by
   rw[e0];refine DO (s:=s) hp fun y hy=>?_;obtain⟨y1,y3⟩:=qZ y hy;have e5:=h.nx j y hj y1;rw[ax (fun k=>hh k.1)]at e5;have ey:∀u:ah,bU u y j=(qh u y).2.1.getD j 0:=fun u=>by unfold bU;rw[ax y3]
   rw[ey,ey]at e5;exact e5
  have:=Fl (L s j) (t.2.1.length+1) _ [] (by rw[h.len];have:=hi.len;omega) eI hold (by
   rw[lN];refine NU ?_ hi.pw;intro a b ha hb k;rw[(h.keys a (hi.e7 a ha).1 (hi.e7 a ha).2).1,(h.keys b (hi.e7 b hb).1 (hi.e7 b hb).2).1];exact k)
  simpa using this
theorem Rg{s t:ah}{key:ByteArray}(hs:cK s)(h:zM s key t)(hnew:∀x∈L s 0,(qh s x).1≠key):cK t↔s.2.1.length+1<=40:=by
 constructor
 .intro ht;have:=ht.2.1;rw[h.len]at this;exact this
 .intro mb;rw[uM];have hL:∀j,j<4->L t j=if j<qi key then ins s key s.2.1.length (L s j) else L s j:=fun j hj=>Nr (Ny hs h hnew hj)
  have hr:=qn key;have Og:L t 0=ins s key s.2.1.length (L s 0):=by rw[hL 0 (by omega),aE (by omega)]
  have hold:=(uM s).1 hs;refine⟨h.cO,by rw[h.len];exact mb,fun i hi=>⟨by rw[Ny hs h hnew hi];rfl,fun x hx=>?_,fun e he=>?_⟩⟩
  .rw[hL i hi]at hx;rw[Og,pW];by_cases hh:i<qi key
   .rw[aE hh]at hx;rcases pW.1 hx with k | k
    .exact .inl k
    .exact .inr (DU hs (ji _) hi k)
   .rw[ax hh]at hx;exact .inr (DU hs (ji _) hi hx)
  .unfold kJ;rw[rz (ql t i).nodup,hL i hi];rw[Og,pW]at he;rcases he with rfl | he
   .rw[h.r8,h.AN];refine⟨rfl,?_⟩;have hnot:(s.2.1.length:Int)∉L s i:=fun k=>by have:=(ql s i).e7 _ k;omega
    by_cases hh:i<qi key
    .rw[aE hh,aE (pW.2 (.inl rfl))];simp[hh]
    .rw[ax hh,ax hnot];simp[hh]
   .have o8:=(ql s 0).e7 e he;obtain⟨k1,k2⟩:=h.keys e o8.1 o8.2;obtain⟨a1,a2⟩:=(hold.2.2 i hi).2.2 e he;rw[rz (ql s i).nodup]at a2;rw[k1,k2];refine⟨a1,?_⟩;rw[<-a2];have hne:e≠(s.2.1.length:Int):=by omega
    by_cases hh:i<qi key
    .rw[aE hh];by_cases hm:e∈L s i
     .rw[aE hm,aE (pW.2 (.inr hm))]
     .rw[ax hm,ax (fun k=>(pW.1 k).elim hne hm)]
    .rw[ax hh]
theorem Qp(a:ah)(p:Int)(j:Nat)(to:Int):(dg a p j to).1.length=a.1.length:=by unfold dg;split<;>simp
theorem Q8(a:ah)(p:Int)(j:Nat)(to:Int):(dg a p j to).2.1.length=a.2.1.length:=by unfold dg;split<;>simp
theorem zq{a:ah}{p q:Int}{j:Nat}{to:Int}(hp:qt a p j)(hq:0<=q):qh (dg a p j to) q=if q=p then ((qh a p).1,(qh a p).2.1.set j to,()) else qh a q:=by
 unfold dg;by_cases h:p = -1
 .rw[aE h,ax (by omega)];rfl
 .obtain⟨h1,h2,h3⟩:=hp.resolve_left h;rw[ax h];show(a.2.1.set p.toNat _).getD q.toNat dl=_;rw[yj (by omega)];by_cases e:q=p
  .rw[aE (by omega),aE e]
  .rw[ax (by omega),ax e];rfl
theorem Q9{a:ah}{p q:Int}{i j:Nat}{to:Int}(hj:j<a.1.length)(hp:qt a p j)(hq:q = -1\/0<=q):bU (dg a p j to) q i=if q=p/\i=j then to else bU a q i:=by
 by_cases h:q = -1
 .subst h;by_cases h2:p = -1
  .subst h2;show(dg a (-1) j to).1.getD i 0=_;unfold dg;rw[aE rfl];show(a.1.set j to).getD i 0=_;rw[yj hj];by_cases e:i=j
   .rw[aE e,aE ⟨rfl,e⟩]
   .rw[ax e,ax (fun k=>e k.2)];rfl
  .rw[ax (fun k=>h2 k.1.symm)];show(dg a p j to).1.getD i 0=a.1.getD i 0;unfold dg;rw[ax h2]
 .have h0:0<=q:=hq.resolve_left h;unfold bU;rw[ax h,ax h,zq hp h0];by_cases e:q=p
  .subst e;obtain⟨h1,h2,h3⟩:=hp.resolve_left h;rw[aE rfl];show((qh a q).2.1.set j to).getD i 0=_;rw[yj h3];by_cases e:i=j
   .rw[aE e,aE ⟨rfl,e⟩]
   .rw[ax e,ax (fun k=>e k.2)]
  .rw[ax e,ax (fun k=>e k.1)]
theorem Q7{a:ah}{p q:Int}{j:Nat}{to:Int}(hp:qt a p j)(hq:0<=q):(qh (dg a p j to) q).1=(qh a q).1/\(qh (dg a p j to) q).2.1.length=(qh a q).2.1.length:=by
 rw[zq hp hq];by_cases e:q=p
 .subst e;rw[aE rfl];simp
 .rw[ax e];exact⟨rfl,rfl⟩
noncomputable def kA(s:ah)(key:ByteArray):Nat->List Int
 | 0=>[]
 | k+1=>kA s key k++[bU s (cG s key k) k]
theorem tF(s:ah)(key:ByteArray):∀k,(kA s key k).length=k
 | 0=>rfl
 | k+1=>by simp[kA,tF s key k]
theorem Qq(s:ah)(key:ByteArray):∀(k j:Nat),j<k->(kA s key k).getD j 0=bU s (cG s key j) j
 | 0,_,h=>by omega
 | k+1,j,h=>by
  simp only[kA];by_cases e:j=k
  .subst e;simp[List.getD,tF]
  .have:=Qq s key k j (by omega);have hl:=tF s key k;rw[<-this];simp[List.getD,fo (by omega:j<(kA s key k).length)]
def base(s:ah)(key:ByteArray)(v:List Int):ah:=(s.1,s.2.1++[(key,v,())],())
noncomputable def cR(s:ah)(key:ByteArray)(v:List Int):Nat->ah
 | 0=>base s key v
 | k+1=>dg (cR s key v k) (cG s key k) k s.2.1.length
theorem Fv{s:ah}{key:ByteArray}{v:List Int}{p:Int}(h0:0<=p):qh (base s key v) p=if p=s.2.1.length then (key,v,()) else qh s p:=by
 show(s.2.1++[(key,v,())]).getD p.toNat dl=_;by_cases e:p=s.2.1.length
 .subst e;rw[aE rfl,dR];simp[List.getD]
 .rw[ax e];unfold qh;by_cases h:p.toNat<s.2.1.length
  .simp[List.getD,fo h]
  .simp[List.getD,fW (by omega:s.2.1.length<=p.toNat),iD (by omega:s.2.1.length<=p.toNat),show ¬ (p.toNat-s.2.1.length=0) by omega]
structure l8 (s:ah) (key:ByteArray) (v:List Int) (k:Nat) (a:ah):Prop where
 cO:a.1.length=s.1.length
 len:a.2.1.length=s.2.1.length+1
 keys:∀p:Int,0<=p->p<s.2.1.length->(qh a p).1=(qh s p).1/\(qh a p).2.1.length=(qh s p).2.1.length
 new:qh a s.2.1.length=(key,v,())
 nx:∀(j:Nat)(p:Int),qt s p j->bU a p j=if j<k/\p=cG s key j then (s.2.1.length:Int) else bU s p j
theorem l8.on{s:ah}{key:ByteArray}{v:List Int}{k:Nat}{a:ah}(h:l8 s key v k a){p:Int}{j:Nat}(hp:qt s p j):qt a p j:=
 hp.imp id fun⟨h1,h2,h3⟩=>⟨h1,by rw[h.len];omega,by rw[(h.keys p h1 h2).2];exact h3⟩
theorem rC{s:ah}(h:cK s)(key:ByteArray){j:Nat}(hj:j<4):qt s (cG s key j) j:=Fz (NQ h key hj)
theorem uL{s:ah}(hs:cK s)(key:ByteArray)(v:List Int):∀k,k<=4->l8 s key v k (cR s key v k)
 | 0,_=>by
  refine⟨rfl,by simp[cR,base],fun p h0 h1=>?_,?_,fun j p hp=>?_⟩
  .simp only[cR];rw[Fv h0,ax (by omega)];exact⟨rfl,rfl⟩
  .simp only[cR];rw[Fv (by omega),aE rfl]
  .rw[ax (fun k=>by omega)];simp only[cR];by_cases e:p = -1
   .subst e;rfl
   .obtain⟨h1,h2,h3⟩:=hp.resolve_left e;unfold bU;rw[ax e,ax e,Fv h1,ax (by omega)]
 | k+1,hk=>by
  have ih:=uL hs key v k (by omega);have hb:=rC hs key (j:=k) (by omega);have hb':=ih.on hb;have hne:cG s key k≠(s.2.1.length:Int):=by rcases hb with h | h<;>omega
  simp only[cR];refine⟨by rw[Qp];exact ih.cO,by rw[Q8];exact ih.len,fun p h0 h1=>?_,?_,fun j p hp=>?_⟩
  .obtain⟨k1,k2⟩:=Q7 (to:=(s.2.1.length:Int)) hb' h0;rw[k1,k2];exact ih.keys p h0 h1
  .rw[zq hb' (by omega),ax (fun k=>hne k.symm)];exact ih.new
  .rw[Q9 (by rw[ih.cO,hs.1];omega) hb' (by rcases hp with h | h;exact .inl h;exact .inr h.1),ih.nx j p hp];by_cases e:j=k
   .subst e;by_cases e2:p=cG s key j
    .rw[aE ⟨e2,rfl⟩,aE ⟨by omega,e2⟩]
    .rw[ax (fun h=>e2 h.1),ax (fun h=>e2 h.2),ax (fun h=>e2 h.2)]
   .rw[ax (fun h=>e h.2)];by_cases e2:j<k/\p=cG s key j
    .rw[aE e2,aE ⟨by omega,e2.2⟩]
    .rw[ax e2,ax (fun h=>e2 ⟨by omega,h.2⟩)]
noncomputable def put(s:ah)(key:ByteArray):ah:=cR s key (kA s key (qi key)) (qi key)
theorem NS{s:ah}(hs:cK s)(key:ByteArray):zM s key (put s key):=by have hr:=qn key;have h:=uL hs key (kA s key (qi key)) (qi key) hr.2;refine⟨by rw[show put s key=cR s key (kA s key (qi key)) (qi key) from rfl,h.cO,hs.1],h.len,h.keys,by rw[show put s key=cR s key (kA s key (qi key)) (qi key) from rfl,h.new],by rw[show put s key=cR s key (kA s key (qi key)) (qi key) from rfl,h.new];exact tF ..,fun j p hj hp=>h.nx j p hp,fun j hj=>?_⟩;unfold bU;rw[ax (by omega),show put s key=cR s key (kA s key (qi key)) (qi key) from rfl,h.new];show(kA s key (qi key)).getD j 0=_;rw[Qq s key _ j hj];rfl
theorem Qc{X:Ext}(hX:cY X)(N n:Nat)(hN:1<=N)(K0:ByteArray->Int->ah->ah->List Int->l7->Option ((ah×Bool×Unit)×Unit))(s z:ah)(hs:cK s)(key:ByteArray)(h:Nat)(hh:h<=4)(b:List Int)(hb:b.length=4)(oO:∀i,i<4->b.getD i 0=cG s key i)(q:Int) :
  ∀(d j m:Nat),j+d=h->d<m->xj (DD X N) n K0 m key q h j s z b (key,kA s key j,())=K0 key q s z b (key,kA s key h,())
 | _,_,0,_,h=>by omega
 | 0,j,m+1,hj,_=>by
  simp only[xj,EW];rw[qg (by omega)];obtain rfl:j=h:=by omega
  rfl
 | d+1,j,m+1,hj,hm=>by
  simp only[xj,EW];have hbd:=nM;have hl:=tF s key j;rw[qf (by omega),ix (by omega),aF,dR,oO j (by omega)];rw[show(s.1,s.2.1,())=s from rfl,pR hX hN s _ j (by rw[hs.1];omega) (rC hs key (by omega)),qc,qf (by omega),qu (by omega)];exact Qc hX N n hN K0 s z hs key h hh b hb oO q d (j+1) m (by omega) (by omega)
theorem Qb{X:Ext}(hX:cY X)(N n:Nat)(hN:1<=N)(K0:ah->ah->Option ((ah×Bool×Unit)×Unit))(s z:ah)(hs:cK s)(key:ByteArray)(v:List Int)(h:Nat)(hh:h<=4)(b:List Int)(hb:b.length=4)(oO:∀i,i<4->b.getD i 0=cG s key i) :
  ∀(d j m:Nat),j+d=h->d<m->zh (DD X N) n K0 m s.2.1.length h j (cR s key v j) z b=K0 (cR s key v h) z
 | _,_,0,_,h=>by omega
 | 0,j,m+1,hj,_=>by
  simp only[zh,EX];rw[qg (by omega)];obtain rfl:j=h:=by omega
  rfl
 | d+1,j,m+1,hj,hm=>by
  simp only[zh,EX];have ho:=uL hs key v j (by omega);rw[qf (by omega),ix (by omega),aF,dR,oO j (by omega),Wh hX hN _ _ j _ (by rw[ho.cO,hs.1];omega) (ho.on (rC hs key (by omega))),qc,qu (by omega)];exact Qb hX N n hN K0 s z hs key v h hh b hb oO d (j+1) m (by omega) (by omega)
def has(s:ah)(key:ByteArray):Prop:=∃x∈L s 0,(qh s x).1=key
noncomputable def ym(s:ah)(key:ByteArray):List Int->Int
 | []=>-1
 | x::l=>if eJ (qh s x).1 key then ym s key l else x
theorem Qs{s:ah}{key:ByteArray}:∀(l:List Int)(a:Int),path s 0 (bU s a 0) l->(∀x∈l,x≠-1)->l.Pairwise (fun x y=>eJ (qh s x).1 (qh s y).1)->bU s (qo s key a l) 0=ym s key l
 | [],a,h,_,_=>h
 | x::l,a,h,hl,hw=>by
  obtain⟨h1,h2,h3⟩:=h;obtain⟨w1,w2⟩:=jh.1 hw;simp only[qo,ym];by_cases e:eJ (qh s x).1 key
  .rw[aE e,aE e];have ex:bU s x 0=(qh s x).2.1.getD 0 0:=by unfold bU;rw[ax (hl x (ef ..))]
   exact Qs l x (by rw[ex];exact h3) (fun y hy=>hl y (d_ _ hy)) w2
  .rw[ax e,ax e,Fy l (fun y hy k=>e (yl (w1 y hy) k)),h1]
theorem QA{s:ah}{key:ByteArray}:∀(l:List Int),l.Pairwise (fun x y=>eJ (qh s x).1 (qh s y).1)->(∀x∈l,0<=x)->((∃x∈l,(qh s x).1=key)↔ym s key l≠-1/\(qh s (ym s key l)).1=key)
 | [],_,_=>by simp[ym]
 | x::l,hw,hl=>by
  obtain⟨w1,w2⟩:=jh.1 hw;have h0:=hl x (ef ..);simp only[ym];by_cases e:eJ (qh s x).1 key
  .rw[aE e,<-QA l w2 (fun y hy=>hl y (d_ _ hy))];constructor
   .rintro⟨y,hy,k⟩;rcases cU.1 hy with rfl | hy
    .rw[k]at e;exact absurd e (tG _)
    .exact⟨y,hy,k⟩
   .rintro⟨y,hy,k⟩;exact⟨y,d_ _ hy,k⟩
  .rw[ax e];constructor
   .rintro⟨y,hy,k⟩;rcases cU.1 hy with rfl | hy
    .exact⟨by omega,k⟩
    .exact absurd (k ▸ w1 y hy) e
   .rintro⟨_,k⟩;exact⟨x,ef ..,k⟩
theorem QJ{s:ah}(hs:cK s)(key:ByteArray):has s key↔bU s (cG s key 0) 0≠-1/\(qh s (bU s (cG s key 0) 0)).1=key:=by have hi:=ql s 0;have hp:=DV (hs.2.2.1 0 (by omega));have e:bU s (-1) 0=s.1.getD 0 0:=rfl;rw[DR hs key (by omega),Qs (L s 0) (-1) (by rw[e];exact hp) (fun x hx=>by have:=(hi.e7 x hx).1;omega) hi.pw];exact QA _ hi.pw (fun x hx=>(hi.e7 x hx).1)
theorem FC{s:ah}{key:ByteArray}:∀(l:List Int),(∀x∈l,0<=x)->((∃x∈l,(qh s x).1=key)↔qy s key l>=0)
 | [],_=>by simp[qy]
 | x::l,hl=>by
  have h0:=hl x (ef ..);simp only[qy];by_cases e:(qh s x).1=key
  .rw[aE e];exact⟨fun _=>h0,fun _=>⟨x,ef ..,e⟩⟩
  .rw[ax e,<-FC l (fun y hy=>hl y (d_ _ hy))];constructor
   .rintro⟨y,hy,k⟩;rcases cU.1 hy with rfl | hy
    .exact absurd k e
    .exact⟨y,hy,k⟩
   .rintro⟨y,hy,k⟩;exact⟨y,d_ _ hy,k⟩
noncomputable def fG(s:ah)(key:ByteArray):ah×Bool×Unit:=
 if cK s/\key.size<=40/\s.2.1.length<40/\¬ has s key then (put s key,true,()) else (s,false,())
theorem Ve{X:Ext}(hX:cY X){n:Nat}(hn:W+3<=n)(s:ah)(hs:iK 1048576 s)(hk:∀x∈s.2.1,x.1.size<=maxLen)(key:ByteArray)(hkey:key.size<=maxLen):L4 (DD X n) s key=some ((fG s key),()):=by
 obtain⟨n,rfl⟩:∃k,n=k+1:=⟨n-1,by omega⟩
 have hW:=gS;have hbd:=nM;have fE:=hs.2.1;rw[UC hX];simp only[Mz,MN,Lj];rw[Qg hX (by omega) s hs,qc];dsimp only;rw[show(s.1,s.2.1,())=s from rfl,yg hX (by omega) s fE hk,qc];dsimp only;unfold fG;by_cases h:cK s
 .rw[bJ h,cT,jI];by_cases nw:key.size<=40
  .rw[c6 (by omega:¬ ((key.size:Int)>40)),jI];by_cases Sr:s.2.1.length=40
   .rw[qf (by omega),ax (fun k=>by omega)]
   .have mb:=h.2.1;rw[qg (by omega)];obtain⟨b,i1,i2,i3⟩:=C1 hX (n:=n) (by omega) s h key;have e0:List.getD b 0 0=cG s key 0:=i2 0 (by omega);have ec:=pR hX (n:=n) (by omega) s (cG s key 0) 0 (by rw[h.1];omega) (Fz (NQ h key (by omega)));rw[show((0:Nat):Int)=0 from rfl]at ec;rw[i3,qc];dsimp only;have e4:(decide ((0:Nat)<=0)&&decide ((0:Int)<(b.length:Int)))=true:=by rw[i1];rfl
    rw[e4,aF,e0,ec,qc];dsimp only;have hr:=qn key;have tail:(qd (ze (DD X n) key) fun Ry=>xj (DD X n) n (fun cw dQ eS je ki qN=>BN (DD X n) n (Dv (DD X n) n) cw dQ eS je ki qN) n key (s.2.1.length:Int) Ry.1.1 0 s ([],[],()) b (key,[],()))=some ((put s key,true,()),()):=by rw[Nk hX (by omega) key hkey,qc];dsimp only;have:=Qc hX n n (by omega) (fun cw dQ eS je ki qN=>BN (DD X n) n (Dv (DD X n) n) cw dQ eS je ki qN) s ([],[],()) h key (qi key) hr.2 b i1 i2 (s.2.1.length:Int) (qi key) 0 n (by omega) (by omega);rw[show((0:Nat):Int)=0 from rfl]at this;refine hJ this ?_;simp only[BN];rw[qf (by omega),Nk hX (by omega) key hkey,qc];simp only[Dv];have:=Qb hX n n (by omega) (fun cw dQ=>O6 (DD X n) n cw dQ) s ([],[],()) h key (kA s key (qi key)) (qi key) hr.2 b i1 i2 (qi key) 0 n (by omega) (by omega);rw[show((0:Nat):Int)=0 from rfl]at this;refine hJ this ?_;rfl
    have hh:=QJ h key;by_cases iw:bU s (cG s key 0) 0 = -1
    .have e5:(bU s (cG s key 0) 0 != -1)=false:=by rw[iw];rfl
     rw[e5,bW,aE ⟨h,nw,by omega,fun k=>(hh.1 k).1 iw⟩];exact tail
    .have e5:(bU s (cG s key 0) 0 != -1)=true:=by rw[bne_iff_ne];exact iw
     have hm:=(Q6 h key).resolve_left iw;have o8:=(ql s 0).e7 _ hm;rw[e5,aF,gy o8.1 o8.2,aF,DP,show List.getD s.2.1 (Int.toNat (bU s (cG s key 0) 0)) (ByteArray.empty,[],())=qh s (bU s (cG s key 0) 0) from rfl];by_cases qY:(qh s (bU s (cG s key 0) 0)).1=key
     .rw[qf qY,ax (fun k=>k.2.2.2 (hh.2 ⟨iw,qY⟩))]
     .rw[qg qY,aE ⟨h,nw,by omega,fun k=>qY (hh.1 k).2⟩];exact tail
  .rw[bJ (by omega:(key.size:Int)>40),ru,aF,ax (fun k=>nw k.2.1)]
 .rw[c6 h,fY,ru,ru,aF,ax (fun k=>h k.1)]
theorem V9{a:ah}{p q:Int}{i j:Nat}{x y:Int}(hp:qt a p i)(hq:qt a q j)(h0:0<=q)(hne:p≠q):dg (dg a p i x) q j y=dg (dg a q j y) p i x:=by
 obtain⟨q1,q2,q3⟩:=hq.resolve_left (by omega);have e1:qh (dg a p i x) q=qh a q:=by rw[zq hp h0,ax (fun k=>hne k.symm)]
 by_cases h:p = -1
 .subst h;have neg:∀b:ah,dg b (-1) i x=(b.1.set i x,b.2.1,()):=fun b=>by unfold dg;rw[aE rfl]
  have pos:∀b:ah,dg b q j y=(b.1,b.2.1.set q.toNat ((qh b q).1,(qh b q).2.1.set j y,()),()):=fun b=>by unfold dg;rw[ax (by omega)]
  rw[pos (dg a (-1) i x),e1,neg,neg,pos]
 .obtain⟨p1,p2,p3⟩:=hp.resolve_left h;have e2:qh (dg a q j y) p=qh a p:=by rw[zq hq p1,ax hne]
  have f1:dg (dg a p i x) q j y=((dg a p i x).1,(dg a p i x).2.1.set q.toNat ((qh a q).1,(qh a q).2.1.set j y,()),()):=by
   conv=>lhs;unfold dg
   rw[ax (by omega)];show((dg a p i x).1,(dg a p i x).2.1.set q.toNat ((qh (dg a p i x) q).1,(qh (dg a p i x) q).2.1.set j y,()),())=_;rw[e1]
  have f2:dg (dg a q j y) p i x=((dg a q j y).1,(dg a q j y).2.1.set p.toNat ((qh a p).1,(qh a p).2.1.set i x,()),()):=by
   conv=>lhs;unfold dg
   rw[ax h];show((dg a q j y).1,(dg a q j y).2.1.set p.toNat ((qh (dg a q j y) p).1,(qh (dg a q j y) p).2.1.set i x,()),())=_;rw[e2]
  have g1:dg a p i x=(a.1,a.2.1.set p.toNat ((qh a p).1,(qh a p).2.1.set i x,()),()):=by unfold dg;rw[ax h]
  have g2:dg a q j y=(a.1,a.2.1.set q.toNat ((qh a q).1,(qh a q).2.1.set j y,()),()):=by unfold dg;rw[ax (by omega)]
  rw[f1,f2,g1,g2];show(a.1,(a.2.1.set p.toNat _).set q.toNat _,())=(a.1,(a.2.1.set q.toNat _).set p.toNat _,())
  rw[List.set_comm];omega
theorem Q1{s:ah}(hs:cK s)(key:ByteArray)(v:List Int){j:Nat}(hj:j<v.length)(x:Int):∀k,k<=4->dg (cR s key v k) s.2.1.length j x=cR s key (v.set j x) k
 | 0,_=>by
  simp only[cR];unfold dg;rw[ax (by omega),Fv (by omega),aE rfl];show(s.1,(s.2.1++[(key,v,())]).set _ (key,v.set j x,()),())=_;rw[dR];simp[base,C4]
 | k+1,hk=>by
  have ho:=uL hs key v k (by omega);have hb:=rC hs key (j:=k) (by omega);have hne:cG s key k≠(s.2.1.length:Int):=by rcases hb with h | h<;>omega
  simp only[cR];rw[V9 (ho.on hb) (.inr ⟨by omega,by rw[ho.len];omega,by rw[ho.new];exact hj⟩) (by omega) hne,Q1 hs key v hj x k (by omega)]
noncomputable def vk(s:ah)(key:ByteArray)(h k:Nat):List Int:=kA s key k++List.replicate (h-k) 0
theorem V0(s:ah)(key:ByteArray){h k:Nat}(hk:k<=h):(vk s key h k).length=h:=by unfold vk;rw[cS,tF,jD];omega
theorem We(s:ah)(key:ByteArray){h k:Nat}(hk:k<h):(vk s key h k).set k (bU s (cG s key k) k)=vk s key h (k+1):=by unfold vk;rw[show h-k=(h-(k+1))+1 by omega,List.replicate_succ,C4 _ _ (by rw[tF];omega),tF,Nat.sub_self];simp[kA]
abbrev FR:=Option ((ah×Bool×Unit)×Unit)
theorem Qv{X:Ext}(hX:cY X)(n:Nat)(hn:W+2<=n)(K0:ah->ah->ah->FR)(s z1:ah)(hs:cK s)(r0:s.2.1.length<=1048576)(key:ByteArray)(hkey:key.size<=maxLen):∀(d j m:Nat),j+d=qi key->d<m->
  zj (DD X n) n K0 m key s.2.1.length j s z1 s (cR s key (vk s key (qi key) j) j)=K0 z1 s (put s key)
 | _,_,0,_,h=>by omega
 | 0,j,m+1,hj,_=>by
  simp only[zj,E4];rw[zp hX (by omega) key hkey,qc];dsimp only;rw[qg (by omega)];have e:j=qi key:=by omega
  subst e;unfold put vk;simp
 | d+1,j,m+1,hj,hm=>by
  have hr:=qn key;have hb:=rC hs key (j:=j) (by omega);have ho:=uL hs key (vk s key (qi key) j) j (by omega);have mX:=uL hs key (vk s key (qi key) (j+1)) j (by omega);have hvl:=V0 s key (h:=qi key) (k:=j) (by omega);have RM:bU (cR s key (vk s key (qi key) j) j) (cG s key j) j=bU s (cG s key j) j:=by rw[ho.nx j _ hb,ax (fun k=>by omega)]
  simp only[zj,E4];rw[zp hX (by omega) key hkey,qc];dsimp only;rw[qf (by omega),P_ hX (by omega) s r0 j (by rw[hs.1];omega) key,qc];dsimp only;rw[<-DR hs key (j:=j) (by omega)];rw[show((cR s key (vk s key (qi key) j) j).1,(cR s key (vk s key (qi key) j) j).2.1,())=cR s key (vk s key (qi key) j) j from rfl];rw[VQ hX (by omega) _ _ j (by rw[ho.cO,hs.1];omega) (ho.on hb),qc];dsimp only;rw[RM,NA hX (by omega) _ _ j _ (by rw[ho.cO,hs.1];omega) (.inr ⟨by omega,by rw[ho.len];omega,by rw[ho.new];show j<(vk s key (qi key) j).length;omega⟩),qc];dsimp only;rw[Q1 hs key _ (by omega) _ j (by omega),We s key (by omega)];rw[show((cR s key (vk s key (qi key) (j+1)) j).1,(cR s key (vk s key (qi key) (j+1)) j).2.1,())=cR s key (vk s key (qi key) (j+1)) j from rfl];rw[NA hX (by omega) _ _ j _ (by rw[mX.cO,hs.1];omega) (mX.on hb),qc,qu (by omega)];exact Qv hX n hn K0 s z1 hs r0 key hkey d (j+1) m (by omega) (by omega)
theorem VO{s:ah}(hs:cK s){b:Nat}(hb:40<b)(fA:iK b s)(key:ByteArray)(v:List Int)(hv:v.length<=b):∀k,k<=4->iK b (cR s key v k):=by
 intro k hk;have h:=uL hs key v k hk;have mb:=hs.2.1;refine⟨by rw[h.cO];exact fA.1,by rw[h.len];omega,fun x hx=>?_⟩;obtain⟨i,hi,rfl⟩:=jg.1 hx;have e:(cR s key v k).2.1[i]=qh (cR s key v k) (i:Int):=by unfold qh;rw[dR,qv hi]
 rw[h.len]at hi;rw[e];by_cases h1:i<s.2.1.length
 .rw[(h.keys i (by omega) (by omega)).2];have:qh s (i:Int)∈s.2.1:=by unfold qh;rw[dR,qv h1];exact fy _
  exact fA.2.2 _ this
 .have e2:i=s.2.1.length:=by omega
  subst e2;rw[h.new];exact hv
theorem VM{s:ah}(hs:cK s)(key:ByteArray)(v:List Int){b:Nat}(hk:∀x∈s.2.1,x.1.size<=b)(hkey:key.size<=b):∀k,k<=4->∀x∈(cR s key v k).2.1,x.1.size<=b:=by
 intro k So x hx;have h:=uL hs key v k So;obtain⟨i,hi,rfl⟩:=jg.1 hx;have e:(cR s key v k).2.1[i]=qh (cR s key v k) (i:Int):=by unfold qh;rw[dR,qv hi]
 rw[h.len]at hi;rw[e];by_cases h1:i<s.2.1.length
 .rw[(h.keys i (by omega) (by omega)).1];have:qh s (i:Int)∈s.2.1:=by unfold qh;rw[dR,qv h1];exact fy _
  exact hk _ this
 .have e2:i=s.2.1.length:=by omega
  subst e2;rw[h.new];exact hkey
theorem Qt{s:ah}(hs:cK s){b:Nat}(hb:40<b)(fA:iK b s)(key:ByteArray):iK b (put s key):=by have hr:=qn key;exact VO hs hb fA key _ (by rw[tF];omega) _ hr.2
theorem Nx{s:ah}(hs:cK s)(key:ByteArray){b:Nat}(hk:∀x∈s.2.1,x.1.size<=b)(hkey:key.size<=b):∀x∈(put s key).2.1,x.1.size<=b:=
 VM hs key _ hk hkey _ (qn key).2
theorem P5{X:Ext}(hX:cY X){n:Nat}(hn:W+3<=n)(s:ah)(hs:iK 1048576 s)(hk:∀x∈s.2.1,x.1.size<=maxLen)(key:ByteArray)(hkey:key.size<=maxLen):E8 (DD X n) s key=some ((fG s key),()):=by
 obtain⟨n,rfl⟩:∃k,n=k+1:=⟨n-1,by omega⟩
 have hW:=gS;have hbd:=nM;have fE:=hs.2.1;rw[U1 hX];simp only[MC,MW,LS];rw[Fw hX (by omega) s hs,qc,Fp hX (by omega) s fE hk,qc];dsimp only;rw[show(s.1,s.2.1,())=s from rfl];unfold fG;by_cases h:cK s
 .rw[bJ h,cT,bW,QO hX (by omega) s fE (by rw[h.1];omega) key,qc];dsimp only;have hh:=FC (s:=s) (key:=key) (L s 0) (fun x hx=>((ql s 0).e7 x hx).1);by_cases g5:has s key
  .rw[bJ (hh.1 g5),ru,aF,ax (fun k=>k.2.2.2 g5)]
  .rw[c6 (fun k=>g5 (hh.2 k)),jI];by_cases nw:key.size<=40
   .rw[qg (by omega),qc,zp hX (by omega) key hkey,qc];dsimp only;have hr:=qn key;have mb:=h.2.1;rw[Rd (by omega),aF,qf (by omega),dR];have e0:=Qv hX n (by omega) (fun cw dQ eS=>Lp (DD X n) n cw dQ eS) s ([],[],()) h fE key hkey (qi key) 0 n (by omega) (by omega);rw[show((0:Nat):Int)=0 from rfl]at e0;refine hJ e0 ?_;simp only[Lp];have hput:=NS h key;have hok:=Rg h hput (fun x hx k=>g5 ⟨x,hx,k⟩);have hl:=hput.len;rw[show((put s key).1,(put s key).2.1,())=put s key from rfl,Fp hX (by omega) (put s key) (by omega) (Nx h key hk hkey),qc];dsimp only;by_cases Oc:s.2.1.length<40
    .rw[bJ (hok.2 (by omega)),cT,bW,aE ⟨h,nw,Oc,g5⟩]
    .rw[c6 (fun k=>by have:=hok.1 k;omega),fY,aF,ax (fun k=>Oc k.2.2.1)]
   .rw[qf (by omega),ax (fun k=>nw k.2.1)]
 .rw[c6 h,fY,aF,ax (fun k=>h k.1)]
end Go.G
namespace Go.G
open Go Go.V
abbrev jq:=List Int×Int×Int×Unit
def kD(c:jq):Prop:=c.1.length<=1048576/\0<=c.2.1/\c.2.1<=c.1.length
theorem sR(x:BitVec (IntKind.bits IntKind.i64)):0<=wrap .i64 ((BitVec.toNat (BitVec.and x (BitVec.ofInt (IntKind.bits IntKind.i64) 255)):Nat):Int)/\wrap .i64 ((BitVec.toNat (BitVec.and x (BitVec.ofInt (IntKind.bits IntKind.i64) 255)):Nat):Int)<=255:=by
 have h:BitVec.toNat (BitVec.and x (BitVec.ofInt (IntKind.bits IntKind.i64) 255))<=255:=by show BitVec.toNat (x &&&BitVec.ofInt (IntKind.bits IntKind.i64) 255)<=255;rw[BitVec.toNat_and];exact jH Nat.and_le_right (by decide)
 rw[qs (by omega) (by omega)];omega
theorem A5{X:Ext}(hX:cY X){n:Nat}(hn:1<=n){c:jq}(hc:kD c):∃(x:Int)(c':jq),0<=x/\x<=255/\kD c'/\yo (DD X n) c=some ((x,()),(c',())):=by
 obtain⟨n,rfl⟩:∃k,n=k+1:=⟨n-1,by omega⟩
 obtain⟨h1,h2,h3⟩:=hc;rw[JG hX];simp only[HM,B5];by_cases h:c.2.1<(c.1.length:Int)
 .rw[qf h,gy h2 h,aF,qs (x:=c.2.1+1) (by omega) (by omega)];refine⟨_,(c.1,c.2.1+1,_,()),(sR _).1,(sR _).2,⟨h1,?_,?_⟩,rfl⟩
  .show 0<=c.2.1+1;omega
  .show c.2.1+1<=(c.1.length:Int);omega
 .rw[qg h];have k:∀h u,kD (c.1,c.2.1,h,u):=fun _ _=>⟨h1,h2,h3⟩
  exact⟨_,_,(sR _).1,(sR _).2,k _ _,rfl⟩
theorem yp{X:Ext}(hX:cY X){n:Nat}(hn:2<=n){c:jq}(hc:kD c)(k:Int):∃(x:Int)(c':jq),(0<k->0<=x/\x<k)/\(k<=0->x=0)/\kD c'/\tH (DD X n) c k=some ((x,()),(c',())):=by
 obtain⟨n,rfl⟩:∃k,n=k+1:=⟨n-1,by omega⟩
 rw[JB hX];simp only[HH,B3];by_cases h:k<=0
 .rw[qf h];exact⟨0,c,fun h2=>by omega,fun _=>rfl,hc,rfl⟩
 .rw[qg h];by_cases h2:k<=256
  .obtain⟨x,c',x0,x1,vq,e⟩:=A5 hX (n:=n) (by omega) hc;rw[qf h2,e,qc];dsimp only;rw[qg (by omega)];refine⟨_,_,fun _=>?_,fun h3=>by omega,vq,rfl⟩;rw[lD x0];exact⟨Int.emod_nonneg _ (by omega),Int.emod_lt_of_pos _ (by omega)⟩
  .obtain⟨x,c1,x0,x1,lS,e1⟩:=A5 hX (n:=n) (by omega) hc;obtain⟨y,c2,y0,y1,fD,e2⟩:=A5 hX (n:=n) (by omega) lS;obtain⟨z,c3,z0,z1,lU,e3⟩:=A5 hX (n:=n) (by omega) fD;obtain⟨w,c4,w0,w1,Gq,e4⟩:=A5 hX (n:=n) (by omega) lU;rw[qg h2,e1,qc];dsimp only;rw[e2,qc];dsimp only;rw[e3,qc];dsimp only;rw[e4,qc];dsimp only;rw[qg (by omega),qs (x:=x * 16777216) (by omega) (by omega),qs (x:=y * 65536) (by omega) (by omega),qs (x:=x * 16777216+y * 65536) (by omega) (by omega),
    qs (x:=z * 256) (by omega) (by omega),qs (x:=x * 16777216+y * 65536+z * 256) (by omega) (by omega),qs (x:=x * 16777216+y * 65536+z * 256+w) (by omega) (by omega)]
   refine⟨_,_,fun _=>?_,fun h3=>by omega,Gq,rfl⟩;rw[lD (by omega)];exact⟨Int.emod_nonneg _ (by omega),Int.emod_lt_of_pos _ (by omega)⟩
theorem V2{X:Ext}(hX:cY X){n:Nat}(hn:3<=n){c:jq}(hc:kD c)(k:Int):∃(b:Bool)(c':jq),kD c'/\MT (DD X n) c k=some ((b,()),(c',())):=by
 obtain⟨n,rfl⟩:∃k,n=k+1:=⟨n-1,by omega⟩
 rw[Vw hX];simp only[M6,P6];obtain⟨x,c',_,_,vq,e⟩:=yp hX (n:=n) (by omega) hc k;rw[e,qc];exact⟨_,_,vq,rfl⟩
theorem V3{X:Ext}(hX:cY X){n:Nat}(hn:3<=n){c:jq}(hc:kD c)(l:List ByteArray)(hl:0<l.length):∃(x:ByteArray)(c':jq),x∈l/\kD c'/\Fj (DD X n) c l=some ((x,()),(c',())):=by
 obtain⟨n,rfl⟩:∃k,n=k+1:=⟨n-1,by omega⟩
 rw[Vx hX];simp only[M7,P7];obtain⟨x,c',h1,_,vq,e⟩:=yp hX (n:=n) (by omega) hc (l.length:Int);obtain⟨x0,x1⟩:=h1 (by omega);rw[e,qc];dsimp only;rw[gy x0 x1,aF,qv (by omega)];exact⟨_,_,fy _,vq,rfl⟩
theorem Br(D:Den ctx)(n:Nat){K0:List Int->Int->Option ((jq×Unit)×Unit)}(a:List Int)(ha:a.length<=1048576):∀(m i:Nat)(h:Int),i<=a.length->a.length-i<m->∃h':Int,DW D n K0 m a h i=K0 a h'
 | 0,_,_,_,h=>by omega
 | m+1,i,h,hi,hf=>by
  simp only[DW,HO];by_cases h1:i<a.length
  .by_cases h2:(i:Int)<4000
   .rw[bJ (by omega:(i:Int)<(a.length:Int)),ru,qf h2,bJ (by omega:(0:Int)<=(i:Int)),tw,aF,qu (by omega)];exact Br D n a ha m (i+1) _ (by omega) (by omega)
   .rw[bJ (by omega:(i:Int)<(a.length:Int)),ru,qg h2];exact⟨h,rfl⟩
  .rw[c6 (by omega:¬ (i:Int)<(a.length:Int)),jI,bW];exact⟨h,rfl⟩
theorem ye{X:Ext}(hX:cY X){n:Nat}(hn:W+1<=n)(a:List Int)(ha:a.length<=1048576):∃c:jq,kD c/\A0 (DD X n) a=some ((c,()),()):=by
 obtain⟨n,rfl⟩:∃k,n=k+1:=⟨n-1,by omega⟩
 have hW:=gS;rw[JL hX];simp only[HT,HU,HJ];obtain⟨h',e⟩:=Br (DD X n) n (K0:=fun v w=>B0 (DD X n) n v w) a ha n 0 (wrap .i64 (27323+(a.length:Int))) (by omega) (by omega);rw[show((0:Nat):Int)=0 from rfl]at e;exact⟨(a,0,h',()),⟨ha,by show(0:Int)<=0;omega,by show(0:Int)<=(a.length:Int);omega⟩,e⟩
theorem Kw{X:Ext}(hX:cY X){n:Nat}(hn:1<=n)(a:List Int):wQ (DD X n) a=some ((decide ((a.length:Int)>1048576),()),()):=by
 obtain⟨n,rfl⟩:∃k,n=k+1:=⟨n-1,by omega⟩
 rw[Im hX];rfl
def ND:List ByteArray:=
   (List.set
    (List.set
     (List.set
      (List.set
       (List.set
        (List.set
         (List.set
          (List.set
           (List.set
            (List.set (List.set (List.set (List.replicate 12 ByteArray.empty) 0 (ByteArray.mk #[])) 1 (ByteArray.mk #[UInt8.ofNat 97])) 2
             (ByteArray.mk #[UInt8.ofNat 98]))
            3 (ByteArray.mk #[UInt8.ofNat 99]))
           4 (ByteArray.mk #[UInt8.ofNat 100]))
          5 (ByteArray.mk #[UInt8.ofNat 101]))
         6 (ByteArray.mk #[UInt8.ofNat 102]))
        7 (ByteArray.mk #[UInt8.ofNat 103]))
       8 (ByteArray.mk #[UInt8.ofNat 97,UInt8.ofNat 97]))
      9 (ByteArray.mk #[UInt8.ofNat 97,UInt8.ofNat 98]))
     10 (ByteArray.mk #[UInt8.ofNat 98,UInt8.ofNat 97]))
    11 (ByteArray.mk #[UInt8.ofNat 0]))
theorem Vf:∀x∈ND,x.size<=2:=by decide +kernel
theorem Nl{X:Ext}(hX:cY X){n:Nat}(hn:4<=n){c:jq}(hc:kD c):∃(x:ByteArray)(c':jq),x.size<=2/\kD c'/\zl (DD X n) c=some ((x,()),(c',())):=by
 obtain⟨n,rfl⟩:∃k,n=k+1:=⟨n-1,by omega⟩
 rw[Tz hX];simp only[KU,Pp];obtain⟨x,c',hm,vq,e⟩:=V3 hX (n:=n) (by omega) hc ND (by decide);refine⟨x,c',Vf x hm,vq,?_⟩;show qd (Fj (DD X n) c ND) _=_;rw[e,qc]
open Classical
def qr:ah:=([-1,-1,-1,-1],[],())
theorem Vd{X:Ext}(hX:cY X){n:Nat}(hn:1<=n):E5 (DD X n)=some ((qr,()),()):=by
 obtain⟨n,rfl⟩:∃k,n=k+1:=⟨n-1,by omega⟩
 rw[UA hX];rfl
theorem P4{X:Ext}(hX:cY X){n:Nat}(hn:1<=n):E7 (DD X n)=some ((qr,()),()):=by
 obtain⟨n,rfl⟩:∃k,n=k+1:=⟨n-1,by omega⟩
 rw[U0 hX];rfl
theorem QY{b:Nat}(hb:4<=b):iK b qr:=⟨hb,ji _,fun x hx=>by simp[qr]at hx⟩
theorem V_{j:Nat}(hj:j<4):lane qr j=some []:=by
 have e:qr.1.getD j 0 = -1:=by rcases(by omega:j=0\/j=1\/j=2\/j=3) with rfl | rfl | rfl | rfl<;>rfl
 unfold lane;rw[e,show qr.2.1.length+1=0+1 from rfl,iL,aE rfl]
theorem VZ:cK qr:=⟨rfl,ji _,fun j hj=>by rw[V_ hj];rfl,fun k hk=>absurd hk (Nat.not_lt_zero _)⟩
structure jr (s a:ah):Prop where
 cO:a.1.length=s.1.length
 len:a.2.1.length=s.2.1.length
 keys:∀q:Int,0<=q->(qh a q).1=(qh s q).1/\(qh a q).2.1.length=(qh s q).2.1.length
theorem jr.refl(s:ah):jr s s:=⟨rfl,rfl,fun _ _=>⟨rfl,rfl⟩⟩
theorem jr.on{s a:ah}(h:jr s a){p:Int}{j:Nat}(hp:qt s p j):qt a p j:=
 hp.imp id fun⟨h1,h2,h3⟩=>⟨h1,by rw[h.len];exact h2,by rw[(h.keys p h1).2];exact h3⟩
theorem jr.dg{s a:ah}(h:jr s a){p:Int}{j:Nat}(hp:qt s p j)(to:Int):jr s (dg a p j to):=
 ⟨by rw[Qp,h.cO],by rw[Q8,h.len],fun q hq=>by
  have:=Q7 (to:=to) (h.on hp) hq;rw[this.1,this.2];exact h.keys q hq⟩
theorem jr.mem{s a:ah}(h:jr s a){x:l7}(hx:x∈a.2.1):∃y∈s.2.1,x.1=y.1/\x.2.1.length=y.2.1.length:=by
 obtain⟨i,hi,rfl⟩:=jg.1 hx;have hi2:i<s.2.1.length:=by rw[<-h.len];exact hi
 have:=h.keys (i:Int) (by omega);unfold qh at this;rw[dR,qv hi,qv hi2]at this;exact⟨_,fy hi2,this.1,this.2⟩
noncomputable def cN(s:ah)(key:ByteArray)(x:Int):Nat->ah
 | 0=>s
 | k+1=>dg (cN s key x k) (cG s key k) k (bU s x k)
theorem pU{s:ah}(hs:cK s)(key:ByteArray)(x:Int):∀k,k<=4->jr s (cN s key x k)
 | 0,_=>.refl s
 | k+1,hk=>(pU hs key x k (by omega)).dg (rC hs key (by omega)) _
noncomputable def del(s:ah)(key:ByteArray):ah:=
 let x:=qy s key (L s 0)
 let a:=cN s key x (qi key)
 (a.1,a.2.1.set x.toNat ((qh a x).1,[],()),())
theorem Fx{s:ah}{key:ByteArray}:∀(l:List Int),0<=qy s key l->qy s key l∈l/\(qh s (qy s key l)).1=key
 | [],h=>by simp[qy]at h
 | x::l,h=>by
  unfold qy at h⊢;split
  .rename_i e;exact⟨ef ..,e⟩
  .rename_i e;rw[ax e]at h;have:=Fx l h;exact⟨d_ _ this.1,this.2⟩
theorem Qk{X:Ext}(hX:cY X)(n:Nat)(hn:W+2<=n)(K0:Int->ah->ah->FR)(s z1:ah)(hs:cK s)(r0:s.2.1.length<=1048576)(key:ByteArray)(hkey:key.size<=maxLen)(x:Int)(hx0:0<=x)(hx1:x<s.2.1.length)(uH:(qh s x).2.1.length=qi key):∀(d j m:Nat),j+d=qi key->d<m->
  zi (DD X n) n K0 m key x j s z1 (cN s key x j)=K0 x z1 (cN s key x (qi key))
 | _,_,0,_,h=>by omega
 | 0,j,m+1,hj,_=>by
  simp only[zi,E2];rw[zp hX (by omega) key hkey,qc];dsimp only;rw[qg (by omega)];have e:j=qi key:=by omega
  subst e;rfl
 | d+1,j,m+1,hj,hm=>by
  have hr:=qn key;have hb:=rC hs key (j:=j) (by omega);have ho:=pU hs key x j (by omega);have hi:(decide (0<=x)&&decide (x<(s.2.1.length:Int)))=true:=gy hx0 hx1;have hi2:(decide ((0:Int)<=(j:Int))&&decide ((j:Int)<((s.2.1.getD x.toNat (ByteArray.empty,[],())).2.1.length:Int)))=true:=by have:(s.2.1.getD x.toNat (ByteArray.empty,[],())).2.1.length=qi key:=uH;rw[this];rw[bJ (by omega:(0:Int)<=(j:Int)),bJ (by omega:(j:Int)<((qi key:Nat):Int))];rfl
  simp only[zi,E2];rw[zp hX (by omega) key hkey,qc];dsimp only;rw[qf (by omega),P_ hX (by omega) s r0 j (by rw[hs.1];omega) key,qc];dsimp only;rw[<-DR hs key (j:=j) (by omega),hi,aF,hi2,aF];rw[show((cN s key x j).1,(cN s key x j).2.1,())=cN s key x j from rfl];rw[NA hX (by omega) _ _ j _ (by rw[ho.cO,hs.1];omega) (ho.on hb),qc,qu (by omega)];have e:(s.2.1.getD x.toNat (ByteArray.empty,[],())).2.1.getD (j:Int).toNat 0=bU s x j:=by unfold bU;rw[ax (by omega),dR];rfl
  rw[e];exact Qk hX n hn K0 s z1 hs r0 key hkey x hx0 hx1 uH d (j+1) m (by omega) (by omega)
noncomputable def fQ(s:ah)(key:ByteArray):ah×Bool×Unit:=if cK s/\has s key then (del s key,true,()) else (s,false,())
theorem FB{s:ah}(h:cK s)(fE:s.2.1.length<=1048576){key:ByteArray}(hh:has s key):0<=qy s key (L s 0)/\qy s key (L s 0)<s.2.1.length/\(qh s (qy s key (L s 0))).2.1.length=qi key:=by have h0:=(FC (s:=s) (key:=key) (L s 0) (fun x hx=>((ql s 0).e7 x hx).1)).1 hh;obtain⟨hm,he⟩:=Fx (L s 0) h0;have hr:=(ql s 0).e7 _ hm;refine⟨h0,hr.2,?_⟩;have:=(uM s).1 h;have h3:=(this.2.2 0 (by omega)).2.2 _ hm;rw[h3.1,he]
theorem P3{X:Ext}(hX:cY X){n:Nat}(hn:W+3<=n)(s:ah)(hs:iK 1048576 s)(hk:∀x∈s.2.1,x.1.size<=maxLen)(key:ByteArray)(hkey:key.size<=maxLen):E6 (DD X n) s key=some ((fQ s key),()):=by
 obtain⟨n,rfl⟩:∃k,n=k+1:=⟨n-1,by omega⟩
 have hW:=gS;have fE:=hs.2.1;rw[UE hX];simp only[MB,Ms,LM];rw[Fp hX (by omega) s fE hk,qc];dsimp only;unfold fQ;by_cases h:cK s
 .rw[bJ h,cT,bW,QO hX (by omega) s fE (by rw[h.1];omega) key,qc];dsimp only;have hh:=FC (s:=s) (key:=key) (L s 0) (fun x hx=>((ql s 0).e7 x hx).1);by_cases g5:has s key
  .obtain⟨g1,g2,g3⟩:=FB h fE g5;have hr:=qn key;rw[qg (by omega),Fw hX (by omega) s hs,qc,qc];dsimp only;have e0:=Qk hX n (by omega) (fun cw dQ eS=>K5 (DD X n) n cw dQ eS) s ([],[],()) h fE key hkey _ g1 g2 g3 (qi key) 0 n (by omega) (by omega);rw[show((0:Nat):Int)=0 from rfl,show cN s key (qy s key (L s 0)) 0=s from rfl]at e0;rw[show(s.1,s.2.1,())=s from rfl];refine hJ e0 ?_;simp only[K5];have ho:=pU h key (qy s key (L s 0)) (qi key) (by omega);rw[gy g1 (by rw[ho.len];exact g2),aF,aE ⟨h,g5⟩];rfl
  .rw[qf (by have:=mt hh.2 g5;omega),Fw hX (by omega) s hs,qc,ax (fun k=>g5 k.2)]
 .rw[c6 h,fY,aF,Fw hX (by omega) s hs,qc,ax (fun k=>h k.1)]
theorem Qz{s:ah}(h:cK s){b:Nat}(hs:iK b s)(key:ByteArray):iK b (del s key):=by
 have hr:=qn key;have ho:=pU h key (qy s key (L s 0)) (qi key) hr.2;refine⟨by show(cN ..).1.length<=b;rw[ho.cO];exact hs.1,by show(List.set ..).length<=b;rw[kr,ho.len];exact hs.2.1,fun x hx=>?_⟩;rcases uj hx with hx | rfl
 .obtain⟨y,hy,_,e⟩:=ho.mem hx;rw[e];exact hs.2.2 y hy
 .exact ji _
theorem QU{s:ah}(h:cK s)(fE:s.2.1.length<=1048576){key:ByteArray}(hh:has s key){b:Nat}(hk:∀x∈s.2.1,x.1.size<=b):∀x∈(del s key).2.1,x.1.size<=b:=by
 have hr:=qn key;obtain⟨g1,g2,_⟩:=FB h fE hh;have ho:=pU h key (qy s key (L s 0)) (qi key) hr.2;intro x hx;rcases uj hx with hx | rfl
 .obtain⟨y,hy,e,_⟩:=ho.mem hx;rw[e];exact hk y hy
 .show(qh _ _).1.size<=b;rw[(ho.keys _ g1).1];have:qh s (qy s key (L s 0))∈s.2.1:=by unfold qh;rw[qv (by omega)];exact fy _
  exact hk _ this
def tS(s:ah):Prop:=s.1.length=4/\iK 64 s/\∀x∈s.2.1,x.1.size<=2
theorem VU{s:ah}(h:tS s){key:ByteArray}(hk:key.size<=2):tS (fG s key).1:=by
 unfold fG;split
 .rename_i k;exact⟨(NS k.1 key).cO,Qt k.1 (by omega) h.2.1 key,Nx k.1 key h.2.2 hk⟩
 .exact h
theorem VT{s:ah}(h:tS s){key:ByteArray}:tS (fQ s key).1:=by
 have:=h.2.1.2.1;unfold fQ;split
 .rename_i k;refine⟨?_,Qz k.1 h.2.1 key,QU k.1 (by omega) k.2 h.2.2⟩;show(cN ..).1.length=4;rw[(pU k.1 key _ _ (qn key).2).cO,h.1]
 .exact h
theorem VS{s:ah}(h:tS s):iK 1048576 s/\∀x∈s.2.1,x.1.size<=maxLen:=by have:=yh;exact⟨h.2.1.mono (by omega),fun x hx=>by have:=h.2.2 x hx;omega⟩
theorem Np{X:Ext}(hX:cY X)(n:Nat)(hn:W+3<=n)(K0:jq->ah->ah->Option ((ah×Unit)×(jq×Unit)))(z:ah):∀(m i:Nat)(c:jq)(s:ah),kD c->tS s->i<=14->14-i<m->
  ∃(c':jq)(s':ah),kD c'/\tS s'/\Cy (DD X n) n K0 m i c z s=K0 c' z s'
 | 0,_,_,_,_,_,_,h=>by omega
 | m+1,i,c,s,hc,hs,hi,hm=>by
  have hd:=yh;have hW:=gS;simp only[Cy,KS];obtain⟨x,c1,h1,_,lS,e1⟩:=yp hX (n:=n) (by omega) hc 14;obtain⟨x0,x1⟩:=h1 (by omega);rw[e1,qc];dsimp only;by_cases hlt:(i:Int)<x
  .obtain⟨b,c2,fD,e2⟩:=V2 hX (n:=n) (by omega) lS 5;obtain⟨key,c3,hk,lU,e3⟩:=Nl hX (n:=n) (by omega) fD;obtain⟨b1,b2⟩:=VS hs;rw[qf hlt,e2,qc];dsimp only;cases b with
   | true=>rw[aF,e3,qc];dsimp only;rw[show(s.1,s.2.1,())=s from rfl,P3 hX hn s b1 b2 key (by omega),qc,qu (by omega)];exact Np hX n hn K0 z m (i+1) c3 (fQ s key).1 lU (VT hs) (by omega) (by omega)
   | false=>rw[bW,e3,qc];dsimp only;rw[show(s.1,s.2.1,())=s from rfl,P5 hX hn s b1 b2 key (by omega),qc,qu (by omega)];exact Np hX n hn K0 z m (i+1) c3 (fG s key).1 lU (VU hs hk) (by omega) (by omega)
  .rw[qg hlt];exact⟨c1,s,lS,hs,rfl⟩
theorem VK:tS qr:=⟨rfl,QY (by omega),fun x hx=>by simp[qr]at hx⟩
theorem U6{X:Ext}(hX:cY X){n:Nat}(hn:W+4<=n){c:jq}(hc:kD c):∃(s:ah)(c':jq),tS s/\kD c'/\KN (DD X n) c=some ((s,()),(c',())):=by
 obtain⟨n,rfl⟩:∃k,n=k+1:=⟨n-1,by omega⟩
 have hW:=gS;rw[Ti hX];simp only[KO,KP,KQ];rw[P4 hX (by omega),qc];dsimp only;obtain⟨c',s',h1,h2,e⟩:=Np hX n (by omega) (fun cw dQ eS=>OO (DD X n) n cw dQ eS) ([],[],()) n 0 c qr hc VK (by omega) (by omega);rw[show((0:Nat):Int)=0 from rfl]at e;rw[show(qr.1,qr.2.1,())=qr from rfl];exact⟨s',c',h2,h1,e⟩
end Go.G
namespace Go.G
open Go Go.V
def gW(s:ah):Prop:=iK 128 s/\∀x∈s.2.1,x.1.size<=2
theorem gW.set{s:ah}(h:gW s)(i:Nat)(x:l7)(h1:x.1.size<=2)(h2:x.2.1.length<=128):gW (s.1,s.2.1.set i x,()):=by
 refine⟨⟨h.1.1,by show(List.set ..).length<=128;rw[kr];exact h.1.2.1,fun y hy=>?_⟩,fun y hy=>?_⟩
 .rcases uj hy with hy | rfl
  .exact h.1.2.2 y hy
  .exact h2
 .rcases uj hy with hy | rfl
  .exact h.2 y hy
  .exact h1
theorem DS{s:ah}(h:gW s):iK 1048576 s/\∀x∈s.2.1,x.1.size<=maxLen:=by have:=yh;exact⟨h.1.mono (by omega),fun x hx=>by have:=h.2 x hx;omega⟩
theorem Nt{X:Ext}(hX:cY X){n:Nat}(hn:W+5<=n){c:jq}(hc:kD c):∃(s:ah)(c':jq),gW s/\kD c'/\Dp (DD X n) c=some ((s,()),(c',())):=by
 obtain⟨n,rfl⟩:∃k,n=k+1:=⟨n-1,by omega⟩
 have hW:=gS;have hb:=nM;rw[U3 hX];simp only[ME,PE];obtain⟨s,c1,hs,lS,e1⟩:=U6 hX (n:=n) (by omega) hc;obtain⟨x,c2,_,_,fD,e2⟩:=yp hX (n:=n) (by omega) lS 10;have hd:gW s:=⟨hs.2.1.mono (by omega),hs.2.2⟩
 rw[e1,qc];dsimp only;rw[e2,qc];dsimp only;by_cases h0:x=0
 .rw[bJ h0,aF];obtain⟨y,c3,h3,_,lU,e3⟩:=yp hX (n:=n) (by omega) fD 4;obtain⟨y0,y1⟩:=h3 (by omega);obtain⟨z,c4,_,_,Gq,e4⟩:=yp hX (n:=n) (by omega) lU 6;rw[e3,qc];dsimp only;rw[e4,qc];dsimp only;rw[gy y0 (by rw[hs.1];exact y1),aF];refine⟨(s.1.set y.toNat (wrap .i64 (z-2)),s.2.1,()),c4,⟨⟨?_,hd.1.2.1,hd.1.2.2⟩,hd.2⟩,Gq,rfl⟩;show(List.set ..).length<=128;rw[kr];exact hd.1.1
 .rw[c6 h0,bW];by_cases h1:x=1
  .rw[bJ h1,aF];by_cases hl:(s.2.1.length:Int)>0
   .have hl':0<s.2.1.length:=by omega
    have hn0:s.2.1.getD 0 (ByteArray.empty,[],())∈s.2.1:=by rw[qv hl'];exact fy _
    have hlt:decide ((0:Int)<(s.2.1.length:Int))=true:=bJ hl;have Ao:=hs.2.1.2.2 _ hn0;simp only[Vg hl',List.set_set,kr,hlt,bJ (bN 0),tw,aF];rw[qf (by omega)];refine⟨_,c2,?_,fD,rfl⟩;have hk:=hd.2 _ hn0;refine hd.set 0 (_,_++[-1],_) hk ?_;show(_++[(-1:Int)]).length<=128;rw[cS];simp only[g9,List.length_nil];omega
   .rw[qg hl];exact⟨_,_,hd,fD,rfl⟩
  .rw[c6 h1,bW];by_cases h2:x=2
   .rw[bJ h2,aF];by_cases hl:(s.2.1.length:Int)>0
    .rw[qf hl];obtain⟨y,c3,h3,_,lU,e3⟩:=yp hX (n:=n) (by omega) fD (s.2.1.length:Int);obtain⟨y0,y1⟩:=h3 (by omega);rw[e3,qc];dsimp only;rw[gy y0 y1,aF];have hm:s.2.1.getD y.toNat (ByteArray.empty,[],())∈s.2.1:=by rw[qv (by omega)];exact fy _
     refine⟨_,c3,?_,lU,rfl⟩;have hk:=hd.1.2.2 _ hm;have hz:(ByteArray.mk #[UInt8.ofNat 122,UInt8.ofNat 122]).size<=2:=by decide
     exact hd.set y.toNat (ByteArray.mk #[UInt8.ofNat 122,UInt8.ofNat 122],(s.2.1.getD y.toNat (ByteArray.empty,[],())).2) hz hk
    .rw[qg hl];exact⟨_,_,hd,fD,rfl⟩
   .rw[c6 h2,bW];exact⟨_,_,hd,fD,rfl⟩
open Classical
structure Cut (s:ah) (key:ByteArray) (x:Int) (t:ah):Prop where
 cO:t.1.length=4
 len:t.2.1.length=s.2.1.length
 keys:∀p:Int,0<=p->(qh t p).1=(qh s p).1
 lens:∀p:Int,0<=p->p≠x->(qh t p).2.1.length=(qh s p).2.1.length
 nx:∀(j:Nat)(p:Int),j<4->p≠x->qt s p j->bU t p j=if j<qi key/\p=cG s key j then bU s x j else bU s p j
theorem QI{s:ah}(hs:cK s)(key:ByteArray)(x:Int):∀k,k<=4->∀(j:Nat)(p:Int),qt s p j->bU (cN s key x k) p j=if j<k/\p=cG s key j then bU s x j else bU s p j
 | 0,_,j,p,_=>by rw[ax (by omega)];rfl
 | k+1,hk,j,p,hp=>by
  have hl:=pU hs key x k (by omega);have ih:=QI hs key x k (by omega) j p hp;have hb:=hl.on (rC hs key (j:=k) (by omega));simp only[cN];rw[Q9 (by rw[hl.cO,hs.1];omega) hb (hp.imp id fun q=>q.1),ih];by_cases e:p=cG s key k/\j=k
  .obtain⟨e1,rfl⟩:=e;rw[aE ⟨e1,rfl⟩,aE ⟨by omega,e1⟩]
  .rw[ax e];by_cases e2:j<k/\p=cG s key j
   .rw[aE e2,aE ⟨by omega,e2.2⟩]
   .rw[ax e2,ax];rintro⟨q1,q2⟩;by_cases q3:j=k
    .subst q3;exact e ⟨q2,rfl⟩
    .exact e2 ⟨by omega,q2⟩
theorem VX{s:ah}(hs:cK s)(key:ByteArray){x:Int}(e:qy s key (L s 0)=x)(h0:0<=x)(h1:x<s.2.1.length):Cut s key x (del s key):=by
 have hr:=qn key;have ho:=pU hs key x (qi key) hr.2;have hn:∀p:Int,0<=p->qh (del s key) p=if p=x then ((qh (cN s key x (qi key)) x).1,[],()) else qh (cN s key x (qi key)) p:=by
  intro p hp;unfold del;rw[e];unfold qh;dsimp only;rw[yj (by rw[ho.len];omega)];by_cases q:p=x
  .rw[aE q,aE (by rw[q])]
  .rw[ax q,ax (by omega)]
 refine⟨?_,?_,fun p hp=>?_,fun p hp hx=>?_,fun j p hj hx hp=>?_⟩
 .unfold del;rw[e];dsimp only;rw[ho.cO];exact hs.1
 .unfold del;rw[e];dsimp only;rw[kr,ho.len]
 .rw[hn p hp];by_cases q:p=x
  .rw[aE q];dsimp only;rw[(ho.keys x h0).1,q]
  .rw[ax q,(ho.keys p hp).1]
 .rw[hn p hp,ax hx,(ho.keys p hp).2]
 .rw[<-QI hs key x (qi key) hr.2 j p hp];rcases hp with rfl | ⟨q0,_,_⟩
  .unfold del;rw[e];rfl
  .unfold bU;rw[ax (by omega),ax (by omega),hn p q0,ax hx]
theorem QZ{s t:ah}{key:ByteArray}{x:Int}(h:Cut s key x t){j:Nat}(hj:j<4)(hh:j<qi key)(hkey:(qh s x).1=key):∀(l:List Int)(a:Int),path s j (bU s a j) l->qt s a j->a≠x->x∈l->(∀y∈l,qt s y j/\y≠a/\y≠-1)->l.Pairwise (fun x y=>eJ (qh s x).1 (qh s y).1)->l.Nodup->cG s key j=qo s key a l->
  path t j (bU t a j) (l.erase x)
 | [],a,_,_,_,hx,_,_,_,_=>by simp at hx
 | y::l,a,hp,ha,R6,hx,hl,hw,hn,hb=>by
  obtain⟨p1,p2,p3⟩:=hp;obtain⟨w1,w2⟩:=jh.1 hw;obtain⟨n1,n2⟩:=sk.1 hn;obtain⟨x1,x2,x3⟩:=hl y (ef ..);have ey:∀(u:ah)(z:Int),z≠-1->bU u z j=(qh u z).2.1.getD j 0:=fun u z hz=>by unfold bU;rw[ax hz]
  have e1:=h.nx j a hj R6 ha;by_cases e:y=x
  .subst e;have hba:cG s key j=a:=by
    rw[hb];simp only[qo];rw[ax (by rw[hkey];exact tG key)];exact Fy l fun z hz=>by
     have:=w1 z hz;rw[hkey]at this;exact VV this
   rw[aE ⟨hh,hba.symm⟩]at e1;rw[List.erase_cons_head,e1,ey s y x3];refine DO (s:=s) p3 fun z hz=>?_;obtain⟨z1,z2,z3⟩:=hl z (d_ _ hz);have ED:z≠y:=fun k=>n1 (k ▸ hz);have e5:=h.nx j z hj ED z1;rw[ax (by rw[hba];exact fun k=>z2 k.2),ey t z z3,ey s z z3]at e5;exact e5
  .have OH:x∈l:=(cU.1 hx).resolve_left (fun k=>e k.symm);have hk:=w1 x OH;rw[hkey]at hk;simp only[qo]at hb;rw[aE hk]at hb;have hba:¬ a=cG s key j:=by
    rw[hb];intro k;rcases DQ (s:=s) (key:=key) l y with m | ⟨m,_⟩
    .rw[m]at k;exact x2 k.symm
    .exact(hl _ (d_ _ m)).2.1 k.symm
   rw[ax (fun k=>hba k.2)]at e1;rw[List.erase_cons_tail (by simpa using e)];refine⟨e1.trans p1,p2,?_⟩;have:=QZ h hj hh hkey l y (by rw[ey s y x3];exact p3) x1 e OH (fun z hz=>⟨(hl z (d_ _ hz)).1,fun k=>n1 (k ▸ hz),(hl z (d_ _ hz)).2.2⟩) w2 n2 hb;rw[<-ey t y x3];exact this
theorem Wc{s:ah}(hs:cK s){x:Int}(hx:x∈L s 0){j:Nat}(hj:j<4):x∈L s j↔j<qi (qh s x).1:=by
 have h:=(((uM s).1 hs).2.2 j hj).2.2 x hx;rw[<-h.2,rz (ql s j).nodup];by_cases q:x∈L s j
 .simp[q]
 .simp[q]
theorem QT{s t:ah}{key:ByteArray}{x:Int}(hs:cK s)(h:Cut s key x t)(hx:x∈L s 0)(hkey:(qh s x).1=key){j:Nat}(hj:j<4):lane t j=some ((L s j).erase x):=by
 have hi:=ql s j;have hsome:=hs.2.2.1 j hj;have hp:=DV hsome;have WG:=(ql s 0).e7 x hx;have qZ:∀y∈L s j,qt s y j/\y≠-1:=fun y hy=>⟨.inr ⟨(hi.e7 y hy).1,(hi.e7 y hy).2,rD s j y hy⟩,by have:=(hi.e7 y hy).1;omega⟩
 have Al:bU t (-1) j=t.1.getD j 0:=rfl;have hin:=Wc hs hx hj;rw[hkey]at hin;have eI:path t j (t.1.getD j 0) ((L s j).erase x):=by
  by_cases hh:j<qi key
  .have:=QZ h hj hh hkey (L s j) (-1) (by have e:bU s (-1) j=s.1.getD j 0:=rfl;rw[e];exact hp) (.inl rfl) (by omega) (hin.2 hh) (fun y hy=>⟨(qZ y hy).1,(qZ y hy).2,(qZ y hy).2⟩) hi.pw hi.nodup (DR hs key hj);rw[Al]at this;exact this
  .have Ao:x∉L s j:=fun k=>hh (hin.1 k);rw[C3 Ao];have e0:=h.nx j (-1) hj (by omega) (.inl rfl);rw[ax (fun k=>hh k.1),Al]at e0;rw[e0];refine DO (s:=s) hp fun y hy=>?_;obtain⟨y1,y3⟩:=qZ y hy;have e5:=h.nx j y hj (fun k=>Ao (k ▸ hy)) y1;rw[ax (fun k=>hh k.1)]at e5;have ey:∀u:ah,bU u y j=(qh u y).2.1.getD j 0:=fun u=>by unfold bU;rw[ax y3]
   rw[ey,ey]at e5;exact e5
 unfold lane;have hlen:((L s j).erase x).length<=(L s j).length:=List.length_erase_le ..;have:=Fl ((L s j).erase x) (t.2.1.length+1) _ [] (by rw[h.len];have:=hi.len;omega) eI (fun y hy=>by
   have jv:=(hi.nodup.mem_erase_iff).1 hy;have h1:=hi.e7 y jv.2;have h3:=rD s j y jv.2;have h4:=h.lens y h1.1 jv.1;exact⟨h1.1,by rw[h.len];omega,by omega⟩) (by
   rw[lN];refine NU ?_ (hi.pw.sublist (List.erase_sublist ..));intro a b ha hb k;have zV:=xg ha;have ek:=xg hb;rw[h.keys a (hi.e7 a zV).1,h.keys b (hi.e7 b ek).1];exact k)
 simpa using this
theorem Rl{s t:ah}{key:ByteArray}{x:Int}(hs:cK s)(h:Cut s key x t)(hx:x∈L s 0)(hkey:(qh s x).1=key){j:Nat}(hj:j<4):L t j=(L s j).erase x:=Nr (QT hs h hx hkey hj)
theorem VW{s t:ah}{key:ByteArray}{x:Int}(hs:cK s)(h:Cut s key x t)(hx:x∈L s 0)(hkey:(qh s x).1=key):cK t:=by
 rw[uM];have hL:=fun {j:Nat} (hj:j<4)=>Rl hs h hx hkey hj;refine⟨h.cO,by rw[h.len];exact hs.2.1,fun i hi=>⟨by rw[QT hs h hx hkey hi];rfl,fun y hy=>?_,fun e he=>?_⟩⟩
 .rw[hL hi]at hy;rw[hL (by omega)];have jv:=((ql s i).nodup.mem_erase_iff).1 hy;exact((ql s 0).nodup.mem_erase_iff).2 ⟨jv.1,DU hs (ji _) hi jv.2⟩
 .rw[hL (by omega)]at he;have nu:=((ql s 0).nodup.mem_erase_iff).1 he;have o8:=(ql s 0).e7 e nu.2;obtain⟨a1,a2⟩:=(((uM s).1 hs).2.2 i hi).2.2 e nu.2;unfold kJ;rw[h.keys e o8.1,h.lens e o8.1 nu.1];refine⟨a1,?_⟩;rw[<-a2,rz (ql s i).nodup,rz (ql t i).nodup,hL hi];by_cases q:e∈L s i
  .rw[aE q,aE (((ql s i).nodup.mem_erase_iff).2 ⟨nu.1,q⟩)]
  .rw[ax q,ax (fun k=>q (((ql s i).nodup.mem_erase_iff).1 k).2)]
theorem Wb{s:ah}(hs:cK s)(fE:s.2.1.length<=1048576){key:ByteArray}(hh:has s key):cK (del s key)/\key∉keys (del s key)/\(keys (del s key)).length+1=(keys s).length:=by
 obtain⟨g1,g2,_⟩:=FB hs fE hh;obtain⟨hm,hk⟩:=Fx (L s 0) g1;have hc:=VX hs key rfl g1 g2;have hok:=VW hs hc hm hk;have hL:=Rl hs hc hm hk (j:=0) (by omega);refine⟨hok,?_,?_⟩
 .unfold keys;rw[aE hok,hL];intro hin;obtain⟨y,hy,ey⟩:=fZ.1 hin;have jv:=((ql s 0).nodup.mem_erase_iff).1 hy;have hy0:=((ql s 0).e7 y jv.2).1;rw[hc.keys y hy0]at ey;have vG:=(ql s 0).pw;have:∀a∈L s 0,∀b∈L s 0,(qh s a).1=(qh s b).1->a=b:=by
   intro a ha b hb hab;obtain⟨i,hi,rfl⟩:=jg.1 ha;obtain⟨j,hj,rfl⟩:=jg.1 hb;rw[wZ]at vG;rcases Nat.lt_trichotomy i j with q | q | q
   .have:=vG i j hi hj q;rw[hab]at this;exact absurd this (tG _)
   .subst q;rfl
   .have:=vG j i hj hi q;rw[hab]at this;exact absurd this (tG _)
  exact jv.1 (this y jv.2 _ hm (ey.trans hk.symm))
 .unfold keys;rw[aE hok,aE hs,hL,lO,lO,CA hm];have:0<(L s 0).length:=List.length_pos_of_mem hm;omega
theorem Wd{s:ah}(hs:cK s){key:ByteArray}(hh:¬ has s key)(mb:s.2.1.length+1<=40):cK (put s key)/\key∈keys (put s key)/\(∀k∈keys s,k∈keys (put s key))/\(keys (put s key)).length=(keys s).length+1:=by
 have hp:=NS hs key;have hnew:∀x∈L s 0,(qh s x).1≠key:=fun x hx e=>hh ⟨x,hx,e⟩;have hok:=(Rg hs hp hnew).2 mb;have hr:=qn key;have hL:L (put s key) 0=ins s key s.2.1.length (L s 0):=by rw[Nr (Ny hs hp hnew (j:=0) (by omega)),aE (by omega)]
 have hk:∀u:ah,cK u->keys u=(L u 0).map fun p=>(qh u p).1:=fun u hu=>by unfold keys;rw[aE hu]
 rw[hk _ hok,hk _ hs,hL];refine⟨hok,fZ.2 ⟨_,pW.2 (.inl rfl),hp.r8⟩,fun k hkk=>?_,by rw[lO,lO,NJ]⟩;obtain⟨y,hy,ey⟩:=fZ.1 hkk;have jv:=(ql s 0).e7 y hy;exact fZ.2 ⟨y,pW.2 (.inr hy),by rw[(hp.keys y jv.1 jv.2).1];exact ey⟩
theorem VH{s:ah}{a b:Int}(ha:a∈L s 0)(hb:b∈L s 0)(hab:(qh s a).1=(qh s b).1):a=b:=by
 have vG:=(ql s 0).pw;obtain⟨i,hi,rfl⟩:=jg.1 ha;obtain⟨j,hj,rfl⟩:=jg.1 hb;rw[wZ]at vG;rcases Nat.lt_trichotomy i j with q | q | q
 .have:=vG i j hi hj q;rw[hab]at this;exact absurd this (tG _)
 .subst q;rfl
 .have:=vG j i hj hi q;rw[hab]at this;exact absurd this (tG _)
theorem Wg{s:ah}(hs:cK s){key:ByteArray}{x:Int}(hx0:0<=x)(hk:(qh s x).1=key){j:Nat}(hj:j<4):x≠cG s key j:=by
 intro e;rcases NG hs key (4-j) (by omega) with h | h
 .unfold cG at e;omega
 .unfold cG at e;rw[<-e,hk]at h;exact tG key h
theorem Qy{s:ah}(hs:cK s){key:ByteArray}{x:Int}(hx0:0<=x)(hk:(qh s x).1=key):∀k,k<=4->qh (cN s key x k) x=qh s x
 | 0,_=>rfl
 | k+1,h=>by
  have ho:=pU hs key x k (by omega);simp only[cN];rw[zq (ho.on (rC hs key (by omega))) hx0,ax (Wg hs hx0 hk (by omega)),Qy hs hx0 hk k (by omega)]
theorem Qn(D:Den ctx)(n:Nat)(K0:Int->ah->ah->FR)(s z:ah)(hs:cK s){key:ByteArray}{x:Int}(hx0:0<=x)(hx1:x<s.2.1.length)(uH:(qh s x).2.1.length=qi key)(hk:(qh s x).1=key)(b:List Int)(i1:b.length=4)(i2:∀i,i<4->b.getD i 0=cG s key i):∀(d j m:Nat),j+d=qi key->d<m->
  zg D n K0 m x x.toNat (qi key:Int) (j:Int) (cN s key x j) z b=K0 x (cN s key x (qi key)) z
 | _,_,0,_,h=>by omega
 | 0,j,m+1,hj,_=>by
  simp only[zg,ET];rw[qg (by omega)];have e:j=qi key:=by omega
  subst e;rfl
 | d+1,j,m+1,hj,hm=>by
  have hr:=qn key;have ih:=Qn D n K0 s z hs hx0 hx1 uH hk b i1 i2 d (j+1) m (by omega) (by omega);have ho:=pU hs key x j (by omega);have Sv:=ho.on (rC hs key (j:=j) (by omega));have An:=Qy hs hx0 hk j (by omega);have hd:List.getD (cN s key x j).2.1 x.toNat (ByteArray.empty,[],())=qh s x:=An;have hv:List.getD (qh s x).2.1 (Int.toNat (j:Int)) 0=bU s x j:=by unfold bU;rw[ax (by omega),dR]
  have hb:List.getD b (Int.toNat (j:Int)) 0=cG s key j:=by rw[dR];exact i2 j (by omega)
  simp only[cN]at ih;simp only[zg,ET];rw[qf (by omega),hd,gy (by omega) (by omega),aF,gy (by omega) (by omega),aF,hb,hv,qu (by omega)];by_cases hp:cG s key j = -1
  .rw[qf hp,gy (by omega) (by rw[ho.cO,hs.1];omega),aF,dR];have e:dg (cN s key x j) (cG s key j) j (bU s x j)=(List.set (cN s key x j).1 j (bU s x j),(cN s key x j).2):=by unfold dg;rw[aE hp]
   rw[e]at ih;exact ih
  .rw[qg hp];obtain⟨p0,p1,p2⟩:=Sv.resolve_left hp;have yO:List.getD (cN s key x j).2.1 (Int.toNat (cG s key j)) (ByteArray.empty,[],())=qh (cN s key x j) (cG s key j):=rfl;rw[gy p0 p1,aF,yO,gy (by omega) (by omega),aF,dR];have e:dg (cN s key x j) (cG s key j) j (bU s x j)=((cN s key x j).1,List.set (cN s key x j).2.1 (Int.toNat (cG s key j)) ((qh (cN s key x j) (cG s key j)).1,List.set (qh (cN s key x j) (cG s key j)).2.1 j (bU s x j),()),()):=by unfold dg;rw[ax hp]
   rw[e]at ih;exact ih
theorem Vc{X:Ext}(hX:cY X){n:Nat}(hn:W+3<=n)(s:ah)(hs:iK 1048576 s)(hk:∀x∈s.2.1,x.1.size<=maxLen)(key:ByteArray)(hkey:key.size<=40):L3 (DD X n) s key=some ((fQ s key),()):=by
 obtain⟨n,rfl⟩:∃k,n=k+1:=⟨n-1,by omega⟩
 have hW:=gS;have fE:=hs.2.1;rw[UZ hX];simp only[My,MI,Lg];rw[Qg hX (by omega) s hs,qc];dsimp only;rw[show(s.1,s.2.1,())=s from rfl,yg hX (by omega) s fE hk,qc];dsimp only;unfold fQ;by_cases h:cK s
 .rw[bJ h,cT,jI,qg (by omega)];obtain⟨b,i1,i2,i3⟩:=C1 hX (n:=n) (by omega) s h key;have e0:List.getD b 0 0=cG s key 0:=i2 0 (by omega);have ec:=pR hX (n:=n) (by omega) s (cG s key 0) 0 (by rw[h.1];omega) (Fz (NQ h key (by omega)));rw[show((0:Nat):Int)=0 from rfl]at ec;rw[i3,qc];dsimp only;have e4:(decide ((0:Nat)<=0)&&decide ((0:Int)<(b.length:Int)))=true:=by rw[i1];rfl
  rw[e4,aF,e0,ec,qc];dsimp only;have hh:=QJ h key;by_cases iw:bU s (cG s key 0) 0 = -1
  .rw[qf iw,ax (fun k=>(hh.1 k.2).1 iw)]
  .have hm:=(Q6 h key).resolve_left iw;have o8:=(ql s 0).e7 _ hm;rw[qg iw,gy o8.1 o8.2,aF,DP,show List.getD s.2.1 (Int.toNat (bU s (cG s key 0) 0)) (ByteArray.empty,[],())=qh s (bU s (cG s key 0) 0) from rfl];by_cases qY:(qh s (bU s (cG s key 0) 0)).1=key
   .have g5:has s key:=hh.2 ⟨iw,qY⟩;obtain⟨g1,g2,g3⟩:=FB h fE g5;obtain⟨hm2,hk2⟩:=Fx (L s 0) g1;have ex:bU s (cG s key 0) 0=qy s key (L s 0):=VH hm hm2 (qY.trans hk2.symm);rw[bJ qY,cT,bW,aF,aE ⟨h,g5⟩,ex,g3];have hr:=qn key;have e1:=Qn (DD X n) n (fun cw dQ eS=>KW (DD X n) n cw dQ eS) s ([],[],()) h g1 g2 g3 hk2 b i1 i2 (qi key) 0 n (by omega) (by omega);rw[show((0:Nat):Int)=0 from rfl,show cN s key (qy s key (L s 0)) 0=s from rfl]at e1;refine hJ e1 ?_;simp only[KW];have ho:=pU h key (qy s key (L s 0)) (qi key) (by omega);rw[gy g1 (by rw[ho.len];exact g2),aF];rfl
   .rw[c6 qY,fY,aF,ax (fun k=>qY (hh.1 k.2).2)]
 .rw[c6 h,fY,ru,aF,ax (fun k=>h k.1)]
theorem Q5(D:Den ctx)(n:Nat)(K0:Bool->Option ((Bool×Unit)×Unit))(K1:Option ((Bool×Unit)×Unit))(l:List ByteArray)(hl:l.length<=1048576)(x:ByteArray):∀(m i:Nat),i<=l.length->l.length-i<m->
  DF D n K0 K1 m l x (i:Int)=if x∈l.drop i then K0 true else K1
 | 0,i,_,h=>by omega
 | m+1,i,hi,hm=>by
  simp only[DF,Mr];by_cases h:i<l.length
  .have ih:=Q5 D n K0 K1 l hl x m (i+1) (by omega) (by omega);rw[qf (by omega),ix h,aF,DP,dR,qv h,qu (by omega),oq h];by_cases e:l[i]=x
   .rw[qf e,aE (by rw[e];exact ef ..)]
   .rw[qg e];refine ih.trans ?_;by_cases e2:x∈l.drop (i+1)
    .rw[aE e2,aE (d_ _ e2)]
    .rw[ax e2,ax];intro k;rcases cU.1 k with k | k
     .exact e k.symm
     .exact e2 k
  .rw[qg (by omega),rH h,ax (by simp)]
theorem NB{X:Ext}(hX:cY X){n:Nat}(hn:W+1<=n)(l:List ByteArray)(hl:l.length<=1048576)(x:ByteArray):DJ (DD X n) l x=some ((decide (x∈l),()),()):=by
 obtain⟨n,rfl⟩:∃k,n=k+1:=⟨n-1,by omega⟩
 have hW:=gS;rw[Vu hX];simp only[M4,Nc,Mh];have:=Q5 (DD X n) n (fun cw=>Pj (DD X n) n cw) (Pk (DD X n) n) l hl x n 0 (ji _) (by omega);rw[show((0:Nat):Int)=0 from rfl,iF]at this;rw[this];by_cases e:x∈l
 .rw[aE e,bJ e];rfl
 .rw[ax e,c6 e];rfl
theorem Rh(D:Den ctx)(n:Nat)(K0:Bool->Option ((Bool×Unit)×Unit))(K1:Option ((Bool×Unit)×Unit))(l:List Int)(hl:l.length<=1048576):∀(m i:Nat),i<=l.length->l.length-i<m->
  Dx D n K0 K1 m l l (i:Int)=K1
 | 0,_,_,h=>by omega
 | m+1,i,hi,hf=>by
  simp only[Dx,LD];by_cases h:i<l.length
  .rw[qf (by omega),ix h,aF,aF,show(List.getD l (Int.toNat (i:Int)) 0 != List.getD l (Int.toNat (i:Int)) 0)=false by simp,bW,qu (by omega)];exact Rh D n K0 K1 l hl m (i+1) (by omega) (by omega)
  .rw[qg (by omega)]
theorem Qh{X:Ext}(hX:cY X){n:Nat}(hn:W+1<=n)(l:List Int)(hl:l.length<=1048576):ES (DD X n) l l=some ((true,()),()):=by
 obtain⟨n,rfl⟩:∃k,n=k+1:=⟨n-1,by omega⟩
 have hW:=gS;rw[Ux hX];simp only[LZ,Mf,K2];have e:=Rh (DD X n) n (fun cw=>OZ (DD X n) n cw) (O0 (DD X n) n) l hl n 0 (by omega) (by omega);rw[show((0:Nat):Int)=0 from rfl]at e;rw[show((l.length:Int) != (l.length:Int))=false by simp,bW,e];rfl
theorem Qj{X:Ext}(hX:cY X)(N n:Nat)(hN:W+1<=N)(K0:Bool->Option ((Bool×Unit)×Unit))(K1:Option ((Bool×Unit)×Unit))(s:ah)(hs:iK 1048576 s):∀(m i:Nat),i<=s.2.1.length->s.2.1.length-i<m->
  Dz (DD X N) n K0 K1 m (i:Int) s s=K1
 | 0,_,_,h=>by omega
 | m+1,i,hi,hf=>by
  have fE:=hs.2.1;simp only[Dz,LI];by_cases h:i<s.2.1.length
  .have ih:=Qj hX N n hN K0 K1 s hs m (i+1) (by omega) (by omega);have hd:List.getD s.2.1 (Int.toNat (i:Int)) (ByteArray.empty,[],())=s.2.1[i]:=by rw[dR,qv h]
   rw[qf (by omega),ix h,aF,aF,DP,bJ rfl,cT,bW,aF,aF,hd,Qh hX hN _ (hs.2.2 _ (fy h)),qc];dsimp only;rw[cT,bW,qu (by omega)];exact ih
  .rw[qg (by omega)]
theorem DN{X:Ext}(hX:cY X){n:Nat}(hn:W+2<=n)(s:ah)(hs:iK 1048576 s):w7 (DD X n) s s=some ((true,()),()):=by
 obtain⟨n,rfl⟩:∃k,n=k+1:=⟨n-1,by omega⟩
 have hW:=gS;have fE:=hs.2.1;rw[Uy hX];simp only[Lz,Mg,K3];rw[Qh hX (by omega) _ hs.1,qc];dsimp only;have e:=Qj hX n n (by omega) (fun cw=>O3 (DD X n) n cw) (O4 (DD X n) n) s hs n 0 (by omega) (by omega);rw[show((0:Nat):Int)=0 from rfl]at e;rw[cT,jI,show((s.2.1.length:Int) != (s.2.1.length:Int))=false by simp,bW,e];rfl
theorem Vb{X:Ext}(hX:cY X){n:Nat}(hn:W+6<=n)(a:List Int)(ha:a.length<=1048576):∃(s:ah)(key:ByteArray),gW s/\key.size<=2/\K7 (DD X n) a=some ((s,key,()),()):=by
 obtain⟨n,rfl⟩:∃k,n=k+1:=⟨n-1,by omega⟩
 obtain⟨c,hc,e⟩:=ye hX (n:=n) (by omega) a ha;obtain⟨s,c2,hs,fD,e2⟩:=Nt hX (n:=n) (by omega) hc;obtain⟨x,c3,hx,lU,e3⟩:=Nl hX (n:=n) (by omega) fD;refine⟨s,x,hs,hx,?_⟩;rw[Tn hX];simp only[K9,OT];rw[e,qc,e2,qc,e3,qc]
theorem VA{X:Ext}(hX:cY X){n:Nat}(hn:W+6<=n)(a:List Int)(ha:a.length<=1048576):∃(s:ah)(key:ByteArray),gW s/\key.size<=2/\K6 (DD X n) a=some ((s,key,()),()):=by
 obtain⟨n,rfl⟩:∃k,n=k+1:=⟨n-1,by omega⟩
 obtain⟨c,hc,e⟩:=ye hX (n:=n) (by omega) a ha;obtain⟨s,c2,hs,fD,e2⟩:=Nt hX (n:=n) (by omega) hc;obtain⟨x,c3,hx,lU,e3⟩:=Nl hX (n:=n) (by omega) fD;refine⟨s,x,hs,hx,?_⟩;rw[Tm hX];simp only[K8,OR];rw[e,qc,e2,qc,e3,qc]
theorem VD{X:Ext}(hX:cY X){n:Nat}(hn:W+6<=n)(a:List Int)(ha:a.length<=1048576):∃s:ah,gW s/\Ld (DD X n) a=some ((s,()),()):=by
 obtain⟨n,rfl⟩:∃k,n=k+1:=⟨n-1,by omega⟩
 obtain⟨c,hc,e⟩:=ye hX (n:=n) (by omega) a ha;obtain⟨s,c2,hs,fD,e2⟩:=Nt hX (n:=n) (by omega) hc;refine⟨s,hs,?_⟩;rw[Tx hX];simp only[Lf,Pa];rw[e,qc,e2,qc]
end Go.G
/- FnSkips holds: what is put into a drawn list with lanes is in it, what is taken is not; all else is as it was. No condition beyond the given statement's. -/
namespace Go.G
set_option linter.unusedVariables false
set_option linter.unusedSimpArgs false
open Go Go.V
open Classical
theorem V5{s:ah}(h:gW s){key:ByteArray}(hk:key.size<=2):gW (fG s key).1:=by
 unfold fG;split
 .rename_i k;exact⟨Qt k.1 (by omega) h.1 key,Nx k.1 key h.2 hk⟩
 .exact h
theorem V4{s:ah}(h:gW s){key:ByteArray}:gW (fQ s key).1:=by
 have:=h.1.2.1;unfold fQ;split
 .rename_i k;exact⟨Qz k.1 h.1 key,QU k.1 (by omega) k.2 h.2⟩
 .exact h
theorem V1(s:ah)(key:ByteArray):((fG s key).2.1=true->cK (fG s key).1/\key∈keys (fG s key).1/\(∀k∈keys s,k∈keys (fG s key).1)/\(keys (fG s key).1).length=(keys s).length+1)/\((fG s key).2.1=false->(fG s key).1=s):=by
 unfold fG;split
 .rename_i k;have mb:=k.1.2.1;exact⟨fun _=>Wd k.1 k.2.2.2 (by have:=k.2.2.1;omega),fun q=>(by cases q)⟩
 .exact⟨fun q=>(by cases q),fun _=>rfl⟩
theorem VR(s:ah)(fE:s.2.1.length<=1048576)(key:ByteArray):((fQ s key).2.1=true->cK (fQ s key).1/\key∉keys (fQ s key).1/\(keys (fQ s key).1).length+1=(keys s).length)/\((fQ s key).2.1=false->(fQ s key).1=s):=by
 unfold fQ;split
 .rename_i k;exact⟨fun _=>Wb k.1 fE k.2,fun q=>(by cases q)⟩
 .exact⟨fun q=>(by cases q),fun _=>rfl⟩
theorem Ra{X:Ext}(hX:cY X)(N n:Nat)(hN:W+1<=N)(K0:Bool->ByteArray->ah->List ByteArray->List ByteArray->Option ((Bool×Unit)×Unit))(K1:ByteArray->ah->List ByteArray->List ByteArray->Option ((Bool×Unit)×Unit))(key:ByteArray)(s:ah)(uf now:List ByteArray)(h1:uf.length<=1048576)(h2:now.length<=1048576)(hw:∀k∈uf,k∈now):∀(m i:Nat),i<=uf.length->uf.length-i<m->
  Dk (DD X N) n K0 K1 m key (i:Int) s uf now=K1 key s uf now
 | 0,_,_,h=>by omega
 | m+1,i,hi,hf=>by
  simp only[Dk,Me];by_cases h:i<uf.length
  .have ih:=Ra hX N n hN K0 K1 key s uf now h1 h2 hw m (i+1) (by omega) (by omega);rw[qf (by omega),ix h,aF,dR,qv h,NB hX hN now h2,qc];dsimp only;rw[bJ (hw _ (fy h)),cT,bW,qu (by omega)];exact ih
  .rw[qg (by omega)]
theorem VE(a:List Int):PA (DD nO (W+20)) a=some ((true,()),()):=by
 have hX:cY nO:=JX;have hW:=gS;have hM:(1048576:Nat)<=maxLen:=by decide
 rw[UD hX];simp only[MA,MS];rw[Kw hX (by omega),qc];dsimp only;by_cases zZ:(a.length:Int)>1048576
 .rw[qf zZ]
 rw[qg zZ];obtain⟨s,key,hs,hkey,e1⟩:=Vb hX (n:=W+19) (by omega) a (by omega);obtain⟨d,k,hd,hk,e2⟩:=VA hX (n:=W+19) (by omega) a (by omega);obtain⟨o,ho,e3⟩:=VD hX (n:=W+19) (by omega) a (by omega);have bs:=DS hs;have bd:=DS hd;have bo:=DS ho;have hp:=DS (V5 hs hkey);have hq:=DS (V4 (key:=k) hd);have fp:=V1 s key;have fq:=VR d bd.1.2.1 k;have bn:iK 1048576 qr:=QY (by omega);have kn:∀x∈qr.2.1,x.1.size<=maxLen:=fun x hx=>by simp[qr]at hx
 rw[e1,qc];dsimp only;rw[show(s.1,s.2.1,())=s from rfl,Ve hX (by omega) s bs.1 bs.2 key (by omega),qc,P5 hX (by omega) s bs.1 bs.2 key (by omega),qc,e2,qc];dsimp only;rw[show(d.1,d.2.1,())=d from rfl,Vc hX (by omega) d bd.1 bd.2 k (by omega),qc,P3 hX (by omega) d bd.1 bd.2 k (by omega),qc,e3,qc];dsimp only;generalize fG s key=P at *;generalize fQ d k=Q at *;obtain⟨P,p,⟨⟩⟩:=P;obtain⟨Q,q,⟨⟩⟩:=Q;dsimp only at hp hq fp fq⊢;rw[bJ rfl,cT,bW,show(P.1,P.2.1,())=P from rfl,DN hX (by omega) P hp.1,qc];dsimp only;rw[cT,jI,bJ rfl,cT,bW,show(Q.1,Q.2.1,())=Q from rfl,DN hX (by omega) Q hq.1,qc];dsimp only;rw[cT,bW,show(o.1,o.2.1,())=o from rfl,yg hX (by omega) o bo.1.2.1 bo.2,qc,Fp hX (by omega) o bo.1.2.1 bo.2,qc];dsimp only;rw[bJ (show decide (cK o)=decide (cK o) from rfl),cT,bW,Vd hX (by omega),qc];dsimp only;rw[show(qr.1,qr.2.1,())=qr from rfl,yg hX (by omega) qr bn.2.1 kn,qc];dsimp only;rw[bJ VZ,cT,bW,P4 hX (by omega),qc,qc];dsimp only;rw[show(qr.1,qr.2.1,())=qr from rfl,DN hX (by omega) qr bn,qc];dsimp only;rw[cT,bW];have hlen:∀u:ah,iK 1048576 u->(keys u).length<=1048576:=fun u hu=>jH (V6 u) hu.2.1;have Oy:=hlen P hp.1;have EA:=hlen Q hq.1;have hls:=hlen s bs.1;have Ox:=hlen d bd.1;cases q
 case' true=>obtain⟨f1,f2,f3⟩:=fq.1 rfl;rw[aF,yg hX (by omega) Q hq.1.2.1 hq.2,qc];dsimp only;rw[bJ f1,cT,bW,Fk hX (by omega) Q hq.1.2.1 hq.2,qc];dsimp only;rw[NB hX (by omega) _ EA,qc];dsimp only;rw[c6 f2,bW,qc,Fk hX (by omega) d bd.1.2.1 bd.2,qc];dsimp only;rw[qs (by omega) (by omega),show(((keys Q).length:Int) != ((keys d).length:Int)-1)=false by rw[bne_eq_false_iff_eq];omega,bW,bW]
 case' false=>obtain rfl:=fq.2 rfl;rw[bW,fY,aF,DN hX (by omega) Q hq.1,qc];dsimp only;rw[cT,bW]
 all_goals
  cases p
  .obtain rfl:=fp.2 rfl;rw[fY,aF,DN hX (by omega) P hp.1,qc]
  .obtain⟨f1,f2,f3,f4⟩:=fp.1 rfl;rw[cT,bW,Fk hX (by omega) s bs.1.2.1 bs.2,qc,Fk hX (by omega) P hp.1.2.1 hp.2,qc];dsimp only;simp only[Ln];have e:=Ra hX (W+19) (W+19) (by omega) (fun cw dQ eS je ki=>O_ (DD nO (W+19)) (W+19) cw dQ eS je ki) (fun mK mL qO yG=>KZ (DD nO (W+19)) (W+19) mK mL qO yG) key P (keys s) (keys P) hls Oy f3 (W+19) 0 (ji _) (by omega);rw[show((0:Nat):Int)=0 from rfl]at e;refine hJ e ?_;simp only[KZ];rw[show(P.1,P.2.1,())=P from rfl,yg hX (by omega) P hp.1.2.1 hp.2,qc];dsimp only;rw[bJ f1,aF,NB hX (by omega) _ Oy,qc];dsimp only;rw[bJ f2,aF,qu (by omega),f4];rw[bJ (by omega)]
end Go.G
namespace Go.Proofs.Ytcaghlpjdpeelaa
open Go.ChangeShapes Go.WideShapes Go.ChangeAt Go.RowKit Go.V Go.G
theorem iQ(os:Os)(started:os.Started)(H:Type)(enc:TypeId×Value->H) :
  ReturnsInHanded {} Try.checked os 3 .any (Rows.fnSkipsSpec.pre6 enc Try.prog Try.f3 Rows.fnSkipsRow.domain false) (Rows.fnSkipsSpec.post enc Try.prog Try.f3 false true false false):=
 IJ (X:=nO) (tb:=4) started Try.func3 (by kernel_rfl)
  (ChangeSpec.witness6 (enc:=enc) (C:=Try.checked) false ⟨#[],Try.f3.params.map fun t=>((Try.prog.info? t).bind (·.zero)).getD .nilIface,[]⟩ 8 (by kernel_rfl) (by kernel_rfl) (by kernel_rfl) (by kernel_rfl))
  ⟨rfl,rfl,trivial⟩ (by kernel_rfl) (by kernel_rfl) (by kernel_rfl) rfl
  (fun ds h=>by
   match ds,h with
   | [d0],_=>exact⟨rfl,rfl,rfl⟩)
  (fun a wa=>⟨W+20,((true,()),()),VE a.1,fun h Pr Gs us k=>by
   obtain⟨v,vs,rfl,⟨c,r,rfl⟩,e⟩:=k;obtain rfl:vs=[]:=e;simp only[ag]at r;subst r;rfl⟩)
theorem fnSkips_holds:Rows.FnSkipsSaid:=
 OpenClaim.holds_of_wide 3 Try.f3 rfl rfl rfl rfl rfl rfl rfl ⟨rfl,rfl,rfl,rfl,rfl⟩ rfl rfl rfl rfl rfl (by kernel_rfl) Try.func3 (by kernel_rfl)
  (jG (by kernel_rfl)) (by unfold Func.isWrapper;first | (rw[aE (by decide +kernel)];kernel_rfl) | (rw[ax (by decide +kernel)];exact⟨rfl,rfl⟩))
  (fun os started H enc _=>iQ os started H enc)
#print axioms fnSkips_holds
end Go.Proofs.Ytcaghlpjdpeelaa

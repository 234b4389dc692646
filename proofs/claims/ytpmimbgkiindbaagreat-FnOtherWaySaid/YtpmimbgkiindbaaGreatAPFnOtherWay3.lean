import Derived.Test.YtpmimbgkiindbaaGreatAPFnOtherWay2
set_option maxRecDepth 100000
set_option linter.unusedVariables false
set_option linter.unusedSimpArgs false
set_option linter.unusedSectionVars false
open Go.IntKind (wrap)
namespace Go.G
open Go Go.V Go.Proofs
theorem BN{r:qp}(hr:aS r)(p:Int)(hp:0<=p/\p<20):0<=bV r p/\bV r p<=6:=by
 have hl:=hr.len;have hst:=hr.st;have hk:=fun v=>rZ v r.1 0;unfold bV jQ;by_cases h1:p.toNat<4
 .rw[aj h1];rw[qv (by omega)];exact hr.dM _ (er _)
 rw[af h1];by_cases h2:p.toNat<10
 .rw[aj h2];have:=hk ((p.toNat:Int)-3);unfold o4;split<;>omega
 rw[af h2];by_cases h3:p.toNat<13
 .rw[aj h3];have key:∀(c:Int)(l:List Int),0<=many c l/\many c l<=l.length:=by
   intro c l
   induction l with
   | nil=>simp[many]
   | cons a l ih=>simp only[many,cq];cases (bt a 1 6&&decide (qh a=c))<;>simp<;>omega
  have:=key ((p.toNat:Int)-10) r.1;omega
 rw[af h3];by_cases h4:p.toNat=13
 .rw[aj h4];omega
 rw[af h4];have:=hk ((p.toNat:Int)-13);unfold jx;split<;>omega
theorem aj4{r:qp}(hr:aS r){o:cH}(ho:dF o=true){g0:dK}{q:Int}(hp:path (dG (g0++[(q,bV r q,())])) (prog o)=gY (g0++[(q,bV r q,())])){x:Int×List Int}(dn:mK o (g0++[(q,bV r q,())])=some x) :
  Out r o x.1 x.2/\jg r o x.1=r/\x.2.length<=4:=by
 have xh:dG (g0++[(q,bV r q,())]) q=bV r q:=by unfold dG;rw[Ql,aj rfl]
 have a_:(path (dG (g0++[(q,bV r q,())])) (prog o)).getLast? = some q:=by rw[hp];simp[gY]
 have hn:jM o.1 o.2.2.1 (dG (g0++[(q,bV r q,())]) (qw o.2.1)) (dG (g0++[(q,bV r q,())]) (q9 o.2.2.1)) (dG (g0++[(q,bV r q,())]) 13) (dG (g0++[(q,bV r q,())]) (iR o.2.1))=some x:=dn;clear hp dn;generalize dG (g0++[(q,bV r q,())])=w at *;have z5:=v8 ho;have hst:=hr.st;have hl:=hr.len;have hrow:=vc o.2.1;have hown:=tE o.2.2.1;have hk:=rZ o.2.2.1 r.1 0;unfold jM at hn;by_cases k1:o.1=1
 .have gW:prog o=sL o:=by unfold prog;rw[aj k1]
  have hK:qw o.2.1=o.2.1:=by omega
  rw[gW]at a_;unfold sL at a_;simp only[path]at a_;by_cases a:w (qw o.2.1)≠0
  .rw[aj ⟨k1,a⟩]at hn;obtain rfl:=gS hn;rw[show(w (qw o.2.1) != 0)=true by rw[cM,b8 a];rfl,bz]at a_;simp only[path,nI,aK]at a_;rw[a_,xh,<-a_,hK,(tH hr (by omega)).1]at a;exact⟨.LU k1 a,by unfold jg;rw[aj (by decide)],by simp⟩
  .rw[af (fun z=>a z.2)]at hn;have a':w (qw o.2.1)=0:=by omega
   rw[show(w (qw o.2.1) != 0)=false by rw[cM,bC a'];rfl,bg]at a_;simp only[path]at a_;by_cases b:w (q9 o.2.2.1)≠0
   .rw[aj ⟨k1,b⟩]at hn;obtain rfl:=gS hn;rw[show(w (q9 o.2.2.1) != 0)=true by rw[cM,b8 b];rfl,bz]at a_;simp only[path,Sq,nI,aK]at a_;rw[a_,xh,<-a_,Dh hr (by omega)]at b;exact⟨.LV k1 (by omega),by unfold jg;rw[aj (by decide)],by simp⟩
   .rw[af (fun z=>b z.2),af (by omega),af (by omega),af (by omega),af (by omega),af (by omega),af (by omega),af (by omega),af (by omega),af (by omega),af (by omega)]at hn;cases hn
 rw[af (fun z=>k1 z.1),af (fun z=>k1 z.1)]at hn;by_cases k2:o.1=2
 .have gW:prog o=sM o:=by unfold prog;rw[af k1,aj k2]
  have hK:qw o.2.1=o.2.1:=by omega
  rw[gW]at a_;unfold sM at a_;simp only[path]at a_;have hone:(w (qw o.2.1)=0\/w (qw o.2.1)=o.2.2.1)->w (qw o.2.1)=r.1.getD o.2.1.toNat 0:=by
   intro h;rw[show(bif decide (w (qw o.2.1)=0) then true else decide (w (qw o.2.1)=o.2.2.1))=true by
    rcases h with h | h
    .rw[bC h];rfl
    .rw[bC h];cases decide (w (qw o.2.1)=0)<;>rfl,bz]at a_
   simp only[path,nI,aK]at a_;rw[a_,xh,<-a_,hK,(tH hr (by omega)).1]
  by_cases a:w (qw o.2.1)=0
  .rw[aj ⟨.inl k2,a⟩]at hn;obtain rfl:=gS hn;exact⟨.TR k2 (by rw[<-hone (.inl a)];exact a),by unfold jg;rw[aj (by decide)],by simp⟩
  rw[af (fun z=>a z.2)]at hn;by_cases b:w (qw o.2.1)=o.2.2.1
  .rw[aj ⟨k2,b⟩]at hn;obtain rfl:=gS hn;have e:=hone (.inr b);rw[e]at a b;refine⟨.IL k2 a b,?_,by simp⟩;unfold jg;rw[af (by decide),aj (.inr k2)];have hs:r.1.set o.2.1.toNat o.2.2.1=r.1:=by rw[<-b,qv (by omega)];exact E0 _
   rw[hs]
  rw[af (fun z=>b z.2)]at hn;by_cases d:w (q9 o.2.2.1)≠0
  .rw[aj ⟨k2,d⟩]at hn;obtain rfl:=gS hn;rw[b8 a,b8 b]at a_;simp only[bg,path]at a_;rw[show(w (q9 o.2.2.1) != 0)=true by rw[cM,b8 d];rfl,bz]at a_;simp only[path,Sq,nI,aK]at a_;rw[a_,xh,<-a_,Dh hr (by omega)]at d;exact⟨.TQ k2 (by omega),by unfold jg;rw[aj (by decide)],by simp⟩
  .rw[af (fun z=>d z.2),af (by omega),af (by omega),af (by omega),af (by omega),af (by omega),af (by omega),af (by omega)]at hn;cases hn
 by_cases k3:o.1=3
 .have gW:prog o=u5 o:=by unfold prog;rw[af k1,af k2,aj k3]
  have hK:qw o.2.1=o.2.1:=by omega
  rw[gW]at a_;unfold u5 at a_;simp only[path]at a_;by_cases a:w (qw o.2.1)=0
  .rw[aj ⟨.inr (.inl k3),a⟩]at hn;obtain rfl:=gS hn;rw[bC a,bz]at a_;simp only[path,nI,aK]at a_;rw[a_,xh,<-a_,hK,(tH hr (by omega)).1]at a;exact⟨.Kl k3 a,by unfold jg;rw[aj (by decide)],by simp⟩
  .rw[af (fun z=>a z.2),af (by omega),af (by omega),af (by omega),af (by omega),af (by omega),af (by omega),af (by omega),af (by omega),af (by omega)]at hn;cases hn
 by_cases k4:o.1=4
 .have gW:prog o=.ask (qw o.2.1) fun _=>.done:=by unfold prog;rw[af k1,af k2,af k3,aj k4]
  have hK:qw o.2.1=o.2.1:=by omega
  rw[gW]at a_;simp only[path,nI,aK]at a_;have e:w (qw o.2.1)=r.1.getD o.2.1.toNat 0:=by rw[a_,xh,<-a_,hK,(tH hr (by omega)).1]
  rw[e]at hn;by_cases a:r.1.getD o.2.1.toNat 0=0
  .rw[aj ⟨.inr (.inr k4),a⟩]at hn;obtain rfl:=gS hn;exact⟨.Ks k4 a,by unfold jg;rw[aj (by decide)],by simp⟩
  .rw[af (fun z=>a z.2),af (by omega),af (by omega),aj k4]at hn;obtain rfl:=gS hn;exact⟨.Kr k4 a,TG 0 (by omega),by simp⟩
 rw[af (by omega),af (by omega),af (by omega),af (by omega)]at hn;by_cases k5:o.1=5
 .have gW:prog o=.ask (q9 o.2.2.1) fun _=>.done:=by unfold prog;rw[af k1,af k2,af k3,af k4,aj k5]
  rw[gW]at a_;simp only[path,nI,aK]at a_;have e:w (q9 o.2.2.1)=aU o.2.2.1 r.1 0+1:=by rw[a_,xh,<-a_,Dh hr (by omega)]
  rw[e]at hn;by_cases a:aU o.2.2.1 r.1 0+1=0
  .rw[aj ⟨k5,a⟩]at hn;obtain rfl:=gS hn;exact⟨.Cu k5 (by omega),by unfold jg;rw[aj (by decide)],by simp⟩
  .rw[af (fun z=>a z.2),aj k5]at hn;obtain rfl:=gS hn;rw[qs (by omega) (by omega),show aU o.2.2.1 r.1 0+1-1=aU o.2.2.1 r.1 0 by omega];exact⟨.Ct k5 (by omega),TG 0 (by omega),by simp⟩
 rw[af (fun z=>k5 z.1),af k5]at hn;by_cases k6:o.1=6
 .have gW:prog o=.ask (iR o.2.1) fun _=>.done:=by unfold prog;rw[af k1,af k2,af k3,af k4,af k5,aj k6]
  rw[gW]at a_;simp only[path,nI,aK]at a_;have e:w (iR o.2.1)=many o.2.1 r.1:=by rw[a_,xh,<-a_,QY (by omega)]
  rw[aj k6,e]at hn;obtain rfl:=gS hn;exact⟨.Kj k6,TG 0 (by omega),by simp⟩
 rw[af k6]at hn;by_cases k8:o.1=8
 .have gW:prog o=.ask 13 fun _=>.done:=by unfold prog;rw[af k1,af k2,af k3,af k4,af k5,af k6,af (by omega),aj k8]
  rw[gW]at a_;simp only[path,nI,aK]at a_;have e:w 13=r.2.1:=by rw[a_,xh,<-a_,Dc]
  rw[e]at hn;by_cases a:r.2.1≠0
  .rw[aj ⟨k8,a⟩]at hn;obtain rfl:=gS hn;exact⟨.CS k8 a,by unfold jg;rw[aj (by decide)],by simp⟩
  .rw[af (fun z=>a z.2),af (by omega),af (by omega)]at hn;cases hn
 rw[af (fun z=>k8 z.1)]at hn;by_cases k9:o.1=9
 .have gW:prog o=yx:=by unfold prog;rw[af k1,af k2,af k3,af k4,af k5,af k6,af (by omega),af k8,aj k9]
  rw[gW]at a_;unfold yx at a_;simp only[path]at a_;by_cases a:w 13<1\/w 13>4
  .rw[aj ⟨k9,a⟩]at hn;obtain rfl:=gS hn;rw[show(bif decide (w 13<1) then true else decide (w 13>4))=true by
    rcases a with h | h
    .rw[bC h];rfl
    .rw[bC h];cases decide (w 13<1)<;>rfl,bz]at a_
   simp only[path,nI,aK]at a_;rw[a_,xh,<-a_,Dc]at a;exact⟨.CR k9 (by omega),by unfold jg;rw[aj (by decide)],by simp⟩
  .rw[af (fun z=>a z.2),af (by omega)]at hn;cases hn
 rw[af (fun z=>k9 z.1)]at hn;by_cases jn:o.1=10
 .have gW:prog o=vX o:=by unfold prog;rw[af k1,af k2,af k3,af k4,af k5,af k6,af (by omega),af k8,af k9,aj jn]
  rw[gW]at a_;unfold vX at a_;simp only[path]at a_;by_cases a:w 13≠5
  .rw[aj ⟨jn,a⟩]at hn;obtain rfl:=gS hn;rw[show(w 13 != 5)=true by rw[cM,b8 a];rfl,bz]at a_;simp only[path,nI,aK]at a_;rw[a_,xh,<-a_,Dc]at a;exact⟨.TV jn a,by unfold jg;rw[aj (by decide)],by simp⟩
  .rw[af (fun z=>a z.2)]at hn;cases hn
 .rw[af (fun z=>jn z.1)]at hn;cases hn
theorem acF{r:qp}(hr:aS r){o:cH}(ho:dF o=true)(dn:mK o (fo r o)=none) :
  Out r o (eE o (fo r o)).1 (eE o (fo r o)).2.1:=by
 have gm:dF o=true/\(run (fo r o) (prog o)).2<0:=⟨ho,by rw[GB hr ho];show(-1:Int)<0;omega⟩
 have h:=Ng hr ho;unfold gh at h;rw[aj gm,dn]at h;exact h
theorem MK(o:cH)(got:dK):(eE o got).2.1.length<=4:=by
 unfold eE;split
 .simp
 .split
  .split<;>simp
  .simp
abbrev lX:=Int×Int×Int×Unit
abbrev fz:=Int×List Int×Unit
abbrev nw:=Int×Int×List eu×fz×Unit
abbrev gv:=Int×Int×Int×Int×Unit
abbrev aT:=List lX×List nw×Unit
abbrev cK:=List cH×Int×Bool×dK×List gv×Unit
abbrev gH:=Int×cH×Int×Int×Int×fz×Unit
abbrev aH:=aT×List cK×Int×List gH×List Int×qp×Unit
def dE:eu:=(0,0,0,())
def dD:nw:=(0,0,[],(0,[],()),())
def dW:lX:=(0,0,0,())
def dO:cH:=(0,0,0,())
def dT:cK:=([],0,false,[],[],())
def dC:gH:=(0,dO,0,0,0,(0,[],()),())
def dH:gv:=(0,0,0,0,())
def wd(m:aT)(p:Int):lX:=m.1.getD p.toNat dW
def aq(m:aT)(t:Int):nw:=m.2.1.getD t.toNat dD
def ep(m:aT)(p:Int)(w:lX):aT:=(m.1.set p.toNat w,m.2)
def bI(m:aT)(t:Int)(d:nw):aT:=(m.1,m.2.1.set t.toNat d,())
def qi(l:List eu)(i:Int):eu:=l.getD i.toNat dE
def jE(l:List eu)(p:Int):eu:=(l.find? fun e=>decide (e.1=p)).getD dE
def dL(t s:Int):lX:=(0,t+1,s,())
def fW(m:aT)(p:Int):Int:=
 if (wd m p).2.1=0 then (wd m p).1 else
 if (aq m ((wd m p).2.1-1)).1=(wd m p).2.2.1/\(aq m ((wd m p).2.1-1)).2.1=2 then (jE (aq m ((wd m p).2.1-1)).2.2.1 p).2.2.1 else (jE (aq m ((wd m p).2.1-1)).2.2.1 p).2.1
def q7(m:aT)(h:gv):aT×gv×gv×Int×Unit:=
 if (aq m h.1).1≠h.2.1 then (m,h,dH,2,()) else
 if (aq m h.1).2.1=1 then
  if ((aq m h.1).2.2.1.length:Int)<=h.2.2.1 then (bI m h.1 ((aq m h.1).1,2,(aq m h.1).2.2),h,dH,3,()) else
  if wd m (qi (aq m h.1).2.2.1 h.2.2.1).1=dL h.1 h.2.1 then (m,(h.1,h.2.1,h.2.2.1+1,h.2.2.2),dH,0,()) else
  if (wd m (qi (aq m h.1).2.2.1 h.2.2.1).1).2.1≠0 then (m,h,((wd m (qi (aq m h.1).2.2.1 h.2.2.1).1).2.1-1,(wd m (qi (aq m h.1).2.2.1 h.2.2.1).1).2.2.1,0,0,()),1,()) else
  if (wd m (qi (aq m h.1).2.2.1 h.2.2.1).1).1=(qi (aq m h.1).2.2.1 h.2.2.1).2.1 then (ep m (qi (aq m h.1).2.2.1 h.2.2.1).1 (dL h.1 h.2.1),(h.1,h.2.1,h.2.2.1+1,h.2.2.2),dH,0,())
  else (bI m h.1 ((aq m h.1).1,3,(aq m h.1).2.2),h,dH,0,())
 else if ((aq m h.1).2.2.1.length:Int)<=h.2.2.2.1 then (m,h,dH,2,())
 else (if wd m (qi (aq m h.1).2.2.1 h.2.2.2.1).1=dL h.1 h.2.1 then
   ep m (qi (aq m h.1).2.2.1 h.2.2.2.1).1 (if (aq m h.1).2.1=2 then (qi (aq m h.1).2.2.1 h.2.2.2.1).2.2.1 else (qi (aq m h.1).2.2.1 h.2.2.2.1).2.1,0,0,()) else m,(h.1,h.2.1,h.2.2.1,h.2.2.2.1+1,()),dH,0,())
def ai(m:aH)(t:Int):cK:=m.2.1.getD t.toNat dT
def ct(m:aH)(t:Int)(x:cK):aH:=(m.1,m.2.1.set t.toNat x,m.2.2)
def Cr(m:aH)(k:Int):gH:=m.2.2.2.1.getD k.toNat dC
def aX(x:cK):cH:=x.1.getD x.2.1.toNat dO
def qY(l:List gH)(t:Int):Nat->Int
 | 0=>-1
 | i+1=>if (l.getD i dC).1=t/\(l.getD i dC).2.2.2.2.1<0 then (i:Int) else qY l t i
def kE(l:List gH)(t:Int):Int:=qY l t l.length
def iD(m:aH)(t:Int)(s:fz):aH:=
 if kE m.2.2.2.1 t<0 then m else
 (m.1,m.2.1,m.2.2.1,m.2.2.2.1.set (kE m.2.2.2.1 t).toNat ((Cr m (kE m.2.2.2.1 t)).1,(Cr m (kE m.2.2.2.1 t)).2.1,(Cr m (kE m.2.2.2.1 t)).2.2.1,m.2.2.1,(Cr m (kE m.2.2.2.1 t)).2.2.2.2.1,s,()),m.2.2.2.2.1++[kE m.2.2.2.1 t],m.2.2.2.2.2)
def ir(m:aH)(t:Int)(s:fz):aH:=
 if kE m.2.2.2.1 t<0 then m else
 (m.1,m.2.1,m.2.2.1,m.2.2.2.1.set (kE m.2.2.2.1 t).toNat ((Cr m (kE m.2.2.2.1 t)).1,(Cr m (kE m.2.2.2.1 t)).2.1,(Cr m (kE m.2.2.2.1 t)).2.2.1,(Cr m (kE m.2.2.2.1 t)).2.2.2.1,m.2.2.1,s,()),m.2.2.2.2)
def d_(m:aH)(t:Int)(s:fz):aH:=ct (ir m t s) t ((ai m t).1,(ai m t).2.1+1,false,[],[],())
def au(x:cK):gv:=x.2.2.2.2.1.getD (x.2.2.2.2.1.length-1) dH
def rm(x:cK)(h:gv):cK:=(x.1,x.2.1,x.2.2.1,x.2.2.2.1,x.2.2.2.2.1++[h],())
def j_(x:cK)(h:gv):cK:=(x.1,x.2.1,x.2.2.1,x.2.2.2.1,x.2.2.2.2.1.set (x.2.2.2.2.1.length-1) h,())
def jf(x:cK):cK:=(x.1,x.2.1,x.2.2.1,x.2.2.2.1,x.2.2.2.2.1.take (x.2.2.2.2.1.length-1),())
def cE(m:aH)(a:aT):aH:=(a,m.2)
def kD(m:aH)(t:Int):aH:=
  if (q7 m.1 (au (ai m t))).2.2.2.1=1 then
    (if (au (ai m t)).1=t/\(ai m t).2.2.2.2.1.length=1 then ct (cE m (q7 m.1 (au (ai m t))).1) t (rm (ai m t) (q7 m.1 (au (ai m t))).2.2.1)
     else ct (cE m (q7 m.1 (au (ai m t))).1) t (j_ (ai m t) (q7 m.1 (au (ai m t))).2.2.1)) else
  if (q7 m.1 (au (ai m t))).2.2.2.1=2 then
    (if (au (ai m t)).1≠t then ct (cE m (q7 m.1 (au (ai m t))).1) t (jf (ai m t)) else
     if (aq m.1 t).2.1=2 then d_ (cE m (q7 m.1 (au (ai m t))).1) t (aq m.1 t).2.2.2.1
     else ct (cE m (q7 m.1 (au (ai m t))).1) t ((ai m t).1,(ai m t).2.1,(ai m t).2.2.1,[],[],())) else
  if (q7 m.1 (au (ai m t))).2.2.2.1=3 then
    ct (iD (cE m (q7 m.1 (au (ai m t))).1) (au (ai m t)).1 (aq m.1 (au (ai m t)).1).2.2.2.1) t (j_ (ai m t) (q7 m.1 (au (ai m t))).2.1)
  else ct (cE m (q7 m.1 (au (ai m t))).1) t (j_ (ai m t) (q7 m.1 (au (ai m t))).2.1)
def CU(x:cK):Int:=(run x.2.2.2.1 (prog (aX x))).2
def iw(m:aH)(x:cK):dK:=x.2.2.2.1++[(CU x,(wd m.1 (CU x)).1,())]
def rX(x:cK)(g:dK):cK:=(x.1,x.2.1,x.2.2.1,g,x.2.2.2.2)
def tN(m:aH)(t:Int):aH:=
 if (wd m.1 (CU (ai m t))).2.1≠0 then ct m t (rm (ai m t) ((wd m.1 (CU (ai m t))).2.1-1,(wd m.1 (CU (ai m t))).2.2.1,0,0,())) else
 if (gh (aX (ai m t)) (iw m (ai m t))).2.1=false then ct m t (rX (ai m t) (iw m (ai m t))) else
 if (gh (aX (ai m t)) (iw m (ai m t))).1.1=true then d_ (iD m t (gh (aX (ai m t)) (iw m (ai m t))).1.2.1) t (gh (aX (ai m t)) (iw m (ai m t))).1.2.1 else
 ct (cE m (bI m.1 t ((aq m.1 t).1+1,1,(gh (aX (ai m t)) (iw m (ai m t))).1.2.2.1,(gh (aX (ai m t)) (iw m (ai m t))).1.2.1,()))) t
  (rm (rX (ai m t) (iw m (ai m t))) (t,(aq m.1 t).1+1,0,0,()))
def tick(m:aH):aH:=(m.1,m.2.1,m.2.2.1+1,m.2.2.2)
def pT(m:aH)(t:Int):aH:=
 ct (m.1,m.2.1,m.2.2.1,m.2.2.2.1++[(t,aX (ai m t),m.2.2.1,-1,-1,(0,[],()),())],m.2.2.2.2) t ((ai m t).1,(ai m t).2.1,true,(ai m t).2.2.2)
def vp(m:aH)(t:Int):aH:=
 if (ai m t).2.2.1=false then pT (tick m) t else
 if (ai m t).2.2.2.2.1≠[] then kD (tick m) t else tN (tick m) t
theorem LX{α:Type}(l:List α)(i j:Nat)(x d:α):(l.set i x).getD j d=if i=j/\j<l.length then x else l.getD j d:=by
 simp only[Fq,jU];by_cases h:i=j
 .subst h;by_cases h2:i<l.length
  .simp[h2]
  .simp[h2]
 .simp[h]
theorem EH{m:aT}{p q:Int}{w:lX}(hp:0<=p/\p<m.1.length)(hq:0<=q):wd (ep m p w) q=if q=p then w else wd m q:=by
 unfold wd ep;dsimp only;rw[LX];by_cases h:q=p
 .subst h;rw[aj ⟨rfl,by omega⟩,aj rfl]
 .rw[af (by omega),af h]
theorem HW{m:aT}{u:Int}{d:nw}(q:Int):wd (bI m u d) q=wd m q:=rfl
theorem n7{m:aT}{u t:Int}{d:nw}(hu:0<=u/\u<m.2.1.length)(ht:0<=t):aq (bI m u d) t=if t=u then d else aq m t:=by
 unfold aq bI;dsimp only;rw[LX];by_cases h:t=u
 .subst h;rw[aj ⟨rfl,by omega⟩,aj rfl]
 .rw[af (by omega),af h]
theorem qX{m:aH}{u t:Int}{x:cK}(hu:0<=u/\u<m.2.1.length)(ht:0<=t):ai (ct m u x) t=if t=u then x else ai m t:=by
 unfold ai ct;dsimp only;rw[LX];by_cases h:t=u
 .subst h;rw[aj ⟨rfl,by omega⟩,aj rfl]
 .rw[af (by omega),af h]
theorem o7(m:aH)(u:Int)(x:cK):(ct m u x).2.1.length=m.2.1.length:=by unfold ct;simp
theorem zA{m m':aH}(h:m'.2.1=m.2.1)(t:Int):ai m' t=ai m t:=by unfold ai;rw[h]
theorem Mq(m:aT)(p:Int)(w:lX):(ep m p w).1.length=m.1.length:=by unfold ep;simp
theorem G9(m:aT)(p:Int)(w:nw):(bI m p w).2.1.length=m.2.1.length:=by unfold bI;simp
theorem AN{l:List eu}(h:lI l){i:Int}(h0:0<=i)(h1:i<l.length):jE l (qi l i).1=qi l i:=by
 have key:∀(l:List eu),lI l->∀k:Nat,(hk:k<l.length)->l.find? (fun e=>decide (e.1=l[k].1))=some l[k]:=by
  intro l
  induction l with
  | nil=>intro _ k hk;simp at hk
  | cons a l ih=>
   intro hs k hk;rw[lI,l_]at hs;cases k with
   | zero=>simp
   | succ k=>
    have hk2:k<l.length:=by simpa using hk
    simp only[Ss];have:=hs.1 (l[k]'hk2) (er _);rw[List.find?_cons,show decide (a.1=(l[k]'hk2).1)=false from b8 (by omega)];exact ih hs.2 k hk2
 have hk:i.toNat<l.length:=by omega
 unfold jE qi;rw[qv hk,key l h _ hk];rfl
theorem L2{l:List eu}{i:Int}(h0:0<=i)(h1:i<l.length):qi l i∈l:=by
 have hk:i.toNat<l.length:=by omega
 unfold qi;rw[qv hk];exact er _
theorem Rz{l:List eu}{e:eu}(h:e∈l):∃i:Int,0<=i/\i<l.length/\qi l i=e:=by obtain⟨k,hk,rfl⟩:=mT.1 h;refine⟨(k:Int),by omega,by omega,?_⟩;unfold qi;rw[eB,qv hk]
theorem Ry{l:List eu}(h:lI l){i j:Int}(h0:0<=i)(h1:i<j)(h2:j<l.length):(qi l i).1<(qi l j).1:=by
 have hi:i.toNat<l.length:=by omega
 have hj:j.toNat<l.length:=by omega
 unfold qi;rw[qv hi,qv hj];exact xA.1 h _ _ hi hj (by omega)
theorem abQ{l:List eu}(h:lI l){i j:Int}(h0:0<=i)(h1:i<l.length)(g0:0<=j)(g1:j<l.length)(e:(qi l i).1=(qi l j).1):i=j:=by
 rcases BE i j with k | k | k
 .have:=Ry h h0 k g1;omega
 .exact k
 .have:=Ry h g0 k h1;omega
def bA(x:cK)(t:Int):Bool:=match x.2.2.2.2.1 with
 | []=>false
 | h::_=>decide (h.1=t)
structure ot (d:nw) (time:Int):Prop where
 zL:lI d.2.2.1
 len:d.2.2.1.length<=8
 dM:∀e∈d.2.2.1,(0<=e.1/\e.1<20)/\(0<=e.2.1/\e.2.1<=1000)/\(0<=e.2.2.1/\e.2.2.1<=1000)
 seq:0<=d.1/\d.1<=time
 st:(d.1=0->d=dD)/\(1<=d.1->1<=d.2.1/\d.2.1<=3)
 rl:d.2.2.2.1.2.1.length<=4
def T5(w:lX):Prop:=w.2.1=0/\w.2.2.1=0/\0<=w.1/\w.1<=1000
def Bo(m:aT)(n:Nat)(own:Int->Prop)(p:Int):Prop:=
 ∃u:Int,0<=u/\u<n/\own u/\wd m p=dL u (aq m u).1/\∃i:Int,0<=i/\i<(aq m u).2.2.1.length/\(qi (aq m u).2.2.1 i).1=p
structure eR (m:aT) (n:Nat) (time:Int) (own:Int->Prop):Prop where
 len:m.1.length=20
 di:m.2.1.length=n
 dj:∀t:Int,0<=t->t<n->ot (aq m t) time
 word:∀p:Int,0<=p->p<20->T5 (wd m p)\/Bo m n own p
 jN:∀t:Int,0<=t->t<n->(aq m t).2.1=1->own t
 kW:∀t:Int,0<=t->t<n->own t->1<=(aq m t).1
 pre:∀t:Int,0<=t->t<n->(aq m t).2.1=1->∀i j:Int,0<=i->i<j->j<(aq m t).2.2.1.length->wd m (qi (aq m t).2.2.1 j).1=dL t (aq m t).1->wd m (qi (aq m t).2.2.1 i).1=dL t (aq m t).1
structure bR (m:aT) (n:Nat) (h:gv):Prop where
 t:0<=h.1/\h.1<n
 seq:1<=h.2.1/\h.2.1<=(aq m h.1).1
 r8:0<=h.2.2.1/\h.2.2.1<=8
 fin:0<=h.2.2.2.1/\h.2.2.2.1<=8
 cur:h.2.1=(aq m h.1).1->h.2.2.1<=(aq m h.1).2.2.1.length/\h.2.2.2.1<=(aq m h.1).2.2.1.length/\
  ((aq m h.1).2.1=1->h.2.2.2.1=0/\∀i:Int,0<=i->i<h.2.2.1->wd m (qi (aq m h.1).2.2.1 i).1=dL h.1 h.2.1)/\
  ((aq m h.1).2.1≠1->∀i:Int,0<=i->i<h.2.2.2.1->wd m (qi (aq m h.1).2.2.1 i).1≠dL h.1 h.2.1)
theorem tJ{a b s r:Int}(h:dL a s=dL b r):a=b/\s=r:=by simp only[dL,aZ]at h;omega
theorem vg{w:lX}(h:w.2.1=0){a s:Int}(ha:0<=a):w≠dL a s:=fun e=>by rw[e]at h;simp only[dL]at h;omega
theorem eR.gU{m:aT}{n:Nat}{time:Int}{own:Int->Prop}(I:eR m n time own){t i:Int}(h0:0<=t)(h1:t<n)(i0:0<=i)(i1:i<(aq m t).2.2.1.length) :
  (0<=(qi (aq m t).2.2.1 i).1/\(qi (aq m t).2.2.1 i).1<20)/\(0<=(qi (aq m t).2.2.1 i).2.1/\(qi (aq m t).2.2.1 i).2.1<=1000)/\(0<=(qi (aq m t).2.2.1 i).2.2.1/\(qi (aq m t).2.2.1 i).2.2.1<=1000):=
 (I.dj t h0 h1).dM _ (L2 i0 i1)
theorem eR.IM{m:aT}{n:Nat}{time:Int}{own:Int->Prop}(I:eR m n time own){t:Int}(h0:0<=t)(h1:t<n)(hs:(aq m t).2.1≠0):1<=(aq m t).1:=by
 have:=(I.dj t h0 h1).seq;by_cases h:(aq m t).1=0
 .exact absurd (by rw[((I.dj t h0 h1).st.1 h)];rfl) hs
 .omega
theorem u6{m:aT}{p:Int}(h:(wd m p).2.1=0):fW m p=(wd m p).1:=by unfold fW;rw[aj h]
theorem zB{m:aT}{u p:Int}(hu:0<=u)(h:wd m p=dL u (aq m u).1):fW m p=if (aq m u).2.1=2 then (jE (aq m u).2.2.1 p).2.2.1 else (jE (aq m u).2.2.1 p).2.1:=by
 have e1:(wd m p).2.1=u+1:=by rw[h];rfl
 have e2:(wd m p).2.2.1=(aq m u).1:=by rw[h];rfl
 have e3:(wd m p).2.1-1=u:=by omega
 unfold fW;rw[af (by omega),e3,e2];by_cases h2:(aq m u).2.1=2
 .rw[aj ⟨rfl,h2⟩,aj h2]
 .rw[af (fun q=>h2 q.2),af h2]
theorem eR.kV{m:aT}{n:Nat}{time:Int}{own lR:Int->Prop}(I:eR m n time own)(h:∀t:Int,0<=t->t<n->(own t↔lR t)):eR m n time lR where
 len:=I.len
 di:=I.di
 dj:=I.dj
 word:=fun p h0 h1=>(I.word p h0 h1).imp id fun⟨u,a,b,c,d⟩=>⟨u,a,b,(h u a b).1 c,d⟩
 jN:=fun t a b c=>(h t a b).1 (I.jN t a b c)
 kW:=fun t a b c=>I.kW t a b ((h t a b).2 c)
 pre:=I.pre
theorem ot.mono{d:nw}{a b:Int}(h:ot d a)(hab:a<=b):ot d b:=⟨h.zL,h.len,h.dM,⟨h.seq.1,by have:=h.seq.2;omega⟩,h.st,h.rl⟩
theorem eR.CP{m:aT}{n:Nat}{time time':Int}{own:Int->Prop}(I:eR m n time own)(h:time<=time'):eR m n time' own:=⟨I.len,I.di,fun t a b=>(I.dj t a b).mono h,I.word,I.jN,I.kW,I.pre⟩
theorem Q8{m:aT}{n:Nat}{time:Int}{own:Int->Prop}(I:eR m n time own){t:Int}(h0:0<=t)(hn:¬ own t){p:Int}(p0:0<=p)(p1:p<20)(s:Int):wd m p≠dL t s:=by
 intro e;rcases I.word p p0 p1 with h | ⟨u,a,b,c,d,_⟩
 .exact vg h.1 h0 e
 .rw[e]at d;obtain⟨rfl,_⟩:=tJ d;exact hn c
section
variable {m:aT} {n:Nat} {time:Int} {own:Int->Prop} (I:eR m n time own) {u:Int} (u0:0<=u) (u1:u<n)
include I u0 u1
theorem EB{i:Int}(hs:(aq m u).2.1=1)(i0:0<=i)(i1:i<(aq m u).2.2.1.length)(hw:(wd m (qi (aq m u).2.2.1 i).1).2.1=0)(hold:(wd m (qi (aq m u).2.2.1 i).1).1=(qi (aq m u).2.2.1 i).2.1)
  (hb:∀j:Int,0<=j->j<i->wd m (qi (aq m u).2.2.1 j).1=dL u (aq m u).1) :
  eR (ep m (qi (aq m u).2.2.1 i).1 (dL u (aq m u).1)) n time own/\(∀p:Int,0<=p->p<20->fW (ep m (qi (aq m u).2.2.1 i).1 (dL u (aq m u).1)) p=fW m p)/\
  (∀h,bR m n h->bR (ep m (qi (aq m u).2.2.1 i).1 (dL u (aq m u).1)) n h):=by
 have he:=I.gU u0 u1 i0 i1;have oR:=(I.dj u u0 u1).zL;have hlen:=I.len;have sg:=AN oR i0 i1;generalize hp:(qi (aq m u).2.2.1 i).1=P at *;have mF:∀q,0<=q->wd (ep m P (dL u (aq m u).1)) q=if q=P then dL u (aq m u).1 else wd m q:=fun q hq=>EH (by omega) hq
 have hd:∀t,aq (ep m P (dL u (aq m u).1)) t=aq m t:=fun t=>rfl;have hkeep:∀q t s,0<=t->0<=q->wd m q=dL t s->wd (ep m P (dL u (aq m u).1)) q=dL t s:=by
  intro q t s t0 q0 e;rw[mF q q0];by_cases h:q=P
  .subst h;exact absurd e (vg hw t0)
  .rw[af h];exact e
 have hnm:∀q t,0<=q->t≠u->wd (ep m P (dL u (aq m u).1)) q=dL t (aq m t).1->wd m q=dL t (aq m t).1:=by
  intro q t q0 tu e;rw[mF q q0]at e;by_cases h:q=P
  .rw[aj h]at e;exact absurd (tJ e).1.symm tu
  .rw[af h]at e;exact e
 refine⟨⟨by rw[Mq];exact I.len,I.di,I.dj,?_,I.jN,I.kW,?_⟩,?_,?_⟩
 .intro p p0 p1;unfold Bo;rw[mF p p0];by_cases h:p=P
  .subst h;rw[aj rfl];exact .inr ⟨u,u0,u1,I.jN u u0 u1 hs,rfl,i,i0,i1,hp⟩
  .rw[af h];exact I.word p p0 p1
 .intro t t0 t1 ts a b a0 ab b1 e;rw[hd] at *;have zX:=I.gU t0 t1 a0 (by omega:a<_);have Uj:=I.gU t0 t1 (by omega:0<=b) b1;by_cases htu:t=u
  .subst htu;rw[mF _ Uj.1.1]at e;by_cases h:(qi (aq m t).2.2.1 b).1=P
   .have Uf:b=i:=abQ oR (by omega) b1 i0 i1 (by rw[h,hp]);exact hkeep _ _ _ t0 zX.1.1 (hb a a0 (by omega))
   .rw[af h]at e;exact hkeep _ _ _ t0 zX.1.1 (I.pre t t0 t1 ts a b a0 ab b1 e)
  .exact hkeep _ _ _ t0 zX.1.1 (I.pre t t0 t1 ts a b a0 ab b1 (hnm _ t Uj.1.1 htu e))
 .intro p p0 p1;by_cases h:p=P
  .subst h;rw[u6 hw,zB u0 (by rw[mF p p0,aj rfl,hd]),hd,af (by omega),sg,hold]
  .unfold fW;rw[mF p p0,af h];rfl
 .intro h H;refine⟨H.t,H.seq,H.r8,H.fin,fun e=>?_⟩;obtain⟨a,b,c,d⟩:=H.cur e;refine⟨a,b,fun hs'=>⟨(c hs').1,fun j j0 j1=>?_⟩,fun hs' j j0 j1=>?_⟩
  .exact hkeep _ _ _ H.t.1 (I.gU H.t.1 H.t.2 j0 (by omega)).1.1 ((c hs').2 j j0 j1)
  .intro q;have hne:h.1≠u:=fun e2=>hs' (by rw[hd,e2];exact hs);have hj:=I.gU H.t.1 H.t.2 j0 (show j<_ by omega);have e':h.2.1=(aq m h.1).1:=e;rw[hd,e']at q;exact d hs' j j0 j1 (by rw[e'];exact hnm _ _ hj.1.1 hne q)
theorem MZ{i:Int}(hs:(aq m u).2.1≠1)(i0:0<=i)(i1:i<(aq m u).2.2.1.length)(hw:wd m (qi (aq m u).2.2.1 i).1=dL u (aq m u).1) :
  eR (ep m (qi (aq m u).2.2.1 i).1 (if (aq m u).2.1=2 then (qi (aq m u).2.2.1 i).2.2.1 else (qi (aq m u).2.2.1 i).2.1,0,0,())) n time own/\
  (∀p:Int,0<=p->p<20->fW (ep m (qi (aq m u).2.2.1 i).1 (if (aq m u).2.1=2 then (qi (aq m u).2.2.1 i).2.2.1 else (qi (aq m u).2.2.1 i).2.1,0,0,())) p=fW m p)/\
  (∀h,bR m n h->bR (ep m (qi (aq m u).2.2.1 i).1 (if (aq m u).2.1=2 then (qi (aq m u).2.2.1 i).2.2.1 else (qi (aq m u).2.2.1 i).2.1,0,0,())) n h):=by
 have he:=I.gU u0 u1 i0 i1;have oR:=(I.dj u u0 u1).zL;have hlen:=I.len;have sg:=AN oR i0 i1;have hv:0<=(if (aq m u).2.1=2 then (qi (aq m u).2.2.1 i).2.2.1 else (qi (aq m u).2.2.1 i).2.1)/\(if (aq m u).2.1=2 then (qi (aq m u).2.2.1 i).2.2.1 else (qi (aq m u).2.2.1 i).2.1)<=1000:=by split<;>omega
 have hval:fW m (qi (aq m u).2.2.1 i).1=(if (aq m u).2.1=2 then (qi (aq m u).2.2.1 i).2.2.1 else (qi (aq m u).2.2.1 i).2.1):=by rw[zB u0 hw,sg]
 generalize (if (aq m u).2.1=2 then (qi (aq m u).2.2.1 i).2.2.1 else (qi (aq m u).2.2.1 i).2.1)=v at *;generalize hp:(qi (aq m u).2.2.1 i).1=P at *;have mF:∀q,0<=q->wd (ep m P (v,0,0,())) q=if q=P then (v,0,0,()) else wd m q:=fun q hq=>EH (by omega) hq
 have hd:∀t,aq (ep m P (v,0,0,())) t=aq m t:=fun t=>rfl;have hkeep:∀q t,t≠u->0<=q->wd m q=dL t (aq m t).1->wd (ep m P (v,0,0,())) q=dL t (aq m t).1:=by
  intro q t tu q0 e;rw[mF q q0];by_cases h:q=P
  .subst h;rw[hw]at e;exact absurd (tJ e).1.symm tu
  .rw[af h];exact e
 have eO:∀q t s,0<=t->0<=q->wd (ep m P (v,0,0,())) q=dL t s->wd m q=dL t s:=by
  intro q t s t0 q0 e;rw[mF q q0]at e;by_cases h:q=P
  .rw[aj h]at e;exact absurd e (vg rfl t0)
  .rw[af h]at e;exact e
 refine⟨⟨by rw[Mq];exact I.len,I.di,I.dj,?_,I.jN,I.kW,?_⟩,?_,?_⟩
 .intro p p0 p1;unfold Bo;rw[mF p p0];by_cases h:p=P
  .rw[aj h];exact .inl ⟨rfl,rfl,hv.1,hv.2⟩
  .rw[af h];exact I.word p p0 p1
 .intro t t0 t1 ts a b a0 ab b1 e;rw[hd] at *;have zX:=I.gU t0 t1 a0 (by omega:a<_);have Uj:=I.gU t0 t1 (by omega:0<=b) b1;have htu:t≠u:=fun e2=>hs (by rw[<-e2];exact ts);exact hkeep _ _ htu zX.1.1 (I.pre t t0 t1 ts a b a0 ab b1 (eO _ t _ t0 Uj.1.1 e))
 .intro p p0 p1;by_cases h:p=P
  .subst h;rw[hval,u6 (by rw[mF p p0,aj rfl]),mF p p0,aj rfl]
  .unfold fW;rw[mF p p0,af h];rfl
 .intro h H;refine⟨H.t,H.seq,H.r8,H.fin,fun e=>?_⟩;obtain⟨a,b,c,d⟩:=H.cur e;refine⟨a,b,fun hs'=>⟨(c hs').1,fun j j0 j1=>?_⟩,fun hs' j j0 j1 q=>?_⟩
  .have hne:h.1≠u:=fun e2=>hs (by rw[<-e2];exact hs');have hj:=I.gU H.t.1 H.t.2 j0 (show j<_ by omega);have e':h.2.1=(aq m h.1).1:=e;have:=(c hs').2 j j0 j1;rw[e']at this;show wd _ (qi (aq m h.1).2.2.1 j).1=_;rw[e'];exact hkeep _ _ hne hj.1.1 this
  .exact d hs' j j0 j1 (eO _ _ _ H.t.1 (I.gU H.t.1 H.t.2 j0 (show j<_ by omega)).1.1 q)
theorem HI{c:Int}(hs:(aq m u).2.1=1)(hc:c=2\/c=3) :
  eR (bI m u ((aq m u).1,c,(aq m u).2.2)) n time own/\(∀h,bR m n h->bR (bI m u ((aq m u).1,c,(aq m u).2.2)) n h)/\
  (∀p:Int,0<=p->p<20->fW (bI m u ((aq m u).1,c,(aq m u).2.2)) p=if c=2/\wd m p=dL u (aq m u).1 then (jE (aq m u).2.2.1 p).2.2.1 else fW m p):=by
 have mg:=I.di;have hd:∀t:Int,0<=t->aq (bI m u ((aq m u).1,c,(aq m u).2.2)) t=if t=u then ((aq m u).1,c,(aq m u).2.2) else aq m t:=fun t t0=>n7 (by omega) t0
 have uc:∀t:Int,0<=t->(aq (bI m u ((aq m u).1,c,(aq m u).2.2)) t).1=(aq m t).1:=by
  intro t t0;rw[hd t t0];split
  .next h=>rw[h]
  .rfl
 have Ug:∀t:Int,0<=t->(aq (bI m u ((aq m u).1,c,(aq m u).2.2)) t).2.2=(aq m t).2.2:=by
  intro t t0;rw[hd t t0];split
  .next h=>rw[h]
  .rfl
 have zV:∀t:Int,0<=t->(aq (bI m u ((aq m u).1,c,(aq m u).2.2)) t).2.1=if t=u then c else (aq m t).2.1:=by intro t t0;rw[hd t t0];split<;>rfl
 refine⟨⟨I.len,by rw[G9];exact I.di,?_,?_,?_,?_,?_⟩,?_,?_⟩
 .intro t t0 t1;rw[hd t t0];have D:=I.dj t t0 t1;split
  .next h=>subst h;have hq:=I.IM t0 t1 (by omega);exact⟨D.zL,D.len,D.dM,D.seq,⟨fun e=>by dsimp only at e;omega,fun _=>by dsimp only;omega⟩,D.rl⟩
  .exact D
 .intro p p0 p1;rcases I.word p p0 p1 with h | ⟨v,a,b,c',d,i,e⟩
  .exact .inl h
  .refine .inr ⟨v,a,b,c',?_,i,?_⟩
   .rw[uc v a];exact d
   .rw[Ug v a];exact e
 .intro t t0 t1 e;rw[zV t t0]at e;split at e
  .omega
  .exact I.jN t t0 t1 e
 .intro t t0 t1 e;rw[uc t t0];exact I.kW t t0 t1 e
 .intro t t0 t1 e;rw[zV t t0]at e;split at e
  .omega
  .rw[Ug t t0,uc t t0];exact I.pre t t0 t1 e
 .intro h H;have h0:=H.t.1;have oX:=H.seq;refine⟨H.t,by rw[uc _ h0];exact H.seq,H.r8,H.fin,fun e=>?_⟩;rw[uc _ h0]at e;obtain⟨a,b,x,y⟩:=H.cur e;rw[Ug _ h0,zV _ h0];refine⟨a,b,fun hs'=>?_,fun hs'=>?_⟩
  .by_cases hu:h.1=u
   .rw[aj hu]at hs';omega
   .rw[af hu]at hs';exact x hs'
  .by_cases hu:h.1=u
   .have:=(x (by rw[hu];exact hs)).1;intro i i0 i1;omega
   .rw[af hu]at hs';exact y hs'
 .intro p p0 p1;rcases I.word p p0 p1 with h | ⟨v,a,b,c',d,i,i0,i1,e⟩
  .rw[af (fun q=>vg h.1 u0 q.2),u6 (m:=m) h.1,u6 (m:=bI m u _) h.1];rfl
  .rw[zB (m:=m) a d,zB (m:=bI m u _) a (by rw[uc v a];exact d),zV v a,Ug v a];by_cases hv:v=u
   .subst hv;rw[aj rfl,hs,af (show ¬ (1:Int)=2 by decide)];by_cases c2:c=2
    .rw[aj c2,aj ⟨c2,d⟩]
    .rw[af c2,af (fun q=>c2 q.1)]
   .rw[af hv,af (show ¬ (c=2/\_) from fun q=>hv (tJ (d.symm.trans q.2)).1)]
end
theorem aj2{m:aT}{n:Nat}{time:Int}{own lR:Int->Prop}(I:eR m n time own){u:Int}(u0:0<=u)(u1:u<n)(hno:¬ own u)(ho:lR u)(K_:∀t:Int,0<=t->t≠u->(own t↔lR t)){E:List eu}{r:fz}
  (hE:lI E) (hl:E.length<=8) (hr:∀e∈E,(0<=e.1/\e.1<20)/\(0<=e.2.1/\e.2.1<=1000)/\(0<=e.2.2.1/\e.2.2.1<=1000)) (ht:(aq m u).1+1<=time) (hrl:r.2.1.length<=4) :
  eR (bI m u ((aq m u).1+1,1,E,r,())) n time lR/\(∀h,bR m n h->bR (bI m u ((aq m u).1+1,1,E,r,())) n h)/\
  (∀p:Int,0<=p->p<20->fW (bI m u ((aq m u).1+1,1,E,r,())) p=fW m p):=by
 have mg:=I.di;have hd:∀t:Int,0<=t->aq (bI m u ((aq m u).1+1,1,E,r,())) t=if t=u then ((aq m u).1+1,1,E,r,()) else aq m t:=fun t t0=>n7 (by omega) t0
 have zW:=(hd u u0).trans (aj rfl);have jd:∀t:Int,0<=t->t≠u->aq (bI m u ((aq m u).1+1,1,E,r,())) t=aq m t:=fun t t0 h=>(hd t t0).trans (af h);have W3:=fun {p:Int} (p0:0<=p) (p1:p<20) (s:Int)=>Q8 I u0 hno p0 p1 s;have D:=I.dj u u0 u1;refine⟨⟨I.len,by rw[G9];exact I.di,?_,?_,?_,?_,?_⟩,?_,?_⟩
 .intro t t0 t1;by_cases h:t=u
  .subst h;rw[zW];have:=D.seq;exact⟨hE,hl,hr,⟨by dsimp only;omega,ht⟩,⟨fun e=>by dsimp only at e;omega,fun _=>by dsimp only;omega⟩,hrl⟩
  .rw[jd t t0 h];exact I.dj t t0 t1
 .intro p p0 p1;rcases I.word p p0 p1 with h | ⟨v,a,b,c',d,i,e⟩
  .exact .inl h
  .have hv:v≠u:=fun q=>hno (q ▸ c');refine .inr ⟨v,a,b,(K_ v a hv).1 c',?_,i,?_⟩
   .rw[jd v a hv];exact d
   .rw[jd v a hv];exact e
 .intro t t0 t1 e;by_cases h:t=u
  .rw[h];exact ho
  .rw[jd t t0 h]at e;exact(K_ t t0 h).1 (I.jN t t0 t1 e)
 .intro t t0 t1 e;have:=D.seq;by_cases h:t=u
  .rw[h,zW];dsimp only;omega
  .rw[jd t t0 h];exact I.kW t t0 t1 ((K_ t t0 h).2 e)
 .intro t t0 t1 e i j i0 ij j1 hj;by_cases h:t=u
  .subst h;rw[zW]at hj j1;dsimp only at hj j1;have:=hr _ (L2 (show 0<=j by omega) j1);exact absurd hj (W3 this.1.1 this.1.2 _)
  .rw[jd t t0 h]at e j1 hj⊢;exact I.pre t t0 t1 e i j i0 ij j1 hj
 .intro h H;have hs:=H.seq;by_cases hu:h.1=u
  .have hs':=H.seq;rw[hu]at hs';refine⟨H.t,by rw[hu,zW];dsimp only;omega,H.r8,H.fin,fun e=>?_⟩;rw[hu,zW]at e;dsimp only at e;omega
  .refine⟨H.t,by rw[jd _ H.t.1 hu];exact H.seq,H.r8,H.fin,?_⟩;rw[jd _ H.t.1 hu];exact H.cur
 .intro p p0 p1;rcases I.word p p0 p1 with h | ⟨v,a,b,c',d,i,e⟩
  .rw[u6 (m:=m) h.1,u6 (m:=bI m u _) h.1];rfl
  .have hv:v≠u:=fun q=>hno (q ▸ c');rw[zB (m:=m) a d,zB (m:=bI m u _) a (by rw[jd v a hv];exact d),jd v a hv]
def ay(l:List gH)(k:Int):gH:=l.getD k.toNat dC
def v_(l:List gH)(t:Int):Nat:=(l.filter fun c=>decide (c.1=t/\0<=c.2.2.2.2.1)).length
structure Ds (c:gH) (n:Nat) (time:Int):Prop where
 t:0<=c.1/\c.1<n
 op:dF c.2.1=true
 start:0<=c.2.2.1/\c.2.2.1<=time
 qI:c.2.2.2.1 = -1\/c.2.2.1<=c.2.2.2.1/\c.2.2.2.1<=time
 fin:c.2.2.2.2.1 = -1\/0<=c.2.2.2.1/\c.2.2.2.1<=c.2.2.2.2.1/\c.2.2.2.2.1<=time
 len:c.2.2.2.2.2.1.2.1.length<=4
structure f4 (l:List gH) (t k:Int):Prop where
 dM:0<=k/\k<l.length
 t:(ay l k).1=t
 fin:(ay l k).2.2.2.2.1 = -1
structure gl (l:List gH) (ord:List Int) (n:Nat) (time:Int) (on:Int->Bool) (pc:Int->Int) (op:Int->cH) (yes:Int->Option fz):Prop where
 c:∀k:Int,0<=k->k<l.length->Ds (ay l k) n time
 before:∀j k:Int,0<=j->j<k->k<l.length->(ay l j).1=(ay l k).1->0<=(ay l j).2.2.2.2.1/\(ay l j).2.2.2.2.1<(ay l k).2.2.1
 cnt:∀t:Int,0<=t->t<n->(v_ l t:Int)=pc t
 jN:∀t:Int,0<=t->t<n->on t=true->∃k,f4 l t k/\(ay l k).2.1=op t
 off:∀t:Int,0<=t->t<n->on t=false->∀k:Int,0<=k->k<l.length->(ay l k).1=t->0<=(ay l k).2.2.2.2.1
 qI:∀t k:Int,0<=t->t<n->f4 l t k->(yes t=none->(ay l k).2.2.2.1 = -1)/\(∀r,yes t=some r->0<=(ay l k).2.2.2.1/\(ay l k).2.2.2.2.2.1=r)
 g_:∀k∈ord,0<=k/\k<l.length/\0<=(ay l k).2.2.2.1
 nodup:ord.Nodup
 sort:ord.Pairwise fun a b=>(ay l a).2.2.2.1<=(ay l b).2.2.2.1
 all:∀k:Int,0<=k->k<l.length->0<=(ay l k).2.2.2.1->k∈ord
theorem Hl{l:List gH}{c:gH}{k:Int}(h:0<=k):ay (l++[c]) k=if k<l.length then ay l k else if k=l.length then c else dC:=by
 unfold ay;simp only[Fq,List.getElem?_append];by_cases h1:k<l.length
 .rw[aj (by omega),aj h1]
 .rw[af (by omega),af h1];by_cases h2:k=l.length
  .rw[aj h2,show k.toNat-l.length=0 by omega];rfl
  .rw[af h2];have:k.toNat-l.length≠0:=by omega
   obtain⟨q,hq⟩:=Nat.exists_eq_succ_of_ne_zero this;rw[hq];rfl
theorem Dg{l:List gH}{c:gH}{i k:Int}(hi:0<=i/\i<l.length)(h:0<=k):ay (l.set i.toNat c) k=if k=i then c else ay l k:=by
 unfold ay;rw[LX];by_cases h1:k=i
 .subst h1;rw[aj ⟨rfl,by omega⟩,aj rfl]
 .rw[af (by omega),af h1]
theorem Qy(l:List gH)(c:gH)(t:Int):v_ (l++[c]) t=v_ l t+(if c.1=t/\0<=c.2.2.2.2.1 then 1 else 0):=by
 unfold v_;rw[List.filter_append,cI];by_cases h:c.1=t/\0<=c.2.2.2.2.1
 .rw[aj h];simp[h]
 .rw[af h,show List.filter (fun c=>decide (c.1=t/\0<=c.2.2.2.2.1)) [c]=[] by simp only[Au,List.filter_nil];rw[b8 h];rfl];rfl
theorem Qz(l:List gH)(c:gH)(t:Int):∀(i:Nat)(h:i<l.length),v_ (l.set i c) t+(if l[i].1=t/\0<=l[i].2.2.2.2.1 then 1 else 0)=v_ l t+(if c.1=t/\0<=c.2.2.2.2.1 then 1 else 0):=by
 induction l with
 | nil=>intro i h;simp at h
 | cons a l ih=>
  intro i h;have hc:∀(x:gH)(l:List gH),v_ (x::l) t=(if x.1=t/\0<=x.2.2.2.2.1 then 1 else 0)+v_ l t:=by
   intro x l;unfold v_;rw[Au];by_cases hx:x.1=t/\0<=x.2.2.2.2.1
   .rw[aj hx,bC hx,aj rfl,cq];omega
   .rw[af hx,b8 hx,af (by simp)];omega
  cases i with
  | zero=>simp only[As,Su];rw[hc,hc];omega
  | succ i=>simp only[Fe,Ss];have:=ih i (by simpa using h);rw[hc,hc];omega
section
variable {l:List gH} {ord:List Int} {n:Nat} {time:Int} {on:Int->Bool} {pc:Int->Int} {op:Int->cH} {yes:Int->Option fz} (I:gl l ord n time on pc op yes)
include I
theorem gl.uniq{t i k:Int}(hi:f4 l t i)(hk:f4 l t k):i=k:=by
 rcases BE i k with h | h | h
 .have:=(I.before i k hi.dM.1 h hk.dM.2 (hi.t.trans hk.t.symm)).1;have:=hi.fin;omega
 .exact h
 .have:=(I.before k i hk.dM.1 h hi.dM.2 (hk.t.trans hi.t.symm)).1;have:=hk.fin;omega
theorem gl.tC{t k:Int}(hk:f4 l t k):∀j:Nat,j<=l.length->qY l t j=if k<j then k else -1
 | 0,_=>by rw[af (by have:=hk.dM;omega)];rfl
 | j+1,hj=>by
  simp only[qY];by_cases h:(l.getD j dC).1=t/\(l.getD j dC).2.2.2.2.1<0
  .rw[aj h];have h1:=(I.c (j:Int) (by omega) (by omega)).fin;have e:ay l (j:Int)=l.getD j dC:=by unfold ay;rw[eB]
   rw[e]at h1;have:f4 l t (j:Int):=⟨⟨by omega,by omega⟩,by rw[e];exact h.1,by rw[e];omega⟩
   have:=I.uniq this hk;rw[aj (by omega)];exact this
  .rw[af h,gl.tC hk j (by omega)];by_cases h2:k<j
   .rw[aj h2,aj (by omega)]
   .rw[af h2,af];intro h3;have e:k=(j:Int):=by omega
    have h4:=hk.t;have h5:=hk.fin
    rw[e]at h4 h5;unfold ay at h4 h5;rw[eB]at h4 h5;exact h ⟨h4,by omega⟩
theorem gl.nk{t k:Int}(hk:f4 l t k):kE l t=k:=by unfold kE;rw[I.tC hk _ (ck _),aj hk.dM.2]
theorem gl.same{on':Int->Bool}{Jd:Int->Int}{op':Int->cH}{oe:Int->Option fz}{time':Int}(ht:time<=time')
  (h:∀t:Int,0<=t->t<n->on' t=on t/\Jd t=pc t/\op' t=op t/\oe t=yes t):gl l ord n time' on' Jd op' oe where
 c:=fun k a b=>by
  have:=I.c k a b;exact⟨this.t,this.op,⟨this.start.1,by have:=this.start.2;omega⟩,this.qI.imp id fun q=>⟨q.1,by omega⟩,this.fin.imp id fun q=>⟨q.1,q.2.1,by omega⟩,this.len⟩
 before:=I.before
 cnt:=fun t a b=>by rw[(h t a b).2.1];exact I.cnt t a b
 jN:=fun t a b e=>by rw[(h t a b).2.2.1];exact I.jN t a b (by rw[<-(h t a b).1];exact e)
 off:=fun t a b e=>I.off t a b (by rw[<-(h t a b).1];exact e)
 qI:=fun t k a b hk=>by rw[(h t a b).2.2.2];exact I.qI t k a b hk
 g_:=I.g_
 nodup:=I.nodup
 sort:=I.sort
 all:=I.all
theorem gl.yY{u:Int}(u0:0<=u)(u1:u<n)(hoff:on u=false)(hop:dF (op u)=true)(hy:yes u=none){on':Int->Bool}(oE:on' u=true)(wY:∀t:Int,0<=t->t≠u->on' t=on t)(ht:0<=time) :
  gl (l++[(u,op u,time+1,-1,-1,(0,[],()),())]) ord n (time+1) on' pc op yes:=by
 have hlen:(l++[((u,op u,time+1,-1,-1,(0,[],()),()):gH)]).length=l.length+1:=by simp
 have hg:∀k:Int,0<=k->k<l.length->ay (l++[(u,op u,time+1,-1,-1,(0,[],()),())]) k=ay l k:=fun k a b=>by rw[Hl a,aj b]
 have hn:ay (l++[(u,op u,time+1,-1,-1,(0,[],()),())]) l.length=(u,op u,time+1,-1,-1,(0,[],()),()):=by rw[Hl (by omega),af (by omega),aj rfl]
 have hold:∀t k,f4 (l++[(u,op u,time+1,-1,-1,(0,[],()),())]) t k->(k<l.length/\f4 l t k)\/(k=l.length/\t=u):=by
  intro t k hk;have hk2:=hk.dM;rw[hlen]at hk2;by_cases h:k<l.length
  .have h1:=hk.t;have h2:=hk.fin
   rw[hg k hk2.1 h]at h1 h2;exact .inl ⟨h,⟨hk2.1,h⟩,h1,h2⟩
  .have e:k=l.length:=by omega
   have h1:=hk.t;rw[e,hn]at h1;exact .inr ⟨e,h1.symm⟩
 refine⟨?_,?_,?_,?_,?_,?_,?_,I.nodup,?_,?_⟩
 .intro k a b;rw[hlen]at b;by_cases h:k<l.length
  .rw[hg k a h];have:=I.c k a h;exact⟨this.t,this.op,⟨this.start.1,by have:=this.start.2;omega⟩,this.qI.imp id fun q=>⟨q.1,by omega⟩,this.fin.imp id fun q=>⟨q.1,q.2.1,by omega⟩,this.len⟩
  .rw[show k=(l.length:Int) by omega,hn];exact⟨⟨u0,u1⟩,hop,⟨by dsimp only;omega,by dsimp only;omega⟩,.inl rfl,.inl rfl,by simp⟩
 .intro j k a b d e;rw[hlen]at d;have hj:=hg j a (by omega);by_cases h:k<l.length
  .have hk:=hg k (by omega) h;rw[hj,hk]at e;rw[hj,hk];exact I.before j k a b h e
  .have ek:k=(l.length:Int):=by omega
   rw[ek,hn,hj]at e;rw[ek,hn,hj];dsimp only at e⊢;have h1:=I.off u u0 u1 hoff j a (by omega) e;have h2:=(I.c j a (by omega)).fin;exact⟨by omega,by omega⟩
 .intro t a b;rw[Qy,af (fun q=>by have:=q.2;dsimp only at this;omega),qS];exact I.cnt t a b
 .intro t a b e;by_cases h:t=u
  .subst h;exact⟨l.length,⟨⟨by omega,by omega⟩,by rw[hn],by rw[hn]⟩,by rw[hn]⟩
  .rw[wY t a h]at e;obtain⟨k,hk,h2⟩:=I.jN t a b e;exact⟨k,⟨⟨hk.dM.1,by have:=hk.dM.2;omega⟩,by rw[hg k hk.dM.1 hk.dM.2];exact hk.t,by rw[hg k hk.dM.1 hk.dM.2];exact hk.fin⟩,by rw[hg k hk.dM.1 hk.dM.2];exact h2⟩
 .intro t a b e k k0 k1 hk;have hne:t≠u:=fun q=>by rw[q,oE]at e;exact absurd e (by simp)
  rw[hlen]at k1;by_cases h:k<l.length
  .rw[hg k k0 h] at *;exact I.off t a b (by rw[<-wY t a hne];exact e) k k0 h hk
  .rw[show k=(l.length:Int) by omega,hn]at hk;exact absurd hk.symm hne
 .intro t k a b hk;rcases hold t k hk with⟨h,h2⟩ | ⟨rfl,rfl⟩
  .rw[hg k hk.dM.1 h];exact I.qI t k a b h2
  .rw[hn,hy];exact⟨fun _=>rfl,fun r q=>(by cases q)⟩
 .intro k hk;have:=I.g_ k hk;rw[hg k this.1 this.2.1];exact⟨this.1,by omega,this.2.2⟩
 .exact I.sort.imp_of_mem fun {a b} ha hb hab=>by
   have h1:=I.g_ a ha;have h2:=I.g_ b hb
   rw[hg a h1.1 h1.2.1,hg b h2.1 h2.2.1];exact hab
 .intro k a b e;rw[hlen]at b;by_cases h:k<l.length
  .rw[hg k a h]at e;exact I.all k a h e
  .rw[show k=(l.length:Int) by omega,hn]at e;dsimp only at e;omega
theorem gl.so{u k:Int}(u0:0<=u)(u1:u<n)(hk:f4 l u k)(hy:yes u=none){r:fz}(hr:r.2.1.length<=4){oe:Int->Option fz}(h1:oe u=some r)(h2:∀t:Int,0<=t->t≠u->oe t=yes t) :
  gl (l.set k.toNat ((ay l k).1,(ay l k).2.1,(ay l k).2.2.1,time,(ay l k).2.2.2.2.1,r,())) (ord++[k]) n time on pc op oe:=by
 have k0:=hk.dM.1;have k1:=hk.dM.2;have z6:(ay l k).2.2.2.1 = -1:=(I.qI u k u0 u1 hk).1 hy;have kN:=hk.fin;have hc:=I.c k k0 k1;have hst:=hc.start;have hg:∀j:Int,0<=j->ay (l.set k.toNat ((ay l k).1,(ay l k).2.1,(ay l k).2.2.1,time,(ay l k).2.2.2.2.1,r,())) j=if j=k then ((ay l k).1,(ay l k).2.1,(ay l k).2.2.1,time,(ay l k).2.2.2.2.1,r,()) else ay l j:=fun j hj=>Dg hk.dM hj
 have g1:∀j:Int,0<=j->(ay (l.set k.toNat ((ay l k).1,(ay l k).2.1,(ay l k).2.2.1,time,(ay l k).2.2.2.2.1,r,())) j).1=(ay l j).1:=fun j hj=>by rw[hg j hj];split<;>simp_all
 have g2:∀j:Int,0<=j->(ay (l.set k.toNat ((ay l k).1,(ay l k).2.1,(ay l k).2.2.1,time,(ay l k).2.2.2.2.1,r,())) j).2.1=(ay l j).2.1:=fun j hj=>by rw[hg j hj];split<;>simp_all
 have g3:∀j:Int,0<=j->(ay (l.set k.toNat ((ay l k).1,(ay l k).2.1,(ay l k).2.2.1,time,(ay l k).2.2.2.2.1,r,())) j).2.2.1=(ay l j).2.2.1:=fun j hj=>by rw[hg j hj];split<;>simp_all
 have g5:∀j:Int,0<=j->(ay (l.set k.toNat ((ay l k).1,(ay l k).2.1,(ay l k).2.2.1,time,(ay l k).2.2.2.2.1,r,())) j).2.2.2.2.1=(ay l j).2.2.2.2.1:=fun j hj=>by rw[hg j hj];split<;>simp_all
 have gk:=(hg k k0).trans (aj rfl);have go:∀j:Int,0<=j->j≠k->ay (l.set k.toNat ((ay l k).1,(ay l k).2.1,(ay l k).2.2.1,time,(ay l k).2.2.2.2.1,r,())) j=ay l j:=fun j hj oC=>(hg j hj).trans (af oC);have hkn:k∉ord:=fun q=>by have:=(I.g_ k q).2.2;omega
 have tq:∀t j,f4 (l.set k.toNat ((ay l k).1,(ay l k).2.1,(ay l k).2.2.1,time,(ay l k).2.2.2.2.1,r,())) t j↔f4 l t j:=by
  intro t j;constructor
  .intro h;have hj:=h.dM.1;exact⟨by simpa using h.dM,by rw[<-g1 j hj];exact h.t,by rw[<-g5 j hj];exact h.fin⟩
  .intro h;have hj:=h.dM.1;exact⟨by simpa using h.dM,by rw[g1 j hj];exact h.t,by rw[g5 j hj];exact h.fin⟩
 refine⟨?_,?_,?_,?_,?_,?_,?_,?_,?_,?_⟩
 .intro j a b;rw[b6]at b;by_cases h:j=k
  .rw[h,gk];exact⟨hc.t,hc.op,hc.start,.inr ⟨hst.2,e_ _⟩,.inl kN,hr⟩
  .rw[go j a h];exact I.c j a b
 .intro i j a b d e;rw[b6]at d;rw[g5 i a,g3 j (by omega)];exact I.before i j a b d (by rw[<-g1 i a,<-g1 j (by omega)];exact e)
 .intro t a b;have:=Qz l ((ay l k).1,(ay l k).2.1,(ay l k).2.2.1,time,(ay l k).2.2.2.2.1,r,()) t k.toNat (by omega)
  have e:l[k.toNat]'(by omega)=ay l k:=by unfold ay;rw[qv]
  rw[e]at this;dsimp only at this;rw[<-I.cnt t a b];omega
 .intro t a b e;obtain⟨j,hj,h3⟩:=I.jN t a b e;exact⟨j,(tq t j).2 hj,by rw[g2 j hj.dM.1];exact h3⟩
 .intro t a b e j j0 j1 hj;rw[b6]at j1;rw[g5 j j0];exact I.off t a b e j j0 j1 (by rw[<-g1 j j0];exact hj)
 .intro t j a b hj;have hj':=(tq t j).1 hj;by_cases h:t=u
  .subst h;have e:=I.uniq hj' hk;subst e;rw[gk,h1];refine⟨fun q=>(by cases q),fun r' q=>?_⟩;cases q;exact⟨by dsimp only;omega,rfl⟩
  .have hne:j≠k:=fun q=>h (by rw[<-hj'.t,q,hk.t]);rw[go j hj'.dM.1 hne,h2 t a h];exact I.qI t j a b hj'
 .intro j hj;rw[b6];rcases bL.1 hj with h | h
  .have hj':=I.g_ j h;rw[go j hj'.1 (fun q=>hkn (q ▸ h))];exact hj'
  .rw[d6]at h;subst h;rw[gk];exact⟨k0,k1,by dsimp only;omega⟩
 .rw[Fv];exact⟨I.nodup,by simp,fun a ha b hb=>by rw[d6]at hb;rw[hb];exact fun q=>hkn (q ▸ ha)⟩
 .rw[L7];refine⟨I.sort.imp_of_mem fun {a b} ha hb hab=>?_,by simp,fun a ha b hb=>?_⟩
  .rw[go a (I.g_ a ha).1 (fun q=>hkn (q ▸ ha)),go b (I.g_ b hb).1 (fun q=>hkn (q ▸ hb))];exact hab
  .rw[d6]at hb;subst hb;have vH:=I.g_ a ha;rw[go a vH.1 (fun q=>hkn (q ▸ ha)),gk];have:=(I.c a vH.1 vH.2.1).qI;dsimp only;omega
 .intro j a b e;rw[b6]at b;by_cases h:j=k
  .rw[h];exact List.mem_append_right _ eW
  .rw[go j a h]at e;exact Ar _ (I.all j a b e)
theorem gl.fin{u k:Int}(u0:0<=u)(u1:u<n)(hk:f4 l u k){r:fz}(hy:yes u=some r){on':Int->Bool}{Jd:Int->Int}{oe:Int->Option fz}(oE:on' u=false)(wY:∀t:Int,0<=t->t≠u->on' t=on t)
  (z_:Jd u=pc u+1) (W7:∀t:Int,0<=t->t≠u->Jd t=pc t) {op':Int->cH} (D4:∀t:Int,0<=t->t≠u->op' t=op t) (h2:∀t:Int,0<=t->t≠u->oe t=yes t) :
  gl (l.set k.toNat ((ay l k).1,(ay l k).2.1,(ay l k).2.2.1,(ay l k).2.2.2.1,time,r,())) ord n time on' Jd op' oe:=by
 have k0:=hk.dM.1;have k1:=hk.dM.2;obtain⟨z6,hres⟩:=(I.qI u k u0 u1 hk).2 r hy;have kN:=hk.fin;have hc:=I.c k k0 k1;have hst:=hc.start;have jK:=hc.qI;have hg:∀j:Int,0<=j->ay (l.set k.toNat ((ay l k).1,(ay l k).2.1,(ay l k).2.2.1,(ay l k).2.2.2.1,time,r,())) j=if j=k then ((ay l k).1,(ay l k).2.1,(ay l k).2.2.1,(ay l k).2.2.2.1,time,r,()) else ay l j:=fun j hj=>Dg hk.dM hj
 have g1:∀j:Int,0<=j->(ay (l.set k.toNat ((ay l k).1,(ay l k).2.1,(ay l k).2.2.1,(ay l k).2.2.2.1,time,r,())) j).1=(ay l j).1:=fun j hj=>by rw[hg j hj];split<;>simp_all
 have g2:∀j:Int,0<=j->(ay (l.set k.toNat ((ay l k).1,(ay l k).2.1,(ay l k).2.2.1,(ay l k).2.2.2.1,time,r,())) j).2.1=(ay l j).2.1:=fun j hj=>by rw[hg j hj];split<;>simp_all
 have g3:∀j:Int,0<=j->(ay (l.set k.toNat ((ay l k).1,(ay l k).2.1,(ay l k).2.2.1,(ay l k).2.2.2.1,time,r,())) j).2.2.1=(ay l j).2.2.1:=fun j hj=>by rw[hg j hj];split<;>simp_all
 have g4:∀j:Int,0<=j->(ay (l.set k.toNat ((ay l k).1,(ay l k).2.1,(ay l k).2.2.1,(ay l k).2.2.2.1,time,r,())) j).2.2.2.1=(ay l j).2.2.2.1:=fun j hj=>by rw[hg j hj];split<;>simp_all
 have gk:=(hg k k0).trans (aj rfl);have go:∀j:Int,0<=j->j≠k->ay (l.set k.toNat ((ay l k).1,(ay l k).2.1,(ay l k).2.2.1,(ay l k).2.2.2.1,time,r,())) j=ay l j:=fun j hj oC=>(hg j hj).trans (af oC);have tq:∀t j,f4 (l.set k.toNat ((ay l k).1,(ay l k).2.1,(ay l k).2.2.1,(ay l k).2.2.2.1,time,r,())) t j->j≠k/\f4 l t j:=by
  intro t j h;have hj:=h.dM.1;have hne:j≠k:=fun q=>by have:=h.fin;rw[q,gk]at this;dsimp only at this;omega
  have h1:=h.t;have h3:=h.fin
  rw[go j hj hne]at h1 h3;exact⟨hne,by simpa using h.dM,h1,h3⟩
 refine⟨?_,?_,?_,?_,?_,?_,?_,I.nodup,?_,?_⟩
 .intro j a b;rw[b6]at b;by_cases h:j=k
  .rw[h,gk];have:=hc.len;rw[hres]at this;exact⟨hc.t,hc.op,hc.start,hc.qI,.inr ⟨z6,by dsimp only;omega,e_ _⟩,this⟩
  .rw[go j a h];exact I.c j a b
 .intro i j a b d e;rw[b6]at d;rw[g1 i a,g1 j (by omega)]at e;rw[g3 j (by omega)];by_cases h:i=k
  .subst h;have:=(I.before i j a b d e).1;omega
  .rw[go i a h];exact I.before i j a b d e
 .intro t a b;have:=Qz l ((ay l k).1,(ay l k).2.1,(ay l k).2.2.1,(ay l k).2.2.2.1,time,r,()) t k.toNat (by omega)
  have e:l[k.toNat]'(by omega)=ay l k:=by unfold ay;rw[qv]
  have hA:¬ ((ay l k).1=t/\0<=(ay l k).2.2.2.2.1):=fun q=>by have:=q.2;omega
  rw[e,af hA]at this;dsimp only at this;have CM:0<=time:=by omega
  have hcn:=I.cnt t a b;by_cases h:t=u
  .subst h;rw[aj ⟨hk.t,CM⟩]at this;rw[z_];omega
  .have hB:¬ ((ay l k).1=t/\0<=time):=fun q=>h (q.1.symm.trans hk.t);rw[af hB]at this;rw[W7 t a h];omega
 .intro t a b e;have hne:t≠u:=fun q=>by rw[q,oE]at e;exact absurd e (by simp)
  rw[wY t a hne]at e;obtain⟨j,hj,h3⟩:=I.jN t a b e;have oC:j≠k:=fun q=>hne (by rw[<-hj.t,q,hk.t]);exact⟨j,⟨by simpa using hj.dM,by rw[go j hj.dM.1 oC];exact hj.t,by rw[go j hj.dM.1 oC];exact hj.fin⟩,by rw[go j hj.dM.1 oC,D4 t a hne];exact h3⟩
 .intro t a b e j j0 j1 hj;rw[b6]at j1;rw[g1 j j0]at hj;by_cases h:j=k
  .rw[h,gk];dsimp only;omega
  .rw[go j j0 h];by_cases hu:t=u
   .subst hu;have hn:=hc;rcases(I.c j j0 j1).fin with q | q
    .exact absurd (I.uniq ⟨⟨j0,j1⟩,hj,q⟩ hk) h
    .omega
   .exact I.off t a b (by rw[<-wY t a hu];exact e) j j0 j1 hj
 .intro t j a b hj;obtain⟨hne,hj'⟩:=tq t j hj;have hu:t≠u:=fun q=>hne (I.uniq (q ▸ hj') hk);rw[go j hj'.dM.1 hne,h2 t a hu];exact I.qI t j a b hj'
 .intro j hj;rw[b6];have hj':=I.g_ j hj;rw[g4 j hj'.1];exact hj'
 .exact I.sort.imp_of_mem fun {a b} ha hb hab=>by
   rw[g4 a (I.g_ a ha).1,g4 b (I.g_ b hb).1];exact hab
 .intro j a b e;rw[b6]at b;rw[g4 j a]at e;exact I.all j a b e
end
inductive iS (l:List gH):qp->List Int->qp->Prop
 | nil (r:qp):iS l r [] r
 | snoc {r s:qp} {ks:List Int} {k:Int}:iS l r ks s->aS s->Out s (ay l k).2.1 (ay l k).2.2.2.2.2.1.1 (ay l k).2.2.2.2.2.1.2.1->iS l r (ks++[k]) (jg s (ay l k).2.1 (ay l k).2.2.2.2.2.1.1)
theorem iS.same{l l':List gH}{r:qp}{ks:List Int}{s:qp}(h:iS l r ks s):(∀k∈ks,(ay l' k).2.1=(ay l k).2.1/\(ay l' k).2.2.2.2.2.1=(ay l k).2.2.2.2.2.1)->iS l' r ks s:=by
 induction h with
 | nil=>intro _;exact .nil _
 | @snoc s ks k _ hs ho ih=>intro hl;have h1:=hl k (by simp);have:=iS.snoc (l:=l') (k:=k) (ih fun j hj=>hl j (Ar _ hj)) hs (by rw[h1.1,h1.2];exact ho);rw[h1.1,h1.2]at this;exact this
structure jr (m:aT) (n:Nat) (x:cK) (t:Int):Prop where
 ops:x.1.length<=4/\∀o∈x.1,dF o=true
 pc:0<=x.2.1/\x.2.1<=x.1.length
 on:x.2.2.1=true->x.2.1<x.1.length
 off:x.2.2.1=false->x.2.2.2.1=[]/\x.2.2.2.2.1=[]
 got:sC x.2.2.2.1
 st:x.2.2.2.2.1=[]\/(∃h,x.2.2.2.2.1=[h])\/∃h h',x.2.2.2.2.1=[h,h']/\h.1=t
 dZ:∀h∈x.2.2.2.2.1,bR m n h
 own:∀h∈x.2.2.2.2.1,h.1=t->h.2.1=(aq m t).1
 along:x.2.2.1=true->qN x.2.2.2.1 (aX x)
 read:x.2.2.1=true->bA x t=false->∃q B,path (dG x.2.2.2.1) (prog (aX x))=gY x.2.2.2.1++q::B
 plan:bA x t=true->path (dG x.2.2.2.1) (prog (aX x))=gY x.2.2.2.1/\mK (aX x) x.2.2.2.1=none/\(aq m t).2.2.1=dz (aX x) x.2.2.2.1/\(aq m t).2.2.2.1=eE (aX x) x.2.2.2.1
def bw(m:aH)(t:Int):Prop:=bA (ai m t) t=true
def m3(m:aH)(t:Int):Option fz:=if bA (ai m t) t=true/\(aq m.1 t).2.1=2 then some (aq m.1 t).2.2.2.1 else none
structure Inv (m:aH):Prop where
 n:1<=m.2.1.length/\m.2.1.length<=3
 time:0<=m.2.2.1
 mem:eR m.1 m.2.1.length m.2.2.1 (bw m)
 th:∀t:Int,0<=t->t<m.2.1.length->jr m.1 m.2.1.length (ai m t) t
 call:gl m.2.2.2.1 m.2.2.2.2.1 m.2.1.length m.2.2.1 (fun t=>(ai m t).2.2.1) (fun t=>(ai m t).2.1) (fun t=>aX (ai m t)) (m3 m)
 rep:∃R,aS R/\iS m.2.2.2.1 m.2.2.2.2.2.1 m.2.2.2.2.1 R/\∀p:Int,0<=p->p<20->fW m.1 p=bV R p
 first:aS m.2.2.2.2.2.1
theorem Hr(x:cK)(t:Int):bA x t=true↔∃h r,x.2.2.2.2.1=h::r/\h.1=t:=by
 unfold bA;cases x.2.2.2.2.1 with
 | nil=>simp
 | cons h r=>simp
theorem zC{x:cK}{t:Int}(h:x.2.2.2.2.1=[]):bA x t=false:=by unfold bA;rw[h]
theorem jr.Ac{m:aT}{n:Nat}{x:cK}{t:Int}(h:jr m n x t)(hs:x.2.2.2.2.1≠[]):x.2.2.1=true:=by
 cases ho:x.2.2.1 with
 | true=>rfl
 | false=>exact absurd (h.off ho).2 hs
theorem jr.o5{m:aT}{n:Nat}{x:cK}{t:Int}(h:jr m n x t)(hs:bA x t=true):x.2.2.1=true:=by refine h.Ac fun e=>?_;rw[zC e]at hs;cases hs
theorem jr.op{m:aT}{n:Nat}{x:cK}{t:Int}(h:jr m n x t)(ho:x.2.2.1=true):dF (aX x)=true:=by have h1:=h.on ho;have h2:=h.pc;unfold aX;rw[qv (show x.2.1.toNat<x.1.length by omega)];exact h.ops.2 _ (er _)
theorem jr.move{m m':aT}{n:Nat}{x:cK}{t:Int}(h:jr m n x t)(hh:∀k,bR m n k->bR m' n k)(h1:(aq m' t).1=(aq m t).1)(h2:(aq m' t).2.2=(aq m t).2.2):jr m' n x t where
 ops:=h.ops
 pc:=h.pc
 on:=h.on
 off:=h.off
 got:=h.got
 st:=h.st
 dZ:=fun k hk=>hh k (h.dZ k hk)
 own:=fun k e1 e2=>by rw[h1];exact h.own k e1 e2
 along:=h.along
 read:=h.read
 plan:=fun e=>by rw[h2];exact h.plan e
theorem mI{x:cK}(h:x.2.2.2.2.1≠[]):au x∈x.2.2.2.2.1:=by have hl:0<x.2.2.2.2.1.length:=pH.2 h;unfold au;rw[qv (by omega)];exact er _
theorem AF{m:aT}{n:Nat}{x:cK}{t:Int}(h:jr m n x t)(hs:x.2.2.2.2.1≠[]) :
  (x.2.2.2.2.1=[au x])\/∃h0,x.2.2.2.2.1=[h0,au x]/\h0.1=t:=by
 rcases h.st with e | ⟨k,e⟩ | ⟨k,k',e,h1⟩
 .exact absurd e hs
 .left;have:au x=k:=by unfold au;rw[e];rfl
  rw[this,e]
 .right;have:au x=k':=by unfold au;rw[e];rfl
  rw[this];exact⟨k,e,h1⟩
theorem Jv{m:aT}{n:Nat}{x:cK}{t:Int}(h:jr m n x t)(hs:x.2.2.2.2.1≠[])(ht:(au x).1=t):bA x t=true/\(au x).2.1=(aq m t).1:=by
 refine⟨?_,h.own _ (mI hs) ht⟩;rcases AF h hs with e | ⟨h0,e,a⟩
 .exact(Hr x t).2 ⟨_,_,e,ht⟩
 .exact(Hr x t).2 ⟨_,_,e,a⟩
def i9(x:cK)(s:List gv):cK:=(x.1,x.2.1,x.2.2.1,x.2.2.2.1,s,())
theorem jr.i9{m:aT}{n:Nat}{x:cK}{t:Int}(h:jr m n x t)(ho:x.2.2.1=true){s:List gv}(hst:s=[]\/(∃h,s=[h])\/∃h h',s=[h,h']/\h.1=t)(hh:∀k∈s,bR m n k)(hw:∀k∈s,k.1=t->k.2.1=(aq m t).1)
  (hb:bA (i9 x s) t=bA x t):jr m n (i9 x s) t where
 ops:=h.ops
 pc:=h.pc
 on:=h.on
 off:=fun e=>by rw[show(Go.G.i9 x s).2.2.1=x.2.2.1 from rfl,ho]at e;cases e
 got:=h.got
 st:=hst
 dZ:=hh
 own:=hw
 along:=h.along
 read:=fun e1 e2=>h.read e1 (by rw[<-hb];exact e2)
 plan:=fun e=>h.plan (by rw[<-hb];exact e)
theorem A9{m:aH}(I:Inv m){t:Int}(t0:0<=t)(t1:t<m.2.1.length){a:aT}{x:cK}(hM:eR a m.2.1.length m.2.2.1 (bw (ct (cE m a) t x)))
  (zh:∀u:Int,0<=u->u<m.2.1.length->u≠t->(aq a u).1=(aq m.1 u).1/\(aq a u).2.2=(aq m.1 u).2.2) (hh:∀k,bR m.1 m.2.1.length k->bR a m.2.1.length k)
  (hx:jr a m.2.1.length x t) (hsame:x.1=(ai m t).1/\x.2.1=(ai m t).2.1/\x.2.2.1=(ai m t).2.2.1)
  (hyes:∀u:Int,0<=u->u<m.2.1.length->m3 (ct (cE m a) t x) u=m3 m u) (hv:∀p:Int,0<=p->p<20->fW a p=fW m.1 p):Inv (ct (cE m a) t x):=by
 have hl:(ct (cE m a) t x).2.1.length=m.2.1.length:=o7 _ _ _;have fK:∀u:Int,0<=u->ai (ct (cE m a) t x) u=if u=t then x else ai m u:=fun u hu=>qX (m:=cE m a) ⟨t0,t1⟩ hu
 refine⟨by rw[hl];exact I.n,I.time,by rw[hl];exact hM,?_,?_,?_,I.first⟩
 .intro u u0 u1;rw[hl]at u1⊢;rw[fK u u0];by_cases h:u=t
  .subst h;rw[aj rfl];exact hx
  .rw[af h];exact(I.th u u0 u1).move hh (zh u u0 u1 h).1 (zh u u0 u1 h).2
 .rw[hl];refine I.call.same (e_ _) fun u u0 u1=>?_;have e:(ai (ct (cE m a) t x) u).1=(ai m u).1/\(ai (ct (cE m a) t x) u).2.1=(ai m u).2.1/\(ai (ct (cE m a) t x) u).2.2.1=(ai m u).2.2.1:=by
   rw[fK u u0];by_cases h:u=t
   .subst h;rw[aj rfl];exact hsame
   .rw[af h];exact⟨rfl,rfl,rfl⟩
  exact⟨e.2.2,e.2.1,by unfold aX;rw[e.1,e.2.1],hyes u u0 u1⟩
 .obtain⟨R,h1,h2,h3⟩:=I.rep;exact⟨R,h1,h2,fun p p0 p1=>(hv p p0 p1).trans (h3 p p0 p1)⟩
theorem MA{m:aH}{a:aT}{t u:Int}{x:cK}(t0:0<=t)(t1:t<m.2.1.length)(u0:0<=u)(hb:bA x t=bA (ai m t) t)(h1:(aq a u).2.1=2↔(aq m.1 u).2.1=2)(h2:(aq a u).2.2=(aq m.1 u).2.2) :
  m3 (ct (cE m a) t x) u=m3 m u:=by
 have e:bA (ai (ct (cE m a) t x) u) u=bA (ai m u) u:=by
  rw[qX (m:=cE m a) ⟨t0,t1⟩ u0];by_cases h:u=t
  .subst h;rw[aj rfl];exact hb
  .rw[af h];rfl
 unfold m3;rw[e,show(ct (cE m a) t x).1=a from rfl,h2];by_cases h:bA (ai m u) u=true/\(aq m.1 u).2.1=2
 .rw[aj h,aj ⟨h.1,h1.2 h.2⟩]
 .rw[af h,af fun q=>h ⟨q.1,h1.1 q.2⟩]
theorem RY{m:aH}{a:aT}{t:Int}{x:cK}(t0:0<=t)(t1:t<m.2.1.length)(hb:bA x t=bA (ai m t) t)(u:Int)(u0:0<=u):bw m u↔bw (ct (cE m a) t x) u:=by
 unfold bw;rw[qX (m:=cE m a) ⟨t0,t1⟩ u0];by_cases h:u=t
 .subst h;rw[aj rfl,hb]
 .rw[af h];exact i5
theorem zG{m:aH}(I:Inv m){t:Int}(t0:0<=t)(t1:t<m.2.1.length)(ho:(ai m t).2.2.1=true){a:aT}{s:List gv}(hM:eR a m.2.1.length m.2.2.1 (bw m))
  (zh:∀u:Int,0<=u->u<m.2.1.length->(aq a u).1=(aq m.1 u).1/\(aq a u).2.2=(aq m.1 u).2.2/\((aq a u).2.1=2↔(aq m.1 u).2.1=2)) (hh:∀k,bR m.1 m.2.1.length k->bR a m.2.1.length k)
  (hst:s=[]\/(∃h,s=[h])\/∃h h',s=[h,h']/\h.1=t) (hhs:∀k∈s,bR a m.2.1.length k) (hw:∀k∈s,k.1=t->k.2.1=(aq m.1 t).1) (hb:bA (i9 (ai m t) s) t=bA (ai m t) t)
  (hv:∀p:Int,0<=p->p<20->fW a p=fW m.1 p):Inv (ct (cE m a) t (i9 (ai m t) s)):=by
 refine A9 I t0 t1 ?_ (fun u u0 u1 _=>⟨(zh u u0 u1).1,(zh u u0 u1).2.1⟩) hh ?_ ⟨rfl,rfl,rfl⟩ (fun u u0 u1=>MA t0 t1 u0 hb (zh u u0 u1).2.2 (zh u u0 u1).2.1) hv
 .exact hM.kV fun u u0 _=>RY t0 t1 hb u u0
 .have:=(I.th t t0 t1).move hh (zh t t0 t1).1 (zh t t0 t1).2.1;exact this.i9 ho hst hhs (fun k hk e=>by rw[(zh t t0 t1).1];exact hw k hk e) hb
theorem Nm{m a:aT}{n:Nat}{x:cK}{t:Int}(h:jr m n x t)(hs:x.2.2.2.2.1≠[])(hh:∀k,bR m n k->bR a n k){h':gv}(he:bR a n h')(hw:h'.1=t->h'.2.1=(aq m t).1)(hown:bA x t=false->h'.1≠t)
  (Lb:∀k,x.2.2.2.2.1=[k]->k.1=t->h'.1=t) :
  (x.2.2.2.2.1.set (x.2.2.2.2.1.length-1) h'=[]\/(∃k,x.2.2.2.2.1.set (x.2.2.2.2.1.length-1) h'=[k])\/∃k k',x.2.2.2.2.1.set (x.2.2.2.2.1.length-1) h'=[k,k']/\k.1=t)/\
  (∀k∈x.2.2.2.2.1.set (x.2.2.2.2.1.length-1) h',bR a n k)/\(∀k∈x.2.2.2.2.1.set (x.2.2.2.2.1.length-1) h',k.1=t->k.2.1=(aq m t).1)/\
  bA (i9 x (x.2.2.2.2.1.set (x.2.2.2.2.1.length-1) h')) t=bA x t:=by
 rcases AF h hs with e | ⟨h0,e,e0⟩
 .have e2:x.2.2.2.2.1.set (x.2.2.2.2.1.length-1) h'=[h']:=by rw[e];rfl
  rw[e2];refine⟨.inr (.inl ⟨_,rfl⟩),fun k hk=>?_,fun k hk=>?_,?_⟩
  .rw[d6]at hk;rw[hk];exact he
  .rw[d6]at hk;rw[hk];exact hw
  .have b1:bA x t=decide ((au x).1=t):=by unfold bA;rw[e]
   have b2:bA (i9 x [h']) t=decide (h'.1=t):=rfl;rw[b2];by_cases q:(au x).1=t
   .rw[b1,bC q,bC (Lb _ e q)]
   .rw[b1,b8 q]at hown⊢;exact b8 (hown rfl)
 .have e2:x.2.2.2.2.1.set (x.2.2.2.2.1.length-1) h'=[h0,h']:=by rw[e];rfl
  rw[e2];have hm0:h0∈x.2.2.2.2.1:=by rw[e];exact eW
  refine⟨.inr (.inr ⟨_,_,rfl,e0⟩),fun k hk=>?_,fun k hk=>?_,?_⟩
  .rcases bk.1 hk with rfl | hk
   .exact hh _ (h.dZ _ hm0)
   .rw[d6]at hk;rw[hk];exact he
  .rcases bk.1 hk with rfl | hk
   .exact h.own _ hm0
   .rw[d6]at hk;rw[hk];exact hw
  .have b2:bA (i9 x [h0,h']) t=decide (h0.1=t):=rfl;have b1:bA x t=decide (h0.1=t):=by unfold bA;rw[e]
   rw[b1,b2]
theorem Nv{m:aT}{n:Nat}{x:cK}{t:Int}(h:jr m n x t)(hs:x.2.2.2.2.1≠[])(hne:(au x).1≠t) :
  (x.2.2.2.2.1.take (x.2.2.2.2.1.length-1)=[]\/(∃k,x.2.2.2.2.1.take (x.2.2.2.2.1.length-1)=[k])\/∃k k',x.2.2.2.2.1.take (x.2.2.2.2.1.length-1)=[k,k']/\k.1=t)/\
  (∀k∈x.2.2.2.2.1.take (x.2.2.2.2.1.length-1),bR m n k)/\(∀k∈x.2.2.2.2.1.take (x.2.2.2.2.1.length-1),k.1=t->k.2.1=(aq m t).1)/\
  bA (i9 x (x.2.2.2.2.1.take (x.2.2.2.2.1.length-1))) t=bA x t:=by
 have hsub:∀k∈x.2.2.2.2.1.take (x.2.2.2.2.1.length-1),k∈x.2.2.2.2.1:=fun k hk=>List.mem_of_mem_take hk;refine⟨?_,fun k hk=>h.dZ k (hsub k hk),fun k hk=>h.own k (hsub k hk),?_⟩
 .rcases AF h hs with e | ⟨h0,e,e0⟩
  .left;rw[e];rfl
  .right;left;exact⟨h0,by rw[e];rfl⟩
 .rcases AF h hs with e | ⟨h0,e,e0⟩
  .have b1:bA x t=decide ((au x).1=t):=by unfold bA;rw[e]
   have e2:x.2.2.2.2.1.take (x.2.2.2.2.1.length-1)=[]:=by rw[e];rfl
   rw[e2,b1,b8 hne];rfl
  .have e2:x.2.2.2.2.1.take (x.2.2.2.2.1.length-1)=[h0]:=by rw[e];rfl
   have b1:bA x t=decide (h0.1=t):=by unfold bA;rw[e]
   rw[e2,b1];rfl
theorem MI{m:aT}{n:Nat}{x:cK}{t:Int}(h:jr m n x t){h':gv}(he:bR m n h')(hne:h'.1≠t)(hs:x.2.2.2.2.1=[]\/∃k,x.2.2.2.2.1=[k]/\k.1=t) :
  (x.2.2.2.2.1++[h']=[]\/(∃k,x.2.2.2.2.1++[h']=[k])\/∃k k',x.2.2.2.2.1++[h']=[k,k']/\k.1=t)/\
  (∀k∈x.2.2.2.2.1++[h'],bR m n k)/\(∀k∈x.2.2.2.2.1++[h'],k.1=t->k.2.1=(aq m t).1)/\bA (i9 x (x.2.2.2.2.1++[h'])) t=bA x t:=by
 refine⟨?_,fun k hk=>?_,fun k hk DU=>?_,?_⟩
 .rcases hs with e | ⟨k,e,ek⟩
  .right;left;exact⟨h',by rw[e];rfl⟩
  .right;right;exact⟨k,h',by rw[e];rfl,ek⟩
 .rcases bL.1 hk with q | q
  .exact h.dZ k q
  .rw[d6]at q;rw[q];exact he
 .rcases bL.1 hk with q | q
  .exact h.own k q DU
  .rw[d6]at q;rw[q]at DU;exact absurd DU hne
 .rcases hs with e | ⟨k,e,ek⟩
  .rw[e,gx,zC e];show decide (h'.1=t)=false;exact b8 hne
  .have b1:bA x t=decide (k.1=t):=by unfold bA;rw[e]
   rw[b1,e];rfl
theorem Ri{m:aH}{t:Int}(t0:0<=t)(t1:t<m.2.1.length):ct m t (ai m t)=m:=by
 have h:m.2.1.set t.toNat (ai m t)=m.2.1:=by unfold ai;rw[qv (show t.toNat<m.2.1.length by omega)];exact E0 _
 unfold ct;rw[h]
theorem Mw{m:aT}{n:Nat}{x:cK}{t:Int}(h:jr m n x t)(hs:x.2.2.2.2.1≠[]):j_ x (au x)=x:=by
 have hl:0<x.2.2.2.2.1.length:=pH.2 hs;have e:x.2.2.2.2.1.set (x.2.2.2.2.1.length-1) (au x)=x.2.2.2.2.1:=by unfold au;rw[qv (by omega)];exact E0 _
 unfold j_;rw[e]
theorem QX{m:aT}{n:Nat}{time:Int}{own lR:Int->Prop}(I:eR m n time own){t:Int}(t0:0<=t)(t1:t<n)(hs:(aq m t).2.1≠1)(hc:∀i:Int,0<=i->i<(aq m t).2.2.1.length->wd m (qi (aq m t).2.2.1 i).1≠dL t (aq m t).1)
  (ho:∀u:Int,0<=u->u≠t->(own u↔lR u)) (hn:¬ lR t):eR m n time lR where
 len:=I.len
 di:=I.di
 dj:=I.dj
 word:=fun p p0 p1=>by
  rcases I.word p p0 p1 with h | ⟨u,a,b,c,d,i,i0,i1,e⟩
  .exact .inl h
  .have hu:u≠t:=by rintro rfl;exact hc i i0 i1 (by rw[e];exact d)
   exact .inr ⟨u,a,b,(ho u a hu).1 c,d,i,i0,i1,e⟩
 jN:=fun u a b c=>by
  have hu:u≠t:=fun e=>hs (by rw[<-e];exact c);exact(ho u a hu).1 (I.jN u a b c)
 kW:=fun u a b c=>by
  have hu:u≠t:=fun e=>hn (by rw[<-e];exact c);exact I.kW u a b ((ho u a hu).2 c)
 pre:=I.pre
theorem jr.rest{m:aT}{n:Nat}{x:cK}{t:Int}(h:jr m n x t):∀b:Bool,(b=true->x.2.1<x.1.length)->jr m n (x.1,x.2.1,b,[],[],()) t:=fun b hb=>
  { ops:=h.ops,pc:=h.pc,on:=hb,off:=fun _=>⟨rfl,rfl⟩,got:=fun g hg=>by simp at hg,st:=.inl rfl,dZ:=fun k hk=>by simp at hk,own:=fun k hk=>by simp at hk,
    along:=fun _=>QI _,
    read:=fun e _=>by
      show ∃q B,path (dG []) (prog (aX (x.1,x.2.1,b,[],[],())))=[]++q::B;have ho:dF (aX x)=true:=by have h1:=hb e;have h2:=h.pc;unfold aX;rw[qv (show x.2.1.toNat<x.1.length by omega)];exact h.ops.2 _ (er _)
      have hk:=v8 ho;have e2:aX (x.1,x.2.1,b,[],[],())=aX x:=rfl;rw[e2];generalize aX x=o at *;simp only[gx];unfold prog;by_cases k1:o.1=1
      . rw[aj k1];unfold sL;simp only[path];exact⟨_,_,rfl⟩
      rw[af k1];by_cases k2:o.1=2
      . rw[aj k2];unfold sM;simp only[path];exact⟨_,_,rfl⟩
      rw[af k2];by_cases k3:o.1=3
      . rw[aj k3];unfold u5;simp only[path];exact⟨_,_,rfl⟩
      rw[af k3];by_cases k4:o.1=4
      . rw[aj k4];simp only[path];exact⟨_,_,rfl⟩
      rw[af k4];by_cases k5:o.1=5
      . rw[aj k5];simp only[path];exact⟨_,_,rfl⟩
      rw[af k5];by_cases k6:o.1=6
      . rw[aj k6];simp only[path];exact⟨_,_,rfl⟩
      rw[af k6];by_cases k7:o.1=7
      . rw[aj k7];unfold B6;simp only[path];exact⟨_,_,rfl⟩
      rw[af k7];by_cases k8:o.1=8
      . rw[aj k8];simp only[path];exact⟨_,_,rfl⟩
      rw[af k8];by_cases k9:o.1=9
      . rw[aj k9];unfold yx;simp only[path];exact⟨_,_,rfl⟩
      rw[af k9];by_cases jn:o.1=10
      . rw[aj jn];unfold vX;simp only[path];exact⟨_,_,rfl⟩
      . omega
    plan:=fun e=>by simp[bA]at e }
theorem M6{m:aH}{t:Int}(t0:0<=t)(t1:t<m.2.1.length){k:Int}{r:fz}{yes:Int->Option fz}
    (hn:1<=m.2.1.length/\m.2.1.length<=3) (ht:0<=m.2.2.1) (hM:eR m.1 m.2.1.length m.2.2.1 (bw (d_ m t r))) (xb:∀u:Int,0<=u->u<m.2.1.length->jr m.1 m.2.1.length (ai m u) u) (oE:(ai m t).2.2.1=true)
    (hC:gl m.2.2.2.1 m.2.2.2.2.1 m.2.1.length m.2.2.1 (fun t=>(ai m t).2.2.1) (fun t=>(ai m t).2.1) (fun t=>aX (ai m t)) yes) (hk:f4 m.2.2.2.1 t k) (hy:yes t=some r) (hyo:∀u:Int,0<=u->u≠t->yes u=m3 m u)
    (hR:∃R,aS R/\iS m.2.2.2.1 m.2.2.2.2.2.1 m.2.2.2.2.1 R/\∀p:Int,0<=p->p<20->fW m.1 p=bV R p) (hf:aS m.2.2.2.2.2.1):Inv (d_ m t r):=by
  have e:d_ m t r=(m.1,m.2.1.set t.toNat ((ai m t).1,(ai m t).2.1+1,false,[],[],()),m.2.2.1,m.2.2.2.1.set k.toNat ((ay m.2.2.2.1 k).1,(ay m.2.2.2.1 k).2.1,(ay m.2.2.2.1 k).2.2.1,(ay m.2.2.2.1 k).2.2.2.1,m.2.2.1,r,()),m.2.2.2.2):=by unfold d_ ir;rw[hC.nk hk,af (by have:=hk.dM;omega)];rfl
  have hl:(d_ m t r).2.1.length=m.2.1.length:=by rw[e];simp
  have fK:∀u:Int,0<=u->ai (d_ m t r) u=if u=t then ((ai m t).1,(ai m t).2.1+1,false,[],[],()) else ai m u:=fun u u0=>by
    have:=qX (m:=ir m t r) (u:=t) (t:=u) (x:=((ai m t).1,(ai m t).2.1+1,false,[],[],()));unfold d_;have h2:(ir m t r).2.1=m.2.1:=by unfold ir;split<;>rfl
    rw[this (by rw[h2];exact⟨t0,t1⟩) u0,zA h2 u]
  have hx:=xb t t0 t1;have z_:=hx.pc;have hlt:=hx.on oE;refine⟨by rw[hl];exact hn,by rw[e];exact ht,by rw[hl];rw[show(d_ m t r).2.2.1=m.2.2.1 by rw[e],show(d_ m t r).1=m.1 by rw[e]];exact hM,?_,?_,?_,by rw[e];exact hf⟩
  . intro u u0 u1
    rw[hl]at u1⊢;rw[fK u u0,show(d_ m t r).1=m.1 by rw[e]];by_cases h:u=t
    . subst h
      rw[aj rfl]
      exact { ops:=hx.ops,pc:=⟨by dsimp only;omega,by dsimp only;omega⟩,on:=fun q=>(by cases q),off:=fun _=>⟨rfl,rfl⟩,got:=fun g hg=>by simp at hg,st:=.inl rfl,dZ:=fun k hk=>by simp at hk,own:=fun k hk=>by simp at hk,
              along:=fun _=>QI _,read:=fun q _=>(by cases q),plan:=fun q=>by simp[bA]at q }
    . rw[af h];exact xb u u0 u1
  . have e1:(d_ m t r).2.2.2.1=m.2.2.2.1.set k.toNat ((ay m.2.2.2.1 k).1,(ay m.2.2.2.1 k).2.1,(ay m.2.2.2.1 k).2.2.1,(ay m.2.2.2.1 k).2.2.2.1,m.2.2.1,r,()):=by rw[e]
    have e2:(d_ m t r).2.2.2.2.1=m.2.2.2.2.1:=by rw[e]
    have e3:(d_ m t r).2.2.1=m.2.2.1:=by rw[e]
    rw[hl,e1,e2,e3];have hT:=(fK t t0).trans (aj rfl);have hO:∀u:Int,0<=u->u≠t->ai (d_ m t r) u=ai m u:=fun u u0 h=>(fK u u0).trans (af h);refine hC.fin t0 t1 hk hy (by rw[hT]) (fun u u0 h=>by rw[hO u u0 h]) (by rw[hT]) (fun u u0 h=>by rw[hO u u0 h]) (fun u u0 h=>by rw[hO u u0 h]) (fun u u0 h=>?_);rw[hyo u u0 h];unfold m3;rw[hO u u0 h,show(d_ m t r).1=m.1 by rw[e]]
  . obtain⟨R,h1,h2,h3⟩:=hR
    refine⟨R,h1,?_,by rw[show(d_ m t r).1=m.1 by rw[e]];exact h3⟩;rw[e];refine h2.same fun j hj=>?_;have hj':=hC.g_ j hj;dsimp only;rw[Dg hk.dM hj'.1];by_cases h:j=k
    . rw[aj h,h];exact⟨rfl,((hC.qI t k t0 t1 hk).2 r hy).2.symm⟩
    . rw[af h];exact⟨rfl,rfl⟩
theorem ajj{m:aH}(I:Inv m){u:Int}(u0:0<=u)(u1:u<m.2.1.length)(hs:(aq m.1 u).2.1=1)(hall:∀i:Int,0<=i->i<(aq m.1 u).2.2.1.length->wd m.1 (qi (aq m.1 u).2.2.1 i).1=dL u (aq m.1 u).1)
  {R:qp} (hv:∀p:Int,0<=p->p<20->fW m.1 p=bV R p):(ai m u).2.2.2.1=fo R (aX (ai m u)):=by
 have hown:bw m u:=I.mem.jN u u0 u1 hs;have T:=I.th u u0 u1;have oE:=T.o5 hown;have ho:=T.op oE;obtain⟨hp,dn,hl,hr⟩:=T.plan hown;refine abU (J2 ho T.got (T.along oE)).1 hp fun g hg=>?_;obtain⟨e,he,e1,e2⟩:=(A4 ho T.got (T.along oE) hp dn).1 g hg;have Lj:=MX ho T.got (T.along oE) hp dn e he;rw[<-hl]at he;obtain⟨i,i0,i1,hi⟩:=Rz he;have hm:=hall i i0 i1;rw[hi]at hm;have:=zB u0 hm;rw[af (by omega),<-hi,AN (I.mem.dj u u0 u1).zL i0 i1,hi]at this;rw[<-e2,<-this,hv _ Lj.1.1 Lj.1.2,e1]
theorem ajJ{m:aH}(I:Inv m){u:Int}(u0:0<=u)(u1:u<m.2.1.length)(hs:(aq m.1 u).2.1=1)(hall:∀i:Int,0<=i->i<(aq m.1 u).2.2.1.length->wd m.1 (qi (aq m.1 u).2.2.1 i).1=dL u (aq m.1 u).1) :
  Inv (iD (cE m (bI m.1 u ((aq m.1 u).1,2,(aq m.1 u).2.2))) u (aq m.1 u).2.2.2.1):=by
 have hown:bw m u:=I.mem.jN u u0 u1 hs;have T:=I.th u u0 u1;have oE:=T.o5 hown;have ho:=T.op oE;obtain⟨hp,dn,hl,hr⟩:=T.plan hown;obtain⟨k,hk,uf⟩:=I.call.jN u u0 u1 oE;obtain⟨R,hR,oW,hv⟩:=I.rep;have wR:=ajj I u0 u1 hs hall hv;rw[wR]at dn hl hr;have xg:=abh hR ho dn;have hout:=acF hR ho dn;obtain⟨hM,hH,hval⟩:=HI I.mem u0 u1 (c:=2) hs (.inl rfl);have mg:=I.mem.di;have hd:∀v:Int,0<=v->aq (bI m.1 u ((aq m.1 u).1,2,(aq m.1 u).2.2)) v=if v=u then ((aq m.1 u).1,2,(aq m.1 u).2.2) else aq m.1 v:=fun v v0=>n7 (by omega) v0
 have hC:kE m.2.2.2.1 u=k:=I.call.nk hk;have e:iD (cE m (bI m.1 u ((aq m.1 u).1,2,(aq m.1 u).2.2))) u (aq m.1 u).2.2.2.1=(bI m.1 u ((aq m.1 u).1,2,(aq m.1 u).2.2),m.2.1,m.2.2.1,
   m.2.2.2.1.set k.toNat ((ay m.2.2.2.1 k).1,(ay m.2.2.2.1 k).2.1,(ay m.2.2.2.1 k).2.2.1,m.2.2.1,(ay m.2.2.2.1 k).2.2.2.2.1,(aq m.1 u).2.2.2.1,()),m.2.2.2.2.1++[k],m.2.2.2.2.2):=by
  unfold iD;rw[show(cE m (bI m.1 u ((aq m.1 u).1,2,(aq m.1 u).2.2))).2.2.2.1=m.2.2.2.1 from rfl,hC,af (by have:=hk.dM;omega)];rfl
 rw[e];have hyes:∀v:Int,0<=v->m3 (bI m.1 u ((aq m.1 u).1,2,(aq m.1 u).2.2),m.2.1,m.2.2.1,
   m.2.2.2.1.set k.toNat ((ay m.2.2.2.1 k).1,(ay m.2.2.2.1 k).2.1,(ay m.2.2.2.1 k).2.2.1,m.2.2.1,(ay m.2.2.2.1 k).2.2.2.2.1,(aq m.1 u).2.2.2.1,()),m.2.2.2.2.1++[k],m.2.2.2.2.2) v=if v=u then some (aq m.1 u).2.2.2.1 else m3 m v:=by
  intro v v0;by_cases h:v=u
  .subst h;rw[aj rfl];show(if bA (ai m v) v=true/\(aq (bI m.1 v ((aq m.1 v).1,2,(aq m.1 v).2.2)) v).2.1=2 then some (aq (bI m.1 v ((aq m.1 v).1,2,(aq m.1 v).2.2)) v).2.2.2.1 else none)=_;rw[hd v v0,aj rfl,aj ⟨hown,rfl⟩]
  .rw[af h];show(if bA (ai m v) v=true/\(aq (bI m.1 u ((aq m.1 u).1,2,(aq m.1 u).2.2)) v).2.1=2 then some (aq (bI m.1 u ((aq m.1 u).1,2,(aq m.1 u).2.2)) v).2.2.2.1 else none)=_;rw[hd v v0,af h];rfl
 refine⟨I.n,I.time,hM,?_,?_,?_,I.first⟩
 .intro v v0 v1;refine(I.th v v0 v1).move hH ?_ ?_
  .show(aq (bI m.1 u _) v).1=_;rw[hd v v0];split
   .next h=>rw[h]
   .rfl
  .show(aq (bI m.1 u _) v).2.2=_;rw[hd v v0];split
   .next h=>rw[h]
   .rfl
 .exact I.call.so u0 u1 hk (by unfold m3;rw[af (by omega)]) (by rw[hr];exact MK _ _) ((hyes u u0).trans (aj rfl)) (fun v v0 h=>(hyes v v0).trans (af h))
 .have gk:ay (m.2.2.2.1.set k.toNat ((ay m.2.2.2.1 k).1,(ay m.2.2.2.1 k).2.1,(ay m.2.2.2.1 k).2.2.1,m.2.2.1,(ay m.2.2.2.1 k).2.2.2.2.1,(aq m.1 u).2.2.2.1,())) k=((ay m.2.2.2.1 k).1,(ay m.2.2.2.1 k).2.1,(ay m.2.2.2.1 k).2.2.1,m.2.2.1,(ay m.2.2.2.1 k).2.2.2.2.1,(aq m.1 u).2.2.2.1,()):=by rw[Dg hk.dM hk.dM.1,aj rfl]
  have hkn:k∉m.2.2.2.2.1:=fun q=>by
   have h1:=(I.call.g_ k q).2.2;have h2:=(I.call.qI u k u0 u1 hk).1 (by unfold m3;rw[af (by omega)]);omega
  have w6:iS (m.2.2.2.1.set k.toNat ((ay m.2.2.2.1 k).1,(ay m.2.2.2.1 k).2.1,(ay m.2.2.2.1 k).2.2.1,m.2.2.1,(ay m.2.2.2.1 k).2.2.2.2.1,(aq m.1 u).2.2.2.1,())) m.2.2.2.2.2.1 m.2.2.2.2.1 R:=by refine oW.same fun j hj=>?_;rw[Dg hk.dM (I.call.g_ j hj).1,af (fun q:j=k=>hkn (by rw[<-q];exact hj))];exact⟨rfl,rfl⟩
  have Lp:=iS.snoc (k:=k) w6 hR (by rw[gk];dsimp only;rw[uf,hr];exact hout);rw[gk]at Lp;dsimp only at Lp;refine⟨jg R (ay m.2.2.2.1 k).2.1 (aq m.1 u).2.2.2.1.1,by rw[uf,hr];exact xg.2,Lp,fun p p0 p1=>?_⟩;show fW (bI m.1 u _) p=_;rw[hval p p0 p1,uf,hr];by_cases hw:wd m.1 p=dL u (aq m.1 u).1
  .rw[aj ⟨rfl,hw⟩];rcases I.mem.word p p0 p1 with h | ⟨v,v0,v1,_,d,i,i0,i1,ei⟩
   .exact absurd hw (vg h.1 u0)
   .obtain rfl:v=u:=(tJ (d.symm.trans hw)).1;rw[<-ei,AN (I.mem.dj v v0 v1).zL i0 i1];have hm:=L2 i0 i1;rw[hl]at hm⊢;exact(xg.1.old _ hm).2.2.2
  .rw[af (fun q=>hw q.2),hv p p0 p1];have:=xg.1.rest p.toNat (by omega) (fun e he=>by
    rw[<-hl]at he;obtain⟨i,i0,i1,hi⟩:=Rz he;intro q;have:=hall i i0 i1;rw[hi,q,show((p.toNat:Nat):Int)=p by omega]at this;exact hw this)
   rw[show((p.toNat:Nat):Int)=p by omega]at this;exact this
theorem acY{m:aH}(I:Inv m){t:Int}(t0:0<=t)(t1:t<m.2.1.length)(hs:(ai m t).2.2.2.2.1≠[]):Inv (kD m t):=by
 have T:=I.th t t0 t1;have ho:=T.Ac hs;have H:=T.dZ _ (mI hs);have hw:=fun e=>T.own _ (mI hs) e;have Lc:bA (ai m t) t=false->(au (ai m t)).1≠t:=fun h e=>by rw[(Jv T hs e).1]at h;cases h
 have Uw:=Mw T hs;have xe:∀k,(ai m t).2.2.2.2.1=[k]->au (ai m t)=k:=fun k e=>by unfold au;rw[e];rfl
 generalize hh:au (ai m t)=h at *;have u0:=H.t.1;have u1:=H.t.2;by_cases hd:(aq m.1 h.1).1≠h.2.1
 .have e:q7 m.1 h=(m.1,h,dH,2,()):=by unfold q7;rw[aj hd]
  have hne:h.1≠t:=fun q=>hd (by rw[q];exact(hw q).symm);unfold kD;rw[hh,e];dsimp only;rw[af (by decide),aj rfl,aj hne];obtain⟨p1,p2,p3,p4⟩:=Nv T hs (by rw[hh];exact hne);exact zG I t0 t1 ho I.mem (fun u _ _=>⟨rfl,rfl,i5⟩) (fun k hk=>hk) p1 p2 p3 p4 (fun p _ _=>rfl)
 have hd':h.2.1=(aq m.1 h.1).1:=by omega
 obtain⟨c1,c2,c3,c4⟩:=H.cur hd';have TT:∀{a:aT}(hk:∀k,bR m.1 m.2.1.length k->bR a m.2.1.length k) {h':gv} (he:bR a m.2.1.length h') (e1:h'.1=h.1) (e2:h'.2.1=h.2.1),_:=fun {a} hk {h'} he e1 e2=>
  Nm T hs hk he (fun q=>by rw[e2];exact hw (e1 ▸ q)) (fun q=>by rw[e1];exact Lc q) (fun k ek q=>by rw[e1,xe k ek];exact q)
 by_cases hst:(aq m.1 h.1).2.1=1
 .by_cases ef:((aq m.1 h.1).2.2.1.length:Int)<=h.2.2.1
  .have e:q7 m.1 h=(bI m.1 h.1 ((aq m.1 h.1).1,2,(aq m.1 h.1).2.2),h,dH,3,()):=by unfold q7;rw[af hd,aj hst,aj ef]
   unfold kD;rw[hh,e];dsimp only;rw[af (by decide),af (by decide),aj rfl,Uw];have hall:=(c3 hst).2;have:=ajJ I u0 u1 hst (fun i i0 i1=>by rw[<-hd'];exact hall i i0 (by omega));have e2:(iD (cE m (bI m.1 h.1 ((aq m.1 h.1).1,2,(aq m.1 h.1).2.2))) h.1 (aq m.1 h.1).2.2.2.1).2.1=m.2.1:=by unfold iD;split<;>rfl
   have e3:=zA e2 t;rw[<-e3,Ri t0 (by rw[e2];exact t1)];exact this
  have hlt:h.2.2.1<(aq m.1 h.1).2.2.1.length:=by omega
  have i0:=H.r8.1;have iT:=I.mem.gU u0 u1 i0 hlt;by_cases hmk:wd m.1 (qi (aq m.1 h.1).2.2.1 h.2.2.1).1=dL h.1 h.2.1
  .have e:q7 m.1 h=(m.1,(h.1,h.2.1,h.2.2.1+1,h.2.2.2),dH,0,()):=by unfold q7;rw[af hd,aj hst,af ef,aj hmk]
   have hn:bR m.1 m.2.1.length (h.1,h.2.1,h.2.2.1+1,h.2.2.2):=by
    refine⟨H.t,H.seq,⟨by dsimp only;omega,by dsimp only;have:=(I.mem.dj _ u0 u1).len;omega⟩,H.fin,fun _=>⟨by dsimp only;omega,c2,fun _=>⟨(c3 hst).1,fun i a b=>?_⟩,fun q=>absurd hst q⟩⟩;dsimp only at b⊢;by_cases hi:i=h.2.2.1
    .rw[hi];exact hmk
    .exact(c3 hst).2 i a (by omega)
   unfold kD;rw[hh,e];dsimp only;rw[af (by decide),af (by decide),af (by decide)];obtain⟨p1,p2,p3,p4⟩:=TT (fun k hk=>hk) hn rfl rfl;exact zG I t0 t1 ho I.mem (fun u _ _=>⟨rfl,rfl,i5⟩) (fun k hk=>hk) p1 p2 p3 p4 (fun p _ _=>rfl)
  by_cases xk:(wd m.1 (qi (aq m.1 h.1).2.2.1 h.2.2.1).1).2.1≠0
  .have e:q7 m.1 h=(m.1,h,((wd m.1 (qi (aq m.1 h.1).2.2.1 h.2.2.1).1).2.1-1,(wd m.1 (qi (aq m.1 h.1).2.2.1 h.2.2.1).1).2.2.1,0,0,()),1,()):=by unfold q7;rw[af hd,aj hst,af ef,af hmk,aj xk]
   rcases I.mem.word _ iT.1.1 iT.1.2 with hq | ⟨v,v0,v1,vo,vm,j,j0,j1,je⟩
   .exact absurd hq.1 xk
   have e2:((wd m.1 (qi (aq m.1 h.1).2.2.1 h.2.2.1).1).2.1-1,(wd m.1 (qi (aq m.1 h.1).2.2.1 h.2.2.1).1).2.2.1,(0:Int),(0:Int),())=(v,(aq m.1 v).1,0,0,()):=by rw[vm];simp only[dL];rw[show v+1-1=v by omega]
   rw[e2]at e;have Ux:v≠h.1:=fun q=>hmk (by rw[vm,q,hd']);have hn:bR m.1 m.2.1.length (v,(aq m.1 v).1,0,0,()):=by
    refine⟨⟨v0,v1⟩,⟨I.mem.kW v v0 v1 vo,e_ _⟩,⟨by dsimp only;omega,by dsimp only;omega⟩,⟨by dsimp only;omega,by dsimp only;omega⟩,fun _=>⟨by dsimp only;omega,by dsimp only;omega,fun _=>⟨rfl,fun i a b=>?_⟩,fun _ i a b=>?_⟩⟩
    .dsimp only at b;omega
    .dsimp only at b;omega
   unfold kD;rw[hh,e];dsimp only;rw[aj rfl];by_cases hc:h.1=t/\(ai m t).2.2.2.2.1.length=1
   .rw[aj hc];have hk:∃k,(ai m t).2.2.2.2.1=[k]:=by
     match hq:(ai m t).2.2.2.2.1,hc.2 with
     | [k],_=>exact⟨k,rfl⟩
    obtain⟨k,hk⟩:=hk;have DU:k.1=t:=by rw[<-xe k hk];exact hc.1
    obtain⟨p1,p2,p3,p4⟩:=MI T hn (by show v≠t;rw[<-hc.1];exact Ux) (.inr ⟨k,hk,DU⟩);exact zG I t0 t1 ho I.mem (fun u _ _=>⟨rfl,rfl,i5⟩) (fun k hk=>hk) p1 p2 p3 p4 (fun p _ _=>rfl)
   .rw[af hc];obtain⟨p1,p2,p3,p4⟩:=Nm T hs (fun k hk=>hk) hn (fun q=>by dsimp only at q⊢;rw[q]) (fun q=>by
      intro q2;dsimp only at q2;rw[q2]at vo;unfold bw at vo;rw[q]at vo;cases vo) (fun k ek q=>by
      exfalso;exact hc ⟨by rw[xe k ek];exact q,by rw[ek];rfl⟩)
    exact zG I t0 t1 ho I.mem (fun u _ _=>⟨rfl,rfl,i5⟩) (fun k hk=>hk) p1 p2 p3 p4 (fun p _ _=>rfl)
  have hw0:(wd m.1 (qi (aq m.1 h.1).2.2.1 h.2.2.1).1).2.1=0:=by omega
  by_cases hold:(wd m.1 (qi (aq m.1 h.1).2.2.1 h.2.2.1).1).1=(qi (aq m.1 h.1).2.2.1 h.2.2.1).2.1
  .have e:q7 m.1 h=(ep m.1 (qi (aq m.1 h.1).2.2.1 h.2.2.1).1 (dL h.1 h.2.1),(h.1,h.2.1,h.2.2.1+1,h.2.2.2),dH,0,()):=by unfold q7;rw[af hd,aj hst,af ef,af hmk,af xk,aj hold]
   obtain⟨hM,hV,hH⟩:=EB I.mem u0 u1 hst i0 hlt hw0 hold (fun j a b=>by rw[<-hd'];exact(c3 hst).2 j a b);rw[<-hd']at hM hV hH;have hn:bR (ep m.1 (qi (aq m.1 h.1).2.2.1 h.2.2.1).1 (dL h.1 h.2.1)) m.2.1.length (h.1,h.2.1,h.2.2.1+1,h.2.2.2):=by
    refine⟨H.t,H.seq,⟨by dsimp only;omega,by dsimp only;have:=(I.mem.dj _ u0 u1).len;omega⟩,H.fin,fun _=>⟨by dsimp only;exact hlt,c2,fun _=>⟨(c3 hst).1,fun i a b=>?_⟩,fun q=>absurd hst q⟩⟩;dsimp only at b⊢;have hlen:=I.mem.len;rw[show aq (ep m.1 (qi (aq m.1 h.1).2.2.1 h.2.2.1).1 (dL h.1 h.2.1)) h.1=aq m.1 h.1 from rfl];have zX:=I.mem.gU u0 u1 a (by omega:i<_);rw[EH (by omega) zX.1.1];by_cases hi:(qi (aq m.1 h.1).2.2.1 i).1=(qi (aq m.1 h.1).2.2.1 h.2.2.1).1
    .rw[aj hi]
    .rw[af hi];exact(c3 hst).2 i a (by
      by_cases q:i=h.2.2.1
      .exact absurd (by rw[q]) hi
      .omega)
   unfold kD;rw[hh,e];dsimp only;rw[af (by decide),af (by decide),af (by decide)];obtain⟨p1,p2,p3,p4⟩:=TT hH hn rfl rfl;exact zG I t0 t1 ho hM (fun u _ _=>⟨rfl,rfl,i5⟩) hH p1 p2 p3 p4 hV
  .have e:q7 m.1 h=(bI m.1 h.1 ((aq m.1 h.1).1,3,(aq m.1 h.1).2.2),h,dH,0,()):=by unfold q7;rw[af hd,aj hst,af ef,af hmk,af xk,af hold]
   obtain⟨hM,hH,hV⟩:=HI I.mem u0 u1 (c:=3) hst (.inr rfl);have mg:=I.mem.di;have lC:∀v:Int,0<=v->aq (bI m.1 h.1 ((aq m.1 h.1).1,3,(aq m.1 h.1).2.2)) v=if v=h.1 then ((aq m.1 h.1).1,3,(aq m.1 h.1).2.2) else aq m.1 v:=fun v v0=>n7 (by omega) v0
   unfold kD;rw[hh,e];dsimp only;rw[af (by decide),af (by decide),af (by decide)];obtain⟨p1,p2,p3,p4⟩:=TT hH (hH _ H) rfl rfl;refine zG I t0 t1 ho hM (fun v v0 _=>?_) hH p1 p2 p3 p4 (fun p a b=>by rw[hV p a b,af (by omega)]);rw[lC v v0];by_cases q:v=h.1
   .rw[aj q,q];exact⟨rfl,rfl,by dsimp only;omega⟩
   .rw[af q];exact⟨rfl,rfl,i5⟩
 .by_cases kN:((aq m.1 h.1).2.2.1.length:Int)<=h.2.2.2.1
  .have e:q7 m.1 h=(m.1,h,dH,2,()):=by unfold q7;rw[af hd,af hst,aj kN]
   unfold kD;rw[hh,e];dsimp only;rw[af (by decide),aj rfl];by_cases hne:h.1≠t
   .rw[aj hne];obtain⟨p1,p2,p3,p4⟩:=Nv T hs (by rw[hh];exact hne);exact zG I t0 t1 ho I.mem (fun u _ _=>⟨rfl,rfl,i5⟩) (fun k hk=>hk) p1 p2 p3 p4 (fun p _ _=>rfl)
   rw[af hne];have CB:h.1=t:=by omega
   have hown:=(Jv T hs (by rw[hh];exact CB)).1;have Uv:=hw CB;rw[CB]at hst c4 kN;rw[Uv]at c4;have wI:∀i:Int,0<=i->i<(aq m.1 t).2.2.1.length->wd m.1 (qi (aq m.1 t).2.2.1 i).1≠dL t (aq m.1 t).1:=fun i a b=>c4 hst i a (by omega);have oX:=I.mem.kW t t0 t1 hown;have Xi:=(I.mem.dj t t0 t1).st.2 oX;by_cases hy:(aq m.1 t).2.1=2
   .rw[aj hy];obtain⟨k,hk,_⟩:=I.call.jN t t0 t1 ho;have fK:∀u:Int,0<=u->ai (d_ (cE m m.1) t (aq m.1 t).2.2.2.1) u=if u=t then ((ai m t).1,(ai m t).2.1+1,false,[],[],()) else ai m u:=fun u u0=>by
     unfold d_;have h2:(ir (cE m m.1) t (aq m.1 t).2.2.2.1).2.1=m.2.1:=by unfold ir;split<;>rfl
     rw[qX (by rw[h2];exact⟨t0,t1⟩) u0,zA h2 u];rfl
    refine M6 (m:=m) t0 t1 I.n I.time ?_ I.th ho I.call hk (by unfold m3;rw[aj ⟨hown,hy⟩]) (fun _ _ _=>rfl) I.rep I.first;refine QX I.mem t0 t1 hst wI (fun u u0 hu=>?_) ?_
    .unfold bw;rw[show d_ m t (aq m.1 t).2.2.2.1=d_ (cE m m.1) t (aq m.1 t).2.2.2.1 from rfl,fK u u0,af hu]
    .unfold bw;rw[show d_ m t (aq m.1 t).2.2.2.1=d_ (cE m m.1) t (aq m.1 t).2.2.2.1 from rfl,fK t t0,aj rfl];simp[bA]
   .rw[af hy];refine A9 I t0 t1 ?_ (fun u _ _ _=>⟨rfl,rfl⟩) (fun k hk=>hk) ?_ ⟨rfl,rfl,rfl⟩ (fun u u0 u1=>?_) (fun p _ _=>rfl)
    .refine QX I.mem t0 t1 hst wI (fun u u0 hu=>?_) ?_
     .unfold bw;rw[qX (m:=cE m m.1) ⟨t0,t1⟩ u0,af hu];exact i5
     .unfold bw;rw[qX (m:=cE m m.1) ⟨t0,t1⟩ t0,aj rfl];simp[bA]
    .exact T.rest _ (fun _=>T.on ho)
    .unfold m3;rw[qX (m:=cE m m.1) ⟨t0,t1⟩ u0];by_cases q:u=t
     .rw[aj q,q,af (by simp[bA]),af (fun z=>hy z.2)]
     .rw[af q];rfl
  .have hlt:h.2.2.2.1<(aq m.1 h.1).2.2.1.length:=by omega
   have i0:=H.fin.1;have iT:=I.mem.gU u0 u1 i0 hlt;by_cases hmk:wd m.1 (qi (aq m.1 h.1).2.2.1 h.2.2.2.1).1=dL h.1 h.2.1
   .have e:q7 m.1 h=(ep m.1 (qi (aq m.1 h.1).2.2.1 h.2.2.2.1).1 (if (aq m.1 h.1).2.1=2 then (qi (aq m.1 h.1).2.2.1 h.2.2.2.1).2.2.1 else (qi (aq m.1 h.1).2.2.1 h.2.2.2.1).2.1,0,0,()),(h.1,h.2.1,h.2.2.1,h.2.2.2.1+1,()),dH,0,()):=by unfold q7;rw[af hd,af hst,af kN,aj hmk]
    obtain⟨hM,hV,hH⟩:=MZ I.mem u0 u1 hst i0 hlt (by rw[<-hd'];exact hmk);have hn:bR (ep m.1 (qi (aq m.1 h.1).2.2.1 h.2.2.2.1).1 (if (aq m.1 h.1).2.1=2 then (qi (aq m.1 h.1).2.2.1 h.2.2.2.1).2.2.1 else (qi (aq m.1 h.1).2.2.1 h.2.2.2.1).2.1,0,0,())) m.2.1.length (h.1,h.2.1,h.2.2.1,h.2.2.2.1+1,()):=by
     refine⟨H.t,H.seq,H.r8,⟨by dsimp only;omega,by dsimp only;have:=(I.mem.dj _ u0 u1).len;omega⟩,fun _=>⟨c1,by dsimp only;exact hlt,fun q=>absurd q hst,fun _ i a b=>?_⟩⟩;dsimp only at b⊢;have hlen:=I.mem.len;rw[show ∀w,aq (ep m.1 (qi (aq m.1 h.1).2.2.1 h.2.2.2.1).1 w) h.1=aq m.1 h.1 from fun w=>rfl];have zX:=I.mem.gU u0 u1 a (by omega:i<_);rw[EH (by omega) zX.1.1];by_cases hi:(qi (aq m.1 h.1).2.2.1 i).1=(qi (aq m.1 h.1).2.2.1 h.2.2.2.1).1
     .rw[aj hi];exact vg rfl u0
     .rw[af hi];exact c4 hst i a (by
       by_cases q:i=h.2.2.2.1
       .exact absurd (by rw[q]) hi
       .omega)
    unfold kD;rw[hh,e];dsimp only;rw[af (by decide),af (by decide),af (by decide)];obtain⟨p1,p2,p3,p4⟩:=TT hH hn rfl rfl;exact zG I t0 t1 ho hM (fun u _ _=>⟨rfl,rfl,i5⟩) hH p1 p2 p3 p4 hV
   .have e:q7 m.1 h=(m.1,(h.1,h.2.1,h.2.2.1,h.2.2.2.1+1,()),dH,0,()):=by unfold q7;rw[af hd,af hst,af kN,af hmk]
    have hn:bR m.1 m.2.1.length (h.1,h.2.1,h.2.2.1,h.2.2.2.1+1,()):=by
     refine⟨H.t,H.seq,H.r8,⟨by dsimp only;omega,by dsimp only;have:=(I.mem.dj _ u0 u1).len;omega⟩,fun _=>⟨c1,by dsimp only;exact hlt,fun q=>absurd q hst,fun _ i a b=>?_⟩⟩;dsimp only at b⊢;by_cases q:i=h.2.2.2.1
     .rw[q];exact hmk
     .exact c4 hst i a (by omega)
    unfold kD;rw[hh,e];dsimp only;rw[af (by decide),af (by decide),af (by decide)];obtain⟨p1,p2,p3,p4⟩:=TT (fun k hk=>hk) hn rfl rfl;exact zG I t0 t1 ho I.mem (fun u _ _=>⟨rfl,rfl,i5⟩) (fun k hk=>hk) p1 p2 p3 p4 (fun p _ _=>rfl)
theorem Bj{m:aH}(a:aT){t u:Int}{x:cK}(h:0<=t/\t<m.2.1.length)(u0:0<=u):ai (ct (cE m a) t x) u=if u=t then x else ai m u:=qX (m:=cE m a) h u0
theorem acT{got:dK}(h:sC got){q v:Int}(hv:0<=v/\v<=6):sC (got++[(q,v,())]):=by
 intro g hg;rcases bL.1 hg with k | k
 .exact h g k
 .rw[d6]at k;rw[k];exact hv
theorem R9{m:aH}(I:Inv m){t:Int}(t0:0<=t)(t1:t<m.2.1.length)(ho:(ai m t).2.2.1=true)(hs:(ai m t).2.2.2.2.1=[])(oX:(aq m.1 t).1+1<=m.2.2.1):Inv (tN m t):=by
  have T:=I.th t t0 t1;have hop:=T.op ho;have i6:=zC (t:=t) hs;have hno:¬ bw m t:=by unfold bw;rw[i6];simp
  obtain⟨q,B,hq⟩:=T.read ho i6;have oy:=T.along ho;obtain⟨I4,zi⟩:=J4 hop T.got oy;have oD:CU (ai m t)=q/\(0<=q/\q<20)/\q∉gY (ai m t).2.2.2.1/\(ai m t).2.2.2.1.length<8:=by
    rcases zi with h | ⟨q',B',h,h2,h3,h4,h5⟩
    . rw[hq]at h
      have:=ew List.length h.1;simp at this
    . rw[hq]at h
      have:=Fu h;simp only[eS]at this;obtain⟨rfl,_⟩:=this;exact⟨h2,h3,h4,h5⟩
  obtain⟨oD,qC,Xb,hlen⟩:=oD;obtain⟨R,hR,oW,hv⟩:=I.rep;unfold tN;have DT:iw m (ai m t)=(ai m t).2.2.2.1++[(q,(wd m.1 q).1,())]:=by unfold iw;rw[oD]
  rw[oD,DT];by_cases hw:(wd m.1 q).2.1≠0
  . rw[aj hw]
    rcases I.mem.word q qC.1 qC.2 with h | ⟨v,v0,v1,vo,vm,j,j0,j1,je⟩
    . exact absurd h.1 hw
    have e2:((wd m.1 q).2.1-1,(wd m.1 q).2.2.1,(0:Int),(0:Int),())=(v,(aq m.1 v).1,0,0,()):=by rw[vm];simp only[dL];rw[show v+1-1=v by omega]
    rw[e2];have hn:bR m.1 m.2.1.length (v,(aq m.1 v).1,0,0,()):=by
      refine⟨⟨v0,v1⟩,⟨I.mem.kW v v0 v1 vo,e_ _⟩,⟨by dsimp only;omega,by dsimp only;omega⟩,⟨by dsimp only;omega,by dsimp only;omega⟩,fun _=>⟨by dsimp only;omega,by dsimp only;omega,fun _=>⟨rfl,fun i a b=>?_⟩,fun _ i a b=>?_⟩⟩
      . dsimp only at b;omega
      . dsimp only at b;omega
    obtain⟨p1,p2,p3,p4⟩:=MI T hn (fun e=>hno (by rw[<-show v=t from e];exact vo)) (.inl hs);exact zG I t0 t1 ho I.mem (fun u _ _=>⟨rfl,rfl,i5⟩) (fun k hk=>hk) p1 p2 p3 p4 (fun p _ _=>rfl)
  have hw0:(wd m.1 q).2.1=0:=by omega
  rw[af hw];have hval:(wd m.1 q).1=bV R q:=by rw[<-u6 hw0,hv q qC.1 qC.2]
  rw[hval];have hg':sC ((ai m t).2.2.2.1++[(q,bV R q,())]):=acT T.got (BN hR q qC);have t_:qN ((ai m t).2.2.2.1++[(q,bV R q,())]) (aX (ai m t)):=aa7 hop T.got oy hq Xb _;obtain⟨alx,Lh⟩:=J4 hop hg' t_;by_cases hlt:¬ (run ((ai m t).2.2.2.1++[(q,bV R q,())]) (prog (aX (ai m t)))).2<0
  . have uh:gh (aX (ai m t)) ((ai m t).2.2.2.1++[(q,bV R q,())])=(NA,false,()):=by unfold gh;rw[af (fun z=>hlt z.2)]
    rw[uh,aj rfl];have hb:bA (rX (ai m t) ((ai m t).2.2.2.1++[(q,bV R q,())])) t=bA (ai m t) t:=rfl;refine A9 I t0 t1 (I.mem.kV fun u u0 _=>RY (a:=m.1) t0 t1 hb u u0) (fun u _ _ _=>⟨rfl,rfl⟩) (fun k hk=>hk) ?_ ⟨rfl,rfl,rfl⟩ (fun u u0 _=>MA t0 t1 u0 hb i5 rfl) (fun p _ _=>rfl)
    exact { ops:=T.ops,pc:=T.pc,on:=T.on,off:=fun e=>by rw[show(rX (ai m t) ((ai m t).2.2.2.1++[(q,bV R q,())])).2.2.1=(ai m t).2.2.1 from rfl,ho]at e;cases e
            got:=hg',st:=T.st,dZ:=T.dZ,own:=T.own,along:=fun _=>t_
            read:=fun _ _=>by
              rcases Lh with h | ⟨q',B',h,_⟩
              . exact absurd h.2 (by omega)
              . exact⟨q',B',h⟩
            plan:=fun e=>by rw[hb,i6]at e;cases e }
  replace hlt:(run ((ai m t).2.2.2.1++[(q,bV R q,())]) (prog (aX (ai m t)))).2<0:=by omega
  have p_:path (dG ((ai m t).2.2.2.1++[(q,bV R q,())])) (prog (aX (ai m t)))=gY ((ai m t).2.2.2.1++[(q,bV R q,())]):=by
    rcases Lh with h | ⟨q',B',h,h2,h3,_⟩
    . exact h.1
    . omega
  obtain⟨k,hk,uf⟩:=I.call.jN t t0 t1 ho;have UA:m3 m t=none:=by unfold m3;rw[af (fun z=>by rw[i6]at z;cases z.1)]
  cases dn:mK (aX (ai m t)) ((ai m t).2.2.2.1++[(q,bV R q,())]) with
  | some y=>
    have uh:gh (aX (ai m t)) ((ai m t).2.2.2.1++[(q,bV R q,())])=((true,(y.1,y.2,()),[],()),true,()):=by unfold gh;rw[aj ⟨hop,hlt⟩,dn]
    rw[uh];dsimp only;rw[af (by simp),aj rfl];obtain⟨hout,Wn,hyl⟩:=aj4 hR hop p_ dn;have hC:kE m.2.2.2.1 t=k:=I.call.nk hk;have e:iD m t (y.1,y.2,())=(m.1,m.2.1,m.2.2.1,m.2.2.2.1.set k.toNat ((ay m.2.2.2.1 k).1,(ay m.2.2.2.1 k).2.1,(ay m.2.2.2.1 k).2.2.1,m.2.2.1,(ay m.2.2.2.1 k).2.2.2.2.1,(y.1,y.2,()),()),m.2.2.2.2.1++[k],m.2.2.2.2.2):=by unfold iD;rw[hC,af (by have:=hk.dM;omega)];rfl
    have Uu:=I.call.so (r:=(y.1,y.2,())) t0 t1 hk UA hyl (oe:=fun u=>if u=t then some (y.1,y.2,()) else m3 m u) (aj rfl) (fun u _ h=>af h);have hkn:k∉m.2.2.2.2.1:=fun z=>by
      have h1:=(I.call.g_ k z).2.2;have h2:=(I.call.qI t k t0 t1 hk).1 UA;omega
    have gk:ay (m.2.2.2.1.set k.toNat ((ay m.2.2.2.1 k).1,(ay m.2.2.2.1 k).2.1,(ay m.2.2.2.1 k).2.2.1,m.2.2.1,(ay m.2.2.2.1 k).2.2.2.2.1,(y.1,y.2,()),())) k=((ay m.2.2.2.1 k).1,(ay m.2.2.2.1 k).2.1,(ay m.2.2.2.1 k).2.2.1,m.2.2.1,(ay m.2.2.2.1 k).2.2.2.2.1,(y.1,y.2,()),()):=by rw[Dg hk.dM hk.dM.1,aj rfl]
    have Lp:iS (m.2.2.2.1.set k.toNat ((ay m.2.2.2.1 k).1,(ay m.2.2.2.1 k).2.1,(ay m.2.2.2.1 k).2.2.1,m.2.2.1,(ay m.2.2.2.1 k).2.2.2.2.1,(y.1,y.2,()),())) m.2.2.2.2.2.1 (m.2.2.2.2.1++[k]) R:=by
      have w6:iS (m.2.2.2.1.set k.toNat ((ay m.2.2.2.1 k).1,(ay m.2.2.2.1 k).2.1,(ay m.2.2.2.1 k).2.2.1,m.2.2.1,(ay m.2.2.2.1 k).2.2.2.2.1,(y.1,y.2,()),())) m.2.2.2.2.2.1 m.2.2.2.2.1 R:=by refine oW.same fun j hj=>?_;rw[Dg hk.dM (I.call.g_ j hj).1,af (fun z:j=k=>hkn (by rw[<-z];exact hj))];exact⟨rfl,rfl⟩
      have h:=iS.snoc (k:=k) w6 hR (by rw[gk];dsimp only;rw[uf];exact hout);rw[gk]at h;dsimp only at h;rw[show jg R (ay m.2.2.2.1 k).2.1 y.1=R by rw[uf];exact Wn]at h;exact h
    rw[e];have fK:∀u:Int,0<=u->ai (d_ (m.1,m.2.1,m.2.2.1,m.2.2.2.1.set k.toNat ((ay m.2.2.2.1 k).1,(ay m.2.2.2.1 k).2.1,(ay m.2.2.2.1 k).2.2.1,m.2.2.1,(ay m.2.2.2.1 k).2.2.2.2.1,(y.1,y.2,()),()),m.2.2.2.2.1++[k],m.2.2.2.2.2) t (y.1,y.2,())) u=if u=t then ((ai m t).1,(ai m t).2.1+1,false,[],[],()) else ai m u:=by
      intro u u0;unfold d_;have h2:(ir (m.1,m.2.1,m.2.2.1,m.2.2.2.1.set k.toNat ((ay m.2.2.2.1 k).1,(ay m.2.2.2.1 k).2.1,(ay m.2.2.2.1 k).2.2.1,m.2.2.1,(ay m.2.2.2.1 k).2.2.2.2.1,(y.1,y.2,()),()),m.2.2.2.2.1++[k],m.2.2.2.2.2) t (y.1,y.2,())).2.1=m.2.1:=by unfold ir;split<;>rfl
      rw[qX (by rw[h2];exact⟨t0,t1⟩) u0,zA h2 u];rfl
    refine M6 (m:=(m.1,m.2.1,m.2.2.1,m.2.2.2.1.set k.toNat ((ay m.2.2.2.1 k).1,(ay m.2.2.2.1 k).2.1,(ay m.2.2.2.1 k).2.2.1,m.2.2.1,(ay m.2.2.2.1 k).2.2.2.2.1,(y.1,y.2,()),()),m.2.2.2.2.1++[k],m.2.2.2.2.2)) (k:=k) (yes:=fun u=>if u=t then some (y.1,y.2,()) else m3 m u)
      t0 t1 I.n I.time ?_ I.th ho Uu ?_ (aj rfl) (fun u _ h=>af h) ⟨R,hR,Lp,hv⟩ I.first
    . refine I.mem.kV fun u u0 _=>?_
      unfold bw;rw[fK u u0];by_cases h:u=t
      . rw[aj h,h,i6];simp[bA]
      . rw[af h]
    . exact⟨by simpa using hk.dM,by show(ay (m.2.2.2.1.set _ _) k).1=t;rw[gk];exact hk.t,by show(ay (m.2.2.2.1.set _ _) k).2.2.2.2.1 = -1;rw[gk];exact hk.fin⟩
  | none=>
    have uh:gh (aX (ai m t)) ((ai m t).2.2.2.1++[(q,bV R q,())])=((false,eE (aX (ai m t)) ((ai m t).2.2.2.1++[(q,bV R q,())]),dz (aX (ai m t)) ((ai m t).2.2.2.1++[(q,bV R q,())]),()),true,()):=by unfold gh;rw[aj ⟨hop,hlt⟩,dn]
    rw[uh];dsimp only;rw[af (by simp),af (by simp)];have hE:=MW hop hg' t_ p_ dn;have hEr:=MX hop hg' t_ p_ dn;have hEl:=(A4 hop hg' t_ p_ dn).2.2;rw[cI,l9]at hEl;generalize hx:rm (rX (ai m t) ((ai m t).2.2.2.1++[(q,bV R q,())])) (t,(aq m.1 t).1+1,0,0,())=x;have f6:x.2.2.2.2.1=[(t,(aq m.1 t).1+1,0,0,())]:=by rw[<-hx];show(ai m t).2.2.2.2.1++_=_;rw[hs];rfl
    have wR:x.2.2.2.1=(ai m t).2.2.2.1++[(q,bV R q,())]:=by rw[<-hx];rfl
    have La:aX x=aX (ai m t):=by rw[<-hx];rfl
    have oE:x.2.2.1=true:=by rw[<-hx];exact ho
    have CH:bA x t=true:=(Hr x t).2 ⟨_,_,f6,rfl⟩;have mg:=I.mem.di;obtain⟨hM,hH,hV⟩:=aj2 I.mem t0 t1 hno (lR:=bw (ct (cE m (bI m.1 t ((aq m.1 t).1+1,1,dz (aX (ai m t)) ((ai m t).2.2.2.1++[(q,bV R q,())]),eE (aX (ai m t)) ((ai m t).2.2.2.1++[(q,bV R q,())]),()))) t x))
      (by unfold bw;rw[Bj _ ⟨t0,t1⟩ t0,aj rfl];exact CH) (fun u u0 h=>by unfold bw;rw[Bj _ ⟨t0,t1⟩ u0,af h])
      (r:=eE (aX (ai m t)) ((ai m t).2.2.2.1++[(q,bV R q,())])) hE (by omega) hEr oX (MK _ _)
    have hd:∀u:Int,0<=u->aq (bI m.1 t ((aq m.1 t).1+1,1,dz (aX (ai m t)) ((ai m t).2.2.2.1++[(q,bV R q,())]),eE (aX (ai m t)) ((ai m t).2.2.2.1++[(q,bV R q,())]),())) u=if u=t then ((aq m.1 t).1+1,1,dz (aX (ai m t)) ((ai m t).2.2.2.1++[(q,bV R q,())]),eE (aX (ai m t)) ((ai m t).2.2.2.1++[(q,bV R q,())]),()) else aq m.1 u:=fun u u0=>n7 (by omega) u0
    have hdt:=(hd t t0).trans (aj rfl);have aly:=(I.mem.dj t t0 t1).seq.1;refine A9 I t0 t1 hM (fun u u0 _ h=>by rw[hd u u0,af h];exact⟨rfl,rfl⟩) hH ?_ (by rw[<-hx];exact⟨rfl,rfl,rfl⟩) (fun u u0 _=>?_) hV
    . exact { ops:=by rw[<-hx];exact T.ops,pc:=by rw[<-hx];exact T.pc,on:=fun _=>by rw[<-hx];exact T.on ho,off:=fun e=>by rw[oE]at e;cases e
              got:=by rw[wR];exact hg'
              st:=.inr (.inl ⟨_,f6⟩)
              dZ:=fun k hk=>by
                rw[f6,d6]at hk;subst hk;refine⟨⟨t0,t1⟩,⟨by dsimp only;omega,by dsimp only;rw[hdt];exact e_ _⟩,⟨by dsimp only;omega,by dsimp only;omega⟩,⟨by dsimp only;omega,by dsimp only;omega⟩,fun _=>⟨by dsimp only;omega,by dsimp only;omega,fun _=>⟨rfl,fun i a b=>?_⟩,fun _ i a b=>?_⟩⟩
                . dsimp only at b;omega
                . dsimp only at b;omega
              own:=fun k hk _=>by
                rw[f6,d6]at hk;rw[hk,hdt]
              along:=fun _=>by rw[wR,La];exact t_
              read:=fun _ e=>by rw[CH]at e;cases e
              plan:=fun _=>by rw[wR,La,hdt];exact⟨p_,dn,rfl,rfl⟩ }
    . by_cases h:u=t
      . subst h
        rw[UA];unfold m3;rw[show(ct (cE m (bI m.1 u ((aq m.1 u).1+1,1,dz (aX (ai m u)) ((ai m u).2.2.2.1++[(q,bV R q,())]),eE (aX (ai m u)) ((ai m u).2.2.2.1++[(q,bV R q,())]),()))) u x).1=bI m.1 u ((aq m.1 u).1+1,1,dz (aX (ai m u)) ((ai m u).2.2.2.1++[(q,bV R q,())]),eE (aX (ai m u)) ((ai m u).2.2.2.1++[(q,bV R q,())]),()) from rfl,hdt,af (fun z=>by have:=z.2;dsimp only at this;omega)]
      . unfold m3
        rw[show(ct (cE m (bI m.1 t ((aq m.1 t).1+1,1,dz (aX (ai m t)) ((ai m t).2.2.2.1++[(q,bV R q,())]),eE (aX (ai m t)) ((ai m t).2.2.2.1++[(q,bV R q,())]),()))) t x).1=bI m.1 t ((aq m.1 t).1+1,1,dz (aX (ai m t)) ((ai m t).2.2.2.1++[(q,bV R q,())]),eE (aX (ai m t)) ((ai m t).2.2.2.1++[(q,bV R q,())]),()) from rfl,hd u u0,af h,Bj _ ⟨t0,t1⟩ u0,af h]
theorem IG{m:aH}(I:Inv m):Inv (tick m) where
 n:=I.n
 time:=by have:=I.time;show 0<=m.2.2.1+1;omega
 mem:=I.mem.CP (by show m.2.2.1<=m.2.2.1+1;omega)
 th:=I.th
 call:=I.call.same (by show m.2.2.1<=m.2.2.1+1;omega) (fun _ _ _=>⟨rfl,rfl,rfl,rfl⟩)
 rep:=I.rep
 first:=I.first
theorem ajI{m:aH}(I:Inv m){t:Int}(t0:0<=t)(t1:t<m.2.1.length)(ho:(ai m t).2.2.1=false)(hp:(ai m t).2.1<(ai m t).1.length):Inv (pT (tick m) t):=by
 have T:=I.th t t0 t1;have z_:=T.pc;have hoff:=T.off ho;have hop:dF (aX (ai m t))=true:=by unfold aX;rw[qv (show(ai m t).2.1.toNat<(ai m t).1.length by omega)];exact T.ops.2 _ (er _)
 have hl:(pT (tick m) t).2.1.length=m.2.1.length:=o7 _ _ _;have fK:∀u:Int,0<=u->ai (pT (tick m) t) u=if u=t then ((ai m t).1,(ai m t).2.1,true,(ai m t).2.2.2) else ai m u:=fun u u0=>qX (m:=(m.1,m.2.1,_)) ⟨t0,t1⟩ u0
 have hown:∀u:Int,0<=u->bA (ai (pT (tick m) t) u) u=bA (ai m u) u:=by
  intro u u0;rw[fK u u0];by_cases h:u=t
  .subst h;rw[aj rfl];rfl
  .rw[af h]
 have z8:(ai m t).2.2.2=([],[],()):=Prod.ext hoff.1 (Prod.ext hoff.2 rfl);refine⟨by rw[hl];exact I.n,by have:=I.time;show 0<=m.2.2.1+1;omega,?_,?_,?_,?_,I.first⟩
 .rw[hl];refine(I.mem.CP (by show m.2.2.1<=m.2.2.1+1;omega)).kV fun u u0 _=>?_;unfold bw;rw[hown u u0]
 .intro u u0 u1;rw[hl]at u1⊢;rw[fK u u0];by_cases h:u=t
  .subst h;rw[aj rfl,z8];exact T.rest true (fun _=>hp)
  .rw[af h];exact I.th u u0 u1
 .rw[hl];have hb:=I.call.yY t0 t1 ho hop (by unfold m3;rw[af (fun z=>by rw[zC hoff.2]at z;cases z.1)]) (on':=fun u=>(ai (pT (tick m) t) u).2.2.1) (by rw[fK t t0,aj rfl]) (fun u u0 h=>by rw[fK u u0,af h]) I.time;refine(hb.same (e_ _) fun u u0 u1=>⟨rfl,?_,?_,?_⟩)
  .rw[fK u u0];split
   .next h=>rw[h]
   .rfl
  .rw[fK u u0];split
   .next h=>rw[h];rfl
   .rfl
  .unfold m3;rw[hown u u0];rfl
 .obtain⟨R,h1,h2,h3⟩:=I.rep;refine⟨R,h1,?_,h3⟩;show iS (m.2.2.2.1++_) _ _ R;refine h2.same fun j hj=>?_;have hj':=I.call.g_ j hj;rw[Hl hj'.1,aj hj'.2.1];exact⟨rfl,rfl⟩
theorem R_{m:aH}(I:Inv m){t:Int}(t0:0<=t)(t1:t<m.2.1.length)(hp:(ai m t).2.1<(ai m t).1.length):Inv (vp m t):=by
 unfold vp;by_cases h1:(ai m t).2.2.1=false
 .rw[aj h1];exact ajI I t0 t1 h1 hp
 rw[af h1];by_cases h2:(ai m t).2.2.2.2.1≠[]
 .rw[aj h2];exact acY (IG I) t0 t1 h2
 .rw[af h2];refine R9 (IG I) t0 t1 (by show(ai m t).2.2.1=true;simpa using h1) (by show(ai m t).2.2.2.2.1=[];simpa using h2) ?_;have:=(I.mem.dj t t0 t1).seq.2;show(aq m.1 t).1+1<=m.2.2.1+1;omega
abbrev BD:Ty:=(Ty.pair (Ty.int IntKind.i64) (Ty.pair (Ty.int IntKind.i64) (Ty.pair (Ty.sl (Ty.pair (Ty.int IntKind.i64) (Ty.pair (Ty.int IntKind.i64) (Ty.pair (Ty.int IntKind.i64) Ty.unit)))) (Ty.pair (Ty.pair (Ty.int IntKind.i64) (Ty.pair (Ty.sl (Ty.int IntKind.i64)) Ty.unit)) Ty.unit))))
theorem R3{D:Den ctx}{n:Nat}{c:bf}{K0:Int->Option ((Int×Unit)×Unit)}{K1:Option ((Int×Unit)×Unit)}{l:List (nw)}(hl:l.length<=1000000){f:nw->Bool}(hf:∀x∈l,gZ ctx D c [bD.val BD x] Ty.bool=some (f x)) :
  ∀(m i:Nat),i<=l.length->l.length-i<m->((l.drop i).any f=false->JD D n c K0 K1 m l (l.length:Int) (i:Int)=K1)/\
   ((l.drop i).any f=true->∃j:Nat,JD D n c K0 K1 m l (l.length:Int) (i:Int)=K0 (j:Int))
 | 0,i,_,h2=>by omega
 | m+1,i,h1,h2=>by
  simp only[JD,qez];by_cases h:i<l.length
  .have ih:=R3 (n:=n) (K0:=K0) (K1:=K1) hl hf m (i+1) (by omega) (by omega);have e:=hf l[i] (er _);rw[qf (by omega),ix h,aJ,eB,qv h,qu (by omega)];refine Eq.mpr (ew (fun z=>((List.drop i l).any f=false->qd z _=K1)/\((List.drop i l).any f=true->∃j:Nat,qd z _=K0 (j:Int))) e) ?_;rw[qc,uS h,uJ];cases hx:f l[i]
   .rw[aN,qV];exact ih
   .rw[aJ,uv];exact⟨fun q=>(by cases q),fun _=>⟨i,rfl⟩⟩
  .rw[qg (by omega),uX h];exact⟨fun _=>rfl,fun q=>(by simp at q)⟩
theorem ahu{X:Ext}(hX:fI X){n:Nat}(hn:W+2<=n){c:bf}{l:List (nw)}(hl:l.length<=1000000){f:nw->Bool}(hf:∀x∈l,gZ ctx (DD X (n-2)) c [bD.val BD x] Ty.bool=some (f x)) :
  qd3 (DD X n) l c=some ((l.any f,()),()):=by
 obtain⟨n,rfl⟩:∃k,n=k+2:=⟨n-2,by omega⟩
 have hW:=ez;rw[qod hX];simp only[qd5,qhm];rw[qqj hX];simp only[qfa,qff,qep];have key:=R3 (D:=DD X n) (n:=n) (c:=c) (K0:=fun v=>qd9 (DD X n) n c v) (K1:=qea (DD X n) n c) hl hf n 0 (fF _) (by omega);rw[jV]at key;rw[show(0:Int)=((0:Nat):Int) from rfl];cases hx:l.any f
 .rw[key.1 hx];simp[qea,qd]
 .obtain⟨j,hj⟩:=key.2 hx;rw[hj];simp[qd9,qd]
abbrev Bx:Ty:=(Ty.pair (Ty.int IntKind.i64) (Ty.pair (Ty.int IntKind.i64) (Ty.pair (Ty.int IntKind.i64) Ty.unit)))
theorem R6{D:Den ctx}{n:Nat}{c:bf}{K0:Int->Option ((Int×Unit)×Unit)}{K1:Option ((Int×Unit)×Unit)}{l:List (lX)}(hl:l.length<=1000000){f:lX->Bool}(hf:∀x∈l,gZ ctx D c [bD.val Bx x] Ty.bool=some (f x)) :
  ∀(m i:Nat),i<=l.length->l.length-i<m->((l.drop i).any f=false->JG D n c K0 K1 m l (l.length:Int) (i:Int)=K1)/\
   ((l.drop i).any f=true->∃j:Nat,JG D n c K0 K1 m l (l.length:Int) (i:Int)=K0 (j:Int))
 | 0,i,_,h2=>by omega
 | m+1,i,h1,h2=>by
  simp only[JG,qe5];by_cases h:i<l.length
  .have ih:=R6 (n:=n) (K0:=K0) (K1:=K1) hl hf m (i+1) (by omega) (by omega);have e:=hf l[i] (er _);rw[qf (by omega),ix h,aJ,eB,qv h,qu (by omega)];refine Eq.mpr (ew (fun z=>((List.drop i l).any f=false->qd z _=K1)/\((List.drop i l).any f=true->∃j:Nat,qd z _=K0 (j:Int))) e) ?_;rw[qc,uS h,uJ];cases hx:f l[i]
   .rw[aN,qV];exact ih
   .rw[aJ,uv];exact⟨fun q=>(by cases q),fun _=>⟨i,rfl⟩⟩
  .rw[qg (by omega),uX h];exact⟨fun _=>rfl,fun q=>(by simp at q)⟩
theorem ahx{X:Ext}(hX:fI X){n:Nat}(hn:W+2<=n){c:bf}{l:List (lX)}(hl:l.length<=1000000){f:lX->Bool}(hf:∀x∈l,gZ ctx (DD X (n-2)) c [bD.val Bx x] Ty.bool=some (f x)) :
  qd4 (DD X n) l c=some ((l.any f,()),()):=by
 obtain⟨n,rfl⟩:∃k,n=k+2:=⟨n-2,by omega⟩
 have hW:=ez;rw[qog hX];simp only[qd8,qhp];rw[qqm hX];simp only[qfd,qfi,qes];have key:=R6 (D:=DD X n) (n:=n) (c:=c) (K0:=fun v=>qef (DD X n) n c v) (K1:=qeg (DD X n) n c) hl hf n 0 (fF _) (by omega);rw[jV]at key;rw[show(0:Int)=((0:Nat):Int) from rfl];cases hx:l.any f
 .rw[key.1 hx];simp[qeg,qd]
 .obtain⟨j,hj⟩:=key.2 hx;rw[hj];simp[qef,qd]
abbrev BR:Ty:=(Ty.pair (Ty.sl (Ty.pair (Ty.int IntKind.i64) (Ty.pair (Ty.int IntKind.i64) (Ty.pair (Ty.int IntKind.i64) Ty.unit)))) (Ty.pair (Ty.int IntKind.i64) (Ty.pair Ty.bool (Ty.pair (Ty.sl (Ty.pair (Ty.int IntKind.i64) (Ty.pair (Ty.int IntKind.i64) Ty.unit))) (Ty.pair (Ty.sl (Ty.pair (Ty.int IntKind.i64) (Ty.pair (Ty.int IntKind.i64) (Ty.pair (Ty.int IntKind.i64) (Ty.pair (Ty.int IntKind.i64) Ty.unit))))) Ty.unit)))))
theorem Sy{D:Den ctx}{n:Nat}{c:bf}{K0:Int->Option ((Int×Unit)×Unit)}{K1:Option ((Int×Unit)×Unit)}{l:List (cK)}(hl:l.length<=1000000){f:cK->Bool}(hf:∀x∈l,gZ ctx D c [bD.val BR x] Ty.bool=some (f x)) :
  ∀(m i:Nat),i<=l.length->l.length-i<m->((l.drop i).any f=false->JL D n c K0 K1 m l (l.length:Int) (i:Int)=K1)/\
   ((l.drop i).any f=true->∃j:Nat,JL D n c K0 K1 m l (l.length:Int) (i:Int)=K0 (j:Int))
 | 0,i,_,h2=>by omega
 | m+1,i,h1,h2=>by
  simp only[JL,qwk];by_cases h:i<l.length
  .have ih:=Sy (n:=n) (K0:=K0) (K1:=K1) hl hf m (i+1) (by omega) (by omega);have e:=hf l[i] (er _);rw[qf (by omega),ix h,aJ,eB,qv h,qu (by omega)];refine Eq.mpr (ew (fun z=>((List.drop i l).any f=false->qd z _=K1)/\((List.drop i l).any f=true->∃j:Nat,qd z _=K0 (j:Int))) e) ?_;rw[qc,uS h,uJ];cases hx:f l[i]
   .rw[aN,qV];exact ih
   .rw[aJ,uv];exact⟨fun q=>(by cases q),fun _=>⟨i,rfl⟩⟩
  .rw[qg (by omega),uX h];exact⟨fun _=>rfl,fun q=>(by simp at q)⟩
theorem akJ{X:Ext}(hX:fI X){n:Nat}(hn:W+2<=n){c:bf}{l:List (cK)}(hl:l.length<=1000000){f:cK->Bool}(hf:∀x∈l,gZ ctx (DD X (n-2)) c [bD.val BR x] Ty.bool=some (f x)) :
  qh9 (DD X n) l c=some ((l.any f,()),()):=by
 obtain⟨n,rfl⟩:∃k,n=k+2:=⟨n-2,by omega⟩
 have hW:=ez;rw[q5b hX];simp only[qmg,qy3];rw[q7t hX];simp only[qwl,qxk,qpq];have key:=Sy (D:=DD X n) (n:=n) (c:=c) (K0:=fun v=>qnb (DD X n) n c v) (K1:=qnc (DD X n) n c) hl hf n 0 (fF _) (by omega);rw[jV]at key;rw[show(0:Int)=((0:Nat):Int) from rfl];cases hx:l.any f
 .rw[key.1 hx];simp[qnc,qd]
 .obtain⟨j,hj⟩:=key.2 hx;rw[hj];simp[qnb,qd]
abbrev Cl:Ty:=(Ty.pair (Ty.int IntKind.i64) (Ty.pair (Ty.int IntKind.i64) (Ty.pair (Ty.int IntKind.i64) Ty.unit)))
theorem Nz{D:Den ctx}{n:Nat}{c:bf}{K0:Int->Option ((Int×Unit)×Unit)}{K1:Option ((Int×Unit)×Unit)}{l:List (cH)}(hl:l.length<=1000000){f:cH->Bool}(hf:∀x∈l,gZ ctx D c [bD.val Cl x] Ty.bool=some (f x)) :
  ∀(m i:Nat),i<=l.length->l.length-i<m->((l.drop i).any f=false->JH D n c K0 K1 m l (l.length:Int) (i:Int)=K1)/\
   ((l.drop i).any f=true->∃j:Nat,JH D n c K0 K1 m l (l.length:Int) (i:Int)=K0 (j:Int))
 | 0,i,_,h2=>by omega
 | m+1,i,h1,h2=>by
  simp only[JH,qf7];by_cases h:i<l.length
  .have ih:=Nz (n:=n) (K0:=K0) (K1:=K1) hl hf m (i+1) (by omega) (by omega);have e:=hf l[i] (er _);rw[qf (by omega),ix h,aJ,eB,qv h,qu (by omega)];refine Eq.mpr (ew (fun z=>((List.drop i l).any f=false->qd z _=K1)/\((List.drop i l).any f=true->∃j:Nat,qd z _=K0 (j:Int))) e) ?_;rw[qc,uS h,uJ];cases hx:f l[i]
   .rw[aN,qV];exact ih
   .rw[aJ,uv];exact⟨fun q=>(by cases q),fun _=>⟨i,rfl⟩⟩
  .rw[qg (by omega),uX h];exact⟨fun _=>rfl,fun q=>(by simp at q)⟩
theorem ai2{X:Ext}(hX:fI X){n:Nat}(hn:W+2<=n){c:bf}{l:List (cH)}(hl:l.length<=1000000){f:cH->Bool}(hf:∀x∈l,gZ ctx (DD X (n-2)) c [bD.val Cl x] Ty.bool=some (f x)) :
  qfn (DD X n) l c=some ((l.any f,()),()):=by
 obtain⟨n,rfl⟩:∃k,n=k+2:=⟨n-2,by omega⟩
 have hW:=ez;rw[qrj hX];simp only[qfo,qi8];rw[quf hX];simp only[qgm,qgp,qfz];have key:=Nz (D:=DD X n) (n:=n) (c:=c) (K0:=fun v=>qfp (DD X n) n c v) (K1:=qfq (DD X n) n c) hl hf n 0 (fF _) (by omega);rw[jV]at key;rw[show(0:Int)=((0:Nat):Int) from rfl];cases hx:l.any f
 .rw[key.1 hx];simp[qfq,qd]
 .obtain⟨j,hj⟩:=key.2 hx;rw[hj];simp[qfp,qd]
abbrev Bw:Ty:=(Ty.pair (Ty.int IntKind.i64) (Ty.pair (Ty.int IntKind.i64) Ty.unit))
theorem R5{D:Den ctx}{n:Nat}{c:bf}{K0:Int->Option ((Int×Unit)×Unit)}{K1:Option ((Int×Unit)×Unit)}{l:List (Int×Int×Unit)}(hl:l.length<=1000000){f:Int×Int×Unit->Bool}(hf:∀x∈l,gZ ctx D c [bD.val Bw x] Ty.bool=some (f x)) :
  ∀(m i:Nat),i<=l.length->l.length-i<m->((l.drop i).any f=false->JF D n c K0 K1 m l (l.length:Int) (i:Int)=K1)/\
   ((l.drop i).any f=true->∃j:Nat,JF D n c K0 K1 m l (l.length:Int) (i:Int)=K0 (j:Int))
 | 0,i,_,h2=>by omega
 | m+1,i,h1,h2=>by
  simp only[JF,qe3];by_cases h:i<l.length
  .have ih:=R5 (n:=n) (K0:=K0) (K1:=K1) hl hf m (i+1) (by omega) (by omega);have e:=hf l[i] (er _);rw[qf (by omega),ix h,aJ,eB,qv h,qu (by omega)];refine Eq.mpr (ew (fun z=>((List.drop i l).any f=false->qd z _=K1)/\((List.drop i l).any f=true->∃j:Nat,qd z _=K0 (j:Int))) e) ?_;rw[qc,uS h,uJ];cases hx:f l[i]
   .rw[aN,qV];exact ih
   .rw[aJ,uv];exact⟨fun q=>(by cases q),fun _=>⟨i,rfl⟩⟩
  .rw[qg (by omega),uX h];exact⟨fun _=>rfl,fun q=>(by simp at q)⟩
theorem ahw{X:Ext}(hX:fI X){n:Nat}(hn:W+2<=n){c:bf}{l:List (Int×Int×Unit)}(hl:l.length<=1000000){f:Int×Int×Unit->Bool}(hf:∀x∈l,gZ ctx (DD X (n-2)) c [bD.val Bw x] Ty.bool=some (f x)) :
  US (DD X n) l c=some ((l.any f,()),()):=by
 obtain⟨n,rfl⟩:∃k,n=k+2:=⟨n-2,by omega⟩
 have hW:=ez;rw[qof hX];simp only[qd7,qho];rw[qql hX];simp only[qfc,qfh,qer];have key:=R5 (D:=DD X n) (n:=n) (c:=c) (K0:=fun v=>qed (DD X n) n c v) (K1:=qee (DD X n) n c) hl hf n 0 (fF _) (by omega);rw[jV]at key;rw[show(0:Int)=((0:Nat):Int) from rfl];cases hx:l.any f
 .rw[key.1 hx];simp[qee,qd]
 .obtain⟨j,hj⟩:=key.2 hx;rw[hj];simp[qed,qd]
abbrev Bv:Ty:=(Ty.pair (Ty.int IntKind.i64) (Ty.pair (Ty.int IntKind.i64) (Ty.pair (Ty.int IntKind.i64) (Ty.pair (Ty.int IntKind.i64) Ty.unit))))
theorem R4{D:Den ctx}{n:Nat}{c:bf}{K0:Int->Option ((Int×Unit)×Unit)}{K1:Option ((Int×Unit)×Unit)}{l:List (gv)}(hl:l.length<=1000000){f:gv->Bool}(hf:∀x∈l,gZ ctx D c [bD.val Bv x] Ty.bool=some (f x)) :
  ∀(m i:Nat),i<=l.length->l.length-i<m->((l.drop i).any f=false->JE D n c K0 K1 m l (l.length:Int) (i:Int)=K1)/\
   ((l.drop i).any f=true->∃j:Nat,JE D n c K0 K1 m l (l.length:Int) (i:Int)=K0 (j:Int))
 | 0,i,_,h2=>by omega
 | m+1,i,h1,h2=>by
  simp only[JE,qe1];by_cases h:i<l.length
  .have ih:=R4 (n:=n) (K0:=K0) (K1:=K1) hl hf m (i+1) (by omega) (by omega);have e:=hf l[i] (er _);rw[qf (by omega),ix h,aJ,eB,qv h,qu (by omega)];refine Eq.mpr (ew (fun z=>((List.drop i l).any f=false->qd z _=K1)/\((List.drop i l).any f=true->∃j:Nat,qd z _=K0 (j:Int))) e) ?_;rw[qc,uS h,uJ];cases hx:f l[i]
   .rw[aN,qV];exact ih
   .rw[aJ,uv];exact⟨fun q=>(by cases q),fun _=>⟨i,rfl⟩⟩
  .rw[qg (by omega),uX h];exact⟨fun _=>rfl,fun q=>(by simp at q)⟩
theorem ahv{X:Ext}(hX:fI X){n:Nat}(hn:W+2<=n){c:bf}{l:List (gv)}(hl:l.length<=1000000){f:gv->Bool}(hf:∀x∈l,gZ ctx (DD X (n-2)) c [bD.val Bv x] Ty.bool=some (f x)) :
  UR (DD X n) l c=some ((l.any f,()),()):=by
 obtain⟨n,rfl⟩:∃k,n=k+2:=⟨n-2,by omega⟩
 have hW:=ez;rw[qoe hX];simp only[qd6,qhn];rw[qqk hX];simp only[qfb,qfg,qeq];have key:=R4 (D:=DD X n) (n:=n) (c:=c) (K0:=fun v=>qeb (DD X n) n c v) (K1:=qec (DD X n) n c) hl hf n 0 (fF _) (by omega);rw[jV]at key;rw[show(0:Int)=((0:Nat):Int) from rfl];cases hx:l.any f
 .rw[key.1 hx];simp[qec,qd]
 .obtain⟨j,hj⟩:=key.2 hx;rw[hj];simp[qeb,qd]
theorem jP{x a b:Int}(h:a<=x/\x<=b):bt x a b=true:=lq.2 h
section
variable {X:Ext} (hX:fI X) {n:Nat}
include hX
theorem Ax(hn:2<=n)(x:Int):JO (DD X n) x=some ((bt x 0 1000,()),()):=by
 obtain⟨n,rfl⟩:∃k,n=k+1:=⟨n-1,by omega⟩
 rw[afo hX];simp only[qv0,q9c];rw[lD hX (by omega),qc]
theorem MG(hn:2<=n)(x:Int):VD (DD X n) x=some ((bt x 0 19,()),()):=by
 obtain⟨n,rfl⟩:∃k,n=k+1:=⟨n-1,by omega⟩
 rw[agU hX];simp only[Yr,OP];rw[lD hX (by omega),qc]
theorem RM(hn:3<=n){w:lX}{th:Int}(h:T5 w\/∃u s,0<=u/\u<th/\1<=s/\s<=1000000/\w=dL u s):Ze (DD X n) w th=some ((true,()),()):=by
 obtain⟨n,rfl⟩:∃k,n=k+1:=⟨n-1,by omega⟩
 rw[aic hX];simp only[Zr,OZ];rcases h with⟨h1,h2,h3,h4⟩ | ⟨u,s,h1,h2,h3,h4,e⟩
 .rw[qf h1,Ax hX (by omega),qc];dsimp only;rw[jP ⟨h3,h4⟩,bz,bC h2]
 .have e1:w.1=0:=by rw[e];rfl
  have e2:w.2.1=u+1:=by rw[e];rfl
  have e3:w.2.2.1=s:=by rw[e];rfl
  rw[qg (by omega),qf e1,lD hX (by omega),qc];dsimp only;rw[jP ⟨by omega,by omega⟩,aJ,lD hX (by omega),qc];dsimp only;rw[jP ⟨by omega,by omega⟩]
theorem Nw(N n:Nat)(hN:2<=N)(K0:Bool->nw->Option ((Bool×Unit)×Unit))(K1:nw->Option ((Bool×Unit)×Unit)){d:nw}{time:Int}(h:ot d time):∀(m i:Nat),i<=d.2.2.1.length->d.2.2.1.length-i<m->
  Tk (DD X N) n K0 K1 m d.2.2.1 (d.2.2.1.length:Int) (i:Int) d=K1 d
 | 0,i,_,h2=>by omega
 | m+1,i,h1,h2=>by
  have hlen:=h.len;simp only[Tk,Yg];by_cases hi:i<d.2.2.1.length
  .have hr:=h.dM _ (er hi);have ih:=Nw N n hN K0 K1 h m (i+1) (by omega) (by omega);rw[qf (by omega),ix hi,aJ,eB,qv hi,qu (by omega),MG hX (by omega),qc];dsimp only;rw[jP ⟨hr.1.1,by omega⟩,cQ,aN,Ax hX (by omega),qc];dsimp only;rw[jP hr.2.1,cQ,aN,Ax hX (by omega),qc];dsimp only;rw[jP hr.2.2,cQ,aN];by_cases h0:i=0
   .rw[qg (by omega)];exact ih
   .have e:wrap .i64 ((i:Int)-1)=((i-1:Nat):Int):=by rw[qs (by omega) (by omega)];omega
    have hlt:i-1<d.2.2.1.length:=by omega
    have oR:=xA.1 h.zL (i-1) i hlt hi (by omega);rw[qf (by omega),e,ix hlt,aJ,eB,qv hlt,qg (by omega)];exact ih
  .rw[qg (by omega)]
theorem aci(hn:W+3<=n){d:nw}{time:Int}(h:ot d time)(ht:time<=1000000):Zc (DD X n) d=some ((true,()),()):=by
 obtain⟨n,rfl⟩:∃k,n=k+1:=⟨n-1,by omega⟩
 have hW:=ez;have hlen:=h.len;have hs:=h.seq;rw[ah9 hX];simp only[Zn,Zw,qyc];by_cases h0:d.1=0
 .rw[qf h0,h.st.1 h0];simp[dD]
 .have hst:=h.st.2 (by omega);have hL:=Nw hX n n (by omega) (fun bT dU=>q8w (DD X n) n bT dU) (fun sV=>qv8 (DD X n) n sV) h n 0 (fF _) (by omega);rw[show((0:Nat):Int)=0 from rfl]at hL;rw[qg h0,hL];simp only[qv8];rw[lD hX (by omega),qc];dsimp only;rw[jP ⟨by omega,by omega⟩,aJ,lD hX (by omega),qc];dsimp only;rw[jP hst,bz,bC (by omega)]
theorem N5(D:Den ctx)(n:Nat)(K0:Bool->eu->Option ((eu×Bool×Unit)×Unit))(K1:eu->Option ((eu×Bool×Unit)×Unit))(p:Int)(l:List eu)(hl:l.length<=1000)(z:eu):∀(m i:Nat),i<=l.length->l.length-i<m->
  S5 D n K0 K1 m p l (l.length:Int) (i:Int) z=match (l.drop i).find? (fun e=>decide (e.1=p)) with | some e=>K0 true e | none=>K1 z
 | 0,i,_,h2=>by omega
 | m+1,i,h1,h2=>by
  simp only[S5,qye];by_cases hi:i<l.length
  .have ih:=N5 D n K0 K1 p l hl z m (i+1) (by omega) (by omega);rw[qf (by omega),ix hi,aJ,eB,qv hi,qu (by omega),uS hi,List.find?_cons];by_cases h:l[i].1=p
   .rw[qf h,bC h]
   .rw[qg h,b8 h];exact ih
  .rw[qg (by omega),uX hi];rfl
theorem QS(hn:W+1<=n)(d:nw)(hl:d.2.2.1.length<=1000)(p:Int):VA (DD X n) d p=some ((jE d.2.2.1 p,d.2.2.1.any (fun e:eu=>decide (e.1=p)),()),()):=by
 obtain⟨n,rfl⟩:∃k,n=k+1:=⟨n-1,by omega⟩
 have hW:=ez;rw[ahd hX];simp only[XX,Yh,qv9];have hL:=N5 (X:=X) hX (DD X n) n (fun bT dU=>q6b (DD X n) n bT dU) (fun sV=>q6c (DD X n) n sV) p d.2.2.1 hl (0,0,0,()) n 0 (fF _) (by omega);rw[show((0:Nat):Int)=0 from rfl]at hL;rw[hL,jV];unfold jE;cases hf:d.2.2.1.find? (fun e:eu=>decide (e.1=p)) with
 | none=>
  have:(d.2.2.1.any fun e:eu=>decide (e.1=p))=false:=by rw[List.any_eq_false];rw[List.find?_eq_none]at hf;exact hf
  rw[this];rfl
 | some e=>
  have:(d.2.2.1.any fun e:eu=>decide (e.1=p))=true:=by rw[HY];exact⟨e,List.mem_of_find?_eq_some hf,List.find?_some (p:=fun e:eu=>decide (e.1=p)) hf⟩
  rw[this];rfl
theorem acQ(hn:W+4<=n)(d:nw){time:Int}(h:ot d time)(ht:time<=1000000):gZ ctx (DD X n) (bf.mk 110 []) [bD.val BD d] Ty.bool=some false:=by
 obtain⟨n,rfl⟩:∃k,n=k+1:=⟨n-1,by omega⟩
 have e:∀D:Den ctx,gZ ctx D (bf.mk 110 []) [bD.val BD d] Ty.bool=(OF D d).bind fun r=>some r.1.1:=fun D=>by kernel_rfl
 rw[e,ahf hX];simp only[XZ,Ox];rw[aci hX (by omega) h ht,qc];rfl
theorem Nd(N n:Nat)(hN:W+3<=N)(K0:Bool->Option ((Bool×Unit)×Unit))(K1:Option ((Bool×Unit)×Unit)){m:aT}{k:Nat}{time:Int}{own:Int->Prop}(I:eR m k time own)(ht:time<=1000000)(hk:k<=4):∀(c i:Nat),i<=m.1.length->m.1.length-i<c->
  Tq (DD X N) n K0 K1 c m.1 (m.1.length:Int) (i:Int) m=K1
 | 0,i,_,h2=>by omega
 | c+1,i,h1,h2=>by
  have hlen:=I.len;have hd:=I.di;simp only[Tq,Zz];by_cases hi:i<m.1.length
  .have ih:=Nd N n hN K0 K1 I ht hk c (i+1) (by omega) (by omega);have hw:wd m (i:Int)=m.1[i]:=by unfold wd;rw[eB,qv hi]
   have oG:=I.word (i:Int) (by omega) (by omega);unfold Bo at oG;rw[hw]at oG;rw[qf (by omega),ix hi,aJ,eB,qv hi,qu (by omega)];rcases oG with h | ⟨u,u0,u1,uo,e,j,j0,j1,je⟩
   .rw[RM hX (by omega) (.inl h),qc];dsimp only;rw[cQ,aN,qf h.1];exact ih
   .have hs:=I.kW u u0 u1 uo;have Uv:=(I.dj u u0 u1).seq;have mg:=(I.dj u u0 u1).len;have e2:(m.1[i]).2.1=u+1:=by rw[e];rfl
    have e3:(m.1[i]).2.2.1=(aq m u).1:=by rw[e];rfl
    rw[RM hX (by omega) (.inr ⟨u,_,u0,by omega,hs,by omega,e⟩),qc];dsimp only;have e1:wrap .i64 ((m.1[i]).2.1-1)=u:=by rw[qs (by omega) (by omega)];omega
    rw[cQ,aN,qg (by omega),e1,fU u0 (by omega),aJ];have zW:m.2.1.getD u.toNat (0,0,[],(0,[],()),())=aq m u:=rfl;rw[zW,QS hX (by omega) _ (by omega),qc];dsimp only;have zS:((aq m u).2.2.1.any fun e:eu=>decide (e.1=(i:Int)))=true:=by rw[HY];exact⟨_,L2 j0 j1,by rw[gQ];exact je⟩
    rw[zS,cQ,bg,cM,bC e3.symm,cQ,aN];exact ih
  .rw[qg (by omega)]
theorem xD(hn:W+7<=n){m:aT}{k:Nat}{time:Int}{own:Int->Prop}(I:eR m k time own)(ht:time<=1000000)(h1:1<=k)(hk:k<=4):Ix (DD X n) m=some ((true,()),()):=by
 obtain⟨n,rfl⟩:∃k,n=k+1:=⟨n-1,by omega⟩
 have hW:=ez;have hlen:=I.len;have hd:=I.di;rw[aiV hX];simp only[ZU,q8z,Yl];have WB:∀x∈m.2.1,ot x time:=by intro x hx;obtain⟨j,hj,rfl⟩:=mT.1 hx;have:=I.dj (j:Int) (by omega) (by omega);unfold aq at this;rw[eB,qv hj]at this;exact this
 rw[show((m.1.length:Int) != 20)=false by rw[cM,bC (by omega)];rfl,aN,lD hX (by omega),qc];dsimp only;rw[jP ⟨by omega,by omega⟩,cQ,aN,ahu hX (by omega) (by omega) (f:=fun _=>false) (fun x hx=>acQ hX (by omega) x (WB x hx) ht),qc];dsimp only;rw[show(m.2.1.any fun _=>false)=false by simp,aN];have hL:=Nd hX n n (by omega) (fun bT=>Oj (DD X n) n bT) (Ok (DD X n) n) I ht hk n 0 (fF _) (by omega);rw[show((0:Nat):Int)=0 from rfl]at hL;rw[hL];rfl
end
def g7(l:List gH)(t:Int):Nat->Int
 | 0=>0
 | i+1=>g7 l t i+if (l.getD i dC).1=t/\(l.getD i dC).2.2.2.2.1>=0 then 1 else 0
def gq(l:List gH)(t:Int):Nat->Int
 | 0=>0
 | i+1=>gq l t i+if (l.getD i dC).1=t/\¬ (l.getD i dC).2.2.2.2.1>=0 then 1 else 0
def zn(l:List gH)(t:Int):Nat->Int
 | 0=>-1
 | i+1=>if (l.getD i dC).1=t then (i:Int) else zn l t i
def m6(l:List gH):Nat->Int
 | 0=>0
 | i+1=>m6 l i+if (l.getD i dC).2.2.2.1>=0 then 1 else 0
theorem Gw(l:List gH)(t:Int):∀i,i<=l.length->g7 l t i=(v_ (l.take i) t:Int)
 | 0,_=>by simp[g7,v_]
 | i+1,h=>by
  have hi:i<l.length:=by omega
  simp only[g7];rw[Gw l t i (by omega),nG hi,Qy,qv hi];by_cases q:l[i].1=t/\0<=l[i].2.2.2.2.1
  .rw[aj q,aj q];omega
  .rw[af q,af q];omega
theorem vP(l:List gH)(i:Nat):ay l (i:Int)=l.getD i dC:=by unfold ay;rw[eB]
theorem xE(l:List gH)(t:Int):∀i,0<=g7 l t i/\g7 l t i<=i/\0<=gq l t i/\gq l t i<=i/\0<=m6 l i/\m6 l i<=i/\-1<=zn l t i/\zn l t i<i
 | 0=>by simp[g7,gq,m6,zn]
 | i+1=>by
  have:=xE l t i;simp only[g7,gq,m6,zn];refine⟨?_,?_,?_,?_,?_,?_,?_,?_⟩<;>split<;>omega
section
variable {l:List gH} {ord:List Int} {n:Nat} {time:Int} {on:Int->Bool} {pc:Int->Int} {op:Int->cH} {yes:Int->Option fz} (I:gl l ord n time on pc op yes)
include I
theorem GC{t k:Int}(hk:f4 l t k):∀i,i<=l.length->k<i->zn l t i=k/\gq l t i=1
 | 0,_,h=>by have:=hk.dM;omega
 | i+1,hi,h=>by
  simp only[zn,gq];have hr:=hk.dM;by_cases e:k=(i:Int)
  .have h1:=hk.t;have h2:=hk.fin;rw[e,vP]at h1 h2;rw[aj h1,aj ⟨h1,by omega⟩];refine⟨e.symm,?_⟩;have key:∀j,j<=i->gq l t j=0:=by
    intro j
    induction j with
    | zero=>intro _;rfl
    | succ j ih=>
     intro hj;simp only[gq];rw[ih (by omega),af]
     .rfl
     .rintro⟨q1,q2⟩;have hf:=(I.c (j:Int) (by omega) (by omega)).fin;rw[vP]at hf;have:=I.uniq (t:=t) (i:=(j:Int)) ⟨⟨by omega,by omega⟩,by rw[vP];exact q1,by rw[vP];omega⟩ hk;omega
   rw[key i (ck _)];rfl
  .obtain⟨i1,i2⟩:=GC hk i (by omega) (by omega);have hne:¬ (l.getD i dC).1=t:=by intro q;have:=(I.before k (i:Int) hr.1 (by omega) (by omega) (by rw[hk.t,vP];exact q.symm)).1;have:=hk.fin;omega
   rw[af hne,af (fun q=>hne q.1),i1,i2];exact⟨rfl,rfl⟩
theorem GG{t:Int}(h:∀k:Int,0<=k->k<l.length->(ay l k).1=t->0<=(ay l k).2.2.2.2.1):∀i,i<=l.length->gq l t i=0
 | 0,_=>rfl
 | i+1,hi=>by
  simp only[gq];rw[GG h i (by omega),af]
  .rfl
  .rintro⟨q1,q2⟩;have:=h (i:Int) (by omega) (by omega) (by rw[vP];exact q1);rw[vP]at this;exact q2 this
theorem RQ:m6 l l.length=ord.length:=by
 have key:∀i,m6 l i=((((List.range i).filter fun j=>decide (0<=(l.getD j dC).2.2.2.1)).map fun j:Nat=>(j:Int)).length:Int):=by
  intro i
  induction i with
  | zero=>rfl
  | succ i ih=>
   simp only[m6];rw[ih,List.range_succ,List.filter_append,pI,cI];by_cases h:0<=(l.getD i dC).2.2.2.1
   .rw[aj h,show [i].filter (fun j=>decide (0<=(l.getD j dC).2.2.2.1))=[i] by rw[Au,bC h];rfl];rfl
   .rw[af h,show [i].filter (fun j=>decide (0<=(l.getD j dC).2.2.2.1))=[] by rw[Au,b8 h];rfl];rfl
 rw[key];have hp:(((List.range l.length).filter fun j=>decide (0<=(l.getD j dC).2.2.2.1)).map fun j:Nat=>(j:Int)).Perm ord:=by
  rw[NY ?_ I.nodup]
  .intro a;simp only[eH,List.mem_filter,yh,gQ];constructor
   .rintro⟨j,⟨h1,h2⟩,rfl⟩;exact I.all (j:Int) (by omega) (by omega) (by rw[vP];exact h2)
   .intro ha;have:=I.g_ a ha;refine⟨a.toNat,⟨by omega,?_⟩,by omega⟩;have h3:=this.2.2;unfold ay at h3;exact h3
  .rw[List.Nodup,List.pairwise_map];exact(List.nodup_range.filter _).imp fun {a b} h q=>h (by omega)
 rw[hp.length_eq]
theorem abP(hn:n<=3)(hp:∀t:Int,0<=t->t<n->pc t<=4):l.length<=15:=by
 have hO:∀t:Int,0<=t->t<n->gq l t l.length<=1:=by
  intro t t0 t1;cases ho:on t with
  | true=>obtain⟨k,hk,_⟩:=I.jN t t0 t1 ho;rw[(GC I hk l.length (ck _) (by have:=hk.dM;omega)).2];exact e_ _
  | false=>rw[GG I (I.off t t0 t1 ho) l.length (ck _)];decide
 have hE:∀t:Int,0<=t->t<n->g7 l t l.length<=4:=by intro t t0 t1;rw[Gw l t l.length (ck _),ye,I.cnt t t0 t1];exact hp t t0 t1
 have hz:∀(t:Int),¬ (0<=t/\t<n)->∀i,i<=l.length->g7 l t i+gq l t i=0:=by
  intro t ht i
  induction i with
  | zero=>intro _;rfl
  | succ i ih=>intro hi;have:=(I.c (i:Int) (by omega) (by omega)).t;rw[vP]at this;simp only[g7,gq];rw[af (fun q=>ht (by rw[<-q.1];exact this)),af (fun q=>ht (by rw[<-q.1];exact this))];have:=ih (by omega);omega
 have hs:∀i,i<=l.length->(i:Int)=(g7 l 0 i+gq l 0 i)+(g7 l 1 i+gq l 1 i)+(g7 l 2 i+gq l 2 i):=by
  intro i
  induction i with
  | zero=>intro _;rfl
  | succ i ih=>
   intro hi;have h1:=(I.c (i:Int) (by omega) (by omega)).t;rw[vP]at h1;have h2:=ih (by omega);have one:∀t:Int,g7 l t (i+1)+gq l t (i+1)=g7 l t i+gq l t i+if (l.getD i dC).1=t then 1 else 0:=by
    intro t;simp only[g7,gq];by_cases a:(l.getD i dC).1=t
    .by_cases b:(l.getD i dC).2.2.2.2.1>=0
     .rw[aj ⟨a,b⟩,af (fun q=>q.2 b),aj a];omega
     .rw[af (fun q=>b q.2),aj ⟨a,b⟩,aj a];omega
    .rw[af (fun q=>a q.1),af (fun q=>a q.1),af a];omega
   rw[one 0,one 1,one 2];have h3:(l.getD i dC).1=0\/(l.getD i dC).1=1\/(l.getD i dC).1=2:=by omega
   rcases h3 with e | e | e
   .rw[aj e,af (by omega),af (by omega)];omega
   .rw[af (by omega),aj e,af (by omega)];omega
   .rw[af (by omega),af (by omega),aj e];omega
 have hall:∀t:Int,g7 l t l.length+gq l t l.length<=5:=by
  intro t;by_cases h:0<=t/\t<n
  .have:=hO t h.1 h.2;have:=hE t h.1 h.2;omega
  .rw[hz t h l.length (ck _)];decide
 have:=hs l.length (ck _);have:=hall 0;have:=hall 1;have:=hall 2
 omega
end
section
variable {X:Ext} (hX:fI X) {n:Nat}
include hX
theorem akF(hn:6<=n)(o:cH)(h:dF o=true):gZ ctx (DD X n) (bf.mk 121 []) [bD.val Cl o] Ty.bool=some false:=by
 obtain⟨n,rfl⟩:∃k,n=k+1:=⟨n-1,by omega⟩
 have e:∀D:Den ctx,gZ ctx D (bf.mk 121 []) [bD.val Cl o] Ty.bool=(q54 D o).bind fun r=>some r.1.1:=fun D=>by kernel_rfl
 obtain⟨a,b,c,⟨⟩⟩:=o;rw[e,aeW hX];simp only[qt6,q6i];rw[VN hX (by omega),h,qc];rfl
theorem acC(hn:3<=n)(g:Int×Int×Unit)(h:(0<=g.1/\g.1<20)/\0<=g.2.1/\g.2.1<=1000):gZ ctx (DD X n) (bf.mk 123 []) [bD.val Bw g] Ty.bool=some false:=by
 obtain⟨n,rfl⟩:∃k,n=k+1:=⟨n-1,by omega⟩
 have e:∀D:Den ctx,gZ ctx D (bf.mk 123 []) [bD.val Bw g] Ty.bool=(q55 D g).bind fun r=>some r.1.1:=fun D=>by kernel_rfl
 rw[e,aeX hX];simp only[qt7,q6j];rw[MG hX (by omega),qc];dsimp only;rw[jP ⟨h.1.1,by omega⟩,cQ,aN,Ax hX (by omega),qc];dsimp only;rw[jP h.2];rfl
theorem acV(hn:2<=n)(k:gv)(th:Int)(xb:0<=th/\th<=100)(h1:0<=k.1/\k.1<th)(h2:1<=k.2.1/\k.2.1<=1000000)(h3:0<=k.2.2.1/\k.2.2.1<=20)(h4:0<=k.2.2.2.1/\k.2.2.2.1<=20) :
  gZ ctx (DD X n) (bf.mk 127 [bD.cj (Ty.int IntKind.i64) th]) [bD.val Bv k] Ty.bool=some false:=by
 obtain⟨n,rfl⟩:∃k,n=k+1:=⟨n-1,by omega⟩
 have e:∀D:Den ctx,gZ ctx D (bf.mk 127 [bD.cj (Ty.int IntKind.i64) th]) [bD.val Bv k] Ty.bool=(q56 D k th).bind fun r=>some r.1.1:=fun D=>by kernel_rfl
 rw[e,aeY hX];simp only[qt8,q6k];rw[qs (by omega) (by omega),lD hX (by omega),qc];dsimp only;rw[jP ⟨h1.1,by omega⟩,cQ,aN,lD hX (by omega),qc];dsimp only;rw[jP h2,cQ,aN,lD hX (by omega),qc];dsimp only;rw[jP h3,cQ,aN,lD hX (by omega),qc];dsimp only;rw[jP h4];rfl
theorem zK{α:Type}(l:List α):(l.any fun _=>false)=false:=by simp
theorem ajk{m:aT}{k:Nat}{x:cK}{t:Int}(T:jr m k x t):∀g∈x.2.2.2.1,(0<=g.1/\g.1<20)/\0<=g.2.1/\g.2.1<=1000:=by
 intro g hg;have hv:=T.got g hg;cases ho:x.2.2.1 with
 | false=>rw[(T.off ho).1]at hg;simp at hg
 | true=>exact⟨(J2 (T.op ho) T.got (T.along ho)).2.1 _ (eH.2 ⟨g,hg,rfl⟩),by omega⟩
theorem HM{m:aT}{k:Nat}{x:cK}{t:Int}(T:jr m k x t):x.2.2.2.1.length<=8:=by
 cases ho:x.2.2.1 with
 | false=>rw[(T.off ho).1];simp
 | true=>exact(J2 (T.op ho) T.got (T.along ho)).2.2
theorem HQ{m:aT}{k:Nat}{x:cK}{t:Int}(T:jr m k x t):x.2.2.2.2.1.length<=2:=by rcases T.st with e | ⟨h,e⟩ | ⟨h,h',e,_⟩<;>rw[e]<;>simp
theorem aaR(hn:W+9<=n){m:aT}{k:Nat}{x:cK}{t:Int}(T:jr m k x t)(hk:k<=3)(hs:∀u:Int,0<=u->u<k->(aq m u).1<=1000000):qxn (DD X n) x (k:Int)=some ((true,()),()):=by
 obtain⟨n,rfl⟩:∃k,n=k+1:=⟨n-1,by omega⟩
 have hW:=ez;have h1:=T.ops;have h2:=T.pc;have h3:=HM hX T;have h4:=HQ hX T;rw[age hX];simp only[qxx,Ol];have a_:qd (US (DD X n) x.2.2.2.1 (bf.mk 123 [])) (fun b=>br b.1.1 (some ((false,()),())) (qd (UR (DD X n) x.2.2.2.2.1 (bf.mk 127 [bD.cj (Ty.int IntKind.i64) (k:Int)])) fun b=>some ((!b.1.1,()),())))=some ((true,()),()):=by
  rw[ahw hX (by omega) (show List.length x.2.2.2.1<=1000000 by omega) (f:=fun _=>false) (fun g hg=>acC hX (by omega) g (ajk hX T g hg)),qc];dsimp only;rw[zK hX,aN,ahv hX (by omega) (by omega) (f:=fun _=>false) (fun q hq=>by
   have H:=T.dZ q hq;have:=hs q.1 H.t.1 H.t.2;have:=H.seq;have:=H.r8;have:=H.fin;exact acV hX (by omega) q k (by omega) H.t (by omega) (by omega) (by omega)),qc]
  dsimp only;rw[zK hX];rfl
 rw[qg (by omega),ai2 hX (by omega) (by omega) (f:=fun _=>false) (fun o ho=>akF hX (by omega) o (h1.2 o ho)),qc];dsimp only;rw[zK hX,aN,lD hX (by omega),qc];dsimp only;rw[jP h2,cQ,bg];cases ho:x.2.2.1 with
 | true=>have:=T.on ho;rw[bz,b8 (by omega),bg,b8 (by omega),bg,b8 (by omega),aN,cQ,aN];exact a_
 | false=>have:=T.off ho;rw[bg,bg,b8 (by omega),bg,b8 (by omega),aN,iN,aJ,qg (by rw[this.1,this.2];decide)];exact a_
theorem MS(D:Den ctx)(n:Nat)(K:Int->Int->Int->aH->cK->Option ((Bool×Unit)×Unit))(t:Int)(l:List gH)(hl:l.length<=1000)(m:aH)(x:cK):∀(c i:Nat),i<=l.length->l.length-i<c->
  S_ D n K c t (zn l t i) (g7 l t i) (gq l t i) l (l.length:Int) (i:Int) m x=K (zn l t l.length) (g7 l t l.length) (gq l t l.length) m x
 | 0,i,_,h2=>by omega
 | c+1,i,h1,h2=>by
  have hr:=xE l t i;simp only[S_,qyw];by_cases hi:i<l.length
  .have ih:=MS D n K t l hl m x c (i+1) (by omega) (by omega);simp only[zn,g7,gq]at ih;rw[qf (by omega),ix hi,aJ,eB,qu (by omega)];have hd:l.getD i (0,(0,0,0,()),0,0,0,(0,[],()),())=l.getD i dC:=rfl;rw[hd];by_cases a:(l.getD i dC).1=t
   .rw[show((l.getD i dC).1 != t)=false by rw[cM,bC a];rfl,aN];rw[aj a]at ih;by_cases b:(l.getD i dC).2.2.2.2.1>=0
    .rw[qf b,qs (by omega) (by omega)];rw[aj ⟨a,b⟩,af (fun q=>q.2 b),yc]at ih;exact ih
    .rw[qg b,qs (by omega) (by omega)];rw[af (fun q=>b q.2),aj ⟨a,b⟩,yc]at ih;exact ih
   .rw[show((l.getD i dC).1 != t)=true by rw[cM,b8 a];rfl,aJ];rw[af a,af (fun q=>a q.1),af (fun q=>a q.1),yc,yc]at ih;exact ih
  .rw[qg (by omega),show i=l.length by omega]
theorem Wa(o:cH):pP (Ty.pair (Ty.int IntKind.i64) (Ty.pair (Ty.int IntKind.i64) (Ty.pair (Ty.int IntKind.i64) Ty.unit))) o o=true:=by obtain⟨a,b,c,⟨⟩⟩:=o;simp[pP]
theorem abF(hn:W+1<=n){m:aH}(I:Inv m){t:Int}(t0:0<=t)(t1:t<m.2.1.length)(hl:m.2.2.2.1.length<=1000):X5 (DD X n) m t=some ((true,()),()):=by
 obtain⟨n,rfl⟩:∃k,n=k+1:=⟨n-1,by omega⟩
 have hW:=ez;have T:=I.th t t0 t1;rw[ahj hX];simp only[Ym,YR,qwf];have hL:=MS hX (DD X n) n (fun bT dU iX jw yS=>qur (DD X n) n bT dU iX jw yS) t m.2.2.2.1 hl m (ai m t) n 0 (fF _) (by omega);have hx:m.2.1.getD t.toNat ([],0,false,[],[],())=ai m t:=rfl;rw[fU t0 t1,aJ,hx];refine dI hL ?_;have hE:g7 m.2.2.2.1 t m.2.2.2.1.length=(ai m t).2.1:=by rw[Gw _ _ _ (ck _),ye];exact I.call.cnt t t0 t1
 simp only[qur];rw[hE,cM,bC rfl,cQ,aN];cases ho:(ai m t).2.2.1 with
 | false=>rw[iN,aJ,GG I.call (I.call.off t t0 t1 ho) _ (ck _)];rfl
 | true=>obtain⟨k,hk,hop⟩:=I.call.jN t t0 t1 ho;have hr:=hk.dM;obtain⟨e1,e2⟩:=GC I.call hk _ (ck _) (by omega);have hp:=T.on ho;have Ld:=T.pc.1;have hd:m.2.2.2.1.getD k.toNat (0,(0,0,0,()),0,0,0,(0,[],()),())=ay m.2.2.2.1 k:=rfl;have nY:(ai m t).1.getD (ai m t).2.1.toNat (0,0,0,())=aX (ai m t):=rfl;rw[cQ,aN,e1,e2,bC (show k>=0 from hr.1),bz,qf rfl,qW,bC hr.2,aJ,hd,qf hk.fin,aJ,fU Ld hp,aJ,hop,nY,Wa hX]
theorem RW(D:Den ctx)(n:Nat)(K:Int->aH->Option ((Bool×Unit)×Unit))(l:List gH)(hl:l.length<=1000)(m:aH):∀(c i:Nat),i<=l.length->l.length-i<c->
  Tb D n K c (m6 l i) l (l.length:Int) (i:Int) m=K (m6 l l.length) m
 | 0,i,_,h2=>by omega
 | c+1,i,h1,h2=>by
  have hr:=xE l 0 i;simp only[Tb,qy1];by_cases hi:i<l.length
  .have ih:=RW D n K l hl m c (i+1) (by omega) (by omega);simp only[m6]at ih;rw[qf (by omega),ix hi,aJ,eB,qu (by omega)];have hd:l.getD i (0,(0,0,0,()),0,0,0,(0,[],()),())=l.getD i dC:=rfl;rw[hd];by_cases a:(l.getD i dC).2.2.2.1>=0
   .rw[qf a,qs (by omega) (by omega)];rw[aj a]at ih;exact ih
   .rw[qg a];rw[af a,yc]at ih;exact ih
  .rw[qg (by omega),show i=l.length by omega]
theorem RX(N n:Nat)(hN:W+2<=N)(K0:Bool->Int->aH->Option ((Bool×Unit)×Unit))(K1:Int->aH->Option ((Bool×Unit)×Unit))(z:Int){m:aH}(I:Inv m)(hl:m.2.2.2.1.length<=1000)(DZ:m.2.2.2.2.1.length<=1000):∀(c i:Nat),i<=m.2.2.2.2.1.length->m.2.2.2.2.1.length-i<c->
  Tc (DD X N) n K0 K1 c z m.2.2.2.2.1 (m.2.2.2.2.1.length:Int) (i:Int) m=K1 z m
 | 0,i,_,h2=>by omega
 | c+1,i,h1,h2=>by
  simp only[Tc,qy2];by_cases hi:i<m.2.2.2.2.1.length
  .have ih:=RX N n hN K0 K1 z I hl DZ c (i+1) (by omega) (by omega);have hk:=I.call.g_ _ (er hi);rw[qf (by omega),ix hi,aJ,eB,qv hi,qu (by omega),qs (by omega) (by omega),lD hX (by omega),qc];dsimp only;have hd:∀k:Int,m.2.2.2.1.getD k.toNat (0,(0,0,0,()),0,0,0,(0,[],()),())=ay m.2.2.2.1 k:=fun _=>rfl;have hni:m.2.2.2.2.1[i]∉List.drop (0:Int).toNat (List.take i m.2.2.2.2.1):=by rw[show(0:Int).toNat=0 from rfl,jV];intro q;obtain⟨j,hj,e⟩:=mT.1 q;rw[e9]at hj;rw[List.getElem_take]at e;have:=xA.1 I.call.nodup j i (by omega) hi (by omega);exact this e
   rw[jP ⟨hk.1,by omega⟩,cQ,aN,fU hk.1 hk.2.1,aJ,hd,qg (by omega),
    show(decide ((0:Nat)<=0)&&decide (0<=(i:Int))&&decide ((i:Int)<=(m.2.2.2.2.1.length:Int)))=true by simp;omega,aJ,PY hX (by omega) _ (by simp;omega) _ hni,qc]
   dsimp only;rw[aN];by_cases h0:i=0
   .rw[qg (by omega)];exact ih
   .have e:wrap .i64 ((i:Int)-1)=((i-1:Nat):Int):=by rw[qs (by omega) (by omega)];omega
    have hlt:i-1<m.2.2.2.2.1.length:=by omega
    have hk2:=I.call.g_ _ (er hlt);have hs:=xA.1 I.call.sort (i-1) i hlt hi (by omega);rw[qf (by omega),e,ix hlt,aJ,eB,qv hlt,fU hk2.1 hk2.2.1,aJ,aJ,hd,qg (by omega)];exact ih
  .rw[qg (by omega)]
theorem abt(hn:W+3<=n){m:aH}(I:Inv m)(hl:m.2.2.2.1.length<=1000):X6 (DD X n) m=some ((true,()),()):=by
 obtain⟨n,rfl⟩:∃k,n=k+1:=⟨n-1,by omega⟩
 have hW:=ez;have ho:=RQ I.call;have hr:=xE m.2.2.2.1 0 m.2.2.2.1.length;have DZ:m.2.2.2.2.1.length<=1000:=by omega
 rw[agV hX];simp only[Ys,YT,qwh];refine dI (RW hX (DD X n) n _ m.2.2.2.1 hl m n 0 (fF _) (by omega)) ?_;simp only[qut,qwi];refine dI (RX hX n n (by omega) _ _ _ I hl DZ n 0 (fF _) (by omega)) ?_;simp only[q6r];rw[ho,bC rfl]
theorem Nb(N n:Nat)(hN:6<=N)(K0:Bool->Int->aH->Option ((Bool×Unit)×Unit))(K1:Int->aH->Option ((Bool×Unit)×Unit)){m:aH}(I:Inv m)(hl:m.2.2.2.1.length<=1000):∀(c i:Nat),i<=m.2.2.2.1.length->m.2.2.2.1.length-i<c->
  SS (DD X N) n K0 K1 c (m.2.1.length:Int) m.2.2.2.1 (m.2.2.2.1.length:Int) (i:Int) m=K1 (m.2.1.length:Int) m
 | 0,i,_,h2=>by omega
 | c+1,i,h1,h2=>by
  simp only[SS,qul];by_cases hi:i<m.2.2.2.1.length
  .have ih:=Nb N n hN K0 K1 I hl c (i+1) (by omega) (by omega);have hn:=I.n;have C:=I.call.c (i:Int) (by omega) (by omega);have hd:m.2.2.2.1.getD i (0,(0,0,0,()),0,0,0,(0,[],()),())=ay m.2.2.2.1 (i:Int):=by unfold ay;rw[eB];rfl
   obtain⟨N,rfl⟩:∃k,N=k+1:=⟨N-1,by omega⟩
   have hst:=C.start;rw[qf (by omega),ix hi,aJ,eB,hd,qu (by omega),qs (by omega) (by omega),lD hX (by omega),qc];dsimp only;have hop:Iy (DD X (N+1)) (ay m.2.2.2.1 (i:Int)).2.1=some ((true,()),()):=by have:=VN hX (n:=N+1) (by omega) (ay m.2.2.2.1 (i:Int)).2.1.1 (ay m.2.2.2.1 (i:Int)).2.1.2.1 (ay m.2.2.2.1 (i:Int)).2.1.2.2.1;rw[show((ay m.2.2.2.1 (i:Int)).2.1.1,(ay m.2.2.2.1 (i:Int)).2.1.2.1,(ay m.2.2.2.1 (i:Int)).2.1.2.2.1,())=(ay m.2.2.2.1 (i:Int)).2.1 from rfl,C.op]at this;exact this
   have hwh:∀x:Int,(x = -1\/(ay m.2.2.2.1 (i:Int)).2.2.1<=x/\x<=m.2.2.1)->Ve (DD X (N+1)) (ay m.2.2.2.1 (i:Int)) x m=some ((true,()),()):=by
    intro x hx;rw[aei hX];simp only[qru,q32];by_cases a:x = -1
    .rw[qf a]
    .rw[qg a,lD hX (by omega),qc];dsimp only;rw[jP (hx.resolve_left a)]
   have z6:=C.qI;have kN:=C.fin;rw[jP ⟨C.t.1,by have:=C.t.2;omega⟩,cQ,aN,hop,qc];dsimp only;rw[cQ,aN,lD hX (by omega),qc];dsimp only;rw[jP hst,cQ,aN,hwh _ z6,qc];dsimp only;rw[cQ,aN,hwh _ (by omega),qc];dsimp only;rw[cQ,aN];exact ih
  .rw[qg (by omega)]
theorem Nc(N n:Nat)(hN:W+9<=N)(K0:Bool->aH->Option ((Bool×Unit)×Unit))(K1:aH->Option ((Bool×Unit)×Unit)){m:aH}(I:Inv m)(hl:m.2.2.2.1.length<=1000)(ht:m.2.2.1<=100000):∀(c i:Nat),i<=m.2.1.length->m.2.1.length-i<c->
  SZ (DD X N) n K0 K1 c (m.2.1.length:Int) m.2.1 (m.2.1.length:Int) (i:Int) m=K1 m
 | 0,i,_,h2=>by omega
 | c+1,i,h1,h2=>by
  simp only[SZ,qum];by_cases hi:i<m.2.1.length
  .have ih:=Nc N n hN K0 K1 I hl ht c (i+1) (by omega) (by omega);have hn:=I.n;have T:=I.th (i:Int) (by omega) (by omega);have hd:m.2.1.getD i ([],0,false,[],[],())=ai m (i:Int):=by unfold ai;rw[eB];rfl
   rw[qf (by omega),ix hi,aJ,eB,hd,qu (by omega),aaR hX (by omega) T (by omega) (fun u u0 u1=>by have:=(I.mem.dj u u0 u1).seq.2;omega),qc];dsimp only;rw[cQ,aN,abF hX (by omega) I (by omega) (by omega) hl,qc];dsimp only;rw[cQ,aN];exact ih
  .rw[qg (by omega)]
theorem IE{m:aH}(I:Inv m):m.2.2.2.1.length<=15:=
 abP I.call I.n.2 fun t t0 t1=>by have:=(I.th t t0 t1).pc;have:=(I.th t t0 t1).ops.1;omega
theorem Tg(hn:W+10<=n){m:aH}(I:Inv m)(ht:m.2.2.1<=100000):C2 (DD X n) m=some ((true,()),()):=by
 obtain⟨n,rfl⟩:∃k,n=k+1:=⟨n-1,by omega⟩
 have hW:=ez;have hl:=IE hX I;have hn:=I.n;have mg:=I.mem.di;have h0:=I.time;rw[afE hX];simp only[qvx,qwb,qsd];rw[xD hX (by omega) I.mem (by omega) (by omega) (by omega),qc];dsimp only;rw[cQ,bg,show((m.1.2.1.length:Int) != (m.2.1.length:Int))=false by rw[cM,bC (by omega)];rfl,aN,lD hX (by omega),qc];dsimp only;rw[jP ⟨h0,ht⟩,cQ,bg,qg (by omega),q8n hX (by omega) I.first,qc];dsimp only;rw[cQ,aN];refine dI (Nb hX n n (by omega) _ _ I (by omega) n 0 (fF _) (by omega)) ?_;simp only[qqs,qse];refine dI (Nc hX n n (by omega) _ _ I (by omega) ht n 0 (fF _) (by omega)) ?_;simp only[q0a];rw[abt hX (by omega) I (by omega),qc]
end
section
variable {X:Ext} (hX:fI X) {n:Nat}
include hX
theorem FN(hn:1<=n)(l:List Int)(hl:l.length<=1000000):JK (DD X n) l=some ((l,()),()):=by
 obtain⟨n,rfl⟩:∃k,n=k+1:=⟨n-1,by omega⟩
 have hb:=i7;rw[qvc hX];simp only[Vc,qmy];cases l with
 | nil=>simp[ux,both,i7]
 | cons a l=>rw[qg (by rw[eB];simp),qf (by simp only[cq]at hl⊢;omega)];rfl
theorem qts(hn:1<=n)(l:List cH)(hl:l.length<=1000000):U5 (DD X n) l=some ((l,()),()):=by
 obtain⟨n,rfl⟩:∃k,n=k+1:=⟨n-1,by omega⟩
 have hb:=i7;rw[qx3 hX];simp only[qh2,qmm];cases l with
 | nil=>simp[ux,both,i7]
 | cons a l=>rw[qg (by rw[eB];simp),qf (by simp only[cq]at hl⊢;omega)];rfl
theorem q3t(hn:1<=n)(l:dK)(hl:l.length<=1000000):qgh (DD X n) l=some ((l,()),()):=by
 obtain⟨n,rfl⟩:∃k,n=k+1:=⟨n-1,by omega⟩
 have hb:=i7;rw[qud hX];simp only[qgk,qkc];cases l with
 | nil=>simp[ux,both,i7]
 | cons a l=>rw[qg (by rw[eB];simp),qf (by simp only[cq]at hl⊢;omega)];rfl
theorem q3s(hn:1<=n)(l:List gv)(hl:l.length<=1000000):qgg (DD X n) l=some ((l,()),()):=by
 obtain⟨n,rfl⟩:∃k,n=k+1:=⟨n-1,by omega⟩
 have hb:=i7;rw[quc hX];simp only[qgj,qkb];cases l with
 | nil=>simp[ux,both,i7]
 | cons a l=>rw[qg (by rw[eB];simp),qf (by simp only[cq]at hl⊢;omega)];rfl
theorem q3u(hn:1<=n)(l:List lX)(hl:l.length<=1000000):qgi (DD X n) l=some ((l,()),()):=by
 obtain⟨n,rfl⟩:∃k,n=k+1:=⟨n-1,by omega⟩
 have hb:=i7;rw[que hX];simp only[qgl,qkd];cases l with
 | nil=>simp[ux,both,i7]
 | cons a l=>rw[qg (by rw[eB];simp),qf (by simp only[cq]at hl⊢;omega)];rfl
theorem qm4(hn:1<=n)(l:List eu)(hl:l.length<=1000000):UZ (DD X n) l=some ((l,()),()):=by
 obtain⟨n,rfl⟩:∃k,n=k+1:=⟨n-1,by omega⟩
 have hb:=i7;rw[qrz hX];simp only[qfw,qjv];cases l with
 | nil=>simp[ux,both,i7]
 | cons a l=>rw[qg (by rw[eB];simp),qf (by simp only[cq]at hl⊢;omega)];rfl
theorem L0(hn:2<=n)(r:fz)(hl:r.2.1.length<=1000000):Iv (DD X n) r=some ((r,()),()):=by
 obtain⟨n,rfl⟩:∃k,n=k+1:=⟨n-1,by omega⟩
 rw[ahm hX];simp only[Yp,ON];rw[FN hX (by omega) _ hl,qc]
theorem QW(N n:Nat)(hN:2<=N)(K:aT->aT->Option ((aT×Unit)×Unit))(l:List nw)(hl:l.length<=1000)(h1:∀d∈l,d.2.2.1.length<=1000/\d.2.2.2.1.2.1.length<=1000)(z:aT)(w:List lX):∀(c i:Nat),i<=l.length->l.length-i<c->
  Ta (DD X N) n K c l (l.length:Int) (i:Int) z (w,l.take i,())=K z (w,l,())
 | 0,i,_,h2=>by omega
 | c+1,i,h0,h2=>by
  have hb:=i7;simp only[Ta,qyy];by_cases hi:i<l.length
  .have ih:=QW N n hN K l hl h1 z w c (i+1) (by omega) (by omega);have hd:=h1 _ (er hi);rw[qf (by omega),ix hi,aJ,eB,qv hi,qu (by omega),qm4 hX (by omega) _ (by omega),qc,L0 hX (by omega) _ (by omega),qc];dsimp only;rw[qf (by rw[e9];omega)];rw[nG hi]at ih;exact ih
  .rw[qg (by omega),show l.take i=l from kq (by omega)]
theorem Gv(hn:W+3<=n)(m:aT)(hw:m.1.length<=1000)(hl:m.2.1.length<=1000)(h1:∀d∈m.2.1,d.2.2.1.length<=1000/\d.2.2.2.1.2.1.length<=1000):JR (DD X n) m=some ((m,()),()):=by
 obtain⟨n,rfl⟩:∃k,n=k+1:=⟨n-1,by omega⟩
 have hW:=ez;rw[ahl hX];simp only[Yo,YS,qwg];rw[q3u hX (by omega) _ (by omega),qc];dsimp only;refine dI (QW hX n n (by omega) _ m.2.1 hl h1 ([],[],()) m.1 n 0 (fF _) (by omega)) ?_;rfl
theorem VM(hn:2<=n)(x:cK)(h1:x.1.length<=1000)(h2:List.length x.2.2.2.1<=1000)(h3:x.2.2.2.2.1.length<=1000):JN (DD X n) x=some ((x,()),()):=by
 obtain⟨n,rfl⟩:∃k,n=k+1:=⟨n-1,by omega⟩
 rw[ae0 hX];simp only[qt9,q6o];rw[qts hX (by omega) _ (by omega),qc,q3t hX (by omega) _ (by omega),qc,q3s hX (by omega) _ (by omega),qc]
theorem Rv(N n:Nat)(hN:2<=N)(K:aH->aH->aH->Option ((aH×Unit)×Unit))(l:List cK)(hl:l.length<=1000)(h1:∀x∈l,x.1.length<=1000/\List.length x.2.2.2.1<=1000/\x.2.2.2.2.1.length<=1000)(z1 z2:aH)(a:aT)(b:Int×List gH×List Int×qp×Unit):∀(c i:Nat),i<=l.length->l.length-i<c->
  SO (DD X N) n K c l (l.length:Int) (i:Int) z1 z2 (a,l.take i,b)=K z1 z2 (a,l,b)
 | 0,i,_,h2=>by omega
 | c+1,i,h0,h2=>by
  have hb:=i7;simp only[SO,qqw];by_cases hi:i<l.length
  .have ih:=Rv N n hN K l hl h1 z1 z2 a b c (i+1) (by omega) (by omega);have hd:=h1 _ (er hi);rw[qf (by omega),ix hi,aJ,eB,qv hi,qu (by omega),VM hX (by omega) _ hd.1 hd.2.1 hd.2.2,qc];dsimp only;rw[qf (by rw[e9];omega)];rw[nG hi]at ih;exact ih
  .rw[qg (by omega),show l.take i=l from kq (by omega)]
theorem Ru(N n:Nat)(hN:2<=N)(K:aH->aH->Option ((aH×Unit)×Unit))(l:List gH)(hl:l.length<=1000)(h1:∀x∈l,x.2.2.2.2.2.1.2.1.length<=1000)(z1:aH)(a:aT)(th:List cK)(ti:Int)(b:List Int×qp×Unit):∀(c i:Nat),i<=l.length->l.length-i<c->
  SP (DD X N) n K c l (l.length:Int) (i:Int) z1 (a,th,ti,l.take i,b)=K z1 (a,th,ti,l,b)
 | 0,i,_,h2=>by omega
 | c+1,i,h0,h2=>by
  have hb:=i7;simp only[SP,qqx];by_cases hi:i<l.length
  .have ih:=Ru N n hN K l hl h1 z1 a th ti b c (i+1) (by omega) (by omega);have hd:=h1 _ (er hi);rw[qf (by omega),ix hi,aJ,eB,qv hi,qu (by omega),L0 hX (by omega) _ (by omega),qc];dsimp only;rw[qf (by rw[e9];omega)];rw[nG hi]at ih;exact ih
  .rw[qg (by omega),show l.take i=l from kq (by omega)]
structure Cp (m:aH):Prop where
 w:m.1.1.length<=1000
 d:m.1.2.1.length<=1000
 de:∀d∈m.1.2.1,d.2.2.1.length<=1000/\d.2.2.2.1.2.1.length<=1000
 t:m.2.1.length<=1000
 te:∀x∈m.2.1,x.1.length<=1000/\List.length x.2.2.2.1<=1000/\x.2.2.2.2.1.length<=1000
 c:m.2.2.2.1.length<=1000
 ce:∀x∈m.2.2.2.1,x.2.2.2.2.2.1.2.1.length<=1000
 o:m.2.2.2.2.1.length<=1000
 f:aS m.2.2.2.2.2.1
theorem VI(hn:W+4<=n){m:aH}(h:Cp m):JM (DD X n) m=some ((m,()),()):=by
 obtain⟨n,rfl⟩:∃k,n=k+1:=⟨n-1,by omega⟩
 have hW:=ez;have ht:=h.t;have hc:=h.c
 rw[aek hX];simp only[qrw,qsi,qoy];rw[Gv hX (by omega) _ h.w h.d h.de,qc,FN hX (by omega) _ (by have:=h.o;omega),qc,q66 hX (by omega) h.f,qc];dsimp only;refine dI (Rv hX n n (by omega) _ m.2.1 h.t h.te m (([],[],()),[],0,[],[],([],0,()),()) (m.1.1,m.1.2.1,()) (m.2.2.1,[],m.2.2.2.2.1,(m.2.2.2.2.2.1.1,m.2.2.2.2.2.1.2),()) n 0 (fF _) (by omega)) ?_;simp only[qnt,qoz];refine dI (Ru hX n n (by omega) _ m.2.2.2.1 h.c h.ce (([],[],()),[],0,[],[],([],0,()),()) (m.1.1,m.1.2.1,()) m.2.1 m.2.2.1 (m.2.2.2.2.1,(m.2.2.2.2.2.1.1,m.2.2.2.2.2.1.2),()) n 0 (fF _) (by omega)) ?_;rfl
theorem J1{m:aH}(I:Inv m):Cp m where
 w:=by rw[I.mem.len];omega
 d:=by rw[I.mem.di];have:=I.n;omega
 de:=fun d hd=>by
  obtain⟨j,hj,rfl⟩:=mT.1 hd;have mg:=I.mem.di;have e:m.1.2.1[j]=aq m.1 (j:Int):=by unfold aq;rw[eB,qv hj]
  have D:=I.mem.dj (j:Int) (by omega) (by omega);have h1:=D.len;refine⟨by rw[e];omega,?_⟩;rw[e];have:=D.rl;omega
 t:=by have:=I.n;omega
 te:=fun x hx=>by
  obtain⟨j,hj,rfl⟩:=mT.1 hx;have e:m.2.1[j]=ai m (j:Int):=by unfold ai;rw[eB,qv hj]
  have T:=I.th (j:Int) (by omega) (by omega);rw[e];have:=T.ops.1;have:=HM hX T;have:=HQ hX T
  exact⟨by omega,by omega,by omega⟩
 c:=by have:=IE hX I;omega
 ce:=fun x hx=>by
  obtain⟨j,hj,rfl⟩:=mT.1 hx;have e:m.2.2.2.1[j]=ay m.2.2.2.1 (j:Int):=by rw[vP,qv hj]
  rw[e];have:=(I.call.c (j:Int) (by omega) (by omega)).len;omega
 o:=by have h1:=RQ I.call;have h2:=xE m.2.2.2.1 0 m.2.2.2.1.length;have:=IE hX I;omega
 f:=I.first
end
theorem eqW(a b:Int×Int×Int×Unit):pP (Ty.pair (Ty.int IntKind.i64) (Ty.pair (Ty.int IntKind.i64) (Ty.pair (Ty.int IntKind.i64) Ty.unit))) a b=decide (a=b):=by obtain⟨a1,a2,a3,⟨⟩⟩:=a;obtain⟨b1,b2,b3,⟨⟩⟩:=b;by_cases h1:a1=b1<;>by_cases h2:a2=b2<;>by_cases h3:a3=b3<;>simp[pP,h1,h2,h3]
theorem J8{α:Type}{l:List α}{i:Nat}(h:i<l.length)(x d:α):(l.set i x).getD i d=x:=by rw[LX,aj ⟨rfl,h⟩]
def Bl(x:cK):Prop:=x.1.length<=1000/\List.length x.2.2.2.1<=1000/\x.2.2.2.2.1.length<=1000
section
variable {X:Ext} (hX:fI X) {n:Nat}
include hX
theorem akO(hn:1<=n)(x:cK)(hs:x.2.2.2.2.1≠[])(hl:x.2.2.2.2.1.length<=1000):Gc (DD X n) x=some ((au x,true,()),()):=by
 obtain⟨n,rfl⟩:∃k,n=k+1:=⟨n-1,by omega⟩
 have h0:0<x.2.2.2.2.1.length:=pH.2 hs;rw[aa3 hX];simp only[Gf,Qh];rw[qg (by omega),qs (by omega) (by omega),fU (by omega) (by omega),aJ,show((x.2.2.2.2.1.length:Int)-1).toNat=x.2.2.2.2.1.length-1 by omega];rfl
theorem Ib(hn:3<=n)(x:cK)(hx:Bl x)(h:gv):JX (DD X n) x h=some ((rm x h,()),()):=by
 obtain⟨n,rfl⟩:∃k,n=k+1:=⟨n-1,by omega⟩
 have hb:=i7;rw[aat hX];simp only[F5,PI];rw[VM hX (by omega) x hx.1 hx.2.1 hx.2.2,qc];dsimp only;rw[qf (by have:=hx.2.2;omega)];rfl
theorem Ic(hn:3<=n)(x:cK)(hx:Bl x)(hs:x.2.2.2.2.1≠[])(h:gv):TF (DD X n) x h=some ((j_ x h,()),()):=by
 obtain⟨n,rfl⟩:∃k,n=k+1:=⟨n-1,by omega⟩
 have h0:0<x.2.2.2.2.1.length:=pH.2 hs;have h1:=hx.2.2;rw[aav hX];simp only[F7,PJ];rw[VM hX (by omega) x hx.1 hx.2.1 hx.2.2,qc];dsimp only;rw[qf (by omega),qs (by omega) (by omega),fU (by omega) (by omega),aJ,show((x.2.2.2.2.1.length:Int)-1).toNat=x.2.2.2.2.1.length-1 by omega];rfl
theorem akN(hn:3<=n)(x:cK)(hx:Bl x)(hs:x.2.2.2.2.1≠[]):Gb (DD X n) x=some ((jf x,()),()):=by
 obtain⟨n,rfl⟩:∃k,n=k+1:=⟨n-1,by omega⟩
 have h0:0<x.2.2.2.2.1.length:=pH.2 hs;have h1:=hx.2.2;rw[aa2 hX];simp only[Ge,Qg];rw[VM hX (by omega) x hx.1 hx.2.1 hx.2.2,qc];dsimp only;rw[qf (by omega),qs (by omega) (by omega),show(decide (0<=(x.2.2.2.2.1.length:Int)-1)&&decide ((x.2.2.2.2.1.length:Int)-1<=(x.2.2.2.2.1.length:Int)))=true by simp;omega,aJ,show((x.2.2.2.2.1.length:Int)-1).toNat=x.2.2.2.2.1.length-1 by omega];rfl
theorem akg(hn:1<=n){m:aT}{k:Nat}{time:Int}{own:Int->Prop}(I:eR m k time own){h:gv}(H:bR m k h)(hk:k<=3)(hd:(aq m h.1).1=h.2.1)(hs:(aq m h.1).2.1=1) :
  UL (DD X n) m h=some (((q7 m h).2.1,(q7 m h).2.2.1,(q7 m h).2.2.2.1,()),((q7 m h).1,())):=by
 obtain⟨n,rfl⟩:∃k,n=k+1:=⟨n-1,by omega⟩
 have hlen:=I.len;have mg:=I.di;have u0:=H.t.1;have u1:=H.t.2;have ef:=H.r8;rw[aa4 hX];simp only[Gg,Qi];have lC:List.getD m.2.1 (Int.toNat h.1) (0,0,[],(0,[],()),())=aq m h.1:=rfl;rw[fU u0 (by omega),aJ,lC];unfold q7;rw[af (by omega),aj hs];by_cases ha:((aq m h.1).2.2.1.length:Int)<=h.2.2.1
 .rw[qf ha,aj ha];rfl
 .have iT:=I.gU u0 u1 ef.1 (show h.2.2.1<_ by omega);have he:List.getD (aq m h.1).2.2.1 (Int.toNat h.2.2.1) (0,0,0,())=qi (aq m h.1).2.2.1 h.2.2.1:=rfl;rw[qg ha,af ha,fU ef.1 (by omega),aJ,he,fU iT.1.1 (by omega),aJ,qs (by omega) (by omega)];have hw:List.getD m.1 (Int.toNat (qi (aq m h.1).2.2.1 h.2.2.1).1) (0,0,0,())=wd m (qi (aq m h.1).2.2.1 h.2.2.1).1:=rfl;rw[hw,eqW,show((0:Int),h.1+1,h.2.1,())=dL h.1 h.2.1 from rfl];by_cases hm:wd m (qi (aq m h.1).2.2.1 h.2.2.1).1=dL h.1 h.2.1
  .rw[qf hm,aj hm,qs (by omega) (by omega)];rfl
  .rw[qg hm,af hm];by_cases ht:(wd m (qi (aq m h.1).2.2.1 h.2.2.1).1).2.1≠0
   .have xk:(wd m (qi (aq m h.1).2.2.1 h.2.2.1).1).2.1<=100/\0<=(wd m (qi (aq m h.1).2.2.1 h.2.2.1).1).2.1:=by
     rcases I.word _ iT.1.1 iT.1.2 with q | ⟨v,v0,v1,vo,vm,_⟩
     .exact absurd q.1 ht
     .rw[vm];simp only[dL];omega
    rw[show((wd m (qi (aq m h.1).2.2.1 h.2.2.1).1).2.1 != 0)=true by rw[cM,b8 ht];rfl,aJ,aj ht,qs (by omega) (by omega)]
   .have CM:(wd m (qi (aq m h.1).2.2.1 h.2.2.1).1).2.1=0:=by omega
    rw[show((wd m (qi (aq m h.1).2.2.1 h.2.2.1).1).2.1 != 0)=false by rw[cM,bC CM];rfl,aN,af ht];by_cases ho:(wd m (qi (aq m h.1).2.2.1 h.2.2.1).1).1=(qi (aq m h.1).2.2.1 h.2.2.1).2.1
    .rw[qf ho,aj ho,qs (by omega) (by omega)];rfl
    .rw[qg ho,af ho];rfl
theorem P5{m:aT}{k:Nat}{time:Int}{own:Int->Prop}(I:eR m k time own)(hk:k<=3):m.1.length<=1000/\m.2.1.length<=1000/\∀d∈m.2.1,d.2.2.1.length<=1000/\d.2.2.2.1.2.1.length<=1000:=by
 refine⟨by rw[I.len];omega,by rw[I.di];omega,fun d hd=>?_⟩;obtain⟨j,hj,rfl⟩:=mT.1 hd;have mg:=I.di;have e:m.2.1[j]=aq m (j:Int):=by unfold aq;rw[eB,qv hj]
 have D:=I.dj (j:Int) (by omega) (by omega);have h1:=D.len;have h2:=D.rl;rw[e];exact⟨by omega,by omega⟩
theorem abE(hn:W+8<=n){m:aT}{k:Nat}{time:Int}{own:Int->Prop}(I:eR m k time own){h:gv}(H:bR m k h)(h1:1<=k)(hk:k<=3)(ht:time<=1000000) :
  Zb (DD X n) m h=some (q7 m h,()):=by
 obtain⟨n,rfl⟩:∃k,n=k+1:=⟨n-1,by omega⟩
 have hlen:=I.len;have mg:=I.di;have u0:=H.t.1;have u1:=H.t.2;have ef:=H.r8;have hfi:=H.fin;have Uv:=H.seq;have hst:=(I.dj h.1 u0 u1).st.2 (by omega);obtain⟨s1,s2,s3⟩:=P5 hX I hk;rw[ah8 hX];simp only[Zm,OY];rw[Gv hX (by omega) m s1 s2 s3,qc];dsimp only;rw[show((m.1,m.2.1,()):aT)=m from rfl,xD hX (by omega) I ht h1 (by omega),qc];dsimp only;rw[cQ,aN,qs (by omega) (by omega),lD hX (by omega),qc];dsimp only;have lC:List.getD m.2.1 (Int.toNat h.1) (0,0,[],(0,[],()),())=aq m h.1:=rfl;rw[jP ⟨u0,by omega⟩,cQ,bg,qg (by omega),fU u0 (by omega),aJ,lC];by_cases hd:(aq m h.1).1=h.2.1
 .rw[show((aq m h.1).1 != h.2.1)=false by rw[cM,bC hd];rfl,aN,aJ,af (by omega),af (by omega)];rw[show((aq m h.1).2.1 != 0)=true by rw[cM,b8 (by omega)];rfl,bz];have hhh:(h.1,h.2.1,h.2.2.1,h.2.2.2.1,())=h:=rfl;by_cases hs:(aq m h.1).2.1=1
  .rw[bC hs,bz,aJ,aJ,show((h.1,h.2.1,h.2.2.1,h.2.2.2.1,h.2.2.2.2):gv)=h from rfl,akg hX (by omega) I H hk hd hs,qc]
  .rw[b8 hs,bg,aN,ajq];have ea:q7 m h=(if ((aq m h.1).2.2.1.length:Int)<=h.2.2.2.1 then (m,h,dH,2,())
    else (if wd m (qi (aq m h.1).2.2.1 h.2.2.2.1).1=dL h.1 h.2.1 then
     ep m (qi (aq m h.1).2.2.1 h.2.2.2.1).1 (if (aq m h.1).2.1=2 then (qi (aq m h.1).2.2.1 h.2.2.2.1).2.2.1 else (qi (aq m h.1).2.2.1 h.2.2.2.1).2.1,0,0,()) else m,(h.1,h.2.1,h.2.2.1,h.2.2.2.1+1,()),dH,0,())):=by
    unfold q7;rw[af (by omega),af hs]
   rw[ea];by_cases hf:((aq m h.1).2.2.1.length:Int)<=h.2.2.2.1
   .rw[aj hf,b8 (show ¬ (aq m h.1).2.1=0 by omega),bg,bC (show h.2.2.2.1>=((aq m h.1).2.2.1.length:Int) from hf),aJ];rfl
   .have iT:=I.gU u0 u1 hfi.1 (show h.2.2.2.1<_ by omega);have he:List.getD (aq m h.1).2.2.1 (Int.toNat h.2.2.2.1) (0,0,0,())=qi (aq m h.1).2.2.1 h.2.2.2.1:=rfl;have hw:List.getD m.1 (Int.toNat (qi (aq m h.1).2.2.1 h.2.2.2.1).1) (0,0,0,())=wd m (qi (aq m h.1).2.2.1 h.2.2.2.1).1:=rfl;rw[af hf,b8 (show ¬ (aq m h.1).2.1=0 by omega),bg,b8 (show ¬ h.2.2.2.1>=((aq m h.1).2.2.1.length:Int) by omega),aN,fU hfi.1 (by omega),aJ,he,
     fU iT.1.1 (by omega),aJ,hw,eqW,qs (show -9223372036854775808<=h.1+1 by omega) (by omega),show((0:Int),h.1+1,h.2.1,())=dL h.1 h.2.1 from rfl]
    by_cases hm:wd m (qi (aq m h.1).2.2.1 h.2.2.2.1).1=dL h.1 h.2.1
    .rw[qf hm,aj hm,qs (by omega) (by omega),Ch,J8 (show(qi (aq m h.1).2.2.1 h.2.2.2.1).1.toNat<m.1.length by omega)];by_cases h2:(aq m h.1).2.1=2
     .rw[qf h2,aj h2];rfl
     .rw[qg h2,af h2];rfl
    .rw[qg hm,af hm,qs (by omega) (by omega)];rfl
 .rw[show((aq m h.1).1 != h.2.1)=true by rw[cM,b8 hd];rfl,aJ];have ea:q7 m h=(m,h,dH,2,()):=by unfold q7;rw[aj hd]
  rw[ea];rfl
end
section
variable {X:Ext} (hX:fI X) {n:Nat}
include hX
theorem P6(D:Den ctx)(n:Nat)(K0:Int->aH->Option ((Int×Unit)×aH×Unit))(K1:aH->Option ((Int×Unit)×aH×Unit))(t:Int)(m:aH)(hl:m.2.2.2.1.length<=1000):∀(i c:Nat),i<=m.2.2.2.1.length->i<c->
  JJ D n K0 K1 c t ((i:Int)-1) m=if qY m.2.2.2.1 t i<0 then K1 m else K0 (qY m.2.2.2.1 t i) m
 | _,0,_,h2=>by omega
 | 0,c+1,_,_=>by
  simp only[JJ,U7];have rP:qY m.2.2.2.1 t 0 = -1:=rfl;rw[qg (by omega),rP,aj (by omega)]
 | i+1,c+1,h1,h2=>by
  have ih:=P6 D n K0 K1 t m hl i c (by omega) (by omega);simp only[JJ,U7];have rP:qY m.2.2.2.1 t (i+1)=if (m.2.2.2.1.getD i dC).1=t/\(m.2.2.2.1.getD i dC).2.2.2.2.1<0 then (i:Int) else qY m.2.2.2.1 t i:=rfl
  have e:(((i+1:Nat):Int)-1)=(i:Int):=by omega
  have hd:m.2.2.2.1.getD i (0,(0,0,0,()),0,0,0,(0,[],()),())=m.2.2.2.1.getD i dC:=rfl;rw[e,qf (by omega),ix (by omega),aJ,eB,hd,qs (by omega) (by omega)];by_cases a:(m.2.2.2.1.getD i dC).1=t
  .rw[qf a,aJ];by_cases b:(m.2.2.2.1.getD i dC).2.2.2.2.1<0
   .rw[aj ⟨a,b⟩]at rP;rw[qf b,rP,af (by omega)]
   .rw[af (fun q=>b q.2)]at rP;rw[qg b,rP];exact ih
  .rw[af (fun q=>a q.1)]at rP;rw[qg a,rP];exact ih
theorem GH(l:List gH)(t:Int):∀i,-1<=qY l t i/\qY l t i<i
 | 0=>by simp[qY]
 | i+1=>by
  have:=GH l t i;simp only[qY];split<;>omega
theorem PZ(hn:W+1<=n)(m:aH)(t:Int)(hl:m.2.2.2.1.length<=1000):U9 (DD X n) m t=some ((kE m.2.2.2.1 t,()),(m,())):=by
 obtain⟨n,rfl⟩:∃k,n=k+1:=⟨n-1,by omega⟩
 have hW:=ez;rw[adr hX];simp only[qlm,qln,qkk];rw[qs (by omega) (by omega)];refine dI (P6 hX (DD X n) n _ _ t m hl m.2.2.2.1.length n (ck _) (by omega)) ?_;have:=GH (X:=X) hX m.2.2.2.1 t m.2.2.2.1.length;unfold kE;by_cases h:qY m.2.2.2.1 t m.2.2.2.1.length<0
 .rw[aj h,show qY m.2.2.2.1 t m.2.2.2.1.length = -1 by omega];rfl
 .rw[af h];rfl
theorem Q_(l:List gH)(t:Int) : -1<=kE l t/\kE l t<l.length:=GH (X:=X) hX l t _
theorem Ki(hn:W+2<=n)(m:aH)(t:Int)(r:fz)(hl:m.2.2.2.1.length<=1000)(ho:m.2.2.2.2.1.length<=1000)(hr:r.2.1.length<=1000):SR (DD X n) m t r=some ((),(iD m t r,())):=by
 obtain⟨n,rfl⟩:∃k,n=k+1:=⟨n-1,by omega⟩
 have hW:=ez;have hb:=i7;have Xe:=Q_ hX m.2.2.2.1 t;rw[aeV hX];simp only[qt5,q6g];rw[PZ hX (by omega) m t hl,qc];dsimp only;unfold iD;by_cases h:kE m.2.2.2.1 t<0
 .rw[qf h,aj h]
 .rw[qg h,af h,fU (by omega) (by omega),aJ,L0 hX (by omega) r (by omega),qc];dsimp only;rw[b6,fU (by omega) (by omega),aJ,qf (by omega),Ch,J8 (show(kE m.2.2.2.1 t).toNat<m.2.2.2.1.length by omega)];rfl
theorem N3(hn:W+2<=n)(m:aH)(t:Int)(r:fz)(t0:0<=t)(t1:t<m.2.1.length)(hl:m.2.2.2.1.length<=1000)(hr:r.2.1.length<=1000)(hp:0<=(ai m t).2.1/\(ai m t).2.1<=1000)(ho:0<=kE m.2.2.2.1 t) :
  SU (DD X n) m t r=some ((),(d_ m t r,())):=by
 obtain⟨n,rfl⟩:∃k,n=k+1:=⟨n-1,by omega⟩
 have hW:=ez;have Xe:=Q_ hX m.2.2.2.1 t;rw[aej hX];simp only[qrv,qsf];rw[PZ hX (by omega) m t hl,qc];dsimp only;rw[qf (by omega),fU (by omega) (by omega),aJ,L0 hX (by omega) r (by omega),qc];dsimp only;rw[b6,fU (by omega) (by omega),aJ,Ch,J8 (show(kE m.2.2.2.1 t).toNat<m.2.2.2.1.length by omega)];dsimp only;simp only[qqt,q0b];have ht:t.toNat<m.2.1.length:=by omega
 have hx:m.2.1.getD t.toNat ([],0,false,[],[],())=ai m t:=rfl;rw[fU t0 t1,aJ];simp only[Ch,J8 ht,hx,b6];rw[qs (by omega) (by omega)];unfold d_ ir;rw[af (by omega)];rfl
theorem abC(hn:1<=n)(w:lX)(t:Int)(h0:0<=t/\t<=100)(h:w.2.1≠t+1):gZ ctx (DD X n) (bf.mk 177 [bD.cj (Ty.int IntKind.i64) t]) [bD.val Bx w] Ty.bool=some false:=by
 obtain⟨n,rfl⟩:∃k,n=k+1:=⟨n-1,by omega⟩
 have e:∀D:Den ctx,gZ ctx D (bf.mk 177 [bD.cj (Ty.int IntKind.i64) t]) [bD.val Bx w] Ty.bool=(Ot D w t).bind fun r=>some r.1.1:=fun D=>by kernel_rfl
 rw[e,aha hX];simp only[Ye,OJ];rw[qs (by omega) (by omega),b8 h];rfl
theorem ajs(hn:W+8<=n){m:aT}{k:Nat}{time:Int}{own lR:Int->Prop}(I:eR m k time own)(h1:1<=k)(hk:k<=3)(ht:time<=1000000){t:Int}(t0:0<=t)(t1:t<k)(hno:¬ own t){E:List eu}{r:fz}(hE:E.length<=1000)(hr:r.2.1.length<=1000)
  (I':eR (bI m t ((aq m t).1+1,1,E,r,())) k time lR):VO (DD X n) m t E r=some ((bI m t ((aq m t).1+1,1,E,r,()),(t,(aq m t).1+1,0,0,()),true,()),()):=by
 obtain⟨n,rfl⟩:∃k,n=k+1:=⟨n-1,by omega⟩
 have hW:=ez;have hlen:=I.len;have mg:=I.di;have Uv:=(I.dj t t0 t1).seq;obtain⟨s1,s2,s3⟩:=P5 hX I hk;rw[aiS hX];simp only[ZQ,O8];rw[Gv hX (by omega) m s1 s2 s3,qc];dsimp only;rw[xD hX (by omega) I ht h1 (by omega),qc];dsimp only;rw[cQ,aN,qs (by omega) (by omega),lD hX (by omega),qc];dsimp only;rw[jP ⟨t0,by omega⟩,cQ,aN,ahx hX (by omega) (by omega) (f:=fun _=>false) (fun w hw=>abC hX (by omega) w t (by omega) (by
  obtain⟨j,hj,rfl⟩:=mT.1 hw;have e:m.1[j]=wd m (j:Int):=by unfold wd;rw[eB,qv hj]
  rw[e];rcases I.word (j:Int) (by omega) (by omega) with q | ⟨v,v0,v1,vo,vm,_⟩
  .have:=q.1;omega
  .rw[vm];simp only[dL];intro q;exact hno (by rw[show t=v by omega];exact vo))),qc]
 dsimp only;have lC:List.getD m.2.1 (Int.toNat t) (0,0,[],(0,[],()),())=aq m t:=rfl;rw[zK hX,aN,fU t0 (by omega),aJ,qc];dsimp only;rw[qm4 hX (by omega) E (by omega),qc,L0 hX (by omega) r (by omega),qc];dsimp only;rw[fU t0 (by omega),aJ,lC,qs (by omega) (by omega)];have hm:=xD hX (n:=n) (by omega) I' ht h1 (by omega);rw[show((m.1,m.2.1.set t.toNat ((aq m t).1+1,1,E,(r.1,r.2.1,()),()),()):aT)=bI m t ((aq m t).1+1,1,E,r,()) from rfl,hm,qc];dsimp only;rw[cQ,aN]
end
theorem aa9{m:aT}{h:gv}(e:(q7 m h).2.2.2.1=2):(q7 m h).1=m:=by
 unfold q7 at e⊢
 repeat' split at e
 all_goals first
  | rfl
  | (exfalso;revert e;decide)
  | skip
 all_goals simp_all
theorem aa_{m:aT}{h:gv}(e:(q7 m h).2.2.2.1=3):(q7 m h).1=bI m h.1 ((aq m h.1).1,2,(aq m h.1).2.2):=by
 unfold q7 at e⊢
 repeat' split at e
 all_goals first
  | (exfalso;revert e;decide)
  | skip
 all_goals simp_all
theorem Rw{m:aH}{t:Int}{x:cK}(t0:0<=t)(t1:t<m.2.1.length)(r:fz)(h1:x.1=(ai m t).1)(h2:x.2.1=(ai m t).2.1):d_ (ct m t x) t r=d_ m t r:=by
 have hx:ai (ct m t x) t=x:=by rw[qX ⟨t0,t1⟩ t0,aj rfl]
 unfold d_;rw[hx,h1,h2];unfold ir;rw[show(ct m t x).2.2.2.1=m.2.2.2.1 from rfl];by_cases h:kE m.2.2.2.1 t<0
 .rw[aj h,aj h];unfold ct;dsimp only;rw[Ch]
 .rw[af h,af h];unfold ct;dsimp only;rw[Ch];rfl
section
variable {X:Ext} (hX:fI X) {n:Nat}
include hX
theorem Rr{m:aT}{k:Nat}{x:cK}{t:Int}(T:jr m k x t):Bl x:=by
 have:=T.ops.1;have:=HM hX T;have:=HQ hX T
 exact⟨by omega,by omega,by omega⟩
theorem abq(hn:W+10<=n){m:aH}(I:Inv m){t:Int}(t0:0<=t)(t1:t<m.2.1.length)(hs:(ai m t).2.2.2.2.1≠[])(I7:m.2.2.1<=1000000):qng (DD X n) m t=some ((),(kD m t,())):=by
 obtain⟨n,rfl⟩:∃k,n=k+1:=⟨n-1,by omega⟩
 have hW:=ez;have T:=I.th t t0 t1;have ho:=T.Ac hs;have hsh:=Rr hX T;have H:=T.dZ _ (mI hs);have W1:=I.n;have mg:=I.mem.di;have ht:t.toNat<m.2.1.length:=by omega
 have hx:m.2.1.getD t.toNat ([],0,false,[],[],())=ai m t:=rfl;obtain⟨k,hk,_⟩:=I.call.jN t t0 t1 ho;have hoc:=I.call.nk hk;have Uo:=hk.dM;have jK:=IE hX I;have DZ:=(J1 hX I).o;have z_:=T.pc;have hop:=T.ops.1;have u0:=H.t.1;have u1:=H.t.2;have hrl:=(I.mem.dj _ u0 u1).rl;rw[adC hX];simp only[qni,qw8,hx,b6,Ch,J8 ht];rw[fU t0 t1,aJ,akO hX (by omega) (ai m t) hs (by have:=hsh.2.2;omega),qc];dsimp only;rw[show((m.1.1,m.1.2.1,()):aT)=m.1 from rfl,abE hX (by omega) I.mem H (by omega) (by omega) I7,qc];dsimp only;unfold kD;by_cases c1:(q7 m.1 (au (ai m t))).2.2.2.1=1
 .rw[qf c1,aj c1];by_cases hc:(au (ai m t)).1=t/\(ai m t).2.2.2.2.1.length=1
  .rw[aj hc,bC hc.1,bz,qf (by omega),Ib hX (by omega) _ hsh,qc];dsimp only;rw[aJ];rfl
  .rw[af hc];have e:(bif decide ((au (ai m t)).1=t) then decide (((ai m t).2.2.2.2.1.length:Int)=1) else false)=false:=by
    by_cases a:(au (ai m t)).1=t
    .rw[bC a,bz,b8 (fun q=>hc ⟨a,by omega⟩)]
    .rw[b8 a];rfl
   rw[e,aN,Ic hX (by omega) _ hsh hs,qc];dsimp only;rw[aJ];rfl
 rw[qg c1,af c1];by_cases c2:(q7 m.1 (au (ai m t))).2.2.2.1=2
 .rw[qf c2,aj c2,akN hX (by omega) _ hsh hs,qc];dsimp only;rw[aJ,aa9 c2];by_cases hne:(au (ai m t)).1≠t
  .rw[show((au (ai m t)).1 != t)=true by rw[cM,b8 hne];rfl,aJ,aj hne];rfl
  .have he:(au (ai m t)).1=t:=by omega
   have hd:m.1.2.1.getD t.toNat (0,0,[],(0,[],()),())=aq m.1 t:=rfl;rw[show((au (ai m t)).1 != t)=false by rw[cM,bC he];rfl,aN,af hne,aJ,fU t0 (by omega),aJ,hd];by_cases hy:(aq m.1 t).2.1=2
   .rw[qf hy,aj hy];have hE:=N3 hX (n:=n) (by omega) (ct m t ((jf (ai m t)).1,(jf (ai m t)).2.1,(jf (ai m t)).2.2.1,(jf (ai m t)).2.2.2.1,[],())) t (aq m.1 t).2.2.2.1 t0 (by rw[o7];exact t1) (by show m.2.2.2.1.length<=1000;omega) (by rw[he]at hrl;omega)
     (by rw[qX ⟨t0,t1⟩ t0,aj rfl];show 0<=(ai m t).2.1/\(ai m t).2.1<=1000;omega) (by show 0<=kE m.2.2.2.1 t;omega)
    rw[Rw (x:=((jf (ai m t)).1,(jf (ai m t)).2.1,(jf (ai m t)).2.2.1,(jf (ai m t)).2.2.2.1,[],())) t0 t1 _ rfl rfl]at hE;refine dI (ew (fun z=>qd z _) hE) ?_;rw[qc];rfl
   .rw[qg hy,af hy,aJ];rfl
 rw[qg c2,af c2];by_cases c3:(q7 m.1 (au (ai m t))).2.2.2.1=3
 .rw[qf c3,aj c3,aa_ c3];have iI:(bI m.1 (au (ai m t)).1 ((aq m.1 (au (ai m t)).1).1,2,(aq m.1 (au (ai m t)).1).2.2)).2.1.length=m.1.2.1.length:=G9 _ _ _;have hd:List.getD (bI m.1 (au (ai m t)).1 ((aq m.1 (au (ai m t)).1).1,2,(aq m.1 (au (ai m t)).1).2.2)).2.1 (au (ai m t)).1.toNat (0,0,[],(0,[],()),())=((aq m.1 (au (ai m t)).1).1,2,(aq m.1 (au (ai m t)).1).2.2):=by have:=n7 (m:=m.1) (u:=(au (ai m t)).1) (t:=(au (ai m t)).1) (d:=((aq m.1 (au (ai m t)).1).1,2,(aq m.1 (au (ai m t)).1).2.2)) (by omega) u0;rw[aj rfl]at this;exact this
  rw[iI,fU u0 (by omega),aJ,hd];have hS:=Ki hX (n:=n) (by omega) (cE m (bI m.1 (au (ai m t)).1 ((aq m.1 (au (ai m t)).1).1,2,(aq m.1 (au (ai m t)).1).2.2))) (au (ai m t)).1 (aq m.1 (au (ai m t)).1).2.2.2.1 (by show m.2.2.2.1.length<=1000;omega) DZ (by omega);refine dI (ew (fun z=>qd z _) hS) ?_;rw[qc];dsimp only;rw[Ic hX (by omega) _ hsh hs,qc];dsimp only;have e2:(iD (cE m (bI m.1 (au (ai m t)).1 ((aq m.1 (au (ai m t)).1).1,2,(aq m.1 (au (ai m t)).1).2.2))) (au (ai m t)).1 (aq m.1 (au (ai m t)).1).2.2.2.1).2.1=m.2.1:=by unfold iD;split<;>rfl
  rw[e2,fU t0 t1,aJ,<-e2];rfl
 rw[qg c3,af c3,Ic hX (by omega) _ hsh hs,qc];dsimp only;rw[aJ];rfl
end
theorem HD(m:aH)(t u:Int)(x:cK)(r:fz):iD (ct m t x) u r=ct (iD m u r) t x:=by
 unfold iD;rw[show(ct m t x).2.2.2.1=m.2.2.2.1 from rfl];by_cases h:kE m.2.2.2.1 u<0
 .rw[aj h,aj h]
 .rw[af h,af h];rfl
theorem xM(m:aH)(u:Int)(r:fz):(iD m u r).2.1=m.2.1:=by unfold iD;split<;>rfl
section
variable {X:Ext} (hX:fI X) {n:Nat}
include hX
theorem akv(hn:W+15<=n){m:aH}(I:Inv m){t:Int}(t0:0<=t)(t1:t<m.2.1.length)(ho:(ai m t).2.2.1=true)(hs:(ai m t).2.2.2.2.1=[])(oX:(aq m.1 t).1+1<=m.2.2.1)(I7:m.2.2.1<=1000000) :
  qqa (DD X n) m t=some ((true,()),(tN m t,())):=by
 obtain⟨n,rfl⟩:∃k,n=k+1:=⟨n-1,by omega⟩
 have hW:=ez;have hb:=i7;have IR:=R9 I t0 t1 ho hs oX;have T:=I.th t t0 t1;have hop:=T.op ho;have hsh:=Rr hX T;have i6:=zC (t:=t) hs;have hno:¬ bw m t:=by unfold bw;rw[i6];simp
 obtain⟨q,B,hq⟩:=T.read ho i6;have oy:=T.along ho;obtain⟨I4,zi⟩:=J4 hop T.got oy;have oD:CU (ai m t)=q/\(0<=q/\q<20)/\q∉gY (ai m t).2.2.2.1/\List.length (ai m t).2.2.2.1<8:=by
  rcases zi with h | ⟨q',B',h,h2,h3,h4,h5⟩
  .rw[hq]at h;have:=ew List.length h.1;simp at this
  .rw[hq]at h;have:=Fu h;simp only[eS]at this;obtain⟨rfl,_⟩:=this;exact⟨h2,h3,h4,h5⟩
 obtain⟨oD,qC,Xb,hlen⟩:=oD;have W1:=I.n;have hwl:=I.mem.len;have mg:=I.mem.di;have ht:t.toNat<m.2.1.length:=by omega
 have hx:m.2.1.getD t.toNat ([],0,false,[],[],())=ai m t:=rfl;have W5:List.getD (ai m t).1 (Int.toNat (ai m t).2.1) (0,0,0,())=aX (ai m t):=rfl;have z_:=T.pc;have oE:=T.on ho;have alv:=T.ops.1;obtain⟨k,hk,_⟩:=I.call.jN t t0 t1 ho;have hoc:=I.call.nk hk;have Uo:=hk.dM;have jK:=IE hX I;have DZ:=(J1 hX I).o;rw[ad5 hX];simp only[qqg,q0c,hx,b6,Ch,J8 ht,W5];rw[fU t0 t1,aJ,fU z_.1 oE,aJ,aaC hX (by omega) (by omega),qc];dsimp only;have hnp:BL (aX (ai m t)) (ai m t).2.2.2.1=q:=by unfold BL;rw[aj hop];exact oD
 have mF:m.1.1.getD q.toNat (0,0,0,())=wd m.1 q:=rfl;rw[hnp,qf qC.1,fU qC.1 (by omega),aJ,mF];have DT:iw m (ai m t)=(ai m t).2.2.2.1++[(q,(wd m.1 q).1,())]:=by unfold iw;rw[oD]
 unfold tN at IR⊢;rw[oD,DT]at IR⊢;by_cases hw:(wd m.1 q).2.1≠0
 .rw[aj hw];have xk:(wd m.1 q).2.1<=100/\0<=(wd m.1 q).2.1:=by
   rcases I.mem.word q qC.1 qC.2 with z | ⟨v,v0,v1,vo,vm,_⟩
   .exact absurd z.1 hw
   .rw[vm];simp only[dL];omega
  rw[show((wd m.1 q).2.1 != 0)=true by rw[cM,b8 hw];rfl,aJ,qs (by omega) (by omega)];rw[show(((ai m t).1,(ai m t).2.1,(ai m t).2.2.1,(ai m t).2.2.2.1,(ai m t).2.2.2.2):cK)=ai m t from rfl,Ib hX (by omega) _ hsh,qc];rfl
 have hw0:(wd m.1 q).2.1=0:=by omega
 rw[af hw]at IR⊢;rw[show((wd m.1 q).2.1 != 0)=false by rw[cM,bC hw0];rfl,aN,qf (by omega)];have hgl:List.length ((ai m t).2.2.2.1++[(q,(wd m.1 q).1,())])<=1000:=by rw[cI,l9];omega
 rw[ai3 hX (by omega) (by omega),qc];dsimp only;generalize hg':(ai m t).2.2.2.1++[(q,(wd m.1 q).1,())]=fB at *;have uj:(m.1,m.2.1.set t.toNat ((ai m t).1,(ai m t).2.1,(ai m t).2.2.1,fB,(ai m t).2.2.2.2),m.2.2)=ct m t (rX (ai m t) fB):=rfl;by_cases hpf:(gh (aX (ai m t)) fB).2.1=false
 .rw[aj hpf,hpf,iN,aJ,uj]
 .rw[af hpf]at IR⊢;rw[show(gh (aX (ai m t)) fB).2.1=true by simpa using hpf,cQ,aN];have hrl:=abI (aX (ai m t)) fB;by_cases dn:(gh (aX (ai m t)) fB).1.1=true
  .rw[aj dn,dn,aJ,uj];have hS:=Ki hX (n:=n) (by omega) (ct m t (rX (ai m t) fB)) t (gh (aX (ai m t)) fB).1.2.1 (by show m.2.2.2.1.length<=1000;omega) DZ (by omega);refine dI (ew (fun z=>qd z _) hS) ?_;rw[qc];dsimp only;have e1:(iD (ct m t (rX (ai m t) fB)) t (gh (aX (ai m t)) fB).1.2.1).2.1.length=m.2.1.length:=by rw[xM,o7]
   have fK:ai (iD m t (gh (aX (ai m t)) fB).1.2.1) t=ai m t:=zA (xM _ _ _) t;have Uu:iD m t (gh (aX (ai m t)) fB).1.2.1=(m.1,m.2.1,m.2.2.1,m.2.2.2.1.set k.toNat ((ay m.2.2.2.1 k).1,(ay m.2.2.2.1 k).2.1,(ay m.2.2.2.1 k).2.2.1,m.2.2.1,(ay m.2.2.2.1 k).2.2.2.2.1,(gh (aX (ai m t)) fB).1.2.1,()),m.2.2.2.2.1++[k],m.2.2.2.2.2):=by unfold iD;rw[hoc,af (by omega)];rfl
   have KJ:(iD (ct m t (rX (ai m t) fB)) t (gh (aX (ai m t)) fB).1.2.1).2.2.2.1=(iD m t (gh (aX (ai m t)) fB).1.2.1).2.2.2.1:=by rw[HD];rfl
   have W4:0<=kE (iD m t (gh (aX (ai m t)) fB).1.2.1).2.2.2.1 t:=by
    have UA:m3 m t=none:=by unfold m3;rw[af (fun z=>by rw[i6]at z;cases z.1)]
    have gW:(gh (aX (ai m t)) fB).1.2.1.2.1.length<=20:=hrl.1
    -- yP call is open still
    have gk:ay (m.2.2.2.1.set k.toNat ((ay m.2.2.2.1 k).1,(ay m.2.2.2.1 k).2.1,(ay m.2.2.2.1 k).2.2.1,m.2.2.1,(ay m.2.2.2.1 k).2.2.2.2.1,(gh (aX (ai m t)) fB).1.2.1,())) k=((ay m.2.2.2.1 k).1,(ay m.2.2.2.1 k).2.1,(ay m.2.2.2.1 k).2.2.1,m.2.2.1,(ay m.2.2.2.1 k).2.2.2.2.1,(gh (aX (ai m t)) fB).1.2.1,()):=by rw[Dg hk.dM hk.dM.1,aj rfl]
    have key:∀(l:List gH)(j:Int),0<=j->j<l.length->(ay l j).1=t->(ay l j).2.2.2.2.1<0->∀i:Nat,j<i->0<=qY l t i:=by
     intro l j j0 j1 h1 h2 i
     induction i with
     | zero=>intro h;omega
     | succ i ih=>
      intro h;simp only[qY];split
      .omega
      .next hc=>
       refine ih ?_;by_cases e:j=(i:Int)
       .exfalso;refine hc ?_;rw[e]at h1 h2;rw[vP]at h1 h2;exact⟨h1,h2⟩
       .omega
    rw[Uu];dsimp only;unfold kE;refine key _ k Uo.1 (by rw[b6];exact Uo.2) ?_ ?_ _ (by rw[b6];exact Uo.2)
    .rw[gk];exact hk.t
    .rw[gk];dsimp only;have:=hk.fin;omega
   have hE:=N3 hX (n:=n) (by omega) (iD (ct m t (rX (ai m t) fB)) t (gh (aX (ai m t)) fB).1.2.1) t (gh (aX (ai m t)) fB).1.2.1 t0 (by rw[e1];exact t1)
    (by rw[KJ,Uu];dsimp only;rw[b6];omega) (by omega) (by
     rw[HD,qX (by rw[xM];exact⟨t0,t1⟩) t0,aj rfl];show 0<=(ai m t).2.1/\(ai m t).2.1<=1000;omega) (by rw[KJ];exact W4)
   refine dI (ew (fun z=>qd z _) hE) ?_;rw[qc];dsimp only;have:=Rw (m:=iD m t (gh (aX (ai m t)) fB).1.2.1) (t:=t) (x:=rX (ai m t) fB) t0 (by rw[xM];exact t1) (gh (aX (ai m t)) fB).1.2.1 (by rw[fK];rfl) (by rw[fK];rfl);rw[HD,this]
  .rw[af dn]at IR⊢;rw[show(gh (aX (ai m t)) fB).1.1=false by simpa using dn,aN];have hB:=ajs hX (n:=n) (by omega) I.mem (by omega) (by omega) I7 t0 t1 hno (E:=(gh (aX (ai m t)) fB).1.2.2.1) (r:=(gh (aX (ai m t)) fB).1.2.1) (by omega) (by omega) (by
    have:=IR.mem;rw[o7]at this;exact this)
   refine dI (ew (fun z=>qd z _) hB) ?_;rw[qc];dsimp only;rw[aJ];have hP:=Ib hX (n:=n) (by omega) (rX (ai m t) fB) ⟨hsh.1,hgl,hsh.2.2⟩ (t,(aq m.1 t).1+1,0,0,());refine dI (ew (fun z=>qd z _) hP) ?_;rw[qc];rfl
theorem Rq{m:aH}{t:Int}:(vp m t).2.2.1=m.2.2.1+1:=by
 have hs:∀(m:aH)(u:Int)(r:fz),(iD m u r).2.2.1=m.2.2.1:=fun m u r=>by unfold iD;split<;>rfl
 have he:∀(m:aH)(u:Int)(r:fz),(d_ m u r).2.2.1=m.2.2.1:=fun m u r=>by unfold d_ ir;split<;>rfl
 unfold vp;split
 .rfl
 .split
  .unfold kD;split
   .split<;>rfl
   .split
    .split
     .rfl
     .split
      .rw[he];rfl
      .rfl
    .split
     .show(iD _ _ _).2.2.1=_;rw[hs];rfl
     .rfl
  .unfold tN;split
   .rfl
   .split
    .rfl
    .split
     .rw[he,hs];rfl
     .rfl
theorem aaQ(hn:W+17<=n){m:aH}(I:Inv m){t:Int}(t0:0<=t)(t1:t<m.2.1.length)(ht:m.2.2.1<=100000)(hd:(ai m t).2.1=(ai m t).1.length):JY (DD X n) m t=some ((m,false,()),()):=by
 obtain⟨n,rfl⟩:∃k,n=k+2:=⟨n-2,by omega⟩
 have W1:=I.n;have hx:m.2.1.getD t.toNat ([],0,false,[],[],())=ai m t:=rfl;rw[Pt hX];simp only[UG,FP,hx];rw[Tg hX (by omega) I ht,qc];dsimp only;rw[cQ,aN,qs (by omega) (by omega),lD hX (by omega),qc];dsimp only;rw[jP ⟨t0,by omega⟩,cQ,aN,fU t0 t1,aJ,qub hX];simp only[Vi,qun];rw[qc];dsimp only;rw[bC hd,bz,aJ,VI hX (by omega) (J1 hX I),qc]
theorem aku(hn:W+17<=n){m:aH}(I:Inv m){t:Int}(t0:0<=t)(t1:t<m.2.1.length)(ht:m.2.2.1<100000)(hd:(ai m t).2.1<(ai m t).1.length):JY (DD X n) m t=some ((vp m t,true,()),()):=by
 obtain⟨n,rfl⟩:∃k,n=k+2:=⟨n-2,by omega⟩
 have hW:=ez;have hb:=i7;have W1:=I.n;have hti:=I.time;have hx:m.2.1.getD t.toNat ([],0,false,[],[],())=ai m t:=rfl;have IS:=R_ I t0 t1 hd;have hts:=Rq hX (m:=m) (t:=t);have hok:=Tg hX (n:=n+1) (by omega) IS (by omega);have jK:=IE hX I;have T:=I.th t t0 t1;have z_:=T.pc;rw[Pt hX];simp only[UG,FP,hx];rw[Tg hX (by omega) I (by omega),qc];dsimp only;rw[cQ,aN,qs (show -9223372036854775808<=(m.2.1.length:Int)-1 by omega) (by omega),lD hX (by omega),qc];dsimp only;rw[jP ⟨t0,by omega⟩,cQ,aN,fU t0 t1,aJ,qub hX];simp only[Vi,qun];rw[qc];dsimp only;rw[b8 (show ¬ (ai m t).2.1=(ai m t).1.length by omega),bg,b8 (show ¬ m.2.2.1=100000 by omega),aN,VI hX (by omega) (J1 hX I),qc];dsimp only;rw[fU t0 t1,aJ,hx,qs (show -9223372036854775808<=m.2.2.1+1 by omega) (by omega)];unfold vp at hok⊢;by_cases h1:(ai m t).2.2.1=false
 .rw[aj h1]at hok⊢;rw[h1,iN,aJ,fU z_.1 hd,aJ,qf (by omega)];refine dI (ew (fun z=>qd z _) hok) ?_;rw[qc];dsimp only;rw[cQ,aN];rfl
 rw[af h1]at hok⊢;have tW:(ai m t).2.2.1=true:=by simpa using h1
 rw[tW,cQ,aN];by_cases h2:(ai m t).2.2.2.2.1≠[]
 .have hlp:0<(ai m t).2.2.2.2.1.length:=pH.2 h2;rw[aj h2]at hok⊢;rw[qf (by omega)];have hA:=abq hX (n:=n+1) (by omega) (IG I) t0 t1 h2 (by show m.2.2.1+1<=1000000;omega);refine dI (ew (fun z=>qd z _) hA) ?_;rw[qc];dsimp only;refine dI (ew (fun z=>qd z _) hok) ?_;rw[qc];dsimp only;rw[cQ,aN]
 .have tc:(ai m t).2.2.2.2.1=[]:=by simpa using h2
  rw[af h2]at hok⊢;rw[qg (by rw[tc];simp)];have hA:=akv hX (n:=n+1) (by omega) (IG I) t0 t1 tW tc (by
   have:=(I.mem.dj t t0 t1).seq.2;show(aq m.1 t).1+1<=m.2.2.1+1;omega) (by show m.2.2.1+1<=1000000;omega)
  refine dI (ew (fun z=>qd z _) hA) ?_;rw[qc];dsimp only;rw[cQ,aN];refine dI (ew (fun z=>qd z _) hok) ?_;rw[qc];dsimp only;rw[cQ,aN]
end
def jW(m:aH)(t:Int):aH:=if (ai m t).2.1<(ai m t).1.length then vp m t else m
def tM(m:aH)(who:List Int):aH:=who.foldl jW m
theorem adh(m:aH)(t:Int):(vp m t).2.1.length=m.2.1.length:=by
 have hs:∀(m:aH)(u:Int)(r:fz),(iD m u r).2.1=m.2.1:=xM;have he:∀(m:aH)(u:Int)(r:fz),(d_ m u r).2.1.length=m.2.1.length:=fun m u r=>by
  unfold d_;rw[o7];unfold ir;split<;>rfl
 unfold vp;split
 .unfold pT;rw[o7];rfl
 .split
  .unfold kD;split
   .split<;>(rw[o7];rfl)
   .split
    .split
     .rw[o7];rfl
     .split
      .rw[he];rfl
      .rw[o7];rfl
    .split
     .rw[o7,hs];rfl
     .rw[o7];rfl
  .unfold tN;split
   .rw[o7];rfl
   .split
    .rw[o7];rfl
    .split
     .rw[he,hs];rfl
     .rw[o7];rfl
theorem JA(m:aH)(t:Int):(jW m t).2.1.length=m.2.1.length:=by
 unfold jW;split
 .exact adh m t
 .rfl
theorem ac7(who:List Int):∀m:aH,(tM m who).2.1.length=m.2.1.length:=by
 induction who with
 | nil=>intro m;rfl
 | cons t who ih=>intro m;show(tM (jW m t) who).2.1.length=_;rw[ih,JA]
theorem AU{m:aH}(I:Inv m){t:Int}(t0:0<=t)(t1:t<m.2.1.length):Inv (jW m t):=by
 unfold jW;split
 .next h=>exact R_ I t0 t1 h
 .exact I
section
variable {X:Ext} (hX:fI X) {n:Nat}
include hX
theorem GQ(m:aH)(t:Int):m.2.2.1<=(jW m t).2.2.1/\(jW m t).2.2.1<=m.2.2.1+1:=by
 unfold jW;split
 .rw[Rq hX];omega
 .omega
theorem Kh(hn:W+17<=n){m:aH}(I:Inv m){t:Int}(t0:0<=t)(t1:t<m.2.1.length)(ht:m.2.2.1<100000):JY (DD X n) m t=some ((jW m t,decide ((ai m t).2.1<(ai m t).1.length),()),()):=by
 unfold jW;by_cases h:(ai m t).2.1<(ai m t).1.length
 .rw[aj h,bC h];exact aku hX hn I t0 t1 ht h
 .rw[af h,b8 h];have:=(I.th t t0 t1).pc;exact aaQ hX hn I t0 t1 (by omega) (by omega)
theorem acG(who:List Int):∀{m:aH},Inv m->(∀t∈who,0<=t/\t<m.2.1.length)->Inv (tM m who)/\(tM m who).2.2.1<=m.2.2.1+who.length/\m.2.2.1<=(tM m who).2.2.1:=by
 induction who with
 | nil=>intro m I _;exact⟨I,by show m.2.2.1<=_;simp,e_ _⟩
 | cons t who ih=>
  intro m I h;have ht:=h t eW;have hg:=GQ hX m t;have:=ih (AU I ht.1 ht.2) (fun u hu=>by rw[JA];exact h u (cB _ hu));refine⟨this.1,?_,?_⟩
  .show(tM (jW m t) who).2.2.1<=_;rw[cq];have:=this.2.1;omega
  .show _<=(tM (jW m t) who).2.2.1;have:=this.2.2;omega
theorem Nu(N n:Nat)(hN:W+17<=N)(K:aH->aH->Option ((aH×Unit)×Unit))(who:List Int)(hl:who.length<=2000)(z:aH):∀(c i:Nat)(m:aH),i<=who.length->who.length-i<c->Inv m->(∀t∈who,0<=t/\t<m.2.1.length)->m.2.2.1+(who.length-i:Nat)<=100000->
  TC (DD X N) n K c who (who.length:Int) (i:Int) m z=K (tM m (who.drop i)) z
 | 0,i,_,_,h2,_,_,_=>by omega
 | c+1,i,m,h1,h2,I,hw,ht=>by
  simp only[TC,Z1];by_cases hi:i<who.length
  .have hr:=hw _ (er hi);have hg:=GQ hX m who[i];have ih:=Nu N n hN K who hl z c (i+1) (jW m who[i]) (by omega) (by omega) (AU I hr.1 hr.2) (fun t h=>by rw[JA];exact hw t h) (by omega);rw[qf (by omega),ix hi,aJ,eB,qv hi,qu (by omega),Kh hX (by omega) I hr.1 hr.2 (by omega),qc];dsimp only;rw[ih,uS hi];rfl
  .rw[qg (by omega),uX hi];rfl
theorem akr(hn:W+18<=n){m:aH}(I:Inv m)(who:List Int)(hl:who.length<=2000)(hw:∀t∈who,0<=t/\t<m.2.1.length)(ht:m.2.2.1+who.length<=100000):FX (DD X n) m who=some ((tM m who,()),()):=by
 obtain⟨n,rfl⟩:∃k,n=k+1:=⟨n-1,by omega⟩
 have hW:=ez;rw[aas hX];simp only[F4,F9,ZB];rw[VI hX (by omega) (J1 hX I),qc];dsimp only;rw[qg (by omega)];refine dI (Nu hX n n (by omega) _ who hl _ n 0 m (fF _) (by omega) I hw (by omega)) ?_;rw[jV];rfl
end
def kF(r:qp):List Int:=(List.range 20).map fun p:Nat=>bV r (p:Int)
def dX(r:qp)(L:List (List cH)):aH:=(((kF r).map fun v=>((v,0,0,()):lX),List.replicate L.length dD,()),L.map fun ops=>((ops,0,false,[],[],()):cK),0,[],[],r,())
structure iF (L:List (List cH)):Prop where
 n:1<=L.length/\L.length<=3
 ops:∀ops∈L,ops.length<=4/\∀o∈ops,dF o=true
theorem rU(r:qp):(kF r).length=20:=by unfold kF;simp
theorem qQ(r:qp){p:Nat}(h:p<20):(kF r).getD p 0=bV r (p:Int):=by unfold kF;rw[qv (by simp[h])];simp
theorem Qk{a b:List Int}(ha:a.length=20)(hb:b.length=20)(h:∀p:Nat,p<20->a.getD p 0=b.getD p 0):a=b:=by
 apply x_ (by omega);intro p h1 h2;have:=h p (by omega)
 rwa [qv h1,qv h2]at this
theorem Mg{r:qp}(hr:aS r){L:List (List cH)}(hL:iF L):Inv (dX r L):=by
  have vI:=hL.n;have j5:(dX r L).2.1.length=L.length:=by unfold dX;simp
  have mF:∀p:Int,0<=p->p<20->wd (dX r L).1 p=(bV r p,0,0,()):=by intro p p0 p1;unfold wd dX;dsimp only;rw[qv (by rw[jz,rU];omega),yb];have:=qQ r (p:=p.toNat) (by omega);rw[qv (by rw[rU];omega)]at this;rw[this,show((p.toNat:Nat):Int)=p by omega]
  have lC:∀t:Int,aq (dX r L).1 t=dD:=by intro t;unfold aq dX;dsimp only;rw[Fq,vC];split<;>rfl
  have xb:∀t:Int,0<=t->t<L.length->∃ops∈L,ai (dX r L) t=(ops,0,false,[],[],()):=by
    intro t t0 t1;have hlt:t.toNat<L.length:=by omega
    refine⟨L[t.toNat],er _,?_⟩;unfold ai dX;dsimp only;rw[qv (by simpa using hlt),yb]
  have hno:∀t:Int,0<=t->t<L.length->¬ bw (dX r L) t:=by intro t t0 t1;obtain⟨ops,_,e⟩:=xb t t0 t1;unfold bw;rw[e];simp[bA]
  refine⟨by rw[j5];exact hL.n,by show(0:Int)<=0;omega,?_,?_,?_,?_,hr⟩
  . rw[j5]
    refine⟨by unfold dX;simp[rU],by unfold dX;simp,?_,?_,?_,?_,?_⟩
    . intro t _ _
      rw[lC];exact⟨List.Pairwise.nil,by simp[dD],fun e he=>by simp[dD]at he,by show(0:Int)<=0/\(0:Int)<=0;omega,⟨fun _=>rfl,fun h=>by simp[dD]at h⟩,by simp[dD]⟩
    . intro p p0 p1
      left;rw[mF p p0 p1];have:=BN hr p ⟨p0,p1⟩;exact⟨rfl,rfl,this.1,by dsimp only;omega⟩
    . intro t _ _ e
      rw[lC]at e;simp[dD]at e
    . intro t t0 t1 e
      exact absurd e (hno t t0 t1)
    . intro t _ _ e
      rw[lC]at e;simp[dD]at e
  . intro t t0 t1
    rw[j5]at t1⊢;obtain⟨ops,ho,e⟩:=xb t t0 t1;rw[e];have h2:=hL.ops ops ho
    exact { ops:=h2,pc:=⟨e_ _,by dsimp only;omega⟩,on:=fun q=>(by cases q),off:=fun _=>⟨rfl,rfl⟩,got:=fun g hg=>by simp at hg,st:=.inl rfl,dZ:=fun k hk=>by simp at hk,own:=fun k hk=>by simp at hk,
            along:=fun q=>(by cases q),read:=fun q=>(by cases q),plan:=fun q=>by simp[bA]at q }
  . rw[j5]
    refine⟨fun k a b=>?_,fun j k a b c=>?_,fun t t0 t1=>?_,fun t t0 t1 e=>?_,fun t t0 t1 _ k a b=>?_,fun t k _ _ hk=>?_,fun k hk=>?_,?_,?_,fun k a b=>?_⟩
    . simp[dX]at b;omega
    . simp[dX]at c;omega
    . obtain⟨ops,_,e⟩:=xb t t0 t1
      rw[e];simp[dX,v_]
    . obtain⟨ops,_,e2⟩:=xb t t0 t1
      rw[e2]at e;cases e
    . simp[dX]at b;omega
    . have:=hk.dM
      simp[dX]at this;omega
    . simp[dX]at hk
    . exact List.nodup_nil
    . exact List.Pairwise.nil
    . simp[dX]at b;omega
  . refine⟨r,hr,iS.nil r,fun p p0 p1=>?_⟩
    rw[u6 (by rw[mF p p0 p1]),mF p p0 p1]
section
variable {X:Ext} (hX:fI X) {n:Nat}
include hX
theorem Si(D:Den ctx)(n:Nat)(K:aT->aT->Option ((aT×Bool×Unit)×Unit))(ws:List Int)(hl:ws.length<=1000)(z:aT)(d:List nw×Unit):∀(c i:Nat),i<=ws.length->ws.length-i<c->
  Tl D n K c (ws.length:Int) (i:Int) z ((ws.take i).map (fun v=>((v,0,0,()):lX)),d) ws=K z (ws.map (fun v=>((v,0,0,()):lX)),d)
 | 0,i,_,h2=>by omega
 | c+1,i,h0,h2=>by
  have hb:=i7;simp only[Tl,Yk];by_cases hi:i<ws.length
  .have ih:=Si D n K ws hl z d c (i+1) (by omega) (by omega);rw[qf (by omega),ix hi,aJ,eB,qv hi,qu (by omega)];rw[qf (by rw[jz,e9];omega)];rw[nG hi,pI]at ih;exact ih
  .rw[qg (by omega),show ws.take i=ws from kq (by omega)]
theorem QZ(hn:W+6<=n){r:qp}(hr:aS r):Tj (DD X n) r=some ((kF r,()),()):=by obtain⟨ws,h1,h2,h3⟩:=acK hX hn hr;rw[h3,Qk h1 (rU r) (fun p hp=>by rw[h2 p hp,qQ r hp];rfl)]
theorem acj(hn:W+8<=n){r:qp}(hr:aS r){L:List (List cH)}(hL:iF L):Zd (DD X n) r (L.length:Int)=some (((dX r L).1,true,()),()):=by
 obtain⟨n,rfl⟩:∃k,n=k+1:=⟨n-1,by omega⟩
 have hW:=ez;have hb:=i7;have vI:=hL.n;have I:=Mg hr hL;have j5:(dX r L).2.1.length=L.length:=by unfold dX;simp
 rw[ah_ hX];simp only[Zo,Zx,qyp];rw[lD hX (by omega),qc];dsimp only;rw[jP ⟨by omega,by omega⟩,cQ,aN,show(decide (0<=(L.length:Int))&&decide ((L.length:Int)<=(L.length:Int))&&decide ((L.length:Int)<=(f_:Int)))=true by simp;omega,aJ,QZ hX (by omega) hr,qc];dsimp only;refine dI (Si hX (DD X n) n _ (kF r) (by rw[rU];omega) ([],[],()) (List.replicate L.length dD,()) n 0 (fF _) (by rw[rU];omega)) ?_;simp only[q8y];have hm:=xD hX (n:=n) (by omega) I.mem (by show(0:Int)<=1000000;omega) (by rw[j5];omega) (by rw[j5];omega);refine dI (ew (fun z=>qd z _) hm) ?_;rw[qc];dsimp only;rw[cQ,aN];rfl
theorem Q5(N n:Nat)(hN:2<=N)(K:Bool->aH->aH->Option ((aH×Bool×Unit)×Unit))(L:List (List cH))(hl:L.length<=1000)(h1:∀ops∈L,ops.length<=1000)(b:Bool)(z:aH)(a:aT)(e:Int×List gH×List Int×qp×Unit):∀(c i:Nat),i<=L.length->L.length-i<c->
  SV (DD X N) n K c b L (L.length:Int) (i:Int) z (a,(L.take i).map (fun ops=>((ops,0,false,[],[],()):cK)),e)=K b z (a,L.map (fun ops=>((ops,0,false,[],[],()):cK)),e)
 | 0,i,_,h2=>by omega
 | c+1,i,h0,h2=>by
  have hb:=i7;simp only[SV,qsc];by_cases hi:i<L.length
  .have ih:=Q5 N n hN K L hl h1 b z a e c (i+1) (by omega) (by omega);have hd:=h1 _ (er hi);obtain⟨N,rfl⟩:∃k,N=k+1:=⟨N-1,by omega⟩
   rw[qf (by omega),ix hi,aJ,eB,qv hi,qu (by omega),afm hX];simp only[qvy,q89];rw[qts hX (by omega) _ (by omega),qc,qc];dsimp only;rw[qf (by rw[jz,e9];omega)];rw[nG hi,pI]at ih;exact ih
  .rw[qg (by omega),show L.take i=L from kq (by omega)]
theorem abo(hn:W+11<=n){r:qp}(hr:aS r){L:List (List cH)}(hL:iF L):qtv (DD X n) r L=some ((dX r L,true,()),()):=by
 obtain⟨n,rfl⟩:∃k,n=k+1:=⟨n-1,by omega⟩
 have hW:=ez;have vI:=hL.n;have I:=Mg hr hL;rw[aeU hX];simp only[qt4,qui,qqp];rw[acj hX (by omega) hr hL,qc,q66 hX (by omega) hr,qc];dsimp only;refine dI (Q5 hX n n (by omega) _ L (by omega) (fun ops h=>by have:=(hL.ops ops h).1;omega) true (([],[],()),[],0,[],[],([],0,()),()) (dX r L).1 (0,[],[],r,()) n 0 (fF _) (by omega)) ?_;simp only[qyl];have hm:=Tg hX (n:=n) (by omega) I (by show(0:Int)<=100000;omega);rw[cQ,aN];refine dI (ew (fun z=>qd z _) hm) ?_;rw[qc];dsimp only;rw[cQ,aN];rfl
end
end Go.G

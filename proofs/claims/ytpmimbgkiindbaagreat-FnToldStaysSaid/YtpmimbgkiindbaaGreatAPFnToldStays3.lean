import Derived.Test.YtpmimbgkiindbaaGreatAPFnToldStays2
set_option linter.unusedVariables false
set_option linter.unusedSimpArgs false
set_option linter.unusedSectionVars false
open Go.IntKind (wrap)
namespace Go.G
set_option maxRecDepth 100000
open Go Go.V Go.Proofs
theorem qbqu {r:qu} (hr:RightR r) (p:Int) (hp:0≤p∧p<20):0≤wOf r p∧wOf r p≤6:=by
 have hl:=hr.len
 have hst:=hr.st
 have hk:=fun v=>qo2 v r.1 0
 unfold wOf qdn
 by_cases h1:p.toNat<4
 ·rw[z6 h1]
  rw[qx (by omega)]
  exact hr.rng _ (z24 _)
 rw[z5 h1]
 by_cases h2:p.toNat<10
 ·rw[z6 h2]
  have:=hk ((p.toNat:Int) - 3)
  unfold ownW
  split<;>omega
 rw[z5 h2]
 by_cases h3:p.toNat<13
 ·rw[z6 h3]
  have key:∀ (c:Int) (l:List Int),0≤many c l∧many c l≤l.length:=by
   intro c l
   induction l with
   | nil=>simp[many]
   | cons a l ih=>
    simp only[many,z22]
    cases (inR a 1 6&&decide (qg a=c))<;>simp<;>omega
  have:=key ((p.toNat:Int) - 10) r.1
  omega
 rw[z5 h3]
 by_cases h4:p.toNat=13
 ·rw[z6 h4];omega
 rw[z5 h4]
 have:=hk ((p.toNat:Int) - 13)
 unfold viaW
 split<;>omega
theorem qb3k {r:qu} (hr:RightR r) {o:Op3} (ho:opOk o=true) {g0:Got} {q:Int} (hp:path (valw (g0++[(q,wOf r q,())])) (prog o)=qb0 (g0++[(q,wOf r q,())])) {x:Int×List Int} (hnow:qgj o (g0++[(q,wOf r q,())])=some x) :
  Out r o x.1 x.2∧qcz r o x.1=r∧x.2.length≤4:=by
 have hwq:valw (g0++[(q,wOf r q,())]) q=wOf r q:=by unfold valw;rw[qbkk,z6 rfl]
 have hlast:(path (valw (g0++[(q,wOf r q,())])) (prog o)).getLast? = some q:=by rw[hp];simp[qb0]
 have hn:nowP o.1 o.2.2.1 (valw (g0++[(q,wOf r q,())]) (qp o.2.1)) (valw (g0++[(q,wOf r q,())]) (qy o.2.2.1)) (valw (g0++[(q,wOf r q,())]) 13) (valw (g0++[(q,wOf r q,())]) (qby o.2.1))=some x:=hnow
 clear hp hnow
 generalize valw (g0++[(q,wOf r q,())])=w at *
 have hkd:=qt7 ho
 have hst:=hr.st
 have hl:=hr.len
 have hrow:=qmv o.2.1
 have hown:=qig o.2.2.1
 have hk:=qo2 o.2.2.1 r.1 0
 unfold nowP at hn
 by_cases k1:o.1=1
 ·have hpr:prog o=qie o:=by unfold prog;rw[z6 k1]
  have hK:qp o.2.1=o.2.1:=by omega
  rw[hpr] at hlast
  unfold qie at hlast
  simp only[path] at hlast
  by_cases a:w (qp o.2.1)≠0
  ·rw[z6 ⟨k1,a⟩] at hn
   obtain rfl:=Option.some.inj hn
   rw[show (w (qp o.2.1) != 0)=true by rw[bned,z10 a];rfl,z21] at hlast
   simp only[path,z38,z4] at hlast
   rw[hlast,hwq,←hlast,hK,(qj8 hr (by omega)).1] at a
   exact ⟨.put1 k1 a,by unfold qcz;rw[z6 (by decide)],by simp⟩
  ·rw[z5 (fun z=>a z.2)] at hn
   have a':w (qp o.2.1)=0:=by omega
   rw[show (w (qp o.2.1) != 0)=false by rw[bned,z11 a'];rfl,z20] at hlast
   simp only[path] at hlast
   by_cases b:w (qy o.2.2.1)≠0
   ·rw[z6 ⟨k1,b⟩] at hn
    obtain rfl:=Option.some.inj hn
    rw[show (w (qy o.2.2.1) != 0)=true by rw[bned,z10 b];rfl,z21] at hlast
    simp only[path,List.getLast?_cons_cons,z38,z4] at hlast
    rw[hlast,hwq,←hlast,qq8 hr (by omega)] at b
    exact ⟨.put2 k1 (by omega),by unfold qcz;rw[z6 (by decide)],by simp⟩
   ·rw[z5 (fun z=>b z.2),z5 (by omega),z5 (by omega),z5 (by omega),z5 (by omega),z5 (by omega),z5 (by omega),z5 (by omega),z5 (by omega),z5 (by omega),z5 (by omega)] at hn
    cases hn
 rw[z5 (fun z=>k1 z.1),z5 (fun z=>k1 z.1)] at hn
 by_cases k2:o.1=2
 ·have hpr:prog o=qik o:=by unfold prog;rw[z5 k1,z6 k2]
  have hK:qp o.2.1=o.2.1:=by omega
  rw[hpr] at hlast
  unfold qik at hlast
  simp only[path] at hlast
  have hone:(w (qp o.2.1)=0∨w (qp o.2.1)=o.2.2.1)→w (qp o.2.1)=r.1.getD o.2.1.toNat 0:=by
   intro h
   rw[show (bif decide (w (qp o.2.1)=0) then true else decide (w (qp o.2.1)=o.2.2.1))=true by
    rcases h with h | h
    ·rw[z11 h];rfl
    ·rw[z11 h];cases decide (w (qp o.2.1)=0)<;>rfl,z21] at hlast
   simp only[path,z38,z4] at hlast
   rw[hlast,hwq,←hlast,hK,(qj8 hr (by omega)).1]
  by_cases a:w (qp o.2.1)=0
  ·rw[z6 ⟨.inl k2,a⟩] at hn
   obtain rfl:=Option.some.inj hn
   exact ⟨.set3 k2 (by rw[←hone (.inl a)];exact a),by unfold qcz;rw[z6 (by decide)],by simp⟩
  rw[z5 (fun z=>a z.2)] at hn
  by_cases b:w (qp o.2.1)=o.2.2.1
  ·rw[z6 ⟨k2,b⟩] at hn
   obtain rfl:=Option.some.inj hn
   have e:=hone (.inr b)
   rw[e] at a b
   refine ⟨.setS k2 a b,?_,by simp⟩
   unfold qcz
   rw[z5 (by decide),z6 (.inr k2)]
   have hs:r.1.set o.2.1.toNat o.2.2.1=r.1:=by
    rw[←b,qx (by omega)]
    exact List.set_getElem_self _
   rw[hs]
  rw[z5 (fun z=>b z.2)] at hn
  by_cases d:w (qy o.2.2.1)≠0
  ·rw[z6 ⟨k2,d⟩] at hn
   obtain rfl:=Option.some.inj hn
   rw[z10 a,z10 b] at hlast
   simp only[z20,path] at hlast
   rw[show (w (qy o.2.2.1) != 0)=true by rw[bned,z10 d];rfl,z21] at hlast
   simp only[path,List.getLast?_cons_cons,z38,z4] at hlast
   rw[hlast,hwq,←hlast,qq8 hr (by omega)] at d
   exact ⟨.set2 k2 (by omega),by unfold qcz;rw[z6 (by decide)],by simp⟩
  ·rw[z5 (fun z=>d z.2),z5 (by omega),z5 (by omega),z5 (by omega),z5 (by omega),z5 (by omega),z5 (by omega),z5 (by omega)] at hn
   cases hn
 by_cases k3:o.1=3
 ·have hpr:prog o=qkc o:=by unfold prog;rw[z5 k1,z5 k2,z6 k3]
  have hK:qp o.2.1=o.2.1:=by omega
  rw[hpr] at hlast
  unfold qkc at hlast
  simp only[path] at hlast
  by_cases a:w (qp o.2.1)=0
  ·rw[z6 ⟨.inr (.inl k3),a⟩] at hn
   obtain rfl:=Option.some.inj hn
   rw[z11 a,z21] at hlast
   simp only[path,z38,z4] at hlast
   rw[hlast,hwq,←hlast,hK,(qj8 hr (by omega)).1] at a
   exact ⟨.del3 k3 a,by unfold qcz;rw[z6 (by decide)],by simp⟩
  ·rw[z5 (fun z=>a z.2),z5 (by omega),z5 (by omega),z5 (by omega),z5 (by omega),z5 (by omega),z5 (by omega),z5 (by omega),z5 (by omega),z5 (by omega)] at hn
   cases hn
 by_cases k4:o.1=4
 ·have hpr:prog o=.ask (qp o.2.1) fun _=>.done:=by unfold prog;rw[z5 k1,z5 k2,z5 k3,z6 k4]
  have hK:qp o.2.1=o.2.1:=by omega
  rw[hpr] at hlast
  simp only[path,z38,z4] at hlast
  have e:w (qp o.2.1)=r.1.getD o.2.1.toNat 0:=by rw[hlast,hwq,←hlast,hK,(qj8 hr (by omega)).1]
  rw[e] at hn
  by_cases a:r.1.getD o.2.1.toNat 0=0
  ·rw[z6 ⟨.inr (.inr k4),a⟩] at hn
   obtain rfl:=Option.some.inj hn
   exact ⟨.get3 k4 a,by unfold qcz;rw[z6 (by decide)],by simp⟩
  ·rw[z5 (fun z=>a z.2),z5 (by omega),z5 (by omega),z6 k4] at hn
   obtain rfl:=Option.some.inj hn
   exact ⟨.get0 k4 a,qt1 0 (by omega),by simp⟩
 rw[z5 (by omega),z5 (by omega),z5 (by omega),z5 (by omega)] at hn
 by_cases k5:o.1=5
 ·have hpr:prog o=.ask (qy o.2.2.1) fun _=>.done:=by unfold prog;rw[z5 k1,z5 k2,z5 k3,z5 k4,z6 k5]
  rw[hpr] at hlast
  simp only[path,z38,z4] at hlast
  have e:w (qy o.2.2.1)=keyF o.2.2.1 r.1 0+1:=by rw[hlast,hwq,←hlast,qq8 hr (by omega)]
  rw[e] at hn
  by_cases a:keyF o.2.2.1 r.1 0+1=0
  ·rw[z6 ⟨k5,a⟩] at hn
   obtain rfl:=Option.some.inj hn
   exact ⟨.find3 k5 (by omega),by unfold qcz;rw[z6 (by decide)],by simp⟩
  ·rw[z5 (fun z=>a z.2),z6 k5] at hn
   obtain rfl:=Option.some.inj hn
   rw[qn (by omega) (by omega),show keyF o.2.2.1 r.1 0+1 - 1=keyF o.2.2.1 r.1 0 by omega]
   exact ⟨.find0 k5 (by omega),qt1 0 (by omega),by simp⟩
 rw[z5 (fun z=>k5 z.1),z5 k5] at hn
 by_cases k6:o.1=6
 ·have hpr:prog o=.ask (qby o.2.1) fun _=>.done:=by unfold prog;rw[z5 k1,z5 k2,z5 k3,z5 k4,z5 k5,z6 k6]
  rw[hpr] at hlast
  simp only[path,z38,z4] at hlast
  have e:w (qby o.2.1)=many o.2.1 r.1:=by rw[hlast,hwq,←hlast,qbol (by omega)]
  rw[z6 k6,e] at hn
  obtain rfl:=Option.some.inj hn
  exact ⟨.cnt0 k6,qt1 0 (by omega),by simp⟩
 rw[z5 k6] at hn
 by_cases k8:o.1=8
 ·have hpr:prog o=.ask 13 fun _=>.done:=by unfold prog;rw[z5 k1,z5 k2,z5 k3,z5 k4,z5 k5,z5 k6,z5 (by omega),z6 k8]
  rw[hpr] at hlast
  simp only[path,z38,z4] at hlast
  have e:w 13=r.2.1:=by rw[hlast,hwq,←hlast,qni]
  rw[e] at hn
  by_cases a:r.2.1≠0
  ·rw[z6 ⟨k8,a⟩] at hn
   obtain rfl:=Option.some.inj hn
   exact ⟨.open4 k8 a,by unfold qcz;rw[z6 (by decide)],by simp⟩
  ·rw[z5 (fun z=>a z.2),z5 (by omega),z5 (by omega)] at hn
   cases hn
 rw[z5 (fun z=>k8 z.1)] at hn
 by_cases k9:o.1=9
 ·have hpr:prog o=qkh:=by unfold prog;rw[z5 k1,z5 k2,z5 k3,z5 k4,z5 k5,z5 k6,z5 (by omega),z5 k8,z6 k9]
  rw[hpr] at hlast
  unfold qkh at hlast
  simp only[path] at hlast
  by_cases a:w 13<1∨w 13>4
  ·rw[z6 ⟨k9,a⟩] at hn
   obtain rfl:=Option.some.inj hn
   rw[show (bif decide (w 13<1) then true else decide (w 13>4))=true by
    rcases a with h | h
    ·rw[z11 h];rfl
    ·rw[z11 h];cases decide (w 13<1)<;>rfl,z21] at hlast
   simp only[path,z38,z4] at hlast
   rw[hlast,hwq,←hlast,qni] at a
   exact ⟨.make4 k9 (by omega),by unfold qcz;rw[z6 (by decide)],by simp⟩
  ·rw[z5 (fun z=>a z.2),z5 (by omega)] at hn
   cases hn
 rw[z5 (fun z=>k9 z.1)] at hn
 by_cases k10:o.1=10
 ·have hpr:prog o=qk2 o:=by unfold prog;rw[z5 k1,z5 k2,z5 k3,z5 k4,z5 k5,z5 k6,z5 (by omega),z5 k8,z5 k9,z6 k10]
  rw[hpr] at hlast
  unfold qk2 at hlast
  simp only[path] at hlast
  by_cases a:w 13≠5
  ·rw[z6 ⟨k10,a⟩] at hn
   obtain rfl:=Option.some.inj hn
   rw[show (w 13 != 5)=true by rw[bned,z10 a];rfl,z21] at hlast
   simp only[path,z38,z4] at hlast
   rw[hlast,hwq,←hlast,qni] at a
   exact ⟨.via4 k10 a,by unfold qcz;rw[z6 (by decide)],by simp⟩
  ·rw[z5 (fun z=>a z.2)] at hn
   cases hn
 ·rw[z5 (fun z=>k10 z.1)] at hn
  cases hn
theorem qb1g {r:qu} (hr:RightR r) {o:Op3} (ho:opOk o=true) (hnow:qgj o (qbn r o)=none) :
  Out r o (resP o (qbn r o)).1 (resP o (qbn r o)).2.1:=by
 have hcond:opOk o=true∧(run (qbn r o) (prog o)).2<0:=⟨ho,by rw[qbds hr ho];show (-1:Int)<0;omega⟩
 have h:=qbwa hr ho
 unfold qch at h
 rw[z6 hcond,hnow] at h
 exact h
theorem qbvn (o:Op3) (got:Got):(resP o got).2.1.length≤4:=by
 unfold resP
 split
 ·simp
 ·split
  ·split<;>simp
  ·simp
end Go.G

namespace Go.G
set_option maxRecDepth 100000
open Go Go.V Go.Proofs
abbrev qf8:=Int×Int×Int×Unit
abbrev ResT:=Int×List Int×Unit
abbrev qhv:=Int×Int×List qbe×ResT×Unit
abbrev qep:=Int×Int×Int×Int×Unit
abbrev MemT:=List qf8×List qhv×Unit
abbrev ThT:=List Op3×Int×Bool×Got×List qep×Unit
abbrev qci:=Int×Op3×Int×Int×Int×ResT×Unit
abbrev Mach:=MemT×List ThT×Int×List qci×List Int×qu×Unit
def dE:qbe:=(0,0,0,())
def dD:qhv:=(0,0,[],(0,[],()),())
def dW:qf8:=(0,0,0,())
def dO:Op3:=(0,0,0,())
def dT:ThT:=([],0,false,[],[],())
def dC:qci:=(0,dO,0,0,0,(0,[],()),())
def dH:qep:=(0,0,0,0,())
def wd (m:MemT) (p:Int):qf8:=m.1.getD p.toNat dW
def dsc (m:MemT) (t:Int):qhv:=m.2.1.getD t.toNat dD
def setW (m:MemT) (p:Int) (w:qf8):MemT:=(m.1.set p.toNat w,m.2)
def setD (m:MemT) (t:Int) (d:qhv):MemT:=(m.1,m.2.1.set t.toNat d,())
def qo (l:List qbe) (i:Int):qbe:=l.getD i.toNat dE
def qdb (l:List qbe) (p:Int):qbe:=(l.find? fun e=>decide (e.1=p)).getD dE
def mkW (t s:Int):qf8:=(0,t+1,s,())
def qhd (m:MemT) (p:Int):Int:=
 if (wd m p).2.1=0 then (wd m p).1 else
 if (dsc m ((wd m p).2.1 - 1)).1=(wd m p).2.2.1∧(dsc m ((wd m p).2.1 - 1)).2.1=2 then (qdb (dsc m ((wd m p).2.1 - 1)).2.2.1 p).2.2.1 else (qdb (dsc m ((wd m p).2.1 - 1)).2.2.1 p).2.1
def q8 (m:MemT) (h:qep):MemT×qep×qep×Int×Unit:=
 if (dsc m h.1).1≠h.2.1 then (m,h,dH,2,()) else
 if (dsc m h.1).2.1=1 then
  if ((dsc m h.1).2.2.1.length:Int)≤h.2.2.1 then (setD m h.1 ((dsc m h.1).1,2,(dsc m h.1).2.2),h,dH,3,()) else
  if wd m (qo (dsc m h.1).2.2.1 h.2.2.1).1=mkW h.1 h.2.1 then (m,(h.1,h.2.1,h.2.2.1+1,h.2.2.2),dH,0,()) else
  if (wd m (qo (dsc m h.1).2.2.1 h.2.2.1).1).2.1≠0 then (m,h,((wd m (qo (dsc m h.1).2.2.1 h.2.2.1).1).2.1 - 1,(wd m (qo (dsc m h.1).2.2.1 h.2.2.1).1).2.2.1,0,0,()),1,()) else
  if (wd m (qo (dsc m h.1).2.2.1 h.2.2.1).1).1=(qo (dsc m h.1).2.2.1 h.2.2.1).2.1 then (setW m (qo (dsc m h.1).2.2.1 h.2.2.1).1 (mkW h.1 h.2.1),(h.1,h.2.1,h.2.2.1+1,h.2.2.2),dH,0,())
  else (setD m h.1 ((dsc m h.1).1,3,(dsc m h.1).2.2),h,dH,0,())
 else if ((dsc m h.1).2.2.1.length:Int)≤h.2.2.2.1 then (m,h,dH,2,())
 else (if wd m (qo (dsc m h.1).2.2.1 h.2.2.2.1).1=mkW h.1 h.2.1 then
   setW m (qo (dsc m h.1).2.2.1 h.2.2.2.1).1 (if (dsc m h.1).2.1=2 then (qo (dsc m h.1).2.2.1 h.2.2.2.1).2.2.1 else (qo (dsc m h.1).2.2.1 h.2.2.2.1).2.1,0,0,()) else m,(h.1,h.2.1,h.2.2.1,h.2.2.2.1+1,()),dH,0,())
def thr (m:Mach) (t:Int):ThT:=m.2.1.getD t.toNat dT
def setT (m:Mach) (t:Int) (x:ThT):Mach:=(m.1,m.2.1.set t.toNat x,m.2.2)
def cal (m:Mach) (k:Int):qci:=m.2.2.2.1.getD k.toNat dC
def opT (x:ThT):Op3:=x.1.getD x.2.1.toNat dO
def qfj (l:List qci) (t:Int):Nat→Int
 | 0=>-1
 | i+1=>if (l.getD i dC).1=t∧(l.getD i dC).2.2.2.2.1<0 then (i:Int) else qfj l t i
def qbs (l:List qci) (t:Int):Int:=qfj l t l.length
def soP (m:Mach) (t:Int) (s:ResT):Mach:=
 if qbs m.2.2.2.1 t<0 then m else
 (m.1,m.2.1,m.2.2.1,m.2.2.2.1.set (qbs m.2.2.2.1 t).toNat ((cal m (qbs m.2.2.2.1 t)).1,(cal m (qbs m.2.2.2.1 t)).2.1,(cal m (qbs m.2.2.2.1 t)).2.2.1,m.2.2.1,(cal m (qbs m.2.2.2.1 t)).2.2.2.2.1,s,()),m.2.2.2.2.1++[qbs m.2.2.2.1 t],m.2.2.2.2.2)
def endC (m:Mach) (t:Int) (s:ResT):Mach:=
 if qbs m.2.2.2.1 t<0 then m else
 (m.1,m.2.1,m.2.2.1,m.2.2.2.1.set (qbs m.2.2.2.1 t).toNat ((cal m (qbs m.2.2.2.1 t)).1,(cal m (qbs m.2.2.2.1 t)).2.1,(cal m (qbs m.2.2.2.1 t)).2.2.1,(cal m (qbs m.2.2.2.1 t)).2.2.2.1,m.2.2.1,s,()),m.2.2.2.2)
def endP (m:Mach) (t:Int) (s:ResT):Mach:=setT (endC m t s) t ((thr m t).1,(thr m t).2.1+1,false,[],[],())
def topH (x:ThT):qep:=x.2.2.2.2.1.getD (x.2.2.2.2.1.length - 1) dH
def qblm (x:ThT) (h:qep):ThT:=(x.1,x.2.1,x.2.2.1,x.2.2.2.1,x.2.2.2.2.1++[h],())
def qbfe (x:ThT) (h:qep):ThT:=(x.1,x.2.1,x.2.2.1,x.2.2.2.1,x.2.2.2.2.1.set (x.2.2.2.2.1.length - 1) h,())
def popS (x:ThT):ThT:=(x.1,x.2.1,x.2.2.1,x.2.2.2.1,x.2.2.2.2.1.take (x.2.2.2.2.1.length - 1),())
def putM (m:Mach) (a:MemT):Mach:=(a,m.2)
def qlr (m:Mach) (t:Int):Mach:=
  if (q8 m.1 (topH (thr m t))).2.2.2.1=1 then
    (if (topH (thr m t)).1=t∧(thr m t).2.2.2.2.1.length=1 then setT (putM m (q8 m.1 (topH (thr m t))).1) t (qblm (thr m t) (q8 m.1 (topH (thr m t))).2.2.1)
     else setT (putM m (q8 m.1 (topH (thr m t))).1) t (qbfe (thr m t) (q8 m.1 (topH (thr m t))).2.2.1)) else
  if (q8 m.1 (topH (thr m t))).2.2.2.1=2 then
    (if (topH (thr m t)).1≠t then setT (putM m (q8 m.1 (topH (thr m t))).1) t (popS (thr m t)) else
     if (dsc m.1 t).2.1=2 then endP (putM m (q8 m.1 (topH (thr m t))).1) t (dsc m.1 t).2.2.2.1
     else setT (putM m (q8 m.1 (topH (thr m t))).1) t ((thr m t).1,(thr m t).2.1,(thr m t).2.2.1,[],[],())) else
  if (q8 m.1 (topH (thr m t))).2.2.2.1=3 then
    setT (soP (putM m (q8 m.1 (topH (thr m t))).1) (topH (thr m t)).1 (dsc m.1 (topH (thr m t)).1).2.2.2.1) t (qbfe (thr m t) (q8 m.1 (topH (thr m t))).2.1)
  else setT (putM m (q8 m.1 (topH (thr m t))).1) t (qbfe (thr m t) (q8 m.1 (topH (thr m t))).2.1)
def q55 (x:ThT):Int:=(run x.2.2.2.1 (prog (opT x))).2
def gotX (m:Mach) (x:ThT):Got:=x.2.2.2.1++[(q55 x,(wd m.1 (q55 x)).1,())]
def qk1 (x:ThT) (g:Got):ThT:=(x.1,x.2.1,x.2.2.1,g,x.2.2.2.2)
def q4k (m:Mach) (t:Int):Mach:=
 if (wd m.1 (q55 (thr m t))).2.1≠0 then setT m t (qblm (thr m t) ((wd m.1 (q55 (thr m t))).2.1 - 1,(wd m.1 (q55 (thr m t))).2.2.1,0,0,())) else
 if (qch (opT (thr m t)) (gotX m (thr m t))).2.1=false then setT m t (qk1 (thr m t) (gotX m (thr m t))) else
 if (qch (opT (thr m t)) (gotX m (thr m t))).1.1=true then endP (soP m t (qch (opT (thr m t)) (gotX m (thr m t))).1.2.1) t (qch (opT (thr m t)) (gotX m (thr m t))).1.2.1 else
 setT (putM m (setD m.1 t ((dsc m.1 t).1+1,1,(qch (opT (thr m t)) (gotX m (thr m t))).1.2.2.1,(qch (opT (thr m t)) (gotX m (thr m t))).1.2.1,()))) t
  (qblm (qk1 (thr m t) (gotX m (thr m t))) (t,(dsc m.1 t).1+1,0,0,()))
def tick (m:Mach):Mach:=(m.1,m.2.1,m.2.2.1+1,m.2.2.2)
def begP (m:Mach) (t:Int):Mach:=
 setT (m.1,m.2.1,m.2.2.1,m.2.2.2.1++[(t,opT (thr m t),m.2.2.1,-1,-1,(0,[],()),())],m.2.2.2.2) t ((thr m t).1,(thr m t).2.1,true,(thr m t).2.2.2)
def qvy (m:Mach) (t:Int):Mach:=
 if (thr m t).2.2.1=false then begP (tick m) t else
 if (thr m t).2.2.2.2.1≠[] then qlr (tick m) t else q4k (tick m) t
end Go.G

namespace Go.G
set_option maxRecDepth 100000
open Go Go.V Go.Proofs
theorem q1w {α:Type} (l:List α) (i j:Nat) (x d:α):(l.set i x).getD j d=if i=j∧j<l.length then x else l.getD j d:=by
 simp only[List.getD_eq_getElem?_getD,List.getElem?_set]
 by_cases h:i=j
 ·subst h
  by_cases h2:i<l.length
  ·simp[h2]
  ·simp[h2]
 ·simp[h]
theorem qbfj {m:MemT} {p q:Int} {w:qf8} (hp:0≤p∧p<m.1.length) (hq:0≤q):wd (setW m p w) q=if q=p then w else wd m q:=by
 unfold wd setW
 dsimp only
 rw[q1w]
 by_cases h:q=p
 ·subst h;rw[z6 ⟨rfl,by omega⟩,z6 rfl]
 ·rw[z5 (by omega),z5 h]
theorem qrq {m:MemT} {u t:Int} {d:qhv} (hu:0≤u∧u<m.2.1.length) (ht:0≤t):dsc (setD m u d) t=if t=u then d else dsc m t:=by
 unfold dsc setD
 dsimp only
 rw[q1w]
 by_cases h:t=u
 ·subst h;rw[z6 ⟨rfl,by omega⟩,z6 rfl]
 ·rw[z5 (by omega),z5 h]
theorem qhg {m:Mach} {u t:Int} {x:ThT} (hu:0≤u∧u<m.2.1.length) (ht:0≤t):thr (setT m u x) t=if t=u then x else thr m t:=by
 unfold thr setT
 dsimp only
 rw[q1w]
 by_cases h:t=u
 ·subst h;rw[z6 ⟨rfl,by omega⟩,z6 rfl]
 ·rw[z5 (by omega),z5 h]
theorem qgn (m:Mach) (u:Int) (x:ThT):(setT m u x).2.1.length=m.2.1.length:=by unfold setT;simp
theorem q5h {m m':Mach} (h:m'.2.1=m.2.1) (t:Int):thr m' t=thr m t:=by unfold thr;rw[h]
theorem qbrx (m:MemT) (p:Int) (w:qf8):(setW m p w).1.length=m.1.length:=by unfold setW;simp
theorem qbhn (m:MemT) (p:Int) (w:qhv):(setD m p w).2.1.length=m.2.1.length:=by unfold setD;simp
theorem qba2 {l:List qbe} (h:Asc l) {i:Int} (h0:0≤i) (h1:i<l.length):qdb l (qo l i).1=qo l i:=by
 have key:∀ (l:List qbe),Asc l→∀ k:Nat,(hk:k<l.length)→l.find? (fun e=>decide (e.1=l[k].1))=some l[k]:=by
  intro l
  induction l with
  | nil=>intro _ k hk;simp at hk
  | cons a l ih=>
   intro hs k hk
   rw[Asc,List.pairwise_cons] at hs
   cases k with
   | zero=>simp
   | succ k=>
    have hk2:k<l.length:=by simpa using hk
    simp only[List.getElem_cons_succ]
    have:=hs.1 (l[k]'hk2) (z24 _)
    rw[List.find?_cons,show decide (a.1=(l[k]'hk2).1)=false from z10 (by omega)]
    exact ih hs.2 k hk2
 have hk:i.toNat<l.length:=by omega
 unfold qdb qo
 rw[qx hk,key l h _ hk];rfl
theorem q7i {l:List qbe} {i:Int} (h0:0≤i) (h1:i<l.length):qo l i∈l:=by
 have hk:i.toNat<l.length:=by omega
 unfold qo
 rw[qx hk]
 exact z24 _
theorem qbrf {l:List qbe} {e:qbe} (h:e∈l):∃ i:Int,0≤i∧i<l.length∧qo l i=e:=by
 obtain ⟨k,hk,rfl⟩:=z52.1 h
 refine ⟨(k:Int),by omega,by omega,?_⟩
 unfold qo
 rw[z12,qx hk]
theorem qbua {l:List qbe} (h:Asc l) {i j:Int} (h0:0≤i) (h1:i<j) (h2:j<l.length):(qo l i).1<(qo l j).1:=by
 have hi:i.toNat<l.length:=by omega
 have hj:j.toNat<l.length:=by omega
 unfold qo
 rw[qx hi,qx hj]
 exact List.pairwise_iff_getElem.1 h _ _ hi hj (by omega)
theorem qbzn {l:List qbe} (h:Asc l) {i j:Int} (h0:0≤i) (h1:i<l.length) (g0:0≤j) (g1:j<l.length) (e:(qo l i).1=(qo l j).1):i=j:=by
 rcases Int.lt_trichotomy i j with k | k | k
 ·have:=qbua h h0 k g1;omega
 ·exact k
 ·have:=qbua h g0 k h1;omega
end Go.G

namespace Go.G
set_option maxRecDepth 100000
open Go Go.V Go.Proofs
def ownB (x:ThT) (t:Int):Bool:=match x.2.2.2.2.1 with
 | []=>false
 | h::_=>decide (h.1=t)
structure DOk (d:qhv) (time:Int):Prop where
 asc:Asc d.2.2.1
 len:d.2.2.1.length≤8
 rng:∀ e∈d.2.2.1,(0≤e.1∧e.1<20)∧(0≤e.2.1∧e.2.1≤1000)∧(0≤e.2.2.1∧e.2.2.1≤1000)
 seq:0≤d.1∧d.1≤time
 st:(d.1=0→d=dD)∧(1≤d.1→1≤d.2.1∧d.2.1≤3)
 rl:d.2.2.2.1.2.1.length≤4
def Num (w:qf8):Prop:=w.2.1=0∧w.2.2.1=0∧0≤w.1∧w.1≤1000
def qbj7 (m:MemT) (n:Nat) (own:Int→Prop) (p:Int):Prop:=
 ∃ u:Int,0≤u∧u<n∧own u∧wd m p=mkW u (dsc m u).1∧∃ i:Int,0≤i∧i<(dsc m u).2.2.1.length∧(qo (dsc m u).2.2.1 i).1=p
structure MemI (m:MemT) (n:Nat) (time:Int) (own:Int→Prop):Prop where
 len:m.1.length=20
 dlen:m.2.1.length=n
 dok:∀ t:Int,0≤t→t<n→DOk (dsc m t) time
 word:∀ p:Int,0≤p→p<20→Num (wd m p)∨qbj7 m n own p
 opn:∀ t:Int,0≤t→t<n→(dsc m t).2.1=1→own t
 owns:∀ t:Int,0≤t→t<n→own t→1≤(dsc m t).1
 pre:∀ t:Int,0≤t→t<n→(dsc m t).2.1=1→∀ i j:Int,0≤i→i<j→j<(dsc m t).2.2.1.length→wd m (qo (dsc m t).2.2.1 j).1=mkW t (dsc m t).1→wd m (qo (dsc m t).2.2.1 i).1=mkW t (dsc m t).1
structure HelpI (m:MemT) (n:Nat) (h:qep):Prop where
 t:0≤h.1∧h.1<n
 seq:1≤h.2.1∧h.2.1≤(dsc m h.1).1
 at0:0≤h.2.2.1∧h.2.2.1≤8
 fin:0≤h.2.2.2.1∧h.2.2.2.1≤8
 cur:h.2.1=(dsc m h.1).1→h.2.2.1≤(dsc m h.1).2.2.1.length∧h.2.2.2.1≤(dsc m h.1).2.2.1.length∧
  ((dsc m h.1).2.1=1→h.2.2.2.1=0∧∀ i:Int,0≤i→i<h.2.2.1→wd m (qo (dsc m h.1).2.2.1 i).1=mkW h.1 h.2.1)∧
  ((dsc m h.1).2.1≠1→∀ i:Int,0≤i→i<h.2.2.2.1→wd m (qo (dsc m h.1).2.2.1 i).1≠mkW h.1 h.2.1)
theorem qbc1 {a b s r:Int} (h:mkW a s=mkW b r):a=b∧s=r:=by
 simp only[mkW,z7] at h
 omega
theorem qban {w:qf8} (h:w.2.1=0) {a s:Int} (ha:0≤a):w≠mkW a s:=fun e=>by rw[e] at h;simp only[mkW] at h;omega
theorem MemI.ent {m:MemT} {n:Nat} {time:Int} {own:Int→Prop} (I:MemI m n time own) {t i:Int} (h0:0≤t) (h1:t<n) (i0:0≤i) (i1:i<(dsc m t).2.2.1.length) :
  (0≤(qo (dsc m t).2.2.1 i).1∧(qo (dsc m t).2.2.1 i).1<20)∧(0≤(qo (dsc m t).2.2.1 i).2.1∧(qo (dsc m t).2.2.1 i).2.1≤1000)∧(0≤(qo (dsc m t).2.2.1 i).2.2.1∧(qo (dsc m t).2.2.1 i).2.2.1≤1000):=
 (I.dok t h0 h1).rng _ (q7i i0 i1)
theorem MemI.st_seq {m:MemT} {n:Nat} {time:Int} {own:Int→Prop} (I:MemI m n time own) {t:Int} (h0:0≤t) (h1:t<n) (hs:(dsc m t).2.1≠0):1≤(dsc m t).1:=by
 have:=(I.dok t h0 h1).seq
 by_cases h:(dsc m t).1=0
 ·exact absurd (by rw[((I.dok t h0 h1).st.1 h)];rfl) hs
 ·omega
theorem qvf {m:MemT} {p:Int} (h:(wd m p).2.1=0):qhd m p=(wd m p).1:=by unfold qhd;rw[z6 h]
theorem qul {m:MemT} {u p:Int} (hu:0≤u) (h:wd m p=mkW u (dsc m u).1):qhd m p=if (dsc m u).2.1=2 then (qdb (dsc m u).2.2.1 p).2.2.1 else (qdb (dsc m u).2.2.1 p).2.1:=by
 have e1:(wd m p).2.1=u+1:=by rw[h];rfl
 have e2:(wd m p).2.2.1=(dsc m u).1:=by rw[h];rfl
 have e3:(wd m p).2.1 - 1=u:=by omega
 unfold qhd
 rw[z5 (by omega),e3,e2]
 by_cases h2:(dsc m u).2.1=2
 ·rw[z6 ⟨rfl,h2⟩,z6 h2]
 ·rw[z5 (fun q=>h2 q.2),z5 h2]
theorem MemI.own_mono {m:MemT} {n:Nat} {time:Int} {own own':Int→Prop} (I:MemI m n time own) (h:∀ t:Int,0≤t→t<n→(own t↔own' t)):MemI m n time own' where
 len:=I.len
 dlen:=I.dlen
 dok:=I.dok
 word:=fun p h0 h1=>(I.word p h0 h1).imp id fun ⟨u,a,b,c,d⟩=>⟨u,a,b,(h u a b).1 c,d⟩
 opn:=fun t a b c=>(h t a b).1 (I.opn t a b c)
 owns:=fun t a b c=>I.owns t a b ((h t a b).2 c)
 pre:=I.pre
theorem DOk.mono {d:qhv} {a b:Int} (h:DOk d a) (hab:a≤b):DOk d b:=⟨h.asc,h.len,h.rng,⟨h.seq.1,by have:=h.seq.2;omega⟩,h.st,h.rl⟩
theorem MemI.later {m:MemT} {n:Nat} {time time':Int} {own:Int→Prop} (I:MemI m n time own) (h:time≤time'):MemI m n time' own:=⟨I.len,I.dlen,fun t a b=>(I.dok t a b).mono h,I.word,I.opn,I.owns,I.pre⟩
theorem qbx0 {m:MemT} {n:Nat} {time:Int} {own:Int→Prop} (I:MemI m n time own) {t:Int} (h0:0≤t) (hn:¬ own t) {p:Int} (p0:0≤p) (p1:p<20) (s:Int):wd m p≠mkW t s:=by
 intro e
 rcases I.word p p0 p1 with h | ⟨u,a,b,c,d,_⟩
 ·exact qban h.1 h0 e
 ·rw[e] at d
  obtain ⟨rfl,_⟩:=qbc1 d
  exact hn c
section
variable {m:MemT} {n:Nat} {time:Int} {own:Int→Prop} (I:MemI m n time own) {u:Int} (u0:0≤u) (u1:u<n)
include I u0 u1
theorem q4w {i:Int} (hs:(dsc m u).2.1=1) (i0:0≤i) (i1:i<(dsc m u).2.2.1.length) (hw:(wd m (qo (dsc m u).2.2.1 i).1).2.1=0) (hold:(wd m (qo (dsc m u).2.2.1 i).1).1=(qo (dsc m u).2.2.1 i).2.1)
  (hb:∀ j:Int,0≤j→j<i→wd m (qo (dsc m u).2.2.1 j).1=mkW u (dsc m u).1) :
  MemI (setW m (qo (dsc m u).2.2.1 i).1 (mkW u (dsc m u).1)) n time own∧(∀ p:Int,0≤p→p<20→qhd (setW m (qo (dsc m u).2.2.1 i).1 (mkW u (dsc m u).1)) p=qhd m p)∧
  (∀ h,HelpI m n h→HelpI (setW m (qo (dsc m u).2.2.1 i).1 (mkW u (dsc m u).1)) n h):=by
 have he:=I.ent u0 u1 i0 i1
 have hasc:=(I.dok u u0 u1).asc
 have hlen:=I.len
 have hentof:=qba2 hasc i0 i1
 generalize hp:(qo (dsc m u).2.2.1 i).1=P at *
 have hwd:∀ q,0≤q→wd (setW m P (mkW u (dsc m u).1)) q=if q=P then mkW u (dsc m u).1 else wd m q:=fun q hq=>qbfj (by omega) hq
 have hd:∀ t,dsc (setW m P (mkW u (dsc m u).1)) t=dsc m t:=fun t=>rfl
 have hkeep:∀ q t s,0≤t→0≤q→wd m q=mkW t s→wd (setW m P (mkW u (dsc m u).1)) q=mkW t s:=by
  intro q t s t0 q0 e
  rw[hwd q q0]
  by_cases h:q=P
  ·subst h;exact absurd e (qban hw t0)
  ·rw[z5 h];exact e
 have hnm:∀ q t,0≤q→t≠u→wd (setW m P (mkW u (dsc m u).1)) q=mkW t (dsc m t).1→wd m q=mkW t (dsc m t).1:=by
  intro q t q0 tu e
  rw[hwd q q0] at e
  by_cases h:q=P
  ·rw[z6 h] at e;exact absurd (qbc1 e).1.symm tu
  ·rw[z5 h] at e;exact e
 refine ⟨⟨by rw[qbrx];exact I.len,I.dlen,I.dok,?_,I.opn,I.owns,?_⟩,?_,?_⟩
 ·intro p p0 p1
  unfold qbj7
  rw[hwd p p0]
  by_cases h:p=P
  ·subst h
   rw[z6 rfl]
   exact .inr ⟨u,u0,u1,I.opn u u0 u1 hs,rfl,i,i0,i1,hp⟩
  ·rw[z5 h];exact I.word p p0 p1
 ·intro t t0 t1 ts a b a0 ab b1 e
  rw[hd] at *
  have hea:=I.ent t0 t1 a0 (by omega:a<_)
  have heb:=I.ent t0 t1 (by omega:0≤b) b1
  by_cases htu:t=u
  ·subst htu
   rw[hwd _ heb.1.1] at e
   by_cases h:(qo (dsc m t).2.2.1 b).1=P
   ·have hbi:b=i:=qbzn hasc (by omega) b1 i0 i1 (by rw[h,hp])
    exact hkeep _ _ _ t0 hea.1.1 (hb a a0 (by omega))
   ·rw[z5 h] at e
    exact hkeep _ _ _ t0 hea.1.1 (I.pre t t0 t1 ts a b a0 ab b1 e)
  ·exact hkeep _ _ _ t0 hea.1.1 (I.pre t t0 t1 ts a b a0 ab b1 (hnm _ t heb.1.1 htu e))
 ·intro p p0 p1
  by_cases h:p=P
  ·subst h
   rw[qvf hw,qul u0 (by rw[hwd p p0,z6 rfl,hd]),hd,z5 (by omega),hentof,hold]
  ·unfold qhd
   rw[hwd p p0,z5 h];rfl
 ·intro h H
  refine ⟨H.t,H.seq,H.at0,H.fin,fun e=>?_⟩
  obtain ⟨a,b,c,d⟩:=H.cur e
  refine ⟨a,b,fun hs'=>⟨(c hs').1,fun j j0 j1=>?_⟩,fun hs' j j0 j1=>?_⟩
  ·exact hkeep _ _ _ H.t.1 (I.ent H.t.1 H.t.2 j0 (by omega)).1.1 ((c hs').2 j j0 j1)
  ·intro q
   have hne:h.1≠u:=fun e2=>hs' (by rw[hd,e2];exact hs)
   have hj:=I.ent H.t.1 H.t.2 j0 (show j<_ by omega)
   have e':h.2.1=(dsc m h.1).1:=e
   rw[hd,e'] at q
   exact d hs' j j0 j1 (by rw[e'];exact hnm _ _ hj.1.1 hne q)
theorem qb3i {i:Int} (hs:(dsc m u).2.1≠1) (i0:0≤i) (i1:i<(dsc m u).2.2.1.length) (hw:wd m (qo (dsc m u).2.2.1 i).1=mkW u (dsc m u).1) :
  MemI (setW m (qo (dsc m u).2.2.1 i).1 (if (dsc m u).2.1=2 then (qo (dsc m u).2.2.1 i).2.2.1 else (qo (dsc m u).2.2.1 i).2.1,0,0,())) n time own∧
  (∀ p:Int,0≤p→p<20→qhd (setW m (qo (dsc m u).2.2.1 i).1 (if (dsc m u).2.1=2 then (qo (dsc m u).2.2.1 i).2.2.1 else (qo (dsc m u).2.2.1 i).2.1,0,0,())) p=qhd m p)∧
  (∀ h,HelpI m n h→HelpI (setW m (qo (dsc m u).2.2.1 i).1 (if (dsc m u).2.1=2 then (qo (dsc m u).2.2.1 i).2.2.1 else (qo (dsc m u).2.2.1 i).2.1,0,0,())) n h):=by
 have he:=I.ent u0 u1 i0 i1
 have hasc:=(I.dok u u0 u1).asc
 have hlen:=I.len
 have hentof:=qba2 hasc i0 i1
 have hv:0≤(if (dsc m u).2.1=2 then (qo (dsc m u).2.2.1 i).2.2.1 else (qo (dsc m u).2.2.1 i).2.1)∧(if (dsc m u).2.1=2 then (qo (dsc m u).2.2.1 i).2.2.1 else (qo (dsc m u).2.2.1 i).2.1)≤1000:=by
  split<;>omega
 have hval:qhd m (qo (dsc m u).2.2.1 i).1=(if (dsc m u).2.1=2 then (qo (dsc m u).2.2.1 i).2.2.1 else (qo (dsc m u).2.2.1 i).2.1):=by
  rw[qul u0 hw,hentof]
 generalize (if (dsc m u).2.1=2 then (qo (dsc m u).2.2.1 i).2.2.1 else (qo (dsc m u).2.2.1 i).2.1)=v at *
 generalize hp:(qo (dsc m u).2.2.1 i).1=P at *
 have hwd:∀ q,0≤q→wd (setW m P (v,0,0,())) q=if q=P then (v,0,0,()) else wd m q:=fun q hq=>qbfj (by omega) hq
 have hd:∀ t,dsc (setW m P (v,0,0,())) t=dsc m t:=fun t=>rfl
 have hkeep:∀ q t,t≠u→0≤q→wd m q=mkW t (dsc m t).1→wd (setW m P (v,0,0,())) q=mkW t (dsc m t).1:=by
  intro q t tu q0 e
  rw[hwd q q0]
  by_cases h:q=P
  ·subst h;rw[hw] at e;exact absurd (qbc1 e).1.symm tu
  ·rw[z5 h];exact e
 have hback:∀ q t s,0≤t→0≤q→wd (setW m P (v,0,0,())) q=mkW t s→wd m q=mkW t s:=by
  intro q t s t0 q0 e
  rw[hwd q q0] at e
  by_cases h:q=P
  ·rw[z6 h] at e;exact absurd e (qban rfl t0)
  ·rw[z5 h] at e;exact e
 refine ⟨⟨by rw[qbrx];exact I.len,I.dlen,I.dok,?_,I.opn,I.owns,?_⟩,?_,?_⟩
 ·intro p p0 p1
  unfold qbj7
  rw[hwd p p0]
  by_cases h:p=P
  ·rw[z6 h];exact .inl ⟨rfl,rfl,hv.1,hv.2⟩
  ·rw[z5 h];exact I.word p p0 p1
 ·intro t t0 t1 ts a b a0 ab b1 e
  rw[hd] at *
  have hea:=I.ent t0 t1 a0 (by omega:a<_)
  have heb:=I.ent t0 t1 (by omega:0≤b) b1
  have htu:t≠u:=fun e2=>hs (by rw[←e2];exact ts)
  exact hkeep _ _ htu hea.1.1 (I.pre t t0 t1 ts a b a0 ab b1 (hback _ t _ t0 heb.1.1 e))
 ·intro p p0 p1
  by_cases h:p=P
  ·subst h
   rw[hval,qvf (by rw[hwd p p0,z6 rfl]),hwd p p0,z6 rfl]
  ·unfold qhd
   rw[hwd p p0,z5 h];rfl
 ·intro h H
  refine ⟨H.t,H.seq,H.at0,H.fin,fun e=>?_⟩
  obtain ⟨a,b,c,d⟩:=H.cur e
  refine ⟨a,b,fun hs'=>⟨(c hs').1,fun j j0 j1=>?_⟩,fun hs' j j0 j1 q=>?_⟩
  ·have hne:h.1≠u:=fun e2=>hs (by rw[←e2];exact hs')
   have hj:=I.ent H.t.1 H.t.2 j0 (show j<_ by omega)
   have e':h.2.1=(dsc m h.1).1:=e
   have:=(c hs').2 j j0 j1
   rw[e'] at this
   show wd _ (qo (dsc m h.1).2.2.1 j).1=_
   rw[e']
   exact hkeep _ _ hne hj.1.1 this
  ·exact d hs' j j0 j1 (hback _ _ _ H.t.1 (I.ent H.t.1 H.t.2 j0 (show j<_ by omega)).1.1 q)
theorem qbv6 {c:Int} (hs:(dsc m u).2.1=1) (hc:c=2∨c=3) :
  MemI (setD m u ((dsc m u).1,c,(dsc m u).2.2)) n time own∧(∀ h,HelpI m n h→HelpI (setD m u ((dsc m u).1,c,(dsc m u).2.2)) n h)∧
  (∀ p:Int,0≤p→p<20→qhd (setD m u ((dsc m u).1,c,(dsc m u).2.2)) p=if c=2∧wd m p=mkW u (dsc m u).1 then (qdb (dsc m u).2.2.1 p).2.2.1 else qhd m p):=by
 have hdl:=I.dlen
 have hd:∀ t:Int,0≤t→dsc (setD m u ((dsc m u).1,c,(dsc m u).2.2)) t=if t=u then ((dsc m u).1,c,(dsc m u).2.2) else dsc m t:=fun t t0=>qrq (by omega) t0
 have hd1:∀ t:Int,0≤t→(dsc (setD m u ((dsc m u).1,c,(dsc m u).2.2)) t).1=(dsc m t).1:=by
  intro t t0;rw[hd t t0];split
  ·next h=>rw[h]
  ·rfl
 have hd3:∀ t:Int,0≤t→(dsc (setD m u ((dsc m u).1,c,(dsc m u).2.2)) t).2.2=(dsc m t).2.2:=by
  intro t t0;rw[hd t t0];split
  ·next h=>rw[h]
  ·rfl
 have hd2:∀ t:Int,0≤t→(dsc (setD m u ((dsc m u).1,c,(dsc m u).2.2)) t).2.1=if t=u then c else (dsc m t).2.1:=by
  intro t t0;rw[hd t t0];split<;>rfl
 refine ⟨⟨I.len,by rw[qbhn];exact I.dlen,?_,?_,?_,?_,?_⟩,?_,?_⟩
 ·intro t t0 t1
  rw[hd t t0]
  have D:=I.dok t t0 t1
  split
  ·next h=>
   subst h
   have hq:=I.st_seq t0 t1 (by omega)
   exact ⟨D.asc,D.len,D.rng,D.seq,⟨fun e=>by dsimp only at e;omega,fun _=>by dsimp only;omega⟩,D.rl⟩
  ·exact D
 ·intro p p0 p1
  rcases I.word p p0 p1 with h | ⟨v,a,b,c',d,i,e⟩
  ·exact .inl h
  ·refine .inr ⟨v,a,b,c',?_,i,?_⟩
   ·rw[hd1 v a];exact d
   ·rw[hd3 v a];exact e
 ·intro t t0 t1 e
  rw[hd2 t t0] at e
  split at e
  ·omega
  ·exact I.opn t t0 t1 e
 ·intro t t0 t1 e
  rw[hd1 t t0];exact I.owns t t0 t1 e
 ·intro t t0 t1 e
  rw[hd2 t t0] at e
  split at e
  ·omega
  ·rw[hd3 t t0,hd1 t t0];exact I.pre t t0 t1 e
 ·intro h H
  have h0:=H.t.1
  have hseq:=H.seq
  refine ⟨H.t,by rw[hd1 _ h0];exact H.seq,H.at0,H.fin,fun e=>?_⟩
  rw[hd1 _ h0] at e
  obtain ⟨a,b,x,y⟩:=H.cur e
  rw[hd3 _ h0,hd2 _ h0]
  refine ⟨a,b,fun hs'=>?_,fun hs'=>?_⟩
  ·by_cases hu:h.1=u
   ·rw[z6 hu] at hs';omega
   ·rw[z5 hu] at hs';exact x hs'
  ·by_cases hu:h.1=u
   ·have:=(x (by rw[hu];exact hs)).1
    intro i i0 i1;omega
   ·rw[z5 hu] at hs';exact y hs'
 ·intro p p0 p1
  rcases I.word p p0 p1 with h | ⟨v,a,b,c',d,i,i0,i1,e⟩
  ·rw[z5 (fun q=>qban h.1 u0 q.2),qvf (m:=m) h.1,qvf (m:=setD m u _) h.1];rfl
  ·rw[qul (m:=m) a d,qul (m:=setD m u _) a (by rw[hd1 v a];exact d),hd2 v a,hd3 v a]
   by_cases hv:v=u
   ·subst hv
    rw[z6 rfl,hs,z5 (show ¬ (1:Int)=2 by decide)]
    by_cases c2:c=2
    ·rw[z6 c2,z6 ⟨c2,d⟩]
    ·rw[z5 c2,z5 (fun q=>c2 q.1)]
   ·rw[z5 hv,z5 (show ¬ (c=2∧_) from fun q=>hv (qbc1 (d.symm.trans q.2)).1)]
end
theorem qb2j {m:MemT} {n:Nat} {time:Int} {own own':Int→Prop} (I:MemI m n time own) {u:Int} (u0:0≤u) (u1:u<n) (hno:¬ own u) (ho:own' u) (hoo:∀ t:Int,0≤t→t≠u→(own t↔own' t)) {E:List qbe} {r:ResT}
  (hE:Asc E) (hl:E.length≤8) (hr:∀ e∈E,(0≤e.1∧e.1<20)∧(0≤e.2.1∧e.2.1≤1000)∧(0≤e.2.2.1∧e.2.2.1≤1000)) (ht:(dsc m u).1+1≤time) (hrl:r.2.1.length≤4) :
  MemI (setD m u ((dsc m u).1+1,1,E,r,())) n time own'∧(∀ h,HelpI m n h→HelpI (setD m u ((dsc m u).1+1,1,E,r,())) n h)∧
  (∀ p:Int,0≤p→p<20→qhd (setD m u ((dsc m u).1+1,1,E,r,())) p=qhd m p):=by
 have hdl:=I.dlen
 have hd:∀ t:Int,0≤t→dsc (setD m u ((dsc m u).1+1,1,E,r,())) t=if t=u then ((dsc m u).1+1,1,E,r,()) else dsc m t:=fun t t0=>qrq (by omega) t0
 have hdu:=(hd u u0).trans (z6 rfl)
 have hdo:∀ t:Int,0≤t→t≠u→dsc (setD m u ((dsc m u).1+1,1,E,r,())) t=dsc m t:=fun t t0 h=>(hd t t0).trans (z5 h)
 have hno2:=fun {p:Int} (p0:0≤p) (p1:p<20) (s:Int)=>qbx0 I u0 hno p0 p1 s
 have D:=I.dok u u0 u1
 refine ⟨⟨I.len,by rw[qbhn];exact I.dlen,?_,?_,?_,?_,?_⟩,?_,?_⟩
 ·intro t t0 t1
  by_cases h:t=u
  ·subst h
   rw[hdu]
   have:=D.seq
   exact ⟨hE,hl,hr,⟨by dsimp only;omega,ht⟩,⟨fun e=>by dsimp only at e;omega,fun _=>by dsimp only;omega⟩,hrl⟩
  ·rw[hdo t t0 h];exact I.dok t t0 t1
 ·intro p p0 p1
  rcases I.word p p0 p1 with h | ⟨v,a,b,c',d,i,e⟩
  ·exact .inl h
  ·have hv:v≠u:=fun q=>hno (q ▸ c')
   refine .inr ⟨v,a,b,(hoo v a hv).1 c',?_,i,?_⟩
   ·rw[hdo v a hv];exact d
   ·rw[hdo v a hv];exact e
 ·intro t t0 t1 e
  by_cases h:t=u
  ·rw[h];exact ho
  ·rw[hdo t t0 h] at e;exact (hoo t t0 h).1 (I.opn t t0 t1 e)
 ·intro t t0 t1 e
  have:=D.seq
  by_cases h:t=u
  ·rw[h,hdu];dsimp only;omega
  ·rw[hdo t t0 h];exact I.owns t t0 t1 ((hoo t t0 h).2 e)
 ·intro t t0 t1 e i j i0 ij j1 hj
  by_cases h:t=u
  ·subst h
   rw[hdu] at hj j1
   dsimp only at hj j1
   have:=hr _ (q7i (show 0≤j by omega) j1)
   exact absurd hj (hno2 this.1.1 this.1.2 _)
  ·rw[hdo t t0 h] at e j1 hj ⊢
   exact I.pre t t0 t1 e i j i0 ij j1 hj
 ·intro h H
  have hs:=H.seq
  by_cases hu:h.1=u
  ·have hs':=H.seq
   rw[hu] at hs'
   refine ⟨H.t,by rw[hu,hdu];dsimp only;omega,H.at0,H.fin,fun e=>?_⟩
   rw[hu,hdu] at e;dsimp only at e;omega
  ·refine ⟨H.t,by rw[hdo _ H.t.1 hu];exact H.seq,H.at0,H.fin,?_⟩
   rw[hdo _ H.t.1 hu];exact H.cur
 ·intro p p0 p1
  rcases I.word p p0 p1 with h | ⟨v,a,b,c',d,i,e⟩
  ·rw[qvf (m:=m) h.1,qvf (m:=setD m u _) h.1];rfl
  ·have hv:v≠u:=fun q=>hno (q ▸ c')
   rw[qul (m:=m) a d,qul (m:=setD m u _) a (by rw[hdo v a hv];exact d),hdo v a hv]
end Go.G

namespace Go.G
set_option maxRecDepth 100000
open Go Go.V Go.Proofs
def getC (l:List qci) (k:Int):qci:=l.getD k.toNat dC
def qt2 (l:List qci) (t:Int):Nat:=(l.filter fun c=>decide (c.1=t∧0≤c.2.2.2.2.1)).length
structure CallOk (c:qci) (n:Nat) (time:Int):Prop where
 t:0≤c.1∧c.1<n
 op:opOk c.2.1=true
 start:0≤c.2.2.1∧c.2.2.1≤time
 lin:c.2.2.2.1 = -1∨c.2.2.1≤c.2.2.2.1∧c.2.2.2.1≤time
 fin:c.2.2.2.2.1 = -1∨0≤c.2.2.2.1∧c.2.2.2.1≤c.2.2.2.2.1∧c.2.2.2.2.1≤time
 len:c.2.2.2.2.2.1.2.1.length≤4
structure OpenC (l:List qci) (t k:Int):Prop where
 rng:0≤k∧k<l.length
 t:(getC l k).1=t
 fin:(getC l k).2.2.2.2.1 = -1
structure CallI (l:List qci) (ord:List Int) (n:Nat) (time:Int) (on:Int→Bool) (pc:Int→Int) (op:Int→Op3) (yes:Int→Option ResT):Prop where
 c:∀ k:Int,0≤k→k<l.length→CallOk (getC l k) n time
 before:∀ j k:Int,0≤j→j<k→k<l.length→(getC l j).1=(getC l k).1→0≤(getC l j).2.2.2.2.1∧(getC l j).2.2.2.2.1<(getC l k).2.2.1
 cnt:∀ t:Int,0≤t→t<n→(qt2 l t:Int)=pc t
 opn:∀ t:Int,0≤t→t<n→on t=true→∃ k,OpenC l t k∧(getC l k).2.1=op t
 off:∀ t:Int,0≤t→t<n→on t=false→∀ k:Int,0≤k→k<l.length→(getC l k).1=t→0≤(getC l k).2.2.2.2.1
 lin:∀ t k:Int,0≤t→t<n→OpenC l t k→(yes t=none→(getC l k).2.2.2.1 = -1)∧(∀ r,yes t=some r→0≤(getC l k).2.2.2.1∧(getC l k).2.2.2.2.2.1=r)
 ordr:∀ k∈ord,0≤k∧k<l.length∧0≤(getC l k).2.2.2.1
 nodup:ord.Nodup
 sort:ord.Pairwise fun a b=>(getC l a).2.2.2.1≤(getC l b).2.2.2.1
 all:∀ k:Int,0≤k→k<l.length→0≤(getC l k).2.2.2.1→k∈ord
theorem qbbh {l:List qci} {c:qci} {k:Int} (h:0≤k):getC (l++[c]) k=if k<l.length then getC l k else if k=l.length then c else dC:=by
 unfold getC
 simp only[List.getD_eq_getElem?_getD,List.getElem?_append]
 by_cases h1:k<l.length
 ·rw[z6 (by omega),z6 h1]
 ·rw[z5 (by omega),z5 h1]
  by_cases h2:k=l.length
  ·rw[z6 h2,show k.toNat - l.length=0 by omega];rfl
  ·rw[z5 h2]
   have:k.toNat - l.length≠0:=by omega
   obtain ⟨q,hq⟩:=Nat.exists_eq_succ_of_ne_zero this
   rw[hq];rfl
theorem qkl {l:List qci} {c:qci} {i k:Int} (hi:0≤i∧i<l.length) (h:0≤k):getC (l.set i.toNat c) k=if k=i then c else getC l k:=by
 unfold getC
 rw[q1w]
 by_cases h1:k=i
 ·subst h1;rw[z6 ⟨rfl,by omega⟩,z6 rfl]
 ·rw[z5 (by omega),z5 h1]
theorem qbpg (l:List qci) (c:qci) (t:Int):qt2 (l++[c]) t=qt2 l t+(if c.1=t∧0≤c.2.2.2.2.1 then 1 else 0):=by
 unfold qt2
 rw[List.filter_append,z19]
 by_cases h:c.1=t∧0≤c.2.2.2.2.1
 ·rw[z6 h];simp[h]
 ·rw[z5 h,show List.filter (fun c=>decide (c.1=t∧0≤c.2.2.2.2.1)) [c]=[] by simp only[List.filter_cons,List.filter_nil];rw[z10 h];rfl];rfl
theorem qbpj (l:List qci) (c:qci) (t:Int):∀ (i:Nat) (h:i<l.length),qt2 (l.set i c) t+(if l[i].1=t∧0≤l[i].2.2.2.2.1 then 1 else 0)=qt2 l t+(if c.1=t∧0≤c.2.2.2.2.1 then 1 else 0):=by
 induction l with
 | nil=>intro i h;simp at h
 | cons a l ih=>
  intro i h
  have hc:∀ (x:qci) (l:List qci),qt2 (x::l) t=(if x.1=t∧0≤x.2.2.2.2.1 then 1 else 0)+qt2 l t:=by
   intro x l
   unfold qt2
   rw[List.filter_cons]
   by_cases hx:x.1=t∧0≤x.2.2.2.2.1
   ·rw[z6 hx,z11 hx,z6 rfl,z22];omega
   ·rw[z5 hx,z10 hx,z5 (by simp)];omega
  cases i with
  | zero=>simp only[List.set_cons_zero,List.getElem_cons_zero];rw[hc,hc];omega
  | succ i=>
   simp only[List.set_cons_succ,List.getElem_cons_succ]
   have:=ih i (by simpa using h)
   rw[hc,hc];omega
section
variable {l:List qci} {ord:List Int} {n:Nat} {time:Int} {on:Int→Bool} {pc:Int→Int} {op:Int→Op3} {yes:Int→Option ResT} (I:CallI l ord n time on pc op yes)
include I
theorem CallI.uniq {t i k:Int} (hi:OpenC l t i) (hk:OpenC l t k):i=k:=by
 rcases Int.lt_trichotomy i k with h | h | h
 ·have:=(I.before i k hi.rng.1 h hk.rng.2 (hi.t.trans hk.t.symm)).1
  have:=hi.fin;omega
 ·exact h
 ·have:=(I.before k i hk.rng.1 h hi.rng.2 (hk.t.trans hi.t.symm)).1
  have:=hk.fin;omega
theorem CallI.openGoE {t k:Int} (hk:OpenC l t k):∀ j:Nat,j≤l.length→qfj l t j=if k<j then k else -1
 | 0,_=>by rw[z5 (by have:=hk.rng;omega)];rfl
 | j+1,hj=>by
  simp only[qfj]
  by_cases h:(l.getD j dC).1=t∧(l.getD j dC).2.2.2.2.1<0
  ·rw[z6 h]
   have h1:=(I.c (j:Int) (by omega) (by omega)).fin
   have e:getC l (j:Int)=l.getD j dC:=by unfold getC;rw[z12]
   rw[e] at h1
   have:OpenC l t (j:Int):=⟨⟨by omega,by omega⟩,by rw[e];exact h.1,by rw[e];omega⟩
   have:=I.uniq this hk
   rw[z6 (by omega)];exact this
  ·rw[z5 h,CallI.openGoE hk j (by omega)]
   by_cases h2:k<j
   ·rw[z6 h2,z6 (by omega)]
   ·rw[z5 h2,z5]
    intro h3
    have e:k=(j:Int):=by omega
    have h4:=hk.t;have h5:=hk.fin
    rw[e] at h4 h5
    unfold getC at h4 h5
    rw[z12] at h4 h5
    exact h ⟨h4,by omega⟩
theorem CallI.openCE {t k:Int} (hk:OpenC l t k):qbs l t=k:=by
 unfold qbs
 rw[I.openGoE hk _ (Nat.le_refl _),z6 hk.rng.2]
theorem CallI.same {on':Int→Bool} {pc':Int→Int} {op':Int→Op3} {yes':Int→Option ResT} {time':Int} (ht:time≤time')
  (h:∀ t:Int,0≤t→t<n→on' t=on t∧pc' t=pc t∧op' t=op t∧yes' t=yes t):CallI l ord n time' on' pc' op' yes' where
 c:=fun k a b=>by
  have:=I.c k a b
  exact ⟨this.t,this.op,⟨this.start.1,by have:=this.start.2;omega⟩,this.lin.imp id fun q=>⟨q.1,by omega⟩,this.fin.imp id fun q=>⟨q.1,q.2.1,by omega⟩,this.len⟩
 before:=I.before
 cnt:=fun t a b=>by rw[(h t a b).2.1];exact I.cnt t a b
 opn:=fun t a b e=>by rw[(h t a b).2.2.1];exact I.opn t a b (by rw[←(h t a b).1];exact e)
 off:=fun t a b e=>I.off t a b (by rw[←(h t a b).1];exact e)
 lin:=fun t k a b hk=>by rw[(h t a b).2.2.2];exact I.lin t k a b hk
 ordr:=I.ordr
 nodup:=I.nodup
 sort:=I.sort
 all:=I.all
theorem CallI.beg {u:Int} (u0:0≤u) (u1:u<n) (hoff:on u=false) (hop:opOk (op u)=true) (hy:yes u=none) {on':Int→Bool} (hon:on' u=true) (hon':∀ t:Int,0≤t→t≠u→on' t=on t) (ht:0≤time) :
  CallI (l++[(u,op u,time+1,-1,-1,(0,[],()),())]) ord n (time+1) on' pc op yes:=by
 have hlen:(l++[((u,op u,time+1,-1,-1,(0,[],()),()):qci)]).length=l.length+1:=by simp
 have hg:∀ k:Int,0≤k→k<l.length→getC (l++[(u,op u,time+1,-1,-1,(0,[],()),())]) k=getC l k:=fun k a b=>by rw[qbbh a,z6 b]
 have hn:getC (l++[(u,op u,time+1,-1,-1,(0,[],()),())]) l.length=(u,op u,time+1,-1,-1,(0,[],()),()):=by rw[qbbh (by omega),z5 (by omega),z6 rfl]
 have hold:∀ t k,OpenC (l++[(u,op u,time+1,-1,-1,(0,[],()),())]) t k→(k<l.length∧OpenC l t k)∨(k=l.length∧t=u):=by
  intro t k hk
  have hk2:=hk.rng
  rw[hlen] at hk2
  by_cases h:k<l.length
  ·have h1:=hk.t;have h2:=hk.fin
   rw[hg k hk2.1 h] at h1 h2
   exact .inl ⟨h,⟨hk2.1,h⟩,h1,h2⟩
  ·have e:k=l.length:=by omega
   have h1:=hk.t
   rw[e,hn] at h1
   exact .inr ⟨e,h1.symm⟩
 refine ⟨?_,?_,?_,?_,?_,?_,?_,I.nodup,?_,?_⟩
 ·intro k a b
  rw[hlen] at b
  by_cases h:k<l.length
  ·rw[hg k a h]
   have:=I.c k a h
   exact ⟨this.t,this.op,⟨this.start.1,by have:=this.start.2;omega⟩,this.lin.imp id fun q=>⟨q.1,by omega⟩,this.fin.imp id fun q=>⟨q.1,q.2.1,by omega⟩,this.len⟩
  ·rw[show k=(l.length:Int) by omega,hn]
   exact ⟨⟨u0,u1⟩,hop,⟨by dsimp only;omega,by dsimp only;omega⟩,.inl rfl,.inl rfl,by simp⟩
 ·intro j k a b d e
  rw[hlen] at d
  have hj:=hg j a (by omega)
  by_cases h:k<l.length
  ·have hk:=hg k (by omega) h
   rw[hj,hk] at e
   rw[hj,hk]
   exact I.before j k a b h e
  ·have ek:k=(l.length:Int):=by omega
   rw[ek,hn,hj] at e
   rw[ek,hn,hj]
   dsimp only at e ⊢
   have h1:=I.off u u0 u1 hoff j a (by omega) e
   have h2:=(I.c j a (by omega)).fin
   exact ⟨by omega,by omega⟩
 ·intro t a b
  rw[qbpg,z5 (fun q=>by have:=q.2;dsimp only at this;omega),Nat.add_zero]
  exact I.cnt t a b
 ·intro t a b e
  by_cases h:t=u
  ·subst h
   exact ⟨l.length,⟨⟨by omega,by omega⟩,by rw[hn],by rw[hn]⟩,by rw[hn]⟩
  ·rw[hon' t a h] at e
   obtain ⟨k,hk,h2⟩:=I.opn t a b e
   exact ⟨k,⟨⟨hk.rng.1,by have:=hk.rng.2;omega⟩,by rw[hg k hk.rng.1 hk.rng.2];exact hk.t,by rw[hg k hk.rng.1 hk.rng.2];exact hk.fin⟩,by rw[hg k hk.rng.1 hk.rng.2];exact h2⟩
 ·intro t a b e k k0 k1 hk
  have hne:t≠u:=fun q=>by rw[q,hon] at e;exact absurd e (by simp)
  rw[hlen] at k1
  by_cases h:k<l.length
  ·rw[hg k k0 h] at *
   exact I.off t a b (by rw[←hon' t a hne];exact e) k k0 h hk
  ·rw[show k=(l.length:Int) by omega,hn] at hk
   exact absurd hk.symm hne
 ·intro t k a b hk
  rcases hold t k hk with ⟨h,h2⟩ | ⟨rfl,rfl⟩
  ·rw[hg k hk.rng.1 h];exact I.lin t k a b h2
  ·rw[hn,hy]
   exact ⟨fun _=>rfl,fun r q=>(by cases q)⟩
 ·intro k hk
  have:=I.ordr k hk
  rw[hg k this.1 this.2.1]
  exact ⟨this.1,by omega,this.2.2⟩
 ·exact I.sort.imp_of_mem fun {a b} ha hb hab=>by
   have h1:=I.ordr a ha;have h2:=I.ordr b hb
   rw[hg a h1.1 h1.2.1,hg b h2.1 h2.2.1];exact hab
 ·intro k a b e
  rw[hlen] at b
  by_cases h:k<l.length
  ·rw[hg k a h] at e;exact I.all k a h e
  ·rw[show k=(l.length:Int) by omega,hn] at e;dsimp only at e;omega
theorem CallI.so {u k:Int} (u0:0≤u) (u1:u<n) (hk:OpenC l u k) (hy:yes u=none) {r:ResT} (hr:r.2.1.length≤4) {yes':Int→Option ResT} (h1:yes' u=some r) (h2:∀ t:Int,0≤t→t≠u→yes' t=yes t) :
  CallI (l.set k.toNat ((getC l k).1,(getC l k).2.1,(getC l k).2.2.1,time,(getC l k).2.2.2.2.1,r,())) (ord++[k]) n time on pc op yes':=by
 have k0:=hk.rng.1
 have k1:=hk.rng.2
 have hlin:(getC l k).2.2.2.1 = -1:=(I.lin u k u0 u1 hk).1 hy
 have hfin:=hk.fin
 have hc:=I.c k k0 k1
 have hst:=hc.start
 have hg:∀ j:Int,0≤j→getC (l.set k.toNat ((getC l k).1,(getC l k).2.1,(getC l k).2.2.1,time,(getC l k).2.2.2.2.1,r,())) j=if j=k then ((getC l k).1,(getC l k).2.1,(getC l k).2.2.1,time,(getC l k).2.2.2.2.1,r,()) else getC l j:=fun j hj=>qkl hk.rng hj
 have g1:∀ j:Int,0≤j→(getC (l.set k.toNat ((getC l k).1,(getC l k).2.1,(getC l k).2.2.1,time,(getC l k).2.2.2.2.1,r,())) j).1=(getC l j).1:=fun j hj=>by rw[hg j hj];split<;>simp_all
 have g2:∀ j:Int,0≤j→(getC (l.set k.toNat ((getC l k).1,(getC l k).2.1,(getC l k).2.2.1,time,(getC l k).2.2.2.2.1,r,())) j).2.1=(getC l j).2.1:=fun j hj=>by rw[hg j hj];split<;>simp_all
 have g3:∀ j:Int,0≤j→(getC (l.set k.toNat ((getC l k).1,(getC l k).2.1,(getC l k).2.2.1,time,(getC l k).2.2.2.2.1,r,())) j).2.2.1=(getC l j).2.2.1:=fun j hj=>by rw[hg j hj];split<;>simp_all
 have g5:∀ j:Int,0≤j→(getC (l.set k.toNat ((getC l k).1,(getC l k).2.1,(getC l k).2.2.1,time,(getC l k).2.2.2.2.1,r,())) j).2.2.2.2.1=(getC l j).2.2.2.2.1:=fun j hj=>by rw[hg j hj];split<;>simp_all
 have gk:=(hg k k0).trans (z6 rfl)
 have go:∀ j:Int,0≤j→j≠k→getC (l.set k.toNat ((getC l k).1,(getC l k).2.1,(getC l k).2.2.1,time,(getC l k).2.2.2.2.1,r,())) j=getC l j:=fun j hj hjk=>(hg j hj).trans (z5 hjk)
 have hkn:k∉ord:=fun q=>by have:=(I.ordr k q).2.2;omega
 have hopen:∀ t j,OpenC (l.set k.toNat ((getC l k).1,(getC l k).2.1,(getC l k).2.2.1,time,(getC l k).2.2.2.2.1,r,())) t j↔OpenC l t j:=by
  intro t j
  constructor
  ·intro h
   have hj:=h.rng.1
   exact ⟨by simpa using h.rng,by rw[←g1 j hj];exact h.t,by rw[←g5 j hj];exact h.fin⟩
  ·intro h
   have hj:=h.rng.1
   exact ⟨by simpa using h.rng,by rw[g1 j hj];exact h.t,by rw[g5 j hj];exact h.fin⟩
 refine ⟨?_,?_,?_,?_,?_,?_,?_,?_,?_,?_⟩
 ·intro j a b
  rw[z17] at b
  by_cases h:j=k
  ·rw[h,gk]
   exact ⟨hc.t,hc.op,hc.start,.inr ⟨hst.2,Int.le_refl _⟩,.inl hfin,hr⟩
  ·rw[go j a h];exact I.c j a b
 ·intro i j a b d e
  rw[z17] at d
  rw[g5 i a,g3 j (by omega)]
  exact I.before i j a b d (by rw[←g1 i a,←g1 j (by omega)];exact e)
 ·intro t a b
  have:=qbpj l ((getC l k).1,(getC l k).2.1,(getC l k).2.2.1,time,(getC l k).2.2.2.2.1,r,()) t k.toNat (by omega)
  have e:l[k.toNat]'(by omega)=getC l k:=by unfold getC;rw[qx]
  rw[e] at this
  dsimp only at this
  rw[←I.cnt t a b]
  omega
 ·intro t a b e
  obtain ⟨j,hj,h3⟩:=I.opn t a b e
  exact ⟨j,(hopen t j).2 hj,by rw[g2 j hj.rng.1];exact h3⟩
 ·intro t a b e j j0 j1 hj
  rw[z17] at j1
  rw[g5 j j0]
  exact I.off t a b e j j0 j1 (by rw[←g1 j j0];exact hj)
 ·intro t j a b hj
  have hj':=(hopen t j).1 hj
  by_cases h:t=u
  ·subst h
   have e:=I.uniq hj' hk
   subst e
   rw[gk,h1]
   refine ⟨fun q=>(by cases q),fun r' q=>?_⟩
   cases q
   exact ⟨by dsimp only;omega,rfl⟩
  ·have hne:j≠k:=fun q=>h (by rw[←hj'.t,q,hk.t])
   rw[go j hj'.rng.1 hne,h2 t a h]
   exact I.lin t j a b hj'
 ·intro j hj
  rw[z17]
  rcases z18.1 hj with h | h
  ·have hj':=I.ordr j h
   rw[go j hj'.1 (fun q=>hkn (q ▸ h))];exact hj'
  ·rw[z23] at h
   subst h
   rw[gk];exact ⟨k0,k1,by dsimp only;omega⟩
 ·rw[List.nodup_append]
  exact ⟨I.nodup,by simp,fun a ha b hb=>by rw[z23] at hb;rw[hb];exact fun q=>hkn (q ▸ ha)⟩
 ·rw[List.pairwise_append]
  refine ⟨I.sort.imp_of_mem fun {a b} ha hb hab=>?_,by simp,fun a ha b hb=>?_⟩
  ·rw[go a (I.ordr a ha).1 (fun q=>hkn (q ▸ ha)),go b (I.ordr b hb).1 (fun q=>hkn (q ▸ hb))];exact hab
  ·rw[z23] at hb
   subst hb
   have ha':=I.ordr a ha
   rw[go a ha'.1 (fun q=>hkn (q ▸ ha)),gk]
   have:=(I.c a ha'.1 ha'.2.1).lin
   dsimp only;omega
 ·intro j a b e
  rw[z17] at b
  by_cases h:j=k
  ·rw[h];exact List.mem_append_right _ z14
  ·rw[go j a h] at e
   exact List.mem_append_left _ (I.all j a b e)
theorem CallI.fin {u k:Int} (u0:0≤u) (u1:u<n) (hk:OpenC l u k) {r:ResT} (hy:yes u=some r) {on':Int→Bool} {pc':Int→Int} {yes':Int→Option ResT} (hon:on' u=false) (hon':∀ t:Int,0≤t→t≠u→on' t=on t)
  (hpc:pc' u=pc u+1) (hpc':∀ t:Int,0≤t→t≠u→pc' t=pc t) {op':Int→Op3} (hop':∀ t:Int,0≤t→t≠u→op' t=op t) (h2:∀ t:Int,0≤t→t≠u→yes' t=yes t) :
  CallI (l.set k.toNat ((getC l k).1,(getC l k).2.1,(getC l k).2.2.1,(getC l k).2.2.2.1,time,r,())) ord n time on' pc' op' yes':=by
 have k0:=hk.rng.1
 have k1:=hk.rng.2
 obtain ⟨hlin,hres⟩:=(I.lin u k u0 u1 hk).2 r hy
 have hfin:=hk.fin
 have hc:=I.c k k0 k1
 have hst:=hc.start
 have hcl:=hc.lin
 have hg:∀ j:Int,0≤j→getC (l.set k.toNat ((getC l k).1,(getC l k).2.1,(getC l k).2.2.1,(getC l k).2.2.2.1,time,r,())) j=if j=k then ((getC l k).1,(getC l k).2.1,(getC l k).2.2.1,(getC l k).2.2.2.1,time,r,()) else getC l j:=fun j hj=>qkl hk.rng hj
 have g1:∀ j:Int,0≤j→(getC (l.set k.toNat ((getC l k).1,(getC l k).2.1,(getC l k).2.2.1,(getC l k).2.2.2.1,time,r,())) j).1=(getC l j).1:=fun j hj=>by rw[hg j hj];split<;>simp_all
 have g2:∀ j:Int,0≤j→(getC (l.set k.toNat ((getC l k).1,(getC l k).2.1,(getC l k).2.2.1,(getC l k).2.2.2.1,time,r,())) j).2.1=(getC l j).2.1:=fun j hj=>by rw[hg j hj];split<;>simp_all
 have g3:∀ j:Int,0≤j→(getC (l.set k.toNat ((getC l k).1,(getC l k).2.1,(getC l k).2.2.1,(getC l k).2.2.2.1,time,r,())) j).2.2.1=(getC l j).2.2.1:=fun j hj=>by rw[hg j hj];split<;>simp_all
 have g4:∀ j:Int,0≤j→(getC (l.set k.toNat ((getC l k).1,(getC l k).2.1,(getC l k).2.2.1,(getC l k).2.2.2.1,time,r,())) j).2.2.2.1=(getC l j).2.2.2.1:=fun j hj=>by rw[hg j hj];split<;>simp_all
 have gk:=(hg k k0).trans (z6 rfl)
 have go:∀ j:Int,0≤j→j≠k→getC (l.set k.toNat ((getC l k).1,(getC l k).2.1,(getC l k).2.2.1,(getC l k).2.2.2.1,time,r,())) j=getC l j:=fun j hj hjk=>(hg j hj).trans (z5 hjk)
 have hopen:∀ t j,OpenC (l.set k.toNat ((getC l k).1,(getC l k).2.1,(getC l k).2.2.1,(getC l k).2.2.2.1,time,r,())) t j→j≠k∧OpenC l t j:=by
  intro t j h
  have hj:=h.rng.1
  have hne:j≠k:=fun q=>by have:=h.fin;rw[q,gk] at this;dsimp only at this;omega
  have h1:=h.t;have h3:=h.fin
  rw[go j hj hne] at h1 h3
  exact ⟨hne,by simpa using h.rng,h1,h3⟩
 refine ⟨?_,?_,?_,?_,?_,?_,?_,I.nodup,?_,?_⟩
 ·intro j a b
  rw[z17] at b
  by_cases h:j=k
  ·rw[h,gk]
   have:=hc.len
   rw[hres] at this
   exact ⟨hc.t,hc.op,hc.start,hc.lin,.inr ⟨hlin,by dsimp only;omega,Int.le_refl _⟩,this⟩
  ·rw[go j a h];exact I.c j a b
 ·intro i j a b d e
  rw[z17] at d
  rw[g1 i a,g1 j (by omega)] at e
  rw[g3 j (by omega)]
  by_cases h:i=k
  ·subst h
   have:=(I.before i j a b d e).1
   omega
  ·rw[go i a h];exact I.before i j a b d e
 ·intro t a b
  have:=qbpj l ((getC l k).1,(getC l k).2.1,(getC l k).2.2.1,(getC l k).2.2.2.1,time,r,()) t k.toNat (by omega)
  have e:l[k.toNat]'(by omega)=getC l k:=by unfold getC;rw[qx]
  have hA:¬ ((getC l k).1=t∧0≤(getC l k).2.2.2.2.1):=fun q=>by have:=q.2;omega
  rw[e,z5 hA] at this
  dsimp only at this
  have ht0:0≤time:=by omega
  have hcn:=I.cnt t a b
  by_cases h:t=u
  ·subst h
   rw[z6 ⟨hk.t,ht0⟩] at this
   rw[hpc];omega
  ·have hB:¬ ((getC l k).1=t∧0≤time):=fun q=>h (q.1.symm.trans hk.t)
   rw[z5 hB] at this
   rw[hpc' t a h];omega
 ·intro t a b e
  have hne:t≠u:=fun q=>by rw[q,hon] at e;exact absurd e (by simp)
  rw[hon' t a hne] at e
  obtain ⟨j,hj,h3⟩:=I.opn t a b e
  have hjk:j≠k:=fun q=>hne (by rw[←hj.t,q,hk.t])
  exact ⟨j,⟨by simpa using hj.rng,by rw[go j hj.rng.1 hjk];exact hj.t,by rw[go j hj.rng.1 hjk];exact hj.fin⟩,by rw[go j hj.rng.1 hjk,hop' t a hne];exact h3⟩
 ·intro t a b e j j0 j1 hj
  rw[z17] at j1
  rw[g1 j j0] at hj
  by_cases h:j=k
  ·rw[h,gk];dsimp only;omega
  ·rw[go j j0 h]
   by_cases hu:t=u
   ·subst hu
    have hn:=hc
    rcases (I.c j j0 j1).fin with q | q
    ·exact absurd (I.uniq ⟨⟨j0,j1⟩,hj,q⟩ hk) h
    ·omega
   ·exact I.off t a b (by rw[←hon' t a hu];exact e) j j0 j1 hj
 ·intro t j a b hj
  obtain ⟨hne,hj'⟩:=hopen t j hj
  have hu:t≠u:=fun q=>hne (I.uniq (q ▸ hj') hk)
  rw[go j hj'.rng.1 hne,h2 t a hu]
  exact I.lin t j a b hj'
 ·intro j hj
  rw[z17]
  have hj':=I.ordr j hj
  rw[g4 j hj'.1];exact hj'
 ·exact I.sort.imp_of_mem fun {a b} ha hb hab=>by
   rw[g4 a (I.ordr a ha).1,g4 b (I.ordr b hb).1];exact hab
 ·intro j a b e
  rw[z17] at b
  rw[g4 j a] at e;exact I.all j a b e
end
inductive RepR (l:List qci):qu→List Int→qu→Prop
 | nil (r:qu):RepR l r [] r
 | snoc {r s:qu} {ks:List Int} {k:Int}:RepR l r ks s→RightR s→Out s (getC l k).2.1 (getC l k).2.2.2.2.2.1.1 (getC l k).2.2.2.2.2.1.2.1→RepR l r (ks++[k]) (qcz s (getC l k).2.1 (getC l k).2.2.2.2.2.1.1)
theorem RepR.same {l l':List qci} {r:qu} {ks:List Int} {s:qu} (h:RepR l r ks s):(∀ k∈ks,(getC l' k).2.1=(getC l k).2.1∧(getC l' k).2.2.2.2.2.1=(getC l k).2.2.2.2.2.1)→RepR l' r ks s:=by
 induction h with
 | nil=>intro _;exact .nil _
 | @snoc s ks k _ hs ho ih=>
  intro hl
  have h1:=hl k (by simp)
  have:=RepR.snoc (l:=l') (k:=k) (ih fun j hj=>hl j (List.mem_append_left _ hj)) hs (by rw[h1.1,h1.2];exact ho)
  rw[h1.1,h1.2] at this
  exact this
end Go.G

namespace Go.G
set_option maxRecDepth 100000
open Go Go.V Go.Proofs
structure ThI (m:MemT) (n:Nat) (x:ThT) (t:Int):Prop where
 ops:x.1.length≤4∧∀ o∈x.1,opOk o=true
 pc:0≤x.2.1∧x.2.1≤x.1.length
 on:x.2.2.1=true→x.2.1<x.1.length
 off:x.2.2.1=false→x.2.2.2.1=[]∧x.2.2.2.2.1=[]
 got:qbaz x.2.2.2.1
 st:x.2.2.2.2.1=[]∨(∃ h,x.2.2.2.2.1=[h])∨∃ h h',x.2.2.2.2.1=[h,h']∧h.1=t
 help:∀ h∈x.2.2.2.2.1,HelpI m n h
 own:∀ h∈x.2.2.2.2.1,h.1=t→h.2.1=(dsc m t).1
 along:x.2.2.1=true→q79 x.2.2.2.1 (opT x)
 read:x.2.2.1=true→ownB x t=false→∃ q B,path (valw x.2.2.2.1) (prog (opT x))=qb0 x.2.2.2.1++q::B
 plan:ownB x t=true→path (valw x.2.2.2.1) (prog (opT x))=qb0 x.2.2.2.1∧qgj (opT x) x.2.2.2.1=none∧(dsc m t).2.2.1=entP (opT x) x.2.2.2.1∧(dsc m t).2.2.2.1=resP (opT x) x.2.2.2.1
def ownP (m:Mach) (t:Int):Prop:=ownB (thr m t) t=true
def qeq (m:Mach) (t:Int):Option ResT:=if ownB (thr m t) t=true∧(dsc m.1 t).2.1=2 then some (dsc m.1 t).2.2.2.1 else none
structure Inv (m:Mach):Prop where
 n:1≤m.2.1.length∧m.2.1.length≤3
 time:0≤m.2.2.1
 mem:MemI m.1 m.2.1.length m.2.2.1 (ownP m)
 th:∀ t:Int,0≤t→t<m.2.1.length→ThI m.1 m.2.1.length (thr m t) t
 call:CallI m.2.2.2.1 m.2.2.2.2.1 m.2.1.length m.2.2.1 (fun t=>(thr m t).2.2.1) (fun t=>(thr m t).2.1) (fun t=>opT (thr m t)) (qeq m)
 rep:∃ R,RightR R∧RepR m.2.2.2.1 m.2.2.2.2.2.1 m.2.2.2.2.1 R∧∀ p:Int,0≤p→p<20→qhd m.1 p=wOf R p
 first:RightR m.2.2.2.2.2.1
theorem qbik (x:ThT) (t:Int):ownB x t=true↔∃ h r,x.2.2.2.2.1=h::r∧h.1=t:=by
 unfold ownB
 cases x.2.2.2.2.1 with
 | nil=>simp
 | cons h r=>simp
theorem qy2 {x:ThT} {t:Int} (h:x.2.2.2.2.1=[]):ownB x t=false:=by unfold ownB;rw[h]
theorem ThI.isOn {m:MemT} {n:Nat} {x:ThT} {t:Int} (h:ThI m n x t) (hs:x.2.2.2.2.1≠[]):x.2.2.1=true:=by
 cases ho:x.2.2.1 with
 | true=>rfl
 | false=>exact absurd (h.off ho).2 hs
theorem ThI.own_on {m:MemT} {n:Nat} {x:ThT} {t:Int} (h:ThI m n x t) (hs:ownB x t=true):x.2.2.1=true:=by
 refine h.isOn fun e=>?_
 rw[qy2 e] at hs;cases hs
theorem ThI.op {m:MemT} {n:Nat} {x:ThT} {t:Int} (h:ThI m n x t) (ho:x.2.2.1=true):opOk (opT x)=true:=by
 have h1:=h.on ho
 have h2:=h.pc
 unfold opT
 rw[qx (show x.2.1.toNat<x.1.length by omega)]
 exact h.ops.2 _ (z24 _)
theorem ThI.move {m m':MemT} {n:Nat} {x:ThT} {t:Int} (h:ThI m n x t) (hh:∀ k,HelpI m n k→HelpI m' n k) (h1:(dsc m' t).1=(dsc m t).1) (h2:(dsc m' t).2.2=(dsc m t).2.2):ThI m' n x t where
 ops:=h.ops
 pc:=h.pc
 on:=h.on
 off:=h.off
 got:=h.got
 st:=h.st
 help:=fun k hk=>hh k (h.help k hk)
 own:=fun k e1 e2=>by rw[h1];exact h.own k e1 e2
 along:=h.along
 read:=h.read
 plan:=fun e=>by rw[h2];exact h.plan e
theorem q6f {x:ThT} (h:x.2.2.2.2.1≠[]):topH x∈x.2.2.2.2.1:=by
 have hl:0<x.2.2.2.2.1.length:=List.length_pos_iff.2 h
 unfold topH
 rw[qx (by omega)]
 exact z24 _
theorem q7h {m:MemT} {n:Nat} {x:ThT} {t:Int} (h:ThI m n x t) (hs:x.2.2.2.2.1≠[]) :
  (x.2.2.2.2.1=[topH x])∨∃ h0,x.2.2.2.2.1=[h0,topH x]∧h0.1=t:=by
 rcases h.st with e | ⟨k,e⟩ | ⟨k,k',e,h1⟩
 ·exact absurd e hs
 ·left
  have:topH x=k:=by unfold topH;rw[e];rfl
  rw[this,e]
 ·right
  have:topH x=k':=by unfold topH;rw[e];rfl
  rw[this]
  exact ⟨k,e,h1⟩
theorem qbmh {m:MemT} {n:Nat} {x:ThT} {t:Int} (h:ThI m n x t) (hs:x.2.2.2.2.1≠[]) (ht:(topH x).1=t):ownB x t=true∧(topH x).2.1=(dsc m t).1:=by
 refine ⟨?_,h.own _ (q6f hs) ht⟩
 rcases q7h h hs with e | ⟨h0,e,a⟩
 ·exact (qbik x t).2 ⟨_,_,e,ht⟩
 ·exact (qbik x t).2 ⟨_,_,e,a⟩
def withS (x:ThT) (s:List qep):ThT:=(x.1,x.2.1,x.2.2.1,x.2.2.2.1,s,())
theorem ThI.withS {m:MemT} {n:Nat} {x:ThT} {t:Int} (h:ThI m n x t) (ho:x.2.2.1=true) {s:List qep} (hst:s=[]∨(∃ h,s=[h])∨∃ h h',s=[h,h']∧h.1=t) (hh:∀ k∈s,HelpI m n k) (hw:∀ k∈s,k.1=t→k.2.1=(dsc m t).1)
  (hb:ownB (withS x s) t=ownB x t):ThI m n (withS x s) t where
 ops:=h.ops
 pc:=h.pc
 on:=h.on
 off:=fun e=>by rw[show (Go.G.withS x s).2.2.1=x.2.2.1 from rfl,ho] at e;cases e
 got:=h.got
 st:=hst
 help:=hh
 own:=hw
 along:=h.along
 read:=fun e1 e2=>h.read e1 (by rw[←hb];exact e2)
 plan:=fun e=>h.plan (by rw[←hb];exact e)
theorem qbfa {m:Mach} (I:Inv m) {t:Int} (t0:0≤t) (t1:t<m.2.1.length) {a:MemT} {x:ThT} (hM:MemI a m.2.1.length m.2.2.1 (ownP (setT (putM m a) t x)))
  (hot:∀ u:Int,0≤u→u<m.2.1.length→u≠t→(dsc a u).1=(dsc m.1 u).1∧(dsc a u).2.2=(dsc m.1 u).2.2) (hh:∀ k,HelpI m.1 m.2.1.length k→HelpI a m.2.1.length k)
  (hx:ThI a m.2.1.length x t) (hsame:x.1=(thr m t).1∧x.2.1=(thr m t).2.1∧x.2.2.1=(thr m t).2.2.1)
  (hyes:∀ u:Int,0≤u→u<m.2.1.length→qeq (setT (putM m a) t x) u=qeq m u) (hv:∀ p:Int,0≤p→p<20→qhd a p=qhd m.1 p):Inv (setT (putM m a) t x):=by
 have hl:(setT (putM m a) t x).2.1.length=m.2.1.length:=qgn _ _ _
 have hthr:∀ u:Int,0≤u→thr (setT (putM m a) t x) u=if u=t then x else thr m u:=fun u hu=>qhg (m:=putM m a) ⟨t0,t1⟩ hu
 refine ⟨by rw[hl];exact I.n,I.time,by rw[hl];exact hM,?_,?_,?_,I.first⟩
 ·intro u u0 u1
  rw[hl] at u1 ⊢
  rw[hthr u u0]
  by_cases h:u=t
  ·subst h;rw[z6 rfl];exact hx
  ·rw[z5 h]
   exact (I.th u u0 u1).move hh (hot u u0 u1 h).1 (hot u u0 u1 h).2
 ·rw[hl]
  refine I.call.same (Int.le_refl _) fun u u0 u1=>?_
  have e:(thr (setT (putM m a) t x) u).1=(thr m u).1∧(thr (setT (putM m a) t x) u).2.1=(thr m u).2.1∧(thr (setT (putM m a) t x) u).2.2.1=(thr m u).2.2.1:=by
   rw[hthr u u0]
   by_cases h:u=t
   ·subst h;rw[z6 rfl];exact hsame
   ·rw[z5 h];exact ⟨rfl,rfl,rfl⟩
  exact ⟨e.2.2,e.2.1,by unfold opT;rw[e.1,e.2.1],hyes u u0 u1⟩
 ·obtain ⟨R,h1,h2,h3⟩:=I.rep
  exact ⟨R,h1,h2,fun p p0 p1=>(hv p p0 p1).trans (h3 p p0 p1)⟩
end Go.G

namespace Go.G
set_option maxRecDepth 100000
open Go Go.V Go.Proofs
theorem qbtg {m:Mach} {a:MemT} {t u:Int} {x:ThT} (t0:0≤t) (t1:t<m.2.1.length) (u0:0≤u) (hb:ownB x t=ownB (thr m t) t) (h1:(dsc a u).2.1=2↔(dsc m.1 u).2.1=2) (h2:(dsc a u).2.2=(dsc m.1 u).2.2) :
  qeq (setT (putM m a) t x) u=qeq m u:=by
 have e:ownB (thr (setT (putM m a) t x) u) u=ownB (thr m u) u:=by
  rw[qhg (m:=putM m a) ⟨t0,t1⟩ u0]
  by_cases h:u=t
  ·subst h;rw[z6 rfl];exact hb
  ·rw[z5 h];rfl
 unfold qeq
 rw[e,show (setT (putM m a) t x).1=a from rfl,h2]
 by_cases h:ownB (thr m u) u=true∧(dsc m.1 u).2.1=2
 ·rw[z6 h,z6 ⟨h.1,h1.2 h.2⟩]
 ·rw[z5 h,z5 fun q=>h ⟨q.1,h1.1 q.2⟩]
theorem qbsr {m:Mach} {a:MemT} {t:Int} {x:ThT} (t0:0≤t) (t1:t<m.2.1.length) (hb:ownB x t=ownB (thr m t) t) (u:Int) (u0:0≤u):ownP m u↔ownP (setT (putM m a) t x) u:=by
 unfold ownP
 rw[qhg (m:=putM m a) ⟨t0,t1⟩ u0]
 by_cases h:u=t
 ·subst h;rw[z6 rfl,hb]
 ·rw[z5 h];exact Iff.rfl
theorem qox {m:Mach} (I:Inv m) {t:Int} (t0:0≤t) (t1:t<m.2.1.length) (ho:(thr m t).2.2.1=true) {a:MemT} {s:List qep} (hM:MemI a m.2.1.length m.2.2.1 (ownP m))
  (hot:∀ u:Int,0≤u→u<m.2.1.length→(dsc a u).1=(dsc m.1 u).1∧(dsc a u).2.2=(dsc m.1 u).2.2∧((dsc a u).2.1=2↔(dsc m.1 u).2.1=2)) (hh:∀ k,HelpI m.1 m.2.1.length k→HelpI a m.2.1.length k)
  (hst:s=[]∨(∃ h,s=[h])∨∃ h h',s=[h,h']∧h.1=t) (hhs:∀ k∈s,HelpI a m.2.1.length k) (hw:∀ k∈s,k.1=t→k.2.1=(dsc m.1 t).1) (hb:ownB (withS (thr m t) s) t=ownB (thr m t) t)
  (hv:∀ p:Int,0≤p→p<20→qhd a p=qhd m.1 p):Inv (setT (putM m a) t (withS (thr m t) s)):=by
 refine qbfa I t0 t1 ?_ (fun u u0 u1 _=>⟨(hot u u0 u1).1,(hot u u0 u1).2.1⟩) hh ?_ ⟨rfl,rfl,rfl⟩ (fun u u0 u1=>qbtg t0 t1 u0 hb (hot u u0 u1).2.2 (hot u u0 u1).2.1) hv
 ·exact hM.own_mono fun u u0 _=>qbsr t0 t1 hb u u0
 ·have:=(I.th t t0 t1).move hh (hot t t0 t1).1 (hot t t0 t1).2.1
  exact this.withS ho hst hhs (fun k hk e=>by rw[(hot t t0 t1).1];exact hw k hk e) hb
theorem qbvu {m a:MemT} {n:Nat} {x:ThT} {t:Int} (h:ThI m n x t) (hs:x.2.2.2.2.1≠[]) (hh:∀ k,HelpI m n k→HelpI a n k) {h':qep} (he:HelpI a n h') (hw:h'.1=t→h'.2.1=(dsc m t).1) (hown:ownB x t=false→h'.1≠t)
  (hown2:∀ k,x.2.2.2.2.1=[k]→k.1=t→h'.1=t) :
  (x.2.2.2.2.1.set (x.2.2.2.2.1.length - 1) h'=[]∨(∃ k,x.2.2.2.2.1.set (x.2.2.2.2.1.length - 1) h'=[k])∨∃ k k',x.2.2.2.2.1.set (x.2.2.2.2.1.length - 1) h'=[k,k']∧k.1=t)∧
  (∀ k∈x.2.2.2.2.1.set (x.2.2.2.2.1.length - 1) h',HelpI a n k)∧(∀ k∈x.2.2.2.2.1.set (x.2.2.2.2.1.length - 1) h',k.1=t→k.2.1=(dsc m t).1)∧
  ownB (withS x (x.2.2.2.2.1.set (x.2.2.2.2.1.length - 1) h')) t=ownB x t:=by
 rcases q7h h hs with e | ⟨h0,e,e0⟩
 ·have e2:x.2.2.2.2.1.set (x.2.2.2.2.1.length - 1) h'=[h']:=by rw[e];rfl
  rw[e2]
  refine ⟨.inr (.inl ⟨_,rfl⟩),fun k hk=>?_,fun k hk=>?_,?_⟩
  ·rw[z23] at hk;rw[hk];exact he
  ·rw[z23] at hk;rw[hk];exact hw
  ·have b1:ownB x t=decide ((topH x).1=t):=by unfold ownB;rw[e]
   have b2:ownB (withS x [h']) t=decide (h'.1=t):=rfl
   rw[b2]
   by_cases q:(topH x).1=t
   ·rw[b1,z11 q,z11 (hown2 _ e q)]
   ·rw[b1,z10 q] at hown ⊢
    exact z10 (hown rfl)
 ·have e2:x.2.2.2.2.1.set (x.2.2.2.2.1.length - 1) h'=[h0,h']:=by rw[e];rfl
  rw[e2]
  have hm0:h0∈x.2.2.2.2.1:=by rw[e];exact z14
  refine ⟨.inr (.inr ⟨_,_,rfl,e0⟩),fun k hk=>?_,fun k hk=>?_,?_⟩
  ·rcases z15.1 hk with rfl | hk
   ·exact hh _ (h.help _ hm0)
   ·rw[z23] at hk;rw[hk];exact he
  ·rcases z15.1 hk with rfl | hk
   ·exact h.own _ hm0
   ·rw[z23] at hk;rw[hk];exact hw
  ·have b2:ownB (withS x [h0,h']) t=decide (h0.1=t):=rfl
   have b1:ownB x t=decide (h0.1=t):=by unfold ownB;rw[e]
   rw[b1,b2]
theorem qbyn {m:MemT} {n:Nat} {x:ThT} {t:Int} (h:ThI m n x t) (hs:x.2.2.2.2.1≠[]) (hne:(topH x).1≠t) :
  (x.2.2.2.2.1.take (x.2.2.2.2.1.length - 1)=[]∨(∃ k,x.2.2.2.2.1.take (x.2.2.2.2.1.length - 1)=[k])∨∃ k k',x.2.2.2.2.1.take (x.2.2.2.2.1.length - 1)=[k,k']∧k.1=t)∧
  (∀ k∈x.2.2.2.2.1.take (x.2.2.2.2.1.length - 1),HelpI m n k)∧(∀ k∈x.2.2.2.2.1.take (x.2.2.2.2.1.length - 1),k.1=t→k.2.1=(dsc m t).1)∧
  ownB (withS x (x.2.2.2.2.1.take (x.2.2.2.2.1.length - 1))) t=ownB x t:=by
 have hsub:∀ k∈x.2.2.2.2.1.take (x.2.2.2.2.1.length - 1),k∈x.2.2.2.2.1:=fun k hk=>List.mem_of_mem_take hk
 refine ⟨?_,fun k hk=>h.help k (hsub k hk),fun k hk=>h.own k (hsub k hk),?_⟩
 ·rcases q7h h hs with e | ⟨h0,e,e0⟩
  ·left;rw[e];rfl
  ·right;left;exact ⟨h0,by rw[e];rfl⟩
 ·rcases q7h h hs with e | ⟨h0,e,e0⟩
  ·have b1:ownB x t=decide ((topH x).1=t):=by unfold ownB;rw[e]
   have e2:x.2.2.2.2.1.take (x.2.2.2.2.1.length - 1)=[]:=by rw[e];rfl
   rw[e2,b1,z10 hne];rfl
  ·have e2:x.2.2.2.2.1.take (x.2.2.2.2.1.length - 1)=[h0]:=by rw[e];rfl
   have b1:ownB x t=decide (h0.1=t):=by unfold ownB;rw[e]
   rw[e2,b1];rfl
theorem qbv2 {m:MemT} {n:Nat} {x:ThT} {t:Int} (h:ThI m n x t) {h':qep} (he:HelpI m n h') (hne:h'.1≠t) (hs:x.2.2.2.2.1=[]∨∃ k,x.2.2.2.2.1=[k]∧k.1=t) :
  (x.2.2.2.2.1++[h']=[]∨(∃ k,x.2.2.2.2.1++[h']=[k])∨∃ k k',x.2.2.2.2.1++[h']=[k,k']∧k.1=t)∧
  (∀ k∈x.2.2.2.2.1++[h'],HelpI m n k)∧(∀ k∈x.2.2.2.2.1++[h'],k.1=t→k.2.1=(dsc m t).1)∧ownB (withS x (x.2.2.2.2.1++[h'])) t=ownB x t:=by
 refine ⟨?_,fun k hk=>?_,fun k hk hkt=>?_,?_⟩
 ·rcases hs with e | ⟨k,e,ek⟩
  ·right;left;exact ⟨h',by rw[e];rfl⟩
  ·right;right;exact ⟨k,h',by rw[e];rfl,ek⟩
 ·rcases z18.1 hk with q | q
  ·exact h.help k q
  ·rw[z23] at q;rw[q];exact he
 ·rcases z18.1 hk with q | q
  ·exact h.own k q hkt
  ·rw[z23] at q;rw[q] at hkt;exact absurd hkt hne
 ·rcases hs with e | ⟨k,e,ek⟩
  ·rw[e,z46,qy2 e]
   show decide (h'.1=t)=false
   exact z10 hne
  ·have b1:ownB x t=decide (k.1=t):=by unfold ownB;rw[e]
   rw[b1,e];rfl
end Go.G

namespace Go.G
set_option maxRecDepth 100000
open Go Go.V Go.Proofs
theorem qbze {m:Mach} {t:Int} (t0:0≤t) (t1:t<m.2.1.length):setT m t (thr m t)=m:=by
 have h:m.2.1.set t.toNat (thr m t)=m.2.1:=by
  unfold thr
  rw[qx (show t.toNat<m.2.1.length by omega)]
  exact List.set_getElem_self _
 unfold setT
 rw[h]
theorem qb1d {m:MemT} {n:Nat} {x:ThT} {t:Int} (h:ThI m n x t) (hs:x.2.2.2.2.1≠[]):qbfe x (topH x)=x:=by
 have hl:0<x.2.2.2.2.1.length:=List.length_pos_iff.2 hs
 have e:x.2.2.2.2.1.set (x.2.2.2.2.1.length - 1) (topH x)=x.2.2.2.2.1:=by
  unfold topH
  rw[qx (by omega)]
  exact List.set_getElem_self _
 unfold qbfe
 rw[e]
theorem qbpa {m:MemT} {n:Nat} {time:Int} {own own':Int→Prop} (I:MemI m n time own) {t:Int} (t0:0≤t) (t1:t<n) (hs:(dsc m t).2.1≠1) (hc:∀ i:Int,0≤i→i<(dsc m t).2.2.1.length→wd m (qo (dsc m t).2.2.1 i).1≠mkW t (dsc m t).1)
  (ho:∀ u:Int,0≤u→u≠t→(own u↔own' u)) (hn:¬ own' t):MemI m n time own' where
 len:=I.len
 dlen:=I.dlen
 dok:=I.dok
 word:=fun p p0 p1=>by
  rcases I.word p p0 p1 with h | ⟨u,a,b,c,d,i,i0,i1,e⟩
  ·exact .inl h
  ·have hu:u≠t:=by
    rintro rfl
    exact hc i i0 i1 (by rw[e];exact d)
   exact .inr ⟨u,a,b,(ho u a hu).1 c,d,i,i0,i1,e⟩
 opn:=fun u a b c=>by
  have hu:u≠t:=fun e=>hs (by rw[←e];exact c)
  exact (ho u a hu).1 (I.opn u a b c)
 owns:=fun u a b c=>by
  have hu:u≠t:=fun e=>hn (by rw[←e];exact c)
  exact I.owns u a b ((ho u a hu).2 c)
 pre:=I.pre
theorem ThI.rest {m:MemT} {n:Nat} {x:ThT} {t:Int} (h:ThI m n x t):∀ b:Bool,(b=true→x.2.1<x.1.length)→ThI m n (x.1,x.2.1,b,[],[],()) t:=fun b hb=>
  { ops:=h.ops,pc:=h.pc,on:=hb,off:=fun _=>⟨rfl,rfl⟩,got:=fun g hg=>by simp at hg,st:=.inl rfl,help:=fun k hk=>by simp at hk,own:=fun k hk=>by simp at hk,
    along:=fun _=>qbod _,
    read:=fun e _=>by
      show ∃ q B,path (valw []) (prog (opT (x.1,x.2.1,b,[],[],())))=[]++q::B
      have ho:opOk (opT x)=true:=by
        have h1:=hb e
        have h2:=h.pc
        unfold opT
        rw[qx (show x.2.1.toNat<x.1.length by omega)]
        exact h.ops.2 _ (z24 _)
      have hk:=qt7 ho
      have e2:opT (x.1,x.2.1,b,[],[],())=opT x:=rfl
      rw[e2]
      generalize opT x=o at *
      simp only[z46]
      unfold prog
      by_cases k1:o.1=1
      · rw[z6 k1];unfold qie;simp only[path];exact ⟨_,_,rfl⟩
      rw[z5 k1]
      by_cases k2:o.1=2
      · rw[z6 k2];unfold qik;simp only[path];exact ⟨_,_,rfl⟩
      rw[z5 k2]
      by_cases k3:o.1=3
      · rw[z6 k3];unfold qkc;simp only[path];exact ⟨_,_,rfl⟩
      rw[z5 k3]
      by_cases k4:o.1=4
      · rw[z6 k4];simp only[path];exact ⟨_,_,rfl⟩
      rw[z5 k4]
      by_cases k5:o.1=5
      · rw[z6 k5];simp only[path];exact ⟨_,_,rfl⟩
      rw[z5 k5]
      by_cases k6:o.1=6
      · rw[z6 k6];simp only[path];exact ⟨_,_,rfl⟩
      rw[z5 k6]
      by_cases k7:o.1=7
      · rw[z6 k7];unfold qn1;simp only[path];exact ⟨_,_,rfl⟩
      rw[z5 k7]
      by_cases k8:o.1=8
      · rw[z6 k8];simp only[path];exact ⟨_,_,rfl⟩
      rw[z5 k8]
      by_cases k9:o.1=9
      · rw[z6 k9];unfold qkh;simp only[path];exact ⟨_,_,rfl⟩
      rw[z5 k9]
      by_cases k10:o.1=10
      · rw[z6 k10];unfold qk2;simp only[path];exact ⟨_,_,rfl⟩
      · omega
    plan:=fun e=>by simp[ownB] at e }
theorem qbvp {m:Mach} {t:Int} (t0:0≤t) (t1:t<m.2.1.length) {k:Int} {r:ResT} {yes:Int→Option ResT}
    (hn:1≤m.2.1.length∧m.2.1.length≤3) (ht:0≤m.2.2.1) (hM:MemI m.1 m.2.1.length m.2.2.1 (ownP (endP m t r))) (hth:∀ u:Int,0≤u→u<m.2.1.length→ThI m.1 m.2.1.length (thr m u) u) (hon:(thr m t).2.2.1=true)
    (hC:CallI m.2.2.2.1 m.2.2.2.2.1 m.2.1.length m.2.2.1 (fun t=>(thr m t).2.2.1) (fun t=>(thr m t).2.1) (fun t=>opT (thr m t)) yes) (hk:OpenC m.2.2.2.1 t k) (hy:yes t=some r) (hyo:∀ u:Int,0≤u→u≠t→yes u=qeq m u)
    (hR:∃ R,RightR R∧RepR m.2.2.2.1 m.2.2.2.2.2.1 m.2.2.2.2.1 R∧∀ p:Int,0≤p→p<20→qhd m.1 p=wOf R p) (hf:RightR m.2.2.2.2.2.1):Inv (endP m t r):=by
  have e:endP m t r=(m.1,m.2.1.set t.toNat ((thr m t).1,(thr m t).2.1+1,false,[],[],()),m.2.2.1,m.2.2.2.1.set k.toNat ((getC m.2.2.2.1 k).1,(getC m.2.2.2.1 k).2.1,(getC m.2.2.2.1 k).2.2.1,(getC m.2.2.2.1 k).2.2.2.1,m.2.2.1,r,()),m.2.2.2.2):=by
    unfold endP endC
    rw[hC.openCE hk,z5 (by have:=hk.rng;omega)]
    rfl
  have hl:(endP m t r).2.1.length=m.2.1.length:=by rw[e];simp
  have hthr:∀ u:Int,0≤u→thr (endP m t r) u=if u=t then ((thr m t).1,(thr m t).2.1+1,false,[],[],()) else thr m u:=fun u u0=>by
    have:=qhg (m:=endC m t r) (u:=t) (t:=u) (x:=((thr m t).1,(thr m t).2.1+1,false,[],[],()))
    unfold endP
    have h2:(endC m t r).2.1=m.2.1:=by unfold endC;split<;>rfl
    rw[this (by rw[h2];exact ⟨t0,t1⟩) u0,q5h h2 u]
  have hx:=hth t t0 t1
  have hpc:=hx.pc
  have hlt:=hx.on hon
  refine ⟨by rw[hl];exact hn,by rw[e];exact ht,by rw[hl];rw[show (endP m t r).2.2.1=m.2.2.1 by rw[e],show (endP m t r).1=m.1 by rw[e]];exact hM,?_,?_,?_,by rw[e];exact hf⟩
  · intro u u0 u1
    rw[hl] at u1 ⊢
    rw[hthr u u0,show (endP m t r).1=m.1 by rw[e]]
    by_cases h:u=t
    · subst h
      rw[z6 rfl]
      exact { ops:=hx.ops,pc:=⟨by dsimp only;omega,by dsimp only;omega⟩,on:=fun q=>(by cases q),off:=fun _=>⟨rfl,rfl⟩,got:=fun g hg=>by simp at hg,st:=.inl rfl,help:=fun k hk=>by simp at hk,own:=fun k hk=>by simp at hk,
              along:=fun _=>qbod _,read:=fun q _=>(by cases q),plan:=fun q=>by simp[ownB] at q }
    · rw[z5 h];exact hth u u0 u1
  · have e1:(endP m t r).2.2.2.1=m.2.2.2.1.set k.toNat ((getC m.2.2.2.1 k).1,(getC m.2.2.2.1 k).2.1,(getC m.2.2.2.1 k).2.2.1,(getC m.2.2.2.1 k).2.2.2.1,m.2.2.1,r,()):=by rw[e]
    have e2:(endP m t r).2.2.2.2.1=m.2.2.2.2.1:=by rw[e]
    have e3:(endP m t r).2.2.1=m.2.2.1:=by rw[e]
    rw[hl,e1,e2,e3]
    have hT:=(hthr t t0).trans (z6 rfl)
    have hO:∀ u:Int,0≤u→u≠t→thr (endP m t r) u=thr m u:=fun u u0 h=>(hthr u u0).trans (z5 h)
    refine hC.fin t0 t1 hk hy (by rw[hT]) (fun u u0 h=>by rw[hO u u0 h]) (by rw[hT]) (fun u u0 h=>by rw[hO u u0 h]) (fun u u0 h=>by rw[hO u u0 h]) (fun u u0 h=>?_)
    rw[hyo u u0 h]
    unfold qeq
    rw[hO u u0 h,show (endP m t r).1=m.1 by rw[e]]
  · obtain ⟨R,h1,h2,h3⟩:=hR
    refine ⟨R,h1,?_,by rw[show (endP m t r).1=m.1 by rw[e]];exact h3⟩
    rw[e]
    refine h2.same fun j hj=>?_
    have hj':=hC.ordr j hj
    dsimp only
    rw[qkl hk.rng hj'.1]
    by_cases h:j=k
    · rw[z6 h,h];exact ⟨rfl,((hC.lin t k t0 t1 hk).2 r hy).2.symm⟩
    · rw[z5 h];exact ⟨rfl,rfl⟩
end Go.G

namespace Go.G
set_option maxRecDepth 100000
open Go Go.V Go.Proofs
theorem qb28 {m:Mach} (I:Inv m) {u:Int} (u0:0≤u) (u1:u<m.2.1.length) (hs:(dsc m.1 u).2.1=1) (hall:∀ i:Int,0≤i→i<(dsc m.1 u).2.2.1.length→wd m.1 (qo (dsc m.1 u).2.2.1 i).1=mkW u (dsc m.1 u).1)
  {R:qu} (hv:∀ p:Int,0≤p→p<20→qhd m.1 p=wOf R p):(thr m u).2.2.2.1=qbn R (opT (thr m u)):=by
 have hown:ownP m u:=I.mem.opn u u0 u1 hs
 have T:=I.th u u0 u1
 have hon:=T.own_on hown
 have ho:=T.op hon
 obtain ⟨hp,hnow,hl,hr⟩:=T.plan hown
 refine qbzr (qv9 ho T.got (T.along hon)).1 hp fun g hg=>?_
 obtain ⟨e,he,e1,e2⟩:=(qbm2 ho T.got (T.along hon) hp hnow).1 g hg
 have hrng:=qbvc ho T.got (T.along hon) hp hnow e he
 rw[←hl] at he
 obtain ⟨i,i0,i1,hi⟩:=qbrf he
 have hm:=hall i i0 i1
 rw[hi] at hm
 have:=qul u0 hm
 rw[z5 (by omega),←hi,qba2 (I.mem.dok u u0 u1).asc i0 i1,hi] at this
 rw[←e2,←this,hv _ hrng.1.1 hrng.1.2,e1]
theorem qb2o {m:Mach} (I:Inv m) {u:Int} (u0:0≤u) (u1:u<m.2.1.length) (hs:(dsc m.1 u).2.1=1) (hall:∀ i:Int,0≤i→i<(dsc m.1 u).2.2.1.length→wd m.1 (qo (dsc m.1 u).2.2.1 i).1=mkW u (dsc m.1 u).1) :
  Inv (soP (putM m (setD m.1 u ((dsc m.1 u).1,2,(dsc m.1 u).2.2))) u (dsc m.1 u).2.2.2.1):=by
 have hown:ownP m u:=I.mem.opn u u0 u1 hs
 have T:=I.th u u0 u1
 have hon:=T.own_on hown
 have ho:=T.op hon
 obtain ⟨hp,hnow,hl,hr⟩:=T.plan hown
 obtain ⟨k,hk,hkop⟩:=I.call.opn u u0 u1 hon
 obtain ⟨R,hR,hrep,hv⟩:=I.rep
 have hgot:=qb28 I u0 u1 hs hall hv
 rw[hgot] at hnow hl hr
 have hturn:=qbwn hR ho hnow
 have hout:=qb1g hR ho hnow
 obtain ⟨hM,hH,hval⟩:=qbv6 I.mem u0 u1 (c:=2) hs (.inl rfl)
 have hdl:=I.mem.dlen
 have hd:∀ v:Int,0≤v→dsc (setD m.1 u ((dsc m.1 u).1,2,(dsc m.1 u).2.2)) v=if v=u then ((dsc m.1 u).1,2,(dsc m.1 u).2.2) else dsc m.1 v:=fun v v0=>qrq (by omega) v0
 have hC:qbs m.2.2.2.1 u=k:=I.call.openCE hk
 have e:soP (putM m (setD m.1 u ((dsc m.1 u).1,2,(dsc m.1 u).2.2))) u (dsc m.1 u).2.2.2.1=(setD m.1 u ((dsc m.1 u).1,2,(dsc m.1 u).2.2),m.2.1,m.2.2.1,
   m.2.2.2.1.set k.toNat ((getC m.2.2.2.1 k).1,(getC m.2.2.2.1 k).2.1,(getC m.2.2.2.1 k).2.2.1,m.2.2.1,(getC m.2.2.2.1 k).2.2.2.2.1,(dsc m.1 u).2.2.2.1,()),m.2.2.2.2.1++[k],m.2.2.2.2.2):=by
  unfold soP
  rw[show (putM m (setD m.1 u ((dsc m.1 u).1,2,(dsc m.1 u).2.2))).2.2.2.1=m.2.2.2.1 from rfl,hC,z5 (by have:=hk.rng;omega)]
  rfl
 rw[e]
 have hyes:∀ v:Int,0≤v→qeq (setD m.1 u ((dsc m.1 u).1,2,(dsc m.1 u).2.2),m.2.1,m.2.2.1,
   m.2.2.2.1.set k.toNat ((getC m.2.2.2.1 k).1,(getC m.2.2.2.1 k).2.1,(getC m.2.2.2.1 k).2.2.1,m.2.2.1,(getC m.2.2.2.1 k).2.2.2.2.1,(dsc m.1 u).2.2.2.1,()),m.2.2.2.2.1++[k],m.2.2.2.2.2) v=if v=u then some (dsc m.1 u).2.2.2.1 else qeq m v:=by
  intro v v0
  by_cases h:v=u
  ·subst h
   rw[z6 rfl]
   show (if ownB (thr m v) v=true∧(dsc (setD m.1 v ((dsc m.1 v).1,2,(dsc m.1 v).2.2)) v).2.1=2 then some (dsc (setD m.1 v ((dsc m.1 v).1,2,(dsc m.1 v).2.2)) v).2.2.2.1 else none)=_
   rw[hd v v0,z6 rfl,z6 ⟨hown,rfl⟩]
  ·rw[z5 h]
   show (if ownB (thr m v) v=true∧(dsc (setD m.1 u ((dsc m.1 u).1,2,(dsc m.1 u).2.2)) v).2.1=2 then some (dsc (setD m.1 u ((dsc m.1 u).1,2,(dsc m.1 u).2.2)) v).2.2.2.1 else none)=_
   rw[hd v v0,z5 h];rfl
 refine ⟨I.n,I.time,hM,?_,?_,?_,I.first⟩
 ·intro v v0 v1
  refine (I.th v v0 v1).move hH ?_ ?_
  ·show (dsc (setD m.1 u _) v).1=_
   rw[hd v v0];split
   ·next h=>rw[h]
   ·rfl
  ·show (dsc (setD m.1 u _) v).2.2=_
   rw[hd v v0];split
   ·next h=>rw[h]
   ·rfl
 ·exact I.call.so u0 u1 hk (by unfold qeq;rw[z5 (by omega)]) (by rw[hr];exact qbvn _ _) ((hyes u u0).trans (z6 rfl)) (fun v v0 h=>(hyes v v0).trans (z5 h))
 ·have gk:getC (m.2.2.2.1.set k.toNat ((getC m.2.2.2.1 k).1,(getC m.2.2.2.1 k).2.1,(getC m.2.2.2.1 k).2.2.1,m.2.2.1,(getC m.2.2.2.1 k).2.2.2.2.1,(dsc m.1 u).2.2.2.1,())) k=((getC m.2.2.2.1 k).1,(getC m.2.2.2.1 k).2.1,(getC m.2.2.2.1 k).2.2.1,m.2.2.1,(getC m.2.2.2.1 k).2.2.2.2.1,(dsc m.1 u).2.2.2.1,()):=by
   rw[qkl hk.rng hk.rng.1,z6 rfl]
  have hkn:k∉m.2.2.2.2.1:=fun q=>by
   have h1:=(I.call.ordr k q).2.2
   have h2:=(I.call.lin u k u0 u1 hk).1 (by unfold qeq;rw[z5 (by omega)])
   omega
  have hrep2:RepR (m.2.2.2.1.set k.toNat ((getC m.2.2.2.1 k).1,(getC m.2.2.2.1 k).2.1,(getC m.2.2.2.1 k).2.2.1,m.2.2.1,(getC m.2.2.2.1 k).2.2.2.2.1,(dsc m.1 u).2.2.2.1,())) m.2.2.2.2.2.1 m.2.2.2.2.1 R:=by
   refine hrep.same fun j hj=>?_
   rw[qkl hk.rng (I.call.ordr j hj).1,z5 (fun q:j=k=>hkn (by rw[←q];exact hj))]
   exact ⟨rfl,rfl⟩
  have hsn:=RepR.snoc (k:=k) hrep2 hR (by rw[gk];dsimp only;rw[hkop,hr];exact hout)
  rw[gk] at hsn
  dsimp only at hsn
  refine ⟨qcz R (getC m.2.2.2.1 k).2.1 (dsc m.1 u).2.2.2.1.1,by rw[hkop,hr];exact hturn.2,hsn,fun p p0 p1=>?_⟩
  show qhd (setD m.1 u _) p=_
  rw[hval p p0 p1,hkop,hr]
  by_cases hw:wd m.1 p=mkW u (dsc m.1 u).1
  ·rw[z6 ⟨rfl,hw⟩]
   rcases I.mem.word p p0 p1 with h | ⟨v,v0,v1,_,d,i,i0,i1,ei⟩
   ·exact absurd hw (qban h.1 u0)
   ·obtain rfl:v=u:=(qbc1 (d.symm.trans hw)).1
    rw[←ei,qba2 (I.mem.dok v v0 v1).asc i0 i1]
    have hm:=q7i i0 i1
    rw[hl] at hm ⊢
    exact (hturn.1.old _ hm).2.2.2
  ·rw[z5 (fun q=>hw q.2),hv p p0 p1]
   have:=hturn.1.rest p.toNat (by omega) (fun e he=>by
    rw[←hl] at he
    obtain ⟨i,i0,i1,hi⟩:=qbrf he
    intro q
    have:=hall i i0 i1
    rw[hi,q,show ((p.toNat:Nat):Int)=p by omega] at this
    exact hw this)
   rw[show ((p.toNat:Nat):Int)=p by omega] at this
   exact this
theorem qbz2 {m:Mach} (I:Inv m) {t:Int} (t0:0≤t) (t1:t<m.2.1.length) (hs:(thr m t).2.2.2.2.1≠[]):Inv (qlr m t):=by
 have T:=I.th t t0 t1
 have ho:=T.isOn hs
 have H:=T.help _ (q6f hs)
 have hw:=fun e=>T.own _ (q6f hs) e
 have hownt:ownB (thr m t) t=false→(topH (thr m t)).1≠t:=fun h e=>by rw[(qbmh T hs e).1] at h;cases h
 have hsw:=qb1d T hs
 have htop1:∀ k,(thr m t).2.2.2.2.1=[k]→topH (thr m t)=k:=fun k e=>by unfold topH;rw[e];rfl
 generalize hh:topH (thr m t)=h at *
 have u0:=H.t.1
 have u1:=H.t.2
 by_cases hd:(dsc m.1 h.1).1≠h.2.1
 ·have e:q8 m.1 h=(m.1,h,dH,2,()):=by unfold q8;rw[z6 hd]
  have hne:h.1≠t:=fun q=>hd (by rw[q];exact (hw q).symm)
  unfold qlr
  rw[hh,e]
  dsimp only
  rw[z5 (by decide),z6 rfl,z6 hne]
  obtain ⟨p1,p2,p3,p4⟩:=qbyn T hs (by rw[hh];exact hne)
  exact qox I t0 t1 ho I.mem (fun u _ _=>⟨rfl,rfl,Iff.rfl⟩) (fun k hk=>hk) p1 p2 p3 p4 (fun p _ _=>rfl)
 have hd':h.2.1=(dsc m.1 h.1).1:=by omega
 obtain ⟨c1,c2,c3,c4⟩:=H.cur hd'
 have swp:∀ {a:MemT} (hk:∀ k,HelpI m.1 m.2.1.length k→HelpI a m.2.1.length k) {h':qep} (he:HelpI a m.2.1.length h') (e1:h'.1=h.1) (e2:h'.2.1=h.2.1),_:=fun {a} hk {h'} he e1 e2=>
  qbvu T hs hk he (fun q=>by rw[e2];exact hw (e1 ▸ q)) (fun q=>by rw[e1];exact hownt q) (fun k ek q=>by rw[e1,htop1 k ek];exact q)
 by_cases hst:(dsc m.1 h.1).2.1=1
 ·by_cases hat:((dsc m.1 h.1).2.2.1.length:Int)≤h.2.2.1
  ·have e:q8 m.1 h=(setD m.1 h.1 ((dsc m.1 h.1).1,2,(dsc m.1 h.1).2.2),h,dH,3,()):=by unfold q8;rw[z5 hd,z6 hst,z6 hat]
   unfold qlr
   rw[hh,e]
   dsimp only
   rw[z5 (by decide),z5 (by decide),z6 rfl,hsw]
   have hall:=(c3 hst).2
   have:=qb2o I u0 u1 hst (fun i i0 i1=>by rw[←hd'];exact hall i i0 (by omega))
   have e2:(soP (putM m (setD m.1 h.1 ((dsc m.1 h.1).1,2,(dsc m.1 h.1).2.2))) h.1 (dsc m.1 h.1).2.2.2.1).2.1=m.2.1:=by unfold soP;split<;>rfl
   have e3:=q5h e2 t
   rw[←e3,qbze t0 (by rw[e2];exact t1)]
   exact this
  have hlt:h.2.2.1<(dsc m.1 h.1).2.2.1.length:=by omega
  have i0:=H.at0.1
  have hent:=I.mem.ent u0 u1 i0 hlt
  by_cases hmk:wd m.1 (qo (dsc m.1 h.1).2.2.1 h.2.2.1).1=mkW h.1 h.2.1
  ·have e:q8 m.1 h=(m.1,(h.1,h.2.1,h.2.2.1+1,h.2.2.2),dH,0,()):=by unfold q8;rw[z5 hd,z6 hst,z5 hat,z6 hmk]
   have hn:HelpI m.1 m.2.1.length (h.1,h.2.1,h.2.2.1+1,h.2.2.2):=by
    refine ⟨H.t,H.seq,⟨by dsimp only;omega,by dsimp only;have:=(I.mem.dok _ u0 u1).len;omega⟩,H.fin,fun _=>⟨by dsimp only;omega,c2,fun _=>⟨(c3 hst).1,fun i a b=>?_⟩,fun q=>absurd hst q⟩⟩
    dsimp only at b ⊢
    by_cases hi:i=h.2.2.1
    ·rw[hi];exact hmk
    ·exact (c3 hst).2 i a (by omega)
   unfold qlr
   rw[hh,e]
   dsimp only
   rw[z5 (by decide),z5 (by decide),z5 (by decide)]
   obtain ⟨p1,p2,p3,p4⟩:=swp (fun k hk=>hk) hn rfl rfl
   exact qox I t0 t1 ho I.mem (fun u _ _=>⟨rfl,rfl,Iff.rfl⟩) (fun k hk=>hk) p1 p2 p3 p4 (fun p _ _=>rfl)
  by_cases hwt:(wd m.1 (qo (dsc m.1 h.1).2.2.1 h.2.2.1).1).2.1≠0
  ·have e:q8 m.1 h=(m.1,h,((wd m.1 (qo (dsc m.1 h.1).2.2.1 h.2.2.1).1).2.1 - 1,(wd m.1 (qo (dsc m.1 h.1).2.2.1 h.2.2.1).1).2.2.1,0,0,()),1,()):=by unfold q8;rw[z5 hd,z6 hst,z5 hat,z5 hmk,z6 hwt]
   rcases I.mem.word _ hent.1.1 hent.1.2 with hq | ⟨v,v0,v1,vo,vm,j,j0,j1,je⟩
   ·exact absurd hq.1 hwt
   have e2:((wd m.1 (qo (dsc m.1 h.1).2.2.1 h.2.2.1).1).2.1 - 1,(wd m.1 (qo (dsc m.1 h.1).2.2.1 h.2.2.1).1).2.2.1,(0:Int),(0:Int),())=(v,(dsc m.1 v).1,0,0,()):=by
    rw[vm];simp only[mkW];rw[show v+1 - 1=v by omega]
   rw[e2] at e
   have hvu:v≠h.1:=fun q=>hmk (by rw[vm,q,hd'])
   have hn:HelpI m.1 m.2.1.length (v,(dsc m.1 v).1,0,0,()):=by
    refine ⟨⟨v0,v1⟩,⟨I.mem.owns v v0 v1 vo,Int.le_refl _⟩,⟨by dsimp only;omega,by dsimp only;omega⟩,⟨by dsimp only;omega,by dsimp only;omega⟩,fun _=>⟨by dsimp only;omega,by dsimp only;omega,fun _=>⟨rfl,fun i a b=>?_⟩,fun _ i a b=>?_⟩⟩
    ·dsimp only at b;omega
    ·dsimp only at b;omega
   unfold qlr
   rw[hh,e]
   dsimp only
   rw[z6 rfl]
   by_cases hc:h.1=t∧(thr m t).2.2.2.2.1.length=1
   ·rw[z6 hc]
    have hk:∃ k,(thr m t).2.2.2.2.1=[k]:=by
     match hq:(thr m t).2.2.2.2.1,hc.2 with
     | [k],_=>exact ⟨k,rfl⟩
    obtain ⟨k,hk⟩:=hk
    have hkt:k.1=t:=by rw[←htop1 k hk];exact hc.1
    obtain ⟨p1,p2,p3,p4⟩:=qbv2 T hn (by show v≠t;rw[←hc.1];exact hvu) (.inr ⟨k,hk,hkt⟩)
    exact qox I t0 t1 ho I.mem (fun u _ _=>⟨rfl,rfl,Iff.rfl⟩) (fun k hk=>hk) p1 p2 p3 p4 (fun p _ _=>rfl)
   ·rw[z5 hc]
    obtain ⟨p1,p2,p3,p4⟩:=qbvu T hs (fun k hk=>hk) hn (fun q=>by dsimp only at q ⊢;rw[q]) (fun q=>by
      intro q2
      dsimp only at q2
      rw[q2] at vo
      unfold ownP at vo
      rw[q] at vo;cases vo) (fun k ek q=>by
      exfalso
      exact hc ⟨by rw[htop1 k ek];exact q,by rw[ek];rfl⟩)
    exact qox I t0 t1 ho I.mem (fun u _ _=>⟨rfl,rfl,Iff.rfl⟩) (fun k hk=>hk) p1 p2 p3 p4 (fun p _ _=>rfl)
  have hw0:(wd m.1 (qo (dsc m.1 h.1).2.2.1 h.2.2.1).1).2.1=0:=by omega
  by_cases hold:(wd m.1 (qo (dsc m.1 h.1).2.2.1 h.2.2.1).1).1=(qo (dsc m.1 h.1).2.2.1 h.2.2.1).2.1
  ·have e:q8 m.1 h=(setW m.1 (qo (dsc m.1 h.1).2.2.1 h.2.2.1).1 (mkW h.1 h.2.1),(h.1,h.2.1,h.2.2.1+1,h.2.2.2),dH,0,()):=by unfold q8;rw[z5 hd,z6 hst,z5 hat,z5 hmk,z5 hwt,z6 hold]
   obtain ⟨hM,hV,hH⟩:=q4w I.mem u0 u1 hst i0 hlt hw0 hold (fun j a b=>by rw[←hd'];exact (c3 hst).2 j a b)
   rw[←hd'] at hM hV hH
   have hn:HelpI (setW m.1 (qo (dsc m.1 h.1).2.2.1 h.2.2.1).1 (mkW h.1 h.2.1)) m.2.1.length (h.1,h.2.1,h.2.2.1+1,h.2.2.2):=by
    refine ⟨H.t,H.seq,⟨by dsimp only;omega,by dsimp only;have:=(I.mem.dok _ u0 u1).len;omega⟩,H.fin,fun _=>⟨by dsimp only;exact hlt,c2,fun _=>⟨(c3 hst).1,fun i a b=>?_⟩,fun q=>absurd hst q⟩⟩
    dsimp only at b ⊢
    have hlen:=I.mem.len
    rw[show dsc (setW m.1 (qo (dsc m.1 h.1).2.2.1 h.2.2.1).1 (mkW h.1 h.2.1)) h.1=dsc m.1 h.1 from rfl]
    have hea:=I.mem.ent u0 u1 a (by omega:i<_)
    rw[qbfj (by omega) hea.1.1]
    by_cases hi:(qo (dsc m.1 h.1).2.2.1 i).1=(qo (dsc m.1 h.1).2.2.1 h.2.2.1).1
    ·rw[z6 hi]
    ·rw[z5 hi]
     exact (c3 hst).2 i a (by
      by_cases q:i=h.2.2.1
      ·exact absurd (by rw[q]) hi
      ·omega)
   unfold qlr
   rw[hh,e]
   dsimp only
   rw[z5 (by decide),z5 (by decide),z5 (by decide)]
   obtain ⟨p1,p2,p3,p4⟩:=swp hH hn rfl rfl
   exact qox I t0 t1 ho hM (fun u _ _=>⟨rfl,rfl,Iff.rfl⟩) hH p1 p2 p3 p4 hV
  ·have e:q8 m.1 h=(setD m.1 h.1 ((dsc m.1 h.1).1,3,(dsc m.1 h.1).2.2),h,dH,0,()):=by unfold q8;rw[z5 hd,z6 hst,z5 hat,z5 hmk,z5 hwt,z5 hold]
   obtain ⟨hM,hH,hV⟩:=qbv6 I.mem u0 u1 (c:=3) hst (.inr rfl)
   have hdl:=I.mem.dlen
   have hdd:∀ v:Int,0≤v→dsc (setD m.1 h.1 ((dsc m.1 h.1).1,3,(dsc m.1 h.1).2.2)) v=if v=h.1 then ((dsc m.1 h.1).1,3,(dsc m.1 h.1).2.2) else dsc m.1 v:=fun v v0=>qrq (by omega) v0
   unfold qlr
   rw[hh,e]
   dsimp only
   rw[z5 (by decide),z5 (by decide),z5 (by decide)]
   obtain ⟨p1,p2,p3,p4⟩:=swp hH (hH _ H) rfl rfl
   refine qox I t0 t1 ho hM (fun v v0 _=>?_) hH p1 p2 p3 p4 (fun p a b=>by rw[hV p a b,z5 (by omega)])
   rw[hdd v v0]
   by_cases q:v=h.1
   ·rw[z6 q,q];exact ⟨rfl,rfl,by dsimp only;omega⟩
   ·rw[z5 q];exact ⟨rfl,rfl,Iff.rfl⟩
 ·by_cases hfin:((dsc m.1 h.1).2.2.1.length:Int)≤h.2.2.2.1
  ·have e:q8 m.1 h=(m.1,h,dH,2,()):=by unfold q8;rw[z5 hd,z5 hst,z6 hfin]
   unfold qlr
   rw[hh,e]
   dsimp only
   rw[z5 (by decide),z6 rfl]
   by_cases hne:h.1≠t
   ·rw[z6 hne]
    obtain ⟨p1,p2,p3,p4⟩:=qbyn T hs (by rw[hh];exact hne)
    exact qox I t0 t1 ho I.mem (fun u _ _=>⟨rfl,rfl,Iff.rfl⟩) (fun k hk=>hk) p1 p2 p3 p4 (fun p _ _=>rfl)
   rw[z5 hne]
   have hht:h.1=t:=by omega
   have hown:=(qbmh T hs (by rw[hh];exact hht)).1
   have hsq:=hw hht
   rw[hht] at hst c4 hfin
   rw[hsq] at c4
   have hclean:∀ i:Int,0≤i→i<(dsc m.1 t).2.2.1.length→wd m.1 (qo (dsc m.1 t).2.2.1 i).1≠mkW t (dsc m.1 t).1:=fun i a b=>c4 hst i a (by omega)
   have hseq:=I.mem.owns t t0 t1 hown
   have hst3:=(I.mem.dok t t0 t1).st.2 hseq
   by_cases hy:(dsc m.1 t).2.1=2
   ·rw[z6 hy]
    obtain ⟨k,hk,_⟩:=I.call.opn t t0 t1 ho
    have hthr:∀ u:Int,0≤u→thr (endP (putM m m.1) t (dsc m.1 t).2.2.2.1) u=if u=t then ((thr m t).1,(thr m t).2.1+1,false,[],[],()) else thr m u:=fun u u0=>by
     unfold endP
     have h2:(endC (putM m m.1) t (dsc m.1 t).2.2.2.1).2.1=m.2.1:=by unfold endC;split<;>rfl
     rw[qhg (by rw[h2];exact ⟨t0,t1⟩) u0,q5h h2 u]
     rfl
    refine qbvp (m:=m) t0 t1 I.n I.time ?_ I.th ho I.call hk (by unfold qeq;rw[z6 ⟨hown,hy⟩]) (fun _ _ _=>rfl) I.rep I.first
    refine qbpa I.mem t0 t1 hst hclean (fun u u0 hu=>?_) ?_
    ·unfold ownP
     rw[show endP m t (dsc m.1 t).2.2.2.1=endP (putM m m.1) t (dsc m.1 t).2.2.2.1 from rfl,hthr u u0,z5 hu]
    ·unfold ownP
     rw[show endP m t (dsc m.1 t).2.2.2.1=endP (putM m m.1) t (dsc m.1 t).2.2.2.1 from rfl,hthr t t0,z6 rfl]
     simp[ownB]
   ·rw[z5 hy]
    refine qbfa I t0 t1 ?_ (fun u _ _ _=>⟨rfl,rfl⟩) (fun k hk=>hk) ?_ ⟨rfl,rfl,rfl⟩ (fun u u0 u1=>?_) (fun p _ _=>rfl)
    ·refine qbpa I.mem t0 t1 hst hclean (fun u u0 hu=>?_) ?_
     ·unfold ownP;rw[qhg (m:=putM m m.1) ⟨t0,t1⟩ u0,z5 hu];exact Iff.rfl
     ·unfold ownP;rw[qhg (m:=putM m m.1) ⟨t0,t1⟩ t0,z6 rfl];simp[ownB]
    ·exact T.rest _ (fun _=>T.on ho)
    ·unfold qeq
     rw[qhg (m:=putM m m.1) ⟨t0,t1⟩ u0]
     by_cases q:u=t
     ·rw[z6 q,q,z5 (by simp[ownB]),z5 (fun z=>hy z.2)]
     ·rw[z5 q];rfl
  ·have hlt:h.2.2.2.1<(dsc m.1 h.1).2.2.1.length:=by omega
   have i0:=H.fin.1
   have hent:=I.mem.ent u0 u1 i0 hlt
   by_cases hmk:wd m.1 (qo (dsc m.1 h.1).2.2.1 h.2.2.2.1).1=mkW h.1 h.2.1
   ·have e:q8 m.1 h=(setW m.1 (qo (dsc m.1 h.1).2.2.1 h.2.2.2.1).1 (if (dsc m.1 h.1).2.1=2 then (qo (dsc m.1 h.1).2.2.1 h.2.2.2.1).2.2.1 else (qo (dsc m.1 h.1).2.2.1 h.2.2.2.1).2.1,0,0,()),(h.1,h.2.1,h.2.2.1,h.2.2.2.1+1,()),dH,0,()):=by
     unfold q8;rw[z5 hd,z5 hst,z5 hfin,z6 hmk]
    obtain ⟨hM,hV,hH⟩:=qb3i I.mem u0 u1 hst i0 hlt (by rw[←hd'];exact hmk)
    have hn:HelpI (setW m.1 (qo (dsc m.1 h.1).2.2.1 h.2.2.2.1).1 (if (dsc m.1 h.1).2.1=2 then (qo (dsc m.1 h.1).2.2.1 h.2.2.2.1).2.2.1 else (qo (dsc m.1 h.1).2.2.1 h.2.2.2.1).2.1,0,0,())) m.2.1.length (h.1,h.2.1,h.2.2.1,h.2.2.2.1+1,()):=by
     refine ⟨H.t,H.seq,H.at0,⟨by dsimp only;omega,by dsimp only;have:=(I.mem.dok _ u0 u1).len;omega⟩,fun _=>⟨c1,by dsimp only;exact hlt,fun q=>absurd q hst,fun _ i a b=>?_⟩⟩
     dsimp only at b ⊢
     have hlen:=I.mem.len
     rw[show ∀ w,dsc (setW m.1 (qo (dsc m.1 h.1).2.2.1 h.2.2.2.1).1 w) h.1=dsc m.1 h.1 from fun w=>rfl]
     have hea:=I.mem.ent u0 u1 a (by omega:i<_)
     rw[qbfj (by omega) hea.1.1]
     by_cases hi:(qo (dsc m.1 h.1).2.2.1 i).1=(qo (dsc m.1 h.1).2.2.1 h.2.2.2.1).1
     ·rw[z6 hi];exact qban rfl u0
     ·rw[z5 hi]
      exact c4 hst i a (by
       by_cases q:i=h.2.2.2.1
       ·exact absurd (by rw[q]) hi
       ·omega)
    unfold qlr
    rw[hh,e]
    dsimp only
    rw[z5 (by decide),z5 (by decide),z5 (by decide)]
    obtain ⟨p1,p2,p3,p4⟩:=swp hH hn rfl rfl
    exact qox I t0 t1 ho hM (fun u _ _=>⟨rfl,rfl,Iff.rfl⟩) hH p1 p2 p3 p4 hV
   ·have e:q8 m.1 h=(m.1,(h.1,h.2.1,h.2.2.1,h.2.2.2.1+1,()),dH,0,()):=by
     unfold q8;rw[z5 hd,z5 hst,z5 hfin,z5 hmk]
    have hn:HelpI m.1 m.2.1.length (h.1,h.2.1,h.2.2.1,h.2.2.2.1+1,()):=by
     refine ⟨H.t,H.seq,H.at0,⟨by dsimp only;omega,by dsimp only;have:=(I.mem.dok _ u0 u1).len;omega⟩,fun _=>⟨c1,by dsimp only;exact hlt,fun q=>absurd q hst,fun _ i a b=>?_⟩⟩
     dsimp only at b ⊢
     by_cases q:i=h.2.2.2.1
     ·rw[q];exact hmk
     ·exact c4 hst i a (by omega)
    unfold qlr
    rw[hh,e]
    dsimp only
    rw[z5 (by decide),z5 (by decide),z5 (by decide)]
    obtain ⟨p1,p2,p3,p4⟩:=swp (fun k hk=>hk) hn rfl rfl
    exact qox I t0 t1 ho I.mem (fun u _ _=>⟨rfl,rfl,Iff.rfl⟩) (fun k hk=>hk) p1 p2 p3 p4 (fun p _ _=>rfl)
end Go.G

namespace Go.G
set_option maxRecDepth 100000
open Go Go.V Go.Proofs
theorem qblw {m:Mach} (a:MemT) {t u:Int} {x:ThT} (h:0≤t∧t<m.2.1.length) (u0:0≤u):thr (setT (putM m a) t x) u=if u=t then x else thr m u:=qhg (m:=putM m a) h u0
theorem qb09 {got:Got} (h:qbaz got) {q v:Int} (hv:0≤v∧v≤6):qbaz (got++[(q,v,())]):=by
 intro g hg
 rcases z18.1 hg with k | k
 ·exact h g k
 ·rw[z23] at k;rw[k];exact hv
theorem qbs8 {m:Mach} (I:Inv m) {t:Int} (t0:0≤t) (t1:t<m.2.1.length) (ho:(thr m t).2.2.1=true) (hs:(thr m t).2.2.2.2.1=[]) (hseq:(dsc m.1 t).1+1≤m.2.2.1):Inv (q4k m t):=by
  have T:=I.th t t0 t1
  have hop:=T.op ho
  have hnown:=qy2 (t:=t) hs
  have hno:¬ ownP m t:=by unfold ownP;rw[hnown];simp
  obtain ⟨q,B,hq⟩:=T.read ho hnown
  have hal:=T.along ho
  obtain ⟨hr1,hr2⟩:=q05 hop T.got hal
  have hnx:q55 (thr m t)=q∧(0≤q∧q<20)∧q∉qb0 (thr m t).2.2.2.1∧(thr m t).2.2.2.1.length<8:=by
    rcases hr2 with h | ⟨q',B',h,h2,h3,h4,h5⟩
    · rw[hq] at h
      have:=congrArg List.length h.1
      simp at this
    · rw[hq] at h
      have:=List.append_cancel_left h
      simp only[z36] at this
      obtain ⟨rfl,_⟩:=this
      exact ⟨h2,h3,h4,h5⟩
  obtain ⟨hnx,hqr,hqn,hlen⟩:=hnx
  obtain ⟨R,hR,hrep,hv⟩:=I.rep
  unfold q4k
  have hgx:gotX m (thr m t)=(thr m t).2.2.2.1++[(q,(wd m.1 q).1,())]:=by unfold gotX;rw[hnx]
  rw[hnx,hgx]
  by_cases hw:(wd m.1 q).2.1≠0
  · rw[z6 hw]
    rcases I.mem.word q hqr.1 hqr.2 with h | ⟨v,v0,v1,vo,vm,j,j0,j1,je⟩
    · exact absurd h.1 hw
    have e2:((wd m.1 q).2.1 - 1,(wd m.1 q).2.2.1,(0:Int),(0:Int),())=(v,(dsc m.1 v).1,0,0,()):=by
      rw[vm];simp only[mkW];rw[show v+1 - 1=v by omega]
    rw[e2]
    have hn:HelpI m.1 m.2.1.length (v,(dsc m.1 v).1,0,0,()):=by
      refine ⟨⟨v0,v1⟩,⟨I.mem.owns v v0 v1 vo,Int.le_refl _⟩,⟨by dsimp only;omega,by dsimp only;omega⟩,⟨by dsimp only;omega,by dsimp only;omega⟩,fun _=>⟨by dsimp only;omega,by dsimp only;omega,fun _=>⟨rfl,fun i a b=>?_⟩,fun _ i a b=>?_⟩⟩
      · dsimp only at b;omega
      · dsimp only at b;omega
    obtain ⟨p1,p2,p3,p4⟩:=qbv2 T hn (fun e=>hno (by rw[←show v=t from e];exact vo)) (.inl hs)
    exact qox I t0 t1 ho I.mem (fun u _ _=>⟨rfl,rfl,Iff.rfl⟩) (fun k hk=>hk) p1 p2 p3 p4 (fun p _ _=>rfl)
  have hw0:(wd m.1 q).2.1=0:=by omega
  rw[z5 hw]
  have hval:(wd m.1 q).1=wOf R q:=by rw[←qvf hw0,hv q hqr.1 hqr.2]
  rw[hval]
  have hg':qbaz ((thr m t).2.2.2.1++[(q,wOf R q,())]):=qb09 T.got (qbqu hR q hqr)
  have hal':q79 ((thr m t).2.2.2.1++[(q,wOf R q,())]) (opT (thr m t)):=qbws hop T.got hal hq hqn _
  obtain ⟨hr1',hr2'⟩:=q05 hop hg' hal'
  by_cases hlt:¬ (run ((thr m t).2.2.2.1++[(q,wOf R q,())]) (prog (opT (thr m t)))).2<0
  · have hpl:qch (opT (thr m t)) ((thr m t).2.2.2.1++[(q,wOf R q,())])=(qbzc,false,()):=by unfold qch;rw[z5 (fun z=>hlt z.2)]
    rw[hpl,z6 rfl]
    have hb:ownB (qk1 (thr m t) ((thr m t).2.2.2.1++[(q,wOf R q,())])) t=ownB (thr m t) t:=rfl
    refine qbfa I t0 t1 (I.mem.own_mono fun u u0 _=>qbsr (a:=m.1) t0 t1 hb u u0) (fun u _ _ _=>⟨rfl,rfl⟩) (fun k hk=>hk) ?_ ⟨rfl,rfl,rfl⟩ (fun u u0 _=>qbtg t0 t1 u0 hb Iff.rfl rfl) (fun p _ _=>rfl)
    exact { ops:=T.ops,pc:=T.pc,on:=T.on,off:=fun e=>by rw[show (qk1 (thr m t) ((thr m t).2.2.2.1++[(q,wOf R q,())])).2.2.1=(thr m t).2.2.1 from rfl,ho] at e;cases e
            got:=hg',st:=T.st,help:=T.help,own:=T.own,along:=fun _=>hal'
            read:=fun _ _=>by
              rcases hr2' with h | ⟨q',B',h,_⟩
              · exact absurd h.2 (by omega)
              · exact ⟨q',B',h⟩
            plan:=fun e=>by rw[hb,hnown] at e;cases e }
  replace hlt:(run ((thr m t).2.2.2.1++[(q,wOf R q,())]) (prog (opT (thr m t)))).2<0:=by omega
  have hcomp:path (valw ((thr m t).2.2.2.1++[(q,wOf R q,())])) (prog (opT (thr m t)))=qb0 ((thr m t).2.2.2.1++[(q,wOf R q,())]):=by
    rcases hr2' with h | ⟨q',B',h,h2,h3,_⟩
    · exact h.1
    · omega
  obtain ⟨k,hk,hkop⟩:=I.call.opn t t0 t1 ho
  have hyn:qeq m t=none:=by unfold qeq;rw[z5 (fun z=>by rw[hnown] at z;cases z.1)]
  cases hnow:qgj (opT (thr m t)) ((thr m t).2.2.2.1++[(q,wOf R q,())]) with
  | some y=>
    have hpl:qch (opT (thr m t)) ((thr m t).2.2.2.1++[(q,wOf R q,())])=((true,(y.1,y.2,()),[],()),true,()):=by unfold qch;rw[z6 ⟨hop,hlt⟩,hnow]
    rw[hpl]
    dsimp only
    rw[z5 (by simp),z6 rfl]
    obtain ⟨hout,haft,hyl⟩:=qb3k hR hop hcomp hnow
    have hC:qbs m.2.2.2.1 t=k:=I.call.openCE hk
    have e:soP m t (y.1,y.2,())=(m.1,m.2.1,m.2.2.1,m.2.2.2.1.set k.toNat ((getC m.2.2.2.1 k).1,(getC m.2.2.2.1 k).2.1,(getC m.2.2.2.1 k).2.2.1,m.2.2.1,(getC m.2.2.2.1 k).2.2.2.2.1,(y.1,y.2,()),()),m.2.2.2.2.1++[k],m.2.2.2.2.2):=by
      unfold soP
      rw[hC,z5 (by have:=hk.rng;omega)]
      rfl
    have hso:=I.call.so (r:=(y.1,y.2,())) t0 t1 hk hyn hyl (yes':=fun u=>if u=t then some (y.1,y.2,()) else qeq m u) (z6 rfl) (fun u _ h=>z5 h)
    have hkn:k∉m.2.2.2.2.1:=fun z=>by
      have h1:=(I.call.ordr k z).2.2
      have h2:=(I.call.lin t k t0 t1 hk).1 hyn
      omega
    have gk:getC (m.2.2.2.1.set k.toNat ((getC m.2.2.2.1 k).1,(getC m.2.2.2.1 k).2.1,(getC m.2.2.2.1 k).2.2.1,m.2.2.1,(getC m.2.2.2.1 k).2.2.2.2.1,(y.1,y.2,()),())) k=((getC m.2.2.2.1 k).1,(getC m.2.2.2.1 k).2.1,(getC m.2.2.2.1 k).2.2.1,m.2.2.1,(getC m.2.2.2.1 k).2.2.2.2.1,(y.1,y.2,()),()):=by
      rw[qkl hk.rng hk.rng.1,z6 rfl]
    have hsn:RepR (m.2.2.2.1.set k.toNat ((getC m.2.2.2.1 k).1,(getC m.2.2.2.1 k).2.1,(getC m.2.2.2.1 k).2.2.1,m.2.2.1,(getC m.2.2.2.1 k).2.2.2.2.1,(y.1,y.2,()),())) m.2.2.2.2.2.1 (m.2.2.2.2.1++[k]) R:=by
      have hrep2:RepR (m.2.2.2.1.set k.toNat ((getC m.2.2.2.1 k).1,(getC m.2.2.2.1 k).2.1,(getC m.2.2.2.1 k).2.2.1,m.2.2.1,(getC m.2.2.2.1 k).2.2.2.2.1,(y.1,y.2,()),())) m.2.2.2.2.2.1 m.2.2.2.2.1 R:=by
        refine hrep.same fun j hj=>?_
        rw[qkl hk.rng (I.call.ordr j hj).1,z5 (fun z:j=k=>hkn (by rw[←z];exact hj))]
        exact ⟨rfl,rfl⟩
      have h:=RepR.snoc (k:=k) hrep2 hR (by rw[gk];dsimp only;rw[hkop];exact hout)
      rw[gk] at h
      dsimp only at h
      rw[show qcz R (getC m.2.2.2.1 k).2.1 y.1=R by rw[hkop];exact haft] at h
      exact h
    rw[e]
    have hthr:∀ u:Int,0≤u→thr (endP (m.1,m.2.1,m.2.2.1,m.2.2.2.1.set k.toNat ((getC m.2.2.2.1 k).1,(getC m.2.2.2.1 k).2.1,(getC m.2.2.2.1 k).2.2.1,m.2.2.1,(getC m.2.2.2.1 k).2.2.2.2.1,(y.1,y.2,()),()),m.2.2.2.2.1++[k],m.2.2.2.2.2) t (y.1,y.2,())) u=if u=t then ((thr m t).1,(thr m t).2.1+1,false,[],[],()) else thr m u:=by
      intro u u0
      unfold endP
      have h2:(endC (m.1,m.2.1,m.2.2.1,m.2.2.2.1.set k.toNat ((getC m.2.2.2.1 k).1,(getC m.2.2.2.1 k).2.1,(getC m.2.2.2.1 k).2.2.1,m.2.2.1,(getC m.2.2.2.1 k).2.2.2.2.1,(y.1,y.2,()),()),m.2.2.2.2.1++[k],m.2.2.2.2.2) t (y.1,y.2,())).2.1=m.2.1:=by unfold endC;split<;>rfl
      rw[qhg (by rw[h2];exact ⟨t0,t1⟩) u0,q5h h2 u]
      rfl
    refine qbvp (m:=(m.1,m.2.1,m.2.2.1,m.2.2.2.1.set k.toNat ((getC m.2.2.2.1 k).1,(getC m.2.2.2.1 k).2.1,(getC m.2.2.2.1 k).2.2.1,m.2.2.1,(getC m.2.2.2.1 k).2.2.2.2.1,(y.1,y.2,()),()),m.2.2.2.2.1++[k],m.2.2.2.2.2)) (k:=k) (yes:=fun u=>if u=t then some (y.1,y.2,()) else qeq m u)
      t0 t1 I.n I.time ?_ I.th ho hso ?_ (z6 rfl) (fun u _ h=>z5 h) ⟨R,hR,hsn,hv⟩ I.first
    · refine I.mem.own_mono fun u u0 _=>?_
      unfold ownP
      rw[hthr u u0]
      by_cases h:u=t
      · rw[z6 h,h,hnown];simp[ownB]
      · rw[z5 h]
    · exact ⟨by simpa using hk.rng,by show (getC (m.2.2.2.1.set _ _) k).1=t;rw[gk];exact hk.t,by show (getC (m.2.2.2.1.set _ _) k).2.2.2.2.1 = -1;rw[gk];exact hk.fin⟩
  | none=>
    have hpl:qch (opT (thr m t)) ((thr m t).2.2.2.1++[(q,wOf R q,())])=((false,resP (opT (thr m t)) ((thr m t).2.2.2.1++[(q,wOf R q,())]),entP (opT (thr m t)) ((thr m t).2.2.2.1++[(q,wOf R q,())]),()),true,()):=by unfold qch;rw[z6 ⟨hop,hlt⟩,hnow]
    rw[hpl]
    dsimp only
    rw[z5 (by simp),z5 (by simp)]
    have hE:=qbva hop hg' hal' hcomp hnow
    have hEr:=qbvc hop hg' hal' hcomp hnow
    have hEl:=(qbm2 hop hg' hal' hcomp hnow).2.2
    rw[z19,List.length_singleton] at hEl
    generalize hx:qblm (qk1 (thr m t) ((thr m t).2.2.2.1++[(q,wOf R q,())])) (t,(dsc m.1 t).1+1,0,0,())=x
    have hstk:x.2.2.2.2.1=[(t,(dsc m.1 t).1+1,0,0,())]:=by rw[←hx];show (thr m t).2.2.2.2.1++_=_;rw[hs];rfl
    have hgot:x.2.2.2.1=(thr m t).2.2.2.1++[(q,wOf R q,())]:=by rw[←hx];rfl
    have hopx:opT x=opT (thr m t):=by rw[←hx];rfl
    have hon:x.2.2.1=true:=by rw[←hx];exact ho
    have hownx:ownB x t=true:=(qbik x t).2 ⟨_,_,hstk,rfl⟩
    have hdl:=I.mem.dlen
    obtain ⟨hM,hH,hV⟩:=qb2j I.mem t0 t1 hno (own':=ownP (setT (putM m (setD m.1 t ((dsc m.1 t).1+1,1,entP (opT (thr m t)) ((thr m t).2.2.2.1++[(q,wOf R q,())]),resP (opT (thr m t)) ((thr m t).2.2.2.1++[(q,wOf R q,())]),()))) t x))
      (by unfold ownP;rw[qblw _ ⟨t0,t1⟩ t0,z6 rfl];exact hownx) (fun u u0 h=>by unfold ownP;rw[qblw _ ⟨t0,t1⟩ u0,z5 h])
      (r:=resP (opT (thr m t)) ((thr m t).2.2.2.1++[(q,wOf R q,())])) hE (by omega) hEr hseq (qbvn _ _)
    have hd:∀ u:Int,0≤u→dsc (setD m.1 t ((dsc m.1 t).1+1,1,entP (opT (thr m t)) ((thr m t).2.2.2.1++[(q,wOf R q,())]),resP (opT (thr m t)) ((thr m t).2.2.2.1++[(q,wOf R q,())]),())) u=if u=t then ((dsc m.1 t).1+1,1,entP (opT (thr m t)) ((thr m t).2.2.2.1++[(q,wOf R q,())]),resP (opT (thr m t)) ((thr m t).2.2.2.1++[(q,wOf R q,())]),()) else dsc m.1 u:=fun u u0=>qrq (by omega) u0
    have hdt:=(hd t t0).trans (z6 rfl)
    have hsq0:=(I.mem.dok t t0 t1).seq.1
    refine qbfa I t0 t1 hM (fun u u0 _ h=>by rw[hd u u0,z5 h];exact ⟨rfl,rfl⟩) hH ?_ (by rw[←hx];exact ⟨rfl,rfl,rfl⟩) (fun u u0 _=>?_) hV
    · exact { ops:=by rw[←hx];exact T.ops,pc:=by rw[←hx];exact T.pc,on:=fun _=>by rw[←hx];exact T.on ho,off:=fun e=>by rw[hon] at e;cases e
              got:=by rw[hgot];exact hg'
              st:=.inr (.inl ⟨_,hstk⟩)
              help:=fun k hk=>by
                rw[hstk,z23] at hk
                subst hk
                refine ⟨⟨t0,t1⟩,⟨by dsimp only;omega,by dsimp only;rw[hdt];exact Int.le_refl _⟩,⟨by dsimp only;omega,by dsimp only;omega⟩,⟨by dsimp only;omega,by dsimp only;omega⟩,fun _=>⟨by dsimp only;omega,by dsimp only;omega,fun _=>⟨rfl,fun i a b=>?_⟩,fun _ i a b=>?_⟩⟩
                · dsimp only at b;omega
                · dsimp only at b;omega
              own:=fun k hk _=>by
                rw[hstk,z23] at hk
                rw[hk,hdt]
              along:=fun _=>by rw[hgot,hopx];exact hal'
              read:=fun _ e=>by rw[hownx] at e;cases e
              plan:=fun _=>by rw[hgot,hopx,hdt];exact ⟨hcomp,hnow,rfl,rfl⟩ }
    · by_cases h:u=t
      · subst h
        rw[hyn]
        unfold qeq
        rw[show (setT (putM m (setD m.1 u ((dsc m.1 u).1+1,1,entP (opT (thr m u)) ((thr m u).2.2.2.1++[(q,wOf R q,())]),resP (opT (thr m u)) ((thr m u).2.2.2.1++[(q,wOf R q,())]),()))) u x).1=setD m.1 u ((dsc m.1 u).1+1,1,entP (opT (thr m u)) ((thr m u).2.2.2.1++[(q,wOf R q,())]),resP (opT (thr m u)) ((thr m u).2.2.2.1++[(q,wOf R q,())]),()) from rfl,hdt,z5 (fun z=>by have:=z.2;dsimp only at this;omega)]
      · unfold qeq
        rw[show (setT (putM m (setD m.1 t ((dsc m.1 t).1+1,1,entP (opT (thr m t)) ((thr m t).2.2.2.1++[(q,wOf R q,())]),resP (opT (thr m t)) ((thr m t).2.2.2.1++[(q,wOf R q,())]),()))) t x).1=setD m.1 t ((dsc m.1 t).1+1,1,entP (opT (thr m t)) ((thr m t).2.2.2.1++[(q,wOf R q,())]),resP (opT (thr m t)) ((thr m t).2.2.2.1++[(q,wOf R q,())]),()) from rfl,hd u u0,z5 h,qblw _ ⟨t0,t1⟩ u0,z5 h]
theorem qz2 {m:Mach} (I:Inv m):Inv (tick m) where
 n:=I.n
 time:=by have:=I.time;show 0≤m.2.2.1+1;omega
 mem:=I.mem.later (by show m.2.2.1≤m.2.2.1+1;omega)
 th:=I.th
 call:=I.call.same (by show m.2.2.1≤m.2.2.1+1;omega) (fun _ _ _=>⟨rfl,rfl,rfl,rfl⟩)
 rep:=I.rep
 first:=I.first
theorem qb3g {m:Mach} (I:Inv m) {t:Int} (t0:0≤t) (t1:t<m.2.1.length) (ho:(thr m t).2.2.1=false) (hp:(thr m t).2.1<(thr m t).1.length):Inv (begP (tick m) t):=by
 have T:=I.th t t0 t1
 have hpc:=T.pc
 have hoff:=T.off ho
 have hop:opOk (opT (thr m t))=true:=by
  unfold opT
  rw[qx (show (thr m t).2.1.toNat<(thr m t).1.length by omega)]
  exact T.ops.2 _ (z24 _)
 have hl:(begP (tick m) t).2.1.length=m.2.1.length:=qgn _ _ _
 have hthr:∀ u:Int,0≤u→thr (begP (tick m) t) u=if u=t then ((thr m t).1,(thr m t).2.1,true,(thr m t).2.2.2) else thr m u:=fun u u0=>qhg (m:=(m.1,m.2.1,_)) ⟨t0,t1⟩ u0
 have hown:∀ u:Int,0≤u→ownB (thr (begP (tick m) t) u) u=ownB (thr m u) u:=by
  intro u u0
  rw[hthr u u0]
  by_cases h:u=t
  ·subst h;rw[z6 rfl];rfl
  ·rw[z5 h]
 have hnil:(thr m t).2.2.2=([],[],()):=Prod.ext hoff.1 (Prod.ext hoff.2 rfl)
 refine ⟨by rw[hl];exact I.n,by have:=I.time;show 0≤m.2.2.1+1;omega,?_,?_,?_,?_,I.first⟩
 ·rw[hl]
  refine (I.mem.later (by show m.2.2.1≤m.2.2.1+1;omega)).own_mono fun u u0 _=>?_
  unfold ownP
  rw[hown u u0]
 ·intro u u0 u1
  rw[hl] at u1 ⊢
  rw[hthr u u0]
  by_cases h:u=t
  ·subst h
   rw[z6 rfl,hnil]
   exact T.rest true (fun _=>hp)
  ·rw[z5 h];exact I.th u u0 u1
 ·rw[hl]
  have hb:=I.call.beg t0 t1 ho hop (by unfold qeq;rw[z5 (fun z=>by rw[qy2 hoff.2] at z;cases z.1)]) (on':=fun u=>(thr (begP (tick m) t) u).2.2.1) (by rw[hthr t t0,z6 rfl]) (fun u u0 h=>by rw[hthr u u0,z5 h]) I.time
  refine (hb.same (Int.le_refl _) fun u u0 u1=>⟨rfl,?_,?_,?_⟩)
  ·rw[hthr u u0];split
   ·next h=>rw[h]
   ·rfl
  ·rw[hthr u u0];split
   ·next h=>rw[h];rfl
   ·rfl
  ·unfold qeq
   rw[hown u u0];rfl
 ·obtain ⟨R,h1,h2,h3⟩:=I.rep
  refine ⟨R,h1,?_,h3⟩
  show RepR (m.2.2.2.1++_) _ _ R
  refine h2.same fun j hj=>?_
  have hj':=I.call.ordr j hj
  rw[qbbh hj'.1,z6 hj'.2.1]
  exact ⟨rfl,rfl⟩
theorem qbts {m:Mach} (I:Inv m) {t:Int} (t0:0≤t) (t1:t<m.2.1.length) (hp:(thr m t).2.1<(thr m t).1.length):Inv (qvy m t):=by
 unfold qvy
 by_cases h1:(thr m t).2.2.1=false
 ·rw[z6 h1];exact qb3g I t0 t1 h1 hp
 rw[z5 h1]
 by_cases h2:(thr m t).2.2.2.2.1≠[]
 ·rw[z6 h2];exact qbz2 (qz2 I) t0 t1 h2
 ·rw[z5 h2]
  refine qbs8 (qz2 I) t0 t1 (by show (thr m t).2.2.1=true;simpa using h1) (by show (thr m t).2.2.2.2.1=[];simpa using h2) ?_
  have:=(I.mem.dok t t0 t1).seq.2
  show (dsc m.1 t).1+1≤m.2.2.1+1
  omega
end Go.G

namespace Go.G
set_option maxRecDepth 100000
open Go Go.V Go.Proofs
abbrev qbkp:Ty:=(Ty.pair (Ty.int IntKind.i64) (Ty.pair (Ty.int IntKind.i64) (Ty.pair (Ty.sl (Ty.pair (Ty.int IntKind.i64) (Ty.pair (Ty.int IntKind.i64) (Ty.pair (Ty.int IntKind.i64) Ty.unit)))) (Ty.pair (Ty.pair (Ty.int IntKind.i64) (Ty.pair (Ty.sl (Ty.int IntKind.i64)) Ty.unit)) Ty.unit))))
theorem qbrg {D:Den ctx} {n:Nat} {c:Clo} {K0:Int→Option ((Int×Unit)×Unit)} {K1:Option ((Int×Unit)×Unit)} {l:List (qhv)} (hl:l.length≤1000000) {f:qhv→Bool} (hf:∀ x∈l,qbj ctx D c [CapV.val qbkp x] Ty.bool=some (f x)) :
  ∀ (m i:Nat),i≤l.length→l.length - i<m→((l.drop i).any f=false→qb4 D n c K0 K1 m l (l.length:Int) (i:Int)=K1)∧
   ((l.drop i).any f=true→∃ j:Nat,qb4 D n c K0 K1 m l (l.length:Int) (i:Int)=K0 (j:Int))
 | 0,i,_,h2=>by omega
 | m+1,i,h1,h2=>by
  simp only[qb4,qeg]
  by_cases h:i<l.length
  ·have ih:=qbrg (n:=n) (K0:=K0) (K1:=K1) hl hf m (i+1) (by omega) (by omega)
   have e:=hf l[i] (z24 _)
   rw[qh (by omega),ix h,br_t,z12,qx h,qt (by omega)]
   refine Eq.mpr (congrArg (fun z=>((List.drop i l).any f=false→qd z _=K1)∧((List.drop i l).any f=true→∃ j:Nat,qd z _=K0 (j:Int))) e) ?_
   rw[qc,qhr h,List.any_cons]
   cases hx:f l[i]
   ·rw[br_f,Bool.false_or];exact ih
   ·rw[br_t,Bool.true_or];exact ⟨fun q=>(by cases q),fun _=>⟨i,rfl⟩⟩
  ·rw[qi (by omega),qji h]
   exact ⟨fun _=>rfl,fun q=>(by simp at q)⟩
theorem qbmo {X:Ext} (hX:XOk X) {n:Nat} (hn:W+2≤n) {c:Clo} {l:List (qhv)} (hl:l.length≤1000000) {f:qhv→Bool} (hf:∀ x∈l,qbj ctx (DD X (n - 2)) c [CapV.val qbkp x] Ty.bool=some (f x)) :
  qds (DD X n) l c=some ((l.any f,()),()):=by
 obtain ⟨n,rfl⟩:∃ k,n=k+2:=⟨n - 2,by omega⟩
 have hW:=qbk
 rw[qnc hX]
 simp only[qdr,qg8]
 rw[qph hX]
 simp only[qev,qet,qed]
 have key:=qbrg (D:=DD X n) (n:=n) (c:=c) (K0:=fun v=>qdv (DD X n) n c v) (K1:=qdt (DD X n) n c) hl hf n 0 (Nat.zero_le _) (by omega)
 rw[List.drop_zero] at key
 rw[show (0:Int)=((0:Nat):Int) from rfl]
 cases hx:l.any f
 ·rw[key.1 hx]
  simp[qdt,qd]
 ·obtain ⟨j,hj⟩:=key.2 hx
  rw[hj]
  simp[qdv,qd]
abbrev qbk1:Ty:=(Ty.pair (Ty.int IntKind.i64) (Ty.pair (Ty.int IntKind.i64) (Ty.pair (Ty.int IntKind.i64) Ty.unit)))
theorem qbrd {D:Den ctx} {n:Nat} {c:Clo} {K0:Int→Option ((Int×Unit)×Unit)} {K1:Option ((Int×Unit)×Unit)} {l:List (qf8)} (hl:l.length≤1000000) {f:qf8→Bool} (hf:∀ x∈l,qbj ctx D c [CapV.val qbk1 x] Ty.bool=some (f x)) :
  ∀ (m i:Nat),i≤l.length→l.length - i<m→((l.drop i).any f=false→qb1 D n c K0 K1 m l (l.length:Int) (i:Int)=K1)∧
   ((l.drop i).any f=true→∃ j:Nat,qb1 D n c K0 K1 m l (l.length:Int) (i:Int)=K0 (j:Int))
 | 0,i,_,h2=>by omega
 | m+1,i,h1,h2=>by
  simp only[qb1,qek]
  by_cases h:i<l.length
  ·have ih:=qbrd (n:=n) (K0:=K0) (K1:=K1) hl hf m (i+1) (by omega) (by omega)
   have e:=hf l[i] (z24 _)
   rw[qh (by omega),ix h,br_t,z12,qx h,qt (by omega)]
   refine Eq.mpr (congrArg (fun z=>((List.drop i l).any f=false→qd z _=K1)∧((List.drop i l).any f=true→∃ j:Nat,qd z _=K0 (j:Int))) e) ?_
   rw[qc,qhr h,List.any_cons]
   cases hx:f l[i]
   ·rw[br_f,Bool.false_or];exact ih
   ·rw[br_t,Bool.true_or];exact ⟨fun q=>(by cases q),fun _=>⟨i,rfl⟩⟩
  ·rw[qi (by omega),qji h]
   exact ⟨fun _=>rfl,fun q=>(by simp at q)⟩
theorem qbm7 {X:Ext} (hX:XOk X) {n:Nat} (hn:W+2≤n) {c:Clo} {l:List (qf8)} (hl:l.length≤1000000) {f:qf8→Bool} (hf:∀ x∈l,qbj ctx (DD X (n - 2)) c [CapV.val qbk1 x] Ty.bool=some (f x)) :
  qdu (DD X n) l c=some ((l.any f,()),()):=by
 obtain ⟨n,rfl⟩:∃ k,n=k+2:=⟨n - 2,by omega⟩
 have hW:=qbk
 rw[qm7 hX]
 simp only[qdz,qg2]
 rw[qpd hX]
 simp only[qew,qex,qea]
 have key:=qbrd (D:=DD X n) (n:=n) (c:=c) (K0:=fun v=>qdq (DD X n) n c v) (K1:=qdp (DD X n) n c) hl hf n 0 (Nat.zero_le _) (by omega)
 rw[List.drop_zero] at key
 rw[show (0:Int)=((0:Nat):Int) from rfl]
 cases hx:l.any f
 ·rw[key.1 hx]
  simp[qdp,qd]
 ·obtain ⟨j,hj⟩:=key.2 hx
  rw[hj]
  simp[qdq,qd]
abbrev tyOp:Ty:=(Ty.pair (Ty.int IntKind.i64) (Ty.pair (Ty.int IntKind.i64) (Ty.pair (Ty.int IntKind.i64) Ty.unit)))
theorem qbyi {D:Den ctx} {n:Nat} {c:Clo} {K0:Int→Option ((Int×Unit)×Unit)} {K1:Option ((Int×Unit)×Unit)} {l:List (Op3)} (hl:l.length≤1000000) {f:Op3→Bool} (hf:∀ x∈l,qbj ctx D c [CapV.val tyOp x] Ty.bool=some (f x)) :
  ∀ (m i:Nat),i≤l.length→l.length - i<m→((l.drop i).any f=false→qcb D n c K0 K1 m l (l.length:Int) (i:Int)=K1)∧
   ((l.drop i).any f=true→∃ j:Nat,qcb D n c K0 K1 m l (l.length:Int) (i:Int)=K0 (j:Int))
 | 0,i,_,h2=>by omega
 | m+1,i,h1,h2=>by
  simp only[qcb,qfn]
  by_cases h:i<l.length
  ·have ih:=qbyi (n:=n) (K0:=K0) (K1:=K1) hl hf m (i+1) (by omega) (by omega)
   have e:=hf l[i] (z24 _)
   rw[qh (by omega),ix h,br_t,z12,qx h,qt (by omega)]
   refine Eq.mpr (congrArg (fun z=>((List.drop i l).any f=false→qd z _=K1)∧((List.drop i l).any f=true→∃ j:Nat,qd z _=K0 (j:Int))) e) ?_
   rw[qc,qhr h,List.any_cons]
   cases hx:f l[i]
   ·rw[br_f,Bool.false_or];exact ih
   ·rw[br_t,Bool.true_or];exact ⟨fun q=>(by cases q),fun _=>⟨i,rfl⟩⟩
  ·rw[qi (by omega),qji h]
   exact ⟨fun _=>rfl,fun q=>(by simp at q)⟩
theorem qbsy {X:Ext} (hX:XOk X) {n:Nat} (hn:W+2≤n) {c:Clo} {l:List (Op3)} (hl:l.length≤1000000) {f:Op3→Bool} (hf:∀ x∈l,qbj ctx (DD X (n - 2)) c [CapV.val tyOp x] Ty.bool=some (f x)) :
  qe7 (DD X n) l c=some ((l.any f,()),()):=by
 obtain ⟨n,rfl⟩:∃ k,n=k+2:=⟨n - 2,by omega⟩
 have hW:=qbk
 rw[qqd hX]
 simp only[qe9,qin]
 rw[qtg hX]
 simp only[qf1,qf3,qff]
 have key:=qbyi (D:=DD X n) (n:=n) (c:=c) (K0:=fun v=>qe8 (DD X n) n c v) (K1:=qe6 (DD X n) n c) hl hf n 0 (Nat.zero_le _) (by omega)
 rw[List.drop_zero] at key
 rw[show (0:Int)=((0:Nat):Int) from rfl]
 cases hx:l.any f
 ·rw[key.1 hx]
  simp[qe6,qd]
 ·obtain ⟨j,hj⟩:=key.2 hx
  rw[hj]
  simp[qe8,qd]
abbrev qbjn:Ty:=(Ty.pair (Ty.int IntKind.i64) (Ty.pair (Ty.int IntKind.i64) Ty.unit))
theorem qbss {D:Den ctx} {n:Nat} {c:Clo} {K0:Int→Option ((Int×Unit)×Unit)} {K1:Option ((Int×Unit)×Unit)} {l:List (Int×Int×Unit)} (hl:l.length≤1000000) {f:Int×Int×Unit→Bool} (hf:∀ x∈l,qbj ctx D c [CapV.val qbjn x] Ty.bool=some (f x)) :
  ∀ (m i:Nat),i≤l.length→l.length - i<m→((l.drop i).any f=false→qb3 D n c K0 K1 m l (l.length:Int) (i:Int)=K1)∧
   ((l.drop i).any f=true→∃ j:Nat,qb3 D n c K0 K1 m l (l.length:Int) (i:Int)=K0 (j:Int))
 | 0,i,_,h2=>by omega
 | m+1,i,h1,h2=>by
  simp only[qb3,qem]
  by_cases h:i<l.length
  ·have ih:=qbss (n:=n) (K0:=K0) (K1:=K1) hl hf m (i+1) (by omega) (by omega)
   have e:=hf l[i] (z24 _)
   rw[qh (by omega),ix h,br_t,z12,qx h,qt (by omega)]
   refine Eq.mpr (congrArg (fun z=>((List.drop i l).any f=false→qd z _=K1)∧((List.drop i l).any f=true→∃ j:Nat,qd z _=K0 (j:Int))) e) ?_
   rw[qc,qhr h,List.any_cons]
   cases hx:f l[i]
   ·rw[br_f,Bool.false_or];exact ih
   ·rw[br_t,Bool.true_or];exact ⟨fun q=>(by cases q),fun _=>⟨i,rfl⟩⟩
  ·rw[qi (by omega),qji h]
   exact ⟨fun _=>rfl,fun q=>(by simp at q)⟩
theorem qbnj {X:Ext} (hX:XOk X) {n:Nat} (hn:W+2≤n) {c:Clo} {l:List (Int×Int×Unit)} (hl:l.length≤1000000) {f:Int×Int×Unit→Bool} (hf:∀ x∈l,qbj ctx (DD X (n - 2)) c [CapV.val qbjn x] Ty.bool=some (f x)) :
  qcy (DD X n) l c=some ((l.any f,()),()):=by
 obtain ⟨n,rfl⟩:∃ k,n=k+2:=⟨n - 2,by omega⟩
 have hW:=qbk
 rw[qnh hX]
 simp only[qd1,qg6]
 rw[qo8 hX]
 simp only[qe0,qez,qd8]
 have key:=qbss (D:=DD X n) (n:=n) (c:=c) (K0:=fun v=>qdx (DD X n) n c v) (K1:=qdw (DD X n) n c) hl hf n 0 (Nat.zero_le _) (by omega)
 rw[List.drop_zero] at key
 rw[show (0:Int)=((0:Nat):Int) from rfl]
 cases hx:l.any f
 ·rw[key.1 hx]
  simp[qdw,qd]
 ·obtain ⟨j,hj⟩:=key.2 hx
  rw[hj]
  simp[qdx,qd]
abbrev qbkh:Ty:=(Ty.pair (Ty.int IntKind.i64) (Ty.pair (Ty.int IntKind.i64) (Ty.pair (Ty.int IntKind.i64) (Ty.pair (Ty.int IntKind.i64) Ty.unit))))
theorem qbs0 {D:Den ctx} {n:Nat} {c:Clo} {K0:Int→Option ((Int×Unit)×Unit)} {K1:Option ((Int×Unit)×Unit)} {l:List (qep)} (hl:l.length≤1000000) {f:qep→Bool} (hf:∀ x∈l,qbj ctx D c [CapV.val qbkh x] Ty.bool=some (f x)) :
  ∀ (m i:Nat),i≤l.length→l.length - i<m→((l.drop i).any f=false→qb2 D n c K0 K1 m l (l.length:Int) (i:Int)=K1)∧
   ((l.drop i).any f=true→∃ j:Nat,qb2 D n c K0 K1 m l (l.length:Int) (i:Int)=K0 (j:Int))
 | 0,i,_,h2=>by omega
 | m+1,i,h1,h2=>by
  simp only[qb2,qef]
  by_cases h:i<l.length
  ·have ih:=qbs0 (n:=n) (K0:=K0) (K1:=K1) hl hf m (i+1) (by omega) (by omega)
   have e:=hf l[i] (z24 _)
   rw[qh (by omega),ix h,br_t,z12,qx h,qt (by omega)]
   refine Eq.mpr (congrArg (fun z=>((List.drop i l).any f=false→qd z _=K1)∧((List.drop i l).any f=true→∃ j:Nat,qd z _=K0 (j:Int))) e) ?_
   rw[qc,qhr h,List.any_cons]
   cases hx:f l[i]
   ·rw[br_f,Bool.false_or];exact ih
   ·rw[br_t,Bool.true_or];exact ⟨fun q=>(by cases q),fun _=>⟨i,rfl⟩⟩
  ·rw[qi (by omega),qji h]
   exact ⟨fun _=>rfl,fun q=>(by simp at q)⟩
theorem qbna {X:Ext} (hX:XOk X) {n:Nat} (hn:W+2≤n) {c:Clo} {l:List (qep)} (hl:l.length≤1000000) {f:qep→Bool} (hf:∀ x∈l,qbj ctx (DD X (n - 2)) c [CapV.val qbkh x] Ty.bool=some (f x)) :
  qcx (DD X n) l c=some ((l.any f,()),()):=by
 obtain ⟨n,rfl⟩:∃ k,n=k+2:=⟨n - 2,by omega⟩
 have hW:=qbk
 rw[qna hX]
 simp only[qd0,qgz]
 rw[qpu hX]
 simp only[qey,qe1,qd7]
 have key:=qbs0 (D:=DD X n) (n:=n) (c:=c) (K0:=fun v=>qdy (DD X n) n c v) (K1:=qdo (DD X n) n c) hl hf n 0 (Nat.zero_le _) (by omega)
 rw[List.drop_zero] at key
 rw[show (0:Int)=((0:Nat):Int) from rfl]
 cases hx:l.any f
 ·rw[key.1 hx]
  simp[qdo,qd]
 ·obtain ⟨j,hj⟩:=key.2 hx
  rw[hj]
  simp[qdy,qd]
end Go.G

namespace Go.G
set_option maxRecDepth 100000
open Go Go.V Go.Proofs
theorem qck {x a b:Int} (h:a≤x∧x≤b):inR x a b=true:=qcc.2 h
section
variable {X:Ext} (hX:XOk X) {n:Nat}
include hX
theorem q7y (hn:2≤n) (x:Int):qij (DD X n) x=some ((inR x 0 1000,()),()):=by
 obtain ⟨n,rfl⟩:∃ k,n=k+1:=⟨n - 1,by omega⟩
 rw[qbh9 hX]
 simp only[qum,q6m]
 rw[qd4 hX (by omega),qc]
theorem qbvl (hn:2≤n) (x:Int):qrx (DD X n) x=some ((inR x 0 19,()),()):=by
 obtain ⟨n,rfl⟩:∃ k,n=k+1:=⟨n - 1,by omega⟩
 rw[qbnv hX]
 simp only[qym,qbae]
 rw[qd4 hX (by omega),qc]
theorem qbtf (hn:3≤n) {w:qf8} {th:Int} (h:Num w∨∃ u s,0≤u∧u<th∧1≤s∧s≤1000000∧w=mkW u s):q1y (DD X n) w th=some ((true,()),()):=by
 obtain ⟨n,rfl⟩:∃ k,n=k+1:=⟨n - 1,by omega⟩
 rw[qbqj hX]
 simp only[q2p,qbb7]
 rcases h with ⟨h1,h2,h3,h4⟩ | ⟨u,s,h1,h2,h3,h4,e⟩
 ·rw[qh h1,q7y hX (by omega),qc]
  dsimp only
  rw[qck ⟨h3,h4⟩,z21,z11 h2]
 ·have e1:w.1=0:=by rw[e];rfl
  have e2:w.2.1=u+1:=by rw[e];rfl
  have e3:w.2.2.1=s:=by rw[e];rfl
  rw[qi (by omega),qh e1,qd4 hX (by omega),qc]
  dsimp only
  rw[qck ⟨by omega,by omega⟩,br_t,qd4 hX (by omega),qc]
  dsimp only
  rw[qck ⟨by omega,by omega⟩]
theorem qbzb (N n:Nat) (hN:2≤N) (K0:Bool→qhv→Option ((Bool×Unit)×Unit)) (K1:qhv→Option ((Bool×Unit)×Unit)) {d:qhv} {time:Int} (h:DOk d time):∀ (m i:Nat),i≤d.2.2.1.length→d.2.2.1.length - i<m→
  qmp (DD X N) n K0 K1 m d.2.2.1 (d.2.2.1.length:Int) (i:Int) d=K1 d
 | 0,i,_,h2=>by omega
 | m+1,i,h1,h2=>by
  have hlen:=h.len
  simp only[qmp,q0b]
  by_cases hi:i<d.2.2.1.length
  ·have hr:=h.rng _ (z24 hi)
   have ih:=qbzb N n hN K0 K1 h m (i+1) (by omega) (by omega)
   rw[qh (by omega),ix hi,br_t,z12,qx hi,qt (by omega),qbvl hX (by omega),qc]
   dsimp only
   rw[qck ⟨hr.1.1,by omega⟩,z13,br_f,q7y hX (by omega),qc]
   dsimp only
   rw[qck hr.2.1,z13,br_f,q7y hX (by omega),qc]
   dsimp only
   rw[qck hr.2.2,z13,br_f]
   by_cases h0:i=0
   ·rw[qi (by omega)];exact ih
   ·have e:wrap .i64 ((i:Int) - 1)=((i - 1:Nat):Int):=by rw[qn (by omega) (by omega)];omega
    have hlt:i - 1<d.2.2.1.length:=by omega
    have hasc:=List.pairwise_iff_getElem.1 h.asc (i - 1) i hlt hi (by omega)
    rw[qh (by omega),e,ix hlt,br_t,z12,qx hlt,qi (by omega)]
    exact ih
  ·rw[qi (by omega)]
theorem qb0g (hn:W+3≤n) {d:qhv} {time:Int} (h:DOk d time) (ht:time≤1000000):q3c (DD X n) d=some ((true,()),()):=by
 obtain ⟨n,rfl⟩:∃ k,n=k+1:=⟨n - 1,by omega⟩
 have hW:=qbk
 have hlen:=h.len
 have hs:=h.seq
 rw[qbp2 hX]
 simp only[q2n,q21,qv2]
 by_cases h0:d.1=0
 ·rw[qh h0,h.st.1 h0]
  simp[dD]
 ·have hst:=h.st.2 (by omega)
  have hL:=qbzb hX n n (by omega) (fun v0_0 v0_1=>q6a (DD X n) n v0_0 v0_1) (fun v1_0=>qva (DD X n) n v1_0) h n 0 (Nat.zero_le _) (by omega)
  rw[show ((0:Nat):Int)=0 from rfl] at hL
  rw[qi h0,hL]
  simp only[qva]
  rw[qd4 hX (by omega),qc]
  dsimp only
  rw[qck ⟨by omega,by omega⟩,br_t,qd4 hX (by omega),qc]
  dsimp only
  rw[qck hst,z21,z11 (by omega)]
theorem qb1n (D:Den ctx) (n:Nat) (K0:Bool→qbe→Option ((qbe×Bool×Unit)×Unit)) (K1:qbe→Option ((qbe×Bool×Unit)×Unit)) (p:Int) (l:List qbe) (hl:l.length≤1000) (z:qbe):∀ (m i:Nat),i≤l.length→l.length - i<m→
  qln D n K0 K1 m p l (l.length:Int) (i:Int) z=match (l.drop i).find? (fun e=>decide (e.1=p)) with | some e=>K0 true e | none=>K1 z
 | 0,i,_,h2=>by omega
 | m+1,i,h1,h2=>by
  simp only[qln,qxf]
  by_cases hi:i<l.length
  ·have ih:=qb1n D n K0 K1 p l hl z m (i+1) (by omega) (by omega)
   rw[qh (by omega),ix hi,br_t,z12,qx hi,qt (by omega),qhr hi,List.find?_cons]
   by_cases h:l[i].1=p
   ·rw[qh h,z11 h]
   ·rw[qi h,z10 h];exact ih
  ·rw[qi (by omega),qji hi];rfl
theorem qbzi (hn:W+1≤n) (d:qhv) (hl:d.2.2.1.length≤1000) (p:Int):qzz (DD X n) d p=some ((qdb d.2.2.1 p,d.2.2.1.any (fun e:qbe=>decide (e.1=p)),()),()):=by
 obtain ⟨n,rfl⟩:∃ k,n=k+1:=⟨n - 1,by omega⟩
 have hW:=qbk
 rw[qbmy hX]
 simp only[qy9,q0f,qun]
 have hL:=qb1n (X:=X) hX (DD X n) n (fun v0_0 v0_1=>q39 (DD X n) n v0_0 v0_1) (fun v1_0=>q3l (DD X n) n v1_0) p d.2.2.1 hl (0,0,0,()) n 0 (Nat.zero_le _) (by omega)
 rw[show ((0:Nat):Int)=0 from rfl] at hL
 rw[hL,List.drop_zero]
 unfold qdb
 cases hf:d.2.2.1.find? (fun e:qbe=>decide (e.1=p)) with
 | none=>
  have:(d.2.2.1.any fun e:qbe=>decide (e.1=p))=false:=by
   rw[List.any_eq_false]
   rw[List.find?_eq_none] at hf
   exact hf
  rw[this];rfl
 | some e=>
  have:(d.2.2.1.any fun e:qbe=>decide (e.1=p))=true:=by
   rw[List.any_eq_true]
   exact ⟨e,List.mem_of_find?_eq_some hf,List.find?_some (p:=fun e:qbe=>decide (e.1=p)) hf⟩
  rw[this];rfl
theorem qb0o (hn:W+4≤n) (d:qhv) {time:Int} (h:DOk d time) (ht:time≤1000000):qbj ctx (DD X n) (Clo.mk 110 []) [CapV.val qbkp d] Ty.bool=some false:=by
 obtain ⟨n,rfl⟩:∃ k,n=k+1:=⟨n - 1,by omega⟩
 have e:∀ D:Den ctx,qbj ctx D (Clo.mk 110 []) [CapV.val qbkp d] Ty.bool=(qbaj D d).bind fun r=>some r.1.1:=fun D=>by kernel_rfl
 rw[e,qbnt hX]
 simp only[q0s,q9h]
 rw[qb0g hX (by omega) h ht,qc];rfl
theorem qbwe (N n:Nat) (hN:W+3≤N) (K0:Bool→Option ((Bool×Unit)×Unit)) (K1:Option ((Bool×Unit)×Unit)) {m:MemT} {k:Nat} {time:Int} {own:Int→Prop} (I:MemI m k time own) (ht:time≤1000000) (hk:k≤4):∀ (c i:Nat),i≤m.1.length→m.1.length - i<c→
  qom (DD X N) n K0 K1 c m.1 (m.1.length:Int) (i:Int) m=K1
 | 0,i,_,h2=>by omega
 | c+1,i,h1,h2=>by
  have hlen:=I.len
  have hd:=I.dlen
  simp only[qom,q2s]
  by_cases hi:i<m.1.length
  ·have ih:=qbwe N n hN K0 K1 I ht hk c (i+1) (by omega) (by omega)
   have hw:wd m (i:Int)=m.1[i]:=by unfold wd;rw[z12,qx hi]
   have hword:=I.word (i:Int) (by omega) (by omega)
   unfold qbj7 at hword
   rw[hw] at hword
   rw[qh (by omega),ix hi,br_t,z12,qx hi,qt (by omega)]
   rcases hword with h | ⟨u,u0,u1,uo,e,j,j0,j1,je⟩
   ·rw[qbtf hX (by omega) (.inl h),qc]
    dsimp only
    rw[z13,br_f,qh h.1]
    exact ih
   ·have hs:=I.owns u u0 u1 uo
    have hsq:=(I.dok u u0 u1).seq
    have hdl:=(I.dok u u0 u1).len
    have e2:(m.1[i]).2.1=u+1:=by rw[e];rfl
    have e3:(m.1[i]).2.2.1=(dsc m u).1:=by rw[e];rfl
    rw[qbtf hX (by omega) (.inr ⟨u,_,u0,by omega,hs,by omega,e⟩),qc]
    dsimp only
    have e1:wrap .i64 ((m.1[i]).2.1 - 1)=u:=by rw[qn (by omega) (by omega)];omega
    rw[z13,br_f,qi (by omega),e1,ixn u0 (by omega),br_t]
    have hdu:m.2.1.getD u.toNat (0,0,[],(0,[],()),())=dsc m u:=rfl
    rw[hdu,qbzi hX (by omega) _ (by omega),qc]
    dsimp only
    have hany:((dsc m u).2.2.1.any fun e:qbe=>decide (e.1=(i:Int)))=true:=by
     rw[List.any_eq_true]
     exact ⟨_,q7i j0 j1,by rw[z45];exact je⟩
    rw[hany,z13,z20,bned,z11 e3.symm,z13,br_f]
    exact ih
  ·rw[qi (by omega)]
theorem q9r (hn:W+7≤n) {m:MemT} {k:Nat} {time:Int} {own:Int→Prop} (I:MemI m k time own) (ht:time≤1000000) (h1:1≤k) (hk:k≤4):qkd (DD X n) m=some ((true,()),()):=by
 obtain ⟨n,rfl⟩:∃ k,n=k+1:=⟨n - 1,by omega⟩
 have hW:=qbk
 have hlen:=I.len
 have hd:=I.dlen
 rw[qbsb hX]
 simp only[q6j,q47,qzh]
 have hdm:∀ x∈m.2.1,DOk x time:=by
  intro x hx
  obtain ⟨j,hj,rfl⟩:=z52.1 hx
  have:=I.dok (j:Int) (by omega) (by omega)
  unfold dsc at this
  rw[z12,qx hj] at this
  exact this
 rw[show ((m.1.length:Int) != 20)=false by rw[bned,z11 (by omega)];rfl,br_f,qd4 hX (by omega),qc]
 dsimp only
 rw[qck ⟨by omega,by omega⟩,z13,br_f,qbmo hX (by omega) (by omega) (f:=fun _=>false) (fun x hx=>qb0o hX (by omega) x (hdm x hx) ht),qc]
 dsimp only
 rw[show (m.2.1.any fun _=>false)=false by simp,br_f]
 have hL:=qbwe hX n n (by omega) (fun v0_0=>q7x (DD X n) n v0_0) (q7m (DD X n) n) I ht hk n 0 (Nat.zero_le _) (by omega)
 rw[show ((0:Nat):Int)=0 from rfl] at hL
 rw[hL];rfl
end
end Go.G

namespace Go.G
set_option maxRecDepth 100000
open Go Go.V Go.Proofs
def cntE (l:List qci) (t:Int):Nat→Int
 | 0=>0
 | i+1=>cntE l t i+if (l.getD i dC).1=t∧(l.getD i dC).2.2.2.2.1≥0 then 1 else 0
def cntO (l:List qci) (t:Int):Nat→Int
 | 0=>0
 | i+1=>cntO l t i+if (l.getD i dC).1=t∧¬ (l.getD i dC).2.2.2.2.1≥0 then 1 else 0
def q02 (l:List qci) (t:Int):Nat→Int
 | 0=>-1
 | i+1=>if (l.getD i dC).1=t then (i:Int) else q02 l t i
def cntL (l:List qci):Nat→Int
 | 0=>0
 | i+1=>cntL l i+if (l.getD i dC).2.2.2.1≥0 then 1 else 0
theorem qbc8 (l:List qci) (t:Int):∀ i,i≤l.length→cntE l t i=(qt2 (l.take i) t:Int)
 | 0,_=>by simp[cntE,qt2]
 | i+1,h=>by
  have hi:i<l.length:=by omega
  simp only[cntE]
  rw[qbc8 l t i (by omega),z32 hi,qbpg,qx hi]
  by_cases q:l[i].1=t∧0≤l[i].2.2.2.2.1
  ·rw[z6 q,z6 q];omega
  ·rw[z5 q,z5 q];omega
theorem qih (l:List qci) (i:Nat):getC l (i:Int)=l.getD i dC:=by unfold getC;rw[z12]
theorem q89 (l:List qci) (t:Int):∀ i,0≤cntE l t i∧cntE l t i≤i∧0≤cntO l t i∧cntO l t i≤i∧0≤cntL l i∧cntL l i≤i∧-1≤q02 l t i∧q02 l t i<i
 | 0=>by simp[cntE,cntO,cntL,q02]
 | i+1=>by
  have:=q89 l t i
  simp only[cntE,cntO,cntL,q02]
  refine ⟨?_,?_,?_,?_,?_,?_,?_,?_⟩<;>split<;>omega
section
variable {l:List qci} {ord:List Int} {n:Nat} {time:Int} {on:Int→Bool} {pc:Int→Int} {op:Int→Op3} {yes:Int→Option ResT} (I:CallI l ord n time on pc op yes)
include I
theorem qbd2 {t k:Int} (hk:OpenC l t k):∀ i,i≤l.length→k<i→q02 l t i=k∧cntO l t i=1
 | 0,_,h=>by have:=hk.rng;omega
 | i+1,hi,h=>by
  simp only[q02,cntO]
  have hr:=hk.rng
  by_cases e:k=(i:Int)
  ·have h1:=hk.t
   have h2:=hk.fin
   rw[e,qih] at h1 h2
   rw[z6 h1,z6 ⟨h1,by omega⟩]
   refine ⟨e.symm,?_⟩
   have key:∀ j,j≤i→cntO l t j=0:=by
    intro j
    induction j with
    | zero=>intro _;rfl
    | succ j ih=>
     intro hj
     simp only[cntO]
     rw[ih (by omega),z5]
     ·rfl
     ·rintro ⟨q1,q2⟩
      have hf:=(I.c (j:Int) (by omega) (by omega)).fin
      rw[qih] at hf
      have:=I.uniq (t:=t) (i:=(j:Int)) ⟨⟨by omega,by omega⟩,by rw[qih];exact q1,by rw[qih];omega⟩ hk
      omega
   rw[key i (Nat.le_refl _)];rfl
  ·obtain ⟨i1,i2⟩:=qbd2 hk i (by omega) (by omega)
   have hne:¬ (l.getD i dC).1=t:=by
    intro q
    have:=(I.before k (i:Int) hr.1 (by omega) (by omega) (by rw[hk.t,qih];exact q.symm)).1
    have:=hk.fin
    omega
   rw[z5 hne,z5 (fun q=>hne q.1),i1,i2]
   exact ⟨rfl,rfl⟩
theorem qbej {t:Int} (h:∀ k:Int,0≤k→k<l.length→(getC l k).1=t→0≤(getC l k).2.2.2.2.1):∀ i,i≤l.length→cntO l t i=0
 | 0,_=>rfl
 | i+1,hi=>by
  simp only[cntO]
  rw[qbej h i (by omega),z5]
  ·rfl
  ·rintro ⟨q1,q2⟩
   have:=h (i:Int) (by omega) (by omega) (by rw[qih];exact q1)
   rw[qih] at this
   exact q2 this
theorem qbs2:cntL l l.length=ord.length:=by
 have key:∀ i,cntL l i=((((List.range i).filter fun j=>decide (0≤(l.getD j dC).2.2.2.1)).map fun j:Nat=>(j:Int)).length:Int):=by
  intro i
  induction i with
  | zero=>rfl
  | succ i ih=>
   simp only[cntL]
   rw[ih,List.range_succ,List.filter_append,List.map_append,z19]
   by_cases h:0≤(l.getD i dC).2.2.2.1
   ·rw[z6 h,show [i].filter (fun j=>decide (0≤(l.getD j dC).2.2.2.1))=[i] by rw[List.filter_cons,z11 h];rfl];rfl
   ·rw[z5 h,show [i].filter (fun j=>decide (0≤(l.getD j dC).2.2.2.1))=[] by rw[List.filter_cons,z10 h];rfl];rfl
 rw[key]
 have hp:(((List.range l.length).filter fun j=>decide (0≤(l.getD j dC).2.2.2.1)).map fun j:Nat=>(j:Int)).Perm ord:=by
  rw[List.perm_ext_iff_of_nodup ?_ I.nodup]
  ·intro a
   simp only[z37,List.mem_filter,List.mem_range,z45]
   constructor
   ·rintro ⟨j,⟨h1,h2⟩,rfl⟩
    exact I.all (j:Int) (by omega) (by omega) (by rw[qih];exact h2)
   ·intro ha
    have:=I.ordr a ha
    refine ⟨a.toNat,⟨by omega,?_⟩,by omega⟩
    have h3:=this.2.2
    unfold getC at h3
    exact h3
  ·rw[List.Nodup,List.pairwise_map]
   exact (List.nodup_range.filter _).imp fun {a b} h q=>h (by omega)
 rw[hp.length_eq]
theorem qbzd (hn:n≤3) (hp:∀ t:Int,0≤t→t<n→pc t≤4):l.length≤15:=by
 have hO:∀ t:Int,0≤t→t<n→cntO l t l.length≤1:=by
  intro t t0 t1
  cases ho:on t with
  | true=>
   obtain ⟨k,hk,_⟩:=I.opn t t0 t1 ho
   rw[(qbd2 I hk l.length (Nat.le_refl _) (by have:=hk.rng;omega)).2]
   exact Int.le_refl _
  | false=>
   rw[qbej I (I.off t t0 t1 ho) l.length (Nat.le_refl _)];decide
 have hE:∀ t:Int,0≤t→t<n→cntE l t l.length≤4:=by
  intro t t0 t1
  rw[qbc8 l t l.length (Nat.le_refl _),List.take_length,I.cnt t t0 t1]
  exact hp t t0 t1
 have hz:∀ (t:Int),¬ (0≤t∧t<n)→∀ i,i≤l.length→cntE l t i+cntO l t i=0:=by
  intro t ht i
  induction i with
  | zero=>intro _;rfl
  | succ i ih=>
   intro hi
   have:=(I.c (i:Int) (by omega) (by omega)).t
   rw[qih] at this
   simp only[cntE,cntO]
   rw[z5 (fun q=>ht (by rw[←q.1];exact this)),z5 (fun q=>ht (by rw[←q.1];exact this))]
   have:=ih (by omega)
   omega
 have hs:∀ i,i≤l.length→(i:Int)=(cntE l 0 i+cntO l 0 i)+(cntE l 1 i+cntO l 1 i)+(cntE l 2 i+cntO l 2 i):=by
  intro i
  induction i with
  | zero=>intro _;rfl
  | succ i ih=>
   intro hi
   have h1:=(I.c (i:Int) (by omega) (by omega)).t
   rw[qih] at h1
   have h2:=ih (by omega)
   have one:∀ t:Int,cntE l t (i+1)+cntO l t (i+1)=cntE l t i+cntO l t i+if (l.getD i dC).1=t then 1 else 0:=by
    intro t
    simp only[cntE,cntO]
    by_cases a:(l.getD i dC).1=t
    ·by_cases b:(l.getD i dC).2.2.2.2.1≥0
     ·rw[z6 ⟨a,b⟩,z5 (fun q=>q.2 b),z6 a];omega
     ·rw[z5 (fun q=>b q.2),z6 ⟨a,b⟩,z6 a];omega
    ·rw[z5 (fun q=>a q.1),z5 (fun q=>a q.1),z5 a];omega
   rw[one 0,one 1,one 2]
   have h3:(l.getD i dC).1=0∨(l.getD i dC).1=1∨(l.getD i dC).1=2:=by omega
   rcases h3 with e | e | e
   ·rw[z6 e,z5 (by omega),z5 (by omega)];omega
   ·rw[z5 (by omega),z6 e,z5 (by omega)];omega
   ·rw[z5 (by omega),z5 (by omega),z6 e];omega
 have hall:∀ t:Int,cntE l t l.length+cntO l t l.length≤5:=by
  intro t
  by_cases h:0≤t∧t<n
  ·have:=hO t h.1 h.2;have:=hE t h.1 h.2;omega
  ·rw[hz t h l.length (Nat.le_refl _)];decide
 have:=hs l.length (Nat.le_refl _)
 have:=hall 0;have:=hall 1;have:=hall 2
 omega
end
end Go.G

namespace Go.G
set_option maxRecDepth 100000
open Go Go.V Go.Proofs
section
variable {X:Ext} (hX:XOk X) {n:Nat}
include hX
theorem qb36 (hn:6≤n) (o:Op3) (h:opOk o=true):qbj ctx (DD X n) (Clo.mk 121 []) [CapV.val tyOp o] Ty.bool=some false:=by
 obtain ⟨n,rfl⟩:∃ k,n=k+1:=⟨n - 1,by omega⟩
 have e:∀ D:Den ctx,qbj ctx D (Clo.mk 121 []) [CapV.val tyOp o] Ty.bool=(q35 D o).bind fun r=>some r.1.1:=fun D=>by kernel_rfl
 obtain ⟨a,b,c,⟨⟩⟩:=o
 rw[e,qbgs hX]
 simp only[qsg,q3y]
 rw[q4n hX (by omega),h,qc];rfl
theorem qb1f (hn:3≤n) (g:Int×Int×Unit) (h:(0≤g.1∧g.1<20)∧0≤g.2.1∧g.2.1≤1000):qbj ctx (DD X n) (Clo.mk 123 []) [CapV.val qbjn g] Ty.bool=some false:=by
 obtain ⟨n,rfl⟩:∃ k,n=k+1:=⟨n - 1,by omega⟩
 have e:∀ D:Den ctx,qbj ctx D (Clo.mk 123 []) [CapV.val qbjn g] Ty.bool=(q36 D g).bind fun r=>some r.1.1:=fun D=>by kernel_rfl
 rw[e,qbgc hX]
 simp only[qsx,q3m]
 rw[qbvl hX (by omega),qc]
 dsimp only
 rw[qck ⟨h.1.1,by omega⟩,z13,br_f,q7y hX (by omega),qc]
 dsimp only
 rw[qck h.2];rfl
theorem qb0d (hn:2≤n) (k:qep) (th:Int) (hth:0≤th∧th≤100) (h1:0≤k.1∧k.1<th) (h2:1≤k.2.1∧k.2.1≤1000000) (h3:0≤k.2.2.1∧k.2.2.1≤20) (h4:0≤k.2.2.2.1∧k.2.2.2.1≤20) :
  qbj ctx (DD X n) (Clo.mk 127 [CapV.rptr (Ty.int IntKind.i64) th]) [CapV.val qbkh k] Ty.bool=some false:=by
 obtain ⟨n,rfl⟩:∃ k,n=k+1:=⟨n - 1,by omega⟩
 have e:∀ D:Den ctx,qbj ctx D (Clo.mk 127 [CapV.rptr (Ty.int IntKind.i64) th]) [CapV.val qbkh k] Ty.bool=(q31 D k th).bind fun r=>some r.1.1:=fun D=>by kernel_rfl
 rw[e,qbfl hX]
 simp only[qs3,q3r]
 rw[qn (by omega) (by omega),qd4 hX (by omega),qc]
 dsimp only
 rw[qck ⟨h1.1,by omega⟩,z13,br_f,qd4 hX (by omega),qc]
 dsimp only
 rw[qck h2,z13,br_f,qd4 hX (by omega),qc]
 dsimp only
 rw[qck h3,z13,br_f,qd4 hX (by omega),qc]
 dsimp only
 rw[qck h4];rfl
theorem anyF {α:Type} (l:List α):(l.any fun _=>false)=false:=by simp
theorem qb21 {m:MemT} {k:Nat} {x:ThT} {t:Int} (T:ThI m k x t):∀ g∈x.2.2.2.1,(0≤g.1∧g.1<20)∧0≤g.2.1∧g.2.1≤1000:=by
 intro g hg
 have hv:=T.got g hg
 cases ho:x.2.2.1 with
 | false=>rw[(T.off ho).1] at hg;simp at hg
 | true=>exact ⟨(qv9 (T.op ho) T.got (T.along ho)).2.1 _ (z37.2 ⟨g,hg,rfl⟩),by omega⟩
theorem qblx {m:MemT} {k:Nat} {x:ThT} {t:Int} (T:ThI m k x t):x.2.2.2.1.length≤8:=by
 cases ho:x.2.2.1 with
 | false=>rw[(T.off ho).1];simp
 | true=>exact (qv9 (T.op ho) T.got (T.along ho)).2.2
theorem qbnu {m:MemT} {k:Nat} {x:ThT} {t:Int} (T:ThI m k x t):x.2.2.2.2.1.length≤2:=by
 rcases T.st with e | ⟨h,e⟩ | ⟨h,h',e,_⟩<;>rw[e]<;>simp
theorem qbxj (hn:W+9≤n) {m:MemT} {k:Nat} {x:ThT} {t:Int} (T:ThI m k x t) (hk:k≤3) (hs:∀ u:Int,0≤u→u<k→(dsc m u).1≤1000000):qxd (DD X n) x (k:Int)=some ((true,()),()):=by
 obtain ⟨n,rfl⟩:∃ k,n=k+1:=⟨n - 1,by omega⟩
 have hW:=qbk
 have h1:=T.ops
 have h2:=T.pc
 have h3:=qblx hX T
 have h4:=qbnu hX T
 rw[qbjb hX]
 simp only[qxh,q7q]
 have hlast:qd (qcy (DD X n) x.2.2.2.1 (Clo.mk 123 [])) (fun b=>br b.1.1 (some ((false,()),())) (qd (qcx (DD X n) x.2.2.2.2.1 (Clo.mk 127 [CapV.rptr (Ty.int IntKind.i64) (k:Int)])) fun b=>some ((!b.1.1,()),())))=some ((true,()),()):=by
  rw[qbnj hX (by omega) (show List.length x.2.2.2.1≤1000000 by omega) (f:=fun _=>false) (fun g hg=>qb1f hX (by omega) g (qb21 hX T g hg)),qc]
  dsimp only
  rw[anyF hX,br_f,qbna hX (by omega) (by omega) (f:=fun _=>false) (fun q hq=>by
   have H:=T.help q hq
   have:=hs q.1 H.t.1 H.t.2
   have:=H.seq
   have:=H.at0
   have:=H.fin
   exact qb0d hX (by omega) q k (by omega) H.t (by omega) (by omega) (by omega)),qc]
  dsimp only
  rw[anyF hX];rfl
 rw[qi (by omega),qbsy hX (by omega) (by omega) (f:=fun _=>false) (fun o ho=>qb36 hX (by omega) o (h1.2 o ho)),qc]
 dsimp only
 rw[anyF hX,br_f,qd4 hX (by omega),qc]
 dsimp only
 rw[qck h2,z13,z20]
 cases ho:x.2.2.1 with
 | true=>
  have:=T.on ho
  rw[z21,z10 (by omega),z20,z10 (by omega),z20,z10 (by omega),br_f,z13,br_f]
  exact hlast
 | false=>
  have:=T.off ho
  rw[z20,z20,z10 (by omega),z20,z10 (by omega),br_f,Bool.not_false,br_t,qi (by rw[this.1,this.2];decide)]
  exact hlast
theorem qbvb (D:Den ctx) (n:Nat) (K:Int→Int→Int→Mach→ThT→Option ((Bool×Unit)×Unit)) (t:Int) (l:List qci) (hl:l.length≤1000) (m:Mach) (x:ThT):∀ (c i:Nat),i≤l.length→l.length - i<c→
  qll D n K c t (q02 l t i) (cntE l t i) (cntO l t i) l (l.length:Int) (i:Int) m x=K (q02 l t l.length) (cntE l t l.length) (cntO l t l.length) m x
 | 0,i,_,h2=>by omega
 | c+1,i,h1,h2=>by
  have hr:=q89 l t i
  simp only[qll,qws]
  by_cases hi:i<l.length
  ·have ih:=qbvb D n K t l hl m x c (i+1) (by omega) (by omega)
   simp only[q02,cntE,cntO] at ih
   rw[qh (by omega),ix hi,br_t,z12,qt (by omega)]
   have hd:l.getD i (0,(0,0,0,()),0,0,0,(0,[],()),())=l.getD i dC:=rfl
   rw[hd]
   by_cases a:(l.getD i dC).1=t
   ·rw[show ((l.getD i dC).1 != t)=false by rw[bned,z11 a];rfl,br_f]
    rw[z6 a] at ih
    by_cases b:(l.getD i dC).2.2.2.2.1≥0
    ·rw[qh b,qn (by omega) (by omega)]
     rw[z6 ⟨a,b⟩,z5 (fun q=>q.2 b),Int.add_zero] at ih
     exact ih
    ·rw[qi b,qn (by omega) (by omega)]
     rw[z5 (fun q=>b q.2),z6 ⟨a,b⟩,Int.add_zero] at ih
     exact ih
   ·rw[show ((l.getD i dC).1 != t)=true by rw[bned,z10 a];rfl,br_t]
    rw[z5 a,z5 (fun q=>a q.1),z5 (fun q=>a q.1),Int.add_zero,Int.add_zero] at ih
    exact ih
  ·rw[qi (by omega),show i=l.length by omega]
theorem eqOp (o:Op3):qjw (Ty.pair (Ty.int IntKind.i64) (Ty.pair (Ty.int IntKind.i64) (Ty.pair (Ty.int IntKind.i64) Ty.unit))) o o=true:=by
 obtain ⟨a,b,c,⟨⟩⟩:=o
 simp[qjw]
theorem qbyb (hn:W+1≤n) {m:Mach} (I:Inv m) {t:Int} (t0:0≤t) (t1:t<m.2.1.length) (hl:m.2.2.2.1.length≤1000):q0l (DD X n) m t=some ((true,()),()):=by
 obtain ⟨n,rfl⟩:∃ k,n=k+1:=⟨n - 1,by omega⟩
 have hW:=qbk
 have T:=I.th t t0 t1
 rw[qbng hX]
 simp only[qy6,qzi,quk]
 have hL:=qbvb hX (DD X n) n (fun v0_0 v0_1 v0_2 v0_3 v0_4=>qsn (DD X n) n v0_0 v0_1 v0_2 v0_3 v0_4) t m.2.2.2.1 hl m (thr m t) n 0 (Nat.zero_le _) (by omega)
 have hx:m.2.1.getD t.toNat ([],0,false,[],[],())=thr m t:=rfl
 rw[ixn t0 t1,br_t,hx]
 refine Eq.trans hL ?_
 have hE:cntE m.2.2.2.1 t m.2.2.2.1.length=(thr m t).2.1:=by rw[qbc8 _ _ _ (Nat.le_refl _),List.take_length];exact I.call.cnt t t0 t1
 simp only[qsn]
 rw[hE,bned,z11 rfl,z13,br_f]
 cases ho:(thr m t).2.2.1 with
 | false=>
  rw[Bool.not_false,br_t,qbej I.call (I.call.off t t0 t1 ho) _ (Nat.le_refl _)];rfl
 | true=>
  obtain ⟨k,hk,hop⟩:=I.call.opn t t0 t1 ho
  have hr:=hk.rng
  obtain ⟨e1,e2⟩:=qbd2 I.call hk _ (Nat.le_refl _) (by omega)
  have hp:=T.on ho
  have hp0:=T.pc.1
  have hd:m.2.2.2.1.getD k.toNat (0,(0,0,0,()),0,0,0,(0,[],()),())=getC m.2.2.2.1 k:=rfl
  have ho2:(thr m t).1.getD (thr m t).2.1.toNat (0,0,0,())=opT (thr m t):=rfl
  rw[z13,br_f,e1,e2,z11 (show k≥0 from hr.1),z21,qh rfl,Bool.true_and,z11 hr.2,br_t,hd,qh hk.fin,br_t,ixn hp0 hp,br_t,hop,ho2,eqOp hX]
theorem qbsw (D:Den ctx) (n:Nat) (K:Int→Mach→Option ((Bool×Unit)×Unit)) (l:List qci) (hl:l.length≤1000) (m:Mach):∀ (c i:Nat),i≤l.length→l.length - i<c→
  qlm D n K c (cntL l i) l (l.length:Int) (i:Int) m=K (cntL l l.length) m
 | 0,i,_,h2=>by omega
 | c+1,i,h1,h2=>by
  have hr:=q89 l 0 i
  simp only[qlm,qwu]
  by_cases hi:i<l.length
  ·have ih:=qbsw D n K l hl m c (i+1) (by omega) (by omega)
   simp only[cntL] at ih
   rw[qh (by omega),ix hi,br_t,z12,qt (by omega)]
   have hd:l.getD i (0,(0,0,0,()),0,0,0,(0,[],()),())=l.getD i dC:=rfl
   rw[hd]
   by_cases a:(l.getD i dC).2.2.2.1≥0
   ·rw[qh a,qn (by omega) (by omega)]
    rw[z6 a] at ih
    exact ih
   ·rw[qi a]
    rw[z5 a,Int.add_zero] at ih
    exact ih
  ·rw[qi (by omega),show i=l.length by omega]
theorem qbtr (N n:Nat) (hN:W+2≤N) (K0:Bool→Int→Mach→Option ((Bool×Unit)×Unit)) (K1:Int→Mach→Option ((Bool×Unit)×Unit)) (z:Int) {m:Mach} (I:Inv m) (hl:m.2.2.2.1.length≤1000) (hol:m.2.2.2.2.1.length≤1000):∀ (c i:Nat),i≤m.2.2.2.2.1.length→m.2.2.2.2.1.length - i<c→
  qla (DD X N) n K0 K1 c z m.2.2.2.2.1 (m.2.2.2.2.1.length:Int) (i:Int) m=K1 z m
 | 0,i,_,h2=>by omega
 | c+1,i,h1,h2=>by
  simp only[qla,qxi]
  by_cases hi:i<m.2.2.2.2.1.length
  ·have ih:=qbtr N n hN K0 K1 z I hl hol c (i+1) (by omega) (by omega)
   have hk:=I.call.ordr _ (z24 hi)
   rw[qh (by omega),ix hi,br_t,z12,qx hi,qt (by omega),qn (by omega) (by omega),qd4 hX (by omega),qc]
   dsimp only
   have hd:∀ k:Int,m.2.2.2.1.getD k.toNat (0,(0,0,0,()),0,0,0,(0,[],()),())=getC m.2.2.2.1 k:=fun _=>rfl
   have hni:m.2.2.2.2.1[i]∉List.drop (0:Int).toNat (List.take i m.2.2.2.2.1):=by
    rw[show (0:Int).toNat=0 from rfl,List.drop_zero]
    intro q
    obtain ⟨j,hj,e⟩:=z52.1 q
    rw[z27] at hj
    rw[List.getElem_take] at e
    have:=List.pairwise_iff_getElem.1 I.call.nodup j i (by omega) hi (by omega)
    exact this e
   rw[qck ⟨hk.1,by omega⟩,z13,br_f,ixn hk.1 hk.2.1,br_t,hd,qi (by omega),
    show (decide ((0:Nat)≤0)&&decide (0≤(i:Int))&&decide ((i:Int)≤(m.2.2.2.2.1.length:Int)))=true by simp;omega,br_t,qbjt hX (by omega) _ (by simp;omega) _ hni,qc]
   dsimp only
   rw[br_f]
   by_cases h0:i=0
   ·rw[qi (by omega)];exact ih
   ·have e:wrap .i64 ((i:Int) - 1)=((i - 1:Nat):Int):=by rw[qn (by omega) (by omega)];omega
    have hlt:i - 1<m.2.2.2.2.1.length:=by omega
    have hk2:=I.call.ordr _ (z24 hlt)
    have hs:=List.pairwise_iff_getElem.1 I.call.sort (i - 1) i hlt hi (by omega)
    rw[qh (by omega),e,ix hlt,br_t,z12,qx hlt,ixn hk2.1 hk2.2.1,br_t,br_t,hd,qi (by omega)]
    exact ih
  ·rw[qi (by omega)]
theorem qbyt (hn:W+3≤n) {m:Mach} (I:Inv m) (hl:m.2.2.2.1.length≤1000):qzw (DD X n) m=some ((true,()),()):=by
 obtain ⟨n,rfl⟩:∃ k,n=k+1:=⟨n - 1,by omega⟩
 have hW:=qbk
 have ho:=qbs2 I.call
 have hr:=q89 m.2.2.2.1 0 m.2.2.2.1.length
 have hol:m.2.2.2.2.1.length≤1000:=by omega
 rw[qbl1 hX]
 simp only[qyj,qz9,qud]
 refine Eq.trans (qbsw hX (DD X n) n _ m.2.2.2.1 hl m n 0 (Nat.zero_le _) (by omega)) ?_
 simp only[qsz,qub]
 refine Eq.trans (qbtr hX n n (by omega) _ _ _ I hl hol n 0 (Nat.zero_le _) (by omega)) ?_
 simp only[q30]
 rw[ho,z11 rfl]
theorem qbwh (N n:Nat) (hN:6≤N) (K0:Bool→Int→Mach→Option ((Bool×Unit)×Unit)) (K1:Int→Mach→Option ((Bool×Unit)×Unit)) {m:Mach} (I:Inv m) (hl:m.2.2.2.1.length≤1000):∀ (c i:Nat),i≤m.2.2.2.1.length→m.2.2.2.1.length - i<c→
  qjr (DD X N) n K0 K1 c (m.2.1.length:Int) m.2.2.2.1 (m.2.2.2.1.length:Int) (i:Int) m=K1 (m.2.1.length:Int) m
 | 0,i,_,h2=>by omega
 | c+1,i,h1,h2=>by
  simp only[qjr,qsv]
  by_cases hi:i<m.2.2.2.1.length
  ·have ih:=qbwh N n hN K0 K1 I hl c (i+1) (by omega) (by omega)
   have hn:=I.n
   have C:=I.call.c (i:Int) (by omega) (by omega)
   have hd:m.2.2.2.1.getD i (0,(0,0,0,()),0,0,0,(0,[],()),())=getC m.2.2.2.1 (i:Int):=by unfold getC;rw[z12];rfl
   obtain ⟨N,rfl⟩:∃ k,N=k+1:=⟨N - 1,by omega⟩
   have hst:=C.start
   rw[qh (by omega),ix hi,br_t,z12,hd,qt (by omega),qn (by omega) (by omega),qd4 hX (by omega),qc]
   dsimp only
   have hop:qlv (DD X (N+1)) (getC m.2.2.2.1 (i:Int)).2.1=some ((true,()),()):=by
    have:=q4n hX (n:=N+1) (by omega) (getC m.2.2.2.1 (i:Int)).2.1.1 (getC m.2.2.2.1 (i:Int)).2.1.2.1 (getC m.2.2.2.1 (i:Int)).2.1.2.2.1
    rw[show ((getC m.2.2.2.1 (i:Int)).2.1.1,(getC m.2.2.2.1 (i:Int)).2.1.2.1,(getC m.2.2.2.1 (i:Int)).2.1.2.2.1,())=(getC m.2.2.2.1 (i:Int)).2.1 from rfl,C.op] at this
    exact this
   have hwh:∀ x:Int,(x = -1∨(getC m.2.2.2.1 (i:Int)).2.2.1≤x∧x≤m.2.2.1)→qli (DD X (N+1)) (getC m.2.2.2.1 (i:Int)) x m=some ((true,()),()):=by
    intro x hx
    rw[qbdf hX]
    simp only[qrs,q09]
    by_cases a:x = -1
    ·rw[qh a]
    ·rw[qi a,qd4 hX (by omega),qc]
     dsimp only
     rw[qck (hx.resolve_left a)]
   have hlin:=C.lin
   have hfin:=C.fin
   rw[qck ⟨C.t.1,by have:=C.t.2;omega⟩,z13,br_f,hop,qc]
   dsimp only
   rw[z13,br_f,qd4 hX (by omega),qc]
   dsimp only
   rw[qck hst,z13,br_f,hwh _ hlin,qc]
   dsimp only
   rw[z13,br_f,hwh _ (by omega),qc]
   dsimp only
   rw[z13,br_f]
   exact ih
  ·rw[qi (by omega)]
theorem qbvt (N n:Nat) (hN:W+9≤N) (K0:Bool→Mach→Option ((Bool×Unit)×Unit)) (K1:Mach→Option ((Bool×Unit)×Unit)) {m:Mach} (I:Inv m) (hl:m.2.2.2.1.length≤1000) (ht:m.2.2.1≤100000):∀ (c i:Nat),i≤m.2.1.length→m.2.1.length - i<c→
  qjs (DD X N) n K0 K1 c (m.2.1.length:Int) m.2.1 (m.2.1.length:Int) (i:Int) m=K1 m
 | 0,i,_,h2=>by omega
 | c+1,i,h1,h2=>by
  simp only[qjs,qsr]
  by_cases hi:i<m.2.1.length
  ·have ih:=qbvt N n hN K0 K1 I hl ht c (i+1) (by omega) (by omega)
   have hn:=I.n
   have T:=I.th (i:Int) (by omega) (by omega)
   have hd:m.2.1.getD i ([],0,false,[],[],())=thr m (i:Int):=by unfold thr;rw[z12];rfl
   rw[qh (by omega),ix hi,br_t,z12,hd,qt (by omega),qbxj hX (by omega) T (by omega) (fun u u0 u1=>by have:=(I.mem.dok u u0 u1).seq.2;omega),qc]
   dsimp only
   rw[z13,br_f,qbyb hX (by omega) I (by omega) (by omega) hl,qc]
   dsimp only
   rw[z13,br_f]
   exact ih
  ·rw[qi (by omega)]
theorem qru {m:Mach} (I:Inv m):m.2.2.2.1.length≤15:=
 qbzd I.call I.n.2 fun t t0 t1=>by have:=(I.th t t0 t1).pc;have:=(I.th t t0 t1).ops.1;omega
theorem q00 (hn:W+10≤n) {m:Mach} (I:Inv m) (ht:m.2.2.1≤100000):qgp (DD X n) m=some ((true,()),()):=by
 obtain ⟨n,rfl⟩:∃ k,n=k+1:=⟨n - 1,by omega⟩
 have hW:=qbk
 have hl:=qru hX I
 have hn:=I.n
 have hdl:=I.mem.dlen
 have h0:=I.time
 rw[qbib hX]
 simp only[qut,qup,qrv]
 rw[q9r hX (by omega) I.mem (by omega) (by omega) (by omega),qc]
 dsimp only
 rw[z13,z20,show ((m.1.2.1.length:Int) != (m.2.1.length:Int))=false by rw[bned,z11 (by omega)];rfl,br_f,qd4 hX (by omega),qc]
 dsimp only
 rw[qck ⟨h0,ht⟩,z13,z20,qi (by omega),qbdb hX (by omega) I.first,qc]
 dsimp only
 rw[z13,br_f]
 refine Eq.trans (qbwh hX n n (by omega) _ _ I (by omega) n 0 (Nat.zero_le _) (by omega)) ?_
 simp only[qpt,qqn]
 refine Eq.trans (qbvt hX n n (by omega) _ _ I (by omega) ht n 0 (Nat.zero_le _) (by omega)) ?_
 simp only[qx9]
 rw[qbyt hX (by omega) I (by omega),qc]
end
end Go.G

namespace Go.G
set_option maxRecDepth 100000
open Go Go.V Go.Proofs
section
variable {X:Ext} (hX:XOk X) {n:Nat}
include hX
theorem q7t (hn:1≤n) (l:List Int) (hl:l.length≤1000000):qgc (DD X n) l=some ((l,()),()):=by
 obtain ⟨n,rfl⟩:∃ k,n=k+1:=⟨n - 1,by omega⟩
 have hb:=qbh
 rw[qt0 hX]
 simp only[qip,qlu]
 cases l with
 | nil=>simp[q86,both,qbh]
 | cons a l=>
  rw[qi (by rw[z12];simp),qh (by simp only[z22] at hl ⊢;omega)]
  rfl
theorem qsf (hn:1≤n) (l:List Op3) (hl:l.length≤1000000):qe3 (DD X n) l=some ((l,()),()):=by
 obtain ⟨n,rfl⟩:∃ k,n=k+1:=⟨n - 1,by omega⟩
 have hb:=qbh
 rw[qxn hX]
 simp only[qhi,qk7]
 cases l with
 | nil=>simp[q86,both,qbh]
 | cons a l=>
  rw[qi (by rw[z12];simp),qh (by simp only[z22] at hl ⊢;omega)]
  rfl
theorem q1j (hn:1≤n) (l:Got) (hl:l.length≤1000000):qf6 (DD X n) l=some ((l,()),()):=by
 obtain ⟨n,rfl⟩:∃ k,n=k+1:=⟨n - 1,by omega⟩
 have hb:=qbh
 rw[qs2 hX]
 simp only[qf5,qjq]
 cases l with
 | nil=>simp[q86,both,qbh]
 | cons a l=>
  rw[qi (by rw[z12];simp),qh (by simp only[z22] at hl ⊢;omega)]
  rfl
theorem q1a (hn:1≤n) (l:List qep) (hl:l.length≤1000000):qf7 (DD X n) l=some ((l,()),()):=by
 obtain ⟨n,rfl⟩:∃ k,n=k+1:=⟨n - 1,by omega⟩
 have hb:=qbh
 rw[qsu hX]
 simp only[qfx,qjp]
 cases l with
 | nil=>simp[q86,both,qbh]
 | cons a l=>
  rw[qi (by rw[z12];simp),qh (by simp only[z22] at hl ⊢;omega)]
  rfl
theorem q1f (hn:1≤n) (l:List qf8) (hl:l.length≤1000000):qfz (DD X n) l=some ((l,()),()):=by
 obtain ⟨n,rfl⟩:∃ k,n=k+1:=⟨n - 1,by omega⟩
 have hb:=qbh
 rw[qs1 hX]
 simp only[qfy,qjo]
 cases l with
 | nil=>simp[q86,both,qbh]
 | cons a l=>
  rw[qi (by rw[z12];simp),qh (by simp only[z22] at hl ⊢;omega)]
  rfl
theorem ql3 (hn:1≤n) (l:List qbe) (hl:l.length≤1000000):qc7 (DD X n) l=some ((l,()),()):=by
 obtain ⟨n,rfl⟩:∃ k,n=k+1:=⟨n - 1,by omega⟩
 have hb:=qbh
 rw[qrw hX]
 simp only[qfi,qix]
 cases l with
 | nil=>simp[q86,both,qbh]
 | cons a l=>
  rw[qi (by rw[z12];simp),qh (by simp only[z22] at hl ⊢;omega)]
  rfl
theorem q1v (hn:2≤n) (r:ResT) (hl:r.2.1.length≤1000000):qif (DD X n) r=some ((r,()),()):=by
 obtain ⟨n,rfl⟩:∃ k,n=k+1:=⟨n - 1,by omega⟩
 rw[qbmv hX]
 simp only[qz3,qbaa]
 rw[q7t hX (by omega) _ hl,qc]
theorem qboe (N n:Nat) (hN:2≤N) (K:MemT→MemT→Option ((MemT×Unit)×Unit)) (l:List qhv) (hl:l.length≤1000) (h1:∀ d∈l,d.2.2.1.length≤1000∧d.2.2.2.1.2.1.length≤1000) (z:MemT) (w:List qf8):∀ (c i:Nat),i≤l.length→l.length - i<c→
  qld (DD X N) n K c l (l.length:Int) (i:Int) z (w,l.take i,())=K z (w,l,())
 | 0,i,_,h2=>by omega
 | c+1,i,h0,h2=>by
  have hb:=qbh
  simp only[qld,qw7]
  by_cases hi:i<l.length
  ·have ih:=qboe N n hN K l hl h1 z w c (i+1) (by omega) (by omega)
   have hd:=h1 _ (z24 hi)
   rw[qh (by omega),ix hi,br_t,z12,qx hi,qt (by omega),ql3 hX (by omega) _ (by omega),qc,q1v hX (by omega) _ (by omega),qc]
   dsimp only
   rw[qh (by rw[z27];omega)]
   rw[z32 hi] at ih
   exact ih
  ·rw[qi (by omega),show l.take i=l from z42 (by omega)]
theorem qbdw (hn:W+3≤n) (m:MemT) (hw:m.1.length≤1000) (hl:m.2.1.length≤1000) (h1:∀ d∈m.2.1,d.2.2.1.length≤1000∧d.2.2.2.1.2.1.length≤1000):qj9 (DD X n) m=some ((m,()),()):=by
 obtain ⟨n,rfl⟩:∃ k,n=k+1:=⟨n - 1,by omega⟩
 have hW:=qbk
 rw[qbnq hX]
 simp only[qzn,qyh,qu8]
 rw[q1f hX (by omega) _ (by omega),qc]
 dsimp only
 refine Eq.trans (qboe hX n n (by omega) _ m.2.1 hl h1 ([],[],()) m.1 n 0 (Nat.zero_le _) (by omega)) ?_
 rfl
theorem qv8 (hn:2≤n) (x:ThT) (h1:x.1.length≤1000) (h2:List.length x.2.2.2.1≤1000) (h3:x.2.2.2.2.1.length≤1000):qhp (DD X n) x=some ((x,()),()):=by
 obtain ⟨n,rfl⟩:∃ k,n=k+1:=⟨n - 1,by omega⟩
 rw[qbfy hX]
 simp only[qst,q3k]
 rw[qsf hX (by omega) _ (by omega),qc,q1j hX (by omega) _ (by omega),qc,q1a hX (by omega) _ (by omega),qc]
theorem qbti (N n:Nat) (hN:2≤N) (K:Mach→Mach→Mach→Option ((Mach×Unit)×Unit)) (l:List ThT) (hl:l.length≤1000) (h1:∀ x∈l,x.1.length≤1000∧List.length x.2.2.2.1≤1000∧x.2.2.2.2.1.length≤1000) (z1 z2:Mach) (a:MemT) (b:Int×List qci×List Int×qu×Unit):∀ (c i:Nat),i≤l.length→l.length - i<c→
  qhy (DD X N) n K c l (l.length:Int) (i:Int) z1 z2 (a,l.take i,b)=K z1 z2 (a,l,b)
 | 0,i,_,h2=>by omega
 | c+1,i,h0,h2=>by
  have hb:=qbh
  simp only[qhy,qpc]
  by_cases hi:i<l.length
  ·have ih:=qbti N n hN K l hl h1 z1 z2 a b c (i+1) (by omega) (by omega)
   have hd:=h1 _ (z24 hi)
   rw[qh (by omega),ix hi,br_t,z12,qx hi,qt (by omega),qv8 hX (by omega) _ hd.1 hd.2.1 hd.2.2,qc]
   dsimp only
   rw[qh (by rw[z27];omega)]
   rw[z32 hi] at ih
   exact ih
  ·rw[qi (by omega),show l.take i=l from z42 (by omega)]
theorem qbrj (N n:Nat) (hN:2≤N) (K:Mach→Mach→Option ((Mach×Unit)×Unit)) (l:List qci) (hl:l.length≤1000) (h1:∀ x∈l,x.2.2.2.2.2.1.2.1.length≤1000) (z1:Mach) (a:MemT) (th:List ThT) (ti:Int) (b:List Int×qu×Unit):∀ (c i:Nat),i≤l.length→l.length - i<c→
  qh7 (DD X N) n K c l (l.length:Int) (i:Int) z1 (a,th,ti,l.take i,b)=K z1 (a,th,ti,l,b)
 | 0,i,_,h2=>by omega
 | c+1,i,h0,h2=>by
  have hb:=qbh
  simp only[qh7,qo7]
  by_cases hi:i<l.length
  ·have ih:=qbrj N n hN K l hl h1 z1 a th ti b c (i+1) (by omega) (by omega)
   have hd:=h1 _ (z24 hi)
   rw[qh (by omega),ix hi,br_t,z12,qx hi,qt (by omega),q1v hX (by omega) _ (by omega),qc]
   dsimp only
   rw[qh (by rw[z27];omega)]
   rw[z32 hi] at ih
   exact ih
  ·rw[qi (by omega),show l.take i=l from z42 (by omega)]
structure Short (m:Mach):Prop where
 w:m.1.1.length≤1000
 d:m.1.2.1.length≤1000
 de:∀ d∈m.1.2.1,d.2.2.1.length≤1000∧d.2.2.2.1.2.1.length≤1000
 t:m.2.1.length≤1000
 te:∀ x∈m.2.1,x.1.length≤1000∧List.length x.2.2.2.1≤1000∧x.2.2.2.2.1.length≤1000
 c:m.2.2.2.1.length≤1000
 ce:∀ x∈m.2.2.2.1,x.2.2.2.2.2.1.2.1.length≤1000
 o:m.2.2.2.2.1.length≤1000
 f:RightR m.2.2.2.2.2.1
theorem q2x (hn:W+4≤n) {m:Mach} (h:Short m):qi9 (DD X n) m=some ((m,()),()):=by
 obtain ⟨n,rfl⟩:∃ k,n=k+1:=⟨n - 1,by omega⟩
 have hW:=qbk
 have ht:=h.t;have hc:=h.c
 rw[qbeo hX]
 simp only[qrd,qqs,qnt]
 rw[qbdw hX (by omega) _ h.w h.d h.de,qc,q7t hX (by omega) _ (by have:=h.o;omega),qc,qbjz hX (by omega) h.f,qc]
 dsimp only
 refine Eq.trans (qbti hX n n (by omega) _ m.2.1 h.t h.te m (([],[],()),[],0,[],[],([],0,()),()) (m.1.1,m.1.2.1,()) (m.2.2.1,[],m.2.2.2.2.1,(m.2.2.2.2.2.1.1,m.2.2.2.2.2.1.2),()) n 0 (Nat.zero_le _) (by omega)) ?_
 simp only[qmt,qoc]
 refine Eq.trans (qbrj hX n n (by omega) _ m.2.2.2.1 h.c h.ce (([],[],()),[],0,[],[],([],0,()),()) (m.1.1,m.1.2.1,()) m.2.1 m.2.2.1 (m.2.2.2.2.1,(m.2.2.2.2.2.1.1,m.2.2.2.2.2.1.2),()) n 0 (Nat.zero_le _) (by omega)) ?_
 rfl
theorem qvu {m:Mach} (I:Inv m):Short m where
 w:=by rw[I.mem.len];omega
 d:=by rw[I.mem.dlen];have:=I.n;omega
 de:=fun d hd=>by
  obtain ⟨j,hj,rfl⟩:=z52.1 hd
  have hdl:=I.mem.dlen
  have e:m.1.2.1[j]=dsc m.1 (j:Int):=by unfold dsc;rw[z12,qx hj]
  have D:=I.mem.dok (j:Int) (by omega) (by omega)
  have h1:=D.len
  refine ⟨by rw[e];omega,?_⟩
  rw[e]
  have:=D.rl
  omega
 t:=by have:=I.n;omega
 te:=fun x hx=>by
  obtain ⟨j,hj,rfl⟩:=z52.1 hx
  have e:m.2.1[j]=thr m (j:Int):=by unfold thr;rw[z12,qx hj]
  have T:=I.th (j:Int) (by omega) (by omega)
  rw[e]
  have:=T.ops.1;have:=qblx hX T;have:=qbnu hX T
  exact ⟨by omega,by omega,by omega⟩
 c:=by have:=qru hX I;omega
 ce:=fun x hx=>by
  obtain ⟨j,hj,rfl⟩:=z52.1 hx
  have e:m.2.2.2.1[j]=getC m.2.2.2.1 (j:Int):=by rw[qih,qx hj]
  rw[e]
  have:=(I.call.c (j:Int) (by omega) (by omega)).len
  omega
 o:=by
  have h1:=qbs2 I.call
  have h2:=q89 m.2.2.2.1 0 m.2.2.2.1.length
  have:=qru hX I
  omega
 f:=I.first
end
end Go.G

namespace Go.G
set_option maxRecDepth 100000
open Go Go.V Go.Proofs
theorem eqW (a b:Int×Int×Int×Unit):qjw (Ty.pair (Ty.int IntKind.i64) (Ty.pair (Ty.int IntKind.i64) (Ty.pair (Ty.int IntKind.i64) Ty.unit))) a b=decide (a=b):=by
 obtain ⟨a1,a2,a3,⟨⟩⟩:=a
 obtain ⟨b1,b2,b3,⟨⟩⟩:=b
 by_cases h1:a1=b1<;>by_cases h2:a2=b2<;>by_cases h3:a3=b3<;>simp[qjw,h1,h2,h3]
theorem qvk {α:Type} {l:List α} {i:Nat} (h:i<l.length) (x d:α):(l.set i x).getD i d=x:=by rw[q1w,z6 ⟨rfl,h⟩]
def qbk3 (x:ThT):Prop:=x.1.length≤1000∧List.length x.2.2.2.1≤1000∧x.2.2.2.2.1.length≤1000
section
variable {X:Ext} (hX:XOk X) {n:Nat}
include hX
theorem qb38 (hn:1≤n) (x:ThT) (hs:x.2.2.2.2.1≠[]) (hl:x.2.2.2.2.1.length≤1000):qbbo (DD X n) x=some ((topH x,true,()),()):=by
 obtain ⟨n,rfl⟩:∃ k,n=k+1:=⟨n - 1,by omega⟩
 have h0:0<x.2.2.2.2.1.length:=List.length_pos_iff.2 hs
 rw[qbxp hX]
 simp only[qba8,qbj2]
 rw[qi (by omega),qn (by omega) (by omega),ixn (by omega) (by omega),br_t,show ((x.2.2.2.2.1.length:Int) - 1).toNat=x.2.2.2.2.1.length - 1 by omega]
 rfl
theorem qbsx (hn:3≤n) (x:ThT) (hx:qbk3 x) (h:qep):qo0 (DD X n) x h=some ((qblm x h,()),()):=by
 obtain ⟨n,rfl⟩:∃ k,n=k+1:=⟨n - 1,by omega⟩
 have hb:=qbh
 rw[qbu4 hX]
 simp only[q8u,qbgw]
 rw[qv8 hX (by omega) x hx.1 hx.2.1 hx.2.2,qc]
 dsimp only
 rw[qh (by have:=hx.2.2;omega)]
 rfl
theorem qbt4 (hn:3≤n) (x:ThT) (hx:qbk3 x) (hs:x.2.2.2.2.1≠[]) (h:qep):qtv (DD X n) x h=some ((qbfe x h,()),()):=by
 obtain ⟨n,rfl⟩:∃ k,n=k+1:=⟨n - 1,by omega⟩
 have h0:0<x.2.2.2.2.1.length:=List.length_pos_iff.2 hs
 have h1:=hx.2.2
 rw[qbul hX]
 simp only[q8j,qbhd]
 rw[qv8 hX (by omega) x hx.1 hx.2.1 hx.2.2,qc]
 dsimp only
 rw[qh (by omega),qn (by omega) (by omega),ixn (by omega) (by omega),br_t,show ((x.2.2.2.2.1.length:Int) - 1).toNat=x.2.2.2.2.1.length - 1 by omega]
 rfl
theorem qb4a (hn:3≤n) (x:ThT) (hx:qbk3 x) (hs:x.2.2.2.2.1≠[]):qbav (DD X n) x=some ((popS x,()),()):=by
 obtain ⟨n,rfl⟩:∃ k,n=k+1:=⟨n - 1,by omega⟩
 have h0:0<x.2.2.2.2.1.length:=List.length_pos_iff.2 hs
 have h1:=hx.2.2
 rw[qbxi hX]
 simp only[qbbw,qbk5]
 rw[qv8 hX (by omega) x hx.1 hx.2.1 hx.2.2,qc]
 dsimp only
 rw[qh (by omega),qn (by omega) (by omega),show (decide (0≤(x.2.2.2.2.1.length:Int) - 1)&&decide ((x.2.2.2.2.1.length:Int) - 1≤(x.2.2.2.2.1.length:Int)))=true by simp;omega,br_t,show ((x.2.2.2.2.1.length:Int) - 1).toNat=x.2.2.2.2.1.length - 1 by omega]
 rfl
theorem qb4h (hn:1≤n) {m:MemT} {k:Nat} {time:Int} {own:Int→Prop} (I:MemI m k time own) {h:qep} (H:HelpI m k h) (hk:k≤3) (hd:(dsc m h.1).1=h.2.1) (hs:(dsc m h.1).2.1=1) :
  q4e (DD X n) m h=some (((q8 m h).2.1,(q8 m h).2.2.1,(q8 m h).2.2.2.1,()),((q8 m h).1,())):=by
 obtain ⟨n,rfl⟩:∃ k,n=k+1:=⟨n - 1,by omega⟩
 have hlen:=I.len
 have hdl:=I.dlen
 have u0:=H.t.1
 have u1:=H.t.2
 have hat:=H.at0
 rw[qbwo hX]
 simp only[qbax,qbkn]
 have hdd:List.getD m.2.1 (Int.toNat h.1) (0,0,[],(0,[],()),())=dsc m h.1:=rfl
 rw[ixn u0 (by omega),br_t,hdd]
 unfold q8
 rw[z5 (by omega),z6 hs]
 by_cases ha:((dsc m h.1).2.2.1.length:Int)≤h.2.2.1
 ·rw[qh ha,z6 ha]
  rfl
 ·have hent:=I.ent u0 u1 hat.1 (show h.2.2.1<_ by omega)
  have he:List.getD (dsc m h.1).2.2.1 (Int.toNat h.2.2.1) (0,0,0,())=qo (dsc m h.1).2.2.1 h.2.2.1:=rfl
  rw[qi ha,z5 ha,ixn hat.1 (by omega),br_t,he,ixn hent.1.1 (by omega),br_t,qn (by omega) (by omega)]
  have hw:List.getD m.1 (Int.toNat (qo (dsc m h.1).2.2.1 h.2.2.1).1) (0,0,0,())=wd m (qo (dsc m h.1).2.2.1 h.2.2.1).1:=rfl
  rw[hw,eqW,show ((0:Int),h.1+1,h.2.1,())=mkW h.1 h.2.1 from rfl]
  by_cases hm:wd m (qo (dsc m h.1).2.2.1 h.2.2.1).1=mkW h.1 h.2.1
  ·rw[qh hm,z6 hm,qn (by omega) (by omega)];rfl
  ·rw[qi hm,z5 hm]
   by_cases ht:(wd m (qo (dsc m h.1).2.2.1 h.2.2.1).1).2.1≠0
   ·have hwt:(wd m (qo (dsc m h.1).2.2.1 h.2.2.1).1).2.1≤100∧0≤(wd m (qo (dsc m h.1).2.2.1 h.2.2.1).1).2.1:=by
     rcases I.word _ hent.1.1 hent.1.2 with q | ⟨v,v0,v1,vo,vm,_⟩
     ·exact absurd q.1 ht
     ·rw[vm];simp only[mkW];omega
    rw[show ((wd m (qo (dsc m h.1).2.2.1 h.2.2.1).1).2.1 != 0)=true by rw[bned,z10 ht];rfl,br_t,z6 ht,qn (by omega) (by omega)]
   ·have ht0:(wd m (qo (dsc m h.1).2.2.1 h.2.2.1).1).2.1=0:=by omega
    rw[show ((wd m (qo (dsc m h.1).2.2.1 h.2.2.1).1).2.1 != 0)=false by rw[bned,z11 ht0];rfl,br_f,z5 ht]
    by_cases ho:(wd m (qo (dsc m h.1).2.2.1 h.2.2.1).1).1=(qo (dsc m h.1).2.2.1 h.2.2.1).2.1
    ·rw[qh ho,z6 ho,qn (by omega) (by omega)];rfl
    ·rw[qi ho,z5 ho];rfl
theorem qbk9 {m:MemT} {k:Nat} {time:Int} {own:Int→Prop} (I:MemI m k time own) (hk:k≤3):m.1.length≤1000∧m.2.1.length≤1000∧∀ d∈m.2.1,d.2.2.1.length≤1000∧d.2.2.2.1.2.1.length≤1000:=by
 refine ⟨by rw[I.len];omega,by rw[I.dlen];omega,fun d hd=>?_⟩
 obtain ⟨j,hj,rfl⟩:=z52.1 hd
 have hdl:=I.dlen
 have e:m.2.1[j]=dsc m (j:Int):=by unfold dsc;rw[z12,qx hj]
 have D:=I.dok (j:Int) (by omega) (by omega)
 have h1:=D.len
 have h2:=D.rl
 rw[e]
 exact ⟨by omega,by omega⟩
theorem qbzm (hn:W+8≤n) {m:MemT} {k:Nat} {time:Int} {own:Int→Prop} (I:MemI m k time own) {h:qep} (H:HelpI m k h) (h1:1≤k) (hk:k≤3) (ht:time≤1000000) :
  q19 (DD X n) m h=some (q8 m h,()):=by
 obtain ⟨n,rfl⟩:∃ k,n=k+1:=⟨n - 1,by omega⟩
 have hlen:=I.len
 have hdl:=I.dlen
 have u0:=H.t.1
 have u1:=H.t.2
 have hat:=H.at0
 have hfi:=H.fin
 have hsq:=H.seq
 have hst:=(I.dok h.1 u0 u1).st.2 (by omega)
 obtain ⟨s1,s2,s3⟩:=qbk9 hX I hk
 rw[qbps hX]
 simp only[q2g,qbb8]
 rw[qbdw hX (by omega) m s1 s2 s3,qc]
 dsimp only
 rw[show ((m.1,m.2.1,()):MemT)=m from rfl,q9r hX (by omega) I ht h1 (by omega),qc]
 dsimp only
 rw[z13,br_f,qn (by omega) (by omega),qd4 hX (by omega),qc]
 dsimp only
 have hdd:List.getD m.2.1 (Int.toNat h.1) (0,0,[],(0,[],()),())=dsc m h.1:=rfl
 rw[qck ⟨u0,by omega⟩,z13,z20,qi (by omega),ixn u0 (by omega),br_t,hdd]
 by_cases hd:(dsc m h.1).1=h.2.1
 ·rw[show ((dsc m h.1).1 != h.2.1)=false by rw[bned,z11 hd];rfl,br_f,br_t,z5 (by omega),z5 (by omega)]
  rw[show ((dsc m h.1).2.1 != 0)=true by rw[bned,z10 (by omega)];rfl,z21]
  have hhh:(h.1,h.2.1,h.2.2.1,h.2.2.2.1,())=h:=rfl
  by_cases hs:(dsc m h.1).2.1=1
  ·rw[z11 hs,z21,br_t,br_t,show ((h.1,h.2.1,h.2.2.1,h.2.2.2.1,h.2.2.2.2):qep)=h from rfl,qb4h hX (by omega) I H hk hd hs,qc]
  ·rw[z10 hs,z20,br_f,qb2m]
   have ea:q8 m h=(if ((dsc m h.1).2.2.1.length:Int)≤h.2.2.2.1 then (m,h,dH,2,())
    else (if wd m (qo (dsc m h.1).2.2.1 h.2.2.2.1).1=mkW h.1 h.2.1 then
     setW m (qo (dsc m h.1).2.2.1 h.2.2.2.1).1 (if (dsc m h.1).2.1=2 then (qo (dsc m h.1).2.2.1 h.2.2.2.1).2.2.1 else (qo (dsc m h.1).2.2.1 h.2.2.2.1).2.1,0,0,()) else m,(h.1,h.2.1,h.2.2.1,h.2.2.2.1+1,()),dH,0,())):=by
    unfold q8;rw[z5 (by omega),z5 hs]
   rw[ea]
   by_cases hf:((dsc m h.1).2.2.1.length:Int)≤h.2.2.2.1
   ·rw[z6 hf,z10 (show ¬ (dsc m h.1).2.1=0 by omega),z20,z11 (show h.2.2.2.1≥((dsc m h.1).2.2.1.length:Int) from hf),br_t]
    rfl
   ·have hent:=I.ent u0 u1 hfi.1 (show h.2.2.2.1<_ by omega)
    have he:List.getD (dsc m h.1).2.2.1 (Int.toNat h.2.2.2.1) (0,0,0,())=qo (dsc m h.1).2.2.1 h.2.2.2.1:=rfl
    have hw:List.getD m.1 (Int.toNat (qo (dsc m h.1).2.2.1 h.2.2.2.1).1) (0,0,0,())=wd m (qo (dsc m h.1).2.2.1 h.2.2.2.1).1:=rfl
    rw[z5 hf,z10 (show ¬ (dsc m h.1).2.1=0 by omega),z20,z10 (show ¬ h.2.2.2.1≥((dsc m h.1).2.2.1.length:Int) by omega),br_f,ixn hfi.1 (by omega),br_t,he,
     ixn hent.1.1 (by omega),br_t,hw,eqW,qn (show -9223372036854775808≤h.1+1 by omega) (by omega),show ((0:Int),h.1+1,h.2.1,())=mkW h.1 h.2.1 from rfl]
    by_cases hm:wd m (qo (dsc m h.1).2.2.1 h.2.2.2.1).1=mkW h.1 h.2.1
    ·rw[qh hm,z6 hm,qn (by omega) (by omega),List.set_set,qvk (show (qo (dsc m h.1).2.2.1 h.2.2.2.1).1.toNat<m.1.length by omega)]
     by_cases h2:(dsc m h.1).2.1=2
     ·rw[qh h2,z6 h2];rfl
     ·rw[qi h2,z5 h2];rfl
    ·rw[qi hm,z5 hm,qn (by omega) (by omega)]
     rfl
 ·rw[show ((dsc m h.1).1 != h.2.1)=true by rw[bned,z10 hd];rfl,br_t]
  have ea:q8 m h=(m,h,dH,2,()):=by unfold q8;rw[z6 hd]
  rw[ea];rfl
end
end Go.G

namespace Go.G
set_option maxRecDepth 100000
open Go Go.V Go.Proofs
section
variable {X:Ext} (hX:XOk X) {n:Nat}
include hX
theorem qbju (D:Den ctx) (n:Nat) (K0:Int→Mach→Option ((Int×Unit)×Mach×Unit)) (K1:Mach→Option ((Int×Unit)×Mach×Unit)) (t:Int) (m:Mach) (hl:m.2.2.2.1.length≤1000):∀ (i c:Nat),i≤m.2.2.2.1.length→i<c→
  qdf D n K0 K1 c t ((i:Int) - 1) m=if qfj m.2.2.2.1 t i<0 then K1 m else K0 (qfj m.2.2.2.1 t i) m
 | _,0,_,h2=>by omega
 | 0,c+1,_,_=>by
  simp only[qdf,qhh]
  have hgo:qfj m.2.2.2.1 t 0 = -1:=rfl
  rw[qi (by omega),hgo,z6 (by omega)]
 | i+1,c+1,h1,h2=>by
  have ih:=qbju D n K0 K1 t m hl i c (by omega) (by omega)
  simp only[qdf,qhh]
  have hgo:qfj m.2.2.2.1 t (i+1)=if (m.2.2.2.1.getD i dC).1=t∧(m.2.2.2.1.getD i dC).2.2.2.2.1<0 then (i:Int) else qfj m.2.2.2.1 t i:=rfl
  have e:(((i+1:Nat):Int) - 1)=(i:Int):=by omega
  have hd:m.2.2.2.1.getD i (0,(0,0,0,()),0,0,0,(0,[],()),())=m.2.2.2.1.getD i dC:=rfl
  rw[e,qh (by omega),ix (by omega),br_t,z12,hd,qn (by omega) (by omega)]
  by_cases a:(m.2.2.2.1.getD i dC).1=t
  ·rw[qh a,br_t]
   by_cases b:(m.2.2.2.1.getD i dC).2.2.2.2.1<0
   ·rw[z6 ⟨a,b⟩] at hgo
    rw[qh b,hgo,z5 (by omega)]
   ·rw[z5 (fun q=>b q.2)] at hgo
    rw[qi b,hgo];exact ih
  ·rw[z5 (fun q=>a q.1)] at hgo
   rw[qi a,hgo];exact ih
theorem qbeb (l:List qci) (t:Int):∀ i,-1≤qfj l t i∧qfj l t i<i
 | 0=>by simp[qfj]
 | i+1=>by
  have:=qbeb l t i
  simp only[qfj]
  split<;>omega
theorem qbjs (hn:W+1≤n) (m:Mach) (t:Int) (hl:m.2.2.2.1.length≤1000):qhw (DD X n) m t=some ((qbs m.2.2.2.1 t,()),(m,())):=by
 obtain ⟨n,rfl⟩:∃ k,n=k+1:=⟨n - 1,by omega⟩
 have hW:=qbk
 rw[q67 hX]
 simp only[qkx,qku,qjv]
 rw[qn (by omega) (by omega)]
 refine Eq.trans (qbju hX (DD X n) n _ _ t m hl m.2.2.2.1.length n (Nat.le_refl _) (by omega)) ?_
 have:=qbeb (X:=X) hX m.2.2.2.1 t m.2.2.2.1.length
 unfold qbs
 by_cases h:qfj m.2.2.2.1 t m.2.2.2.1.length<0
 ·rw[z6 h,show qfj m.2.2.2.1 t m.2.2.2.1.length = -1 by omega];rfl
 ·rw[z5 h];rfl
theorem qbpk (l:List qci) (t:Int) : -1≤qbs l t∧qbs l t<l.length:=qbeb (X:=X) hX l t _
theorem c_so (hn:W+2≤n) (m:Mach) (t:Int) (r:ResT) (hl:m.2.2.2.1.length≤1000) (ho:m.2.2.2.2.1.length≤1000) (hr:r.2.1.length≤1000):qjm (DD X n) m t r=some ((),(soP m t r,())):=by
 obtain ⟨n,rfl⟩:∃ k,n=k+1:=⟨n - 1,by omega⟩
 have hW:=qbk
 have hb:=qbh
 have hrg:=qbpk hX m.2.2.2.1 t
 rw[qbgn hX]
 simp only[qs8,q3j]
 rw[qbjs hX (by omega) m t hl,qc]
 dsimp only
 unfold soP
 by_cases h:qbs m.2.2.2.1 t<0
 ·rw[qh h,z6 h]
 ·rw[qi h,z5 h,ixn (by omega) (by omega),br_t,q1v hX (by omega) r (by omega),qc]
  dsimp only
  rw[z17,ixn (by omega) (by omega),br_t,qh (by omega),List.set_set,qvk (show (qbs m.2.2.2.1 t).toNat<m.2.2.2.1.length by omega)]
  rfl
theorem qb1w (hn:W+2≤n) (m:Mach) (t:Int) (r:ResT) (t0:0≤t) (t1:t<m.2.1.length) (hl:m.2.2.2.1.length≤1000) (hr:r.2.1.length≤1000) (hp:0≤(thr m t).2.1∧(thr m t).2.1≤1000) (ho:0≤qbs m.2.2.2.1 t) :
  qi4 (DD X n) m t r=some ((),(endP m t r,())):=by
 obtain ⟨n,rfl⟩:∃ k,n=k+1:=⟨n - 1,by omega⟩
 have hW:=qbk
 have hrg:=qbpk hX m.2.2.2.1 t
 rw[qbdn hX]
 simp only[qq4,qrr]
 rw[qbjs hX (by omega) m t hl,qc]
 dsimp only
 rw[qh (by omega),ixn (by omega) (by omega),br_t,q1v hX (by omega) r (by omega),qc]
 dsimp only
 rw[z17,ixn (by omega) (by omega),br_t,List.set_set,qvk (show (qbs m.2.2.2.1 t).toNat<m.2.2.2.1.length by omega)]
 dsimp only
 simp only[qo9,qx4]
 have ht:t.toNat<m.2.1.length:=by omega
 have hx:m.2.1.getD t.toNat ([],0,false,[],[],())=thr m t:=rfl
 rw[ixn t0 t1,br_t]
 simp only[List.set_set,qvk ht,hx,z17]
 rw[qn (by omega) (by omega)]
 unfold endP endC
 rw[z5 (by omega)]
 rfl
theorem qby1 (hn:1≤n) (w:qf8) (t:Int) (h0:0≤t∧t≤100) (h:w.2.1≠t+1):qbj ctx (DD X n) (Clo.mk 177 [CapV.rptr (Ty.int IntKind.i64) t]) [CapV.val qbk1 w] Ty.bool=some false:=by
 obtain ⟨n,rfl⟩:∃ k,n=k+1:=⟨n - 1,by omega⟩
 have e:∀ D:Den ctx,qbj ctx D (Clo.mk 177 [CapV.rptr (Ty.int IntKind.i64) t]) [CapV.val qbk1 w] Ty.bool=(q9a D w t).bind fun r=>some r.1.1:=fun D=>by kernel_rfl
 rw[e,qbnx hX]
 simp only[q0u,q82]
 rw[qn (by omega) (by omega),z10 h]
 rfl
theorem qb2k (hn:W+8≤n) {m:MemT} {k:Nat} {time:Int} {own own':Int→Prop} (I:MemI m k time own) (h1:1≤k) (hk:k≤3) (ht:time≤1000000) {t:Int} (t0:0≤t) (t1:t<k) (hno:¬ own t) {E:List qbe} {r:ResT} (hE:E.length≤1000) (hr:r.2.1.length≤1000)
  (I':MemI (setD m t ((dsc m t).1+1,1,E,r,())) k time own'):qw0 (DD X n) m t E r=some ((setD m t ((dsc m t).1+1,1,E,r,()),(t,(dsc m t).1+1,0,0,()),true,()),()):=by
 obtain ⟨n,rfl⟩:∃ k,n=k+1:=⟨n - 1,by omega⟩
 have hW:=qbk
 have hlen:=I.len
 have hdl:=I.dlen
 have hsq:=(I.dok t t0 t1).seq
 obtain ⟨s1,s2,s3⟩:=qbk9 hX I hk
 rw[qbsd hX]
 simp only[q5s,qbeg]
 rw[qbdw hX (by omega) m s1 s2 s3,qc]
 dsimp only
 rw[q9r hX (by omega) I ht h1 (by omega),qc]
 dsimp only
 rw[z13,br_f,qn (by omega) (by omega),qd4 hX (by omega),qc]
 dsimp only
 rw[qck ⟨t0,by omega⟩,z13,br_f,qbm7 hX (by omega) (by omega) (f:=fun _=>false) (fun w hw=>qby1 hX (by omega) w t (by omega) (by
  obtain ⟨j,hj,rfl⟩:=z52.1 hw
  have e:m.1[j]=wd m (j:Int):=by unfold wd;rw[z12,qx hj]
  rw[e]
  rcases I.word (j:Int) (by omega) (by omega) with q | ⟨v,v0,v1,vo,vm,_⟩
  ·have:=q.1;omega
  ·rw[vm]
   simp only[mkW]
   intro q
   exact hno (by rw[show t=v by omega];exact vo))),qc]
 dsimp only
 have hdd:List.getD m.2.1 (Int.toNat t) (0,0,[],(0,[],()),())=dsc m t:=rfl
 rw[anyF hX,br_f,ixn t0 (by omega),br_t,qc]
 dsimp only
 rw[ql3 hX (by omega) E (by omega),qc,q1v hX (by omega) r (by omega),qc]
 dsimp only
 rw[ixn t0 (by omega),br_t,hdd,qn (by omega) (by omega)]
 have hm:=q9r hX (n:=n) (by omega) I' ht h1 (by omega)
 rw[show ((m.1,m.2.1.set t.toNat ((dsc m t).1+1,1,E,(r.1,r.2.1,()),()),()):MemT)=setD m t ((dsc m t).1+1,1,E,r,()) from rfl,hm,qc]
 dsimp only
 rw[z13,br_f]
end
end Go.G

namespace Go.G
set_option maxRecDepth 100000
open Go Go.V Go.Proofs
theorem qbwu {m:MemT} {h:qep} (e:(q8 m h).2.2.2.1=2):(q8 m h).1=m:=by
 unfold q8 at e ⊢
 repeat' split at e
 all_goals first
  | rfl
  | (exfalso;revert e;decide)
  | skip
 all_goals simp_all
theorem qbxn {m:MemT} {h:qep} (e:(q8 m h).2.2.2.1=3):(q8 m h).1=setD m h.1 ((dsc m h.1).1,2,(dsc m h.1).2.2):=by
 unfold q8 at e ⊢
 repeat' split at e
 all_goals first
  | (exfalso;revert e;decide)
  | skip
 all_goals simp_all
theorem qbr3 {m:Mach} {t:Int} {x:ThT} (t0:0≤t) (t1:t<m.2.1.length) (r:ResT) (h1:x.1=(thr m t).1) (h2:x.2.1=(thr m t).2.1):endP (setT m t x) t r=endP m t r:=by
 have hx:thr (setT m t x) t=x:=by rw[qhg ⟨t0,t1⟩ t0,z6 rfl]
 unfold endP
 rw[hx,h1,h2]
 unfold endC
 rw[show (setT m t x).2.2.2.1=m.2.2.2.1 from rfl]
 by_cases h:qbs m.2.2.2.1 t<0
 ·rw[z6 h,z6 h]
  unfold setT
  dsimp only
  rw[List.set_set]
 ·rw[z5 h,z5 h]
  unfold setT
  dsimp only
  rw[List.set_set]
  rfl
section
variable {X:Ext} (hX:XOk X) {n:Nat}
include hX
theorem qbov {m:MemT} {k:Nat} {x:ThT} {t:Int} (T:ThI m k x t):qbk3 x:=by
 have:=T.ops.1;have:=qblx hX T;have:=qbnu hX T
 exact ⟨by omega,by omega,by omega⟩
theorem qby2 (hn:W+10≤n) {m:Mach} (I:Inv m) {t:Int} (t0:0≤t) (t1:t<m.2.1.length) (hs:(thr m t).2.2.2.2.1≠[]) (htm:m.2.2.1≤1000000):qm1 (DD X n) m t=some ((),(qlr m t,())):=by
 obtain ⟨n,rfl⟩:∃ k,n=k+1:=⟨n - 1,by omega⟩
 have hW:=qbk
 have T:=I.th t t0 t1
 have ho:=T.isOn hs
 have hsh:=qbov hX T
 have H:=T.help _ (q6f hs)
 have hnn:=I.n
 have hdl:=I.mem.dlen
 have ht:t.toNat<m.2.1.length:=by omega
 have hx:m.2.1.getD t.toNat ([],0,false,[],[],())=thr m t:=rfl
 obtain ⟨k,hk,_⟩:=I.call.opn t t0 t1 ho
 have hoc:=I.call.openCE hk
 have hkr:=hk.rng
 have hcl:=qru hX I
 have hol:=(qvu hX I).o
 have hpc:=T.pc
 have hop:=T.ops.1
 have u0:=H.t.1
 have u1:=H.t.2
 have hrl:=(I.mem.dok _ u0 u1).rl
 rw[q9n hX]
 simp only[qmx,qvt,hx,z17,List.set_set,qvk ht]
 rw[ixn t0 t1,br_t,qb38 hX (by omega) (thr m t) hs (by have:=hsh.2.2;omega),qc]
 dsimp only
 rw[show ((m.1.1,m.1.2.1,()):MemT)=m.1 from rfl,qbzm hX (by omega) I.mem H (by omega) (by omega) htm,qc]
 dsimp only
 unfold qlr
 by_cases c1:(q8 m.1 (topH (thr m t))).2.2.2.1=1
 ·rw[qh c1,z6 c1]
  by_cases hc:(topH (thr m t)).1=t∧(thr m t).2.2.2.2.1.length=1
  ·rw[z6 hc,z11 hc.1,z21,qh (by omega),qbsx hX (by omega) _ hsh,qc]
   dsimp only
   rw[br_t];rfl
  ·rw[z5 hc]
   have e:(bif decide ((topH (thr m t)).1=t) then decide (((thr m t).2.2.2.2.1.length:Int)=1) else false)=false:=by
    by_cases a:(topH (thr m t)).1=t
    ·rw[z11 a,z21,z10 (fun q=>hc ⟨a,by omega⟩)]
    ·rw[z10 a];rfl
   rw[e,br_f,qbt4 hX (by omega) _ hsh hs,qc]
   dsimp only
   rw[br_t];rfl
 rw[qi c1,z5 c1]
 by_cases c2:(q8 m.1 (topH (thr m t))).2.2.2.1=2
 ·rw[qh c2,z6 c2,qb4a hX (by omega) _ hsh hs,qc]
  dsimp only
  rw[br_t,qbwu c2]
  by_cases hne:(topH (thr m t)).1≠t
  ·rw[show ((topH (thr m t)).1 != t)=true by rw[bned,z10 hne];rfl,br_t,z6 hne];rfl
  ·have he:(topH (thr m t)).1=t:=by omega
   have hd:m.1.2.1.getD t.toNat (0,0,[],(0,[],()),())=dsc m.1 t:=rfl
   rw[show ((topH (thr m t)).1 != t)=false by rw[bned,z11 he];rfl,br_f,z5 hne,br_t,ixn t0 (by omega),br_t,hd]
   by_cases hy:(dsc m.1 t).2.1=2
   ·rw[qh hy,z6 hy]
    have hE:=qb1w hX (n:=n) (by omega) (setT m t ((popS (thr m t)).1,(popS (thr m t)).2.1,(popS (thr m t)).2.2.1,(popS (thr m t)).2.2.2.1,[],())) t (dsc m.1 t).2.2.2.1 t0 (by rw[qgn];exact t1) (by show m.2.2.2.1.length≤1000;omega) (by rw[he] at hrl;omega)
     (by rw[qhg ⟨t0,t1⟩ t0,z6 rfl];show 0≤(thr m t).2.1∧(thr m t).2.1≤1000;omega) (by show 0≤qbs m.2.2.2.1 t;omega)
    rw[qbr3 (x:=((popS (thr m t)).1,(popS (thr m t)).2.1,(popS (thr m t)).2.2.1,(popS (thr m t)).2.2.2.1,[],())) t0 t1 _ rfl rfl] at hE
    refine Eq.trans (congrArg (fun z=>qd z _) hE) ?_
    rw[qc]
    rfl
   ·rw[qi hy,z5 hy,br_t]
    rfl
 rw[qi c2,z5 c2]
 by_cases c3:(q8 m.1 (topH (thr m t))).2.2.2.1=3
 ·rw[qh c3,z6 c3,qbxn c3]
  have hl2:(setD m.1 (topH (thr m t)).1 ((dsc m.1 (topH (thr m t)).1).1,2,(dsc m.1 (topH (thr m t)).1).2.2)).2.1.length=m.1.2.1.length:=qbhn _ _ _
  have hd:List.getD (setD m.1 (topH (thr m t)).1 ((dsc m.1 (topH (thr m t)).1).1,2,(dsc m.1 (topH (thr m t)).1).2.2)).2.1 (topH (thr m t)).1.toNat (0,0,[],(0,[],()),())=((dsc m.1 (topH (thr m t)).1).1,2,(dsc m.1 (topH (thr m t)).1).2.2):=by
   have:=qrq (m:=m.1) (u:=(topH (thr m t)).1) (t:=(topH (thr m t)).1) (d:=((dsc m.1 (topH (thr m t)).1).1,2,(dsc m.1 (topH (thr m t)).1).2.2)) (by omega) u0
   rw[z6 rfl] at this
   exact this
  rw[hl2,ixn u0 (by omega),br_t,hd]
  have hS:=c_so hX (n:=n) (by omega) (putM m (setD m.1 (topH (thr m t)).1 ((dsc m.1 (topH (thr m t)).1).1,2,(dsc m.1 (topH (thr m t)).1).2.2))) (topH (thr m t)).1 (dsc m.1 (topH (thr m t)).1).2.2.2.1 (by show m.2.2.2.1.length≤1000;omega) hol (by omega)
  refine Eq.trans (congrArg (fun z=>qd z _) hS) ?_
  rw[qc]
  dsimp only
  rw[qbt4 hX (by omega) _ hsh hs,qc]
  dsimp only
  have e2:(soP (putM m (setD m.1 (topH (thr m t)).1 ((dsc m.1 (topH (thr m t)).1).1,2,(dsc m.1 (topH (thr m t)).1).2.2))) (topH (thr m t)).1 (dsc m.1 (topH (thr m t)).1).2.2.2.1).2.1=m.2.1:=by unfold soP;split<;>rfl
  rw[e2,ixn t0 t1,br_t,←e2]
  rfl
 rw[qi c3,z5 c3,qbt4 hX (by omega) _ hsh hs,qc]
 dsimp only
 rw[br_t];rfl
end
end Go.G

namespace Go.G
set_option maxRecDepth 100000
open Go Go.V Go.Proofs
theorem qbl9 (m:Mach) (t u:Int) (x:ThT) (r:ResT):soP (setT m t x) u r=setT (soP m u r) t x:=by
 unfold soP
 rw[show (setT m t x).2.2.2.1=m.2.2.2.1 from rfl]
 by_cases h:qbs m.2.2.2.1 u<0
 ·rw[z6 h,z6 h]
 ·rw[z5 h,z5 h];rfl
theorem qbah (m:Mach) (u:Int) (r:ResT):(soP m u r).2.1=m.2.1:=by unfold soP;split<;>rfl
section
variable {X:Ext} (hX:XOk X) {n:Nat}
include hX
theorem qb3y (hn:W+15≤n) {m:Mach} (I:Inv m) {t:Int} (t0:0≤t) (t1:t<m.2.1.length) (ho:(thr m t).2.2.1=true) (hs:(thr m t).2.2.2.2.1=[]) (hseq:(dsc m.1 t).1+1≤m.2.2.1) (htm:m.2.2.1≤1000000) :
  qpn (DD X n) m t=some ((true,()),(q4k m t,())):=by
 obtain ⟨n,rfl⟩:∃ k,n=k+1:=⟨n - 1,by omega⟩
 have hW:=qbk
 have hb:=qbh
 have IR:=qbs8 I t0 t1 ho hs hseq
 have T:=I.th t t0 t1
 have hop:=T.op ho
 have hsh:=qbov hX T
 have hnown:=qy2 (t:=t) hs
 have hno:¬ ownP m t:=by unfold ownP;rw[hnown];simp
 obtain ⟨q,B,hq⟩:=T.read ho hnown
 have hal:=T.along ho
 obtain ⟨hr1,hr2⟩:=q05 hop T.got hal
 have hnx:q55 (thr m t)=q∧(0≤q∧q<20)∧q∉qb0 (thr m t).2.2.2.1∧List.length (thr m t).2.2.2.1<8:=by
  rcases hr2 with h | ⟨q',B',h,h2,h3,h4,h5⟩
  ·rw[hq] at h
   have:=congrArg List.length h.1
   simp at this
  ·rw[hq] at h
   have:=List.append_cancel_left h
   simp only[z36] at this
   obtain ⟨rfl,_⟩:=this
   exact ⟨h2,h3,h4,h5⟩
 obtain ⟨hnx,hqr,hqn,hlen⟩:=hnx
 have hnn:=I.n
 have hwl:=I.mem.len
 have hdl:=I.mem.dlen
 have ht:t.toNat<m.2.1.length:=by omega
 have hx:m.2.1.getD t.toNat ([],0,false,[],[],())=thr m t:=rfl
 have hopd:List.getD (thr m t).1 (Int.toNat (thr m t).2.1) (0,0,0,())=opT (thr m t):=rfl
 have hpc:=T.pc
 have hon:=T.on ho
 have hopl:=T.ops.1
 obtain ⟨k,hk,_⟩:=I.call.opn t t0 t1 ho
 have hoc:=I.call.openCE hk
 have hkr:=hk.rng
 have hcl:=qru hX I
 have hol:=(qvu hX I).o
 rw[qbcw hX]
 simp only[qpp,qya,hx,z17,List.set_set,qvk ht,hopd]
 rw[ixn t0 t1,br_t,ixn hpc.1 hon,br_t,qbub hX (by omega) (by omega),qc]
 dsimp only
 have hnp:qbqw (opT (thr m t)) (thr m t).2.2.2.1=q:=by unfold qbqw;rw[z6 hop];exact hnx
 have hwd:m.1.1.getD q.toNat (0,0,0,())=wd m.1 q:=rfl
 rw[hnp,qh hqr.1,ixn hqr.1 (by omega),br_t,hwd]
 have hgx:gotX m (thr m t)=(thr m t).2.2.2.1++[(q,(wd m.1 q).1,())]:=by unfold gotX;rw[hnx]
 unfold q4k at IR ⊢
 rw[hnx,hgx] at IR ⊢
 by_cases hw:(wd m.1 q).2.1≠0
 ·rw[z6 hw]
  have hwt:(wd m.1 q).2.1≤100∧0≤(wd m.1 q).2.1:=by
   rcases I.mem.word q hqr.1 hqr.2 with z | ⟨v,v0,v1,vo,vm,_⟩
   ·exact absurd z.1 hw
   ·rw[vm];simp only[mkW];omega
  rw[show ((wd m.1 q).2.1 != 0)=true by rw[bned,z10 hw];rfl,br_t,qn (by omega) (by omega)]
  rw[show (((thr m t).1,(thr m t).2.1,(thr m t).2.2.1,(thr m t).2.2.2.1,(thr m t).2.2.2.2):ThT)=thr m t from rfl,qbsx hX (by omega) _ hsh,qc]
  rfl
 have hw0:(wd m.1 q).2.1=0:=by omega
 rw[z5 hw] at IR ⊢
 rw[show ((wd m.1 q).2.1 != 0)=false by rw[bned,z11 hw0];rfl,br_f,qh (by omega)]
 have hgl:List.length ((thr m t).2.2.2.1++[(q,(wd m.1 q).1,())])≤1000:=by rw[z19,List.length_singleton];omega
 rw[qbsz hX (by omega) (by omega),qc]
 dsimp only
 generalize hg':(thr m t).2.2.2.1++[(q,(wd m.1 q).1,())]=got' at *
 have hset:(m.1,m.2.1.set t.toNat ((thr m t).1,(thr m t).2.1,(thr m t).2.2.1,got',(thr m t).2.2.2.2),m.2.2)=setT m t (qk1 (thr m t) got'):=rfl
 by_cases hpf:(qch (opT (thr m t)) got').2.1=false
 ·rw[z6 hpf,hpf,Bool.not_false,br_t,hset]
 ·rw[z5 hpf] at IR ⊢
  rw[show (qch (opT (thr m t)) got').2.1=true by simpa using hpf,z13,br_f]
  have hrl:=qbx3 (opT (thr m t)) got'
  by_cases hnow:(qch (opT (thr m t)) got').1.1=true
  ·rw[z6 hnow,hnow,br_t,hset]
   have hS:=c_so hX (n:=n) (by omega) (setT m t (qk1 (thr m t) got')) t (qch (opT (thr m t)) got').1.2.1 (by show m.2.2.2.1.length≤1000;omega) hol (by omega)
   refine Eq.trans (congrArg (fun z=>qd z _) hS) ?_
   rw[qc]
   dsimp only
   have e1:(soP (setT m t (qk1 (thr m t) got')) t (qch (opT (thr m t)) got').1.2.1).2.1.length=m.2.1.length:=by rw[qbah,qgn]
   have hthr:thr (soP m t (qch (opT (thr m t)) got').1.2.1) t=thr m t:=q5h (qbah _ _ _) t
   have hso:soP m t (qch (opT (thr m t)) got').1.2.1=(m.1,m.2.1,m.2.2.1,m.2.2.2.1.set k.toNat ((getC m.2.2.2.1 k).1,(getC m.2.2.2.1 k).2.1,(getC m.2.2.2.1 k).2.2.1,m.2.2.1,(getC m.2.2.2.1 k).2.2.2.2.1,(qch (opT (thr m t)) got').1.2.1,()),m.2.2.2.2.1++[k],m.2.2.2.2.2):=by
    unfold soP
    rw[hoc,z5 (by omega)]
    rfl
   have hcso:(soP (setT m t (qk1 (thr m t) got')) t (qch (opT (thr m t)) got').1.2.1).2.2.2.1=(soP m t (qch (opT (thr m t)) got').1.2.1).2.2.2.1:=by rw[qbl9];rfl
   have hoc2:0≤qbs (soP m t (qch (opT (thr m t)) got').1.2.1).2.2.2.1 t:=by
    have hyn:qeq m t=none:=by unfold qeq;rw[z5 (fun z=>by rw[hnown] at z;cases z.1)]
    have hpr:(qch (opT (thr m t)) got').1.2.1.2.1.length≤20:=hrl.1
    -- the call is open still
    have gk:getC (m.2.2.2.1.set k.toNat ((getC m.2.2.2.1 k).1,(getC m.2.2.2.1 k).2.1,(getC m.2.2.2.1 k).2.2.1,m.2.2.1,(getC m.2.2.2.1 k).2.2.2.2.1,(qch (opT (thr m t)) got').1.2.1,())) k=((getC m.2.2.2.1 k).1,(getC m.2.2.2.1 k).2.1,(getC m.2.2.2.1 k).2.2.1,m.2.2.1,(getC m.2.2.2.1 k).2.2.2.2.1,(qch (opT (thr m t)) got').1.2.1,()):=by
     rw[qkl hk.rng hk.rng.1,z6 rfl]
    have key:∀ (l:List qci) (j:Int),0≤j→j<l.length→(getC l j).1=t→(getC l j).2.2.2.2.1<0→∀ i:Nat,j<i→0≤qfj l t i:=by
     intro l j j0 j1 h1 h2 i
     induction i with
     | zero=>intro h;omega
     | succ i ih=>
      intro h
      simp only[qfj]
      split
      ·omega
      ·next hc=>
       refine ih ?_
       by_cases e:j=(i:Int)
       ·exfalso
        refine hc ?_
        rw[e] at h1 h2
        rw[qih] at h1 h2
        exact ⟨h1,h2⟩
       ·omega
    rw[hso]
    dsimp only
    unfold qbs
    refine key _ k hkr.1 (by rw[z17];exact hkr.2) ?_ ?_ _ (by rw[z17];exact hkr.2)
    ·rw[gk];exact hk.t
    ·rw[gk];dsimp only;have:=hk.fin;omega
   have hE:=qb1w hX (n:=n) (by omega) (soP (setT m t (qk1 (thr m t) got')) t (qch (opT (thr m t)) got').1.2.1) t (qch (opT (thr m t)) got').1.2.1 t0 (by rw[e1];exact t1)
    (by rw[hcso,hso];dsimp only;rw[z17];omega) (by omega) (by
     rw[qbl9,qhg (by rw[qbah];exact ⟨t0,t1⟩) t0,z6 rfl]
     show 0≤(thr m t).2.1∧(thr m t).2.1≤1000
     omega) (by rw[hcso];exact hoc2)
   refine Eq.trans (congrArg (fun z=>qd z _) hE) ?_
   rw[qc]
   dsimp only
   have:=qbr3 (m:=soP m t (qch (opT (thr m t)) got').1.2.1) (t:=t) (x:=qk1 (thr m t) got') t0 (by rw[qbah];exact t1) (qch (opT (thr m t)) got').1.2.1 (by rw[hthr];rfl) (by rw[hthr];rfl)
   rw[qbl9,this]
  ·rw[z5 hnow] at IR ⊢
   rw[show (qch (opT (thr m t)) got').1.1=false by simpa using hnow,br_f]
   have hB:=qb2k hX (n:=n) (by omega) I.mem (by omega) (by omega) htm t0 t1 hno (E:=(qch (opT (thr m t)) got').1.2.2.1) (r:=(qch (opT (thr m t)) got').1.2.1) (by omega) (by omega) (by
    have:=IR.mem
    rw[qgn] at this
    exact this)
   refine Eq.trans (congrArg (fun z=>qd z _) hB) ?_
   rw[qc]
   dsimp only
   rw[br_t]
   have hP:=qbsx hX (n:=n) (by omega) (qk1 (thr m t) got') ⟨hsh.1,hgl,hsh.2.2⟩ (t,(dsc m.1 t).1+1,0,0,())
   refine Eq.trans (congrArg (fun z=>qd z _) hP) ?_
   rw[qc]
   rfl
theorem qbpb {m:Mach} {t:Int}:(qvy m t).2.2.1=m.2.2.1+1:=by
 have hs:∀ (m:Mach) (u:Int) (r:ResT),(soP m u r).2.2.1=m.2.2.1:=fun m u r=>by unfold soP;split<;>rfl
 have he:∀ (m:Mach) (u:Int) (r:ResT),(endP m u r).2.2.1=m.2.2.1:=fun m u r=>by unfold endP endC;split<;>rfl
 unfold qvy
 split
 ·rfl
 ·split
  ·unfold qlr
   split
   ·split<;>rfl
   ·split
    ·split
     ·rfl
     ·split
      ·rw[he];rfl
      ·rfl
    ·split
     ·show (soP _ _ _).2.2.1=_
      rw[hs];rfl
     ·rfl
  ·unfold q4k
   split
   ·rfl
   ·split
    ·rfl
    ·split
     ·rw[he,hs];rfl
     ·rfl
theorem qbw2 (hn:W+17≤n) {m:Mach} (I:Inv m) {t:Int} (t0:0≤t) (t1:t<m.2.1.length) (ht:m.2.2.1≤100000) (hd:(thr m t).2.1=(thr m t).1.length):qtx (DD X n) m t=some ((m,false,()),()):=by
 obtain ⟨n,rfl⟩:∃ k,n=k+2:=⟨n - 2,by omega⟩
 have hnn:=I.n
 have hx:m.2.1.getD t.toNat ([],0,false,[],[],())=thr m t:=rfl
 rw[qbgv hX]
 simp only[q0z,q8t,hx]
 rw[q00 hX (by omega) I ht,qc]
 dsimp only
 rw[z13,br_f,qn (by omega) (by omega),qd4 hX (by omega),qc]
 dsimp only
 rw[qck ⟨t0,by omega⟩,z13,br_f,ixn t0 t1,br_t,q3x hX]
 simp only[ql8,qtn]
 rw[qc]
 dsimp only
 rw[z11 hd,z21,br_t,q2x hX (by omega) (qvu hX I),qc]
theorem qb33 (hn:W+17≤n) {m:Mach} (I:Inv m) {t:Int} (t0:0≤t) (t1:t<m.2.1.length) (ht:m.2.2.1<100000) (hd:(thr m t).2.1<(thr m t).1.length):qtx (DD X n) m t=some ((qvy m t,true,()),()):=by
 obtain ⟨n,rfl⟩:∃ k,n=k+2:=⟨n - 2,by omega⟩
 have hW:=qbk
 have hb:=qbh
 have hnn:=I.n
 have hti:=I.time
 have hx:m.2.1.getD t.toNat ([],0,false,[],[],())=thr m t:=rfl
 have IS:=qbts I t0 t1 hd
 have hts:=qbpb hX (m:=m) (t:=t)
 have hok:=q00 hX (n:=n+1) (by omega) IS (by omega)
 have hcl:=qru hX I
 have T:=I.th t t0 t1
 have hpc:=T.pc
 rw[qbgv hX]
 simp only[q0z,q8t,hx]
 rw[q00 hX (by omega) I (by omega),qc]
 dsimp only
 rw[z13,br_f,qn (show -9223372036854775808≤(m.2.1.length:Int) - 1 by omega) (by omega),qd4 hX (by omega),qc]
 dsimp only
 rw[qck ⟨t0,by omega⟩,z13,br_f,ixn t0 t1,br_t,q3x hX]
 simp only[ql8,qtn]
 rw[qc]
 dsimp only
 rw[z10 (show ¬ (thr m t).2.1=(thr m t).1.length by omega),z20,z10 (show ¬ m.2.2.1=100000 by omega),br_f,q2x hX (by omega) (qvu hX I),qc]
 dsimp only
 rw[ixn t0 t1,br_t,hx,qn (show -9223372036854775808≤m.2.2.1+1 by omega) (by omega)]
 unfold qvy at hok ⊢
 by_cases h1:(thr m t).2.2.1=false
 ·rw[z6 h1] at hok ⊢
  rw[h1,Bool.not_false,br_t,ixn hpc.1 hd,br_t,qh (by omega)]
  refine Eq.trans (congrArg (fun z=>qd z _) hok) ?_
  rw[qc]
  dsimp only
  rw[z13,br_f]
  rfl
 rw[z5 h1] at hok ⊢
 have h1':(thr m t).2.2.1=true:=by simpa using h1
 rw[h1',z13,br_f]
 by_cases h2:(thr m t).2.2.2.2.1≠[]
 ·have hlp:0<(thr m t).2.2.2.2.1.length:=List.length_pos_iff.2 h2
  rw[z6 h2] at hok ⊢
  rw[qh (by omega)]
  have hA:=qby2 hX (n:=n+1) (by omega) (qz2 I) t0 t1 h2 (by show m.2.2.1+1≤1000000;omega)
  refine Eq.trans (congrArg (fun z=>qd z _) hA) ?_
  rw[qc]
  dsimp only
  refine Eq.trans (congrArg (fun z=>qd z _) hok) ?_
  rw[qc]
  dsimp only
  rw[z13,br_f]
 ·have h2':(thr m t).2.2.2.2.1=[]:=by simpa using h2
  rw[z5 h2] at hok ⊢
  rw[qi (by rw[h2'];simp)]
  have hA:=qb3y hX (n:=n+1) (by omega) (qz2 I) t0 t1 h1' h2' (by
   have:=(I.mem.dok t t0 t1).seq.2
   show (dsc m.1 t).1+1≤m.2.2.1+1
   omega) (by show m.2.2.1+1≤1000000;omega)
  refine Eq.trans (congrArg (fun z=>qd z _) hA) ?_
  rw[qc]
  dsimp only
  rw[z13,br_f]
  refine Eq.trans (congrArg (fun z=>qd z _) hok) ?_
  rw[qc]
  dsimp only
  rw[z13,br_f]
end
end Go.G

namespace Go.G
set_option maxRecDepth 100000
open Go Go.V Go.Proofs
def goP (m:Mach) (t:Int):Mach:=if (thr m t).2.1<(thr m t).1.length then qvy m t else m
def qjf (m:Mach) (who:List Int):Mach:=who.foldl goP m
theorem qbz8 (m:Mach) (t:Int):(qvy m t).2.1.length=m.2.1.length:=by
 have hs:∀ (m:Mach) (u:Int) (r:ResT),(soP m u r).2.1=m.2.1:=qbah
 have he:∀ (m:Mach) (u:Int) (r:ResT),(endP m u r).2.1.length=m.2.1.length:=fun m u r=>by
  unfold endP
  rw[qgn]
  unfold endC;split<;>rfl
 unfold qvy
 split
 ·unfold begP;rw[qgn];rfl
 ·split
  ·unfold qlr
   split
   ·split<;>(rw[qgn];rfl)
   ·split
    ·split
     ·rw[qgn];rfl
     ·split
      ·rw[he];rfl
      ·rw[qgn];rfl
    ·split
     ·rw[qgn,hs];rfl
     ·rw[qgn];rfl
  ·unfold q4k
   split
   ·rw[qgn];rfl
   ·split
    ·rw[qgn];rfl
    ·split
     ·rw[he,hs];rfl
     ·rw[qgn];rfl
theorem qbk2 (m:Mach) (t:Int):(goP m t).2.1.length=m.2.1.length:=by
 unfold goP;split
 ·exact qbz8 m t
 ·rfl
theorem qbte (who:List Int):∀ m:Mach,(qjf m who).2.1.length=m.2.1.length:=by
 induction who with
 | nil=>intro m;rfl
 | cons t who ih=>intro m;show (qjf (goP m t) who).2.1.length=_;rw[ih,qbk2]
theorem qbrk {m:Mach} (I:Inv m) {t:Int} (t0:0≤t) (t1:t<m.2.1.length):Inv (goP m t):=by
 unfold goP;split
 ·next h=>exact qbts I t0 t1 h
 ·exact I
section
variable {X:Ext} (hX:XOk X) {n:Nat}
include hX
theorem qbvh (m:Mach) (t:Int):m.2.2.1≤(goP m t).2.2.1∧(goP m t).2.2.1≤m.2.2.1+1:=by
 unfold goP;split
 ·rw[qbpb hX];omega
 ·omega
theorem c_go (hn:W+17≤n) {m:Mach} (I:Inv m) {t:Int} (t0:0≤t) (t1:t<m.2.1.length) (ht:m.2.2.1<100000):qtx (DD X n) m t=some ((goP m t,decide ((thr m t).2.1<(thr m t).1.length),()),()):=by
 unfold goP
 by_cases h:(thr m t).2.1<(thr m t).1.length
 ·rw[z6 h,z11 h];exact qb33 hX hn I t0 t1 ht h
 ·rw[z5 h,z10 h]
  have:=(I.th t t0 t1).pc
  exact qbw2 hX hn I t0 t1 (by omega) (by omega)
theorem qbsk (who:List Int):∀ {m:Mach},Inv m→(∀ t∈who,0≤t∧t<m.2.1.length)→Inv (qjf m who)∧(qjf m who).2.2.1≤m.2.2.1+who.length∧m.2.2.1≤(qjf m who).2.2.1:=by
 induction who with
 | nil=>intro m I _;exact ⟨I,by show m.2.2.1≤_;simp,Int.le_refl _⟩
 | cons t who ih=>
  intro m I h
  have ht:=h t z14
  have hg:=qbvh hX m t
  have:=ih (qbrk I ht.1 ht.2) (fun u hu=>by rw[qbk2];exact h u (z16 _ hu))
  refine ⟨this.1,?_,?_⟩
  ·show (qjf (goP m t) who).2.2.1≤_
   rw[z22]
   have:=this.2.1
   omega
  ·show _≤(qjf (goP m t) who).2.2.1
   have:=this.2.2
   omega
theorem qbzs (N n:Nat) (hN:W+17≤N) (K:Mach→Mach→Option ((Mach×Unit)×Unit)) (who:List Int) (hl:who.length≤2000) (z:Mach):∀ (c i:Nat) (m:Mach),i≤who.length→who.length - i<c→Inv m→(∀ t∈who,0≤t∧t<m.2.1.length)→m.2.2.1+(who.length - i:Nat)≤100000→
  qrj (DD X N) n K c who (who.length:Int) (i:Int) m z=K (qjf m (who.drop i)) z
 | 0,i,_,_,h2,_,_,_=>by omega
 | c+1,i,m,h1,h2,I,hw,ht=>by
  simp only[qrj,q6h]
  by_cases hi:i<who.length
  ·have hr:=hw _ (z24 hi)
   have hg:=qbvh hX m who[i]
   have ih:=qbzs N n hN K who hl z c (i+1) (goP m who[i]) (by omega) (by omega) (qbrk I hr.1 hr.2) (fun t h=>by rw[qbk2];exact hw t h) (by omega)
   rw[qh (by omega),ix hi,br_t,z12,qx hi,qt (by omega),c_go hX (by omega) I hr.1 hr.2 (by omega),qc]
   dsimp only
   rw[ih,qhr hi]
   rfl
  ·rw[qi (by omega),qji hi];rfl
theorem qbyx (hn:W+18≤n) {m:Mach} (I:Inv m) (who:List Int) (hl:who.length≤2000) (hw:∀ t∈who,0≤t∧t<m.2.1.length) (ht:m.2.2.1+who.length≤100000):q01 (DD X n) m who=some ((qjf m who,()),()):=by
 obtain ⟨n,rfl⟩:∃ k,n=k+1:=⟨n - 1,by omega⟩
 have hW:=qbk
 rw[qbuv hX]
 simp only[q8k,q8r,q2i]
 rw[q2x hX (by omega) (qvu hX I),qc]
 dsimp only
 rw[qi (by omega)]
 refine Eq.trans (qbzs hX n n (by omega) _ who hl _ n 0 m (Nat.zero_le _) (by omega) I hw (by omega)) ?_
 rw[List.drop_zero]
 rfl
end
def qsb (r:qu):List Int:=(List.range 20).map fun p:Nat=>wOf r (p:Int)
def qbt (r:qu) (L:List (List Op3)):Mach:=(((qsb r).map fun v=>((v,0,0,()):qf8),List.replicate L.length dD,()),L.map fun ops=>((ops,0,false,[],[],()):ThT),0,[],[],r,())
structure OpsOk (L:List (List Op3)):Prop where
 n:1≤L.length∧L.length≤3
 ops:∀ ops∈L,ops.length≤4∧∀ o∈ops,opOk o=true
theorem qi6 (r:qu):(qsb r).length=20:=by unfold qsb;simp
theorem qbdy (r:qu) {p:Nat} (h:p<20):(qsb r).getD p 0=wOf r (p:Int):=by
 unfold qsb
 rw[qx (by simp[h])]
 simp
theorem qbkx {a b:List Int} (ha:a.length=20) (hb:b.length=20) (h:∀ p:Nat,p<20→a.getD p 0=b.getD p 0):a=b:=by
 apply List.ext_getElem (by omega)
 intro p h1 h2
 have:=h p (by omega)
 rwa [qx h1,qx h2] at this
theorem qba3 {r:qu} (hr:RightR r) {L:List (List Op3)} (hL:OpsOk L):Inv (qbt r L):=by
  have hln:=hL.n
  have hthl:(qbt r L).2.1.length=L.length:=by unfold qbt;simp
  have hwd:∀ p:Int,0≤p→p<20→wd (qbt r L).1 p=(wOf r p,0,0,()):=by
    intro p p0 p1
    unfold wd qbt
    dsimp only
    rw[qx (by rw[z49,qi6];omega),List.getElem_map]
    have:=qbdy r (p:=p.toNat) (by omega)
    rw[qx (by rw[qi6];omega)] at this
    rw[this,show ((p.toNat:Nat):Int)=p by omega]
  have hdd:∀ t:Int,dsc (qbt r L).1 t=dD:=by
    intro t
    unfold dsc qbt
    dsimp only
    rw[List.getD_eq_getElem?_getD,List.getElem?_replicate]
    split<;>rfl
  have hth:∀ t:Int,0≤t→t<L.length→∃ ops∈L,thr (qbt r L) t=(ops,0,false,[],[],()):=by
    intro t t0 t1
    have hlt:t.toNat<L.length:=by omega
    refine ⟨L[t.toNat],z24 _,?_⟩
    unfold thr qbt
    dsimp only
    rw[qx (by simpa using hlt),List.getElem_map]
  have hno:∀ t:Int,0≤t→t<L.length→¬ ownP (qbt r L) t:=by
    intro t t0 t1
    obtain ⟨ops,_,e⟩:=hth t t0 t1
    unfold ownP
    rw[e];simp[ownB]
  refine ⟨by rw[hthl];exact hL.n,by show (0:Int)≤0;omega,?_,?_,?_,?_,hr⟩
  · rw[hthl]
    refine ⟨by unfold qbt;simp[qi6],by unfold qbt;simp,?_,?_,?_,?_,?_⟩
    · intro t _ _
      rw[hdd]
      exact ⟨List.Pairwise.nil,by simp[dD],fun e he=>by simp[dD] at he,by show (0:Int)≤0∧(0:Int)≤0;omega,⟨fun _=>rfl,fun h=>by simp[dD] at h⟩,by simp[dD]⟩
    · intro p p0 p1
      left
      rw[hwd p p0 p1]
      have:=qbqu hr p ⟨p0,p1⟩
      exact ⟨rfl,rfl,this.1,by dsimp only;omega⟩
    · intro t _ _ e
      rw[hdd] at e;simp[dD] at e
    · intro t t0 t1 e
      exact absurd e (hno t t0 t1)
    · intro t _ _ e
      rw[hdd] at e;simp[dD] at e
  · intro t t0 t1
    rw[hthl] at t1 ⊢
    obtain ⟨ops,ho,e⟩:=hth t t0 t1
    rw[e]
    have h2:=hL.ops ops ho
    exact { ops:=h2,pc:=⟨Int.le_refl _,by dsimp only;omega⟩,on:=fun q=>(by cases q),off:=fun _=>⟨rfl,rfl⟩,got:=fun g hg=>by simp at hg,st:=.inl rfl,help:=fun k hk=>by simp at hk,own:=fun k hk=>by simp at hk,
            along:=fun q=>(by cases q),read:=fun q=>(by cases q),plan:=fun q=>by simp[ownB] at q }
  · rw[hthl]
    refine ⟨fun k a b=>?_,fun j k a b c=>?_,fun t t0 t1=>?_,fun t t0 t1 e=>?_,fun t t0 t1 _ k a b=>?_,fun t k _ _ hk=>?_,fun k hk=>?_,?_,?_,fun k a b=>?_⟩
    · simp[qbt] at b;omega
    · simp[qbt] at c;omega
    · obtain ⟨ops,_,e⟩:=hth t t0 t1
      rw[e];simp[qbt,qt2]
    · obtain ⟨ops,_,e2⟩:=hth t t0 t1
      rw[e2] at e;cases e
    · simp[qbt] at b;omega
    · have:=hk.rng
      simp[qbt] at this
      omega
    · simp[qbt] at hk
    · exact List.nodup_nil
    · exact List.Pairwise.nil
    · simp[qbt] at b;omega
  · refine ⟨r,hr,RepR.nil r,fun p p0 p1=>?_⟩
    rw[qvf (by rw[hwd p p0 p1]),hwd p p0 p1]
section
variable {X:Ext} (hX:XOk X) {n:Nat}
include hX
theorem qbs7 (D:Den ctx) (n:Nat) (K:MemT→MemT→Option ((MemT×Bool×Unit)×Unit)) (ws:List Int) (hl:ws.length≤1000) (z:MemT) (d:List qhv×Unit):∀ (c i:Nat),i≤ws.length→ws.length - i<c→
  qme D n K c (ws.length:Int) (i:Int) z ((ws.take i).map (fun v=>((v,0,0,()):qf8)),d) ws=K z (ws.map (fun v=>((v,0,0,()):qf8)),d)
 | 0,i,_,h2=>by omega
 | c+1,i,h0,h2=>by
  have hb:=qbh
  simp only[qme,qy4]
  by_cases hi:i<ws.length
  ·have ih:=qbs7 D n K ws hl z d c (i+1) (by omega) (by omega)
   rw[qh (by omega),ix hi,br_t,z12,qx hi,qt (by omega)]
   rw[qh (by rw[z49,z27];omega)]
   rw[z32 hi,List.map_append] at ih
   exact ih
  ·rw[qi (by omega),show ws.take i=ws from z42 (by omega)]
theorem qbxx (hn:W+6≤n) {r:qu} (hr:RightR r):qr5 (DD X n) r=some ((qsb r,()),()):=by
 obtain ⟨ws,h1,h2,h3⟩:=qbz6 hX hn hr
 rw[h3,qbkx h1 (qi6 r) (fun p hp=>by rw[h2 p hp,qbdy r hp];rfl)]
theorem qb1i (hn:W+8≤n) {r:qu} (hr:RightR r) {L:List (List Op3)} (hL:OpsOk L):q20 (DD X n) r (L.length:Int)=some (((qbt r L).1,true,()),()):=by
 obtain ⟨n,rfl⟩:∃ k,n=k+1:=⟨n - 1,by omega⟩
 have hW:=qbk
 have hb:=qbh
 have hln:=hL.n
 have I:=qba3 hr hL
 have hthl:(qbt r L).2.1.length=L.length:=by unfold qbt;simp
 rw[qbp0 hX]
 simp only[q29,q26,qxz]
 rw[qd4 hX (by omega),qc]
 dsimp only
 rw[qck ⟨by omega,by omega⟩,z13,br_f,show (decide (0≤(L.length:Int))&&decide ((L.length:Int)≤(L.length:Int))&&decide ((L.length:Int)≤(qb8:Int)))=true by simp;omega,br_t,qbxx hX (by omega) hr,qc]
 dsimp only
 refine Eq.trans (qbs7 hX (DD X n) n _ (qsb r) (by rw[qi6];omega) ([],[],()) (List.replicate L.length dD,()) n 0 (Nat.zero_le _) (by rw[qi6];omega)) ?_
 simp only[q6s]
 have hm:=q9r hX (n:=n) (by omega) I.mem (by show (0:Int)≤1000000;omega) (by rw[hthl];omega) (by rw[hthl];omega)
 refine Eq.trans (congrArg (fun z=>qd z _) hm) ?_
 rw[qc]
 dsimp only
 rw[z13,br_f]
 rfl
theorem qbou (N n:Nat) (hN:2≤N) (K:Bool→Mach→Mach→Option ((Mach×Bool×Unit)×Unit)) (L:List (List Op3)) (hl:L.length≤1000) (h1:∀ ops∈L,ops.length≤1000) (b:Bool) (z:Mach) (a:MemT) (e:Int×List qci×List Int×qu×Unit):∀ (c i:Nat),i≤L.length→L.length - i<c→
  qiy (DD X N) n K c b L (L.length:Int) (i:Int) z (a,(L.take i).map (fun ops=>((ops,0,false,[],[],()):ThT)),e)=K b z (a,L.map (fun ops=>((ops,0,false,[],[],()):ThT)),e)
 | 0,i,_,h2=>by omega
 | c+1,i,h0,h2=>by
  have hb:=qbh
  simp only[qiy,qq5]
  by_cases hi:i<L.length
  ·have ih:=qbou N n hN K L hl h1 b z a e c (i+1) (by omega) (by omega)
   have hd:=h1 _ (z24 hi)
   obtain ⟨N,rfl⟩:∃ k,N=k+1:=⟨N - 1,by omega⟩
   rw[qh (by omega),ix hi,br_t,z12,qx hi,qt (by omega),qbh1 hX]
   simp only[qu5,q5a]
   rw[qsf hX (by omega) _ (by omega),qc,qc]
   dsimp only
   rw[qh (by rw[z49,z27];omega)]
   rw[z32 hi,List.map_append] at ih
   exact ih
  ·rw[qi (by omega),show L.take i=L from z42 (by omega)]
theorem qbyy (hn:W+11≤n) {r:qu} (hr:RightR r) {L:List (List Op3)} (hL:OpsOk L):qsy (DD X n) r L=some ((qbt r L,true,()),()):=by
 obtain ⟨n,rfl⟩:∃ k,n=k+1:=⟨n - 1,by omega⟩
 have hW:=qbk
 have hln:=hL.n
 have I:=qba3 hr hL
 rw[qbfo hX]
 simp only[qtf,qti,qpb]
 rw[qb1i hX (by omega) hr hL,qc,qbjz hX (by omega) hr,qc]
 dsimp only
 refine Eq.trans (qbou hX n n (by omega) _ L (by omega) (fun ops h=>by have:=(hL.ops ops h).1;omega) true (([],[],()),[],0,[],[],([],0,()),()) (qbt r L).1 (0,[],[],r,()) n 0 (Nat.zero_le _) (by omega)) ?_
 simp only[qxw]
 have hm:=q00 hX (n:=n) (by omega) I (by show (0:Int)≤100000;omega)
 rw[z13,br_f]
 refine Eq.trans (congrArg (fun z=>qd z _) hm) ?_
 rw[qc]
 dsimp only
 rw[z13,br_f]
 rfl
end
end Go.G

namespace Go.G
set_option maxRecDepth 100000
open Go Go.V Go.Proofs
section
variable {X:Ext} (hX:XOk X) {n:Nat}
include hX
theorem qbx1 (N n:Nat) (hN:W+2≤N) (hN6:6≤N) (K:Int→Cur→List (List Op3)→List Op3→Option ((List (List Op3)×Unit)×Cur×Unit)) (z:Int) (out:List (List Op3)):∀ (m i:Nat) (c:Cur) (l:List Op3),qhb c→i≤4→4 - i<m→l.length=i→(∀ o∈l,opOk o=true)→
  ∃ (c':Cur) (l':List Op3),qhb c'∧l'.length≤4∧(∀ o∈l',opOk o=true)∧qjn (DD X N) n K m z (i:Int) c out l=K z c' out l'
 | 0,_,_,_,_,_,h,_,_=>by omega
 | m+1,i,c,l,hc,hi,hf,hl,ho=>by
  have hW:=qbk
  have hb:=qbh
  simp only[qjn,qtk]
  obtain ⟨x,c1,h1,_,hc1,e1⟩:=qj3 hX (n:=N) (by omega) hc 4
  obtain ⟨x0,x1⟩:=h1 (by omega)
  rw[e1,qc]
  dsimp only
  rw[qn (by omega) (by omega)]
  by_cases h:(i:Int)<1+x
  ·obtain ⟨o,c2,hc2,hoo,e2⟩:=qbqn hX (n:=N) (by omega) hc1
   rw[qh h,e2,qc]
   dsimp only
   rw[qh (by omega),qt (by omega)]
   exact qbx1 N n hN hN6 K z out m (i+1) c2 (l++[o]) hc2 (by omega) (by omega) (by rw[z19,List.length_singleton];omega) (fun p hp=>by
    rcases z18.1 hp with q | q
    ·exact ho p q
    ·rw[z23] at q;rw[q];exact hoo)
  ·rw[qi h]
   exact ⟨c1,l,hc1,by omega,ho,rfl⟩
theorem qby6 (N n:Nat) (hN:W+2≤N) (hn:W≤n) (K:Cur→List (List Op3)→Option ((List (List Op3)×Unit)×Cur×Unit)):∀ (m i:Nat) (c:Cur) (L:List (List Op3)),qhb c→i≤3→3 - i<m→L.length=i→(∀ ops∈L,ops.length≤4∧∀ o∈ops,opOk o=true)→
  ∃ (c':Cur) (L':List (List Op3)),qhb c'∧OpsOk L'∧qes (DD X N) n K m (i:Int) c L=K c' L'
 | 0,_,_,_,_,_,h,_,_=>by omega
 | m+1,i,c,L,hc,hi,hf,hl,ho=>by
  have hW:=qbk
  have hb:=qbh
  simp only[qes,qsm]
  obtain ⟨x,c1,h1,_,hc1,e1⟩:=qj3 hX (n:=N) (by omega) hc 3
  obtain ⟨x0,x1⟩:=h1 (by omega)
  rw[e1,qc]
  dsimp only
  rw[qn (by omega) (by omega)]
  by_cases h:(i:Int)<1+x
  ·rw[qh h]
   simp only[qq9]
   obtain ⟨c2,l,hc2,hl4,hlo,e2⟩:=qbx1 hX N n hN (by omega) (fun v0_0 v0_1 v0_2 v0_3=>qo4 (DD X N) n (qes (DD X N) n K m) K v0_0 v0_1 v0_2 v0_3) (i:Int) L n 0 c1 [] hc1 (by omega) (by omega) rfl (fun o h=>by simp at h)
   rw[show ((0:Nat):Int)=0 from rfl] at e2
   obtain ⟨c3,L',hc3,hL',e3⟩:=qby6 N n hN hn K m (i+1) c2 (L++[l]) hc2 (by omega) (by omega) (by rw[z19,List.length_singleton];omega) (fun p hp=>by
    rcases z18.1 hp with q | q
    ·exact ho p q
    ·rw[z23] at q;rw[q];exact ⟨hl4,hlo⟩)
   refine ⟨c3,L',hc3,hL',?_⟩
   refine Eq.trans e2 ?_
   simp only[qo4]
   rw[qh (by omega),qt (by omega)]
   exact e3
  ·rw[qi h]
   exact ⟨c1,L,hc1,⟨by omega,ho⟩,rfl⟩
theorem qbx4 (hn:W+3≤n) {c:Cur} (hc:qhb c):∃ (L:List (List Op3)) (c':Cur),qhb c'∧OpsOk L∧qug (DD X n) c=some ((L,()),(c',())):=by
 obtain ⟨n,rfl⟩:∃ k,n=k+1:=⟨n - 1,by omega⟩
 have hW:=qbk
 rw[qbhz hX]
 simp only[qu6,qui,qq6]
 obtain ⟨c',L,h1,h2,e⟩:=qby6 hX n n (by omega) (by omega) (fun v0_0 v0_1=>qx8 (DD X n) n v0_0 v0_1) n 0 c [] hc (by omega) (by omega) rfl (fun o h=>by simp at h)
 rw[show ((0:Nat):Int)=0 from rfl] at e
 exact ⟨L,c',h1,h2,e⟩
def qbez (L:List (List Op3)) (who:List Int) (k:Nat):Prop:=who.length≤k∧∀ t∈who,0≤t∧t<L.length
theorem qbzj (N n:Nat) (hN:W+2≤N) (K:Int→Int→qu→qu→List (List Op3)→List Int→Cur→Option ((qu×List (List Op3)×List Int×Unit)×Unit)) (a b t:Int) (r s:qu) (L:List (List Op3)) (ht:0≤t∧t<L.length) (k:Nat) (hk:k≤1000):∀ (m i:Nat) (c:Cur) (who:List Int),qhb c→i≤6→6 - i<m→qbez L who (k+i)→
  ∃ (c':Cur) (who':List Int),qhb c'∧qbez L who' (k+6)∧qhj (DD X N) n K m a b t (i:Int) r s L who c=K a b r s L who' c'
 | 0,_,_,_,_,_,h,_=>by omega
 | m+1,i,c,who,hc,hi,hf,hw=>by
  have hW:=qbk
  have hb:=qbh
  simp only[qhj,qn4]
  obtain ⟨x,c1,h1,_,hc1,e1⟩:=qj3 hX (n:=N) (by omega) hc 6
  obtain ⟨x0,x1⟩:=h1 (by omega)
  rw[e1,qc]
  dsimp only
  rw[qn (by omega) (by omega)]
  have hwl:=hw.1
  by_cases h:(i:Int)<1+x
  ·rw[qh h,qh (by omega),qt (by omega)]
   exact qbzj N n hN K a b t r s L ht k hk m (i+1) c1 (who++[t]) hc1 (by omega) (by omega) ⟨by rw[z19,List.length_singleton];omega,fun u hu=>by
    rcases z18.1 hu with q | q
    ·exact hw.2 u q
    ·rw[z23] at q;rw[q];exact ht⟩
  ·rw[qi h]
   exact ⟨c1,who,hc1,⟨by omega,hw.2⟩,rfl⟩
theorem qbyq (N n:Nat) (hN:W+2≤N) (hn:W≤n) (K:qu→qu→List (List Op3)→List Int→Option ((qu×List (List Op3)×List Int×Unit)×Unit)) (a:Int) (ha:a≤120) (r s:qu) (L:List (List Op3)) (hL:0<L.length∧L.length≤3):∀ (m i:Nat) (c:Cur) (who:List Int),qhb c→i≤120→120 - i<m→qbez L who (6 * i)→
  ∃ (who':List Int),qbez L who' 720∧qc9 (DD X N) n K m a (i:Int) r s L who c=K r s L who'
 | 0,_,_,_,_,_,h,_=>by omega
 | m+1,i,c,who,hc,hi,hf,hw=>by
  have hW:=qbk
  simp only[qc9,qnm]
  by_cases h:(i:Int)<a
  ·obtain ⟨x,c1,h1,_,hc1,e1⟩:=qj3 hX (n:=N) (by omega) hc (L.length:Int)
   have hx:=h1 (by omega)
   rw[qh h,e1,qc]
   dsimp only
   simp only[qmd]
   obtain ⟨c2,who2,hc2,hw2,e2⟩:=qbzj hX N n hN (fun v0_0 v0_1 v0_2 v0_3 v0_4 v0_5 v0_6=>ql0 (DD X N) n (qc9 (DD X N) n K m) K v0_0 v0_1 v0_2 v0_3 v0_4 v0_5 v0_6) a (i:Int) x r s L hx (6 * i) (by omega) n 0 c1 who hc1 (by omega) (by omega) hw
   rw[show ((0:Nat):Int)=0 from rfl] at e2
   obtain ⟨who3,hw3,e3⟩:=qbyq N n hN hn K a ha r s L hL m (i+1) c2 who2 hc2 (by omega) (by omega) ⟨by have:=hw2.1;omega,hw2.2⟩
   refine ⟨who3,hw3,Eq.trans e2 ?_⟩
   simp only[ql0]
   rw[qt (by omega)]
   exact e3
  ·rw[qi h]
   exact ⟨who,⟨by have:=hw.1;omega,hw.2⟩,rfl⟩
theorem qbwl (hn:W+4≤n) (a:List Int) (ha:a.length≤1048576):∃ (r:qu) (L:List (List Op3)) (who:List Int),RightR r∧OpsOk L∧qbez L who 720∧qpr (DD X n) a=some ((r,L,who,()),()):=by
 obtain ⟨n,rfl⟩:∃ k,n=k+1:=⟨n - 1,by omega⟩
 have hW:=qbk
 rw[qbcr hX]
 simp only[qpo,qpw,qmy]
 obtain ⟨c,hc,e1⟩:=qb2a hX (n:=n) (by omega) a ha
 obtain ⟨r,c1,hr,_,hc1,e2⟩:=qbpp hX (n:=n) (by omega) hc
 obtain ⟨L,c2,hc2,hL,e3⟩:=qbx4 hX (n:=n) (by omega) hc1
 rw[e1,qc,e2,qc]
 dsimp only
 rw[e3,qc]
 dsimp only
 have hlong:∃ k:Int,60≤k∧k≤120∧q2a (DD X n) a 60 120=some ((k,()),()):=by
  obtain ⟨n,rfl⟩:∃ k,n=k+1:=⟨n - 1,by omega⟩
  rw[qbpy hX]
  simp only[q25,qbcf]
  have ht:Int.tdiv (a.length:Int) 4=(a.length:Int) / 4:=Int.tdiv_eq_ediv_of_nonneg (by omega)
  rw[ht,qn (show -9223372036854775808≤(a.length:Int) / 4 by omega) (by omega),qn (by omega) (by omega)]
  by_cases h:60+(a.length:Int) / 4>120
  ·rw[qh h];exact ⟨120,by omega,by omega,rfl⟩
  ·rw[qi h];exact ⟨_,by omega,by omega,rfl⟩
 obtain ⟨k,hk0,hk1,e4⟩:=hlong
 obtain ⟨x,c3,h1,_,hc3,e5⟩:=qj3 hX (n:=n) (by omega) hc2 k
 have hx:=h1 (by omega)
 rw[e4,qc]
 dsimp only
 rw[e5,qc]
 dsimp only
 obtain ⟨who,hw,e6⟩:=qbyq hX n n (by omega) (by omega) (fun v0_0 v0_1 v0_2 v0_3=>qty (DD X n) n v0_0 v0_1 v0_2 v0_3) x (by omega) ([],0,()) r L (by have:=hL.n;omega) n 0 c3 [] hc3 (by omega) (by omega) ⟨by simp,fun t h=>by simp at h⟩
 rw[show ((0:Nat):Int)=0 from rfl] at e6
 exact ⟨r,L,who,hr,hL,hw,e6⟩
theorem qbys (hn:1≤n):q2o (DD X n) dD=some ((true,()),()):=by
 obtain ⟨n,rfl⟩:∃ k,n=k+1:=⟨n - 1,by omega⟩
 rw[qbqc hX]
 simp only[q16,q2b]
 rw[qh (show dD.1=0 from rfl)]
 simp[dD]
theorem qbk7 (N n:Nat) (hN:1≤N) (K0:Bool→MemT→Option ((Bool×Unit)×Unit)) (K1:MemT→Option ((Bool×Unit)×Unit)) (w:List qf8) (k:Nat) (hk:k≤3):∀ (c i:Nat),i≤k→k - i<c→
  qot (DD X N) n K0 K1 c (i:Int) (w,List.replicate k dD,())=K1 (w,List.replicate k dD,())
 | 0,i,_,h=>by omega
 | c+1,i,h1,h2=>by
  simp only[qot,q12,List.length_replicate]
  by_cases hi:i<k
  ·have e:(List.replicate k dD).getD i (0,0,[],(0,[],()),())=dD:=by rw[qx (by simpa using hi),List.getElem_replicate]
   rw[qh (by omega),show (decide (0≤(i:Int))&&decide ((i:Int)<(k:Int)))=true by simp;omega,br_t,z12,e,qbys hX hN,qc]
   dsimp only
   rw[z13,br_f,qt (by omega)]
   exact qbk7 N n hN K0 K1 w k hk c (i+1) (by omega) (by omega)
  ·rw[qi (by omega)]
theorem qbki (N n:Nat) (hN:2≤N) (K0:Bool→Option ((Bool×Unit)×Unit)) (K1:Option ((Bool×Unit)×Unit)) (m:MemT) (hl:m.1.length≤1000) (hw:∀ x∈m.1,Num x):∀ (c i:Nat),i≤m.1.length→m.1.length - i<c→
  qos (DD X N) n K0 K1 c (i:Int) m=K1
 | 0,i,_,h=>by omega
 | c+1,i,h1,h2=>by
  simp only[qos,q3e]
  by_cases hi:i<m.1.length
  ·have hx:=hw _ (z24 hi)
   obtain ⟨N,rfl⟩:∃ k,N=k+1:=⟨N - 1,by omega⟩
   rw[qh (by omega),ix hi,br_t,z12,qx hi,qbpz hX]
   simp only[q10,qbb5]
   rw[qh hx.1,qh hx.2.1,qqi hX (by omega),qc,qc]
   dsimp only
   rw[qck hx.2.2,z13,br_f,qi (by have:=hx.1;omega),qt (by omega)]
   exact qbki (N+1) n hN K0 K1 m hl hw c (i+1) (by omega) (by omega)
  ·rw[qi (by omega)]
theorem qbog (hn:W+3≤n) (w:List qf8) (hw:∀ x∈w,Num x) (hl:w.length=20) (k:Nat) (h1:1≤k) (hk:k≤3):qqk (DD X n) (w,List.replicate k dD,())=some ((true,()),()):=by
 obtain ⟨n,rfl⟩:∃ k,n=k+1:=⟨n - 1,by omega⟩
 have hW:=qbk
 rw[qbsj hX]
 simp only[q5z,q5m,q0o]
 rw[show ((w.length:Int) != 20)=false by rw[bned,z11 (by omega)];rfl,br_f,qqi hX (by omega),qc]
 dsimp only
 rw[List.length_replicate,qck ⟨by omega,by omega⟩,z13,br_f]
 refine Eq.trans (qbk7 hX n n (by omega) _ _ w k hk n 0 (Nat.zero_le _) (by omega)) ?_
 simp only[qx2,qyw]
 refine Eq.trans (qbki hX n n (by omega) _ _ _ (by dsimp only;omega) hw n 0 (Nat.zero_le _) (by dsimp only;omega)) ?_
 rfl
theorem qboj (N n:Nat) (hN:4≤N) (K0:Int→Bool→ThT→Option ((Bool×Unit)×Unit)) (K1:Int→ThT→Option ((Bool×Unit)×Unit)) (z:Int) (x:ThT) (hl:x.1.length≤1000) (ho:∀ o∈x.1,opOk o=true):∀ (c i:Nat),i≤x.1.length→x.1.length - i<c→
  qkn (DD X N) n K0 K1 c z (i:Int) x=K1 z x
 | 0,i,_,h=>by omega
 | c+1,i,h1,h2=>by
  simp only[qkn,qvb]
  by_cases hi:i<x.1.length
  ·have hx:=ho _ (z24 hi)
   have hop:q0x (DD X N) x.1[i]=some ((true,()),()):=by
    have:=qbxe hX (n:=N) (by omega) x.1[i].1 x.1[i].2.1 x.1[i].2.2.1
    rw[show (x.1[i].1,x.1[i].2.1,x.1[i].2.2.1,())=x.1[i] from rfl,hx] at this
    exact this
   rw[qh (by omega),ix hi,br_t,z12,qx hi,hop,qc]
   dsimp only
   rw[z13,br_f,qt (by omega)]
   exact qboj N n hN K0 K1 z x hl ho c (i+1) (by omega) (by omega)
  ·rw[qi (by omega)]
theorem qbrs (hn:W+5≤n) (ops:List Op3) (hl:ops.length≤4) (ho:∀ o∈ops,opOk o=true) (k:Int):qww (DD X n) (ops,0,false,[],[],()) k=some ((true,()),()):=by
 obtain ⟨n,rfl⟩:∃ k,n=k+1:=⟨n - 1,by omega⟩
 have hW:=qbk
 obtain ⟨p,hp⟩:∃ p,n=p+1:=⟨n - 1,by omega⟩
 rw[qbld hX]
 simp only[qwl,qxk,qs9]
 rw[qi (by omega),qqi hX (by omega),qc]
 dsimp only
 rw[qck ⟨by omega,by omega⟩]
 simp only[z13,z20,br_f,Bool.not_false,br_t,List.length_nil]
 rw[z10 (show ¬ wrap .i64 (((0:Nat):Int)+((0:Nat):Int))>0 by decide),z10 (show ¬ ((0:Nat):Int)>12 by decide),z10 (show ¬ ((0:Nat):Int)>2 by decide),z20,z20,br_f]
 refine Eq.trans (qboj hX n n (by omega) _ _ k (ops,0,false,[],[],()) (by dsimp only;omega) ho n 0 (Nat.zero_le _) (by dsimp only;omega)) ?_
 simp only[qre,qtd]
 rw[hp]
 simp only[qod,qu2,List.length_nil]
 rw[qi (by decide)]
 simp only[qqp,qsh]
 simp only[qnv,qu1,List.length_nil]
 rw[qi (by decide)]
 rfl
theorem qbwz (hn:3≤n) {m:Mach} (hc:m.2.2.2.1=[]) {t:Int} (t0:0≤t) (t1:t<m.2.1.length) (hp:(thr m t).2.1=0) (ho:(thr m t).2.2.1=false):qw1 (DD X n) m t=some ((true,()),()):=by
 obtain ⟨n,rfl⟩:∃ k,n=k+2:=⟨n - 2,by omega⟩
 obtain ⟨p,hpn⟩:∃ p,n=p+1:=⟨n - 1,by omega⟩
 have hx:m.2.1.getD t.toNat ([],0,false,[],[],())=thr m t:=rfl
 have hlast:q15 (DD X (n+1)) m t=some ((-1,()),()):=by
  rw[qbqa hX]
  simp only[q2d,q28,qxc]
  rw[hc,hpn]
  simp only[qr6,q0v,List.length_nil]
  rw[qi (by rw[qn (by decide) (by decide)];decide)]
  rfl
 rw[qbji hX]
 simp only[qwh,qv7,qs4]
 rw[ixn t0 t1,br_t,hlast,qc,hx]
 dsimp only
 simp only[qnu,quj]
 rw[hc,qi (by simp)]
 simp only[q1s]
 rw[hp,ho]
 rfl
theorem qbkm (N n:Nat) (hN:W+5≤N) (K0:Bool→Option ((Bool×Unit)×Unit)) (K1:Option ((Bool×Unit)×Unit)) {r:qu} {L:List (List Op3)} (hL:OpsOk L):∀ (c i:Nat),i≤L.length→L.length - i<c→
  qjl (DD X N) n K0 K1 c (i:Int) (qbt r L)=K1
 | 0,i,_,h=>by omega
 | c+1,i,h1,h2=>by
  have hln:=hL.n
  have hthl:(qbt r L).2.1.length=L.length:=by unfold qbt;simp
  simp only[qjl,qto,hthl]
  by_cases hi:i<L.length
  ·have hx:=hL.ops _ (z24 hi)
   have e:thr (qbt r L) (i:Int)=(L[i],0,false,[],[],()):=by
    unfold thr qbt
    dsimp only
    rw[z12,qx (by simpa using hi),List.getElem_map]
   have e2:(qbt r L).2.1.getD i ([],0,false,[],[],())=(L[i],0,false,[],[],()):=by
    unfold thr at e
    rw[z12] at e
    exact e
   rw[qh (by omega),ixn (by omega) (by omega),br_t,z12,e2,qbrs hX (by omega) _ hx.1 hx.2,qc]
   dsimp only
   rw[z13,br_f,qbwz hX (by omega) rfl (by omega) (by rw[hthl];omega) (by rw[e]) (by rw[e]),qc]
   dsimp only
   rw[z13,br_f,qt (by omega)]
   exact qbkm N n hN K0 K1 hL c (i+1) (by omega) (by omega)
  ·rw[qi (by omega)]
theorem qbrz (hn:W+6≤n) {r:qu} (hr:RightR r) {L:List (List Op3)} (hL:OpsOk L):qvd (DD X n) (qbt r L)=some ((true,()),()):=by
 obtain ⟨n,rfl⟩:∃ k,n=k+2:=⟨n - 2,by omega⟩
 obtain ⟨p,hpn⟩:∃ p,n=p+1:=⟨n - 1,by omega⟩
 have hW:=qbk
 have hln:=hL.n
 have hthl:(qbt r L).2.1.length=L.length:=by unfold qbt;simp
 have hdl:(qbt r L).1.2.1.length=L.length:=by unfold qbt;simp
 have hcalls:q0h (DD X (n+1)) (qbt r L)=some ((true,()),()):=by
  rw[qbma hX]
  simp only[qzq,qz8,que]
  rw[hpn]
  simp only[qp4,qwe]
  rw[qi (by simp[qbt])]
  simp only[qsw,qu4,qje,qwv]
  rw[qi (by simp[qbt])]
  simp[q3p,qbt]
 rw[qbii hX]
 simp only[qur,qux,qqu]
 have hm:=qbog hX (n:=n+1) (by omega) ((qsb r).map fun v=>((v,0,0,()):qf8)) (fun x hx=>by
  obtain ⟨v,hv,rfl⟩:=z37.1 hx
  unfold qsb at hv
  obtain ⟨q,hq,rfl⟩:=z37.1 hv
  have:=qbqu hr (q:Int) (by have:=List.mem_range.1 hq;omega)
  exact ⟨rfl,rfl,this.1,by dsimp only;omega⟩) (by rw[z49,qi6]) L.length hln.1 hln.2
 refine Eq.trans (congrArg (fun z=>qd z _) hm) ?_
 rw[qc]
 dsimp only
 rw[z13,z20,hdl,hthl,show ((L.length:Int) != (L.length:Int))=false by simp,br_f,qqi hX (by omega),qc]
 dsimp only
 rw[show (qbt r L).2.2.1=0 from rfl,qck ⟨by decide,by decide⟩,z13,br_f,show (qbt r L).2.2.2.2.2.1=r from rfl,qbet hX (by omega) hr,qc]
 dsimp only
 rw[z13,br_f,hcalls,qc]
 dsimp only
 rw[z13,br_f]
 refine Eq.trans (qbkm hX (n+1) (n+1) (by omega) _ _ hL (n+1) 0 (Nat.zero_le _) (by omega)) ?_
 rfl
theorem qbdl (D:Den ctx) (n:Nat) (K:Int→MemT→MemT→Option ((MemT×Bool×Unit)×Unit)) (a:Int) (ws:List Int) (hl:ws.length≤1000) (z:MemT) (d:List qhv×Unit):∀ (c i:Nat),i≤ws.length→ws.length - i<c→
  qmr D n K c a (i:Int) z ((ws.take i).map (fun v=>((v,0,0,()):qf8)),d) ws=K a z (ws.map (fun v=>((v,0,0,()):qf8)),d)
 | 0,i,_,h2=>by omega
 | c+1,i,h0,h2=>by
  have hb:=qbh
  simp only[qmr,qzl]
  by_cases hi:i<ws.length
  ·have ih:=qbdl D n K a ws hl z d c (i+1) (by omega) (by omega)
   rw[qh (by omega),ix hi,br_t,z12,qx hi,qt (by omega)]
   rw[qh (by rw[z49,z27];omega)]
   rw[z32 hi,List.map_append] at ih
   exact ih
  ·rw[qi (by omega),show ws.take i=ws from z42 (by omega)]
theorem qbcc (N n:Nat) (hN:1≤N) (K:Bool→Mach→Mach→Option ((Mach×Bool×Unit)×Unit)) (L:List (List Op3)) (hl:L.length≤1000) (h1:∀ ops∈L,ops.length≤1000) (b:Bool) (z:Mach) (a:MemT) (e:Int×List qci×List Int×qu×Unit):∀ (c i:Nat),i≤L.length→L.length - i<c→
  qiz (DD X N) n K c L b (i:Int) z (a,(L.take i).map (fun ops=>((ops,0,false,[],[],()):ThT)),e)=K b z (a,L.map (fun ops=>((ops,0,false,[],[],()):ThT)),e)
 | 0,i,_,h2=>by omega
 | c+1,i,h0,h2=>by
  have hb:=qbh
  simp only[qiz,qrk]
  by_cases hi:i<L.length
  ·have ih:=qbcc N n hN K L hl h1 b z a e c (i+1) (by omega) (by omega)
   have hd:=h1 _ (z24 hi)
   obtain ⟨N,rfl⟩:∃ k,N=k+1:=⟨N - 1,by omega⟩
   rw[qh (by omega),ix hi,br_t,z12,qx hi,qt (by omega),qbhr hX]
   simp only[quf,q6p]
   rw[qh (by omega),qc]
   dsimp only
   rw[qh (by rw[z49,z27];omega)]
   rw[z32 hi,List.map_append] at ih
   exact ih
  ·rw[qi (by omega),show L.take i=L from z42 (by omega)]
theorem qbqm (hn:W+8≤n) {r:qu} (hr:RightR r) {L:List (List Op3)} (hL:OpsOk L):qtb (DD X n) r L=some ((qbt r L,true,()),()):=by
 obtain ⟨n,rfl⟩:∃ k,n=k+2:=⟨n - 2,by omega⟩
 have hW:=qbk
 have hb:=qbh
 have hln:=hL.n
 have hrl:=hr.len
 have hmem:q2j (DD X (n+1)) r (L.length:Int)=some (((qbt r L).1,true,()),()):=by
  rw[qbp1 hX]
  simp only[q3d,q11,qv0]
  obtain ⟨ws,w1,w2,w3⟩:=qb08 hX (n:=n) (by omega) hr
  have hws:ws=qsb r:=qbkx w1 (qi6 r) (fun p hp=>by rw[w2 p hp,qbdy r hp];rfl)
  rw[w3,qc,hws]
  dsimp only
  refine Eq.trans (qbdl hX (DD X n) n _ (L.length:Int) (qsb r) (by rw[qi6];omega) ([],[],()) ([],()) n 0 (Nat.zero_le _) (by rw[qi6];omega)) ?_
  simp only[q5c]
  rw[qqi hX (by omega),qc]
  dsimp only
  rw[qck ⟨by omega,by omega⟩,br_t,show (decide (0≤(L.length:Int))&&decide ((L.length:Int)≤(L.length:Int))&&decide ((L.length:Int)≤(qb8:Int)))=true by simp;omega,br_t]
  have hm:=qbog hX (n:=n) (by omega) ((qsb r).map fun v=>((v,0,0,()):qf8)) (fun x hx=>by
   obtain ⟨v,hv,rfl⟩:=z37.1 hx
   unfold qsb at hv
   obtain ⟨q,hq,rfl⟩:=z37.1 hv
   have:=qbqu hr (q:Int) (by have:=List.mem_range.1 hq;omega)
   exact ⟨rfl,rfl,this.1,by dsimp only;omega⟩) (by rw[z49,qi6]) L.length hln.1 hln.2
  rw[z12]
  refine Eq.trans (congrArg (fun z=>qd z _) hm) ?_
  rw[qc]
  dsimp only
  rw[z13,br_f]
  rfl
 have hcp:q22 (DD X (n+1)) r=some ((r,()),()):=by
  rw[qbqg hX]
  simp only[q18,qbcb]
  rw[qh (by omega)]
  rfl
 rw[qbf5 hX]
 simp only[qso,qta,qpf]
 rw[hmem,qc,hcp,qc]
 dsimp only
 refine Eq.trans (qbcc hX (n+1) (n+1) (by omega) _ L (by omega) (fun ops h=>by have:=(hL.ops ops h).1;omega) true (([],[],()),[],0,[],[],([],0,()),()) (qbt r L).1 (0,[],[],r,()) (n+1) 0 (Nat.zero_le _) (by omega)) ?_
 simp only[qwg]
 have hm:=qbrz hX (n:=n+1) (by omega) hr hL
 rw[z13,br_f]
 refine Eq.trans (congrArg (fun z=>qd z _) hm) ?_
 rw[qc]
 dsimp only
 rw[z13,br_f]
 rfl
end
end Go.G

namespace Go.G
set_option maxRecDepth 100000
open Go Go.V Go.Proofs
section
variable {X:Ext} (hX:XOk X) {n:Nat}
include hX
end
theorem qbw1 {r:qu} (hr:RightR r) {L:List (List Op3)} (hL:OpsOk L) {who:List Int} (hw:qbez L who 720):Inv (qjf (qbt r L) who)∧(qjf (qbt r L) who).2.2.1≤720∧(qjf (qbt r L) who).2.1.length=L.length∧who.length≤2000∧
  (∀ t∈who,0≤t∧t<(qbt r L).2.1.length)∧(qbt r L).2.2.1+who.length≤100000:=by
 have hthl:(qbt r L).2.1.length=L.length:=by unfold qbt;simp
 have hwl:=hw.1
 have hall:∀ t∈who,0≤t∧t<(qbt r L).2.1.length:=fun t h=>by rw[hthl];exact hw.2 t h
 have hX:XOk qbk4:=qbsg
 obtain ⟨h1,h2,_⟩:=qbsk hX who (qba3 hr hL) hall
 have e:(qbt r L).2.2.1=0:=rfl
 refine ⟨h1,by omega,by rw[qbte,hthl],by omega,hall,by omega⟩
end Go.G


import Derived.Test.YtpmimbgkiindbaaGreatAPFnStopped2
set_option maxRecDepth 100000
set_option linter.unusedVariables false
set_option linter.unusedSimpArgs false
set_option linter.unusedSectionVars false
open Go.IntKind (wrap)
namespace Go.G
open Go Go.V Go.Proofs
def dK(got:dM)(p:Int):Int:=(eX got p).1
def g6(got:dM):List Int:=got.map (·.1)
def qM(got:dM)(o:cL):Prop:=∃B,path (dK got) (prog o)=g6 got++B
def sq(got:dM):Prop:=∀g∈got,0<=g.2.1/\g.2.1<=6
theorem NH(q:Int):∀(a b:dM)(v:Int)(ok:Bool),rd q (a++b) v ok=rd q b (rd q a v ok).1 (rd q a v ok).2
 | [],b,v,ok=>rfl
 | (p,x,_)::a,b,v,ok=>by
  simp only[fI,rd];split<;>exact NH q a b _ _
theorem QG(got:dM)(p v q:Int):eX (got++[(p,v,())]) q=if p=q then (v,true) else eX got q:=by unfold eX;rw[NH];simp only[rd]
theorem BF(q:Int):∀(a:dM)(v:Int)(ok:Bool),q∉g6 a->rd q a v ok=(v,ok)
 | [],v,ok,_=>rfl
 | (p,x,_)::a,v,ok,h=>by
  simp only[g6,cv,bh,zI]at h;simp only[rd];rw[af (fun e=>h.1 e.symm)];exact BF q a v ok h.2
theorem qL(q:Int):∀(a:dM)(v:Int)(ok:Bool),q∈g6 a->(rd q a v ok).2=true/\∃g∈a,g.1=q/\(rd q a v ok).1=g.2.1
 | [],v,ok,h=>by simp[g6]at h
 | (p,x,u)::a,v,ok,h=>by
  simp only[rd];by_cases hq:q∈g6 a
  .obtain⟨h1,g,hg,h2⟩:=qL q a (if p=q then x else v) (if p=q then true else ok) hq;have e:(if p=q then rd q a x true else rd q a v ok)=rd q a (if p=q then x else v) (if p=q then true else ok):=by split<;>rfl
   rw[e];exact⟨h1,g,cF _ hg,h2⟩
  .have hp:q=p:=by simp only[g6,cv,bh]at h;exact h.resolve_right hq
   rw[aj hp.symm,BF q a x true hq];exact⟨rfl,(p,x,u),e8,hp.symm,rfl⟩
theorem G6(got:dM):AH got (dK got) (g6 got):=by
 intro q;by_cases h:q∈g6 got
 .rw[aj h];exact Prod.ext rfl (qL q got 0 false h).1
 .rw[af h];exact BF q got 0 false h
theorem M7:∀{got:dM},(g6 got).Nodup->∀{g g':Int×Int×Unit},g∈got->g'∈got->g'.1=g.1->g=g'
 | [],_,g,g',hg,_,_=>by simp at hg
 | a::l,h,g,g',hg,hg',h1=>by
  rw[g6,cv,Gg]at h;rcases bh.1 hg with rfl | hg2
  .rcases bh.1 hg' with rfl | W5
   .rfl
   .exact absurd (eJ.2 ⟨g',W5,h1⟩) h.1
  .rcases bh.1 hg' with rfl | W5
   .exact absurd (eJ.2 ⟨g,hg2,h1.symm⟩) h.1
   .exact M7 h.2 hg2 W5 h1
theorem MA{got:dM}(h:(g6 got).Nodup){g:Int×Int×Unit}(hg:g∈got):dK got g.1=g.2.1:=by have hm:g.1∈g6 got:=eJ.2 ⟨g,hg,rfl⟩;obtain⟨_,g',hg',h1,h2⟩:=qL g.1 got 0 false hm;have e:=M7 h hg hg' h1;have e2:dK got g.1=g'.2.1:=h2;rw[e2,e]
theorem Mb{got:dM}(hg:sq got)(p:Int):0<=dK got p/\dK got p<=6:=by
 by_cases h:p∈g6 got
 .obtain⟨_,g,hm,_,e⟩:=qL p got 0 false h;have:=hg g hm;unfold dK eX;rw[e];exact this
 .have:=BF p got 0 false h;unfold dK eX;rw[this];dsimp only;omega
theorem GY{w w':Int->Int}:∀(A:List Int)(P:PR)(B:List Int),path w P=A++B->(∀a∈A,w' a=w a)->∃B',path w' P=A++B'/\B'.head? = B.head?
 | [],.done,B,h,_=>⟨[],rfl,by simp only[path,gA]at h;rw[<-h]⟩
 | [],.ask p k,B,h,_=>⟨p::path w' (k (w' p)),rfl,by simp only[path,gA]at h;rw[<-h];rfl⟩
 | a::A,.done,B,h,_=>by simp[path]at h
 | a::A,.ask p k,B,h,hw=>by
  simp only[path,fI,eZ]at h;obtain⟨rfl,h⟩:=h;obtain⟨B',h1,h2⟩:=GY A (k (w p)) B h fun b hb=>hw b (cF _ hb);exact⟨B',by simp only[path,fI];rw[hw p e8,h1],h2⟩
section
variable {o:cL} (ho:di o=true) {got:dM} (hg:sq got)
include ho hg
theorem Ka(h:qM got o):(g6 got).Nodup/\(∀p∈g6 got,0<=p/\p<20)/\got.length<=8:=by obtain⟨B,hB⟩:=h;have hp:=JK ho (dK got) (fun k _=>Mb hg k);rw[hB]at hp;refine⟨(F_.1 hp.once).1,fun p h=>hp.dS p (B7 _ h),?_⟩;have:=hp.len;rw[cT,g6,jC]at this;omega
theorem Kc(h:qM got o):(run got (prog o)).1=g6 got/\
  ((path (dK got) (prog o)=g6 got/\(run got (prog o)).2 = -1)\/∃q B,path (dK got) (prog o)=g6 got++q::B/\(run got (prog o)).2=q/\(0<=q/\q<20)/\q∉g6 got/\got.length<8):=by
 obtain⟨B,hB⟩:=h;have hp:=JK ho (dK got) (fun k _=>Mb hg k);rw[hB]at hp;have hn:=F_.1 hp.once;have hr:=HA (G6 got) (g6 got) B (prog o) hB (fun a h=>h) (fun a h=>(hp.dS a h).1) (fun b B' e hb=>hn.2.2 b hb b (by rw[e];exact e8) rfl);rw[hr];refine⟨rfl,?_⟩;cases B with
 | nil=>exact .inl ⟨by rw[hB,gT],rfl⟩
 | cons q B=>refine .inr ⟨q,B,hB,rfl,hp.dS q (by simp),fun h=>hn.2.2 q h q e8 rfl,?_⟩;have:=hp.len;rw[cT,g6,jC,ct]at this;omega
theorem aa7(h:qM got o){q:Int}{B:List Int}(hq:path (dK got) (prog o)=g6 got++q::B)(hn:q∉g6 got)(v:Int):qM (got++[(q,v,())]) o:=by
 have hw:∀a∈g6 got,dK (got++[(q,v,())]) a=dK got a:=by intro a ha;unfold dK;rw[QG,af (fun e:q=a=>hn (by rw[e];exact ha))]
 obtain⟨B',h1,h2⟩:=GY (g6 got) (prog o) (q::B) hq hw;cases B' with
 | nil=>simp at h2
 | cons b B'=>simp only[List.head?_cons,aK]at h2;subst h2;exact⟨B',by rw[h1];simp[g6]⟩
end
theorem Q2(o:cL):qM [] o:=⟨path (dK []) (prog o),rfl⟩
theorem abV{o:cL}{got:dM}{r:qp}(hn:(g6 got).Nodup)(hp:path (dK got) (prog o)=g6 got)(h:∀g∈got,g.2.1=b_ r g.1):got=fz r o:=by
 have hw:∀a∈g6 got,b_ r a=dK got a:=by intro a ha;obtain⟨g,hg,rfl⟩:=eJ.1 ha;rw[MA hn hg,h g hg]
 obtain⟨B',h1,h2⟩:=GY (w':=b_ r) (g6 got) (prog o) [] (by rw[hp,gT]) hw;have hB:B'=[]:=by cases B' with | nil=>rfl | cons b B'=>simp at h2
 rw[hB,gT]at h1;unfold fz;rw[h1,g6,BR];have:got.map ((fun p=>(p,b_ r p,())) ∘ fun(x:Int×Int×Unit)=>x.1)=got.map id:=by apply rH;intro g hg;show(g.1,b_ r g.1,())=g;rw[<-h g hg]
 rw[this,List.map_id]
theorem Mu:∀(a b:List Int),a.Nodup->(∀x∈a,x∈b)->b.length<=a.length->∀x∈b,x∈a
 | [],b,_,_,hl,x,hx=>by
  have:b=[]:=lG.1 (by simpa using hl);rw[this]at hx;exact hx
 | a::l,b,hn,hs,hl,x,hx=>by
  rw[Gg]at hn;have hab:=hs a e8;have hlen:=List.length_erase_of_mem hab;have hpos:0<b.length:=List.length_pos_of_mem hab;have:=Mu l (b.erase a) hn.2 (fun y hy=>(List.mem_erase_of_ne (fun e=>hn.1 (by rw[<-e];exact hy))).2 (hs y (cF _ hy))) (by simp only[ct]at hl;omega);by_cases h:x=a
  .rw[h];exact e8
  .exact cF _ (this x ((List.mem_erase_of_ne h).2 hx))
section
variable {o:cL} (ho:di o=true) {got:dM} (hg:sq got) (nN:qM got o) (hp:path (dK got) (prog o)=g6 got) (dF:mM o got=none)
include ho hg nN hp dF
theorem M0:lM (dJ o got):=by
 have hpk:=JK ho (dK got) (fun k _=>Mb hg k);have hk:AH got (dK got) (path (dK got) (prog o)):=by rw[hp];exact G6 got
 have hrun:(run got (prog o)).2 = -1:=by
  rcases(Kc ho hg nN).2 with h | ⟨q,B,h,_⟩
  .exact h.2
  .rw[hp]at h;have:=ew List.length h;simp at this
 have Jm:∀p∈path (dK got) (prog o),val got p=dK got p:=fun p hp=>rfl;unfold dJ;by_cases eK:o.1=1\/o.1=2\/o.1=3
 .rw[aj eK];obtain⟨_,r2,_,_⟩:=L_ (got:=got) (K:=o.2.1) (V:=o.2.2.1) (held:=val got (qw o.2.1)) (st:=val got 13) (xO ho dF eK);exact r2
 rw[af eK];by_cases k7:o.1=7
 .rw[aj k7];simp[lM,same]
 rw[af k7];by_cases k8:o.1=8
 .rw[aj k8];simp[lM]
 rw[af k8];by_cases k9:o.1=9
 .rw[aj k9];have h1:=vg (wrap .i64 (val got 13-1));generalize qw (wrap .i64 (val got 13-1))=q at *;have h2:=oO (val got q);cases hin:bu (val got q) 1 6
  .simp[lM,same,cond];omega
  .have:=lp.1 hin;simp only[bA,lM,same,me,bh,dg,dj,uJ,uP,List.Pairwise.nil,iQ,false_imp_iff,uO];omega
 rw[af k9];by_cases js:o.1=10
 .rw[aj js];have ue:=tL ho;have h2:=oO o.2.2.1;simp only[lM,same,me,bh,dg,dj,uJ,uP,List.Pairwise.nil,iQ,false_imp_iff,uO];omega
 rw[af js];exact List.Pairwise.nil
theorem Bh:(∀g∈got,∃e∈dJ o got,e.1=g.1/\e.2.1=g.2.1)/\(∀e∈dJ o got,∃g∈got,g.1=e.1/\g.2.1=e.2.1)/\(dJ o got).length=got.length:=by
 have hk:AH got (dK got) (path (dK got) (prog o)):=by rw[hp];exact G6 got
 have hn:=(Ka ho hg nN).1;have hrun:run got (prog o)=(path (dK got) (prog o),-1):=by
  obtain⟨h1,h2⟩:=Kc ho hg nN;rcases h2 with h | ⟨q,B,h,_⟩
  .exact Prod.ext (by rw[h1,hp]) h.2
  .rw[hp]at h;have:=ew List.length h;simp at this
 obtain⟨hA,hB⟩:=MZ ho (fun k _=>Mb hg k) hk hrun dF;rw[hp]at hA hB;have hlen:(dJ o got).length=got.length:=by rw[hB,g6,jC]
 have oR:=M0 ho hg nN hp dF;have h1:∀g∈got,∃e∈dJ o got,e.1=g.1/\e.2.1=g.2.1:=by intro g zw;obtain⟨e,he,a,b⟩:=hA g.1 (eJ.2 ⟨g,zw,rfl⟩);exact⟨e,he,a,by rw[b,MA hn zw]⟩
 refine⟨h1,?_,hlen⟩;intro e he;have hm:e.1∈g6 got:=by refine Mu (g6 got) ((dJ o got).map (·.1)) hn (fun x hx=>?_) (by rw[jC,hlen,g6,jC];exact cq _) e.1 (eJ.2 ⟨e,he,rfl⟩);obtain⟨g,zw,rfl⟩:=eJ.1 hx;obtain⟨e',he',a,_⟩:=h1 g zw;exact eJ.2 ⟨e',he',a⟩
 obtain⟨g,zw,hge⟩:=eJ.1 hm;obtain⟨e',he',a,b⟩:=h1 g zw;have:e'=e:=by
  have UG:=Q4 oR;have hinj:∀(l:List ez),(l.map (·.1)).Nodup->∀x∈l,∀y∈l,x.1=y.1->x=y:=by
   intro l
   induction l with
   | nil=>intro _ x hx;simp at hx
   | cons c l ih=>
    intro hd x hx y hy hxy;rw[cv,Gg]at hd;rcases bh.1 hx with hx | hx
    .rcases bh.1 hy with hy | hy
     .rw[hx,hy]
     .exact absurd (eJ.2 ⟨y,hy,by rw[<-hxy,hx]⟩) hd.1
    .rcases bh.1 hy with hy | hy
     .exact absurd (eJ.2 ⟨x,hx,by rw[hxy,hy]⟩) hd.1
     .exact ih hd.2 x hx y hy hxy
  exact hinj _ UG e' he' e he (by rw[a];exact hge)
 rw[this]at b;exact⟨g,zw,hge,b.symm⟩
theorem M1:∀e∈dJ o got,(0<=e.1/\e.1<20)/\(0<=e.2.1/\e.2.1<=1000)/\(0<=e.2.2.1/\e.2.2.1<=1000):=by
 intro e he;obtain⟨g,zw,h1,h2⟩:=(Bh ho hg nN hp dF).2.1 e he;have hr:=(Ka ho hg nN).2.1 g.1 (eJ.2 ⟨g,zw,rfl⟩);have hv:=hg g zw;refine⟨by omega,by omega,?_⟩;have hval:∀p,0<=val got p/\val got p<=6:=fun p=>Mb hg p;have ue:=tL ho;unfold dJ at he;by_cases eK:o.1=1\/o.1=2\/o.1=3
 .rw[aj eK]at he;obtain⟨_,_,r3,_⟩:=L_ (got:=got) (K:=o.2.1) (V:=o.2.2.1) (held:=val got (qw o.2.1)) (st:=val got 13) (xO ho dF eK);rw[r3,Jx]at he;obtain⟨q,hq,hh,rfl⟩:=he;dsimp only;have hold:=hval q.1;unfold val at hold;generalize (eX got q.1).1=old at *;have zp:=hval 13;unfold e_ at hq;have Ao:0<=one old/\one old<=1000:=by unfold one;rw[qs (by omega) (by omega)];omega
  have nZ:0<=less old/\less old<=1000:=by unfold less;rw[qs (by omega) (by omega)];split<;>omega
  have UD:wrap .i64 (o.2.1+1)=o.2.1+1:=qs (by omega) (by omega);have al3:=ue;have hc:q=(qw o.2.1,fun _=>o.2.2.1)\/q=(13,fun _=>val got 13)\/q.2=(fun _=>0)\/q.2=(fun _=>wrap .i64 (o.2.1+1))\/q.2=less\/q.2=one:=by
   cases mj:qh (val got (qw o.2.1)) != qh o.2.2.1
   .rw[mj]at hq;simp only[bf,gT,bh,dg,dj]at hq;rcases hq with rfl | rfl | rfl | rfl | rfl | rfl<;>simp
   .rw[mj]at hq;simp only[bA,fI,gA,bh,dg,dj]at hq;rcases hq with rfl | rfl | rfl | rfl | rfl | rfl | rfl | rfl<;>simp
  rcases hc with e | e | e | e | e | e
  .rw[e];show 0<=o.2.2.1/\o.2.2.1<=1000;omega
  .rw[e];show 0<=val got 13/\val got 13<=1000;omega
  .rw[e];show(0:Int)<=0/\(0:Int)<=1000;omega
  .rw[e];show 0<=wrap .i64 (o.2.1+1)/\wrap .i64 (o.2.1+1)<=1000;rw[UD];omega
  .rw[e];exact nZ
  .rw[e];exact Ao
 have hsame:∀p,0<=(same got p).2.2.1/\(same got p).2.2.1<=1000:=fun p=>by have:=hval p;unfold same;dsimp only;omega
 have zp:=hval 13;rw[af eK]at he;by_cases k7:o.1=7
 .rw[aj k7]at he;simp only[bh,dg,dj]at he;rcases he with rfl | rfl | rfl | rfl<;>exact hsame _
 rw[af k7]at he;by_cases k8:o.1=8
 .rw[aj k8]at he;simp only[bh,dg,dj]at he;subst he;dsimp only;omega
 rw[af k8]at he;by_cases k9:o.1=9
 .rw[aj k9]at he;simp only[bh]at he;rcases he with rfl | rfl | he
  .exact hsame _
  .dsimp only;rw[qs (by omega) (by omega)];omega
  .cases hin:bu (val got (qw (wrap .i64 (val got 13-1)))) 1 6
   .rw[hin]at he;simp at he
   .rw[hin,bA,d9]at he;subst he;dsimp only;omega
 rw[af k9]at he;by_cases js:o.1=10
 .rw[aj js]at he;simp only[bh,dg,dj]at he;rcases he with rfl | rfl<;>exact hsame _
 rw[af js]at he;simp at he
end
theorem B3{r:qp}(hr:aW r)(p:Int)(hp:0<=p/\p<20):0<=b_ r p/\b_ r p<=6:=by
 have hl:=hr.len;have hst:=hr.st;have hk:=fun v=>yO v r.1 0;unfold b_ jX;by_cases h1:p.toNat<4
 .rw[aj h1];rw[qv (by omega)];exact hr.dS _ (eB _)
 rw[af h1];by_cases h2:p.toNat<10
 .rw[aj h2];have:=hk ((p.toNat:Int)-3);unfold qH;split<;>omega
 rw[af h2];by_cases h3:p.toNat<13
 .rw[aj h3];have key:∀(c:Int)(l:List Int),0<=many c l/\many c l<=l.length:=by
   intro c l
   induction l with
   | nil=>simp[many]
   | cons a l ih=>simp only[many,ct];cases (bu a 1 6&&decide (qh a=c))<;>simp<;>omega
  have:=key ((p.toNat:Int)-10) r.1;omega
 rw[af h3];by_cases h4:p.toNat=13
 .rw[aj h4];omega
 rw[af h4];have:=hk ((p.toNat:Int)-13);unfold lD;split<;>omega
theorem akW{r:qp}(hr:aW r){o:cL}(ho:di o=true){g0:dM}{q:Int}(hp:path (dK (g0++[(q,b_ r q,())])) (prog o)=g6 (g0++[(q,b_ r q,())])){x:Int×List Int}(dF:mM o (g0++[(q,b_ r q,())])=some x) :
  Out r o x.1 x.2/\jj r o x.1=r/\x.2.length<=4:=by
 have xu:dK (g0++[(q,b_ r q,())]) q=b_ r q:=by unfold dK;rw[QG,aj rfl]
 have aZ:(path (dK (g0++[(q,b_ r q,())])) (prog o)).getLast? = some q:=by rw[hp];simp[g6]
 have hn:jO o.1 o.2.2.1 (dK (g0++[(q,b_ r q,())]) (qw o.2.1)) (dK (g0++[(q,b_ r q,())]) (q9 o.2.2.1)) (dK (g0++[(q,b_ r q,())]) 13) (dK (g0++[(q,b_ r q,())]) (iS o.2.1))=some x:=dF;clear hp dF;generalize dK (g0++[(q,b_ r q,())])=w at *;have ue:=tL ho;have hst:=hr.st;have hl:=hr.len;have hrow:=vg o.2.1;have hown:=uZ o.2.2.1;have hk:=yO o.2.2.1 r.1 0;unfold jO at hn;by_cases k1:o.1=1
 .have gY:prog o=sI o:=by unfold prog;rw[aj k1]
  have hK:qw o.2.1=o.2.1:=by omega
  rw[gY]at aZ;unfold sI at aZ;simp only[path]at aZ;by_cases a:w (qw o.2.1)≠0
  .rw[aj ⟨k1,a⟩]at hn;obtain rfl:=gU hn;rw[show(w (qw o.2.1) != 0)=true by rw[bH,b7 a];rfl,bA]at aZ;simp only[path,nH,aK]at aZ;rw[aZ,xu,<-aZ,hK,(u_ hr (by omega)).1]at a;exact⟨.ET k1 a,by unfold jj;rw[aj (by decide)],by simp⟩
  .rw[af (fun z=>a z.2)]at hn;have a':w (qw o.2.1)=0:=by omega
   rw[show(w (qw o.2.1) != 0)=false by rw[bH,bw a'];rfl,bf]at aZ;simp only[path]at aZ;by_cases b:w (q9 o.2.2.1)≠0
   .rw[aj ⟨k1,b⟩]at hn;obtain rfl:=gU hn;rw[show(w (q9 o.2.2.1) != 0)=true by rw[bH,b7 b];rfl,bA]at aZ;simp only[path,SJ,nH,aK]at aZ;rw[aZ,xu,<-aZ,IV hr (by omega)]at b;exact⟨.EU k1 (by omega),by unfold jj;rw[aj (by decide)],by simp⟩
   .rw[af (fun z=>b z.2),af (by omega),af (by omega),af (by omega),af (by omega),af (by omega),af (by omega),af (by omega),af (by omega),af (by omega),af (by omega)]at hn;cases hn
 rw[af (fun z=>k1 z.1),af (fun z=>k1 z.1)]at hn;by_cases k2:o.1=2
 .have gY:prog o=sJ o:=by unfold prog;rw[af k1,aj k2]
  have hK:qw o.2.1=o.2.1:=by omega
  rw[gY]at aZ;unfold sJ at aZ;simp only[path]at aZ;have hone:(w (qw o.2.1)=0\/w (qw o.2.1)=o.2.2.1)->w (qw o.2.1)=r.1.getD o.2.1.toNat 0:=by
   intro h;rw[show(bif decide (w (qw o.2.1)=0) then true else decide (w (qw o.2.1)=o.2.2.1))=true by
    rcases h with h | h
    .rw[bw h];rfl
    .rw[bw h];cases decide (w (qw o.2.1)=0)<;>rfl,bA]at aZ
   simp only[path,nH,aK]at aZ;rw[aZ,xu,<-aZ,hK,(u_ hr (by omega)).1]
  by_cases a:w (qw o.2.1)=0
  .rw[aj ⟨.inl k2,a⟩]at hn;obtain rfl:=gU hn;exact⟨.I6 k2 (by rw[<-hone (.inl a)];exact a),by unfold jj;rw[aj (by decide)],by simp⟩
  rw[af (fun z=>a z.2)]at hn;by_cases b:w (qw o.2.1)=o.2.2.1
  .rw[aj ⟨k2,b⟩]at hn;obtain rfl:=gU hn;have e:=hone (.inr b);rw[e]at a b;refine⟨.CI k2 a b,?_,by simp⟩;unfold jj;rw[af (by decide),aj (.inr k2)];have hs:r.1.set o.2.1.toNat o.2.2.1=r.1:=by rw[<-b,qv (by omega)];exact FE _
   rw[hs]
  rw[af (fun z=>b z.2)]at hn;by_cases d:w (q9 o.2.2.1)≠0
  .rw[aj ⟨k2,d⟩]at hn;obtain rfl:=gU hn;rw[b7 a,b7 b]at aZ;simp only[bf,path]at aZ;rw[show(w (q9 o.2.2.1) != 0)=true by rw[bH,b7 d];rfl,bA]at aZ;simp only[path,SJ,nH,aK]at aZ;rw[aZ,xu,<-aZ,IV hr (by omega)]at d;exact⟨.I5 k2 (by omega),by unfold jj;rw[aj (by decide)],by simp⟩
  .rw[af (fun z=>d z.2),af (by omega),af (by omega),af (by omega),af (by omega),af (by omega),af (by omega),af (by omega)]at hn;cases hn
 by_cases k3:o.1=3
 .have gY:prog o=u7 o:=by unfold prog;rw[af k1,af k2,aj k3]
  have hK:qw o.2.1=o.2.1:=by omega
  rw[gY]at aZ;unfold u7 at aZ;simp only[path]at aZ;by_cases a:w (qw o.2.1)=0
  .rw[aj ⟨.inr (.inl k3),a⟩]at hn;obtain rfl:=gU hn;rw[bw a,bA]at aZ;simp only[path,nH,aK]at aZ;rw[aZ,xu,<-aZ,hK,(u_ hr (by omega)).1]at a;exact⟨.DV k3 a,by unfold jj;rw[aj (by decide)],by simp⟩
  .rw[af (fun z=>a z.2),af (by omega),af (by omega),af (by omega),af (by omega),af (by omega),af (by omega),af (by omega),af (by omega),af (by omega)]at hn;cases hn
 by_cases k4:o.1=4
 .have gY:prog o=.ask (qw o.2.1) fun _=>.done:=by unfold prog;rw[af k1,af k2,af k3,aj k4]
  have hK:qw o.2.1=o.2.1:=by omega
  rw[gY]at aZ;simp only[path,nH,aK]at aZ;have e:w (qw o.2.1)=r.1.getD o.2.1.toNat 0:=by rw[aZ,xu,<-aZ,hK,(u_ hr (by omega)).1]
  rw[e]at hn;by_cases a:r.1.getD o.2.1.toNat 0=0
  .rw[aj ⟨.inr (.inr k4),a⟩]at hn;obtain rfl:=gU hn;exact⟨.D8 k4 a,by unfold jj;rw[aj (by decide)],by simp⟩
  .rw[af (fun z=>a z.2),af (by omega),af (by omega),aj k4]at hn;obtain rfl:=gU hn;exact⟨.D7 k4 a,T5 0 (by omega),by simp⟩
 rw[af (by omega),af (by omega),af (by omega),af (by omega)]at hn;by_cases k5:o.1=5
 .have gY:prog o=.ask (q9 o.2.2.1) fun _=>.done:=by unfold prog;rw[af k1,af k2,af k3,af k4,aj k5]
  rw[gY]at aZ;simp only[path,nH,aK]at aZ;have e:w (q9 o.2.2.1)=a_ o.2.2.1 r.1 0+1:=by rw[aZ,xu,<-aZ,IV hr (by omega)]
  rw[e]at hn;by_cases a:a_ o.2.2.1 r.1 0+1=0
  .rw[aj ⟨k5,a⟩]at hn;obtain rfl:=gU hn;exact⟨.wI k5 (by omega),by unfold jj;rw[aj (by decide)],by simp⟩
  .rw[af (fun z=>a z.2),aj k5]at hn;obtain rfl:=gU hn;rw[qs (by omega) (by omega),show a_ o.2.2.1 r.1 0+1-1=a_ o.2.2.1 r.1 0 by omega];exact⟨.wH k5 (by omega),T5 0 (by omega),by simp⟩
 rw[af (fun z=>k5 z.1),af k5]at hn;by_cases k6:o.1=6
 .have gY:prog o=.ask (iS o.2.1) fun _=>.done:=by unfold prog;rw[af k1,af k2,af k3,af k4,af k5,aj k6]
  rw[gY]at aZ;simp only[path,nH,aK]at aZ;have e:w (iS o.2.1)=many o.2.1 r.1:=by rw[aZ,xu,<-aZ,Rf (by omega)]
  rw[aj k6,e]at hn;obtain rfl:=gU hn;exact⟨.DT k6,T5 0 (by omega),by simp⟩
 rw[af k6]at hn;by_cases k8:o.1=8
 .have gY:prog o=.ask 13 fun _=>.done:=by unfold prog;rw[af k1,af k2,af k3,af k4,af k5,af k6,af (by omega),aj k8]
  rw[gY]at aZ;simp only[path,nH,aK]at aZ;have e:w 13=r.2.1:=by rw[aZ,xu,<-aZ,DB]
  rw[e]at hn;by_cases a:r.2.1≠0
  .rw[aj ⟨k8,a⟩]at hn;obtain rfl:=gU hn;exact⟨.xC k8 a,by unfold jj;rw[aj (by decide)],by simp⟩
  .rw[af (fun z=>a z.2),af (by omega),af (by omega)]at hn;cases hn
 rw[af (fun z=>k8 z.1)]at hn;by_cases k9:o.1=9
 .have gY:prog o=yJ:=by unfold prog;rw[af k1,af k2,af k3,af k4,af k5,af k6,af (by omega),af k8,aj k9]
  rw[gY]at aZ;unfold yJ at aZ;simp only[path]at aZ;by_cases a:w 13<1\/w 13>4
  .rw[aj ⟨k9,a⟩]at hn;obtain rfl:=gU hn;rw[show(bif decide (w 13<1) then true else decide (w 13>4))=true by
    rcases a with h | h
    .rw[bw h];rfl
    .rw[bw h];cases decide (w 13<1)<;>rfl,bA]at aZ
   simp only[path,nH,aK]at aZ;rw[aZ,xu,<-aZ,DB]at a;exact⟨.xA k9 (by omega),by unfold jj;rw[aj (by decide)],by simp⟩
  .rw[af (fun z=>a z.2),af (by omega)]at hn;cases hn
 rw[af (fun z=>k9 z.1)]at hn;by_cases js:o.1=10
 .have gY:prog o=v7 o:=by unfold prog;rw[af k1,af k2,af k3,af k4,af k5,af k6,af (by omega),af k8,af k9,aj js]
  rw[gY]at aZ;unfold v7 at aZ;simp only[path]at aZ;by_cases a:w 13≠5
  .rw[aj ⟨js,a⟩]at hn;obtain rfl:=gU hn;rw[show(w 13 != 5)=true by rw[bH,b7 a];rfl,bA]at aZ;simp only[path,nH,aK]at aZ;rw[aZ,xu,<-aZ,DB]at a;exact⟨.I_ js a,by unfold jj;rw[aj (by decide)],by simp⟩
  .rw[af (fun z=>a z.2)]at hn;cases hn
 .rw[af (fun z=>js z.1)]at hn;cases hn
theorem acG{r:qp}(hr:aW r){o:cL}(ho:di o=true)(dF:mM o (fz r o)=none) :
  Out r o (eH o (fz r o)).1 (eH o (fz r o)).2.1:=by
 have gq:di o=true/\(run (fz r o) (prog o)).2<0:=⟨ho,by rw[G8 hr ho];show(-1:Int)<0;omega⟩
 have h:=Nk hr ho;unfold gj at h;rw[aj gq,dF]at h;exact h
theorem MO(o:cL)(got:dM):(eH o got).2.1.length<=4:=by
 unfold eH;split
 .simp
 .split
  .split<;>simp
  .simp
abbrev l_:=Int×Int×Int×Unit
abbrev fD:=Int×List Int×Unit
abbrev nv:=Int×Int×List ez×fD×Unit
abbrev gx:=Int×Int×Int×Int×Unit
abbrev aS:=List l_×List nv×Unit
abbrev cU:=List cL×Int×Bool×dM×List gx×Unit
abbrev gi:=Int×cL×Int×Int×Int×fD×Unit
abbrev aF:=aS×List cU×Int×List gi×List Int×qp×Unit
def dE:ez:=(0,0,0,())
def dD:nv:=(0,0,[],(0,[],()),())
def dW:l_:=(0,0,0,())
def dO:cL:=(0,0,0,())
def dT:cU:=([],0,false,[],[],())
def dC:gi:=(0,dO,0,0,0,(0,[],()),())
def dH:gx:=(0,0,0,0,())
def wd(m:aS)(p:Int):l_:=m.1.getD p.toNat dW
def aq(m:aS)(t:Int):nv:=m.2.1.getD t.toNat dD
def eu(m:aS)(p:Int)(w:l_):aS:=(m.1.set p.toNat w,m.2)
def bJ(m:aS)(t:Int)(d:nv):aS:=(m.1,m.2.1.set t.toNat d,())
def qi(l:List ez)(i:Int):ez:=l.getD i.toNat dE
def jI(l:List ez)(p:Int):ez:=(l.find? fun e=>decide (e.1=p)).getD dE
def dN(t s:Int):l_:=(0,t+1,s,())
def fZ(m:aS)(p:Int):Int:=
 if (wd m p).2.1=0 then (wd m p).1 else
 if (aq m ((wd m p).2.1-1)).1=(wd m p).2.2.1/\(aq m ((wd m p).2.1-1)).2.1=2 then (jI (aq m ((wd m p).2.1-1)).2.2.1 p).2.2.1 else (jI (aq m ((wd m p).2.1-1)).2.2.1 p).2.1
def q7(m:aS)(h:gx):aS×gx×gx×Int×Unit:=
 if (aq m h.1).1≠h.2.1 then (m,h,dH,2,()) else
 if (aq m h.1).2.1=1 then
  if ((aq m h.1).2.2.1.length:Int)<=h.2.2.1 then (bJ m h.1 ((aq m h.1).1,2,(aq m h.1).2.2),h,dH,3,()) else
  if wd m (qi (aq m h.1).2.2.1 h.2.2.1).1=dN h.1 h.2.1 then (m,(h.1,h.2.1,h.2.2.1+1,h.2.2.2),dH,0,()) else
  if (wd m (qi (aq m h.1).2.2.1 h.2.2.1).1).2.1≠0 then (m,h,((wd m (qi (aq m h.1).2.2.1 h.2.2.1).1).2.1-1,(wd m (qi (aq m h.1).2.2.1 h.2.2.1).1).2.2.1,0,0,()),1,()) else
  if (wd m (qi (aq m h.1).2.2.1 h.2.2.1).1).1=(qi (aq m h.1).2.2.1 h.2.2.1).2.1 then (eu m (qi (aq m h.1).2.2.1 h.2.2.1).1 (dN h.1 h.2.1),(h.1,h.2.1,h.2.2.1+1,h.2.2.2),dH,0,())
  else (bJ m h.1 ((aq m h.1).1,3,(aq m h.1).2.2),h,dH,0,())
 else if ((aq m h.1).2.2.1.length:Int)<=h.2.2.2.1 then (m,h,dH,2,())
 else (if wd m (qi (aq m h.1).2.2.1 h.2.2.2.1).1=dN h.1 h.2.1 then
   eu m (qi (aq m h.1).2.2.1 h.2.2.2.1).1 (if (aq m h.1).2.1=2 then (qi (aq m h.1).2.2.1 h.2.2.2.1).2.2.1 else (qi (aq m h.1).2.2.1 h.2.2.2.1).2.1,0,0,()) else m,(h.1,h.2.1,h.2.2.1,h.2.2.2.1+1,()),dH,0,())
def ai(m:aF)(t:Int):cU:=m.2.1.getD t.toNat dT
def cA(m:aF)(t:Int)(x:cU):aF:=(m.1,m.2.1.set t.toNat x,m.2.2)
def CP(m:aF)(k:Int):gi:=m.2.2.2.1.getD k.toNat dC
def aV(x:cU):cL:=x.1.getD x.2.1.toNat dO
def qU(l:List gi)(t:Int):Nat->Int
 | 0=>-1
 | i+1=>if (l.getD i dC).1=t/\(l.getD i dC).2.2.2.2.1<0 then (i:Int) else qU l t i
def kI(l:List gi)(t:Int):Int:=qU l t l.length
def iD(m:aF)(t:Int)(s:fD):aF:=
 if kI m.2.2.2.1 t<0 then m else
 (m.1,m.2.1,m.2.2.1,m.2.2.2.1.set (kI m.2.2.2.1 t).toNat ((CP m (kI m.2.2.2.1 t)).1,(CP m (kI m.2.2.2.1 t)).2.1,(CP m (kI m.2.2.2.1 t)).2.2.1,m.2.2.1,(CP m (kI m.2.2.2.1 t)).2.2.2.2.1,s,()),m.2.2.2.2.1++[kI m.2.2.2.1 t],m.2.2.2.2.2)
def ir(m:aF)(t:Int)(s:fD):aF:=
 if kI m.2.2.2.1 t<0 then m else
 (m.1,m.2.1,m.2.2.1,m.2.2.2.1.set (kI m.2.2.2.1 t).toNat ((CP m (kI m.2.2.2.1 t)).1,(CP m (kI m.2.2.2.1 t)).2.1,(CP m (kI m.2.2.2.1 t)).2.2.1,(CP m (kI m.2.2.2.1 t)).2.2.2.1,m.2.2.1,s,()),m.2.2.2.2)
def eg(m:aF)(t:Int)(s:fD):aF:=cA (ir m t s) t ((ai m t).1,(ai m t).2.1+1,false,[],[],())
def au(x:cU):gx:=x.2.2.2.2.1.getD (x.2.2.2.2.1.length-1) dH
def qY(x:cU)(h:gx):cU:=(x.1,x.2.1,x.2.2.1,x.2.2.2.1,x.2.2.2.2.1++[h],())
def ki(x:cU)(h:gx):cU:=(x.1,x.2.1,x.2.2.1,x.2.2.2.1,x.2.2.2.2.1.set (x.2.2.2.2.1.length-1) h,())
def jh(x:cU):cU:=(x.1,x.2.1,x.2.2.1,x.2.2.2.1,x.2.2.2.2.1.take (x.2.2.2.2.1.length-1),())
def cH(m:aF)(a:aS):aF:=(a,m.2)
def kH(m:aF)(t:Int):aF:=
  if (q7 m.1 (au (ai m t))).2.2.2.1=1 then
    (if (au (ai m t)).1=t/\(ai m t).2.2.2.2.1.length=1 then cA (cH m (q7 m.1 (au (ai m t))).1) t (qY (ai m t) (q7 m.1 (au (ai m t))).2.2.1)
     else cA (cH m (q7 m.1 (au (ai m t))).1) t (ki (ai m t) (q7 m.1 (au (ai m t))).2.2.1)) else
  if (q7 m.1 (au (ai m t))).2.2.2.1=2 then
    (if (au (ai m t)).1≠t then cA (cH m (q7 m.1 (au (ai m t))).1) t (jh (ai m t)) else
     if (aq m.1 t).2.1=2 then eg (cH m (q7 m.1 (au (ai m t))).1) t (aq m.1 t).2.2.2.1
     else cA (cH m (q7 m.1 (au (ai m t))).1) t ((ai m t).1,(ai m t).2.1,(ai m t).2.2.1,[],[],())) else
  if (q7 m.1 (au (ai m t))).2.2.2.1=3 then
    cA (iD (cH m (q7 m.1 (au (ai m t))).1) (au (ai m t)).1 (aq m.1 (au (ai m t)).1).2.2.2.1) t (ki (ai m t) (q7 m.1 (au (ai m t))).2.1)
  else cA (cH m (q7 m.1 (au (ai m t))).1) t (ki (ai m t) (q7 m.1 (au (ai m t))).2.1)
def De(x:cU):Int:=(run x.2.2.2.1 (prog (aV x))).2
def iw(m:aF)(x:cU):dM:=x.2.2.2.1++[(De x,(wd m.1 (De x)).1,())]
def rR(x:cU)(g:dM):cU:=(x.1,x.2.1,x.2.2.1,g,x.2.2.2.2)
def tM(m:aF)(t:Int):aF:=
 if (wd m.1 (De (ai m t))).2.1≠0 then cA m t (qY (ai m t) ((wd m.1 (De (ai m t))).2.1-1,(wd m.1 (De (ai m t))).2.2.1,0,0,())) else
 if (gj (aV (ai m t)) (iw m (ai m t))).2.1=false then cA m t (rR (ai m t) (iw m (ai m t))) else
 if (gj (aV (ai m t)) (iw m (ai m t))).1.1=true then eg (iD m t (gj (aV (ai m t)) (iw m (ai m t))).1.2.1) t (gj (aV (ai m t)) (iw m (ai m t))).1.2.1 else
 cA (cH m (bJ m.1 t ((aq m.1 t).1+1,1,(gj (aV (ai m t)) (iw m (ai m t))).1.2.2.1,(gj (aV (ai m t)) (iw m (ai m t))).1.2.1,()))) t
  (qY (rR (ai m t) (iw m (ai m t))) (t,(aq m.1 t).1+1,0,0,()))
def tick(m:aF):aF:=(m.1,m.2.1,m.2.2.1+1,m.2.2.2)
def pR(m:aF)(t:Int):aF:=
 cA (m.1,m.2.1,m.2.2.1,m.2.2.2.1++[(t,aV (ai m t),m.2.2.1,-1,-1,(0,[],()),())],m.2.2.2.2) t ((ai m t).1,(ai m t).2.1,true,(ai m t).2.2.2)
def vv(m:aF)(t:Int):aF:=
 if (ai m t).2.2.1=false then pR (tick m) t else
 if (ai m t).2.2.2.2.1≠[] then kH (tick m) t else tM (tick m) t
theorem LX{α:Type}(l:List α)(i j:Nat)(x d:α):(l.set i x).getD j d=if i=j/\j<l.length then x else l.getD j d:=by
 simp only[FY,jV];by_cases h:i=j
 .subst h;by_cases h2:i<l.length
  .simp[h2]
  .simp[h2]
 .simp[h]
theorem Fm{m:aS}{p q:Int}{w:l_}(hp:0<=p/\p<m.1.length)(hq:0<=q):wd (eu m p w) q=if q=p then w else wd m q:=by
 unfold wd eu;dsimp only;rw[LX];by_cases h:q=p
 .subst h;rw[aj ⟨rfl,by omega⟩,aj rfl]
 .rw[af (by omega),af h]
theorem Ip{m:aS}{u:Int}{d:nv}(q:Int):wd (bJ m u d) q=wd m q:=rfl
theorem n7{m:aS}{u t:Int}{d:nv}(hu:0<=u/\u<m.2.1.length)(ht:0<=t):aq (bJ m u d) t=if t=u then d else aq m t:=by
 unfold aq bJ;dsimp only;rw[LX];by_cases h:t=u
 .subst h;rw[aj ⟨rfl,by omega⟩,aj rfl]
 .rw[af (by omega),af h]
theorem qT{m:aF}{u t:Int}{x:cU}(hu:0<=u/\u<m.2.1.length)(ht:0<=t):ai (cA m u x) t=if t=u then x else ai m t:=by
 unfold ai cA;dsimp only;rw[LX];by_cases h:t=u
 .subst h;rw[aj ⟨rfl,by omega⟩,aj rfl]
 .rw[af (by omega),af h]
theorem o5(m:aF)(u:Int)(x:cU):(cA m u x).2.1.length=m.2.1.length:=by unfold cA;simp
theorem zR{m m':aF}(h:m'.2.1=m.2.1)(t:Int):ai m' t=ai m t:=by unfold ai;rw[h]
theorem Mq(m:aS)(p:Int)(w:l_):(eu m p w).1.length=m.1.length:=by unfold eu;simp
theorem HB(m:aS)(p:Int)(w:nv):(bJ m p w).2.1.length=m.2.1.length:=by unfold bJ;simp
theorem A5{l:List ez}(h:lM l){i:Int}(h0:0<=i)(h1:i<l.length):jI l (qi l i).1=qi l i:=by
 have key:∀(l:List ez),lM l->∀k:Nat,(hk:k<l.length)->l.find? (fun e=>decide (e.1=l[k].1))=some l[k]:=by
  intro l
  induction l with
  | nil=>intro _ k hk;simp at hk
  | cons a l ih=>
   intro hs k hk;rw[lM,me]at hs;cases k with
   | zero=>simp
   | succ k=>
    have hk2:k<l.length:=by simpa using hk
    simp only[SL];have:=hs.1 (l[k]'hk2) (eB _);rw[List.find?_cons,show decide (a.1=(l[k]'hk2).1)=false from b7 (by omega)];exact ih hs.2 k hk2
 have hk:i.toNat<l.length:=by omega
 unfold jI qi;rw[qv hk,key l h _ hk];rfl
theorem L2{l:List ez}{i:Int}(h0:0<=i)(h1:i<l.length):qi l i∈l:=by
 have hk:i.toNat<l.length:=by omega
 unfold qi;rw[qv hk];exact eB _
theorem RS{l:List ez}{e:ez}(h:e∈l):∃i:Int,0<=i/\i<l.length/\qi l i=e:=by obtain⟨k,hk,rfl⟩:=nJ.1 h;refine⟨(k:Int),by omega,by omega,?_⟩;unfold qi;rw[eE,qv hk]
theorem RR{l:List ez}(h:lM l){i j:Int}(h0:0<=i)(h1:i<j)(h2:j<l.length):(qi l i).1<(qi l j).1:=by
 have hi:i.toNat<l.length:=by omega
 have hj:j.toNat<l.length:=by omega
 unfold qi;rw[qv hi,qv hj];exact yc.1 h _ _ hi hj (by omega)
theorem abS{l:List ez}(h:lM l){i j:Int}(h0:0<=i)(h1:i<l.length)(g0:0<=j)(g1:j<l.length)(e:(qi l i).1=(qi l j).1):i=j:=by
 rcases Ca i j with k | k | k
 .have:=RR h h0 k g1;omega
 .exact k
 .have:=RR h g0 k h1;omega
def bC(x:cU)(t:Int):Bool:=match x.2.2.2.2.1 with
 | []=>false
 | h::_=>decide (h.1=t)
structure ot (d:nv) (time:Int):Prop where
 z7:lM d.2.2.1
 len:d.2.2.1.length<=8
 dS:∀e∈d.2.2.1,(0<=e.1/\e.1<20)/\(0<=e.2.1/\e.2.1<=1000)/\(0<=e.2.2.1/\e.2.2.1<=1000)
 seq:0<=d.1/\d.1<=time
 st:(d.1=0->d=dD)/\(1<=d.1->1<=d.2.1/\d.2.1<=3)
 rl:d.2.2.2.1.2.1.length<=4
def Um(w:l_):Prop:=w.2.1=0/\w.2.2.1=0/\0<=w.1/\w.1<=1000
def BC(m:aS)(n:Nat)(own:Int->Prop)(p:Int):Prop:=
 ∃u:Int,0<=u/\u<n/\own u/\wd m p=dN u (aq m u).1/\∃i:Int,0<=i/\i<(aq m u).2.2.1.length/\(qi (aq m u).2.2.1 i).1=p
structure eY (m:aS) (n:Nat) (time:Int) (own:Int->Prop):Prop where
 len:m.1.length=20
 dy:m.2.1.length=n
 dz:∀t:Int,0<=t->t<n->ot (aq m t) time
 word:∀p:Int,0<=p->p<20->Um (wd m p)\/BC m n own p
 jP:∀t:Int,0<=t->t<n->(aq m t).2.1=1->own t
 kX:∀t:Int,0<=t->t<n->own t->1<=(aq m t).1
 pre:∀t:Int,0<=t->t<n->(aq m t).2.1=1->∀i j:Int,0<=i->i<j->j<(aq m t).2.2.1.length->wd m (qi (aq m t).2.2.1 j).1=dN t (aq m t).1->wd m (qi (aq m t).2.2.1 i).1=dN t (aq m t).1
structure bW (m:aS) (n:Nat) (h:gx):Prop where
 t:0<=h.1/\h.1<n
 seq:1<=h.2.1/\h.2.1<=(aq m h.1).1
 rY:0<=h.2.2.1/\h.2.2.1<=8
 fin:0<=h.2.2.2.1/\h.2.2.2.1<=8
 cur:h.2.1=(aq m h.1).1->h.2.2.1<=(aq m h.1).2.2.1.length/\h.2.2.2.1<=(aq m h.1).2.2.1.length/\
  ((aq m h.1).2.1=1->h.2.2.2.1=0/\∀i:Int,0<=i->i<h.2.2.1->wd m (qi (aq m h.1).2.2.1 i).1=dN h.1 h.2.1)/\
  ((aq m h.1).2.1≠1->∀i:Int,0<=i->i<h.2.2.2.1->wd m (qi (aq m h.1).2.2.1 i).1≠dN h.1 h.2.1)
theorem tI{a b s r:Int}(h:dN a s=dN b r):a=b/\s=r:=by simp only[dN,aY]at h;omega
theorem vk{w:l_}(h:w.2.1=0){a s:Int}(ha:0<=a):w≠dN a s:=fun e=>by rw[e]at h;simp only[dN]at h;omega
theorem eY.gW{m:aS}{n:Nat}{time:Int}{own:Int->Prop}(I:eY m n time own){t i:Int}(h0:0<=t)(h1:t<n)(i0:0<=i)(i1:i<(aq m t).2.2.1.length) :
  (0<=(qi (aq m t).2.2.1 i).1/\(qi (aq m t).2.2.1 i).1<20)/\(0<=(qi (aq m t).2.2.1 i).2.1/\(qi (aq m t).2.2.1 i).2.1<=1000)/\(0<=(qi (aq m t).2.2.1 i).2.2.1/\(qi (aq m t).2.2.1 i).2.2.1<=1000):=
 (I.dz t h0 h1).dS _ (L2 i0 i1)
theorem eY.I7{m:aS}{n:Nat}{time:Int}{own:Int->Prop}(I:eY m n time own){t:Int}(h0:0<=t)(h1:t<n)(hs:(aq m t).2.1≠0):1<=(aq m t).1:=by
 have:=(I.dz t h0 h1).seq;by_cases h:(aq m t).1=0
 .exact absurd (by rw[((I.dz t h0 h1).st.1 h)];rfl) hs
 .omega
theorem u9{m:aS}{p:Int}(h:(wd m p).2.1=0):fZ m p=(wd m p).1:=by unfold fZ;rw[aj h]
theorem zS{m:aS}{u p:Int}(hu:0<=u)(h:wd m p=dN u (aq m u).1):fZ m p=if (aq m u).2.1=2 then (jI (aq m u).2.2.1 p).2.2.1 else (jI (aq m u).2.2.1 p).2.1:=by
 have e1:(wd m p).2.1=u+1:=by rw[h];rfl
 have e2:(wd m p).2.2.1=(aq m u).1:=by rw[h];rfl
 have e3:(wd m p).2.1-1=u:=by omega
 unfold fZ;rw[af (by omega),e3,e2];by_cases h2:(aq m u).2.1=2
 .rw[aj ⟨rfl,h2⟩,aj h2]
 .rw[af (fun q=>h2 q.2),af h2]
theorem eY.kW{m:aS}{n:Nat}{time:Int}{own lX:Int->Prop}(I:eY m n time own)(h:∀t:Int,0<=t->t<n->(own t↔lX t)):eY m n time lX where
 len:=I.len
 dy:=I.dy
 dz:=I.dz
 word:=fun p h0 h1=>(I.word p h0 h1).imp id fun⟨u,a,b,c,d⟩=>⟨u,a,b,(h u a b).1 c,d⟩
 jP:=fun t a b c=>(h t a b).1 (I.jP t a b c)
 kX:=fun t a b c=>I.kX t a b ((h t a b).2 c)
 pre:=I.pre
theorem ot.mono{d:nv}{a b:Int}(h:ot d a)(hab:a<=b):ot d b:=⟨h.z7,h.len,h.dS,⟨h.seq.1,by have:=h.seq.2;omega⟩,h.st,h.rl⟩
theorem eY.Da{m:aS}{n:Nat}{time time':Int}{own:Int->Prop}(I:eY m n time own)(h:time<=time'):eY m n time' own:=⟨I.len,I.dy,fun t a b=>(I.dz t a b).mono h,I.word,I.jP,I.kX,I.pre⟩
theorem Rq{m:aS}{n:Nat}{time:Int}{own:Int->Prop}(I:eY m n time own){t:Int}(h0:0<=t)(hn:¬ own t){p:Int}(p0:0<=p)(p1:p<20)(s:Int):wd m p≠dN t s:=by
 intro e;rcases I.word p p0 p1 with h | ⟨u,a,b,c,d,_⟩
 .exact vk h.1 h0 e
 .rw[e]at d;obtain⟨rfl,_⟩:=tI d;exact hn c
section
variable {m:aS} {n:Nat} {time:Int} {own:Int->Prop} (I:eY m n time own) {u:Int} (u0:0<=u) (u1:u<n)
include I u0 u1
theorem Fg{i:Int}(hs:(aq m u).2.1=1)(i0:0<=i)(i1:i<(aq m u).2.2.1.length)(hw:(wd m (qi (aq m u).2.2.1 i).1).2.1=0)(hold:(wd m (qi (aq m u).2.2.1 i).1).1=(qi (aq m u).2.2.1 i).2.1)
  (hb:∀j:Int,0<=j->j<i->wd m (qi (aq m u).2.2.1 j).1=dN u (aq m u).1) :
  eY (eu m (qi (aq m u).2.2.1 i).1 (dN u (aq m u).1)) n time own/\(∀p:Int,0<=p->p<20->fZ (eu m (qi (aq m u).2.2.1 i).1 (dN u (aq m u).1)) p=fZ m p)/\
  (∀h,bW m n h->bW (eu m (qi (aq m u).2.2.1 i).1 (dN u (aq m u).1)) n h):=by
 have he:=I.gW u0 u1 i0 i1;have oR:=(I.dz u u0 u1).z7;have hlen:=I.len;have r7:=A5 oR i0 i1;generalize hp:(qi (aq m u).2.2.1 i).1=P at *;have mH:∀q,0<=q->wd (eu m P (dN u (aq m u).1)) q=if q=P then dN u (aq m u).1 else wd m q:=fun q hq=>Fm (by omega) hq
 have hd:∀t,aq (eu m P (dN u (aq m u).1)) t=aq m t:=fun t=>rfl;have hkeep:∀q t s,0<=t->0<=q->wd m q=dN t s->wd (eu m P (dN u (aq m u).1)) q=dN t s:=by
  intro q t s t0 q0 e;rw[mH q q0];by_cases h:q=P
  .subst h;exact absurd e (vk hw t0)
  .rw[af h];exact e
 have hnm:∀q t,0<=q->t≠u->wd (eu m P (dN u (aq m u).1)) q=dN t (aq m t).1->wd m q=dN t (aq m t).1:=by
  intro q t q0 tu e;rw[mH q q0]at e;by_cases h:q=P
  .rw[aj h]at e;exact absurd (tI e).1.symm tu
  .rw[af h]at e;exact e
 refine⟨⟨by rw[Mq];exact I.len,I.dy,I.dz,?_,I.jP,I.kX,?_⟩,?_,?_⟩
 .intro p p0 p1;unfold BC;rw[mH p p0];by_cases h:p=P
  .subst h;rw[aj rfl];exact .inr ⟨u,u0,u1,I.jP u u0 u1 hs,rfl,i,i0,i1,hp⟩
  .rw[af h];exact I.word p p0 p1
 .intro t t0 t1 ts a b a0 ab b1 e;rw[hd] at *;have Ah:=I.gW t0 t1 a0 (by omega:a<_);have UC:=I.gW t0 t1 (by omega:0<=b) b1;by_cases htu:t=u
  .subst htu;rw[mH _ UC.1.1]at e;by_cases h:(qi (aq m t).2.2.1 b).1=P
   .have Uy:b=i:=abS oR (by omega) b1 i0 i1 (by rw[h,hp]);exact hkeep _ _ _ t0 Ah.1.1 (hb a a0 (by omega))
   .rw[af h]at e;exact hkeep _ _ _ t0 Ah.1.1 (I.pre t t0 t1 ts a b a0 ab b1 e)
  .exact hkeep _ _ _ t0 Ah.1.1 (I.pre t t0 t1 ts a b a0 ab b1 (hnm _ t UC.1.1 htu e))
 .intro p p0 p1;by_cases h:p=P
  .subst h;rw[u9 hw,zS u0 (by rw[mH p p0,aj rfl,hd]),hd,af (by omega),r7,hold]
  .unfold fZ;rw[mH p p0,af h];rfl
 .intro h H;refine⟨H.t,H.seq,H.rY,H.fin,fun e=>?_⟩;obtain⟨a,b,c,d⟩:=H.cur e;refine⟨a,b,fun hs'=>⟨(c hs').1,fun j j0 j1=>?_⟩,fun hs' j j0 j1=>?_⟩
  .exact hkeep _ _ _ H.t.1 (I.gW H.t.1 H.t.2 j0 (by omega)).1.1 ((c hs').2 j j0 j1)
  .intro q;have hne:h.1≠u:=fun e2=>hs' (by rw[hd,e2];exact hs);have hj:=I.gW H.t.1 H.t.2 j0 (show j<_ by omega);have e':h.2.1=(aq m h.1).1:=e;rw[hd,e']at q;exact d hs' j j0 j1 (by rw[e'];exact hnm _ _ hj.1.1 hne q)
theorem M4{i:Int}(hs:(aq m u).2.1≠1)(i0:0<=i)(i1:i<(aq m u).2.2.1.length)(hw:wd m (qi (aq m u).2.2.1 i).1=dN u (aq m u).1) :
  eY (eu m (qi (aq m u).2.2.1 i).1 (if (aq m u).2.1=2 then (qi (aq m u).2.2.1 i).2.2.1 else (qi (aq m u).2.2.1 i).2.1,0,0,())) n time own/\
  (∀p:Int,0<=p->p<20->fZ (eu m (qi (aq m u).2.2.1 i).1 (if (aq m u).2.1=2 then (qi (aq m u).2.2.1 i).2.2.1 else (qi (aq m u).2.2.1 i).2.1,0,0,())) p=fZ m p)/\
  (∀h,bW m n h->bW (eu m (qi (aq m u).2.2.1 i).1 (if (aq m u).2.1=2 then (qi (aq m u).2.2.1 i).2.2.1 else (qi (aq m u).2.2.1 i).2.1,0,0,())) n h):=by
 have he:=I.gW u0 u1 i0 i1;have oR:=(I.dz u u0 u1).z7;have hlen:=I.len;have r7:=A5 oR i0 i1;have hv:0<=(if (aq m u).2.1=2 then (qi (aq m u).2.2.1 i).2.2.1 else (qi (aq m u).2.2.1 i).2.1)/\(if (aq m u).2.1=2 then (qi (aq m u).2.2.1 i).2.2.1 else (qi (aq m u).2.2.1 i).2.1)<=1000:=by split<;>omega
 have hval:fZ m (qi (aq m u).2.2.1 i).1=(if (aq m u).2.1=2 then (qi (aq m u).2.2.1 i).2.2.1 else (qi (aq m u).2.2.1 i).2.1):=by rw[zS u0 hw,r7]
 generalize (if (aq m u).2.1=2 then (qi (aq m u).2.2.1 i).2.2.1 else (qi (aq m u).2.2.1 i).2.1)=v at *;generalize hp:(qi (aq m u).2.2.1 i).1=P at *;have mH:∀q,0<=q->wd (eu m P (v,0,0,())) q=if q=P then (v,0,0,()) else wd m q:=fun q hq=>Fm (by omega) hq
 have hd:∀t,aq (eu m P (v,0,0,())) t=aq m t:=fun t=>rfl;have hkeep:∀q t,t≠u->0<=q->wd m q=dN t (aq m t).1->wd (eu m P (v,0,0,())) q=dN t (aq m t).1:=by
  intro q t tu q0 e;rw[mH q q0];by_cases h:q=P
  .subst h;rw[hw]at e;exact absurd (tI e).1.symm tu
  .rw[af h];exact e
 have eS:∀q t s,0<=t->0<=q->wd (eu m P (v,0,0,())) q=dN t s->wd m q=dN t s:=by
  intro q t s t0 q0 e;rw[mH q q0]at e;by_cases h:q=P
  .rw[aj h]at e;exact absurd e (vk rfl t0)
  .rw[af h]at e;exact e
 refine⟨⟨by rw[Mq];exact I.len,I.dy,I.dz,?_,I.jP,I.kX,?_⟩,?_,?_⟩
 .intro p p0 p1;unfold BC;rw[mH p p0];by_cases h:p=P
  .rw[aj h];exact .inl ⟨rfl,rfl,hv.1,hv.2⟩
  .rw[af h];exact I.word p p0 p1
 .intro t t0 t1 ts a b a0 ab b1 e;rw[hd] at *;have Ah:=I.gW t0 t1 a0 (by omega:a<_);have UC:=I.gW t0 t1 (by omega:0<=b) b1;have htu:t≠u:=fun e2=>hs (by rw[<-e2];exact ts);exact hkeep _ _ htu Ah.1.1 (I.pre t t0 t1 ts a b a0 ab b1 (eS _ t _ t0 UC.1.1 e))
 .intro p p0 p1;by_cases h:p=P
  .subst h;rw[hval,u9 (by rw[mH p p0,aj rfl]),mH p p0,aj rfl]
  .unfold fZ;rw[mH p p0,af h];rfl
 .intro h H;refine⟨H.t,H.seq,H.rY,H.fin,fun e=>?_⟩;obtain⟨a,b,c,d⟩:=H.cur e;refine⟨a,b,fun hs'=>⟨(c hs').1,fun j j0 j1=>?_⟩,fun hs' j j0 j1 q=>?_⟩
  .have hne:h.1≠u:=fun e2=>hs (by rw[<-e2];exact hs');have hj:=I.gW H.t.1 H.t.2 j0 (show j<_ by omega);have e':h.2.1=(aq m h.1).1:=e;have:=(c hs').2 j j0 j1;rw[e']at this;show wd _ (qi (aq m h.1).2.2.1 j).1=_;rw[e'];exact hkeep _ _ hne hj.1.1 this
  .exact d hs' j j0 j1 (eS _ _ _ H.t.1 (I.gW H.t.1 H.t.2 j0 (show j<_ by omega)).1.1 q)
theorem H8{c:Int}(hs:(aq m u).2.1=1)(hc:c=2\/c=3) :
  eY (bJ m u ((aq m u).1,c,(aq m u).2.2)) n time own/\(∀h,bW m n h->bW (bJ m u ((aq m u).1,c,(aq m u).2.2)) n h)/\
  (∀p:Int,0<=p->p<20->fZ (bJ m u ((aq m u).1,c,(aq m u).2.2)) p=if c=2/\wd m p=dN u (aq m u).1 then (jI (aq m u).2.2.1 p).2.2.1 else fZ m p):=by
 have mu:=I.dy;have hd:∀t:Int,0<=t->aq (bJ m u ((aq m u).1,c,(aq m u).2.2)) t=if t=u then ((aq m u).1,c,(aq m u).2.2) else aq m t:=fun t t0=>n7 (by omega) t0
 have ua:∀t:Int,0<=t->(aq (bJ m u ((aq m u).1,c,(aq m u).2.2)) t).1=(aq m t).1:=by
  intro t t0;rw[hd t t0];split
  .next h=>rw[h]
  .rfl
 have Uz:∀t:Int,0<=t->(aq (bJ m u ((aq m u).1,c,(aq m u).2.2)) t).2.2=(aq m t).2.2:=by
  intro t t0;rw[hd t t0];split
  .next h=>rw[h]
  .rfl
 have Af:∀t:Int,0<=t->(aq (bJ m u ((aq m u).1,c,(aq m u).2.2)) t).2.1=if t=u then c else (aq m t).2.1:=by intro t t0;rw[hd t t0];split<;>rfl
 refine⟨⟨I.len,by rw[HB];exact I.dy,?_,?_,?_,?_,?_⟩,?_,?_⟩
 .intro t t0 t1;rw[hd t t0];have D:=I.dz t t0 t1;split
  .next h=>subst h;have hq:=I.I7 t0 t1 (by omega);exact⟨D.z7,D.len,D.dS,D.seq,⟨fun e=>by dsimp only at e;omega,fun _=>by dsimp only;omega⟩,D.rl⟩
  .exact D
 .intro p p0 p1;rcases I.word p p0 p1 with h | ⟨v,a,b,c',d,i,e⟩
  .exact .inl h
  .refine .inr ⟨v,a,b,c',?_,i,?_⟩
   .rw[ua v a];exact d
   .rw[Uz v a];exact e
 .intro t t0 t1 e;rw[Af t t0]at e;split at e
  .omega
  .exact I.jP t t0 t1 e
 .intro t t0 t1 e;rw[ua t t0];exact I.kX t t0 t1 e
 .intro t t0 t1 e;rw[Af t t0]at e;split at e
  .omega
  .rw[Uz t t0,ua t t0];exact I.pre t t0 t1 e
 .intro h H;have h0:=H.t.1;have oW:=H.seq;refine⟨H.t,by rw[ua _ h0];exact H.seq,H.rY,H.fin,fun e=>?_⟩;rw[ua _ h0]at e;obtain⟨a,b,x,y⟩:=H.cur e;rw[Uz _ h0,Af _ h0];refine⟨a,b,fun hs'=>?_,fun hs'=>?_⟩
  .by_cases hu:h.1=u
   .rw[aj hu]at hs';omega
   .rw[af hu]at hs';exact x hs'
  .by_cases hu:h.1=u
   .have:=(x (by rw[hu];exact hs)).1;intro i i0 i1;omega
   .rw[af hu]at hs';exact y hs'
 .intro p p0 p1;rcases I.word p p0 p1 with h | ⟨v,a,b,c',d,i,i0,i1,e⟩
  .rw[af (fun q=>vk h.1 u0 q.2),u9 (m:=m) h.1,u9 (m:=bJ m u _) h.1];rfl
  .rw[zS (m:=m) a d,zS (m:=bJ m u _) a (by rw[ua v a];exact d),Af v a,Uz v a];by_cases hv:v=u
   .subst hv;rw[aj rfl,hs,af (show ¬ (1:Int)=2 by decide)];by_cases c2:c=2
    .rw[aj c2,aj ⟨c2,d⟩]
    .rw[af c2,af (fun q=>c2 q.1)]
   .rw[af hv,af (show ¬ (c=2/\_) from fun q=>hv (tI (d.symm.trans q.2)).1)]
end
theorem akU{m:aS}{n:Nat}{time:Int}{own lX:Int->Prop}(I:eY m n time own){u:Int}(u0:0<=u)(u1:u<n)(hno:¬ own u)(ho:lX u)(Ld:∀t:Int,0<=t->t≠u->(own t↔lX t)){E:List ez}{r:fD}
  (hE:lM E) (hl:E.length<=8) (hr:∀e∈E,(0<=e.1/\e.1<20)/\(0<=e.2.1/\e.2.1<=1000)/\(0<=e.2.2.1/\e.2.2.1<=1000)) (ht:(aq m u).1+1<=time) (hrl:r.2.1.length<=4) :
  eY (bJ m u ((aq m u).1+1,1,E,r,())) n time lX/\(∀h,bW m n h->bW (bJ m u ((aq m u).1+1,1,E,r,())) n h)/\
  (∀p:Int,0<=p->p<20->fZ (bJ m u ((aq m u).1+1,1,E,r,())) p=fZ m p):=by
 have mu:=I.dy;have hd:∀t:Int,0<=t->aq (bJ m u ((aq m u).1+1,1,E,r,())) t=if t=u then ((aq m u).1+1,1,E,r,()) else aq m t:=fun t t0=>n7 (by omega) t0
 have Ag:=(hd u u0).trans (aj rfl);have jg:∀t:Int,0<=t->t≠u->aq (bJ m u ((aq m u).1+1,1,E,r,())) t=aq m t:=fun t t0 h=>(hd t t0).trans (af h);have Xp:=fun {p:Int} (p0:0<=p) (p1:p<20) (s:Int)=>Rq I u0 hno p0 p1 s;have D:=I.dz u u0 u1;refine⟨⟨I.len,by rw[HB];exact I.dy,?_,?_,?_,?_,?_⟩,?_,?_⟩
 .intro t t0 t1;by_cases h:t=u
  .subst h;rw[Ag];have:=D.seq;exact⟨hE,hl,hr,⟨by dsimp only;omega,ht⟩,⟨fun e=>by dsimp only at e;omega,fun _=>by dsimp only;omega⟩,hrl⟩
  .rw[jg t t0 h];exact I.dz t t0 t1
 .intro p p0 p1;rcases I.word p p0 p1 with h | ⟨v,a,b,c',d,i,e⟩
  .exact .inl h
  .have hv:v≠u:=fun q=>hno (q ▸ c');refine .inr ⟨v,a,b,(Ld v a hv).1 c',?_,i,?_⟩
   .rw[jg v a hv];exact d
   .rw[jg v a hv];exact e
 .intro t t0 t1 e;by_cases h:t=u
  .rw[h];exact ho
  .rw[jg t t0 h]at e;exact(Ld t t0 h).1 (I.jP t t0 t1 e)
 .intro t t0 t1 e;have:=D.seq;by_cases h:t=u
  .rw[h,Ag];dsimp only;omega
  .rw[jg t t0 h];exact I.kX t t0 t1 ((Ld t t0 h).2 e)
 .intro t t0 t1 e i j i0 ij j1 hj;by_cases h:t=u
  .subst h;rw[Ag]at hj j1;dsimp only at hj j1;have:=hr _ (L2 (show 0<=j by omega) j1);exact absurd hj (Xp this.1.1 this.1.2 _)
  .rw[jg t t0 h]at e j1 hj⊢;exact I.pre t t0 t1 e i j i0 ij j1 hj
 .intro h H;have hs:=H.seq;by_cases hu:h.1=u
  .have hs':=H.seq;rw[hu]at hs';refine⟨H.t,by rw[hu,Ag];dsimp only;omega,H.rY,H.fin,fun e=>?_⟩;rw[hu,Ag]at e;dsimp only at e;omega
  .refine⟨H.t,by rw[jg _ H.t.1 hu];exact H.seq,H.rY,H.fin,?_⟩;rw[jg _ H.t.1 hu];exact H.cur
 .intro p p0 p1;rcases I.word p p0 p1 with h | ⟨v,a,b,c',d,i,e⟩
  .rw[u9 (m:=m) h.1,u9 (m:=bJ m u _) h.1];rfl
  .have hv:v≠u:=fun q=>hno (q ▸ c');rw[zS (m:=m) a d,zS (m:=bJ m u _) a (by rw[jg v a hv];exact d),jg v a hv]
def ay(l:List gi)(k:Int):gi:=l.getD k.toNat dC
def wj(l:List gi)(t:Int):Nat:=(l.filter fun c=>decide (c.1=t/\0<=c.2.2.2.2.1)).length
structure DP (c:gi) (n:Nat) (time:Int):Prop where
 t:0<=c.1/\c.1<n
 op:di c.2.1=true
 start:0<=c.2.2.1/\c.2.2.1<=time
 qG:c.2.2.2.1 = -1\/c.2.2.1<=c.2.2.2.1/\c.2.2.2.1<=time
 fin:c.2.2.2.2.1 = -1\/0<=c.2.2.2.1/\c.2.2.2.1<=c.2.2.2.2.1/\c.2.2.2.2.1<=time
 len:c.2.2.2.2.2.1.2.1.length<=4
structure f8 (l:List gi) (t k:Int):Prop where
 dS:0<=k/\k<l.length
 t:(ay l k).1=t
 fin:(ay l k).2.2.2.2.1 = -1
structure gn (l:List gi) (ord:List Int) (n:Nat) (time:Int) (on:Int->Bool) (pc:Int->Int) (op:Int->cL) (yes:Int->Option fD):Prop where
 c:∀k:Int,0<=k->k<l.length->DP (ay l k) n time
 before:∀j k:Int,0<=j->j<k->k<l.length->(ay l j).1=(ay l k).1->0<=(ay l j).2.2.2.2.1/\(ay l j).2.2.2.2.1<(ay l k).2.2.1
 cnt:∀t:Int,0<=t->t<n->(wj l t:Int)=pc t
 jP:∀t:Int,0<=t->t<n->on t=true->∃k,f8 l t k/\(ay l k).2.1=op t
 off:∀t:Int,0<=t->t<n->on t=false->∀k:Int,0<=k->k<l.length->(ay l k).1=t->0<=(ay l k).2.2.2.2.1
 qG:∀t k:Int,0<=t->t<n->f8 l t k->(yes t=none->(ay l k).2.2.2.1 = -1)/\(∀r,yes t=some r->0<=(ay l k).2.2.2.1/\(ay l k).2.2.2.2.2.1=r)
 gK:∀k∈ord,0<=k/\k<l.length/\0<=(ay l k).2.2.2.1
 nodup:ord.Nodup
 sort:ord.Pairwise fun a b=>(ay l a).2.2.2.1<=(ay l b).2.2.2.1
 all:∀k:Int,0<=k->k<l.length->0<=(ay l k).2.2.2.1->k∈ord
theorem HI{l:List gi}{c:gi}{k:Int}(h:0<=k):ay (l++[c]) k=if k<l.length then ay l k else if k=l.length then c else dC:=by
 unfold ay;simp only[FY,List.getElem?_append];by_cases h1:k<l.length
 .rw[aj (by omega),aj h1]
 .rw[af (by omega),af h1];by_cases h2:k=l.length
  .rw[aj h2,show k.toNat-l.length=0 by omega];rfl
  .rw[af h2];have:k.toNat-l.length≠0:=by omega
   obtain⟨q,hq⟩:=Nat.exists_eq_succ_of_ne_zero this;rw[hq];rfl
theorem DF{l:List gi}{c:gi}{i k:Int}(hi:0<=i/\i<l.length)(h:0<=k):ay (l.set i.toNat c) k=if k=i then c else ay l k:=by
 unfold ay;rw[LX];by_cases h1:k=i
 .subst h1;rw[aj ⟨rfl,by omega⟩,aj rfl]
 .rw[af (by omega),af h1]
theorem QS(l:List gi)(c:gi)(t:Int):wj (l++[c]) t=wj l t+(if c.1=t/\0<=c.2.2.2.2.1 then 1 else 0):=by
 unfold wj;rw[List.filter_append,cT];by_cases h:c.1=t/\0<=c.2.2.2.2.1
 .rw[aj h];simp[h]
 .rw[af h,show List.filter (fun c=>decide (c.1=t/\0<=c.2.2.2.2.1)) [c]=[] by simp only[Cd,List.filter_nil];rw[b7 h];rfl];rfl
theorem QT(l:List gi)(c:gi)(t:Int):∀(i:Nat)(h:i<l.length),wj (l.set i c) t+(if l[i].1=t/\0<=l[i].2.2.2.2.1 then 1 else 0)=wj l t+(if c.1=t/\0<=c.2.2.2.2.1 then 1 else 0):=by
 induction l with
 | nil=>intro i h;simp at h
 | cons a l ih=>
  intro i h;have hc:∀(x:gi)(l:List gi),wj (x::l) t=(if x.1=t/\0<=x.2.2.2.2.1 then 1 else 0)+wj l t:=by
   intro x l;unfold wj;rw[Cd];by_cases hx:x.1=t/\0<=x.2.2.2.2.1
   .rw[aj hx,bw hx,aj rfl,ct];omega
   .rw[af hx,b7 hx,af (by simp)];omega
  cases i with
  | zero=>simp only[B9,SM];rw[hc,hc];omega
  | succ i=>simp only[FL,SL];have:=ih i (by simpa using h);rw[hc,hc];omega
section
variable {l:List gi} {ord:List Int} {n:Nat} {time:Int} {on:Int->Bool} {pc:Int->Int} {op:Int->cL} {yes:Int->Option fD} (I:gn l ord n time on pc op yes)
include I
theorem gn.uniq{t i k:Int}(hi:f8 l t i)(hk:f8 l t k):i=k:=by
 rcases Ca i k with h | h | h
 .have:=(I.before i k hi.dS.1 h hk.dS.2 (hi.t.trans hk.t.symm)).1;have:=hi.fin;omega
 .exact h
 .have:=(I.before k i hk.dS.1 h hi.dS.2 (hk.t.trans hi.t.symm)).1;have:=hk.fin;omega
theorem gn.tA{t k:Int}(hk:f8 l t k):∀j:Nat,j<=l.length->qU l t j=if k<j then k else -1
 | 0,_=>by rw[af (by have:=hk.dS;omega)];rfl
 | j+1,hj=>by
  simp only[qU];by_cases h:(l.getD j dC).1=t/\(l.getD j dC).2.2.2.2.1<0
  .rw[aj h];have h1:=(I.c (j:Int) (by omega) (by omega)).fin;have e:ay l (j:Int)=l.getD j dC:=by unfold ay;rw[eE]
   rw[e]at h1;have:f8 l t (j:Int):=⟨⟨by omega,by omega⟩,by rw[e];exact h.1,by rw[e];omega⟩
   have:=I.uniq this hk;rw[aj (by omega)];exact this
  .rw[af h,gn.tA hk j (by omega)];by_cases h2:k<j
   .rw[aj h2,aj (by omega)]
   .rw[af h2,af];intro h3;have e:k=(j:Int):=by omega
    have h4:=hk.t;have h5:=hk.fin
    rw[e]at h4 h5;unfold ay at h4 h5;rw[eE]at h4 h5;exact h ⟨h4,by omega⟩
theorem gn.nk{t k:Int}(hk:f8 l t k):kI l t=k:=by unfold kI;rw[I.tA hk _ (cq _),aj hk.dS.2]
theorem gn.same{on':Int->Bool}{Jt:Int->Int}{op':Int->cL}{oe:Int->Option fD}{time':Int}(ht:time<=time')
  (h:∀t:Int,0<=t->t<n->on' t=on t/\Jt t=pc t/\op' t=op t/\oe t=yes t):gn l ord n time' on' Jt op' oe where
 c:=fun k a b=>by
  have:=I.c k a b;exact⟨this.t,this.op,⟨this.start.1,by have:=this.start.2;omega⟩,this.qG.imp id fun q=>⟨q.1,by omega⟩,this.fin.imp id fun q=>⟨q.1,q.2.1,by omega⟩,this.len⟩
 before:=I.before
 cnt:=fun t a b=>by rw[(h t a b).2.1];exact I.cnt t a b
 jP:=fun t a b e=>by rw[(h t a b).2.2.1];exact I.jP t a b (by rw[<-(h t a b).1];exact e)
 off:=fun t a b e=>I.off t a b (by rw[<-(h t a b).1];exact e)
 qG:=fun t k a b hk=>by rw[(h t a b).2.2.2];exact I.qG t k a b hk
 gK:=I.gK
 nodup:=I.nodup
 sort:=I.sort
 all:=I.all
theorem gn.zl{u:Int}(u0:0<=u)(u1:u<n)(hoff:on u=false)(hop:di (op u)=true)(hy:yes u=none){on':Int->Bool}(oD:on' u=true)(w_:∀t:Int,0<=t->t≠u->on' t=on t)(ht:0<=time) :
  gn (l++[(u,op u,time+1,-1,-1,(0,[],()),())]) ord n (time+1) on' pc op yes:=by
 have hlen:(l++[((u,op u,time+1,-1,-1,(0,[],()),()):gi)]).length=l.length+1:=by simp
 have hg:∀k:Int,0<=k->k<l.length->ay (l++[(u,op u,time+1,-1,-1,(0,[],()),())]) k=ay l k:=fun k a b=>by rw[HI a,aj b]
 have hn:ay (l++[(u,op u,time+1,-1,-1,(0,[],()),())]) l.length=(u,op u,time+1,-1,-1,(0,[],()),()):=by rw[HI (by omega),af (by omega),aj rfl]
 have hold:∀t k,f8 (l++[(u,op u,time+1,-1,-1,(0,[],()),())]) t k->(k<l.length/\f8 l t k)\/(k=l.length/\t=u):=by
  intro t k hk;have hk2:=hk.dS;rw[hlen]at hk2;by_cases h:k<l.length
  .have h1:=hk.t;have h2:=hk.fin
   rw[hg k hk2.1 h]at h1 h2;exact .inl ⟨h,⟨hk2.1,h⟩,h1,h2⟩
  .have e:k=l.length:=by omega
   have h1:=hk.t;rw[e,hn]at h1;exact .inr ⟨e,h1.symm⟩
 refine⟨?_,?_,?_,?_,?_,?_,?_,I.nodup,?_,?_⟩
 .intro k a b;rw[hlen]at b;by_cases h:k<l.length
  .rw[hg k a h];have:=I.c k a h;exact⟨this.t,this.op,⟨this.start.1,by have:=this.start.2;omega⟩,this.qG.imp id fun q=>⟨q.1,by omega⟩,this.fin.imp id fun q=>⟨q.1,q.2.1,by omega⟩,this.len⟩
  .rw[show k=(l.length:Int) by omega,hn];exact⟨⟨u0,u1⟩,hop,⟨by dsimp only;omega,by dsimp only;omega⟩,.inl rfl,.inl rfl,by simp⟩
 .intro j k a b d e;rw[hlen]at d;have hj:=hg j a (by omega);by_cases h:k<l.length
  .have hk:=hg k (by omega) h;rw[hj,hk]at e;rw[hj,hk];exact I.before j k a b h e
  .have ek:k=(l.length:Int):=by omega
   rw[ek,hn,hj]at e;rw[ek,hn,hj];dsimp only at e⊢;have h1:=I.off u u0 u1 hoff j a (by omega) e;have h2:=(I.c j a (by omega)).fin;exact⟨by omega,by omega⟩
 .intro t a b;rw[QS,af (fun q=>by have:=q.2;dsimp only at this;omega),qS];exact I.cnt t a b
 .intro t a b e;by_cases h:t=u
  .subst h;exact⟨l.length,⟨⟨by omega,by omega⟩,by rw[hn],by rw[hn]⟩,by rw[hn]⟩
  .rw[w_ t a h]at e;obtain⟨k,hk,h2⟩:=I.jP t a b e;exact⟨k,⟨⟨hk.dS.1,by have:=hk.dS.2;omega⟩,by rw[hg k hk.dS.1 hk.dS.2];exact hk.t,by rw[hg k hk.dS.1 hk.dS.2];exact hk.fin⟩,by rw[hg k hk.dS.1 hk.dS.2];exact h2⟩
 .intro t a b e k k0 k1 hk;have hne:t≠u:=fun q=>by rw[q,oD]at e;exact absurd e (by simp)
  rw[hlen]at k1;by_cases h:k<l.length
  .rw[hg k k0 h] at *;exact I.off t a b (by rw[<-w_ t a hne];exact e) k k0 h hk
  .rw[show k=(l.length:Int) by omega,hn]at hk;exact absurd hk.symm hne
 .intro t k a b hk;rcases hold t k hk with⟨h,h2⟩ | ⟨rfl,rfl⟩
  .rw[hg k hk.dS.1 h];exact I.qG t k a b h2
  .rw[hn,hy];exact⟨fun _=>rfl,fun r q=>(by cases q)⟩
 .intro k hk;have:=I.gK k hk;rw[hg k this.1 this.2.1];exact⟨this.1,by omega,this.2.2⟩
 .exact I.sort.imp_of_mem fun {a b} ha hb hab=>by
   have h1:=I.gK a ha;have h2:=I.gK b hb
   rw[hg a h1.1 h1.2.1,hg b h2.1 h2.2.1];exact hab
 .intro k a b e;rw[hlen]at b;by_cases h:k<l.length
  .rw[hg k a h]at e;exact I.all k a h e
  .rw[show k=(l.length:Int) by omega,hn]at e;dsimp only at e;omega
theorem gn.so{u k:Int}(u0:0<=u)(u1:u<n)(hk:f8 l u k)(hy:yes u=none){r:fD}(hr:r.2.1.length<=4){oe:Int->Option fD}(h1:oe u=some r)(h2:∀t:Int,0<=t->t≠u->oe t=yes t) :
  gn (l.set k.toNat ((ay l k).1,(ay l k).2.1,(ay l k).2.2.1,time,(ay l k).2.2.2.2.1,r,())) (ord++[k]) n time on pc op oe:=by
 have k0:=hk.dS.1;have k1:=hk.dS.2;have Al:(ay l k).2.2.2.1 = -1:=(I.qG u k u0 u1 hk).1 hy;have kO:=hk.fin;have hc:=I.c k k0 k1;have hst:=hc.start;have hg:∀j:Int,0<=j->ay (l.set k.toNat ((ay l k).1,(ay l k).2.1,(ay l k).2.2.1,time,(ay l k).2.2.2.2.1,r,())) j=if j=k then ((ay l k).1,(ay l k).2.1,(ay l k).2.2.1,time,(ay l k).2.2.2.2.1,r,()) else ay l j:=fun j hj=>DF hk.dS hj
 have g1:∀j:Int,0<=j->(ay (l.set k.toNat ((ay l k).1,(ay l k).2.1,(ay l k).2.2.1,time,(ay l k).2.2.2.2.1,r,())) j).1=(ay l j).1:=fun j hj=>by rw[hg j hj];split<;>simp_all
 have g2:∀j:Int,0<=j->(ay (l.set k.toNat ((ay l k).1,(ay l k).2.1,(ay l k).2.2.1,time,(ay l k).2.2.2.2.1,r,())) j).2.1=(ay l j).2.1:=fun j hj=>by rw[hg j hj];split<;>simp_all
 have g3:∀j:Int,0<=j->(ay (l.set k.toNat ((ay l k).1,(ay l k).2.1,(ay l k).2.2.1,time,(ay l k).2.2.2.2.1,r,())) j).2.2.1=(ay l j).2.2.1:=fun j hj=>by rw[hg j hj];split<;>simp_all
 have g5:∀j:Int,0<=j->(ay (l.set k.toNat ((ay l k).1,(ay l k).2.1,(ay l k).2.2.1,time,(ay l k).2.2.2.2.1,r,())) j).2.2.2.2.1=(ay l j).2.2.2.2.1:=fun j hj=>by rw[hg j hj];split<;>simp_all
 have gk:=(hg k k0).trans (aj rfl);have go:∀j:Int,0<=j->j≠k->ay (l.set k.toNat ((ay l k).1,(ay l k).2.1,(ay l k).2.2.1,time,(ay l k).2.2.2.2.1,r,())) j=ay l j:=fun j hj oB=>(hg j hj).trans (af oB);have hkn:k∉ord:=fun q=>by have:=(I.gK k q).2.2;omega
 have tf:∀t j,f8 (l.set k.toNat ((ay l k).1,(ay l k).2.1,(ay l k).2.2.1,time,(ay l k).2.2.2.2.1,r,())) t j↔f8 l t j:=by
  intro t j;constructor
  .intro h;have hj:=h.dS.1;exact⟨by simpa using h.dS,by rw[<-g1 j hj];exact h.t,by rw[<-g5 j hj];exact h.fin⟩
  .intro h;have hj:=h.dS.1;exact⟨by simpa using h.dS,by rw[g1 j hj];exact h.t,by rw[g5 j hj];exact h.fin⟩
 refine⟨?_,?_,?_,?_,?_,?_,?_,?_,?_,?_⟩
 .intro j a b;rw[b8]at b;by_cases h:j=k
  .rw[h,gk];exact⟨hc.t,hc.op,hc.start,.inr ⟨hst.2,eD _⟩,.inl kO,hr⟩
  .rw[go j a h];exact I.c j a b
 .intro i j a b d e;rw[b8]at d;rw[g5 i a,g3 j (by omega)];exact I.before i j a b d (by rw[<-g1 i a,<-g1 j (by omega)];exact e)
 .intro t a b;have:=QT l ((ay l k).1,(ay l k).2.1,(ay l k).2.2.1,time,(ay l k).2.2.2.2.1,r,()) t k.toNat (by omega)
  have e:l[k.toNat]'(by omega)=ay l k:=by unfold ay;rw[qv]
  rw[e]at this;dsimp only at this;rw[<-I.cnt t a b];omega
 .intro t a b e;obtain⟨j,hj,h3⟩:=I.jP t a b e;exact⟨j,(tf t j).2 hj,by rw[g2 j hj.dS.1];exact h3⟩
 .intro t a b e j j0 j1 hj;rw[b8]at j1;rw[g5 j j0];exact I.off t a b e j j0 j1 (by rw[<-g1 j j0];exact hj)
 .intro t j a b hj;have hj':=(tf t j).1 hj;by_cases h:t=u
  .subst h;have e:=I.uniq hj' hk;subst e;rw[gk,h1];refine⟨fun q=>(by cases q),fun r' q=>?_⟩;cases q;exact⟨by dsimp only;omega,rfl⟩
  .have hne:j≠k:=fun q=>h (by rw[<-hj'.t,q,hk.t]);rw[go j hj'.dS.1 hne,h2 t a h];exact I.qG t j a b hj'
 .intro j hj;rw[b8];rcases bN.1 hj with h | h
  .have hj':=I.gK j h;rw[go j hj'.1 (fun q=>hkn (q ▸ h))];exact hj'
  .rw[d9]at h;subst h;rw[gk];exact⟨k0,k1,by dsimp only;omega⟩
 .rw[F_];exact⟨I.nodup,by simp,fun a ha b hb=>by rw[d9]at hb;rw[hb];exact fun q=>hkn (q ▸ ha)⟩
 .rw[yf];refine⟨I.sort.imp_of_mem fun {a b} ha hb hab=>?_,by simp,fun a ha b hb=>?_⟩
  .rw[go a (I.gK a ha).1 (fun q=>hkn (q ▸ ha)),go b (I.gK b hb).1 (fun q=>hkn (q ▸ hb))];exact hab
  .rw[d9]at hb;subst hb;have vK:=I.gK a ha;rw[go a vK.1 (fun q=>hkn (q ▸ ha)),gk];have:=(I.c a vK.1 vK.2.1).qG;dsimp only;omega
 .intro j a b e;rw[b8]at b;by_cases h:j=k
  .rw[h];exact List.mem_append_right _ e8
  .rw[go j a h]at e;exact B7 _ (I.all j a b e)
theorem gn.fin{u k:Int}(u0:0<=u)(u1:u<n)(hk:f8 l u k){r:fD}(hy:yes u=some r){on':Int->Bool}{Jt:Int->Int}{oe:Int->Option fD}(oD:on' u=false)(w_:∀t:Int,0<=t->t≠u->on' t=on t)
  (Aq:Jt u=pc u+1) (Xu:∀t:Int,0<=t->t≠u->Jt t=pc t) {op':Int->cL} (Ey:∀t:Int,0<=t->t≠u->op' t=op t) (h2:∀t:Int,0<=t->t≠u->oe t=yes t) :
  gn (l.set k.toNat ((ay l k).1,(ay l k).2.1,(ay l k).2.2.1,(ay l k).2.2.2.1,time,r,())) ord n time on' Jt op' oe:=by
 have k0:=hk.dS.1;have k1:=hk.dS.2;obtain⟨Al,hres⟩:=(I.qG u k u0 u1 hk).2 r hy;have kO:=hk.fin;have hc:=I.c k k0 k1;have hst:=hc.start;have jN:=hc.qG;have hg:∀j:Int,0<=j->ay (l.set k.toNat ((ay l k).1,(ay l k).2.1,(ay l k).2.2.1,(ay l k).2.2.2.1,time,r,())) j=if j=k then ((ay l k).1,(ay l k).2.1,(ay l k).2.2.1,(ay l k).2.2.2.1,time,r,()) else ay l j:=fun j hj=>DF hk.dS hj
 have g1:∀j:Int,0<=j->(ay (l.set k.toNat ((ay l k).1,(ay l k).2.1,(ay l k).2.2.1,(ay l k).2.2.2.1,time,r,())) j).1=(ay l j).1:=fun j hj=>by rw[hg j hj];split<;>simp_all
 have g2:∀j:Int,0<=j->(ay (l.set k.toNat ((ay l k).1,(ay l k).2.1,(ay l k).2.2.1,(ay l k).2.2.2.1,time,r,())) j).2.1=(ay l j).2.1:=fun j hj=>by rw[hg j hj];split<;>simp_all
 have g3:∀j:Int,0<=j->(ay (l.set k.toNat ((ay l k).1,(ay l k).2.1,(ay l k).2.2.1,(ay l k).2.2.2.1,time,r,())) j).2.2.1=(ay l j).2.2.1:=fun j hj=>by rw[hg j hj];split<;>simp_all
 have g4:∀j:Int,0<=j->(ay (l.set k.toNat ((ay l k).1,(ay l k).2.1,(ay l k).2.2.1,(ay l k).2.2.2.1,time,r,())) j).2.2.2.1=(ay l j).2.2.2.1:=fun j hj=>by rw[hg j hj];split<;>simp_all
 have gk:=(hg k k0).trans (aj rfl);have go:∀j:Int,0<=j->j≠k->ay (l.set k.toNat ((ay l k).1,(ay l k).2.1,(ay l k).2.2.1,(ay l k).2.2.2.1,time,r,())) j=ay l j:=fun j hj oB=>(hg j hj).trans (af oB);have tf:∀t j,f8 (l.set k.toNat ((ay l k).1,(ay l k).2.1,(ay l k).2.2.1,(ay l k).2.2.2.1,time,r,())) t j->j≠k/\f8 l t j:=by
  intro t j h;have hj:=h.dS.1;have hne:j≠k:=fun q=>by have:=h.fin;rw[q,gk]at this;dsimp only at this;omega
  have h1:=h.t;have h3:=h.fin
  rw[go j hj hne]at h1 h3;exact⟨hne,by simpa using h.dS,h1,h3⟩
 refine⟨?_,?_,?_,?_,?_,?_,?_,I.nodup,?_,?_⟩
 .intro j a b;rw[b8]at b;by_cases h:j=k
  .rw[h,gk];have:=hc.len;rw[hres]at this;exact⟨hc.t,hc.op,hc.start,hc.qG,.inr ⟨Al,by dsimp only;omega,eD _⟩,this⟩
  .rw[go j a h];exact I.c j a b
 .intro i j a b d e;rw[b8]at d;rw[g1 i a,g1 j (by omega)]at e;rw[g3 j (by omega)];by_cases h:i=k
  .subst h;have:=(I.before i j a b d e).1;omega
  .rw[go i a h];exact I.before i j a b d e
 .intro t a b;have:=QT l ((ay l k).1,(ay l k).2.1,(ay l k).2.2.1,(ay l k).2.2.2.1,time,r,()) t k.toNat (by omega)
  have e:l[k.toNat]'(by omega)=ay l k:=by unfold ay;rw[qv]
  have hA:¬ ((ay l k).1=t/\0<=(ay l k).2.2.2.2.1):=fun q=>by have:=q.2;omega
  rw[e,af hA]at this;dsimp only at this;have C8:0<=time:=by omega
  have hcn:=I.cnt t a b;by_cases h:t=u
  .subst h;rw[aj ⟨hk.t,C8⟩]at this;rw[Aq];omega
  .have hB:¬ ((ay l k).1=t/\0<=time):=fun q=>h (q.1.symm.trans hk.t);rw[af hB]at this;rw[Xu t a h];omega
 .intro t a b e;have hne:t≠u:=fun q=>by rw[q,oD]at e;exact absurd e (by simp)
  rw[w_ t a hne]at e;obtain⟨j,hj,h3⟩:=I.jP t a b e;have oB:j≠k:=fun q=>hne (by rw[<-hj.t,q,hk.t]);exact⟨j,⟨by simpa using hj.dS,by rw[go j hj.dS.1 oB];exact hj.t,by rw[go j hj.dS.1 oB];exact hj.fin⟩,by rw[go j hj.dS.1 oB,Ey t a hne];exact h3⟩
 .intro t a b e j j0 j1 hj;rw[b8]at j1;rw[g1 j j0]at hj;by_cases h:j=k
  .rw[h,gk];dsimp only;omega
  .rw[go j j0 h];by_cases hu:t=u
   .subst hu;have hn:=hc;rcases(I.c j j0 j1).fin with q | q
    .exact absurd (I.uniq ⟨⟨j0,j1⟩,hj,q⟩ hk) h
    .omega
   .exact I.off t a b (by rw[<-w_ t a hu];exact e) j j0 j1 hj
 .intro t j a b hj;obtain⟨hne,hj'⟩:=tf t j hj;have hu:t≠u:=fun q=>hne (I.uniq (q ▸ hj') hk);rw[go j hj'.dS.1 hne,h2 t a hu];exact I.qG t j a b hj'
 .intro j hj;rw[b8];have hj':=I.gK j hj;rw[g4 j hj'.1];exact hj'
 .exact I.sort.imp_of_mem fun {a b} ha hb hab=>by
   rw[g4 a (I.gK a ha).1,g4 b (I.gK b hb).1];exact hab
 .intro j a b e;rw[b8]at b;rw[g4 j a]at e;exact I.all j a b e
end
inductive iG (l:List gi):qp->List Int->qp->Prop
 | nil (r:qp):iG l r [] r
 | snoc {r s:qp} {ks:List Int} {k:Int}:iG l r ks s->aW s->Out s (ay l k).2.1 (ay l k).2.2.2.2.2.1.1 (ay l k).2.2.2.2.2.1.2.1->iG l r (ks++[k]) (jj s (ay l k).2.1 (ay l k).2.2.2.2.2.1.1)
theorem iG.same{l l':List gi}{r:qp}{ks:List Int}{s:qp}(h:iG l r ks s):(∀k∈ks,(ay l' k).2.1=(ay l k).2.1/\(ay l' k).2.2.2.2.2.1=(ay l k).2.2.2.2.2.1)->iG l' r ks s:=by
 induction h with
 | nil=>intro _;exact .nil _
 | @snoc s ks k _ hs ho ih=>intro hl;have h1:=hl k (by simp);have:=iG.snoc (l:=l') (k:=k) (ih fun j hj=>hl j (B7 _ hj)) hs (by rw[h1.1,h1.2];exact ho);rw[h1.1,h1.2]at this;exact this
structure jv (m:aS) (n:Nat) (x:cU) (t:Int):Prop where
 ops:x.1.length<=4/\∀o∈x.1,di o=true
 pc:0<=x.2.1/\x.2.1<=x.1.length
 on:x.2.2.1=true->x.2.1<x.1.length
 off:x.2.2.1=false->x.2.2.2.1=[]/\x.2.2.2.2.1=[]
 got:sq x.2.2.2.1
 st:x.2.2.2.2.1=[]\/(∃h,x.2.2.2.2.1=[h])\/∃h h',x.2.2.2.2.1=[h,h']/\h.1=t
 d6:∀h∈x.2.2.2.2.1,bW m n h
 own:∀h∈x.2.2.2.2.1,h.1=t->h.2.1=(aq m t).1
 along:x.2.2.1=true->qM x.2.2.2.1 (aV x)
 read:x.2.2.1=true->bC x t=false->∃q B,path (dK x.2.2.2.1) (prog (aV x))=g6 x.2.2.2.1++q::B
 plan:bC x t=true->path (dK x.2.2.2.1) (prog (aV x))=g6 x.2.2.2.1/\mM (aV x) x.2.2.2.1=none/\(aq m t).2.2.1=dJ (aV x) x.2.2.2.1/\(aq m t).2.2.2.1=eH (aV x) x.2.2.2.1
def bx(m:aF)(t:Int):Prop:=bC (ai m t) t=true
def m3(m:aF)(t:Int):Option fD:=if bC (ai m t) t=true/\(aq m.1 t).2.1=2 then some (aq m.1 t).2.2.2.1 else none
structure Inv (m:aF):Prop where
 n:1<=m.2.1.length/\m.2.1.length<=3
 time:0<=m.2.2.1
 mem:eY m.1 m.2.1.length m.2.2.1 (bx m)
 th:∀t:Int,0<=t->t<m.2.1.length->jv m.1 m.2.1.length (ai m t) t
 call:gn m.2.2.2.1 m.2.2.2.2.1 m.2.1.length m.2.2.1 (fun t=>(ai m t).2.2.1) (fun t=>(ai m t).2.1) (fun t=>aV (ai m t)) (m3 m)
 rep:∃R,aW R/\iG m.2.2.2.1 m.2.2.2.2.2.1 m.2.2.2.2.1 R/\∀p:Int,0<=p->p<20->fZ m.1 p=b_ R p
 first:aW m.2.2.2.2.2.1
theorem HL(x:cU)(t:Int):bC x t=true↔∃h r,x.2.2.2.2.1=h::r/\h.1=t:=by
 unfold bC;cases x.2.2.2.2.1 with
 | nil=>simp
 | cons h r=>simp
theorem zT{x:cU}{t:Int}(h:x.2.2.2.2.1=[]):bC x t=false:=by unfold bC;rw[h]
theorem jv.At{m:aS}{n:Nat}{x:cU}{t:Int}(h:jv m n x t)(hs:x.2.2.2.2.1≠[]):x.2.2.1=true:=by
 cases ho:x.2.2.1 with
 | true=>rfl
 | false=>exact absurd (h.off ho).2 hs
theorem jv.o3{m:aS}{n:Nat}{x:cU}{t:Int}(h:jv m n x t)(hs:bC x t=true):x.2.2.1=true:=by refine h.At fun e=>?_;rw[zT e]at hs;cases hs
theorem jv.op{m:aS}{n:Nat}{x:cU}{t:Int}(h:jv m n x t)(ho:x.2.2.1=true):di (aV x)=true:=by have h1:=h.on ho;have h2:=h.pc;unfold aV;rw[qv (show x.2.1.toNat<x.1.length by omega)];exact h.ops.2 _ (eB _)
theorem jv.move{m m':aS}{n:Nat}{x:cU}{t:Int}(h:jv m n x t)(hh:∀k,bW m n k->bW m' n k)(h1:(aq m' t).1=(aq m t).1)(h2:(aq m' t).2.2=(aq m t).2.2):jv m' n x t where
 ops:=h.ops
 pc:=h.pc
 on:=h.on
 off:=h.off
 got:=h.got
 st:=h.st
 d6:=fun k hk=>hh k (h.d6 k hk)
 own:=fun k e1 e2=>by rw[h1];exact h.own k e1 e2
 along:=h.along
 read:=h.read
 plan:=fun e=>by rw[h2];exact h.plan e
theorem mK{x:cU}(h:x.2.2.2.2.1≠[]):au x∈x.2.2.2.2.1:=by have hl:0<x.2.2.2.2.1.length:=pF.2 h;unfold au;rw[qv (by omega)];exact eB _
theorem AU{m:aS}{n:Nat}{x:cU}{t:Int}(h:jv m n x t)(hs:x.2.2.2.2.1≠[]) :
  (x.2.2.2.2.1=[au x])\/∃h0,x.2.2.2.2.1=[h0,au x]/\h0.1=t:=by
 rcases h.st with e | ⟨k,e⟩ | ⟨k,k',e,h1⟩
 .exact absurd e hs
 .left;have:au x=k:=by unfold au;rw[e];rfl
  rw[this,e]
 .right;have:au x=k':=by unfold au;rw[e];rfl
  rw[this];exact⟨k,e,h1⟩
theorem JJ{m:aS}{n:Nat}{x:cU}{t:Int}(h:jv m n x t)(hs:x.2.2.2.2.1≠[])(ht:(au x).1=t):bC x t=true/\(au x).2.1=(aq m t).1:=by
 refine⟨?_,h.own _ (mK hs) ht⟩;rcases AU h hs with e | ⟨h0,e,a⟩
 .exact(HL x t).2 ⟨_,_,e,ht⟩
 .exact(HL x t).2 ⟨_,_,e,a⟩
def ja(x:cU)(s:List gx):cU:=(x.1,x.2.1,x.2.2.1,x.2.2.2.1,s,())
theorem jv.ja{m:aS}{n:Nat}{x:cU}{t:Int}(h:jv m n x t)(ho:x.2.2.1=true){s:List gx}(hst:s=[]\/(∃h,s=[h])\/∃h h',s=[h,h']/\h.1=t)(hh:∀k∈s,bW m n k)(hw:∀k∈s,k.1=t->k.2.1=(aq m t).1)
  (hb:bC (ja x s) t=bC x t):jv m n (ja x s) t where
 ops:=h.ops
 pc:=h.pc
 on:=h.on
 off:=fun e=>by rw[show(Go.G.ja x s).2.2.1=x.2.2.1 from rfl,ho]at e;cases e
 got:=h.got
 st:=hst
 d6:=hh
 own:=hw
 along:=h.along
 read:=fun e1 e2=>h.read e1 (by rw[<-hb];exact e2)
 plan:=fun e=>h.plan (by rw[<-hb];exact e)
theorem Bn{m:aF}(I:Inv m){t:Int}(t0:0<=t)(t1:t<m.2.1.length){a:aS}{x:cU}(hM:eY a m.2.1.length m.2.2.1 (bx (cA (cH m a) t x)))
  (zA:∀u:Int,0<=u->u<m.2.1.length->u≠t->(aq a u).1=(aq m.1 u).1/\(aq a u).2.2=(aq m.1 u).2.2) (hh:∀k,bW m.1 m.2.1.length k->bW a m.2.1.length k)
  (hx:jv a m.2.1.length x t) (hsame:x.1=(ai m t).1/\x.2.1=(ai m t).2.1/\x.2.2.1=(ai m t).2.2.1)
  (hyes:∀u:Int,0<=u->u<m.2.1.length->m3 (cA (cH m a) t x) u=m3 m u) (hv:∀p:Int,0<=p->p<20->fZ a p=fZ m.1 p):Inv (cA (cH m a) t x):=by
 have hl:(cA (cH m a) t x).2.1.length=m.2.1.length:=o5 _ _ _;have fM:∀u:Int,0<=u->ai (cA (cH m a) t x) u=if u=t then x else ai m u:=fun u hu=>qT (m:=cH m a) ⟨t0,t1⟩ hu
 refine⟨by rw[hl];exact I.n,I.time,by rw[hl];exact hM,?_,?_,?_,I.first⟩
 .intro u u0 u1;rw[hl]at u1⊢;rw[fM u u0];by_cases h:u=t
  .subst h;rw[aj rfl];exact hx
  .rw[af h];exact(I.th u u0 u1).move hh (zA u u0 u1 h).1 (zA u u0 u1 h).2
 .rw[hl];refine I.call.same (eD _) fun u u0 u1=>?_;have e:(ai (cA (cH m a) t x) u).1=(ai m u).1/\(ai (cA (cH m a) t x) u).2.1=(ai m u).2.1/\(ai (cA (cH m a) t x) u).2.2.1=(ai m u).2.2.1:=by
   rw[fM u u0];by_cases h:u=t
   .subst h;rw[aj rfl];exact hsame
   .rw[af h];exact⟨rfl,rfl,rfl⟩
  exact⟨e.2.2,e.2.1,by unfold aV;rw[e.1,e.2.1],hyes u u0 u1⟩
 .obtain⟨R,h1,h2,h3⟩:=I.rep;exact⟨R,h1,h2,fun p p0 p1=>(hv p p0 p1).trans (h3 p p0 p1)⟩
theorem MC{m:aF}{a:aS}{t u:Int}{x:cU}(t0:0<=t)(t1:t<m.2.1.length)(u0:0<=u)(hb:bC x t=bC (ai m t) t)(h1:(aq a u).2.1=2↔(aq m.1 u).2.1=2)(h2:(aq a u).2.2=(aq m.1 u).2.2) :
  m3 (cA (cH m a) t x) u=m3 m u:=by
 have e:bC (ai (cA (cH m a) t x) u) u=bC (ai m u) u:=by
  rw[qT (m:=cH m a) ⟨t0,t1⟩ u0];by_cases h:u=t
  .subst h;rw[aj rfl];exact hb
  .rw[af h];rfl
 unfold m3;rw[e,show(cA (cH m a) t x).1=a from rfl,h2];by_cases h:bC (ai m u) u=true/\(aq m.1 u).2.1=2
 .rw[aj h,aj ⟨h.1,h1.2 h.2⟩]
 .rw[af h,af fun q=>h ⟨q.1,h1.1 q.2⟩]
theorem Sk{m:aF}{a:aS}{t:Int}{x:cU}(t0:0<=t)(t1:t<m.2.1.length)(hb:bC x t=bC (ai m t) t)(u:Int)(u0:0<=u):bx m u↔bx (cA (cH m a) t x) u:=by
 unfold bx;rw[qT (m:=cH m a) ⟨t0,t1⟩ u0];by_cases h:u=t
 .subst h;rw[aj rfl,hb]
 .rw[af h];exact i7
theorem zX{m:aF}(I:Inv m){t:Int}(t0:0<=t)(t1:t<m.2.1.length)(ho:(ai m t).2.2.1=true){a:aS}{s:List gx}(hM:eY a m.2.1.length m.2.2.1 (bx m))
  (zA:∀u:Int,0<=u->u<m.2.1.length->(aq a u).1=(aq m.1 u).1/\(aq a u).2.2=(aq m.1 u).2.2/\((aq a u).2.1=2↔(aq m.1 u).2.1=2)) (hh:∀k,bW m.1 m.2.1.length k->bW a m.2.1.length k)
  (hst:s=[]\/(∃h,s=[h])\/∃h h',s=[h,h']/\h.1=t) (hhs:∀k∈s,bW a m.2.1.length k) (hw:∀k∈s,k.1=t->k.2.1=(aq m.1 t).1) (hb:bC (ja (ai m t) s) t=bC (ai m t) t)
  (hv:∀p:Int,0<=p->p<20->fZ a p=fZ m.1 p):Inv (cA (cH m a) t (ja (ai m t) s)):=by
 refine Bn I t0 t1 ?_ (fun u u0 u1 _=>⟨(zA u u0 u1).1,(zA u u0 u1).2.1⟩) hh ?_ ⟨rfl,rfl,rfl⟩ (fun u u0 u1=>MC t0 t1 u0 hb (zA u u0 u1).2.2 (zA u u0 u1).2.1) hv
 .exact hM.kW fun u u0 _=>Sk t0 t1 hb u u0
 .have:=(I.th t t0 t1).move hh (zA t t0 t1).1 (zA t t0 t1).2.1;exact this.ja ho hst hhs (fun k hk e=>by rw[(zA t t0 t1).1];exact hw k hk e) hb
theorem Nr{m a:aS}{n:Nat}{x:cU}{t:Int}(h:jv m n x t)(hs:x.2.2.2.2.1≠[])(hh:∀k,bW m n k->bW a n k){h':gx}(he:bW a n h')(hw:h'.1=t->h'.2.1=(aq m t).1)(hown:bC x t=false->h'.1≠t)
  (Lf:∀k,x.2.2.2.2.1=[k]->k.1=t->h'.1=t) :
  (x.2.2.2.2.1.set (x.2.2.2.2.1.length-1) h'=[]\/(∃k,x.2.2.2.2.1.set (x.2.2.2.2.1.length-1) h'=[k])\/∃k k',x.2.2.2.2.1.set (x.2.2.2.2.1.length-1) h'=[k,k']/\k.1=t)/\
  (∀k∈x.2.2.2.2.1.set (x.2.2.2.2.1.length-1) h',bW a n k)/\(∀k∈x.2.2.2.2.1.set (x.2.2.2.2.1.length-1) h',k.1=t->k.2.1=(aq m t).1)/\
  bC (ja x (x.2.2.2.2.1.set (x.2.2.2.2.1.length-1) h')) t=bC x t:=by
 rcases AU h hs with e | ⟨h0,e,e0⟩
 .have e2:x.2.2.2.2.1.set (x.2.2.2.2.1.length-1) h'=[h']:=by rw[e];rfl
  rw[e2];refine⟨.inr (.inl ⟨_,rfl⟩),fun k hk=>?_,fun k hk=>?_,?_⟩
  .rw[d9]at hk;rw[hk];exact he
  .rw[d9]at hk;rw[hk];exact hw
  .have b1:bC x t=decide ((au x).1=t):=by unfold bC;rw[e]
   have b2:bC (ja x [h']) t=decide (h'.1=t):=rfl;rw[b2];by_cases q:(au x).1=t
   .rw[b1,bw q,bw (Lf _ e q)]
   .rw[b1,b7 q]at hown⊢;exact b7 (hown rfl)
 .have e2:x.2.2.2.2.1.set (x.2.2.2.2.1.length-1) h'=[h0,h']:=by rw[e];rfl
  rw[e2];have hm0:h0∈x.2.2.2.2.1:=by rw[e];exact e8
  refine⟨.inr (.inr ⟨_,_,rfl,e0⟩),fun k hk=>?_,fun k hk=>?_,?_⟩
  .rcases bh.1 hk with rfl | hk
   .exact hh _ (h.d6 _ hm0)
   .rw[d9]at hk;rw[hk];exact he
  .rcases bh.1 hk with rfl | hk
   .exact h.own _ hm0
   .rw[d9]at hk;rw[hk];exact hw
  .have b2:bC (ja x [h0,h']) t=decide (h0.1=t):=rfl;have b1:bC x t=decide (h0.1=t):=by unfold bC;rw[e]
   rw[b1,b2]
theorem Nz{m:aS}{n:Nat}{x:cU}{t:Int}(h:jv m n x t)(hs:x.2.2.2.2.1≠[])(hne:(au x).1≠t) :
  (x.2.2.2.2.1.take (x.2.2.2.2.1.length-1)=[]\/(∃k,x.2.2.2.2.1.take (x.2.2.2.2.1.length-1)=[k])\/∃k k',x.2.2.2.2.1.take (x.2.2.2.2.1.length-1)=[k,k']/\k.1=t)/\
  (∀k∈x.2.2.2.2.1.take (x.2.2.2.2.1.length-1),bW m n k)/\(∀k∈x.2.2.2.2.1.take (x.2.2.2.2.1.length-1),k.1=t->k.2.1=(aq m t).1)/\
  bC (ja x (x.2.2.2.2.1.take (x.2.2.2.2.1.length-1))) t=bC x t:=by
 have hsub:∀k∈x.2.2.2.2.1.take (x.2.2.2.2.1.length-1),k∈x.2.2.2.2.1:=fun k hk=>List.mem_of_mem_take hk;refine⟨?_,fun k hk=>h.d6 k (hsub k hk),fun k hk=>h.own k (hsub k hk),?_⟩
 .rcases AU h hs with e | ⟨h0,e,e0⟩
  .left;rw[e];rfl
  .right;left;exact⟨h0,by rw[e];rfl⟩
 .rcases AU h hs with e | ⟨h0,e,e0⟩
  .have b1:bC x t=decide ((au x).1=t):=by unfold bC;rw[e]
   have e2:x.2.2.2.2.1.take (x.2.2.2.2.1.length-1)=[]:=by rw[e];rfl
   rw[e2,b1,b7 hne];rfl
  .have e2:x.2.2.2.2.1.take (x.2.2.2.2.1.length-1)=[h0]:=by rw[e];rfl
   have b1:bC x t=decide (h0.1=t):=by unfold bC;rw[e]
   rw[e2,b1];rfl
theorem MM{m:aS}{n:Nat}{x:cU}{t:Int}(h:jv m n x t){h':gx}(he:bW m n h')(hne:h'.1≠t)(hs:x.2.2.2.2.1=[]\/∃k,x.2.2.2.2.1=[k]/\k.1=t) :
  (x.2.2.2.2.1++[h']=[]\/(∃k,x.2.2.2.2.1++[h']=[k])\/∃k k',x.2.2.2.2.1++[h']=[k,k']/\k.1=t)/\
  (∀k∈x.2.2.2.2.1++[h'],bW m n k)/\(∀k∈x.2.2.2.2.1++[h'],k.1=t->k.2.1=(aq m t).1)/\bC (ja x (x.2.2.2.2.1++[h'])) t=bC x t:=by
 refine⟨?_,fun k hk=>?_,fun k hk Et=>?_,?_⟩
 .rcases hs with e | ⟨k,e,ek⟩
  .right;left;exact⟨h',by rw[e];rfl⟩
  .right;right;exact⟨k,h',by rw[e];rfl,ek⟩
 .rcases bN.1 hk with q | q
  .exact h.d6 k q
  .rw[d9]at q;rw[q];exact he
 .rcases bN.1 hk with q | q
  .exact h.own k q Et
  .rw[d9]at q;rw[q]at Et;exact absurd Et hne
 .rcases hs with e | ⟨k,e,ek⟩
  .rw[e,gA,zT e];show decide (h'.1=t)=false;exact b7 hne
  .have b1:bC x t=decide (k.1=t):=by unfold bC;rw[e]
   rw[b1,e];rfl
theorem RD{m:aF}{t:Int}(t0:0<=t)(t1:t<m.2.1.length):cA m t (ai m t)=m:=by
 have h:m.2.1.set t.toNat (ai m t)=m.2.1:=by unfold ai;rw[qv (show t.toNat<m.2.1.length by omega)];exact FE _
 unfold cA;rw[h]
theorem Mw{m:aS}{n:Nat}{x:cU}{t:Int}(h:jv m n x t)(hs:x.2.2.2.2.1≠[]):ki x (au x)=x:=by
 have hl:0<x.2.2.2.2.1.length:=pF.2 hs;have e:x.2.2.2.2.1.set (x.2.2.2.2.1.length-1) (au x)=x.2.2.2.2.1:=by unfold au;rw[qv (by omega)];exact FE _
 unfold ki;rw[e]
theorem Re{m:aS}{n:Nat}{time:Int}{own lX:Int->Prop}(I:eY m n time own){t:Int}(t0:0<=t)(t1:t<n)(hs:(aq m t).2.1≠1)(hc:∀i:Int,0<=i->i<(aq m t).2.2.1.length->wd m (qi (aq m t).2.2.1 i).1≠dN t (aq m t).1)
  (ho:∀u:Int,0<=u->u≠t->(own u↔lX u)) (hn:¬ lX t):eY m n time lX where
 len:=I.len
 dy:=I.dy
 dz:=I.dz
 word:=fun p p0 p1=>by
  rcases I.word p p0 p1 with h | ⟨u,a,b,c,d,i,i0,i1,e⟩
  .exact .inl h
  .have hu:u≠t:=by rintro rfl;exact hc i i0 i1 (by rw[e];exact d)
   exact .inr ⟨u,a,b,(ho u a hu).1 c,d,i,i0,i1,e⟩
 jP:=fun u a b c=>by
  have hu:u≠t:=fun e=>hs (by rw[<-e];exact c);exact(ho u a hu).1 (I.jP u a b c)
 kX:=fun u a b c=>by
  have hu:u≠t:=fun e=>hn (by rw[<-e];exact c);exact I.kX u a b ((ho u a hu).2 c)
 pre:=I.pre
theorem jv.rest{m:aS}{n:Nat}{x:cU}{t:Int}(h:jv m n x t):∀b:Bool,(b=true->x.2.1<x.1.length)->jv m n (x.1,x.2.1,b,[],[],()) t:=fun b hb=>
  { ops:=h.ops,pc:=h.pc,on:=hb,off:=fun _=>⟨rfl,rfl⟩,got:=fun g hg=>by simp at hg,st:=.inl rfl,d6:=fun k hk=>by simp at hk,own:=fun k hk=>by simp at hk,
    along:=fun _=>Q2 _,
    read:=fun e _=>by
      show ∃q B,path (dK []) (prog (aV (x.1,x.2.1,b,[],[],())))=[]++q::B;have ho:di (aV x)=true:=by have h1:=hb e;have h2:=h.pc;unfold aV;rw[qv (show x.2.1.toNat<x.1.length by omega)];exact h.ops.2 _ (eB _)
      have hk:=tL ho;have e2:aV (x.1,x.2.1,b,[],[],())=aV x:=rfl;rw[e2];generalize aV x=o at *;simp only[gA];unfold prog;by_cases k1:o.1=1
      . rw[aj k1];unfold sI;simp only[path];exact⟨_,_,rfl⟩
      rw[af k1];by_cases k2:o.1=2
      . rw[aj k2];unfold sJ;simp only[path];exact⟨_,_,rfl⟩
      rw[af k2];by_cases k3:o.1=3
      . rw[aj k3];unfold u7;simp only[path];exact⟨_,_,rfl⟩
      rw[af k3];by_cases k4:o.1=4
      . rw[aj k4];simp only[path];exact⟨_,_,rfl⟩
      rw[af k4];by_cases k5:o.1=5
      . rw[aj k5];simp only[path];exact⟨_,_,rfl⟩
      rw[af k5];by_cases k6:o.1=6
      . rw[aj k6];simp only[path];exact⟨_,_,rfl⟩
      rw[af k6];by_cases k7:o.1=7
      . rw[aj k7];unfold Cs;simp only[path];exact⟨_,_,rfl⟩
      rw[af k7];by_cases k8:o.1=8
      . rw[aj k8];simp only[path];exact⟨_,_,rfl⟩
      rw[af k8];by_cases k9:o.1=9
      . rw[aj k9];unfold yJ;simp only[path];exact⟨_,_,rfl⟩
      rw[af k9];by_cases js:o.1=10
      . rw[aj js];unfold v7;simp only[path];exact⟨_,_,rfl⟩
      . omega
    plan:=fun e=>by simp[bC]at e }
theorem M_{m:aF}{t:Int}(t0:0<=t)(t1:t<m.2.1.length){k:Int}{r:fD}{yes:Int->Option fD}
    (hn:1<=m.2.1.length/\m.2.1.length<=3) (ht:0<=m.2.2.1) (hM:eY m.1 m.2.1.length m.2.2.1 (bx (eg m t r))) (xo:∀u:Int,0<=u->u<m.2.1.length->jv m.1 m.2.1.length (ai m u) u) (oD:(ai m t).2.2.1=true)
    (hC:gn m.2.2.2.1 m.2.2.2.2.1 m.2.1.length m.2.2.1 (fun t=>(ai m t).2.2.1) (fun t=>(ai m t).2.1) (fun t=>aV (ai m t)) yes) (hk:f8 m.2.2.2.1 t k) (hy:yes t=some r) (hyo:∀u:Int,0<=u->u≠t->yes u=m3 m u)
    (hR:∃R,aW R/\iG m.2.2.2.1 m.2.2.2.2.2.1 m.2.2.2.2.1 R/\∀p:Int,0<=p->p<20->fZ m.1 p=b_ R p) (hf:aW m.2.2.2.2.2.1):Inv (eg m t r):=by
  have e:eg m t r=(m.1,m.2.1.set t.toNat ((ai m t).1,(ai m t).2.1+1,false,[],[],()),m.2.2.1,m.2.2.2.1.set k.toNat ((ay m.2.2.2.1 k).1,(ay m.2.2.2.1 k).2.1,(ay m.2.2.2.1 k).2.2.1,(ay m.2.2.2.1 k).2.2.2.1,m.2.2.1,r,()),m.2.2.2.2):=by unfold eg ir;rw[hC.nk hk,af (by have:=hk.dS;omega)];rfl
  have hl:(eg m t r).2.1.length=m.2.1.length:=by rw[e];simp
  have fM:∀u:Int,0<=u->ai (eg m t r) u=if u=t then ((ai m t).1,(ai m t).2.1+1,false,[],[],()) else ai m u:=fun u u0=>by
    have:=qT (m:=ir m t r) (u:=t) (t:=u) (x:=((ai m t).1,(ai m t).2.1+1,false,[],[],()));unfold eg;have h2:(ir m t r).2.1=m.2.1:=by unfold ir;split<;>rfl
    rw[this (by rw[h2];exact⟨t0,t1⟩) u0,zR h2 u]
  have hx:=xo t t0 t1;have Aq:=hx.pc;have hlt:=hx.on oD;refine⟨by rw[hl];exact hn,by rw[e];exact ht,by rw[hl];rw[show(eg m t r).2.2.1=m.2.2.1 by rw[e],show(eg m t r).1=m.1 by rw[e]];exact hM,?_,?_,?_,by rw[e];exact hf⟩
  . intro u u0 u1
    rw[hl]at u1⊢;rw[fM u u0,show(eg m t r).1=m.1 by rw[e]];by_cases h:u=t
    . subst h
      rw[aj rfl]
      exact { ops:=hx.ops,pc:=⟨by dsimp only;omega,by dsimp only;omega⟩,on:=fun q=>(by cases q),off:=fun _=>⟨rfl,rfl⟩,got:=fun g hg=>by simp at hg,st:=.inl rfl,d6:=fun k hk=>by simp at hk,own:=fun k hk=>by simp at hk,
              along:=fun _=>Q2 _,read:=fun q _=>(by cases q),plan:=fun q=>by simp[bC]at q }
    . rw[af h];exact xo u u0 u1
  . have e1:(eg m t r).2.2.2.1=m.2.2.2.1.set k.toNat ((ay m.2.2.2.1 k).1,(ay m.2.2.2.1 k).2.1,(ay m.2.2.2.1 k).2.2.1,(ay m.2.2.2.1 k).2.2.2.1,m.2.2.1,r,()):=by rw[e]
    have e2:(eg m t r).2.2.2.2.1=m.2.2.2.2.1:=by rw[e]
    have e3:(eg m t r).2.2.1=m.2.2.1:=by rw[e]
    rw[hl,e1,e2,e3];have hT:=(fM t t0).trans (aj rfl);have hO:∀u:Int,0<=u->u≠t->ai (eg m t r) u=ai m u:=fun u u0 h=>(fM u u0).trans (af h);refine hC.fin t0 t1 hk hy (by rw[hT]) (fun u u0 h=>by rw[hO u u0 h]) (by rw[hT]) (fun u u0 h=>by rw[hO u u0 h]) (fun u u0 h=>by rw[hO u u0 h]) (fun u u0 h=>?_);rw[hyo u u0 h];unfold m3;rw[hO u u0 h,show(eg m t r).1=m.1 by rw[e]]
  . obtain⟨R,h1,h2,h3⟩:=hR
    refine⟨R,h1,?_,by rw[show(eg m t r).1=m.1 by rw[e]];exact h3⟩;rw[e];refine h2.same fun j hj=>?_;have hj':=hC.gK j hj;dsimp only;rw[DF hk.dS hj'.1];by_cases h:j=k
    . rw[aj h,h];exact⟨rfl,((hC.qG t k t0 t1 hk).2 r hy).2.symm⟩
    . rw[af h];exact⟨rfl,rfl⟩
theorem aj8{m:aF}(I:Inv m){u:Int}(u0:0<=u)(u1:u<m.2.1.length)(hs:(aq m.1 u).2.1=1)(hall:∀i:Int,0<=i->i<(aq m.1 u).2.2.1.length->wd m.1 (qi (aq m.1 u).2.2.1 i).1=dN u (aq m.1 u).1)
  {R:qp} (hv:∀p:Int,0<=p->p<20->fZ m.1 p=b_ R p):(ai m u).2.2.2.1=fz R (aV (ai m u)):=by
 have hown:bx m u:=I.mem.jP u u0 u1 hs;have T:=I.th u u0 u1;have oD:=T.o3 hown;have ho:=T.op oD;obtain⟨hp,dF,hl,hr⟩:=T.plan hown;refine abV (Ka ho T.got (T.along oD)).1 hp fun g hg=>?_;obtain⟨e,he,e1,e2⟩:=(Bh ho T.got (T.along oD) hp dF).1 g hg;have Lo:=M1 ho T.got (T.along oD) hp dF e he;rw[<-hl]at he;obtain⟨i,i0,i1,hi⟩:=RS he;have hm:=hall i i0 i1;rw[hi]at hm;have:=zS u0 hm;rw[af (by omega),<-hi,A5 (I.mem.dz u u0 u1).z7 i0 i1,hi]at this;rw[<-e2,<-this,hv _ Lo.1.1 Lo.1.2,e1]
theorem akB{m:aF}(I:Inv m){u:Int}(u0:0<=u)(u1:u<m.2.1.length)(hs:(aq m.1 u).2.1=1)(hall:∀i:Int,0<=i->i<(aq m.1 u).2.2.1.length->wd m.1 (qi (aq m.1 u).2.2.1 i).1=dN u (aq m.1 u).1) :
  Inv (iD (cH m (bJ m.1 u ((aq m.1 u).1,2,(aq m.1 u).2.2))) u (aq m.1 u).2.2.2.1):=by
 have hown:bx m u:=I.mem.jP u u0 u1 hs;have T:=I.th u u0 u1;have oD:=T.o3 hown;have ho:=T.op oD;obtain⟨hp,dF,hl,hr⟩:=T.plan hown;obtain⟨k,hk,uf⟩:=I.call.jP u u0 u1 oD;obtain⟨R,hR,uj,hv⟩:=I.rep;have wX:=aj8 I u0 u1 hs hall hv;rw[wX]at dF hl hr;have xq:=abi hR ho dF;have hout:=acG hR ho dF;obtain⟨hM,hH,hval⟩:=H8 I.mem u0 u1 (c:=2) hs (.inl rfl);have mu:=I.mem.dy;have hd:∀v:Int,0<=v->aq (bJ m.1 u ((aq m.1 u).1,2,(aq m.1 u).2.2)) v=if v=u then ((aq m.1 u).1,2,(aq m.1 u).2.2) else aq m.1 v:=fun v v0=>n7 (by omega) v0
 have hC:kI m.2.2.2.1 u=k:=I.call.nk hk;have e:iD (cH m (bJ m.1 u ((aq m.1 u).1,2,(aq m.1 u).2.2))) u (aq m.1 u).2.2.2.1=(bJ m.1 u ((aq m.1 u).1,2,(aq m.1 u).2.2),m.2.1,m.2.2.1,
   m.2.2.2.1.set k.toNat ((ay m.2.2.2.1 k).1,(ay m.2.2.2.1 k).2.1,(ay m.2.2.2.1 k).2.2.1,m.2.2.1,(ay m.2.2.2.1 k).2.2.2.2.1,(aq m.1 u).2.2.2.1,()),m.2.2.2.2.1++[k],m.2.2.2.2.2):=by
  unfold iD;rw[show(cH m (bJ m.1 u ((aq m.1 u).1,2,(aq m.1 u).2.2))).2.2.2.1=m.2.2.2.1 from rfl,hC,af (by have:=hk.dS;omega)];rfl
 rw[e];have hyes:∀v:Int,0<=v->m3 (bJ m.1 u ((aq m.1 u).1,2,(aq m.1 u).2.2),m.2.1,m.2.2.1,
   m.2.2.2.1.set k.toNat ((ay m.2.2.2.1 k).1,(ay m.2.2.2.1 k).2.1,(ay m.2.2.2.1 k).2.2.1,m.2.2.1,(ay m.2.2.2.1 k).2.2.2.2.1,(aq m.1 u).2.2.2.1,()),m.2.2.2.2.1++[k],m.2.2.2.2.2) v=if v=u then some (aq m.1 u).2.2.2.1 else m3 m v:=by
  intro v v0;by_cases h:v=u
  .subst h;rw[aj rfl];show(if bC (ai m v) v=true/\(aq (bJ m.1 v ((aq m.1 v).1,2,(aq m.1 v).2.2)) v).2.1=2 then some (aq (bJ m.1 v ((aq m.1 v).1,2,(aq m.1 v).2.2)) v).2.2.2.1 else none)=_;rw[hd v v0,aj rfl,aj ⟨hown,rfl⟩]
  .rw[af h];show(if bC (ai m v) v=true/\(aq (bJ m.1 u ((aq m.1 u).1,2,(aq m.1 u).2.2)) v).2.1=2 then some (aq (bJ m.1 u ((aq m.1 u).1,2,(aq m.1 u).2.2)) v).2.2.2.1 else none)=_;rw[hd v v0,af h];rfl
 refine⟨I.n,I.time,hM,?_,?_,?_,I.first⟩
 .intro v v0 v1;refine(I.th v v0 v1).move hH ?_ ?_
  .show(aq (bJ m.1 u _) v).1=_;rw[hd v v0];split
   .next h=>rw[h]
   .rfl
  .show(aq (bJ m.1 u _) v).2.2=_;rw[hd v v0];split
   .next h=>rw[h]
   .rfl
 .exact I.call.so u0 u1 hk (by unfold m3;rw[af (by omega)]) (by rw[hr];exact MO _ _) ((hyes u u0).trans (aj rfl)) (fun v v0 h=>(hyes v v0).trans (af h))
 .have gk:ay (m.2.2.2.1.set k.toNat ((ay m.2.2.2.1 k).1,(ay m.2.2.2.1 k).2.1,(ay m.2.2.2.1 k).2.2.1,m.2.2.1,(ay m.2.2.2.1 k).2.2.2.2.1,(aq m.1 u).2.2.2.1,())) k=((ay m.2.2.2.1 k).1,(ay m.2.2.2.1 k).2.1,(ay m.2.2.2.1 k).2.2.1,m.2.2.1,(ay m.2.2.2.1 k).2.2.2.2.1,(aq m.1 u).2.2.2.1,()):=by rw[DF hk.dS hk.dS.1,aj rfl]
  have hkn:k∉m.2.2.2.2.1:=fun q=>by
   have h1:=(I.call.gK k q).2.2;have h2:=(I.call.qG u k u0 u1 hk).1 (by unfold m3;rw[af (by omega)]);omega
  have xh:iG (m.2.2.2.1.set k.toNat ((ay m.2.2.2.1 k).1,(ay m.2.2.2.1 k).2.1,(ay m.2.2.2.1 k).2.2.1,m.2.2.1,(ay m.2.2.2.1 k).2.2.2.2.1,(aq m.1 u).2.2.2.1,())) m.2.2.2.2.2.1 m.2.2.2.2.1 R:=by refine uj.same fun j hj=>?_;rw[DF hk.dS (I.call.gK j hj).1,af (fun q:j=k=>hkn (by rw[<-q];exact hj))];exact⟨rfl,rfl⟩
  have Lt:=iG.snoc (k:=k) xh hR (by rw[gk];dsimp only;rw[uf,hr];exact hout);rw[gk]at Lt;dsimp only at Lt;refine⟨jj R (ay m.2.2.2.1 k).2.1 (aq m.1 u).2.2.2.1.1,by rw[uf,hr];exact xq.2,Lt,fun p p0 p1=>?_⟩;show fZ (bJ m.1 u _) p=_;rw[hval p p0 p1,uf,hr];by_cases hw:wd m.1 p=dN u (aq m.1 u).1
  .rw[aj ⟨rfl,hw⟩];rcases I.mem.word p p0 p1 with h | ⟨v,v0,v1,_,d,i,i0,i1,ei⟩
   .exact absurd hw (vk h.1 u0)
   .obtain rfl:v=u:=(tI (d.symm.trans hw)).1;rw[<-ei,A5 (I.mem.dz v v0 v1).z7 i0 i1];have hm:=L2 i0 i1;rw[hl]at hm⊢;exact(xq.1.old _ hm).2.2.2
  .rw[af (fun q=>hw q.2),hv p p0 p1];have:=xq.1.rest p.toNat (by omega) (fun e he=>by
    rw[<-hl]at he;obtain⟨i,i0,i1,hi⟩:=RS he;intro q;have:=hall i i0 i1;rw[hi,q,show((p.toNat:Nat):Int)=p by omega]at this;exact hw this)
   rw[show((p.toNat:Nat):Int)=p by omega]at this;exact this
theorem acZ{m:aF}(I:Inv m){t:Int}(t0:0<=t)(t1:t<m.2.1.length)(hs:(ai m t).2.2.2.2.1≠[]):Inv (kH m t):=by
 have T:=I.th t t0 t1;have ho:=T.At hs;have H:=T.d6 _ (mK hs);have hw:=fun e=>T.own _ (mK hs) e;have Lg:bC (ai m t) t=false->(au (ai m t)).1≠t:=fun h e=>by rw[(JJ T hs e).1]at h;cases h
 have UO:=Mw T hs;have xp:∀k,(ai m t).2.2.2.2.1=[k]->au (ai m t)=k:=fun k e=>by unfold au;rw[e];rfl
 generalize hh:au (ai m t)=h at *;have u0:=H.t.1;have u1:=H.t.2;by_cases hd:(aq m.1 h.1).1≠h.2.1
 .have e:q7 m.1 h=(m.1,h,dH,2,()):=by unfold q7;rw[aj hd]
  have hne:h.1≠t:=fun q=>hd (by rw[q];exact(hw q).symm);unfold kH;rw[hh,e];dsimp only;rw[af (by decide),aj rfl,aj hne];obtain⟨p1,p2,p3,p4⟩:=Nz T hs (by rw[hh];exact hne);exact zX I t0 t1 ho I.mem (fun u _ _=>⟨rfl,rfl,i7⟩) (fun k hk=>hk) p1 p2 p3 p4 (fun p _ _=>rfl)
 have hd':h.2.1=(aq m.1 h.1).1:=by omega
 obtain⟨c1,c2,c3,c4⟩:=H.cur hd';have Ue:∀{a:aS}(hk:∀k,bW m.1 m.2.1.length k->bW a m.2.1.length k) {h':gx} (he:bW a m.2.1.length h') (e1:h'.1=h.1) (e2:h'.2.1=h.2.1),_:=fun {a} hk {h'} he e1 e2=>
  Nr T hs hk he (fun q=>by rw[e2];exact hw (e1 ▸ q)) (fun q=>by rw[e1];exact Lg q) (fun k ek q=>by rw[e1,xp k ek];exact q)
 by_cases hst:(aq m.1 h.1).2.1=1
 .by_cases ej:((aq m.1 h.1).2.2.1.length:Int)<=h.2.2.1
  .have e:q7 m.1 h=(bJ m.1 h.1 ((aq m.1 h.1).1,2,(aq m.1 h.1).2.2),h,dH,3,()):=by unfold q7;rw[af hd,aj hst,aj ej]
   unfold kH;rw[hh,e];dsimp only;rw[af (by decide),af (by decide),aj rfl,UO];have hall:=(c3 hst).2;have:=akB I u0 u1 hst (fun i i0 i1=>by rw[<-hd'];exact hall i i0 (by omega));have e2:(iD (cH m (bJ m.1 h.1 ((aq m.1 h.1).1,2,(aq m.1 h.1).2.2))) h.1 (aq m.1 h.1).2.2.2.1).2.1=m.2.1:=by unfold iD;split<;>rfl
   have e3:=zR e2 t;rw[<-e3,RD t0 (by rw[e2];exact t1)];exact this
  have hlt:h.2.2.1<(aq m.1 h.1).2.2.1.length:=by omega
  have i0:=H.rY.1;have iT:=I.mem.gW u0 u1 i0 hlt;by_cases hmk:wd m.1 (qi (aq m.1 h.1).2.2.1 h.2.2.1).1=dN h.1 h.2.1
  .have e:q7 m.1 h=(m.1,(h.1,h.2.1,h.2.2.1+1,h.2.2.2),dH,0,()):=by unfold q7;rw[af hd,aj hst,af ej,aj hmk]
   have hn:bW m.1 m.2.1.length (h.1,h.2.1,h.2.2.1+1,h.2.2.2):=by
    refine⟨H.t,H.seq,⟨by dsimp only;omega,by dsimp only;have:=(I.mem.dz _ u0 u1).len;omega⟩,H.fin,fun _=>⟨by dsimp only;omega,c2,fun _=>⟨(c3 hst).1,fun i a b=>?_⟩,fun q=>absurd hst q⟩⟩;dsimp only at b⊢;by_cases hi:i=h.2.2.1
    .rw[hi];exact hmk
    .exact(c3 hst).2 i a (by omega)
   unfold kH;rw[hh,e];dsimp only;rw[af (by decide),af (by decide),af (by decide)];obtain⟨p1,p2,p3,p4⟩:=Ue (fun k hk=>hk) hn rfl rfl;exact zX I t0 t1 ho I.mem (fun u _ _=>⟨rfl,rfl,i7⟩) (fun k hk=>hk) p1 p2 p3 p4 (fun p _ _=>rfl)
  by_cases xx:(wd m.1 (qi (aq m.1 h.1).2.2.1 h.2.2.1).1).2.1≠0
  .have e:q7 m.1 h=(m.1,h,((wd m.1 (qi (aq m.1 h.1).2.2.1 h.2.2.1).1).2.1-1,(wd m.1 (qi (aq m.1 h.1).2.2.1 h.2.2.1).1).2.2.1,0,0,()),1,()):=by unfold q7;rw[af hd,aj hst,af ej,af hmk,aj xx]
   rcases I.mem.word _ iT.1.1 iT.1.2 with hq | ⟨v,v0,v1,vo,vm,j,j0,j1,je⟩
   .exact absurd hq.1 xx
   have e2:((wd m.1 (qi (aq m.1 h.1).2.2.1 h.2.2.1).1).2.1-1,(wd m.1 (qi (aq m.1 h.1).2.2.1 h.2.2.1).1).2.2.1,(0:Int),(0:Int),())=(v,(aq m.1 v).1,0,0,()):=by rw[vm];simp only[dN];rw[show v+1-1=v by omega]
   rw[e2]at e;have UP:v≠h.1:=fun q=>hmk (by rw[vm,q,hd']);have hn:bW m.1 m.2.1.length (v,(aq m.1 v).1,0,0,()):=by
    refine⟨⟨v0,v1⟩,⟨I.mem.kX v v0 v1 vo,eD _⟩,⟨by dsimp only;omega,by dsimp only;omega⟩,⟨by dsimp only;omega,by dsimp only;omega⟩,fun _=>⟨by dsimp only;omega,by dsimp only;omega,fun _=>⟨rfl,fun i a b=>?_⟩,fun _ i a b=>?_⟩⟩
    .dsimp only at b;omega
    .dsimp only at b;omega
   unfold kH;rw[hh,e];dsimp only;rw[aj rfl];by_cases hc:h.1=t/\(ai m t).2.2.2.2.1.length=1
   .rw[aj hc];have hk:∃k,(ai m t).2.2.2.2.1=[k]:=by
     match hq:(ai m t).2.2.2.2.1,hc.2 with
     | [k],_=>exact⟨k,rfl⟩
    obtain⟨k,hk⟩:=hk;have Et:k.1=t:=by rw[<-xp k hk];exact hc.1
    obtain⟨p1,p2,p3,p4⟩:=MM T hn (by show v≠t;rw[<-hc.1];exact UP) (.inr ⟨k,hk,Et⟩);exact zX I t0 t1 ho I.mem (fun u _ _=>⟨rfl,rfl,i7⟩) (fun k hk=>hk) p1 p2 p3 p4 (fun p _ _=>rfl)
   .rw[af hc];obtain⟨p1,p2,p3,p4⟩:=Nr T hs (fun k hk=>hk) hn (fun q=>by dsimp only at q⊢;rw[q]) (fun q=>by
      intro q2;dsimp only at q2;rw[q2]at vo;unfold bx at vo;rw[q]at vo;cases vo) (fun k ek q=>by
      exfalso;exact hc ⟨by rw[xp k ek];exact q,by rw[ek];rfl⟩)
    exact zX I t0 t1 ho I.mem (fun u _ _=>⟨rfl,rfl,i7⟩) (fun k hk=>hk) p1 p2 p3 p4 (fun p _ _=>rfl)
  have hw0:(wd m.1 (qi (aq m.1 h.1).2.2.1 h.2.2.1).1).2.1=0:=by omega
  by_cases hold:(wd m.1 (qi (aq m.1 h.1).2.2.1 h.2.2.1).1).1=(qi (aq m.1 h.1).2.2.1 h.2.2.1).2.1
  .have e:q7 m.1 h=(eu m.1 (qi (aq m.1 h.1).2.2.1 h.2.2.1).1 (dN h.1 h.2.1),(h.1,h.2.1,h.2.2.1+1,h.2.2.2),dH,0,()):=by unfold q7;rw[af hd,aj hst,af ej,af hmk,af xx,aj hold]
   obtain⟨hM,hV,hH⟩:=Fg I.mem u0 u1 hst i0 hlt hw0 hold (fun j a b=>by rw[<-hd'];exact(c3 hst).2 j a b);rw[<-hd']at hM hV hH;have hn:bW (eu m.1 (qi (aq m.1 h.1).2.2.1 h.2.2.1).1 (dN h.1 h.2.1)) m.2.1.length (h.1,h.2.1,h.2.2.1+1,h.2.2.2):=by
    refine⟨H.t,H.seq,⟨by dsimp only;omega,by dsimp only;have:=(I.mem.dz _ u0 u1).len;omega⟩,H.fin,fun _=>⟨by dsimp only;exact hlt,c2,fun _=>⟨(c3 hst).1,fun i a b=>?_⟩,fun q=>absurd hst q⟩⟩;dsimp only at b⊢;have hlen:=I.mem.len;rw[show aq (eu m.1 (qi (aq m.1 h.1).2.2.1 h.2.2.1).1 (dN h.1 h.2.1)) h.1=aq m.1 h.1 from rfl];have Ah:=I.mem.gW u0 u1 a (by omega:i<_);rw[Fm (by omega) Ah.1.1];by_cases hi:(qi (aq m.1 h.1).2.2.1 i).1=(qi (aq m.1 h.1).2.2.1 h.2.2.1).1
    .rw[aj hi]
    .rw[af hi];exact(c3 hst).2 i a (by
      by_cases q:i=h.2.2.1
      .exact absurd (by rw[q]) hi
      .omega)
   unfold kH;rw[hh,e];dsimp only;rw[af (by decide),af (by decide),af (by decide)];obtain⟨p1,p2,p3,p4⟩:=Ue hH hn rfl rfl;exact zX I t0 t1 ho hM (fun u _ _=>⟨rfl,rfl,i7⟩) hH p1 p2 p3 p4 hV
  .have e:q7 m.1 h=(bJ m.1 h.1 ((aq m.1 h.1).1,3,(aq m.1 h.1).2.2),h,dH,0,()):=by unfold q7;rw[af hd,aj hst,af ej,af hmk,af xx,af hold]
   obtain⟨hM,hH,hV⟩:=H8 I.mem u0 u1 (c:=3) hst (.inr rfl);have mu:=I.mem.dy;have lH:∀v:Int,0<=v->aq (bJ m.1 h.1 ((aq m.1 h.1).1,3,(aq m.1 h.1).2.2)) v=if v=h.1 then ((aq m.1 h.1).1,3,(aq m.1 h.1).2.2) else aq m.1 v:=fun v v0=>n7 (by omega) v0
   unfold kH;rw[hh,e];dsimp only;rw[af (by decide),af (by decide),af (by decide)];obtain⟨p1,p2,p3,p4⟩:=Ue hH (hH _ H) rfl rfl;refine zX I t0 t1 ho hM (fun v v0 _=>?_) hH p1 p2 p3 p4 (fun p a b=>by rw[hV p a b,af (by omega)]);rw[lH v v0];by_cases q:v=h.1
   .rw[aj q,q];exact⟨rfl,rfl,by dsimp only;omega⟩
   .rw[af q];exact⟨rfl,rfl,i7⟩
 .by_cases kO:((aq m.1 h.1).2.2.1.length:Int)<=h.2.2.2.1
  .have e:q7 m.1 h=(m.1,h,dH,2,()):=by unfold q7;rw[af hd,af hst,aj kO]
   unfold kH;rw[hh,e];dsimp only;rw[af (by decide),aj rfl];by_cases hne:h.1≠t
   .rw[aj hne];obtain⟨p1,p2,p3,p4⟩:=Nz T hs (by rw[hh];exact hne);exact zX I t0 t1 ho I.mem (fun u _ _=>⟨rfl,rfl,i7⟩) (fun k hk=>hk) p1 p2 p3 p4 (fun p _ _=>rfl)
   rw[af hne];have CY:h.1=t:=by omega
   have hown:=(JJ T hs (by rw[hh];exact CY)).1;have UN:=hw CY;rw[CY]at hst c4 kO;rw[UN]at c4;have wO:∀i:Int,0<=i->i<(aq m.1 t).2.2.1.length->wd m.1 (qi (aq m.1 t).2.2.1 i).1≠dN t (aq m.1 t).1:=fun i a b=>c4 hst i a (by omega);have oW:=I.mem.kX t t0 t1 hown;have XG:=(I.mem.dz t t0 t1).st.2 oW;by_cases hy:(aq m.1 t).2.1=2
   .rw[aj hy];obtain⟨k,hk,_⟩:=I.call.jP t t0 t1 ho;have fM:∀u:Int,0<=u->ai (eg (cH m m.1) t (aq m.1 t).2.2.2.1) u=if u=t then ((ai m t).1,(ai m t).2.1+1,false,[],[],()) else ai m u:=fun u u0=>by
     unfold eg;have h2:(ir (cH m m.1) t (aq m.1 t).2.2.2.1).2.1=m.2.1:=by unfold ir;split<;>rfl
     rw[qT (by rw[h2];exact⟨t0,t1⟩) u0,zR h2 u];rfl
    refine M_ (m:=m) t0 t1 I.n I.time ?_ I.th ho I.call hk (by unfold m3;rw[aj ⟨hown,hy⟩]) (fun _ _ _=>rfl) I.rep I.first;refine Re I.mem t0 t1 hst wO (fun u u0 hu=>?_) ?_
    .unfold bx;rw[show eg m t (aq m.1 t).2.2.2.1=eg (cH m m.1) t (aq m.1 t).2.2.2.1 from rfl,fM u u0,af hu]
    .unfold bx;rw[show eg m t (aq m.1 t).2.2.2.1=eg (cH m m.1) t (aq m.1 t).2.2.2.1 from rfl,fM t t0,aj rfl];simp[bC]
   .rw[af hy];refine Bn I t0 t1 ?_ (fun u _ _ _=>⟨rfl,rfl⟩) (fun k hk=>hk) ?_ ⟨rfl,rfl,rfl⟩ (fun u u0 u1=>?_) (fun p _ _=>rfl)
    .refine Re I.mem t0 t1 hst wO (fun u u0 hu=>?_) ?_
     .unfold bx;rw[qT (m:=cH m m.1) ⟨t0,t1⟩ u0,af hu];exact i7
     .unfold bx;rw[qT (m:=cH m m.1) ⟨t0,t1⟩ t0,aj rfl];simp[bC]
    .exact T.rest _ (fun _=>T.on ho)
    .unfold m3;rw[qT (m:=cH m m.1) ⟨t0,t1⟩ u0];by_cases q:u=t
     .rw[aj q,q,af (by simp[bC]),af (fun z=>hy z.2)]
     .rw[af q];rfl
  .have hlt:h.2.2.2.1<(aq m.1 h.1).2.2.1.length:=by omega
   have i0:=H.fin.1;have iT:=I.mem.gW u0 u1 i0 hlt;by_cases hmk:wd m.1 (qi (aq m.1 h.1).2.2.1 h.2.2.2.1).1=dN h.1 h.2.1
   .have e:q7 m.1 h=(eu m.1 (qi (aq m.1 h.1).2.2.1 h.2.2.2.1).1 (if (aq m.1 h.1).2.1=2 then (qi (aq m.1 h.1).2.2.1 h.2.2.2.1).2.2.1 else (qi (aq m.1 h.1).2.2.1 h.2.2.2.1).2.1,0,0,()),(h.1,h.2.1,h.2.2.1,h.2.2.2.1+1,()),dH,0,()):=by unfold q7;rw[af hd,af hst,af kO,aj hmk]
    obtain⟨hM,hV,hH⟩:=M4 I.mem u0 u1 hst i0 hlt (by rw[<-hd'];exact hmk);have hn:bW (eu m.1 (qi (aq m.1 h.1).2.2.1 h.2.2.2.1).1 (if (aq m.1 h.1).2.1=2 then (qi (aq m.1 h.1).2.2.1 h.2.2.2.1).2.2.1 else (qi (aq m.1 h.1).2.2.1 h.2.2.2.1).2.1,0,0,())) m.2.1.length (h.1,h.2.1,h.2.2.1,h.2.2.2.1+1,()):=by
     refine⟨H.t,H.seq,H.rY,⟨by dsimp only;omega,by dsimp only;have:=(I.mem.dz _ u0 u1).len;omega⟩,fun _=>⟨c1,by dsimp only;exact hlt,fun q=>absurd q hst,fun _ i a b=>?_⟩⟩;dsimp only at b⊢;have hlen:=I.mem.len;rw[show ∀w,aq (eu m.1 (qi (aq m.1 h.1).2.2.1 h.2.2.2.1).1 w) h.1=aq m.1 h.1 from fun w=>rfl];have Ah:=I.mem.gW u0 u1 a (by omega:i<_);rw[Fm (by omega) Ah.1.1];by_cases hi:(qi (aq m.1 h.1).2.2.1 i).1=(qi (aq m.1 h.1).2.2.1 h.2.2.2.1).1
     .rw[aj hi];exact vk rfl u0
     .rw[af hi];exact c4 hst i a (by
       by_cases q:i=h.2.2.2.1
       .exact absurd (by rw[q]) hi
       .omega)
    unfold kH;rw[hh,e];dsimp only;rw[af (by decide),af (by decide),af (by decide)];obtain⟨p1,p2,p3,p4⟩:=Ue hH hn rfl rfl;exact zX I t0 t1 ho hM (fun u _ _=>⟨rfl,rfl,i7⟩) hH p1 p2 p3 p4 hV
   .have e:q7 m.1 h=(m.1,(h.1,h.2.1,h.2.2.1,h.2.2.2.1+1,()),dH,0,()):=by unfold q7;rw[af hd,af hst,af kO,af hmk]
    have hn:bW m.1 m.2.1.length (h.1,h.2.1,h.2.2.1,h.2.2.2.1+1,()):=by
     refine⟨H.t,H.seq,H.rY,⟨by dsimp only;omega,by dsimp only;have:=(I.mem.dz _ u0 u1).len;omega⟩,fun _=>⟨c1,by dsimp only;exact hlt,fun q=>absurd q hst,fun _ i a b=>?_⟩⟩;dsimp only at b⊢;by_cases q:i=h.2.2.2.1
     .rw[q];exact hmk
     .exact c4 hst i a (by omega)
    unfold kH;rw[hh,e];dsimp only;rw[af (by decide),af (by decide),af (by decide)];obtain⟨p1,p2,p3,p4⟩:=Ue (fun k hk=>hk) hn rfl rfl;exact zX I t0 t1 ho I.mem (fun u _ _=>⟨rfl,rfl,i7⟩) (fun k hk=>hk) p1 p2 p3 p4 (fun p _ _=>rfl)
theorem By{m:aF}(a:aS){t u:Int}{x:cU}(h:0<=t/\t<m.2.1.length)(u0:0<=u):ai (cA (cH m a) t x) u=if u=t then x else ai m u:=qT (m:=cH m a) h u0
theorem acU{got:dM}(h:sq got){q v:Int}(hv:0<=v/\v<=6):sq (got++[(q,v,())]):=by
 intro g hg;rcases bN.1 hg with k | k
 .exact h g k
 .rw[d9]at k;rw[k];exact hv
theorem Ss{m:aF}(I:Inv m){t:Int}(t0:0<=t)(t1:t<m.2.1.length)(ho:(ai m t).2.2.1=true)(hs:(ai m t).2.2.2.2.1=[])(oW:(aq m.1 t).1+1<=m.2.2.1):Inv (tM m t):=by
  have T:=I.th t t0 t1;have hop:=T.op ho;have i9:=zT (t:=t) hs;have hno:¬ bx m t:=by unfold bx;rw[i9];simp
  obtain⟨q,B,hq⟩:=T.read ho i9;have nN:=T.along ho;obtain⟨Ji,zB⟩:=Kc hop T.got nN;have oC:De (ai m t)=q/\(0<=q/\q<20)/\q∉g6 (ai m t).2.2.2.1/\(ai m t).2.2.2.1.length<8:=by
    rcases zB with h | ⟨q',B',h,h2,h3,h4,h5⟩
    . rw[hq]at h
      have:=ew List.length h.1;simp at this
    . rw[hq]at h
      have:=F5 h;simp only[eZ]at this;obtain⟨rfl,_⟩:=this;exact⟨h2,h3,h4,h5⟩
  obtain⟨oC,qA,Xz,hlen⟩:=oC;obtain⟨R,hR,uj,hv⟩:=I.rep;unfold tM;have Es:iw m (ai m t)=(ai m t).2.2.2.1++[(q,(wd m.1 q).1,())]:=by unfold iw;rw[oC]
  rw[oC,Es];by_cases hw:(wd m.1 q).2.1≠0
  . rw[aj hw]
    rcases I.mem.word q qA.1 qA.2 with h | ⟨v,v0,v1,vo,vm,j,j0,j1,je⟩
    . exact absurd h.1 hw
    have e2:((wd m.1 q).2.1-1,(wd m.1 q).2.2.1,(0:Int),(0:Int),())=(v,(aq m.1 v).1,0,0,()):=by rw[vm];simp only[dN];rw[show v+1-1=v by omega]
    rw[e2];have hn:bW m.1 m.2.1.length (v,(aq m.1 v).1,0,0,()):=by
      refine⟨⟨v0,v1⟩,⟨I.mem.kX v v0 v1 vo,eD _⟩,⟨by dsimp only;omega,by dsimp only;omega⟩,⟨by dsimp only;omega,by dsimp only;omega⟩,fun _=>⟨by dsimp only;omega,by dsimp only;omega,fun _=>⟨rfl,fun i a b=>?_⟩,fun _ i a b=>?_⟩⟩
      . dsimp only at b;omega
      . dsimp only at b;omega
    obtain⟨p1,p2,p3,p4⟩:=MM T hn (fun e=>hno (by rw[<-show v=t from e];exact vo)) (.inl hs);exact zX I t0 t1 ho I.mem (fun u _ _=>⟨rfl,rfl,i7⟩) (fun k hk=>hk) p1 p2 p3 p4 (fun p _ _=>rfl)
  have hw0:(wd m.1 q).2.1=0:=by omega
  rw[af hw];have hval:(wd m.1 q).1=b_ R q:=by rw[<-u9 hw0,hv q qA.1 qA.2]
  rw[hval];have hg':sq ((ai m t).2.2.2.1++[(q,b_ R q,())]):=acU T.got (B3 hR q qA);have t9:qM ((ai m t).2.2.2.1++[(q,b_ R q,())]) (aV (ai m t)):=aa7 hop T.got nN hq Xz _;obtain⟨al7,Lm⟩:=Kc hop hg' t9;by_cases hlt:¬ (run ((ai m t).2.2.2.1++[(q,b_ R q,())]) (prog (aV (ai m t)))).2<0
  . have uh:gj (aV (ai m t)) ((ai m t).2.2.2.1++[(q,b_ R q,())])=(NG,false,()):=by unfold gj;rw[af (fun z=>hlt z.2)]
    rw[uh,aj rfl];have hb:bC (rR (ai m t) ((ai m t).2.2.2.1++[(q,b_ R q,())])) t=bC (ai m t) t:=rfl;refine Bn I t0 t1 (I.mem.kW fun u u0 _=>Sk (a:=m.1) t0 t1 hb u u0) (fun u _ _ _=>⟨rfl,rfl⟩) (fun k hk=>hk) ?_ ⟨rfl,rfl,rfl⟩ (fun u u0 _=>MC t0 t1 u0 hb i7 rfl) (fun p _ _=>rfl)
    exact { ops:=T.ops,pc:=T.pc,on:=T.on,off:=fun e=>by rw[show(rR (ai m t) ((ai m t).2.2.2.1++[(q,b_ R q,())])).2.2.1=(ai m t).2.2.1 from rfl,ho]at e;cases e
            got:=hg',st:=T.st,d6:=T.d6,own:=T.own,along:=fun _=>t9
            read:=fun _ _=>by
              rcases Lm with h | ⟨q',B',h,_⟩
              . exact absurd h.2 (by omega)
              . exact⟨q',B',h⟩
            plan:=fun e=>by rw[hb,i9]at e;cases e }
  replace hlt:(run ((ai m t).2.2.2.1++[(q,b_ R q,())]) (prog (aV (ai m t)))).2<0:=by omega
  have pY:path (dK ((ai m t).2.2.2.1++[(q,b_ R q,())])) (prog (aV (ai m t)))=g6 ((ai m t).2.2.2.1++[(q,b_ R q,())]):=by
    rcases Lm with h | ⟨q',B',h,h2,h3,_⟩
    . exact h.1
    . omega
  obtain⟨k,hk,uf⟩:=I.call.jP t t0 t1 ho;have US:m3 m t=none:=by unfold m3;rw[af (fun z=>by rw[i9]at z;cases z.1)]
  cases dF:mM (aV (ai m t)) ((ai m t).2.2.2.1++[(q,b_ R q,())]) with
  | some y=>
    have uh:gj (aV (ai m t)) ((ai m t).2.2.2.1++[(q,b_ R q,())])=((true,(y.1,y.2,()),[],()),true,()):=by unfold gj;rw[aj ⟨hop,hlt⟩,dF]
    rw[uh];dsimp only;rw[af (by simp),aj rfl];obtain⟨hout,WJ,hyl⟩:=akW hR hop pY dF;have hC:kI m.2.2.2.1 t=k:=I.call.nk hk;have e:iD m t (y.1,y.2,())=(m.1,m.2.1,m.2.2.1,m.2.2.2.1.set k.toNat ((ay m.2.2.2.1 k).1,(ay m.2.2.2.1 k).2.1,(ay m.2.2.2.1 k).2.2.1,m.2.2.1,(ay m.2.2.2.1 k).2.2.2.2.1,(y.1,y.2,()),()),m.2.2.2.2.1++[k],m.2.2.2.2.2):=by unfold iD;rw[hC,af (by have:=hk.dS;omega)];rfl
    have UM:=I.call.so (r:=(y.1,y.2,())) t0 t1 hk US hyl (oe:=fun u=>if u=t then some (y.1,y.2,()) else m3 m u) (aj rfl) (fun u _ h=>af h);have hkn:k∉m.2.2.2.2.1:=fun z=>by
      have h1:=(I.call.gK k z).2.2;have h2:=(I.call.qG t k t0 t1 hk).1 US;omega
    have gk:ay (m.2.2.2.1.set k.toNat ((ay m.2.2.2.1 k).1,(ay m.2.2.2.1 k).2.1,(ay m.2.2.2.1 k).2.2.1,m.2.2.1,(ay m.2.2.2.1 k).2.2.2.2.1,(y.1,y.2,()),())) k=((ay m.2.2.2.1 k).1,(ay m.2.2.2.1 k).2.1,(ay m.2.2.2.1 k).2.2.1,m.2.2.1,(ay m.2.2.2.1 k).2.2.2.2.1,(y.1,y.2,()),()):=by rw[DF hk.dS hk.dS.1,aj rfl]
    have Lt:iG (m.2.2.2.1.set k.toNat ((ay m.2.2.2.1 k).1,(ay m.2.2.2.1 k).2.1,(ay m.2.2.2.1 k).2.2.1,m.2.2.1,(ay m.2.2.2.1 k).2.2.2.2.1,(y.1,y.2,()),())) m.2.2.2.2.2.1 (m.2.2.2.2.1++[k]) R:=by
      have xh:iG (m.2.2.2.1.set k.toNat ((ay m.2.2.2.1 k).1,(ay m.2.2.2.1 k).2.1,(ay m.2.2.2.1 k).2.2.1,m.2.2.1,(ay m.2.2.2.1 k).2.2.2.2.1,(y.1,y.2,()),())) m.2.2.2.2.2.1 m.2.2.2.2.1 R:=by refine uj.same fun j hj=>?_;rw[DF hk.dS (I.call.gK j hj).1,af (fun z:j=k=>hkn (by rw[<-z];exact hj))];exact⟨rfl,rfl⟩
      have h:=iG.snoc (k:=k) xh hR (by rw[gk];dsimp only;rw[uf];exact hout);rw[gk]at h;dsimp only at h;rw[show jj R (ay m.2.2.2.1 k).2.1 y.1=R by rw[uf];exact WJ]at h;exact h
    rw[e];have fM:∀u:Int,0<=u->ai (eg (m.1,m.2.1,m.2.2.1,m.2.2.2.1.set k.toNat ((ay m.2.2.2.1 k).1,(ay m.2.2.2.1 k).2.1,(ay m.2.2.2.1 k).2.2.1,m.2.2.1,(ay m.2.2.2.1 k).2.2.2.2.1,(y.1,y.2,()),()),m.2.2.2.2.1++[k],m.2.2.2.2.2) t (y.1,y.2,())) u=if u=t then ((ai m t).1,(ai m t).2.1+1,false,[],[],()) else ai m u:=by
      intro u u0;unfold eg;have h2:(ir (m.1,m.2.1,m.2.2.1,m.2.2.2.1.set k.toNat ((ay m.2.2.2.1 k).1,(ay m.2.2.2.1 k).2.1,(ay m.2.2.2.1 k).2.2.1,m.2.2.1,(ay m.2.2.2.1 k).2.2.2.2.1,(y.1,y.2,()),()),m.2.2.2.2.1++[k],m.2.2.2.2.2) t (y.1,y.2,())).2.1=m.2.1:=by unfold ir;split<;>rfl
      rw[qT (by rw[h2];exact⟨t0,t1⟩) u0,zR h2 u];rfl
    refine M_ (m:=(m.1,m.2.1,m.2.2.1,m.2.2.2.1.set k.toNat ((ay m.2.2.2.1 k).1,(ay m.2.2.2.1 k).2.1,(ay m.2.2.2.1 k).2.2.1,m.2.2.1,(ay m.2.2.2.1 k).2.2.2.2.1,(y.1,y.2,()),()),m.2.2.2.2.1++[k],m.2.2.2.2.2)) (k:=k) (yes:=fun u=>if u=t then some (y.1,y.2,()) else m3 m u)
      t0 t1 I.n I.time ?_ I.th ho UM ?_ (aj rfl) (fun u _ h=>af h) ⟨R,hR,Lt,hv⟩ I.first
    . refine I.mem.kW fun u u0 _=>?_
      unfold bx;rw[fM u u0];by_cases h:u=t
      . rw[aj h,h,i9];simp[bC]
      . rw[af h]
    . exact⟨by simpa using hk.dS,by show(ay (m.2.2.2.1.set _ _) k).1=t;rw[gk];exact hk.t,by show(ay (m.2.2.2.1.set _ _) k).2.2.2.2.1 = -1;rw[gk];exact hk.fin⟩
  | none=>
    have uh:gj (aV (ai m t)) ((ai m t).2.2.2.1++[(q,b_ R q,())])=((false,eH (aV (ai m t)) ((ai m t).2.2.2.1++[(q,b_ R q,())]),dJ (aV (ai m t)) ((ai m t).2.2.2.1++[(q,b_ R q,())]),()),true,()):=by unfold gj;rw[aj ⟨hop,hlt⟩,dF]
    rw[uh];dsimp only;rw[af (by simp),af (by simp)];have hE:=M0 hop hg' t9 pY dF;have hEr:=M1 hop hg' t9 pY dF;have hEl:=(Bh hop hg' t9 pY dF).2.2;rw[cT,nI]at hEl;generalize hx:qY (rR (ai m t) ((ai m t).2.2.2.1++[(q,b_ R q,())])) (t,(aq m.1 t).1+1,0,0,())=x;have f_:x.2.2.2.2.1=[(t,(aq m.1 t).1+1,0,0,())]:=by rw[<-hx];show(ai m t).2.2.2.2.1++_=_;rw[hs];rfl
    have wX:x.2.2.2.1=(ai m t).2.2.2.1++[(q,b_ R q,())]:=by rw[<-hx];rfl
    have Le:aV x=aV (ai m t):=by rw[<-hx];rfl
    have oD:x.2.2.1=true:=by rw[<-hx];exact ho
    have C3:bC x t=true:=(HL x t).2 ⟨_,_,f_,rfl⟩;have mu:=I.mem.dy;obtain⟨hM,hH,hV⟩:=akU I.mem t0 t1 hno (lX:=bx (cA (cH m (bJ m.1 t ((aq m.1 t).1+1,1,dJ (aV (ai m t)) ((ai m t).2.2.2.1++[(q,b_ R q,())]),eH (aV (ai m t)) ((ai m t).2.2.2.1++[(q,b_ R q,())]),()))) t x))
      (by unfold bx;rw[By _ ⟨t0,t1⟩ t0,aj rfl];exact C3) (fun u u0 h=>by unfold bx;rw[By _ ⟨t0,t1⟩ u0,af h])
      (r:=eH (aV (ai m t)) ((ai m t).2.2.2.1++[(q,b_ R q,())])) hE (by omega) hEr oW (MO _ _)
    have hd:∀u:Int,0<=u->aq (bJ m.1 t ((aq m.1 t).1+1,1,dJ (aV (ai m t)) ((ai m t).2.2.2.1++[(q,b_ R q,())]),eH (aV (ai m t)) ((ai m t).2.2.2.1++[(q,b_ R q,())]),())) u=if u=t then ((aq m.1 t).1+1,1,dJ (aV (ai m t)) ((ai m t).2.2.2.1++[(q,b_ R q,())]),eH (aV (ai m t)) ((ai m t).2.2.2.1++[(q,b_ R q,())]),()) else aq m.1 u:=fun u u0=>n7 (by omega) u0
    have hdt:=(hd t t0).trans (aj rfl);have al8:=(I.mem.dz t t0 t1).seq.1;refine Bn I t0 t1 hM (fun u u0 _ h=>by rw[hd u u0,af h];exact⟨rfl,rfl⟩) hH ?_ (by rw[<-hx];exact⟨rfl,rfl,rfl⟩) (fun u u0 _=>?_) hV
    . exact { ops:=by rw[<-hx];exact T.ops,pc:=by rw[<-hx];exact T.pc,on:=fun _=>by rw[<-hx];exact T.on ho,off:=fun e=>by rw[oD]at e;cases e
              got:=by rw[wX];exact hg'
              st:=.inr (.inl ⟨_,f_⟩)
              d6:=fun k hk=>by
                rw[f_,d9]at hk;subst hk;refine⟨⟨t0,t1⟩,⟨by dsimp only;omega,by dsimp only;rw[hdt];exact eD _⟩,⟨by dsimp only;omega,by dsimp only;omega⟩,⟨by dsimp only;omega,by dsimp only;omega⟩,fun _=>⟨by dsimp only;omega,by dsimp only;omega,fun _=>⟨rfl,fun i a b=>?_⟩,fun _ i a b=>?_⟩⟩
                . dsimp only at b;omega
                . dsimp only at b;omega
              own:=fun k hk _=>by
                rw[f_,d9]at hk;rw[hk,hdt]
              along:=fun _=>by rw[wX,Le];exact t9
              read:=fun _ e=>by rw[C3]at e;cases e
              plan:=fun _=>by rw[wX,Le,hdt];exact⟨pY,dF,rfl,rfl⟩ }
    . by_cases h:u=t
      . subst h
        rw[US];unfold m3;rw[show(cA (cH m (bJ m.1 u ((aq m.1 u).1+1,1,dJ (aV (ai m u)) ((ai m u).2.2.2.1++[(q,b_ R q,())]),eH (aV (ai m u)) ((ai m u).2.2.2.1++[(q,b_ R q,())]),()))) u x).1=bJ m.1 u ((aq m.1 u).1+1,1,dJ (aV (ai m u)) ((ai m u).2.2.2.1++[(q,b_ R q,())]),eH (aV (ai m u)) ((ai m u).2.2.2.1++[(q,b_ R q,())]),()) from rfl,hdt,af (fun z=>by have:=z.2;dsimp only at this;omega)]
      . unfold m3
        rw[show(cA (cH m (bJ m.1 t ((aq m.1 t).1+1,1,dJ (aV (ai m t)) ((ai m t).2.2.2.1++[(q,b_ R q,())]),eH (aV (ai m t)) ((ai m t).2.2.2.1++[(q,b_ R q,())]),()))) t x).1=bJ m.1 t ((aq m.1 t).1+1,1,dJ (aV (ai m t)) ((ai m t).2.2.2.1++[(q,b_ R q,())]),eH (aV (ai m t)) ((ai m t).2.2.2.1++[(q,b_ R q,())]),()) from rfl,hd u u0,af h,By _ ⟨t0,t1⟩ u0,af h]
theorem I0{m:aF}(I:Inv m):Inv (tick m) where
 n:=I.n
 time:=by have:=I.time;show 0<=m.2.2.1+1;omega
 mem:=I.mem.Da (by show m.2.2.1<=m.2.2.1+1;omega)
 th:=I.th
 call:=I.call.same (by show m.2.2.1<=m.2.2.1+1;omega) (fun _ _ _=>⟨rfl,rfl,rfl,rfl⟩)
 rep:=I.rep
 first:=I.first
theorem akA{m:aF}(I:Inv m){t:Int}(t0:0<=t)(t1:t<m.2.1.length)(ho:(ai m t).2.2.1=false)(hp:(ai m t).2.1<(ai m t).1.length):Inv (pR (tick m) t):=by
 have T:=I.th t t0 t1;have Aq:=T.pc;have hoff:=T.off ho;have hop:di (aV (ai m t))=true:=by unfold aV;rw[qv (show(ai m t).2.1.toNat<(ai m t).1.length by omega)];exact T.ops.2 _ (eB _)
 have hl:(pR (tick m) t).2.1.length=m.2.1.length:=o5 _ _ _;have fM:∀u:Int,0<=u->ai (pR (tick m) t) u=if u=t then ((ai m t).1,(ai m t).2.1,true,(ai m t).2.2.2) else ai m u:=fun u u0=>qT (m:=(m.1,m.2.1,_)) ⟨t0,t1⟩ u0
 have hown:∀u:Int,0<=u->bC (ai (pR (tick m) t) u) u=bC (ai m u) u:=by
  intro u u0;rw[fM u u0];by_cases h:u=t
  .subst h;rw[aj rfl];rfl
  .rw[af h]
 have An:(ai m t).2.2.2=([],[],()):=Prod.ext hoff.1 (Prod.ext hoff.2 rfl);refine⟨by rw[hl];exact I.n,by have:=I.time;show 0<=m.2.2.1+1;omega,?_,?_,?_,?_,I.first⟩
 .rw[hl];refine(I.mem.Da (by show m.2.2.1<=m.2.2.1+1;omega)).kW fun u u0 _=>?_;unfold bx;rw[hown u u0]
 .intro u u0 u1;rw[hl]at u1⊢;rw[fM u u0];by_cases h:u=t
  .subst h;rw[aj rfl,An];exact T.rest true (fun _=>hp)
  .rw[af h];exact I.th u u0 u1
 .rw[hl];have hb:=I.call.zl t0 t1 ho hop (by unfold m3;rw[af (fun z=>by rw[zT hoff.2]at z;cases z.1)]) (on':=fun u=>(ai (pR (tick m) t) u).2.2.1) (by rw[fM t t0,aj rfl]) (fun u u0 h=>by rw[fM u u0,af h]) I.time;refine(hb.same (eD _) fun u u0 u1=>⟨rfl,?_,?_,?_⟩)
  .rw[fM u u0];split
   .next h=>rw[h]
   .rfl
  .rw[fM u u0];split
   .next h=>rw[h];rfl
   .rfl
  .unfold m3;rw[hown u u0];rfl
 .obtain⟨R,h1,h2,h3⟩:=I.rep;refine⟨R,h1,?_,h3⟩;show iG (m.2.2.2.1++_) _ _ R;refine h2.same fun j hj=>?_;have hj':=I.call.gK j hj;rw[HI hj'.1,aj hj'.2.1];exact⟨rfl,rfl⟩
theorem Su{m:aF}(I:Inv m){t:Int}(t0:0<=t)(t1:t<m.2.1.length)(hp:(ai m t).2.1<(ai m t).1.length):Inv (vv m t):=by
 unfold vv;by_cases h1:(ai m t).2.2.1=false
 .rw[aj h1];exact akA I t0 t1 h1 hp
 rw[af h1];by_cases h2:(ai m t).2.2.2.2.1≠[]
 .rw[aj h2];exact acZ (I0 I) t0 t1 h2
 .rw[af h2];refine Ss (I0 I) t0 t1 (by show(ai m t).2.2.1=true;simpa using h1) (by show(ai m t).2.2.2.2.1=[];simpa using h2) ?_;have:=(I.mem.dz t t0 t1).seq.2;show(aq m.1 t).1+1<=m.2.2.1+1;omega
abbrev BQ:Ty:=(Ty.pair (Ty.int IntKind.i64) (Ty.pair (Ty.int IntKind.i64) (Ty.pair (Ty.sl (Ty.pair (Ty.int IntKind.i64) (Ty.pair (Ty.int IntKind.i64) (Ty.pair (Ty.int IntKind.i64) Ty.unit)))) (Ty.pair (Ty.pair (Ty.int IntKind.i64) (Ty.pair (Ty.sl (Ty.int IntKind.i64)) Ty.unit)) Ty.unit))))
theorem Sm{D:Den ctx}{n:Nat}{c:bk}{K0:Int->Option ((Int×Unit)×Unit)}{K1:Option ((Int×Unit)×Unit)}{l:List (nv)}(hl:l.length<=1000000){f:nv->Bool}(hf:∀x∈l,iM ctx D c [bL.val BQ x] Ty.bool=some (f x)) :
  ∀(m i:Nat),i<=l.length->l.length-i<m->((l.drop i).any f=false->JP D n c K0 K1 m l (l.length:Int) (i:Int)=K1)/\
   ((l.drop i).any f=true->∃j:Nat,JP D n c K0 K1 m l (l.length:Int) (i:Int)=K0 (j:Int))
 | 0,i,_,h2=>by omega
 | m+1,i,h1,h2=>by
  simp only[JP,qez];by_cases h:i<l.length
  .have ih:=Sm (n:=n) (K0:=K0) (K1:=K1) hl hf m (i+1) (by omega) (by omega);have e:=hf l[i] (eB _);rw[qf (by omega),ix h,aG,eE,qv h,qu (by omega)];refine Eq.mpr (ew (fun z=>((List.drop i l).any f=false->qd z _=K1)/\((List.drop i l).any f=true->∃j:Nat,qd z _=K0 (j:Int))) e) ?_;rw[qc,uT h,yq];cases hx:f l[i]
   .rw[aL,sD];exact ih
   .rw[aG,yt];exact⟨fun q=>(by cases q),fun _=>⟨i,rfl⟩⟩
  .rw[qg (by omega),uY h];exact⟨fun _=>rfl,fun q=>(by simp at q)⟩
theorem ah5{X:Ext}(hX:fW X){n:Nat}(hn:W+2<=n){c:bk}{l:List (nv)}(hl:l.length<=1000000){f:nv->Bool}(hf:∀x∈l,iM ctx (DD X (n-2)) c [bL.val BQ x] Ty.bool=some (f x)) :
  qd3 (DD X n) l c=some ((l.any f,()),()):=by
 obtain⟨n,rfl⟩:∃k,n=k+2:=⟨n-2,by omega⟩
 have hW:=d7;rw[qod hX];simp only[qd5,qhm];rw[qqj hX];simp only[qfa,qff,qep];have key:=Sm (D:=DD X n) (n:=n) (c:=c) (K0:=fun v=>qd9 (DD X n) n c v) (K1:=qea (DD X n) n c) hl hf n 0 (e7 _) (by omega);rw[jW]at key;rw[show(0:Int)=((0:Nat):Int) from rfl];cases hx:l.any f
 .rw[key.1 hx];simp[qea,qd]
 .obtain⟨j,hj⟩:=key.2 hx;rw[hj];simp[qd9,qd]
abbrev BL:Ty:=(Ty.pair (Ty.int IntKind.i64) (Ty.pair (Ty.int IntKind.i64) (Ty.pair (Ty.int IntKind.i64) Ty.unit)))
theorem Sp{D:Den ctx}{n:Nat}{c:bk}{K0:Int->Option ((Int×Unit)×Unit)}{K1:Option ((Int×Unit)×Unit)}{l:List (l_)}(hl:l.length<=1000000){f:l_->Bool}(hf:∀x∈l,iM ctx D c [bL.val BL x] Ty.bool=some (f x)) :
  ∀(m i:Nat),i<=l.length->l.length-i<m->((l.drop i).any f=false->JS D n c K0 K1 m l (l.length:Int) (i:Int)=K1)/\
   ((l.drop i).any f=true->∃j:Nat,JS D n c K0 K1 m l (l.length:Int) (i:Int)=K0 (j:Int))
 | 0,i,_,h2=>by omega
 | m+1,i,h1,h2=>by
  simp only[JS,qe5];by_cases h:i<l.length
  .have ih:=Sp (n:=n) (K0:=K0) (K1:=K1) hl hf m (i+1) (by omega) (by omega);have e:=hf l[i] (eB _);rw[qf (by omega),ix h,aG,eE,qv h,qu (by omega)];refine Eq.mpr (ew (fun z=>((List.drop i l).any f=false->qd z _=K1)/\((List.drop i l).any f=true->∃j:Nat,qd z _=K0 (j:Int))) e) ?_;rw[qc,uT h,yq];cases hx:f l[i]
   .rw[aL,sD];exact ih
   .rw[aG,yt];exact⟨fun q=>(by cases q),fun _=>⟨i,rfl⟩⟩
  .rw[qg (by omega),uY h];exact⟨fun _=>rfl,fun q=>(by simp at q)⟩
theorem ah8{X:Ext}(hX:fW X){n:Nat}(hn:W+2<=n){c:bk}{l:List (l_)}(hl:l.length<=1000000){f:l_->Bool}(hf:∀x∈l,iM ctx (DD X (n-2)) c [bL.val BL x] Ty.bool=some (f x)) :
  qd4 (DD X n) l c=some ((l.any f,()),()):=by
 obtain⟨n,rfl⟩:∃k,n=k+2:=⟨n-2,by omega⟩
 have hW:=d7;rw[qog hX];simp only[qd8,qhp];rw[qqm hX];simp only[qfd,qfi,qes];have key:=Sp (D:=DD X n) (n:=n) (c:=c) (K0:=fun v=>qef (DD X n) n c v) (K1:=qeg (DD X n) n c) hl hf n 0 (e7 _) (by omega);rw[jW]at key;rw[show(0:Int)=((0:Nat):Int) from rfl];cases hx:l.any f
 .rw[key.1 hx];simp[qeg,qd]
 .obtain⟨j,hj⟩:=key.2 hx;rw[hj];simp[qef,qd]
abbrev CJ:Ty:=(Ty.pair (Ty.int IntKind.i64) (Ty.pair (Ty.int IntKind.i64) (Ty.pair (Ty.int IntKind.i64) Ty.unit)))
theorem NF{D:Den ctx}{n:Nat}{c:bk}{K0:Int->Option ((Int×Unit)×Unit)}{K1:Option ((Int×Unit)×Unit)}{l:List (cL)}(hl:l.length<=1000000){f:cL->Bool}(hf:∀x∈l,iM ctx D c [bL.val CJ x] Ty.bool=some (f x)) :
  ∀(m i:Nat),i<=l.length->l.length-i<m->((l.drop i).any f=false->JT D n c K0 K1 m l (l.length:Int) (i:Int)=K1)/\
   ((l.drop i).any f=true->∃j:Nat,JT D n c K0 K1 m l (l.length:Int) (i:Int)=K0 (j:Int))
 | 0,i,_,h2=>by omega
 | m+1,i,h1,h2=>by
  simp only[JT,qf7];by_cases h:i<l.length
  .have ih:=NF (n:=n) (K0:=K0) (K1:=K1) hl hf m (i+1) (by omega) (by omega);have e:=hf l[i] (eB _);rw[qf (by omega),ix h,aG,eE,qv h,qu (by omega)];refine Eq.mpr (ew (fun z=>((List.drop i l).any f=false->qd z _=K1)/\((List.drop i l).any f=true->∃j:Nat,qd z _=K0 (j:Int))) e) ?_;rw[qc,uT h,yq];cases hx:f l[i]
   .rw[aL,sD];exact ih
   .rw[aG,yt];exact⟨fun q=>(by cases q),fun _=>⟨i,rfl⟩⟩
  .rw[qg (by omega),uY h];exact⟨fun _=>rfl,fun q=>(by simp at q)⟩
theorem ajO{X:Ext}(hX:fW X){n:Nat}(hn:W+2<=n){c:bk}{l:List (cL)}(hl:l.length<=1000000){f:cL->Bool}(hf:∀x∈l,iM ctx (DD X (n-2)) c [bL.val CJ x] Ty.bool=some (f x)) :
  qfn (DD X n) l c=some ((l.any f,()),()):=by
 obtain⟨n,rfl⟩:∃k,n=k+2:=⟨n-2,by omega⟩
 have hW:=d7;rw[qrj hX];simp only[qfo,qi8];rw[quf hX];simp only[qgm,qgp,qfz];have key:=NF (D:=DD X n) (n:=n) (c:=c) (K0:=fun v=>qfp (DD X n) n c v) (K1:=qfq (DD X n) n c) hl hf n 0 (e7 _) (by omega);rw[jW]at key;rw[show(0:Int)=((0:Nat):Int) from rfl];cases hx:l.any f
 .rw[key.1 hx];simp[qfq,qd]
 .obtain⟨j,hj⟩:=key.2 hx;rw[hj];simp[qfp,qd]
abbrev BK:Ty:=(Ty.pair (Ty.int IntKind.i64) (Ty.pair (Ty.int IntKind.i64) Ty.unit))
theorem So{D:Den ctx}{n:Nat}{c:bk}{K0:Int->Option ((Int×Unit)×Unit)}{K1:Option ((Int×Unit)×Unit)}{l:List (Int×Int×Unit)}(hl:l.length<=1000000){f:Int×Int×Unit->Bool}(hf:∀x∈l,iM ctx D c [bL.val BK x] Ty.bool=some (f x)) :
  ∀(m i:Nat),i<=l.length->l.length-i<m->((l.drop i).any f=false->JR D n c K0 K1 m l (l.length:Int) (i:Int)=K1)/\
   ((l.drop i).any f=true->∃j:Nat,JR D n c K0 K1 m l (l.length:Int) (i:Int)=K0 (j:Int))
 | 0,i,_,h2=>by omega
 | m+1,i,h1,h2=>by
  simp only[JR,qe3];by_cases h:i<l.length
  .have ih:=So (n:=n) (K0:=K0) (K1:=K1) hl hf m (i+1) (by omega) (by omega);have e:=hf l[i] (eB _);rw[qf (by omega),ix h,aG,eE,qv h,qu (by omega)];refine Eq.mpr (ew (fun z=>((List.drop i l).any f=false->qd z _=K1)/\((List.drop i l).any f=true->∃j:Nat,qd z _=K0 (j:Int))) e) ?_;rw[qc,uT h,yq];cases hx:f l[i]
   .rw[aL,sD];exact ih
   .rw[aG,yt];exact⟨fun q=>(by cases q),fun _=>⟨i,rfl⟩⟩
  .rw[qg (by omega),uY h];exact⟨fun _=>rfl,fun q=>(by simp at q)⟩
theorem ah7{X:Ext}(hX:fW X){n:Nat}(hn:W+2<=n){c:bk}{l:List (Int×Int×Unit)}(hl:l.length<=1000000){f:Int×Int×Unit->Bool}(hf:∀x∈l,iM ctx (DD X (n-2)) c [bL.val BK x] Ty.bool=some (f x)) :
  Va (DD X n) l c=some ((l.any f,()),()):=by
 obtain⟨n,rfl⟩:∃k,n=k+2:=⟨n-2,by omega⟩
 have hW:=d7;rw[qof hX];simp only[qd7,qho];rw[qql hX];simp only[qfc,qfh,qer];have key:=So (D:=DD X n) (n:=n) (c:=c) (K0:=fun v=>qed (DD X n) n c v) (K1:=qee (DD X n) n c) hl hf n 0 (e7 _) (by omega);rw[jW]at key;rw[show(0:Int)=((0:Nat):Int) from rfl];cases hx:l.any f
 .rw[key.1 hx];simp[qee,qd]
 .obtain⟨j,hj⟩:=key.2 hx;rw[hj];simp[qed,qd]
abbrev BJ:Ty:=(Ty.pair (Ty.int IntKind.i64) (Ty.pair (Ty.int IntKind.i64) (Ty.pair (Ty.int IntKind.i64) (Ty.pair (Ty.int IntKind.i64) Ty.unit))))
theorem Sn{D:Den ctx}{n:Nat}{c:bk}{K0:Int->Option ((Int×Unit)×Unit)}{K1:Option ((Int×Unit)×Unit)}{l:List (gx)}(hl:l.length<=1000000){f:gx->Bool}(hf:∀x∈l,iM ctx D c [bL.val BJ x] Ty.bool=some (f x)) :
  ∀(m i:Nat),i<=l.length->l.length-i<m->((l.drop i).any f=false->JQ D n c K0 K1 m l (l.length:Int) (i:Int)=K1)/\
   ((l.drop i).any f=true->∃j:Nat,JQ D n c K0 K1 m l (l.length:Int) (i:Int)=K0 (j:Int))
 | 0,i,_,h2=>by omega
 | m+1,i,h1,h2=>by
  simp only[JQ,qe1];by_cases h:i<l.length
  .have ih:=Sn (n:=n) (K0:=K0) (K1:=K1) hl hf m (i+1) (by omega) (by omega);have e:=hf l[i] (eB _);rw[qf (by omega),ix h,aG,eE,qv h,qu (by omega)];refine Eq.mpr (ew (fun z=>((List.drop i l).any f=false->qd z _=K1)/\((List.drop i l).any f=true->∃j:Nat,qd z _=K0 (j:Int))) e) ?_;rw[qc,uT h,yq];cases hx:f l[i]
   .rw[aL,sD];exact ih
   .rw[aG,yt];exact⟨fun q=>(by cases q),fun _=>⟨i,rfl⟩⟩
  .rw[qg (by omega),uY h];exact⟨fun _=>rfl,fun q=>(by simp at q)⟩
theorem ah6{X:Ext}(hX:fW X){n:Nat}(hn:W+2<=n){c:bk}{l:List (gx)}(hl:l.length<=1000000){f:gx->Bool}(hf:∀x∈l,iM ctx (DD X (n-2)) c [bL.val BJ x] Ty.bool=some (f x)) :
  U_ (DD X n) l c=some ((l.any f,()),()):=by
 obtain⟨n,rfl⟩:∃k,n=k+2:=⟨n-2,by omega⟩
 have hW:=d7;rw[qoe hX];simp only[qd6,qhn];rw[qqk hX];simp only[qfb,qfg,qeq];have key:=Sn (D:=DD X n) (n:=n) (c:=c) (K0:=fun v=>qeb (DD X n) n c v) (K1:=qec (DD X n) n c) hl hf n 0 (e7 _) (by omega);rw[jW]at key;rw[show(0:Int)=((0:Nat):Int) from rfl];cases hx:l.any f
 .rw[key.1 hx];simp[qec,qd]
 .obtain⟨j,hj⟩:=key.2 hx;rw[hj];simp[qeb,qd]
theorem jF{x a b:Int}(h:a<=x/\x<=b):bu x a b=true:=lp.2 h
section
variable {X:Ext} (hX:fW X) {n:Nat}
include hX
theorem AN(hn:2<=n)(x:Int):JY (DD X n) x=some ((bu x 0 1000,()),()):=by
 obtain⟨n,rfl⟩:∃k,n=k+1:=⟨n-1,by omega⟩
 rw[afF hX];simp only[qv0,q9c];rw[lq hX (by omega),qc]
theorem MK(hn:2<=n)(x:Int):VU (DD X n) x=some ((bu x 0 19,()),()):=by
 obtain⟨n,rfl⟩:∃k,n=k+1:=⟨n-1,by omega⟩
 rw[ahq hX];simp only[YY,O4];rw[lq hX (by omega),qc]
theorem R8(hn:3<=n){w:l_}{th:Int}(h:Um w\/∃u s,0<=u/\u<th/\1<=s/\s<=1000000/\w=dN u s):ZN (DD X n) w th=some ((true,()),()):=by
 obtain⟨n,rfl⟩:∃k,n=k+1:=⟨n-1,by omega⟩
 rw[aiT hX];simp only[Z1,Pd];rcases h with⟨h1,h2,h3,h4⟩ | ⟨u,s,h1,h2,h3,h4,e⟩
 .rw[qf h1,AN hX (by omega),qc];dsimp only;rw[jF ⟨h3,h4⟩,bA,bw h2]
 .have e1:w.1=0:=by rw[e];rfl
  have e2:w.2.1=u+1:=by rw[e];rfl
  have e3:w.2.2.1=s:=by rw[e];rfl
  rw[qg (by omega),qf e1,lq hX (by omega),qc];dsimp only;rw[jF ⟨by omega,by omega⟩,aG,lq hX (by omega),qc];dsimp only;rw[jF ⟨by omega,by omega⟩]
theorem NA(N n:Nat)(hN:2<=N)(K0:Bool->nv->Option ((Bool×Unit)×Unit))(K1:nv->Option ((Bool×Unit)×Unit)){d:nv}{time:Int}(h:ot d time):∀(m i:Nat),i<=d.2.2.1.length->d.2.2.1.length-i<m->
  TF (DD X N) n K0 K1 m d.2.2.1 (d.2.2.1.length:Int) (i:Int) d=K1 d
 | 0,i,_,h2=>by omega
 | m+1,i,h1,h2=>by
  have hlen:=h.len;simp only[TF,YM];by_cases hi:i<d.2.2.1.length
  .have hr:=h.dS _ (eB hi);have ih:=NA N n hN K0 K1 h m (i+1) (by omega) (by omega);rw[qf (by omega),ix hi,aG,eE,qv hi,qu (by omega),MK hX (by omega),qc];dsimp only;rw[jF ⟨hr.1.1,by omega⟩,cJ,aL,AN hX (by omega),qc];dsimp only;rw[jF hr.2.1,cJ,aL,AN hX (by omega),qc];dsimp only;rw[jF hr.2.2,cJ,aL];by_cases h0:i=0
   .rw[qg (by omega)];exact ih
   .have e:wrap .i64 ((i:Int)-1)=((i-1:Nat):Int):=by rw[qs (by omega) (by omega)];omega
    have hlt:i-1<d.2.2.1.length:=by omega
    have oR:=yc.1 h.z7 (i-1) i hlt hi (by omega);rw[qf (by omega),e,ix hlt,aG,eE,qv hlt,qg (by omega)];exact ih
  .rw[qg (by omega)]
theorem acj(hn:W+3<=n){d:nv}{time:Int}(h:ot d time)(ht:time<=1000000):ZL (DD X n) d=some ((true,()),()):=by
 obtain⟨n,rfl⟩:∃k,n=k+1:=⟨n-1,by omega⟩
 have hW:=d7;have hlen:=h.len;have hs:=h.seq;rw[aiO hX];simp only[ZW,Z8,qyc];by_cases h0:d.1=0
 .rw[qf h0,h.st.1 h0];simp[dD]
 .have hst:=h.st.2 (by omega);have hL:=NA hX n n (by omega) (fun bR dY=>q8w (DD X n) n bR dY) (fun sR=>qv8 (DD X n) n sR) h n 0 (e7 _) (by omega);rw[show((0:Nat):Int)=0 from rfl]at hL;rw[qg h0,hL];simp only[qv8];rw[lq hX (by omega),qc];dsimp only;rw[jF ⟨by omega,by omega⟩,aG,lq hX (by omega),qc];dsimp only;rw[jF hst,bA,bw (by omega)]
theorem Oc(D:Den ctx)(n:Nat)(K0:Bool->ez->Option ((ez×Bool×Unit)×Unit))(K1:ez->Option ((ez×Bool×Unit)×Unit))(p:Int)(l:List ez)(hl:l.length<=1000)(z:ez):∀(m i:Nat),i<=l.length->l.length-i<m->
  Ti D n K0 K1 m p l (l.length:Int) (i:Int) z=match (l.drop i).find? (fun e=>decide (e.1=p)) with | some e=>K0 true e | none=>K1 z
 | 0,i,_,h2=>by omega
 | m+1,i,h1,h2=>by
  simp only[Ti,qye];by_cases hi:i<l.length
  .have ih:=Oc D n K0 K1 p l hl z m (i+1) (by omega) (by omega);rw[qf (by omega),ix hi,aG,eE,qv hi,qu (by omega),uT hi,List.find?_cons];by_cases h:l[i].1=p
   .rw[qf h,bw h]
   .rw[qg h,b7 h];exact ih
  .rw[qg (by omega),uY hi];rfl
theorem Q_(hn:W+1<=n)(d:nv)(hl:d.2.2.1.length<=1000)(p:Int):VR (DD X n) d p=some ((jI d.2.2.1 p,d.2.2.1.any (fun e:ez=>decide (e.1=p)),()),()):=by
 obtain⟨n,rfl⟩:∃k,n=k+1:=⟨n-1,by omega⟩
 have hW:=d7;rw[ahL hX];simp only[Yl,YN,qv9];have hL:=Oc (X:=X) hX (DD X n) n (fun bR dY=>q6b (DD X n) n bR dY) (fun sR=>q6c (DD X n) n sR) p d.2.2.1 hl (0,0,0,()) n 0 (e7 _) (by omega);rw[show((0:Nat):Int)=0 from rfl]at hL;rw[hL,jW];unfold jI;cases hf:d.2.2.1.find? (fun e:ez=>decide (e.1=p)) with
 | none=>
  have:(d.2.2.1.any fun e:ez=>decide (e.1=p))=false:=by rw[List.any_eq_false];rw[List.find?_eq_none]at hf;exact hf
  rw[this];rfl
 | some e=>
  have:(d.2.2.1.any fun e:ez=>decide (e.1=p))=true:=by rw[List.any_eq_true];exact⟨e,List.mem_of_find?_eq_some hf,List.find?_some (p:=fun e:ez=>decide (e.1=p)) hf⟩
  rw[this];rfl
theorem acR(hn:W+4<=n)(d:nv){time:Int}(h:ot d time)(ht:time<=1000000):iM ctx (DD X n) (bk.mk 110 []) [bL.val BQ d] Ty.bool=some false:=by
 obtain⟨n,rfl⟩:∃k,n=k+1:=⟨n-1,by omega⟩
 have e:∀D:Den ctx,iM ctx D (bk.mk 110 []) [bL.val BQ d] Ty.bool=(OP D d).bind fun r=>some r.1.1:=fun D=>by kernel_rfl
 rw[e,ahP hX];simp only[Yp,OH];rw[acj hX (by omega) h ht,qc];rfl
theorem Ni(N n:Nat)(hN:W+3<=N)(K0:Bool->Option ((Bool×Unit)×Unit))(K1:Option ((Bool×Unit)×Unit)){m:aS}{k:Nat}{time:Int}{own:Int->Prop}(I:eY m k time own)(ht:time<=1000000)(hk:k<=4):∀(c i:Nat),i<=m.1.length->m.1.length-i<c->
  TN (DD X N) n K0 K1 c m.1 (m.1.length:Int) (i:Int) m=K1
 | 0,i,_,h2=>by omega
 | c+1,i,h1,h2=>by
  have hlen:=I.len;have hd:=I.dy;simp only[TN,q5i];by_cases hi:i<m.1.length
  .have ih:=Ni N n hN K0 K1 I ht hk c (i+1) (by omega) (by omega);have hw:wd m (i:Int)=m.1[i]:=by unfold wd;rw[eE,qv hi]
   have oF:=I.word (i:Int) (by omega) (by omega);unfold BC at oF;rw[hw]at oF;rw[qf (by omega),ix hi,aG,eE,qv hi,qu (by omega)];rcases oF with h | ⟨u,u0,u1,uo,e,j,j0,j1,je⟩
   .rw[R8 hX (by omega) (.inl h),qc];dsimp only;rw[cJ,aL,qf h.1];exact ih
   .have hs:=I.kX u u0 u1 uo;have UN:=(I.dz u u0 u1).seq;have mu:=(I.dz u u0 u1).len;have e2:(m.1[i]).2.1=u+1:=by rw[e];rfl
    have e3:(m.1[i]).2.2.1=(aq m u).1:=by rw[e];rfl
    rw[R8 hX (by omega) (.inr ⟨u,_,u0,by omega,hs,by omega,e⟩),qc];dsimp only;have e1:wrap .i64 ((m.1[i]).2.1-1)=u:=by rw[qs (by omega) (by omega)];omega
    rw[cJ,aL,qg (by omega),e1,fJ u0 (by omega),aG];have Ag:m.2.1.getD u.toNat (0,0,[],(0,[],()),())=aq m u:=rfl;rw[Ag,Q_ hX (by omega) _ (by omega),qc];dsimp only;have WL:((aq m u).2.2.1.any fun e:ez=>decide (e.1=(i:Int)))=true:=by rw[List.any_eq_true];exact⟨_,L2 j0 j1,by rw[gS];exact je⟩
    rw[WL,cJ,bf,bH,bw e3.symm,cJ,aL];exact ih
  .rw[qg (by omega)]
theorem xK(hn:W+7<=n){m:aS}{k:Nat}{time:Int}{own:Int->Prop}(I:eY m k time own)(ht:time<=1000000)(h1:1<=k)(hk:k<=4):IK (DD X n) m=some ((true,()),()):=by
 obtain⟨n,rfl⟩:∃k,n=k+1:=⟨n-1,by omega⟩
 have hW:=d7;have hlen:=I.len;have hd:=I.dy;rw[ajH hX];simp only[q77,q8z,YS];have WY:∀x∈m.2.1,ot x time:=by intro x hx;obtain⟨j,hj,rfl⟩:=nJ.1 hx;have:=I.dz (j:Int) (by omega) (by omega);unfold aq at this;rw[eE,qv hj]at this;exact this
 rw[show((m.1.length:Int) != 20)=false by rw[bH,bw (by omega)];rfl,aL,lq hX (by omega),qc];dsimp only;rw[jF ⟨by omega,by omega⟩,cJ,aL,ah5 hX (by omega) (by omega) (f:=fun _=>false) (fun x hx=>acR hX (by omega) x (WY x hx) ht),qc];dsimp only;rw[show(m.2.1.any fun _=>false)=false by simp,aL];have hL:=Ni hX n n (by omega) (fun bR=>Ov (DD X n) n bR) (Ow (DD X n) n) I ht hk n 0 (e7 _) (by omega);rw[show((0:Nat):Int)=0 from rfl]at hL;rw[hL];rfl
end
def g8(l:List gi)(t:Int):Nat->Int
 | 0=>0
 | i+1=>g8 l t i+if (l.getD i dC).1=t/\(l.getD i dC).2.2.2.2.1>=0 then 1 else 0
def gu(l:List gi)(t:Int):Nat->Int
 | 0=>0
 | i+1=>gu l t i+if (l.getD i dC).1=t/\¬ (l.getD i dC).2.2.2.2.1>=0 then 1 else 0
def zG(l:List gi)(t:Int):Nat->Int
 | 0=>-1
 | i+1=>if (l.getD i dC).1=t then (i:Int) else zG l t i
def m6(l:List gi):Nat->Int
 | 0=>0
 | i+1=>m6 l i+if (l.getD i dC).2.2.2.1>=0 then 1 else 0
theorem G3(l:List gi)(t:Int):∀i,i<=l.length->g8 l t i=(wj (l.take i) t:Int)
 | 0,_=>by simp[g8,wj]
 | i+1,h=>by
  have hi:i<l.length:=by omega
  simp only[g8];rw[G3 l t i (by omega),mR hi,QS,qv hi];by_cases q:l[i].1=t/\0<=l[i].2.2.2.2.1
  .rw[aj q,aj q];omega
  .rw[af q,af q];omega
theorem tE(l:List gi)(i:Nat):ay l (i:Int)=l.getD i dC:=by unfold ay;rw[eE]
theorem xL(l:List gi)(t:Int):∀i,0<=g8 l t i/\g8 l t i<=i/\0<=gu l t i/\gu l t i<=i/\0<=m6 l i/\m6 l i<=i/\-1<=zG l t i/\zG l t i<i
 | 0=>by simp[g8,gu,m6,zG]
 | i+1=>by
  have:=xL l t i;simp only[g8,gu,m6,zG];refine⟨?_,?_,?_,?_,?_,?_,?_,?_⟩<;>split<;>omega
section
variable {l:List gi} {ord:List Int} {n:Nat} {time:Int} {on:Int->Bool} {pc:Int->Int} {op:Int->cL} {yes:Int->Option fD} (I:gn l ord n time on pc op yes)
include I
theorem G9{t k:Int}(hk:f8 l t k):∀i,i<=l.length->k<i->zG l t i=k/\gu l t i=1
 | 0,_,h=>by have:=hk.dS;omega
 | i+1,hi,h=>by
  simp only[zG,gu];have hr:=hk.dS;by_cases e:k=(i:Int)
  .have h1:=hk.t;have h2:=hk.fin;rw[e,tE]at h1 h2;rw[aj h1,aj ⟨h1,by omega⟩];refine⟨e.symm,?_⟩;have key:∀j,j<=i->gu l t j=0:=by
    intro j
    induction j with
    | zero=>intro _;rfl
    | succ j ih=>
     intro hj;simp only[gu];rw[ih (by omega),af]
     .rfl
     .rintro⟨q1,q2⟩;have hf:=(I.c (j:Int) (by omega) (by omega)).fin;rw[tE]at hf;have:=I.uniq (t:=t) (i:=(j:Int)) ⟨⟨by omega,by omega⟩,by rw[tE];exact q1,by rw[tE];omega⟩ hk;omega
   rw[key i (cq _)];rfl
  .obtain⟨i1,i2⟩:=G9 hk i (by omega) (by omega);have hne:¬ (l.getD i dC).1=t:=by intro q;have:=(I.before k (i:Int) hr.1 (by omega) (by omega) (by rw[hk.t,tE];exact q.symm)).1;have:=hk.fin;omega
   rw[af hne,af (fun q=>hne q.1),i1,i2];exact⟨rfl,rfl⟩
theorem Hf{t:Int}(h:∀k:Int,0<=k->k<l.length->(ay l k).1=t->0<=(ay l k).2.2.2.2.1):∀i,i<=l.length->gu l t i=0
 | 0,_=>rfl
 | i+1,hi=>by
  simp only[gu];rw[Hf h i (by omega),af]
  .rfl
  .rintro⟨q1,q2⟩;have:=h (i:Int) (by omega) (by omega) (by rw[tE];exact q1);rw[tE]at this;exact q2 this
theorem Sb:m6 l l.length=ord.length:=by
 have key:∀i,m6 l i=((((List.range i).filter fun j=>decide (0<=(l.getD j dC).2.2.2.1)).map fun j:Nat=>(j:Int)).length:Int):=by
  intro i
  induction i with
  | zero=>rfl
  | succ i ih=>
   simp only[m6];rw[ih,List.range_succ,List.filter_append,pG,cT];by_cases h:0<=(l.getD i dC).2.2.2.1
   .rw[aj h,show [i].filter (fun j=>decide (0<=(l.getD j dC).2.2.2.1))=[i] by rw[Cd,bw h];rfl];rfl
   .rw[af h,show [i].filter (fun j=>decide (0<=(l.getD j dC).2.2.2.1))=[] by rw[Cd,b7 h];rfl];rfl
 rw[key];have hp:(((List.range l.length).filter fun j=>decide (0<=(l.getD j dC).2.2.2.1)).map fun j:Nat=>(j:Int)).Perm ord:=by
  rw[N4 ?_ I.nodup]
  .intro a;simp only[eJ,List.mem_filter,yp,gS];constructor
   .rintro⟨j,⟨h1,h2⟩,rfl⟩;exact I.all (j:Int) (by omega) (by omega) (by rw[tE];exact h2)
   .intro ha;have:=I.gK a ha;refine⟨a.toNat,⟨by omega,?_⟩,by omega⟩;have h3:=this.2.2;unfold ay at h3;exact h3
  .rw[List.Nodup,List.pairwise_map];exact(List.nodup_range.filter _).imp fun {a b} h q=>h (by omega)
 rw[hp.length_eq]
theorem abR(hn:n<=3)(hp:∀t:Int,0<=t->t<n->pc t<=4):l.length<=15:=by
 have hO:∀t:Int,0<=t->t<n->gu l t l.length<=1:=by
  intro t t0 t1;cases ho:on t with
  | true=>obtain⟨k,hk,_⟩:=I.jP t t0 t1 ho;rw[(G9 I hk l.length (cq _) (by have:=hk.dS;omega)).2];exact eD _
  | false=>rw[Hf I (I.off t t0 t1 ho) l.length (cq _)];decide
 have hE:∀t:Int,0<=t->t<n->g8 l t l.length<=4:=by intro t t0 t1;rw[G3 l t l.length (cq _),Cc,I.cnt t t0 t1];exact hp t t0 t1
 have hz:∀(t:Int),¬ (0<=t/\t<n)->∀i,i<=l.length->g8 l t i+gu l t i=0:=by
  intro t ht i
  induction i with
  | zero=>intro _;rfl
  | succ i ih=>intro hi;have:=(I.c (i:Int) (by omega) (by omega)).t;rw[tE]at this;simp only[g8,gu];rw[af (fun q=>ht (by rw[<-q.1];exact this)),af (fun q=>ht (by rw[<-q.1];exact this))];have:=ih (by omega);omega
 have hs:∀i,i<=l.length->(i:Int)=(g8 l 0 i+gu l 0 i)+(g8 l 1 i+gu l 1 i)+(g8 l 2 i+gu l 2 i):=by
  intro i
  induction i with
  | zero=>intro _;rfl
  | succ i ih=>
   intro hi;have h1:=(I.c (i:Int) (by omega) (by omega)).t;rw[tE]at h1;have h2:=ih (by omega);have one:∀t:Int,g8 l t (i+1)+gu l t (i+1)=g8 l t i+gu l t i+if (l.getD i dC).1=t then 1 else 0:=by
    intro t;simp only[g8,gu];by_cases a:(l.getD i dC).1=t
    .by_cases b:(l.getD i dC).2.2.2.2.1>=0
     .rw[aj ⟨a,b⟩,af (fun q=>q.2 b),aj a];omega
     .rw[af (fun q=>b q.2),aj ⟨a,b⟩,aj a];omega
    .rw[af (fun q=>a q.1),af (fun q=>a q.1),af a];omega
   rw[one 0,one 1,one 2];have h3:(l.getD i dC).1=0\/(l.getD i dC).1=1\/(l.getD i dC).1=2:=by omega
   rcases h3 with e | e | e
   .rw[aj e,af (by omega),af (by omega)];omega
   .rw[af (by omega),aj e,af (by omega)];omega
   .rw[af (by omega),af (by omega),aj e];omega
 have hall:∀t:Int,g8 l t l.length+gu l t l.length<=5:=by
  intro t;by_cases h:0<=t/\t<n
  .have:=hO t h.1 h.2;have:=hE t h.1 h.2;omega
  .rw[hz t h l.length (cq _)];decide
 have:=hs l.length (cq _);have:=hall 0;have:=hall 1;have:=hall 2
 omega
end
section
variable {X:Ext} (hX:fW X) {n:Nat}
include hX
theorem aly(hn:6<=n)(o:cL)(h:di o=true):iM ctx (DD X n) (bk.mk 121 []) [bL.val CJ o] Ty.bool=some false:=by
 obtain⟨n,rfl⟩:∃k,n=k+1:=⟨n-1,by omega⟩
 have e:∀D:Den ctx,iM ctx D (bk.mk 121 []) [bL.val CJ o] Ty.bool=(q54 D o).bind fun r=>some r.1.1:=fun D=>by kernel_rfl
 obtain⟨a,b,c,⟨⟩⟩:=o;rw[e,afa hX];simp only[qt6,q6i];rw[T8 hX (by omega),h,qc];rfl
theorem acD(hn:3<=n)(g:Int×Int×Unit)(h:(0<=g.1/\g.1<20)/\0<=g.2.1/\g.2.1<=1000):iM ctx (DD X n) (bk.mk 123 []) [bL.val BK g] Ty.bool=some false:=by
 obtain⟨n,rfl⟩:∃k,n=k+1:=⟨n-1,by omega⟩
 have e:∀D:Den ctx,iM ctx D (bk.mk 123 []) [bL.val BK g] Ty.bool=(q55 D g).bind fun r=>some r.1.1:=fun D=>by kernel_rfl
 rw[e,afb hX];simp only[qt7,q6j];rw[MK hX (by omega),qc];dsimp only;rw[jF ⟨h.1.1,by omega⟩,cJ,aL,AN hX (by omega),qc];dsimp only;rw[jF h.2];rfl
theorem acW(hn:2<=n)(k:gx)(th:Int)(xo:0<=th/\th<=100)(h1:0<=k.1/\k.1<th)(h2:1<=k.2.1/\k.2.1<=1000000)(h3:0<=k.2.2.1/\k.2.2.1<=20)(h4:0<=k.2.2.2.1/\k.2.2.2.1<=20) :
  iM ctx (DD X n) (bk.mk 127 [bL.cm (Ty.int IntKind.i64) th]) [bL.val BJ k] Ty.bool=some false:=by
 obtain⟨n,rfl⟩:∃k,n=k+1:=⟨n-1,by omega⟩
 have e:∀D:Den ctx,iM ctx D (bk.mk 127 [bL.cm (Ty.int IntKind.i64) th]) [bL.val BJ k] Ty.bool=(q56 D k th).bind fun r=>some r.1.1:=fun D=>by kernel_rfl
 rw[e,afc hX];simp only[qt8,q6k];rw[qs (by omega) (by omega),lq hX (by omega),qc];dsimp only;rw[jF ⟨h1.1,by omega⟩,cJ,aL,lq hX (by omega),qc];dsimp only;rw[jF h2,cJ,aL,lq hX (by omega),qc];dsimp only;rw[jF h3,cJ,aL,lq hX (by omega),qc];dsimp only;rw[jF h4];rfl
theorem z6{α:Type}(l:List α):(l.any fun _=>false)=false:=by simp
theorem aj9{m:aS}{k:Nat}{x:cU}{t:Int}(T:jv m k x t):∀g∈x.2.2.2.1,(0<=g.1/\g.1<20)/\0<=g.2.1/\g.2.1<=1000:=by
 intro g hg;have hv:=T.got g hg;cases ho:x.2.2.1 with
 | false=>rw[(T.off ho).1]at hg;simp at hg
 | true=>exact⟨(Ka (T.op ho) T.got (T.along ho)).2.1 _ (eJ.2 ⟨g,hg,rfl⟩),by omega⟩
theorem Ic{m:aS}{k:Nat}{x:cU}{t:Int}(T:jv m k x t):x.2.2.2.1.length<=8:=by
 cases ho:x.2.2.1 with
 | false=>rw[(T.off ho).1];simp
 | true=>exact(Ka (T.op ho) T.got (T.along ho)).2.2
theorem Ii{m:aS}{k:Nat}{x:cU}{t:Int}(T:jv m k x t):x.2.2.2.2.1.length<=2:=by rcases T.st with e | ⟨h,e⟩ | ⟨h,h',e,_⟩<;>rw[e]<;>simp
theorem aaR(hn:W+9<=n){m:aS}{k:Nat}{x:cU}{t:Int}(T:jv m k x t)(hk:k<=3)(hs:∀u:Int,0<=u->u<k->(aq m u).1<=1000000):qxn (DD X n) x (k:Int)=some ((true,()),()):=by
 obtain⟨n,rfl⟩:∃k,n=k+1:=⟨n-1,by omega⟩
 have hW:=d7;have h1:=T.ops;have h2:=T.pc;have h3:=Ic hX T;have h4:=Ii hX T;rw[agD hX];simp only[qxx,Ox];have aZ:qd (Va (DD X n) x.2.2.2.1 (bk.mk 123 [])) (fun b=>br b.1.1 (some ((false,()),())) (qd (U_ (DD X n) x.2.2.2.2.1 (bk.mk 127 [bL.cm (Ty.int IntKind.i64) (k:Int)])) fun b=>some ((!b.1.1,()),())))=some ((true,()),()):=by
  rw[ah7 hX (by omega) (show List.length x.2.2.2.1<=1000000 by omega) (f:=fun _=>false) (fun g hg=>acD hX (by omega) g (aj9 hX T g hg)),qc];dsimp only;rw[z6 hX,aL,ah6 hX (by omega) (by omega) (f:=fun _=>false) (fun q hq=>by
   have H:=T.d6 q hq;have:=hs q.1 H.t.1 H.t.2;have:=H.seq;have:=H.rY;have:=H.fin;exact acW hX (by omega) q k (by omega) H.t (by omega) (by omega) (by omega)),qc]
  dsimp only;rw[z6 hX];rfl
 rw[qg (by omega),ajO hX (by omega) (by omega) (f:=fun _=>false) (fun o ho=>aly hX (by omega) o (h1.2 o ho)),qc];dsimp only;rw[z6 hX,aL,lq hX (by omega),qc];dsimp only;rw[jF h2,cJ,bf];cases ho:x.2.2.1 with
 | true=>have:=T.on ho;rw[bA,b7 (by omega),bf,b7 (by omega),bf,b7 (by omega),aL,cJ,aL];exact aZ
 | false=>have:=T.off ho;rw[bf,bf,b7 (by omega),bf,b7 (by omega),aL,i6,aG,qg (by rw[this.1,this.2];decide)];exact aZ
theorem MW(D:Den ctx)(n:Nat)(K:Int->Int->Int->aF->cU->Option ((Bool×Unit)×Unit))(t:Int)(l:List gi)(hl:l.length<=1000)(m:aF)(x:cU):∀(c i:Nat),i<=l.length->l.length-i<c->
  Tp D n K c t (zG l t i) (g8 l t i) (gu l t i) l (l.length:Int) (i:Int) m x=K (zG l t l.length) (g8 l t l.length) (gu l t l.length) m x
 | 0,i,_,h2=>by omega
 | c+1,i,h1,h2=>by
  have hr:=xL l t i;simp only[Tp,qyw];by_cases hi:i<l.length
  .have ih:=MW D n K t l hl m x c (i+1) (by omega) (by omega);simp only[zG,g8,gu]at ih;rw[qf (by omega),ix hi,aG,eE,qu (by omega)];have hd:l.getD i (0,(0,0,0,()),0,0,0,(0,[],()),())=l.getD i dC:=rfl;rw[hd];by_cases a:(l.getD i dC).1=t
   .rw[show((l.getD i dC).1 != t)=false by rw[bH,bw a];rfl,aL];rw[aj a]at ih;by_cases b:(l.getD i dC).2.2.2.2.1>=0
    .rw[qf b,qs (by omega) (by omega)];rw[aj ⟨a,b⟩,af (fun q=>q.2 b),yu]at ih;exact ih
    .rw[qg b,qs (by omega) (by omega)];rw[af (fun q=>b q.2),aj ⟨a,b⟩,yu]at ih;exact ih
   .rw[show((l.getD i dC).1 != t)=true by rw[bH,b7 a];rfl,aG];rw[af a,af (fun q=>a q.1),af (fun q=>a q.1),yu,yu]at ih;exact ih
  .rw[qg (by omega),show i=l.length by omega]
theorem Ww(o:cL):pN (Ty.pair (Ty.int IntKind.i64) (Ty.pair (Ty.int IntKind.i64) (Ty.pair (Ty.int IntKind.i64) Ty.unit))) o o=true:=by obtain⟨a,b,c,⟨⟩⟩:=o;simp[pN]
theorem abH(hn:W+1<=n){m:aF}(I:Inv m){t:Int}(t0:0<=t)(t1:t<m.2.1.length)(hl:m.2.2.2.1.length<=1000):Yy (DD X n) m t=some ((true,()),()):=by
 obtain⟨n,rfl⟩:∃k,n=k+1:=⟨n-1,by omega⟩
 have hW:=d7;have T:=I.th t t0 t1;rw[ahU hX];simp only[YT,Zp,qwf];have hL:=MW hX (DD X n) n (fun bR dY iY kr I9=>qur (DD X n) n bR dY iY kr I9) t m.2.2.2.1 hl m (ai m t) n 0 (e7 _) (by omega);have hx:m.2.1.getD t.toNat ([],0,false,[],[],())=ai m t:=rfl;rw[fJ t0 t1,aG,hx];refine cZ hL ?_;have hE:g8 m.2.2.2.1 t m.2.2.2.1.length=(ai m t).2.1:=by rw[G3 _ _ _ (cq _),Cc];exact I.call.cnt t t0 t1
 simp only[qur];rw[hE,bH,bw rfl,cJ,aL];cases ho:(ai m t).2.2.1 with
 | false=>rw[i6,aG,Hf I.call (I.call.off t t0 t1 ho) _ (cq _)];rfl
 | true=>obtain⟨k,hk,hop⟩:=I.call.jP t t0 t1 ho;have hr:=hk.dS;obtain⟨e1,e2⟩:=G9 I.call hk _ (cq _) (by omega);have hp:=T.on ho;have Lh:=T.pc.1;have hd:m.2.2.2.1.getD k.toNat (0,(0,0,0,()),0,0,0,(0,[],()),())=ay m.2.2.2.1 k:=rfl;have nZ:(ai m t).1.getD (ai m t).2.1.toNat (0,0,0,())=aV (ai m t):=rfl;rw[cJ,aL,e1,e2,bw (show k>=0 from hr.1),bA,qf rfl,zH,bw hr.2,aG,hd,qf hk.fin,aG,fJ Lh hp,aG,hop,nZ,Ww hX]
theorem Si(D:Den ctx)(n:Nat)(K:Int->aF->Option ((Bool×Unit)×Unit))(l:List gi)(hl:l.length<=1000)(m:aF):∀(c i:Nat),i<=l.length->l.length-i<c->
  Tt D n K c (m6 l i) l (l.length:Int) (i:Int) m=K (m6 l l.length) m
 | 0,i,_,h2=>by omega
 | c+1,i,h1,h2=>by
  have hr:=xL l 0 i;simp only[Tt,qy1];by_cases hi:i<l.length
  .have ih:=Si D n K l hl m c (i+1) (by omega) (by omega);simp only[m6]at ih;rw[qf (by omega),ix hi,aG,eE,qu (by omega)];have hd:l.getD i (0,(0,0,0,()),0,0,0,(0,[],()),())=l.getD i dC:=rfl;rw[hd];by_cases a:(l.getD i dC).2.2.2.1>=0
   .rw[qf a,qs (by omega) (by omega)];rw[aj a]at ih;exact ih
   .rw[qg a];rw[af a,yu]at ih;exact ih
  .rw[qg (by omega),show i=l.length by omega]
theorem Sj(N n:Nat)(hN:W+2<=N)(K0:Bool->Int->aF->Option ((Bool×Unit)×Unit))(K1:Int->aF->Option ((Bool×Unit)×Unit))(z:Int){m:aF}(I:Inv m)(hl:m.2.2.2.1.length<=1000)(Ap:m.2.2.2.2.1.length<=1000):∀(c i:Nat),i<=m.2.2.2.2.1.length->m.2.2.2.2.1.length-i<c->
  Tu (DD X N) n K0 K1 c z m.2.2.2.2.1 (m.2.2.2.2.1.length:Int) (i:Int) m=K1 z m
 | 0,i,_,h2=>by omega
 | c+1,i,h1,h2=>by
  simp only[Tu,qy2];by_cases hi:i<m.2.2.2.2.1.length
  .have ih:=Sj N n hN K0 K1 z I hl Ap c (i+1) (by omega) (by omega);have hk:=I.call.gK _ (eB hi);rw[qf (by omega),ix hi,aG,eE,qv hi,qu (by omega),qs (by omega) (by omega),lq hX (by omega),qc];dsimp only;have hd:∀k:Int,m.2.2.2.1.getD k.toNat (0,(0,0,0,()),0,0,0,(0,[],()),())=ay m.2.2.2.1 k:=fun _=>rfl;have hni:m.2.2.2.2.1[i]∉List.drop (0:Int).toNat (List.take i m.2.2.2.2.1):=by rw[show(0:Int).toNat=0 from rfl,jW];intro q;obtain⟨j,hj,e⟩:=nJ.1 q;rw[eR]at hj;rw[List.getElem_take]at e;have:=yc.1 I.call.nodup j i (by omega) hi (by omega);exact this e
   rw[jF ⟨hk.1,by omega⟩,cJ,aL,fJ hk.1 hk.2.1,aG,hd,qg (by omega),
    show(decide ((0:Nat)<=0)&&decide (0<=(i:Int))&&decide ((i:Int)<=(m.2.2.2.2.1.length:Int)))=true by simp;omega,aG,Qk hX (by omega) _ (by simp;omega) _ hni,qc]
   dsimp only;rw[aL];by_cases h0:i=0
   .rw[qg (by omega)];exact ih
   .have e:wrap .i64 ((i:Int)-1)=((i-1:Nat):Int):=by rw[qs (by omega) (by omega)];omega
    have hlt:i-1<m.2.2.2.2.1.length:=by omega
    have hk2:=I.call.gK _ (eB hlt);have hs:=yc.1 I.call.sort (i-1) i hlt hi (by omega);rw[qf (by omega),e,ix hlt,aG,eE,qv hlt,fJ hk2.1 hk2.2.1,aG,aG,hd,qg (by omega)];exact ih
  .rw[qg (by omega)]
theorem abv(hn:W+3<=n){m:aF}(I:Inv m)(hl:m.2.2.2.1.length<=1000):Yz (DD X n) m=some ((true,()),()):=by
 obtain⟨n,rfl⟩:∃k,n=k+1:=⟨n-1,by omega⟩
 have hW:=d7;have ho:=Sb I.call;have hr:=xL m.2.2.2.1 0 m.2.2.2.1.length;have Ap:m.2.2.2.2.1.length<=1000:=by omega
 rw[ahr hX];simp only[YZ,Zr,qwh];refine cZ (Si hX (DD X n) n _ m.2.2.2.1 hl m n 0 (e7 _) (by omega)) ?_;simp only[qut,qwi];refine cZ (Sj hX n n (by omega) _ _ _ I hl Ap n 0 (e7 _) (by omega)) ?_;simp only[q6r];rw[ho,bw rfl]
theorem Ng(N n:Nat)(hN:6<=N)(K0:Bool->Int->aF->Option ((Bool×Unit)×Unit))(K1:Int->aF->Option ((Bool×Unit)×Unit)){m:aF}(I:Inv m)(hl:m.2.2.2.1.length<=1000):∀(c i:Nat),i<=m.2.2.2.1.length->m.2.2.2.1.length-i<c->
  S9 (DD X N) n K0 K1 c (m.2.1.length:Int) m.2.2.2.1 (m.2.2.2.1.length:Int) (i:Int) m=K1 (m.2.1.length:Int) m
 | 0,i,_,h2=>by omega
 | c+1,i,h1,h2=>by
  simp only[S9,qul];by_cases hi:i<m.2.2.2.1.length
  .have ih:=Ng N n hN K0 K1 I hl c (i+1) (by omega) (by omega);have hn:=I.n;have C:=I.call.c (i:Int) (by omega) (by omega);have hd:m.2.2.2.1.getD i (0,(0,0,0,()),0,0,0,(0,[],()),())=ay m.2.2.2.1 (i:Int):=by unfold ay;rw[eE];rfl
   obtain⟨N,rfl⟩:∃k,N=k+1:=⟨N-1,by omega⟩
   have hst:=C.start;rw[qf (by omega),ix hi,aG,eE,hd,qu (by omega),qs (by omega) (by omega),lq hX (by omega),qc];dsimp only;have hop:Ds (DD X (N+1)) (ay m.2.2.2.1 (i:Int)).2.1=some ((true,()),()):=by have:=T8 hX (n:=N+1) (by omega) (ay m.2.2.2.1 (i:Int)).2.1.1 (ay m.2.2.2.1 (i:Int)).2.1.2.1 (ay m.2.2.2.1 (i:Int)).2.1.2.2.1;rw[show((ay m.2.2.2.1 (i:Int)).2.1.1,(ay m.2.2.2.1 (i:Int)).2.1.2.1,(ay m.2.2.2.1 (i:Int)).2.1.2.2.1,())=(ay m.2.2.2.1 (i:Int)).2.1 from rfl,C.op]at this;exact this
   have hwh:∀x:Int,(x = -1\/(ay m.2.2.2.1 (i:Int)).2.2.1<=x/\x<=m.2.2.1)->Vw (DD X (N+1)) (ay m.2.2.2.1 (i:Int)) x m=some ((true,()),()):=by
    intro x hx;rw[aes hX];simp only[qru,q32];by_cases a:x = -1
    .rw[qf a]
    .rw[qg a,lq hX (by omega),qc];dsimp only;rw[jF (hx.resolve_left a)]
   have Al:=C.qG;have kO:=C.fin;rw[jF ⟨C.t.1,by have:=C.t.2;omega⟩,cJ,aL,hop,qc];dsimp only;rw[cJ,aL,lq hX (by omega),qc];dsimp only;rw[jF hst,cJ,aL,hwh _ Al,qc];dsimp only;rw[cJ,aL,hwh _ (by omega),qc];dsimp only;rw[cJ,aL];exact ih
  .rw[qg (by omega)]
theorem Nh(N n:Nat)(hN:W+9<=N)(K0:Bool->aF->Option ((Bool×Unit)×Unit))(K1:aF->Option ((Bool×Unit)×Unit)){m:aF}(I:Inv m)(hl:m.2.2.2.1.length<=1000)(ht:m.2.2.1<=100000):∀(c i:Nat),i<=m.2.1.length->m.2.1.length-i<c->
  Tf (DD X N) n K0 K1 c (m.2.1.length:Int) m.2.1 (m.2.1.length:Int) (i:Int) m=K1 m
 | 0,i,_,h2=>by omega
 | c+1,i,h1,h2=>by
  simp only[Tf,qum];by_cases hi:i<m.2.1.length
  .have ih:=Nh N n hN K0 K1 I hl ht c (i+1) (by omega) (by omega);have hn:=I.n;have T:=I.th (i:Int) (by omega) (by omega);have hd:m.2.1.getD i ([],0,false,[],[],())=ai m (i:Int):=by unfold ai;rw[eE];rfl
   rw[qf (by omega),ix hi,aG,eE,hd,qu (by omega),aaR hX (by omega) T (by omega) (fun u u0 u1=>by have:=(I.mem.dz u u0 u1).seq.2;omega),qc];dsimp only;rw[cJ,aL,abH hX (by omega) I (by omega) (by omega) hl,qc];dsimp only;rw[cJ,aL];exact ih
  .rw[qg (by omega)]
theorem IX{m:aF}(I:Inv m):m.2.2.2.1.length<=15:=
 abR I.call I.n.2 fun t t0 t1=>by have:=(I.th t t0 t1).pc;have:=(I.th t t0 t1).ops.1;omega
theorem IM(hn:W+10<=n){m:aF}(I:Inv m)(ht:m.2.2.1<=100000):zL (DD X n) m=some ((true,()),()):=by
 obtain⟨n,rfl⟩:∃k,n=k+1:=⟨n-1,by omega⟩
 have hW:=d7;have hl:=IX hX I;have hn:=I.n;have mu:=I.mem.dy;have h0:=I.time;rw[afV hX];simp only[qvx,qwb,qsd];rw[xK hX (by omega) I.mem (by omega) (by omega) (by omega),qc];dsimp only;rw[cJ,bf,show((m.1.2.1.length:Int) != (m.2.1.length:Int))=false by rw[bH,bw (by omega)];rfl,aL,lq hX (by omega),qc];dsimp only;rw[jF ⟨h0,ht⟩,cJ,bf,qg (by omega),q8n hX (by omega) I.first,qc];dsimp only;rw[cJ,aL];refine cZ (Ng hX n n (by omega) _ _ I (by omega) n 0 (e7 _) (by omega)) ?_;simp only[qqs,qse];refine cZ (Nh hX n n (by omega) _ _ I (by omega) ht n 0 (e7 _) (by omega)) ?_;simp only[q0a];rw[abv hX (by omega) I (by omega),qc]
end
section
variable {X:Ext} (hX:fW X) {n:Nat}
include hX
theorem Om(hn:1<=n)(l:List Int)(hl:l.length<=1000000):SX (DD X n) l=some ((l,()),()):=by
 obtain⟨n,rfl⟩:∃k,n=k+1:=⟨n-1,by omega⟩
 have hb:=i_;rw[qvc hX];simp only[Vs,qmy];cases l with
 | nil=>simp[uy,both,i_]
 | cons a l=>rw[qg (by rw[eE];simp),qf (by simp only[ct]at hl⊢;omega)];rfl
theorem qts(hn:1<=n)(l:List cL)(hl:l.length<=1000000):Vk (DD X n) l=some ((l,()),()):=by
 obtain⟨n,rfl⟩:∃k,n=k+1:=⟨n-1,by omega⟩
 have hb:=i_;rw[qx3 hX];simp only[qh2,qmm];cases l with
 | nil=>simp[uy,both,i_]
 | cons a l=>rw[qg (by rw[eE];simp),qf (by simp only[ct]at hl⊢;omega)];rfl
theorem q3t(hn:1<=n)(l:dM)(hl:l.length<=1000000):qgh (DD X n) l=some ((l,()),()):=by
 obtain⟨n,rfl⟩:∃k,n=k+1:=⟨n-1,by omega⟩
 have hb:=i_;rw[qud hX];simp only[qgk,qkc];cases l with
 | nil=>simp[uy,both,i_]
 | cons a l=>rw[qg (by rw[eE];simp),qf (by simp only[ct]at hl⊢;omega)];rfl
theorem q3s(hn:1<=n)(l:List gx)(hl:l.length<=1000000):qgg (DD X n) l=some ((l,()),()):=by
 obtain⟨n,rfl⟩:∃k,n=k+1:=⟨n-1,by omega⟩
 have hb:=i_;rw[quc hX];simp only[qgj,qkb];cases l with
 | nil=>simp[uy,both,i_]
 | cons a l=>rw[qg (by rw[eE];simp),qf (by simp only[ct]at hl⊢;omega)];rfl
theorem q3u(hn:1<=n)(l:List l_)(hl:l.length<=1000000):qgi (DD X n) l=some ((l,()),()):=by
 obtain⟨n,rfl⟩:∃k,n=k+1:=⟨n-1,by omega⟩
 have hb:=i_;rw[que hX];simp only[qgl,qkd];cases l with
 | nil=>simp[uy,both,i_]
 | cons a l=>rw[qg (by rw[eE];simp),qf (by simp only[ct]at hl⊢;omega)];rfl
theorem qm4(hn:1<=n)(l:List ez)(hl:l.length<=1000000):Vg (DD X n) l=some ((l,()),()):=by
 obtain⟨n,rfl⟩:∃k,n=k+1:=⟨n-1,by omega⟩
 have hb:=i_;rw[qrz hX];simp only[qfw,qjv];cases l with
 | nil=>simp[uy,both,i_]
 | cons a l=>rw[qg (by rw[eE];simp),qf (by simp only[ct]at hl⊢;omega)];rfl
theorem L0(hn:2<=n)(r:fD)(hl:r.2.1.length<=1000000):II (DD X n) r=some ((r,()),()):=by
 obtain⟨n,rfl⟩:∃k,n=k+1:=⟨n-1,by omega⟩
 rw[ahX hX];simp only[YW,O2];rw[Om hX (by omega) _ hl,qc]
theorem Rd(N n:Nat)(hN:2<=N)(K:aS->aS->Option ((aS×Unit)×Unit))(l:List nv)(hl:l.length<=1000)(h1:∀d∈l,d.2.2.1.length<=1000/\d.2.2.2.1.2.1.length<=1000)(z:aS)(w:List l_):∀(c i:Nat),i<=l.length->l.length-i<c->
  Tq (DD X N) n K c l (l.length:Int) (i:Int) z (w,l.take i,())=K z (w,l,())
 | 0,i,_,h2=>by omega
 | c+1,i,h0,h2=>by
  have hb:=i_;simp only[Tq,qyy];by_cases hi:i<l.length
  .have ih:=Rd N n hN K l hl h1 z w c (i+1) (by omega) (by omega);have hd:=h1 _ (eB hi);rw[qf (by omega),ix hi,aG,eE,qv hi,qu (by omega),qm4 hX (by omega) _ (by omega),qc,L0 hX (by omega) _ (by omega),qc];dsimp only;rw[qf (by rw[eR];omega)];rw[mR hi]at ih;exact ih
  .rw[qg (by omega),show l.take i=l from jT (by omega)]
theorem G0(hn:W+3<=n)(m:aS)(hw:m.1.length<=1000)(hl:m.2.1.length<=1000)(h1:∀d∈m.2.1,d.2.2.1.length<=1000/\d.2.2.2.1.2.1.length<=1000):J2 (DD X n) m=some ((m,()),()):=by
 obtain⟨n,rfl⟩:∃k,n=k+1:=⟨n-1,by omega⟩
 have hW:=d7;rw[ahW hX];simp only[YV,Zq,qwg];rw[q3u hX (by omega) _ (by omega),qc];dsimp only;refine cZ (Rd hX n n (by omega) _ m.2.1 hl h1 ([],[],()) m.1 n 0 (e7 _) (by omega)) ?_;rfl
theorem V6(hn:2<=n)(x:cU)(h1:x.1.length<=1000)(h2:List.length x.2.2.2.1<=1000)(h3:x.2.2.2.2.1.length<=1000):JX (DD X n) x=some ((x,()),()):=by
 obtain⟨n,rfl⟩:∃k,n=k+1:=⟨n-1,by omega⟩
 rw[afe hX];simp only[qt9,q6o];rw[qts hX (by omega) _ (by omega),qc,q3t hX (by omega) _ (by omega),qc,q3s hX (by omega) _ (by omega),qc]
theorem RP(N n:Nat)(hN:2<=N)(K:aF->aF->aF->Option ((aF×Unit)×Unit))(l:List cU)(hl:l.length<=1000)(h1:∀x∈l,x.1.length<=1000/\List.length x.2.2.2.1<=1000/\x.2.2.2.2.1.length<=1000)(z1 z2:aF)(a:aS)(b:Int×List gi×List Int×qp×Unit):∀(c i:Nat),i<=l.length->l.length-i<c->
  S5 (DD X N) n K c l (l.length:Int) (i:Int) z1 z2 (a,l.take i,b)=K z1 z2 (a,l,b)
 | 0,i,_,h2=>by omega
 | c+1,i,h0,h2=>by
  have hb:=i_;simp only[S5,qqw];by_cases hi:i<l.length
  .have ih:=RP N n hN K l hl h1 z1 z2 a b c (i+1) (by omega) (by omega);have hd:=h1 _ (eB hi);rw[qf (by omega),ix hi,aG,eE,qv hi,qu (by omega),V6 hX (by omega) _ hd.1 hd.2.1 hd.2.2,qc];dsimp only;rw[qf (by rw[eR];omega)];rw[mR hi]at ih;exact ih
  .rw[qg (by omega),show l.take i=l from jT (by omega)]
theorem RO(N n:Nat)(hN:2<=N)(K:aF->aF->Option ((aF×Unit)×Unit))(l:List gi)(hl:l.length<=1000)(h1:∀x∈l,x.2.2.2.2.2.1.2.1.length<=1000)(z1:aF)(a:aS)(th:List cU)(ti:Int)(b:List Int×qp×Unit):∀(c i:Nat),i<=l.length->l.length-i<c->
  S6 (DD X N) n K c l (l.length:Int) (i:Int) z1 (a,th,ti,l.take i,b)=K z1 (a,th,ti,l,b)
 | 0,i,_,h2=>by omega
 | c+1,i,h0,h2=>by
  have hb:=i_;simp only[S6,qqx];by_cases hi:i<l.length
  .have ih:=RO N n hN K l hl h1 z1 a th ti b c (i+1) (by omega) (by omega);have hd:=h1 _ (eB hi);rw[qf (by omega),ix hi,aG,eE,qv hi,qu (by omega),L0 hX (by omega) _ (by omega),qc];dsimp only;rw[qf (by rw[eR];omega)];rw[mR hi]at ih;exact ih
  .rw[qg (by omega),show l.take i=l from jT (by omega)]
structure CN (m:aF):Prop where
 w:m.1.1.length<=1000
 d:m.1.2.1.length<=1000
 de:∀d∈m.1.2.1,d.2.2.1.length<=1000/\d.2.2.2.1.2.1.length<=1000
 t:m.2.1.length<=1000
 te:∀x∈m.2.1,x.1.length<=1000/\List.length x.2.2.2.1<=1000/\x.2.2.2.2.1.length<=1000
 c:m.2.2.2.1.length<=1000
 ce:∀x∈m.2.2.2.1,x.2.2.2.2.2.1.2.1.length<=1000
 o:m.2.2.2.2.1.length<=1000
 f:aW m.2.2.2.2.2.1
theorem V0(hn:W+4<=n){m:aF}(h:CN m):JW (DD X n) m=some ((m,()),()):=by
 obtain⟨n,rfl⟩:∃k,n=k+1:=⟨n-1,by omega⟩
 have hW:=d7;have ht:=h.t;have hc:=h.c
 rw[aeu hX];simp only[qrw,qsi,qoy];rw[G0 hX (by omega) _ h.w h.d h.de,qc,Om hX (by omega) _ (by have:=h.o;omega),qc,U4 hX (by omega) h.f,qc];dsimp only;refine cZ (RP hX n n (by omega) _ m.2.1 h.t h.te m (([],[],()),[],0,[],[],([],0,()),()) (m.1.1,m.1.2.1,()) (m.2.2.1,[],m.2.2.2.2.1,(m.2.2.2.2.2.1.1,m.2.2.2.2.2.1.2),()) n 0 (e7 _) (by omega)) ?_;simp only[qnt,qoz];refine cZ (RO hX n n (by omega) _ m.2.2.2.1 h.c h.ce (([],[],()),[],0,[],[],([],0,()),()) (m.1.1,m.1.2.1,()) m.2.1 m.2.2.1 (m.2.2.2.2.1,(m.2.2.2.2.2.1.1,m.2.2.2.2.2.1.2),()) n 0 (e7 _) (by omega)) ?_;rfl
theorem IY{m:aF}(I:Inv m):CN m where
 w:=by rw[I.mem.len];omega
 d:=by rw[I.mem.dy];have:=I.n;omega
 de:=fun d hd=>by
  obtain⟨j,hj,rfl⟩:=nJ.1 hd;have mu:=I.mem.dy;have e:m.1.2.1[j]=aq m.1 (j:Int):=by unfold aq;rw[eE,qv hj]
  have D:=I.mem.dz (j:Int) (by omega) (by omega);have h1:=D.len;refine⟨by rw[e];omega,?_⟩;rw[e];have:=D.rl;omega
 t:=by have:=I.n;omega
 te:=fun x hx=>by
  obtain⟨j,hj,rfl⟩:=nJ.1 hx;have e:m.2.1[j]=ai m (j:Int):=by unfold ai;rw[eE,qv hj]
  have T:=I.th (j:Int) (by omega) (by omega);rw[e];have:=T.ops.1;have:=Ic hX T;have:=Ii hX T
  exact⟨by omega,by omega,by omega⟩
 c:=by have:=IX hX I;omega
 ce:=fun x hx=>by
  obtain⟨j,hj,rfl⟩:=nJ.1 hx;have e:m.2.2.2.1[j]=ay m.2.2.2.1 (j:Int):=by rw[tE,qv hj]
  rw[e];have:=(I.call.c (j:Int) (by omega) (by omega)).len;omega
 o:=by have h1:=Sb I.call;have h2:=xL m.2.2.2.1 0 m.2.2.2.1.length;have:=IX hX I;omega
 f:=I.first
end
theorem eqW(a b:Int×Int×Int×Unit):pN (Ty.pair (Ty.int IntKind.i64) (Ty.pair (Ty.int IntKind.i64) (Ty.pair (Ty.int IntKind.i64) Ty.unit))) a b=decide (a=b):=by obtain⟨a1,a2,a3,⟨⟩⟩:=a;obtain⟨b1,b2,b3,⟨⟩⟩:=b;by_cases h1:a1=b1<;>by_cases h2:a2=b2<;>by_cases h3:a3=b3<;>simp[pN,h1,h2,h3]
theorem Kg{α:Type}{l:List α}{i:Nat}(h:i<l.length)(x d:α):(l.set i x).getD i d=x:=by rw[LX,aj ⟨rfl,h⟩]
def Bz(x:cU):Prop:=x.1.length<=1000/\List.length x.2.2.2.1<=1000/\x.2.2.2.2.1.length<=1000
section
variable {X:Ext} (hX:fW X) {n:Nat}
include hX
theorem alB(hn:1<=n)(x:cU)(hs:x.2.2.2.2.1≠[])(hl:x.2.2.2.2.1.length<=1000):GI (DD X n) x=some ((au x,true,()),()):=by
 obtain⟨n,rfl⟩:∃k,n=k+1:=⟨n-1,by omega⟩
 have h0:0<x.2.2.2.2.1.length:=pF.2 hs;rw[aa3 hX];simp only[GL,QC];rw[qg (by omega),qs (by omega) (by omega),fJ (by omega) (by omega),aG,show((x.2.2.2.2.1.length:Int)-1).toNat=x.2.2.2.2.1.length-1 by omega];rfl
theorem It(hn:3<=n)(x:cU)(hx:Bz x)(h:gx):J7 (DD X n) x h=some ((qY x h,()),()):=by
 obtain⟨n,rfl⟩:∃k,n=k+1:=⟨n-1,by omega⟩
 have hb:=i_;rw[aas hX];simp only[GA,P9];rw[V6 hX (by omega) x hx.1 hx.2.1 hx.2.2,qc];dsimp only;rw[qf (by have:=hx.2.2;omega)];rfl
theorem Iu(hn:3<=n)(x:cU)(hx:Bz x)(hs:x.2.2.2.2.1≠[])(h:gx):T4 (DD X n) x h=some ((ki x h,()),()):=by
 obtain⟨n,rfl⟩:∃k,n=k+1:=⟨n-1,by omega⟩
 have h0:0<x.2.2.2.2.1.length:=pF.2 hs;have h1:=hx.2.2;rw[aau hX];simp only[GC,P_];rw[V6 hX (by omega) x hx.1 hx.2.1 hx.2.2,qc];dsimp only;rw[qf (by omega),qs (by omega) (by omega),fJ (by omega) (by omega),aG,show((x.2.2.2.2.1.length:Int)-1).toNat=x.2.2.2.2.1.length-1 by omega];rfl
theorem alA(hn:3<=n)(x:cU)(hx:Bz x)(hs:x.2.2.2.2.1≠[]):GH (DD X n) x=some ((jh x,()),()):=by
 obtain⟨n,rfl⟩:∃k,n=k+1:=⟨n-1,by omega⟩
 have h0:0<x.2.2.2.2.1.length:=pF.2 hs;have h1:=hx.2.2;rw[aa2 hX];simp only[GK,QB];rw[V6 hX (by omega) x hx.1 hx.2.1 hx.2.2,qc];dsimp only;rw[qf (by omega),qs (by omega) (by omega),show(decide (0<=(x.2.2.2.2.1.length:Int)-1)&&decide ((x.2.2.2.2.1.length:Int)-1<=(x.2.2.2.2.1.length:Int)))=true by simp;omega,aG,show((x.2.2.2.2.1.length:Int)-1).toNat=x.2.2.2.2.1.length-1 by omega];rfl
theorem ak9(hn:1<=n){m:aS}{k:Nat}{time:Int}{own:Int->Prop}(I:eY m k time own){h:gx}(H:bW m k h)(hk:k<=3)(hd:(aq m h.1).1=h.2.1)(hs:(aq m h.1).2.1=1) :
  U3 (DD X n) m h=some (((q7 m h).2.1,(q7 m h).2.2.1,(q7 m h).2.2.2.1,()),((q7 m h).1,())):=by
 obtain⟨n,rfl⟩:∃k,n=k+1:=⟨n-1,by omega⟩
 have hlen:=I.len;have mu:=I.dy;have u0:=H.t.1;have u1:=H.t.2;have ej:=H.rY;rw[aa4 hX];simp only[GM,QD];have lH:List.getD m.2.1 (Int.toNat h.1) (0,0,[],(0,[],()),())=aq m h.1:=rfl;rw[fJ u0 (by omega),aG,lH];unfold q7;rw[af (by omega),aj hs];by_cases ha:((aq m h.1).2.2.1.length:Int)<=h.2.2.1
 .rw[qf ha,aj ha];rfl
 .have iT:=I.gW u0 u1 ej.1 (show h.2.2.1<_ by omega);have he:List.getD (aq m h.1).2.2.1 (Int.toNat h.2.2.1) (0,0,0,())=qi (aq m h.1).2.2.1 h.2.2.1:=rfl;rw[qg ha,af ha,fJ ej.1 (by omega),aG,he,fJ iT.1.1 (by omega),aG,qs (by omega) (by omega)];have hw:List.getD m.1 (Int.toNat (qi (aq m h.1).2.2.1 h.2.2.1).1) (0,0,0,())=wd m (qi (aq m h.1).2.2.1 h.2.2.1).1:=rfl;rw[hw,eqW,show((0:Int),h.1+1,h.2.1,())=dN h.1 h.2.1 from rfl];by_cases hm:wd m (qi (aq m h.1).2.2.1 h.2.2.1).1=dN h.1 h.2.1
  .rw[qf hm,aj hm,qs (by omega) (by omega)];rfl
  .rw[qg hm,af hm];by_cases ht:(wd m (qi (aq m h.1).2.2.1 h.2.2.1).1).2.1≠0
   .have xx:(wd m (qi (aq m h.1).2.2.1 h.2.2.1).1).2.1<=100/\0<=(wd m (qi (aq m h.1).2.2.1 h.2.2.1).1).2.1:=by
     rcases I.word _ iT.1.1 iT.1.2 with q | ⟨v,v0,v1,vo,vm,_⟩
     .exact absurd q.1 ht
     .rw[vm];simp only[dN];omega
    rw[show((wd m (qi (aq m h.1).2.2.1 h.2.2.1).1).2.1 != 0)=true by rw[bH,b7 ht];rfl,aG,aj ht,qs (by omega) (by omega)]
   .have C8:(wd m (qi (aq m h.1).2.2.1 h.2.2.1).1).2.1=0:=by omega
    rw[show((wd m (qi (aq m h.1).2.2.1 h.2.2.1).1).2.1 != 0)=false by rw[bH,bw C8];rfl,aL,af ht];by_cases ho:(wd m (qi (aq m h.1).2.2.1 h.2.2.1).1).1=(qi (aq m h.1).2.2.1 h.2.2.1).2.1
    .rw[qf ho,aj ho,qs (by omega) (by omega)];rfl
    .rw[qg ho,af ho];rfl
theorem Qq{m:aS}{k:Nat}{time:Int}{own:Int->Prop}(I:eY m k time own)(hk:k<=3):m.1.length<=1000/\m.2.1.length<=1000/\∀d∈m.2.1,d.2.2.1.length<=1000/\d.2.2.2.1.2.1.length<=1000:=by
 refine⟨by rw[I.len];omega,by rw[I.dy];omega,fun d hd=>?_⟩;obtain⟨j,hj,rfl⟩:=nJ.1 hd;have mu:=I.dy;have e:m.2.1[j]=aq m (j:Int):=by unfold aq;rw[eE,qv hj]
 have D:=I.dz (j:Int) (by omega) (by omega);have h1:=D.len;have h2:=D.rl;rw[e];exact⟨by omega,by omega⟩
theorem abG(hn:W+8<=n){m:aS}{k:Nat}{time:Int}{own:Int->Prop}(I:eY m k time own){h:gx}(H:bW m k h)(h1:1<=k)(hk:k<=3)(ht:time<=1000000) :
  ZK (DD X n) m h=some (q7 m h,()):=by
 obtain⟨n,rfl⟩:∃k,n=k+1:=⟨n-1,by omega⟩
 have hlen:=I.len;have mu:=I.dy;have u0:=H.t.1;have u1:=H.t.2;have ej:=H.rY;have hfi:=H.fin;have UN:=H.seq;have hst:=(I.dz h.1 u0 u1).st.2 (by omega);obtain⟨s1,s2,s3⟩:=Qq hX I hk;rw[aiN hX];simp only[ZV,Pc];rw[G0 hX (by omega) m s1 s2 s3,qc];dsimp only;rw[show((m.1,m.2.1,()):aS)=m from rfl,xK hX (by omega) I ht h1 (by omega),qc];dsimp only;rw[cJ,aL,qs (by omega) (by omega),lq hX (by omega),qc];dsimp only;have lH:List.getD m.2.1 (Int.toNat h.1) (0,0,[],(0,[],()),())=aq m h.1:=rfl;rw[jF ⟨u0,by omega⟩,cJ,bf,qg (by omega),fJ u0 (by omega),aG,lH];by_cases hd:(aq m h.1).1=h.2.1
 .rw[show((aq m h.1).1 != h.2.1)=false by rw[bH,bw hd];rfl,aL,aG,af (by omega),af (by omega)];rw[show((aq m h.1).2.1 != 0)=true by rw[bH,b7 (by omega)];rfl,bA];have hhh:(h.1,h.2.1,h.2.2.1,h.2.2.2.1,())=h:=rfl;by_cases hs:(aq m h.1).2.1=1
  .rw[bw hs,bA,aG,aG,show((h.1,h.2.1,h.2.2.1,h.2.2.2.1,h.2.2.2.2):gx)=h from rfl,ak9 hX (by omega) I H hk hd hs,qc]
  .rw[b7 hs,bf,aL,ake];have ea:q7 m h=(if ((aq m h.1).2.2.1.length:Int)<=h.2.2.2.1 then (m,h,dH,2,())
    else (if wd m (qi (aq m h.1).2.2.1 h.2.2.2.1).1=dN h.1 h.2.1 then
     eu m (qi (aq m h.1).2.2.1 h.2.2.2.1).1 (if (aq m h.1).2.1=2 then (qi (aq m h.1).2.2.1 h.2.2.2.1).2.2.1 else (qi (aq m h.1).2.2.1 h.2.2.2.1).2.1,0,0,()) else m,(h.1,h.2.1,h.2.2.1,h.2.2.2.1+1,()),dH,0,())):=by
    unfold q7;rw[af (by omega),af hs]
   rw[ea];by_cases hf:((aq m h.1).2.2.1.length:Int)<=h.2.2.2.1
   .rw[aj hf,b7 (show ¬ (aq m h.1).2.1=0 by omega),bf,bw (show h.2.2.2.1>=((aq m h.1).2.2.1.length:Int) from hf),aG];rfl
   .have iT:=I.gW u0 u1 hfi.1 (show h.2.2.2.1<_ by omega);have he:List.getD (aq m h.1).2.2.1 (Int.toNat h.2.2.2.1) (0,0,0,())=qi (aq m h.1).2.2.1 h.2.2.2.1:=rfl;have hw:List.getD m.1 (Int.toNat (qi (aq m h.1).2.2.1 h.2.2.2.1).1) (0,0,0,())=wd m (qi (aq m h.1).2.2.1 h.2.2.2.1).1:=rfl;rw[af hf,b7 (show ¬ (aq m h.1).2.1=0 by omega),bf,b7 (show ¬ h.2.2.2.1>=((aq m h.1).2.2.1.length:Int) by omega),aL,fJ hfi.1 (by omega),aG,he,
     fJ iT.1.1 (by omega),aG,hw,eqW,qs (show -9223372036854775808<=h.1+1 by omega) (by omega),show((0:Int),h.1+1,h.2.1,())=dN h.1 h.2.1 from rfl]
    by_cases hm:wd m (qi (aq m h.1).2.2.1 h.2.2.2.1).1=dN h.1 h.2.1
    .rw[qf hm,aj hm,qs (by omega) (by omega),AJ,Kg (show(qi (aq m h.1).2.2.1 h.2.2.2.1).1.toNat<m.1.length by omega)];by_cases h2:(aq m h.1).2.1=2
     .rw[qf h2,aj h2];rfl
     .rw[qg h2,af h2];rfl
    .rw[qg hm,af hm,qs (by omega) (by omega)];rfl
 .rw[show((aq m h.1).1 != h.2.1)=true by rw[bH,b7 hd];rfl,aG];have ea:q7 m h=(m,h,dH,2,()):=by unfold q7;rw[aj hd]
  rw[ea];rfl
end
section
variable {X:Ext} (hX:fW X) {n:Nat}
include hX
theorem Qr(D:Den ctx)(n:Nat)(K0:Int->aF->Option ((Int×Unit)×aF×Unit))(K1:aF->Option ((Int×Unit)×aF×Unit))(t:Int)(m:aF)(hl:m.2.2.2.1.length<=1000):∀(i c:Nat),i<=m.2.2.2.1.length->i<c->
  JV D n K0 K1 c t ((i:Int)-1) m=if qU m.2.2.2.1 t i<0 then K1 m else K0 (qU m.2.2.2.1 t i) m
 | _,0,_,h2=>by omega
 | 0,c+1,_,_=>by
  simp only[JV,Vm];have rM:qU m.2.2.2.1 t 0 = -1:=rfl;rw[qg (by omega),rM,aj (by omega)]
 | i+1,c+1,h1,h2=>by
  have ih:=Qr D n K0 K1 t m hl i c (by omega) (by omega);simp only[JV,Vm];have rM:qU m.2.2.2.1 t (i+1)=if (m.2.2.2.1.getD i dC).1=t/\(m.2.2.2.1.getD i dC).2.2.2.2.1<0 then (i:Int) else qU m.2.2.2.1 t i:=rfl
  have e:(((i+1:Nat):Int)-1)=(i:Int):=by omega
  have hd:m.2.2.2.1.getD i (0,(0,0,0,()),0,0,0,(0,[],()),())=m.2.2.2.1.getD i dC:=rfl;rw[e,qf (by omega),ix (by omega),aG,eE,hd,qs (by omega) (by omega)];by_cases a:(m.2.2.2.1.getD i dC).1=t
  .rw[qf a,aG];by_cases b:(m.2.2.2.1.getD i dC).2.2.2.2.1<0
   .rw[aj ⟨a,b⟩]at rM;rw[qf b,rM,af (by omega)]
   .rw[af (fun q=>b q.2)]at rM;rw[qg b,rM];exact ih
  .rw[af (fun q=>a q.1)]at rM;rw[qg a,rM];exact ih
theorem Hg(l:List gi)(t:Int):∀i,-1<=qU l t i/\qU l t i<i
 | 0=>by simp[qU]
 | i+1=>by
  have:=Hg l t i;simp only[qU];split<;>omega
theorem Ql(hn:W+1<=n)(m:aF)(t:Int)(hl:m.2.2.2.1.length<=1000):Vo (DD X n) m t=some ((kI m.2.2.2.1 t,()),(m,())):=by
 obtain⟨n,rfl⟩:∃k,n=k+1:=⟨n-1,by omega⟩
 have hW:=d7;rw[adu hX];simp only[qlm,qln,qkk];rw[qs (by omega) (by omega)];refine cZ (Qr hX (DD X n) n _ _ t m hl m.2.2.2.1.length n (cq _) (by omega)) ?_;have:=Hg (X:=X) hX m.2.2.2.1 t m.2.2.2.1.length;unfold kI;by_cases h:qU m.2.2.2.1 t m.2.2.2.1.length<0
 .rw[aj h,show qU m.2.2.2.1 t m.2.2.2.1.length = -1 by omega];rfl
 .rw[af h];rfl
theorem Rs(l:List gi)(t:Int) : -1<=kI l t/\kI l t<l.length:=Hg (X:=X) hX l t _
theorem Kr(hn:W+2<=n)(m:aF)(t:Int)(r:fD)(hl:m.2.2.2.1.length<=1000)(ho:m.2.2.2.2.1.length<=1000)(hr:r.2.1.length<=1000):S8 (DD X n) m t r=some ((),(iD m t r,())):=by
 obtain⟨n,rfl⟩:∃k,n=k+1:=⟨n-1,by omega⟩
 have hW:=d7;have hb:=i_;have XC:=Rs hX m.2.2.2.1 t;rw[ae_ hX];simp only[qt5,q6g];rw[Ql hX (by omega) m t hl,qc];dsimp only;unfold iD;by_cases h:kI m.2.2.2.1 t<0
 .rw[qf h,aj h]
 .rw[qg h,af h,fJ (by omega) (by omega),aG,L0 hX (by omega) r (by omega),qc];dsimp only;rw[b8,fJ (by omega) (by omega),aG,qf (by omega),AJ,Kg (show(kI m.2.2.2.1 t).toNat<m.2.2.2.1.length by omega)];rfl
theorem N9(hn:W+2<=n)(m:aF)(t:Int)(r:fD)(t0:0<=t)(t1:t<m.2.1.length)(hl:m.2.2.2.1.length<=1000)(hr:r.2.1.length<=1000)(hp:0<=(ai m t).2.1/\(ai m t).2.1<=1000)(ho:0<=kI m.2.2.2.1 t) :
  S_ (DD X n) m t r=some ((),(eg m t r,())):=by
 obtain⟨n,rfl⟩:∃k,n=k+1:=⟨n-1,by omega⟩
 have hW:=d7;have XC:=Rs hX m.2.2.2.1 t;rw[aet hX];simp only[qrv,qsf];rw[Ql hX (by omega) m t hl,qc];dsimp only;rw[qf (by omega),fJ (by omega) (by omega),aG,L0 hX (by omega) r (by omega),qc];dsimp only;rw[b8,fJ (by omega) (by omega),aG,AJ,Kg (show(kI m.2.2.2.1 t).toNat<m.2.2.2.1.length by omega)];dsimp only;simp only[qqt,q0b];have ht:t.toNat<m.2.1.length:=by omega
 have hx:m.2.1.getD t.toNat ([],0,false,[],[],())=ai m t:=rfl;rw[fJ t0 t1,aG];simp only[AJ,Kg ht,hx,b8];rw[qs (by omega) (by omega)];unfold eg ir;rw[af (by omega)];rfl
theorem abE(hn:1<=n)(w:l_)(t:Int)(h0:0<=t/\t<=100)(h:w.2.1≠t+1):iM ctx (DD X n) (bk.mk 177 [bL.cm (Ty.int IntKind.i64) t]) [bL.val BL w] Ty.bool=some false:=by
 obtain⟨n,rfl⟩:∃k,n=k+1:=⟨n-1,by omega⟩
 have e:∀D:Den ctx,iM ctx D (bk.mk 177 [bL.cm (Ty.int IntKind.i64) t]) [bL.val BL w] Ty.bool=(OC D w t).bind fun r=>some r.1.1:=fun D=>by kernel_rfl
 rw[e,ahI hX];simp only[YJ,OY];rw[qs (by omega) (by omega),b7 h];rfl
theorem aki(hn:W+8<=n){m:aS}{k:Nat}{time:Int}{own lX:Int->Prop}(I:eY m k time own)(h1:1<=k)(hk:k<=3)(ht:time<=1000000){t:Int}(t0:0<=t)(t1:t<k)(hno:¬ own t){E:List ez}{r:fD}(hE:E.length<=1000)(hr:r.2.1.length<=1000)
  (I':eY (bJ m t ((aq m t).1+1,1,E,r,())) k time lX):V8 (DD X n) m t E r=some ((bJ m t ((aq m t).1+1,1,E,r,()),(t,(aq m t).1+1,0,0,()),true,()),()):=by
 obtain⟨n,rfl⟩:∃k,n=k+1:=⟨n-1,by omega⟩
 have hW:=d7;have hlen:=I.len;have mu:=I.dy;have UN:=(I.dz t t0 t1).seq;obtain⟨s1,s2,s3⟩:=Qq hX I hk;rw[ajD hX];simp only[q73,Po];rw[G0 hX (by omega) m s1 s2 s3,qc];dsimp only;rw[xK hX (by omega) I ht h1 (by omega),qc];dsimp only;rw[cJ,aL,qs (by omega) (by omega),lq hX (by omega),qc];dsimp only;rw[jF ⟨t0,by omega⟩,cJ,aL,ah8 hX (by omega) (by omega) (f:=fun _=>false) (fun w hw=>abE hX (by omega) w t (by omega) (by
  obtain⟨j,hj,rfl⟩:=nJ.1 hw;have e:m.1[j]=wd m (j:Int):=by unfold wd;rw[eE,qv hj]
  rw[e];rcases I.word (j:Int) (by omega) (by omega) with q | ⟨v,v0,v1,vo,vm,_⟩
  .have:=q.1;omega
  .rw[vm];simp only[dN];intro q;exact hno (by rw[show t=v by omega];exact vo))),qc]
 dsimp only;have lH:List.getD m.2.1 (Int.toNat t) (0,0,[],(0,[],()),())=aq m t:=rfl;rw[z6 hX,aL,fJ t0 (by omega),aG,qc];dsimp only;rw[qm4 hX (by omega) E (by omega),qc,L0 hX (by omega) r (by omega),qc];dsimp only;rw[fJ t0 (by omega),aG,lH,qs (by omega) (by omega)];have hm:=xK hX (n:=n) (by omega) I' ht h1 (by omega);rw[show((m.1,m.2.1.set t.toNat ((aq m t).1+1,1,E,(r.1,r.2.1,()),()),()):aS)=bJ m t ((aq m t).1+1,1,E,r,()) from rfl,hm,qc];dsimp only;rw[cJ,aL]
end
theorem aa9{m:aS}{h:gx}(e:(q7 m h).2.2.2.1=2):(q7 m h).1=m:=by
 unfold q7 at e⊢
 repeat' split at e
 all_goals first
  | rfl
  | (exfalso;revert e;decide)
  | skip
 all_goals simp_all
theorem aa_{m:aS}{h:gx}(e:(q7 m h).2.2.2.1=3):(q7 m h).1=bJ m h.1 ((aq m h.1).1,2,(aq m h.1).2.2):=by
 unfold q7 at e⊢
 repeat' split at e
 all_goals first
  | (exfalso;revert e;decide)
  | skip
 all_goals simp_all
theorem RQ{m:aF}{t:Int}{x:cU}(t0:0<=t)(t1:t<m.2.1.length)(r:fD)(h1:x.1=(ai m t).1)(h2:x.2.1=(ai m t).2.1):eg (cA m t x) t r=eg m t r:=by
 have hx:ai (cA m t x) t=x:=by rw[qT ⟨t0,t1⟩ t0,aj rfl]
 unfold eg;rw[hx,h1,h2];unfold ir;rw[show(cA m t x).2.2.2.1=m.2.2.2.1 from rfl];by_cases h:kI m.2.2.2.1 t<0
 .rw[aj h,aj h];unfold cA;dsimp only;rw[AJ]
 .rw[af h,af h];unfold cA;dsimp only;rw[AJ];rfl
section
variable {X:Ext} (hX:fW X) {n:Nat}
include hX
theorem RN{m:aS}{k:Nat}{x:cU}{t:Int}(T:jv m k x t):Bz x:=by
 have:=T.ops.1;have:=Ic hX T;have:=Ii hX T
 exact⟨by omega,by omega,by omega⟩
theorem abt(hn:W+10<=n){m:aF}(I:Inv m){t:Int}(t0:0<=t)(t1:t<m.2.1.length)(hs:(ai m t).2.2.2.2.1≠[])(Jl:m.2.2.1<=1000000):qng (DD X n) m t=some ((),(kH m t,())):=by
 obtain⟨n,rfl⟩:∃k,n=k+1:=⟨n-1,by omega⟩
 have hW:=d7;have T:=I.th t t0 t1;have ho:=T.At hs;have hsh:=RN hX T;have H:=T.d6 _ (mK hs);have UH:=I.n;have mu:=I.mem.dy;have ht:t.toNat<m.2.1.length:=by omega
 have hx:m.2.1.getD t.toNat ([],0,false,[],[],())=ai m t:=rfl;obtain⟨k,hk,_⟩:=I.call.jP t t0 t1 ho;have hoc:=I.call.nk hk;have UF:=hk.dS;have jN:=IX hX I;have Ap:=(IY hX I).o;have Aq:=T.pc;have hop:=T.ops.1;have u0:=H.t.1;have u1:=H.t.2;have hrl:=(I.mem.dz _ u0 u1).rl;rw[adF hX];simp only[qni,qw8,hx,b8,AJ,Kg ht];rw[fJ t0 t1,aG,alB hX (by omega) (ai m t) hs (by have:=hsh.2.2;omega),qc];dsimp only;rw[show((m.1.1,m.1.2.1,()):aS)=m.1 from rfl,abG hX (by omega) I.mem H (by omega) (by omega) Jl,qc];dsimp only;unfold kH;by_cases c1:(q7 m.1 (au (ai m t))).2.2.2.1=1
 .rw[qf c1,aj c1];by_cases hc:(au (ai m t)).1=t/\(ai m t).2.2.2.2.1.length=1
  .rw[aj hc,bw hc.1,bA,qf (by omega),It hX (by omega) _ hsh,qc];dsimp only;rw[aG];rfl
  .rw[af hc];have e:(bif decide ((au (ai m t)).1=t) then decide (((ai m t).2.2.2.2.1.length:Int)=1) else false)=false:=by
    by_cases a:(au (ai m t)).1=t
    .rw[bw a,bA,b7 (fun q=>hc ⟨a,by omega⟩)]
    .rw[b7 a];rfl
   rw[e,aL,Iu hX (by omega) _ hsh hs,qc];dsimp only;rw[aG];rfl
 rw[qg c1,af c1];by_cases c2:(q7 m.1 (au (ai m t))).2.2.2.1=2
 .rw[qf c2,aj c2,alA hX (by omega) _ hsh hs,qc];dsimp only;rw[aG,aa9 c2];by_cases hne:(au (ai m t)).1≠t
  .rw[show((au (ai m t)).1 != t)=true by rw[bH,b7 hne];rfl,aG,aj hne];rfl
  .have he:(au (ai m t)).1=t:=by omega
   have hd:m.1.2.1.getD t.toNat (0,0,[],(0,[],()),())=aq m.1 t:=rfl;rw[show((au (ai m t)).1 != t)=false by rw[bH,bw he];rfl,aL,af hne,aG,fJ t0 (by omega),aG,hd];by_cases hy:(aq m.1 t).2.1=2
   .rw[qf hy,aj hy];have hE:=N9 hX (n:=n) (by omega) (cA m t ((jh (ai m t)).1,(jh (ai m t)).2.1,(jh (ai m t)).2.2.1,(jh (ai m t)).2.2.2.1,[],())) t (aq m.1 t).2.2.2.1 t0 (by rw[o5];exact t1) (by show m.2.2.2.1.length<=1000;omega) (by rw[he]at hrl;omega)
     (by rw[qT ⟨t0,t1⟩ t0,aj rfl];show 0<=(ai m t).2.1/\(ai m t).2.1<=1000;omega) (by show 0<=kI m.2.2.2.1 t;omega)
    rw[RQ (x:=((jh (ai m t)).1,(jh (ai m t)).2.1,(jh (ai m t)).2.2.1,(jh (ai m t)).2.2.2.1,[],())) t0 t1 _ rfl rfl]at hE;refine cZ (ew (fun z=>qd z _) hE) ?_;rw[qc];rfl
   .rw[qg hy,af hy,aG];rfl
 rw[qg c2,af c2];by_cases c3:(q7 m.1 (au (ai m t))).2.2.2.1=3
 .rw[qf c3,aj c3,aa_ c3];have iJ:(bJ m.1 (au (ai m t)).1 ((aq m.1 (au (ai m t)).1).1,2,(aq m.1 (au (ai m t)).1).2.2)).2.1.length=m.1.2.1.length:=HB _ _ _;have hd:List.getD (bJ m.1 (au (ai m t)).1 ((aq m.1 (au (ai m t)).1).1,2,(aq m.1 (au (ai m t)).1).2.2)).2.1 (au (ai m t)).1.toNat (0,0,[],(0,[],()),())=((aq m.1 (au (ai m t)).1).1,2,(aq m.1 (au (ai m t)).1).2.2):=by have:=n7 (m:=m.1) (u:=(au (ai m t)).1) (t:=(au (ai m t)).1) (d:=((aq m.1 (au (ai m t)).1).1,2,(aq m.1 (au (ai m t)).1).2.2)) (by omega) u0;rw[aj rfl]at this;exact this
  rw[iJ,fJ u0 (by omega),aG,hd];have hS:=Kr hX (n:=n) (by omega) (cH m (bJ m.1 (au (ai m t)).1 ((aq m.1 (au (ai m t)).1).1,2,(aq m.1 (au (ai m t)).1).2.2))) (au (ai m t)).1 (aq m.1 (au (ai m t)).1).2.2.2.1 (by show m.2.2.2.1.length<=1000;omega) Ap (by omega);refine cZ (ew (fun z=>qd z _) hS) ?_;rw[qc];dsimp only;rw[Iu hX (by omega) _ hsh hs,qc];dsimp only;have e2:(iD (cH m (bJ m.1 (au (ai m t)).1 ((aq m.1 (au (ai m t)).1).1,2,(aq m.1 (au (ai m t)).1).2.2))) (au (ai m t)).1 (aq m.1 (au (ai m t)).1).2.2.2.1).2.1=m.2.1:=by unfold iD;split<;>rfl
  rw[e2,fJ t0 t1,aG,<-e2];rfl
 rw[qg c3,af c3,Iu hX (by omega) _ hsh hs,qc];dsimp only;rw[aG];rfl
end
theorem HX(m:aF)(t u:Int)(x:cU)(r:fD):iD (cA m t x) u r=cA (iD m u r) t x:=by
 unfold iD;rw[show(cA m t x).2.2.2.1=m.2.2.2.1 from rfl];by_cases h:kI m.2.2.2.1 u<0
 .rw[aj h,aj h]
 .rw[af h,af h];rfl
theorem xT(m:aF)(u:Int)(r:fD):(iD m u r).2.1=m.2.1:=by unfold iD;split<;>rfl
section
variable {X:Ext} (hX:fW X) {n:Nat}
include hX
theorem aln(hn:W+15<=n){m:aF}(I:Inv m){t:Int}(t0:0<=t)(t1:t<m.2.1.length)(ho:(ai m t).2.2.1=true)(hs:(ai m t).2.2.2.2.1=[])(oW:(aq m.1 t).1+1<=m.2.2.1)(Jl:m.2.2.1<=1000000) :
  qqa (DD X n) m t=some ((true,()),(tM m t,())):=by
 obtain⟨n,rfl⟩:∃k,n=k+1:=⟨n-1,by omega⟩
 have hW:=d7;have hb:=i_;have IR:=Ss I t0 t1 ho hs oW;have T:=I.th t t0 t1;have hop:=T.op ho;have hsh:=RN hX T;have i9:=zT (t:=t) hs;have hno:¬ bx m t:=by unfold bx;rw[i9];simp
 obtain⟨q,B,hq⟩:=T.read ho i9;have nN:=T.along ho;obtain⟨Ji,zB⟩:=Kc hop T.got nN;have oC:De (ai m t)=q/\(0<=q/\q<20)/\q∉g6 (ai m t).2.2.2.1/\List.length (ai m t).2.2.2.1<8:=by
  rcases zB with h | ⟨q',B',h,h2,h3,h4,h5⟩
  .rw[hq]at h;have:=ew List.length h.1;simp at this
  .rw[hq]at h;have:=F5 h;simp only[eZ]at this;obtain⟨rfl,_⟩:=this;exact⟨h2,h3,h4,h5⟩
 obtain⟨oC,qA,Xz,hlen⟩:=oC;have UH:=I.n;have hwl:=I.mem.len;have mu:=I.mem.dy;have ht:t.toNat<m.2.1.length:=by omega
 have hx:m.2.1.getD t.toNat ([],0,false,[],[],())=ai m t:=rfl;have Xr:List.getD (ai m t).1 (Int.toNat (ai m t).2.1) (0,0,0,())=aV (ai m t):=rfl;have Aq:=T.pc;have oD:=T.on ho;have al5:=T.ops.1;obtain⟨k,hk,_⟩:=I.call.jP t t0 t1 ho;have hoc:=I.call.nk hk;have UF:=hk.dS;have jN:=IX hX I;have Ap:=(IY hX I).o;rw[aec hX];simp only[qqg,q0c,hx,b8,AJ,Kg ht,Xr];rw[fJ t0 t1,aG,fJ Aq.1 oD,aG,aaB hX (by omega) (by omega),qc];dsimp only;have hnp:BZ (aV (ai m t)) (ai m t).2.2.2.1=q:=by unfold BZ;rw[aj hop];exact oC
 have mH:m.1.1.getD q.toNat (0,0,0,())=wd m.1 q:=rfl;rw[hnp,qf qA.1,fJ qA.1 (by omega),aG,mH];have Es:iw m (ai m t)=(ai m t).2.2.2.1++[(q,(wd m.1 q).1,())]:=by unfold iw;rw[oC]
 unfold tM at IR⊢;rw[oC,Es]at IR⊢;by_cases hw:(wd m.1 q).2.1≠0
 .rw[aj hw];have xx:(wd m.1 q).2.1<=100/\0<=(wd m.1 q).2.1:=by
   rcases I.mem.word q qA.1 qA.2 with z | ⟨v,v0,v1,vo,vm,_⟩
   .exact absurd z.1 hw
   .rw[vm];simp only[dN];omega
  rw[show((wd m.1 q).2.1 != 0)=true by rw[bH,b7 hw];rfl,aG,qs (by omega) (by omega)];rw[show(((ai m t).1,(ai m t).2.1,(ai m t).2.2.1,(ai m t).2.2.2.1,(ai m t).2.2.2.2):cU)=ai m t from rfl,It hX (by omega) _ hsh,qc];rfl
 have hw0:(wd m.1 q).2.1=0:=by omega
 rw[af hw]at IR⊢;rw[show((wd m.1 q).2.1 != 0)=false by rw[bH,bw hw0];rfl,aL,qf (by omega)];have hgl:List.length ((ai m t).2.2.2.1++[(q,(wd m.1 q).1,())])<=1000:=by rw[cT,nI];omega
 rw[ajP hX (by omega) (by omega),qc];dsimp only;generalize hg':(ai m t).2.2.2.1++[(q,(wd m.1 q).1,())]=fF at *;have uk:(m.1,m.2.1.set t.toNat ((ai m t).1,(ai m t).2.1,(ai m t).2.2.1,fF,(ai m t).2.2.2.2),m.2.2)=cA m t (rR (ai m t) fF):=rfl;by_cases hpf:(gj (aV (ai m t)) fF).2.1=false
 .rw[aj hpf,hpf,i6,aG,uk]
 .rw[af hpf]at IR⊢;rw[show(gj (aV (ai m t)) fF).2.1=true by simpa using hpf,cJ,aL];have hrl:=abK (aV (ai m t)) fF;by_cases dF:(gj (aV (ai m t)) fF).1.1=true
  .rw[aj dF,dF,aG,uk];have hS:=Kr hX (n:=n) (by omega) (cA m t (rR (ai m t) fF)) t (gj (aV (ai m t)) fF).1.2.1 (by show m.2.2.2.1.length<=1000;omega) Ap (by omega);refine cZ (ew (fun z=>qd z _) hS) ?_;rw[qc];dsimp only;have e1:(iD (cA m t (rR (ai m t) fF)) t (gj (aV (ai m t)) fF).1.2.1).2.1.length=m.2.1.length:=by rw[xT,o5]
   have fM:ai (iD m t (gj (aV (ai m t)) fF).1.2.1) t=ai m t:=zR (xT _ _ _) t;have UM:iD m t (gj (aV (ai m t)) fF).1.2.1=(m.1,m.2.1,m.2.2.1,m.2.2.2.1.set k.toNat ((ay m.2.2.2.1 k).1,(ay m.2.2.2.1 k).2.1,(ay m.2.2.2.1 k).2.2.1,m.2.2.1,(ay m.2.2.2.1 k).2.2.2.2.1,(gj (aV (ai m t)) fF).1.2.1,()),m.2.2.2.2.1++[k],m.2.2.2.2.2):=by unfold iD;rw[hoc,af (by omega)];rfl
   have KN:(iD (cA m t (rR (ai m t) fF)) t (gj (aV (ai m t)) fF).1.2.1).2.2.2.1=(iD m t (gj (aV (ai m t)) fF).1.2.1).2.2.2.1:=by rw[HX];rfl
   have Xq:0<=kI (iD m t (gj (aV (ai m t)) fF).1.2.1).2.2.2.1 t:=by
    have US:m3 m t=none:=by unfold m3;rw[af (fun z=>by rw[i9]at z;cases z.1)]
    have gY:(gj (aV (ai m t)) fF).1.2.1.2.1.length<=20:=hrl.1
    -- zb call is open still
    have gk:ay (m.2.2.2.1.set k.toNat ((ay m.2.2.2.1 k).1,(ay m.2.2.2.1 k).2.1,(ay m.2.2.2.1 k).2.2.1,m.2.2.1,(ay m.2.2.2.1 k).2.2.2.2.1,(gj (aV (ai m t)) fF).1.2.1,())) k=((ay m.2.2.2.1 k).1,(ay m.2.2.2.1 k).2.1,(ay m.2.2.2.1 k).2.2.1,m.2.2.1,(ay m.2.2.2.1 k).2.2.2.2.1,(gj (aV (ai m t)) fF).1.2.1,()):=by rw[DF hk.dS hk.dS.1,aj rfl]
    have key:∀(l:List gi)(j:Int),0<=j->j<l.length->(ay l j).1=t->(ay l j).2.2.2.2.1<0->∀i:Nat,j<i->0<=qU l t i:=by
     intro l j j0 j1 h1 h2 i
     induction i with
     | zero=>intro h;omega
     | succ i ih=>
      intro h;simp only[qU];split
      .omega
      .next hc=>
       refine ih ?_;by_cases e:j=(i:Int)
       .exfalso;refine hc ?_;rw[e]at h1 h2;rw[tE]at h1 h2;exact⟨h1,h2⟩
       .omega
    rw[UM];dsimp only;unfold kI;refine key _ k UF.1 (by rw[b8];exact UF.2) ?_ ?_ _ (by rw[b8];exact UF.2)
    .rw[gk];exact hk.t
    .rw[gk];dsimp only;have:=hk.fin;omega
   have hE:=N9 hX (n:=n) (by omega) (iD (cA m t (rR (ai m t) fF)) t (gj (aV (ai m t)) fF).1.2.1) t (gj (aV (ai m t)) fF).1.2.1 t0 (by rw[e1];exact t1)
    (by rw[KN,UM];dsimp only;rw[b8];omega) (by omega) (by
     rw[HX,qT (by rw[xT];exact⟨t0,t1⟩) t0,aj rfl];show 0<=(ai m t).2.1/\(ai m t).2.1<=1000;omega) (by rw[KN];exact Xq)
   refine cZ (ew (fun z=>qd z _) hE) ?_;rw[qc];dsimp only;have:=RQ (m:=iD m t (gj (aV (ai m t)) fF).1.2.1) (t:=t) (x:=rR (ai m t) fF) t0 (by rw[xT];exact t1) (gj (aV (ai m t)) fF).1.2.1 (by rw[fM];rfl) (by rw[fM];rfl);rw[HX,this]
  .rw[af dF]at IR⊢;rw[show(gj (aV (ai m t)) fF).1.1=false by simpa using dF,aL];have hB:=aki hX (n:=n) (by omega) I.mem (by omega) (by omega) Jl t0 t1 hno (E:=(gj (aV (ai m t)) fF).1.2.2.1) (r:=(gj (aV (ai m t)) fF).1.2.1) (by omega) (by omega) (by
    have:=IR.mem;rw[o5]at this;exact this)
   refine cZ (ew (fun z=>qd z _) hB) ?_;rw[qc];dsimp only;rw[aG];have hP:=It hX (n:=n) (by omega) (rR (ai m t) fF) ⟨hsh.1,hgl,hsh.2.2⟩ (t,(aq m.1 t).1+1,0,0,());refine cZ (ew (fun z=>qd z _) hP) ?_;rw[qc];rfl
theorem RM{m:aF}{t:Int}:(vv m t).2.2.1=m.2.2.1+1:=by
 have hs:∀(m:aF)(u:Int)(r:fD),(iD m u r).2.2.1=m.2.2.1:=fun m u r=>by unfold iD;split<;>rfl
 have he:∀(m:aF)(u:Int)(r:fD),(eg m u r).2.2.1=m.2.2.1:=fun m u r=>by unfold eg ir;split<;>rfl
 unfold vv;split
 .rfl
 .split
  .unfold kH;split
   .split<;>rfl
   .split
    .split
     .rfl
     .split
      .rw[he];rfl
      .rfl
    .split
     .show(iD _ _ _).2.2.1=_;rw[hs];rfl
     .rfl
  .unfold tM;split
   .rfl
   .split
    .rfl
    .split
     .rw[he,hs];rfl
     .rfl
theorem aaQ(hn:W+17<=n){m:aF}(I:Inv m){t:Int}(t0:0<=t)(t1:t<m.2.1.length)(ht:m.2.2.1<=100000)(hd:(ai m t).2.1=(ai m t).1.length):J8 (DD X n) m t=some ((m,false,()),()):=by
 obtain⟨n,rfl⟩:∃k,n=k+2:=⟨n-2,by omega⟩
 have UH:=I.n;have hx:m.2.1.getD t.toNat ([],0,false,[],[],())=ai m t:=rfl;rw[PS hX];simp only[UY,Gn,hx];rw[IM hX (by omega) I ht,qc];dsimp only;rw[cJ,aL,qs (by omega) (by omega),lq hX (by omega),qc];dsimp only;rw[jF ⟨t0,by omega⟩,cJ,aL,fJ t0 t1,aG,qub hX];simp only[Vz,qun];rw[qc];dsimp only;rw[bw hd,bA,aG,V0 hX (by omega) (IY hX I),qc]
theorem alm(hn:W+17<=n){m:aF}(I:Inv m){t:Int}(t0:0<=t)(t1:t<m.2.1.length)(ht:m.2.2.1<100000)(hd:(ai m t).2.1<(ai m t).1.length):J8 (DD X n) m t=some ((vv m t,true,()),()):=by
 obtain⟨n,rfl⟩:∃k,n=k+2:=⟨n-2,by omega⟩
 have hW:=d7;have hb:=i_;have UH:=I.n;have hti:=I.time;have hx:m.2.1.getD t.toNat ([],0,false,[],[],())=ai m t:=rfl;have IS:=Su I t0 t1 hd;have hts:=RM hX (m:=m) (t:=t);have hok:=IM hX (n:=n+1) (by omega) IS (by omega);have jN:=IX hX I;have T:=I.th t t0 t1;have Aq:=T.pc;rw[PS hX];simp only[UY,Gn,hx];rw[IM hX (by omega) I (by omega),qc];dsimp only;rw[cJ,aL,qs (show -9223372036854775808<=(m.2.1.length:Int)-1 by omega) (by omega),lq hX (by omega),qc];dsimp only;rw[jF ⟨t0,by omega⟩,cJ,aL,fJ t0 t1,aG,qub hX];simp only[Vz,qun];rw[qc];dsimp only;rw[b7 (show ¬ (ai m t).2.1=(ai m t).1.length by omega),bf,b7 (show ¬ m.2.2.1=100000 by omega),aL,V0 hX (by omega) (IY hX I),qc];dsimp only;rw[fJ t0 t1,aG,hx,qs (show -9223372036854775808<=m.2.2.1+1 by omega) (by omega)];unfold vv at hok⊢;by_cases h1:(ai m t).2.2.1=false
 .rw[aj h1]at hok⊢;rw[h1,i6,aG,fJ Aq.1 hd,aG,qf (by omega)];refine cZ (ew (fun z=>qd z _) hok) ?_;rw[qc];dsimp only;rw[cJ,aL];rfl
 rw[af h1]at hok⊢;have tV:(ai m t).2.2.1=true:=by simpa using h1
 rw[tV,cJ,aL];by_cases h2:(ai m t).2.2.2.2.1≠[]
 .have hlp:0<(ai m t).2.2.2.2.1.length:=pF.2 h2;rw[aj h2]at hok⊢;rw[qf (by omega)];have hA:=abt hX (n:=n+1) (by omega) (I0 I) t0 t1 h2 (by show m.2.2.1+1<=1000000;omega);refine cZ (ew (fun z=>qd z _) hA) ?_;rw[qc];dsimp only;refine cZ (ew (fun z=>qd z _) hok) ?_;rw[qc];dsimp only;rw[cJ,aL]
 .have s8:(ai m t).2.2.2.2.1=[]:=by simpa using h2
  rw[af h2]at hok⊢;rw[qg (by rw[s8];simp)];have hA:=aln hX (n:=n+1) (by omega) (I0 I) t0 t1 tV s8 (by
   have:=(I.mem.dz t t0 t1).seq.2;show(aq m.1 t).1+1<=m.2.2.1+1;omega) (by show m.2.2.1+1<=1000000;omega)
  refine cZ (ew (fun z=>qd z _) hA) ?_;rw[qc];dsimp only;rw[cJ,aL];refine cZ (ew (fun z=>qd z _) hok) ?_;rw[qc];dsimp only;rw[cJ,aL]
end
def jr(m:aF)(t:Int):aF:=if (ai m t).2.1<(ai m t).1.length then vv m t else m
def rT(m:aF)(who:List Int):aF:=who.foldl jr m
theorem adk(m:aF)(t:Int):(vv m t).2.1.length=m.2.1.length:=by
 have hs:∀(m:aF)(u:Int)(r:fD),(iD m u r).2.1=m.2.1:=xT;have he:∀(m:aF)(u:Int)(r:fD),(eg m u r).2.1.length=m.2.1.length:=fun m u r=>by
  unfold eg;rw[o5];unfold ir;split<;>rfl
 unfold vv;split
 .unfold pR;rw[o5];rfl
 .split
  .unfold kH;split
   .split<;>(rw[o5];rfl)
   .split
    .split
     .rw[o5];rfl
     .split
      .rw[he];rfl
      .rw[o5];rfl
    .split
     .rw[o5,hs];rfl
     .rw[o5];rfl
  .unfold tM;split
   .rw[o5];rfl
   .split
    .rw[o5];rfl
    .split
     .rw[he,hs];rfl
     .rw[o5];rfl
theorem Fp(m:aF)(t:Int):(jr m t).2.1.length=m.2.1.length:=by
 unfold jr;split
 .exact adk m t
 .rfl
theorem ac_(who:List Int):∀m:aF,(rT m who).2.1.length=m.2.1.length:=by
 induction who with
 | nil=>intro m;rfl
 | cons t who ih=>intro m;show(rT (jr m t) who).2.1.length=_;rw[ih,Fp]
theorem xX{m:aF}(I:Inv m){t:Int}(t0:0<=t)(t1:t<m.2.1.length):Inv (jr m t):=by
 unfold jr;split
 .next h=>exact Su I t0 t1 h
 .exact I
section
variable {X:Ext} (hX:fW X) {n:Nat}
include hX
theorem Bk(m:aF)(t:Int):m.2.2.1<=(jr m t).2.2.1/\(jr m t).2.2.1<=m.2.2.1+1:=by
 unfold jr;split
 .rw[RM hX];omega
 .omega
theorem Kq(hn:W+17<=n){m:aF}(I:Inv m){t:Int}(t0:0<=t)(t1:t<m.2.1.length)(ht:m.2.2.1<100000):J8 (DD X n) m t=some ((jr m t,decide ((ai m t).2.1<(ai m t).1.length),()),()):=by
 unfold jr;by_cases h:(ai m t).2.1<(ai m t).1.length
 .rw[aj h,bw h];exact alm hX hn I t0 t1 ht h
 .rw[af h,b7 h];have:=(I.th t t0 t1).pc;exact aaQ hX hn I t0 t1 (by omega) (by omega)
theorem acH(who:List Int):∀{m:aF},Inv m->(∀t∈who,0<=t/\t<m.2.1.length)->Inv (rT m who)/\(rT m who).2.2.1<=m.2.2.1+who.length/\m.2.2.1<=(rT m who).2.2.1:=by
 induction who with
 | nil=>intro m I _;exact⟨I,by show m.2.2.1<=_;simp,eD _⟩
 | cons t who ih=>
  intro m I h;have ht:=h t e8;have hg:=Bk hX m t;have:=ih (xX I ht.1 ht.2) (fun u hu=>by rw[Fp];exact h u (cF _ hu));refine⟨this.1,?_,?_⟩
  .show(rT (jr m t) who).2.2.1<=_;rw[ct];have:=this.2.1;omega
  .show _<=(rT (jr m t) who).2.2.1;have:=this.2.2;omega
theorem Ny(N n:Nat)(hN:W+17<=N)(K:aF->aF->Option ((aF×Unit)×Unit))(who:List Int)(hl:who.length<=2000)(z:aF):∀(c i:Nat)(m:aF),i<=who.length->who.length-i<c->Inv m->(∀t∈who,0<=t/\t<m.2.1.length)->m.2.2.1+(who.length-i:Nat)<=100000->
  TX (DD X N) n K c who (who.length:Int) (i:Int) m z=K (rT m (who.drop i)) z
 | 0,i,_,_,h2,_,_,_=>by omega
 | c+1,i,m,h1,h2,I,hw,ht=>by
  simp only[TX,q82];by_cases hi:i<who.length
  .have hr:=hw _ (eB hi);have hg:=Bk hX m who[i];have ih:=Ny N n hN K who hl z c (i+1) (jr m who[i]) (by omega) (by omega) (xX I hr.1 hr.2) (fun t h=>by rw[Fp];exact hw t h) (by omega);rw[qf (by omega),ix hi,aG,eE,qv hi,qu (by omega),Kq hX (by omega) I hr.1 hr.2 (by omega),qc];dsimp only;rw[ih,uT hi];rfl
  .rw[qg (by omega),uY hi];rfl
theorem ali(hn:W+18<=n){m:aF}(I:Inv m)(who:List Int)(hl:who.length<=2000)(hw:∀t∈who,0<=t/\t<m.2.1.length)(ht:m.2.2.1+who.length<=100000):Gw (DD X n) m who=some ((rT m who,()),()):=by
 obtain⟨n,rfl⟩:∃k,n=k+1:=⟨n-1,by omega⟩
 have hW:=d7;rw[aar hX];simp only[Gz,GF,q5k];rw[V0 hX (by omega) (IY hX I),qc];dsimp only;rw[qg (by omega)];refine cZ (Ny hX n n (by omega) _ who hl _ n 0 m (e7 _) (by omega) I hw (by omega)) ?_;rw[jW];rfl
end
def o7(r:qp):List Int:=(List.range 20).map fun p:Nat=>b_ r (p:Int)
def dR(r:qp)(L:List (List cL)):aF:=(((o7 r).map fun v=>((v,0,0,()):l_),List.replicate L.length dD,()),L.map fun ops=>((ops,0,false,[],[],()):cU),0,[],[],r,())
structure iF (L:List (List cL)):Prop where
 n:1<=L.length/\L.length<=3
 ops:∀ops∈L,ops.length<=4/\∀o∈ops,di o=true
theorem uW(r:qp):(o7 r).length=20:=by unfold o7;simp
theorem AP(r:qp){p:Nat}(h:p<20):(o7 r).getD p 0=b_ r (p:Int):=by unfold o7;rw[qv (by simp[h])];simp
theorem QF{a b:List Int}(ha:a.length=20)(hb:b.length=20)(h:∀p:Nat,p<20->a.getD p 0=b.getD p 0):a=b:=by
 apply Cb (by omega);intro p h1 h2;have:=h p (by omega)
 rwa [qv h1,qv h2]at this
theorem Me{r:qp}(hr:aW r){L:List (List cL)}(hL:iF L):Inv (dR r L):=by
  have wZ:=hL.n;have j7:(dR r L).2.1.length=L.length:=by unfold dR;simp
  have mH:∀p:Int,0<=p->p<20->wd (dR r L).1 p=(b_ r p,0,0,()):=by intro p p0 p1;unfold wd dR;dsimp only;rw[qv (by rw[jC,uW];omega),yl];have:=AP r (p:=p.toNat) (by omega);rw[qv (by rw[uW];omega)]at this;rw[this,show((p.toNat:Nat):Int)=p by omega]
  have lH:∀t:Int,aq (dR r L).1 t=dD:=by intro t;unfold aq dR;dsimp only;rw[FY,vF];split<;>rfl
  have xo:∀t:Int,0<=t->t<L.length->∃ops∈L,ai (dR r L) t=(ops,0,false,[],[],()):=by
    intro t t0 t1;have hlt:t.toNat<L.length:=by omega
    refine⟨L[t.toNat],eB _,?_⟩;unfold ai dR;dsimp only;rw[qv (by simpa using hlt),yl]
  have hno:∀t:Int,0<=t->t<L.length->¬ bx (dR r L) t:=by intro t t0 t1;obtain⟨ops,_,e⟩:=xo t t0 t1;unfold bx;rw[e];simp[bC]
  refine⟨by rw[j7];exact hL.n,by show(0:Int)<=0;omega,?_,?_,?_,?_,hr⟩
  . rw[j7]
    refine⟨by unfold dR;simp[uW],by unfold dR;simp,?_,?_,?_,?_,?_⟩
    . intro t _ _
      rw[lH];exact⟨List.Pairwise.nil,by simp[dD],fun e he=>by simp[dD]at he,by show(0:Int)<=0/\(0:Int)<=0;omega,⟨fun _=>rfl,fun h=>by simp[dD]at h⟩,by simp[dD]⟩
    . intro p p0 p1
      left;rw[mH p p0 p1];have:=B3 hr p ⟨p0,p1⟩;exact⟨rfl,rfl,this.1,by dsimp only;omega⟩
    . intro t _ _ e
      rw[lH]at e;simp[dD]at e
    . intro t t0 t1 e
      exact absurd e (hno t t0 t1)
    . intro t _ _ e
      rw[lH]at e;simp[dD]at e
  . intro t t0 t1
    rw[j7]at t1⊢;obtain⟨ops,ho,e⟩:=xo t t0 t1;rw[e];have h2:=hL.ops ops ho
    exact { ops:=h2,pc:=⟨eD _,by dsimp only;omega⟩,on:=fun q=>(by cases q),off:=fun _=>⟨rfl,rfl⟩,got:=fun g hg=>by simp at hg,st:=.inl rfl,d6:=fun k hk=>by simp at hk,own:=fun k hk=>by simp at hk,
            along:=fun q=>(by cases q),read:=fun q=>(by cases q),plan:=fun q=>by simp[bC]at q }
  . rw[j7]
    refine⟨fun k a b=>?_,fun j k a b c=>?_,fun t t0 t1=>?_,fun t t0 t1 e=>?_,fun t t0 t1 _ k a b=>?_,fun t k _ _ hk=>?_,fun k hk=>?_,?_,?_,fun k a b=>?_⟩
    . simp[dR]at b;omega
    . simp[dR]at c;omega
    . obtain⟨ops,_,e⟩:=xo t t0 t1
      rw[e];simp[dR,wj]
    . obtain⟨ops,_,e2⟩:=xo t t0 t1
      rw[e2]at e;cases e
    . simp[dR]at b;omega
    . have:=hk.dS
      simp[dR]at this;omega
    . simp[dR]at hk
    . exact List.nodup_nil
    . exact List.Pairwise.nil
    . simp[dR]at b;omega
  . refine⟨r,hr,iG.nil r,fun p p0 p1=>?_⟩
    rw[u9 (by rw[mH p p0 p1]),mH p p0 p1]
section
variable {X:Ext} (hX:fW X) {n:Nat}
include hX
theorem SC(D:Den ctx)(n:Nat)(K:aS->aS->Option ((aS×Bool×Unit)×Unit))(ws:List Int)(hl:ws.length<=1000)(z:aS)(d:List nv×Unit):∀(c i:Nat),i<=ws.length->ws.length-i<c->
  TG D n K c (ws.length:Int) (i:Int) z ((ws.take i).map (fun v=>((v,0,0,()):l_)),d) ws=K z (ws.map (fun v=>((v,0,0,()):l_)),d)
 | 0,i,_,h2=>by omega
 | c+1,i,h0,h2=>by
  have hb:=i_;simp only[TG,YR];by_cases hi:i<ws.length
  .have ih:=SC D n K ws hl z d c (i+1) (by omega) (by omega);rw[qf (by omega),ix hi,aG,eE,qv hi,qu (by omega)];rw[qf (by rw[jC,eR];omega)];rw[mR hi,pG]at ih;exact ih
  .rw[qg (by omega),show ws.take i=ws from jT (by omega)]
theorem Rg(hn:W+6<=n){r:qp}(hr:aW r):TE (DD X n) r=some ((o7 r,()),()):=by obtain⟨ws,h1,h2,h3⟩:=acL hX hn hr;rw[h3,QF h1 (uW r) (fun p hp=>by rw[h2 p hp,AP r hp];rfl)]
theorem ack(hn:W+8<=n){r:qp}(hr:aW r){L:List (List cL)}(hL:iF L):ZM (DD X n) r (L.length:Int)=some (((dR r L).1,true,()),()):=by
 obtain⟨n,rfl⟩:∃k,n=k+1:=⟨n-1,by omega⟩
 have hW:=d7;have hb:=i_;have wZ:=hL.n;have I:=Me hr hL;have j7:(dR r L).2.1.length=L.length:=by unfold dR;simp
 rw[aiP hX];simp only[ZX,Z9,qyp];rw[lq hX (by omega),qc];dsimp only;rw[jF ⟨by omega,by omega⟩,cJ,aL,show(decide (0<=(L.length:Int))&&decide ((L.length:Int)<=(L.length:Int))&&decide ((L.length:Int)<=(ga:Int)))=true by simp;omega,aG,Rg hX (by omega) hr,qc];dsimp only;refine cZ (SC hX (DD X n) n _ (o7 r) (by rw[uW];omega) ([],[],()) (List.replicate L.length dD,()) n 0 (e7 _) (by rw[uW];omega)) ?_;simp only[q8y];have hm:=xK hX (n:=n) (by omega) I.mem (by show(0:Int)<=1000000;omega) (by rw[j7];omega) (by rw[j7];omega);refine cZ (ew (fun z=>qd z _) hm) ?_;rw[qc];dsimp only;rw[cJ,aL];rfl
theorem Rn(N n:Nat)(hN:2<=N)(K:Bool->aF->aF->Option ((aF×Bool×Unit)×Unit))(L:List (List cL))(hl:L.length<=1000)(h1:∀ops∈L,ops.length<=1000)(b:Bool)(z:aF)(a:aS)(e:Int×List gi×List Int×qp×Unit):∀(c i:Nat),i<=L.length->L.length-i<c->
  Tb (DD X N) n K c b L (L.length:Int) (i:Int) z (a,(L.take i).map (fun ops=>((ops,0,false,[],[],()):cU)),e)=K b z (a,L.map (fun ops=>((ops,0,false,[],[],()):cU)),e)
 | 0,i,_,h2=>by omega
 | c+1,i,h0,h2=>by
  have hb:=i_;simp only[Tb,qsc];by_cases hi:i<L.length
  .have ih:=Rn N n hN K L hl h1 b z a e c (i+1) (by omega) (by omega);have hd:=h1 _ (eB hi);obtain⟨N,rfl⟩:∃k,N=k+1:=⟨N-1,by omega⟩
   rw[qf (by omega),ix hi,aG,eE,qv hi,qu (by omega),afD hX];simp only[qvy,q89];rw[qts hX (by omega) _ (by omega),qc,qc];dsimp only;rw[qf (by rw[jC,eR];omega)];rw[mR hi,pG]at ih;exact ih
  .rw[qg (by omega),show L.take i=L from jT (by omega)]
theorem abq(hn:W+11<=n){r:qp}(hr:aW r){L:List (List cL)}(hL:iF L):qtv (DD X n) r L=some ((dR r L,true,()),()):=by
 obtain⟨n,rfl⟩:∃k,n=k+1:=⟨n-1,by omega⟩
 have hW:=d7;have wZ:=hL.n;have I:=Me hr hL;rw[ae9 hX];simp only[qt4,qui,qqp];rw[ack hX (by omega) hr hL,qc,U4 hX (by omega) hr,qc];dsimp only;refine cZ (Rn hX n n (by omega) _ L (by omega) (fun ops h=>by have:=(hL.ops ops h).1;omega) true (([],[],()),[],0,[],[],([],0,()),()) (dR r L).1 (0,[],[],r,()) n 0 (e7 _) (by omega)) ?_;simp only[qyl];have hm:=IM hX (n:=n) (by omega) I (by show(0:Int)<=100000;omega);rw[cJ,aL];refine cZ (ew (fun z=>qd z _) hm) ?_;rw[qc];dsimp only;rw[cJ,aL];rfl
end
end Go.G
